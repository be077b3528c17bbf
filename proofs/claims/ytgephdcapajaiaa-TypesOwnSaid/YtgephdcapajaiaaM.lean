/- Layer 14: the law's examples (sanity) hold; no condition. -/
import Derived.Test.YtgephdcapajaiaaL
namespace Go.Proofs.Ytgephdcapajaiaa
open Go.Eng
attribute [local irreducible] PV StepF wpl wpd WP Ret

def sanA : Dr := { lotD with tiers := [(6, 50), (5, 30), (4, 30)] }
def sanB : Dr := { lotD with places := [(⟨#[97]⟩, 1)] }
def sanC : Dr := ⟨⟨#[112, 97, 110, 101, 108]⟩, 3, 1, 0, 0, 0, [], false, [], 0, 5, [(⟨#[119, 111, 109, 101, 110]⟩, 2, 3)], []⟩
def sanD : Dr := { sanC with quotas := [(⟨#[119, 111, 109, 101, 110]⟩, 3, 2)] }
def sanE (l : List Int) : En := ⟨1, 0, 0, l, [], []⟩
theorem san1 : isB lotD ⟨#[]⟩ 0 = true := by kernel_rfl
theorem san2 : isB sanA ⟨#[116, 105, 101, 114]⟩ 15 = true := by kernel_rfl
theorem san3 : isB sanB ⟨#[107, 105, 110, 100]⟩ 14 = true := by kernel_rfl
theorem san4 : isB sanC ⟨#[]⟩ 0 = true := by kernel_rfl
theorem san5 : isB sanD ⟨#[113, 117, 111, 116, 97]⟩ 15 = true := by kernel_rfl
theorem san6 : entC lotD (sanE [1, 2, 3, 4, 5, 6]) = 0 := by kernel_rfl
theorem san7 : entC lotD (sanE [6, 5, 4, 3, 2, 1]) = 15 := by kernel_rfl

theorem lot_At {w0 w : World} {M : List Nat} {L : List Ent} {b : Nat} (hp : Hp w0 M w L) (i : Nat) (hi : L[i]? = some (ownE (.slice (some ⟨b, 0, none⟩) 2 2) 63 2 2 lotC)) : DrAt w lotD (lotA b) where
  tiers := own_SlAt (l := lotD.tiers) (c := 2) hp hi (.inr ⟨b, 2, rfl, by decide, by unfold maxLen; omega⟩) (fun _ => rfl)
  places := by intro i x hx; simp [lotD] at hx
  quotas := by intro i x hx; simp [lotD] at hx
  barred := by intro i x hx; simp [lotD] at hx

theorem lot_add {w0 w w' : World} {L : List Ent} {b : Nat} (hp : Hp w0 [] w L) (hk : Keeps [] w w') (h1 : w.heap.size ≤ b) (h2 : ∃ o, w'.heap[b]? = some o ∧ rowB 63 2 2 2 lotC o) :
    Hp w0 [] w' (ownE (.slice (some ⟨b, 0, none⟩) 2 2) 63 2 2 lotC :: L) :=
  hp.add hk (by
    intro q hq
    have : q = b := by simpa [ownE, Value.ownBlock, eq_comm] using hq
    subst this
    exact ⟨h1, h2⟩)

theorem c10 (w : World) : Ret Try.prog 10 [] w (fun v w' => v = .bool true ∧ Keeps [] w w') := by
  refine Ret.of_WP Try.func10 rfl Try.ntmps10 rfl ?_
  have hp := Hp.start (M := []) (w := w)
  (repeat (first | (with_reducible first | apply WP_seq | apply WP_region | apply wpl_nil | apply thenQ_n) | (apply wlp; apply pv_assign; exact fB rfl)))
  (apply wls; exact st_call rfl ent25 rfl (c25 _))
  rintro _ w1 ⟨b1, rfl, hk, h1, h2⟩
  have hp := lot_add hp hk h1 h2
  ((repeat fail); apply wls; exact salloc13 hp (zeroTy_ok rfl); rintro _ w2 ⟨ab, rfl, hp⟩)
  (apply wls0; exact sstore13 hp 0 rfl rfl rfl rfl (sizeTy_ok rfl) rfl; rintro _ w3 ⟨rfl, hp⟩)
  (repeat (first | (with_reducible first | apply WP_seq | apply WP_region | apply wpl_nil | apply thenQ_n) | (apply wlp; ((first | apply pf_field | (apply pf_load; exact rfl) | (apply pf_build; exact rfl)) <;> (first | exact rfl | exact hp.cell 0 rfl rfl)); (first | exact fP rfl | exact fS rfl | exact fA2 rfl))))
  (apply wls; exact sf_slice hp rfl rfl rfl rfl rfl rfl rfl; rintro _ w4 ⟨nb, rfl, hp⟩)
  (apply wls; exact sf_append (news := [.int .i64 4, .int .i64 30]) (xs := lotC) (m := 2) hp 2 rfl rfl rfl rfl rfl rfl rfl rfl (.inr ⟨b1, 2, rfl, by decide, by unfold maxLen; omega⟩) rfl rfl (blk_src hp 0 rfl) (by simp [oneV]) (by unfold maxLen; omega) (by omega); rintro v4 w5 ⟨hv4, hp⟩)
  have hp := Hp.tail hp
  obtain ⟨sA, cA, rfl⟩ := hv4.ex
  (repeat (apply wlp; (apply pf_field <;> exact rfl); exact fP rfl))
  (apply wls0; exact sstore1 hp 0 rfl rfl rfl rfl (sizeTy_ok rfl) rfl; rintro _ w6 ⟨rfl, hp⟩)
  (repeat (with_reducible first | apply WP_seq | apply WP_region | apply wpl_nil | apply thenQ_n))
  (apply wls; exact st_call rfl ent25 rfl (c25 _))
  rintro _ w1 ⟨b2, rfl, hk, h1, h2⟩
  have hp := lot_add hp hk h1 h2
  ((repeat fail); apply wls; exact salloc13 hp (zeroTy_ok rfl); rintro _ w2 ⟨bb, rfl, hp⟩)
  (apply wls0; exact sstore13 hp 0 rfl rfl rfl rfl (sizeTy_ok rfl) rfl; rintro _ w3 ⟨rfl, hp⟩)
  (repeat (first | (with_reducible first | apply WP_seq | apply WP_region | apply wpl_nil | apply thenQ_n) | (apply wlp; ((apply pf_build; exact rfl) <;> exact rfl); exact fA2 rfl)))
  (apply wls; exact sf_slice hp rfl rfl rfl rfl rfl rfl rfl; rintro _ w4 ⟨pb, rfl, hp⟩)
  (repeat (apply wlp; (apply pf_field <;> exact rfl); exact fP rfl))
  (apply wls0; exact sstore1 hp 1 rfl rfl rfl rfl (sizeTy_ok rfl) rfl; rintro _ w6 ⟨rfl, hp⟩)
  (repeat (first | (with_reducible first | apply WP_seq | apply WP_region | apply wpl_nil | apply thenQ_n) | (apply wlp; ((apply pf_build; exact rfl) <;> exact rfl); exact fA3 rfl)))
  (apply wls; exact sf_slice hp rfl rfl rfl rfl rfl rfl rfl; rintro _ w4 ⟨qb, rfl, hp⟩)
  (repeat (apply wlp; ((apply pf_build; exact rfl) <;> exact rfl); exact fA13 rfl))
  ((repeat fail); apply wls; exact salloc13 hp (zeroTy_ok rfl); rintro _ w2 ⟨cb, rfl, hp⟩)
  (apply wls0; exact sstore13 hp 0 rfl rfl rfl rfl (sizeTy_ok rfl) rfl; rintro _ w3 ⟨rfl, hp⟩)
  (repeat (first | (with_reducible first | apply WP_seq | apply WP_region | apply wpl_nil | apply thenQ_n) | (apply wlp; ((apply pf_loadb; exact rfl) <;> (first | exact rfl | exact hp.agg_blk 0 rfl rfl)); exact fA13 rfl)))
  ((repeat fail); apply wls; exact salloc13 hp (zeroTy_ok rfl); rintro _ w2 ⟨db, rfl, hp⟩)
  (apply wls0; exact sstore13 hp 0 rfl rfl rfl rfl (sizeTy_ok rfl) rfl; rintro _ w3 ⟨rfl, hp⟩)
  (repeat (first | (with_reducible first | apply WP_seq | apply WP_region | apply wpl_nil | apply thenQ_n) | (apply wlp; ((apply pf_build; exact rfl) <;> exact rfl); exact fA3 rfl)))
  (apply wls; exact sf_slice hp rfl rfl rfl rfl rfl rfl rfl; rintro _ w4 ⟨rb, rfl, hp⟩)
  (repeat (apply wlp; (apply pf_field <;> exact rfl); exact fP rfl))
  (apply wls0; exact sstore1 hp 1 rfl rfl rfl rfl (sizeTy_ok rfl) rfl; rintro _ w9 ⟨rfl, hp⟩)
  -- rb, d, c, qb, pb, b, T2, a, T1
  have hA : DrAt w9 sanA ⟨sA, cA, none, 0, none, 0, none, 0⟩ := ⟨own_SlAt (i := 8) (l := sanA.tiers) hp rfl hv4 (fun _ => rfl), SlAt_nil, SlAt_nil, SlAt_nil⟩
  have hB : DrAt w9 sanB ⟨some ⟨b2, 0, none⟩, 2, some ⟨pb, 0, none⟩, 1, none, 0, none, 0⟩ := ⟨(lot_At hp 6 rfl).tiers, blk_SlAt sanB.places hp 4 rfl (fun _ => rfl), SlAt_nil, SlAt_nil⟩
  have hC : DrAt w9 sanC ⟨none, 0, none, 0, some ⟨qb, 0, none⟩, 1, none, 0⟩ := ⟨SlAt_nil, SlAt_nil, blk_SlAt sanC.quotas hp 3 rfl (fun _ => rfl), SlAt_nil⟩
  have hD : DrAt w9 sanD ⟨none, 0, none, 0, some ⟨rb, 0, none⟩, 1, none, 0⟩ := ⟨SlAt_nil, SlAt_nil, blk_SlAt sanD.quotas hp 0 rfl (fun _ => rfl), SlAt_nil⟩
  have cA' := hp.agg_blk (k := 13) (o := 0) 7 rfl rfl
  have cB' := hp.agg_blk (k := 13) (o := 0) 5 rfl rfl
  have cC' := hp.agg_blk (k := 13) (o := 0) 2 rfl rfl
  have cD' := hp.agg_blk (k := 13) (o := 0) 1 rfl rfl
  have hk9 := hp.keeps
  clear hp hk
  have hp := Hp.start (M := []) (w := w9)
  (repeat (with_reducible first | apply WP_seq | apply WP_region | apply wpl_nil | apply thenQ_n))
  (apply wls; exact st_call rfl ent25 rfl (c25 _))
  rintro _ w10 ⟨b3, rfl, hk, h1, h2⟩
  have hp := lot_add hp hk h1 h2
  have hl3 := lot_At hp 0 rfl
  skip
  (apply wls; exact st_call rfl ent15 rfl (c15 _ _ _ _ _ hl3))
  rintro _ w11 ⟨rfl, hk⟩
  have hp := hp.call hk
  (apply wlp; exact pv_move; exact bool_eq san1)
  (apply wlg; exact rfl; exact rfl; (intro hb; apply pf_loadb; exact rfl; exact rfl; exact rfl; exact fun j v hv => hp.old0 (cA' j v hv)); (intro hb; exact fA13 rfl))
  skip
  (apply wlgsH hp; exact rfl; exact rfl; (intro hb; apply st_callG3 hp rfl ent15 (hc := c15 sanA _ _ _ _ (hA.keep hp.keeps)) <;> (first | exact rfl | exact ev_sel rfl (by assumption))); intro w hp)
  (apply wlp; exact pv_and rfl rfl rfl; exact bool_eq ((Bool.true_and _).trans san2))
  (repeat ((first | apply wlp | (apply wlg; exact rfl; exact rfl)); (intros; ((first | apply pv_move | (apply pf_loadb; exact rfl)) <;> exact rfl)); (intros; exact fB rfl)))
  (apply wlg; exact rfl; exact rfl; (intro hb; apply pf_loadb; exact rfl; exact rfl; exact rfl; exact fun j v hv => hp.old0 (cB' j v hv)); (intro hb; exact fA13 rfl))
  skip
  (apply wlgsH hp; exact rfl; exact rfl; (intro hb; apply st_callG3 hp rfl ent15 (hc := c15 sanB _ _ _ _ (hB.keep hp.keeps)) <;> (first | exact rfl | exact ev_sel rfl (by assumption))); intro w hp)
  (apply wlp; exact pv_and rfl rfl rfl; exact bool_eq ((Bool.true_and _).trans san3))
  (repeat ((first | apply wlp | (apply wlg; exact rfl; exact rfl)); (intros; ((first | apply pv_move | (apply pf_loadb; exact rfl)) <;> exact rfl)); (intros; exact fB rfl)))
  (apply wlg; exact rfl; exact rfl; (intro hb; apply pf_loadb; exact rfl; exact rfl; exact rfl; exact fun j v hv => hp.old0 (cC' j v hv)); (intro hb; exact fA13 rfl))
  skip
  (apply wlgsH hp; exact rfl; exact rfl; (intro hb; apply st_callG3 hp rfl ent15 (hc := c15 sanC _ _ _ _ (hC.keep hp.keeps)) <;> (first | exact rfl | exact ev_sel rfl (by assumption))); intro w hp)
  (apply wlp; exact pv_and rfl rfl rfl; exact bool_eq ((Bool.true_and _).trans san4))
  (repeat ((first | apply wlp | (apply wlg; exact rfl; exact rfl)); (intros; ((first | apply pv_move | (apply pf_loadb; exact rfl)) <;> exact rfl)); (intros; exact fB rfl)))
  (apply wlg; exact rfl; exact rfl; (intro hb; apply pf_loadb; exact rfl; exact rfl; exact rfl; exact fun j v hv => hp.old0 (cD' j v hv)); (intro hb; exact fA13 rfl))
  skip
  (apply wlgsH hp; exact rfl; exact rfl; (intro hb; apply st_callG3 hp rfl ent15 (hc := c15 sanD _ _ _ _ (hD.keep hp.keeps)) <;> (first | exact rfl | exact ev_sel rfl (by assumption))); intro w hp)
  (apply wlp; exact pv_and rfl rfl rfl; exact bool_eq ((Bool.true_and _).trans san5))
  (repeat (first | (with_reducible first | apply WP_seq | apply WP_region | apply wpl_nil | apply thenQ_n) | (apply wlp; apply pv_assign; exact fB rfl)))
  (apply wls; exact st_call rfl ent25 rfl (c25 _))
  rintro _ w10 ⟨b3, rfl, hk, h1, h2⟩
  have hp := lot_add hp hk h1 h2
  have hl3 := lot_At hp 0 rfl
  (apply wls; exact st_call rfl ent26 rfl (c26 _ _ hl3))
  rintro _ w11 ⟨rfl, hk⟩
  have hp := hp.call hk
  (repeat (first | (with_reducible first | apply WP_seq | apply WP_region | apply wpl_nil | apply thenQ_n) | ((first | apply wlp | (apply wlg; exact rfl; exact rfl)); (intros; ((first | apply pv_move | apply pv_assign | apply pv_extract) <;> exact rfl)); (intros; (first | exact fI rfl | exact fB rfl | exact fU rfl)))))
  (apply wlsT; exact rfl; exact rfl; exact st_call rfl ent25 rfl (c25 _))
  rintro _ w10 ⟨b3, rfl, hk, h1, h2⟩
  have hp := lot_add hp hk h1 h2
  (apply wlsT; exact rfl; exact rfl; exact sf_slice hp rfl rfl rfl rfl rfl rfl rfl; rintro _ w4 ⟨rb, rfl, hp⟩)
  have hl3 := lot_At hp 1 rfl
  have he : EnAt w4 (sanE [1, 2, 3, 4, 5, 6]) ⟨some ⟨rb, 0, none⟩, 6, none, 0, none, 0⟩ := ⟨blk_SlAt [1, 2, 3, 4, 5, 6] hp 0 rfl (fun _ => rfl), SlAt_nil, SlAt_nil⟩
  (apply wlpT; exact rfl; exact rfl; (apply pf_build; exact rfl; exact rfl; exact rfl; exact rfl); exact fA6 rfl)
  (apply wlsT; exact rfl; exact rfl; exact st_call rfl ent18 rfl (c18 lotD _ (sanE [1, 2, 3, 4, 5, 6]) _ _ hl3 he))
  rintro _ w11 ⟨rfl, hk⟩
  have hp := hp.call hk
  (apply wlpT; exact rfl; exact rfl; exact pv_eql rfl rfl; exact bool_eq (decide_eq_true san6))
  (repeat ((first | apply wlp | (apply wlg; exact rfl; exact rfl)); (intros; (first | apply pv_move | exact pv_and rfl rfl rfl)); (intros; exact fB rfl)))
  (apply wlsT; exact rfl; exact rfl; exact st_call rfl ent25 rfl (c25 _))
  rintro _ w10 ⟨b3, rfl, hk, h1, h2⟩
  have hp := lot_add hp hk h1 h2
  (apply wlsT; exact rfl; exact rfl; exact sf_slice hp rfl rfl rfl rfl rfl rfl rfl; rintro _ w4 ⟨rb, rfl, hp⟩)
  have hl3 := lot_At hp 1 rfl
  have he : EnAt w4 (sanE [6, 5, 4, 3, 2, 1]) ⟨some ⟨rb, 0, none⟩, 6, none, 0, none, 0⟩ := ⟨blk_SlAt [6, 5, 4, 3, 2, 1] hp 0 rfl (fun _ => rfl), SlAt_nil, SlAt_nil⟩
  (apply wlpT; exact rfl; exact rfl; (apply pf_build; exact rfl; exact rfl; exact rfl; exact rfl); exact fA6 rfl)
  (apply wlsT; exact rfl; exact rfl; exact st_call rfl ent18 rfl (c18 lotD _ (sanE [6, 5, 4, 3, 2, 1]) _ _ hl3 he))
  rintro _ w11 ⟨rfl, hk⟩
  have hp := hp.call hk
  (apply wlpT; exact rfl; exact rfl; exact pv_eql rfl rfl; exact bool_eq (decide_eq_true san7))
  (repeat (first | (with_reducible first | apply wpl_nil | apply thenQ_n | apply WP_ret) | ((first | apply wlp | (apply wlg; exact rfl; exact rfl)); (intros; ((first | apply pv_move | apply pv_assign | exact pv_and rfl rfl rfl | (apply pv_eql; (first | exact rfl | exact ev_sel rfl (by assumption)))) <;> exact rfl)); (intros; (first | exact fI rfl | exact fB rfl)))))
  exact ret_tmp rfl rfl ⟨_, rfl, rfl, hk9.trans hp.keeps (by simp)⟩
end Go.Proofs.Ytgephdcapajaiaa
