/- Layer 14: the law's examples (sanity) hold; Worth at the example; remainders; no condition. -/
import Derived.Test.YtgephdcapajaiaaJ
namespace Go.Proofs.Ytgephdcapajaiaa
open Go.Eng

attribute [local irreducible] PV StepF wpl wpd WP Ret

theorem c45 (a m : Int) (w : World) (h0 : 0 < m) (hm : m ≤ 9223372036854775807) : Ret Try.prog 45 [.int .i64 a, .int .i64 m] w (fun v w' => v = .int .i64 (a % m) ∧ Keeps [] w w') := by
  refine Ret.of_WP Try.func45 rfl Try.ntmps45 rfl ?_
  have hp := Hp.start (M := []) (w := w)
  (repeat (first | (with_reducible first | apply WP_seq | apply WP_region | apply wpl_nil | apply thenQ_n) | (apply wlp; (first | apply pv_move | apply pv_assign); exact fI rfl)))
  (apply wlp; exact pv_rem rfl rfl (by omega); exact rfl)
  (repeat (first | (with_reducible first | apply WP_seq | apply WP_region | apply wpl_nil | apply thenQ_n) | (apply wlp; ((first | apply pv_move | apply pv_assign | apply pv_lss) <;> exact rfl); (first | exact fI rfl | exact fB rfl))))
  have hb1 := Int.tmod_lt_of_pos a h0
  have hb2 := Int.lt_tmod_of_pos a h0
  refine WP_cond_d rfl (fun h => ?_) (fun h => ?_)
  · (repeat (first | (with_reducible first | apply WP_seq | apply WP_region) | (apply wlp; apply pv_move; exact fI rfl)))
    (apply wlp; exact pv_add rfl rfl; exact int_eq (i64_in (by omega) (by omega)))
    (repeat (first | (with_reducible first | apply wpl_nil | apply thenQ_n | apply thenQ_ret | apply WP_ret) | (apply wlp; apply pv_assign; exact fI rfl)))
    refine ret_tmp rfl rfl ⟨_, rfl, int_eq ?_, hp.keeps⟩
    rw [← Int.emod_eq_of_lt (a := a.tmod m + m) (b := m) (by omega) (by omega)]
    rw [Int.add_emod_right]
    rw [Int.tmod_def]
    rw [Int.sub_mul_emod_self_left]
  · (repeat (first | (with_reducible first | apply WP_seq | apply WP_region | apply wpl_nil | apply thenQ_n | apply WP_ret | apply WP_skip) | (apply wlp; (first | apply pv_move | apply pv_assign); exact fI rfl)))
    refine ret_tmp rfl rfl ⟨_, rfl, int_eq ?_, hp.keeps⟩
    rw [← Int.emod_eq_of_lt (a := a.tmod m) (b := m) (by omega) (by omega)]
    rw [Int.tmod_def]
    rw [Int.sub_mul_emod_self_left]

theorem c20 (a m : Int) (w : World) (h0 : 0 < m) (hm : m ≤ 9223372036854775807) : Ret Try.prog 20 [.int .i64 a, .int .i64 m] w (fun v w' => v = .int .i64 (a % m) ∧ Keeps [] w w') := by
  refine Ret.of_WP Try.func20 rfl Try.ntmps20 rfl ?_
  have hp := Hp.start (M := []) (w := w)
  (repeat (first | (with_reducible first | apply WP_seq | apply WP_region | apply wpl_nil | apply thenQ_n) | (apply wlp; (first | apply pv_move | apply pv_assign); exact fI rfl)))
  (apply wls; exact st_call rfl ent45 rfl (c45 _ _ _ h0 hm))
  rintro _ w2 ⟨rfl, hk⟩
  have hp := hp.call hk
  (repeat (first | (with_reducible first | apply wpl_nil | apply thenQ_n | apply WP_ret) | (apply wlp; apply pv_assign; exact fI rfl)))
  exact ret_tmp rfl rfl ⟨_, rfl, rfl, hp.keeps⟩

def lotD : Dr := ⟨⟨#[108, 111, 116, 116, 111]⟩, 1, 1, 2, 49, 6, [(6, 50), (5, 30)], false, [], 0, 0, [], []⟩
def lotA (b : Nat) : DrA := ⟨some ⟨b, 0, none⟩, 2, none, 0, none, 0, none, 0⟩
def lotC : List Value := [.int .i64 6, .int .i64 50, .int .i64 5, .int .i64 30]
theorem chk_lot : chk lotD = (⟨#[]⟩, 0) := by kernel_rfl

theorem c25 (w : World) : Ret Try.prog 25 [] w (fun v w' => ∃ b, v = drV lotD (lotA b) ∧ Keeps [] w w' ∧ w.heap.size ≤ b ∧ ∃ o, w'.heap[b]? = some o ∧ rowB 63 2 2 2 lotC o) := by
  refine Ret.of_WP Try.func25 rfl Try.ntmps25 rfl ?_
  have hp := Hp.start (M := []) (w := w)
  (repeat (first | (with_reducible first | apply WP_seq | apply WP_region | apply wpl_nil | apply thenQ_n) | (apply wlp; ((apply pf_build; exact rfl) <;> exact rfl); exact fA2 rfl) | (apply wls; exact salloc13 hp (zeroTy_ok rfl); rintro _ w ⟨b, rfl, hp⟩)))
  (apply wls; exact sf_slice hp rfl rfl rfl rfl rfl rfl rfl; rintro _ w5 ⟨nb, rfl, hp⟩)
  (repeat (apply wlp; ((apply pf_build; exact rfl) <;> exact rfl); exact fA13 rfl))
  (apply wls0; exact sstore13 hp 1 rfl rfl rfl rfl (sizeTy_ok rfl) rfl; rintro _ w ⟨rfl, hp⟩)
  (repeat (with_reducible first | apply wpl_nil | apply thenQ_n | apply WP_ret))
  obtain ⟨o, ho, hc⟩ := hp.has 0 _ rfl nb rfl
  have hown := hp.own 0 _ rfl nb rfl
  refine ret_cell rfl rfl rfl rfl (hp.agg_blk 1 rfl rfl) ⟨_, rfl, nb, rfl, hp.keeps, ?_, o, ho, cells_row (cs := lotC) rfl hc⟩
  simpa using hown

theorem c26 (b : Nat) (w : World) (hd : DrAt w lotD (lotA b)) : Ret Try.prog 26 [drV lotD (lotA b), .int .i64 600000000] w (fun v w' => v = .tuple #[.int .i64 0, .int .i64 3] ∧ Keeps [] w w') := by
  refine Ret.of_WP Try.func26 rfl Try.ntmps26 rfl ?_
  have hp := Hp.start (M := []) (w := w)
  ((repeat (with_reducible first | apply WP_seq | apply WP_region)); apply wls; exact sbox13 hp rfl; rintro _ w1 ⟨db, rfl, hp⟩)
  (repeat (first | (with_reducible first | apply WP_seq | apply WP_region | apply wpl_nil | apply thenQ_n) | (apply wlp; ((first | apply pv_assign | (apply pf_loadb; exact rfl)) <;> (first | exact rfl | exact hp.agg_blk 0 rfl rfl)); (first | exact fI rfl | exact fA13 rfl))))
  (apply wls; exact st_call rfl ent13 rfl (c13 _ _ _ (hd.keep hp.keeps)))
  rintro _ w3 ⟨rfl, hk⟩
  have hp := hp.call hk
  (repeat (first | (with_reducible first | apply WP_seq | apply WP_region | apply wpl_nil | apply thenQ_n) | ((first | apply wlp | (apply wlg; exact rfl; exact rfl)); (intros; ((first | apply pv_move | apply pv_assign | exact pv_or rfl rfl rfl | apply pv_lss | (apply pv_neq; (first | exact rfl | exact ev_sel rfl (by assumption))) | apply pv_extract) <;> exact rfl)); (intros; (first | exact fI rfl | exact fB rfl | exact fT rfl | exact fU rfl)))))
  refine WP_cond rfl (fun h => ?_) (fun h => ?_)
  · rw [chk_lot] at h
    simp at h
  (repeat (first | (with_reducible first | apply WP_seq | apply WP_region | apply thenQ_n | apply WP_skip) | ((first | apply wlp | (apply wlg; exact rfl; exact rfl)); (intros; ((first | apply pv_move | apply pf_field | (apply pf_load; exact rfl) | apply pv_gtr) <;> (first | exact rfl | exact hp.cell 0 rfl rfl))); (intros; (first | exact fI rfl | exact fB rfl | exact fP rfl)))))
  (apply wlg; exact rfl; exact rfl; (intro hb; exact pv_quo rfl (ev_sel rfl hb) (by decide)); (intro hb; exact fI rfl))
  (repeat (first | (with_reducible first | apply wpl_nil | apply thenQ_n) | ((first | apply wlp | (apply wlg; exact rfl; exact rfl)); (intros; ((first | exact pv_and rfl rfl rfl | apply pv_gtr) <;> exact rfl)); (intros; exact fB rfl))))
  refine WP_cond rfl (fun h => ?_) (fun h => ?_)
  · (repeat (first | (with_reducible first | apply WP_seq | apply WP_region | apply wpl_nil | apply thenQ_n | apply thenQ_ret | apply WP_ret) | (apply wlp; apply pv_assign; exact fI rfl)))
    exact ret_tmp2 rfl (fI rfl) (fI rfl) ⟨_, rfl, rfl, hp.keeps⟩
  · exact absurd h (by decide)
end Go.Proofs.Ytgephdcapajaiaa
