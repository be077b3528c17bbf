/- Layer 14: the law TypesLess returns true; conditions: the numbers lie in memory. -/
import Derived.Test.YtgephdcapajaiaaS
namespace Go.Proofs.Ytgephdcapajaiaa
open Go.Eng

theorem chk2 {d : Dr} (h : chk d = (⟨#[]⟩, 0)) : ∀ j, j < 12 → clBad d j = false := chk_zero (by rw [h])
theorem within_of {n lo hi : Int} (h : within n lo hi = 0) : lo ≤ n ∧ n ≤ hi := by
  unfold within at h
  split at h
  · cases h
  · omega
theorem chk_round {d : Dr} (h : chk d = (⟨#[]⟩, 0)) : 1 ≤ d.round ∧ d.round ≤ 1000000000 := within_of (clR_zero (i := 2) (.inl rfl) (chk2 h 2 (by decide)))
theorem chk_price {d : Dr} (h : chk d = (⟨#[]⟩, 0)) : 0 ≤ d.price ∧ d.price ≤ 1000000 := within_of (clR_zero (i := 3) (.inl rfl) (chk2 h 3 (by decide)))
theorem chk_nodup {d : Dr} (h : chk d = (⟨#[]⟩, 0)) : d.barred.length ≤ 40 ∧ d.barred.Nodup := by
  have : ckBar d = 0 := clR_zero (i := 4) (.inl rfl) (chk2 h 4 (by decide))
  unfold ckBar at this
  split at this
  · cases this
  · split at this
    · rename_i h1 h2
      unfold nodupB at h2
      exact ⟨by omega, of_decide_eq_true h2⟩
    · cases this
theorem chk_less {d : Dr} (h : chk d = (⟨#[]⟩, 0)) {r p : Int} {m : Nat} (hr : 1 ≤ r ∧ r ≤ 1000000000) (hp : 0 ≤ p ∧ p ≤ 1000000) : chk { d with round := r, price := p, barred := d.barred.take m } = (⟨#[]⟩, 0) := by
  have h2 := chk2 h
  obtain ⟨hb1, hb2⟩ := chk_nodup h
  refine chk_ok ?_
  intro j hj
  match j, hj with
  | 0, _ => exact h2 0 (by decide)
  | 1, _ => exact h2 1 (by decide)
  | 2, _ => exact clBad_of (.inr (within_ok hr.1 hr.2))
  | 3, _ => exact clBad_of (.inr (within_ok hp.1 hp.2))
  | 4, _ =>
    refine clBad_of (.inr ?_)
    show (if 40 < ((d.barred.take m).length : Int) then (2 : Int) else if nodupB (d.barred.take m) = true then 0 else 33) = 0
    rw [if_neg (by rw [List.length_take]; omega), if_pos]
    unfold nodupB
    exact decide_eq_true (hb2.sublist (List.take_sublist _ _))
  | 5, _ => exact h2 5 (by decide)
  | 6, _ => exact h2 6 (by decide)
  | 7, _ => exact h2 7 (by decide)
  | 8, _ => exact h2 8 (by decide)
  | 9, _ => exact h2 9 (by decide)
  | 10, _ => exact h2 10 (by decide)
  | 11, _ => exact h2 11 (by decide)
theorem chk_round0 {d : Dr} (h : chk d = (⟨#[]⟩, 0)) : chk { d with round := 0 } = (⟨#[114, 111, 117, 110, 100]⟩, 15) := by
  have h2 := chk2 h
  refine chk_at (i := 2) (by decide) ?_ rfl
  intro j hj
  match j, hj with
  | 0, _ => exact h2 0 (by decide)
  | 1, _ => exact h2 1 (by decide)
theorem chk_price0 {d : Dr} (h : chk d = (⟨#[]⟩, 0)) : chk { d with price := -1 } = (⟨#[112, 114, 105, 99, 101]⟩, 15) := by
  have h2 := chk2 h
  refine chk_at (i := 3) (by decide) ?_ rfl
  intro j hj
  match j, hj with
  | 0, _ => exact h2 0 (by decide)
  | 1, _ => exact h2 1 (by decide)
  | 2, _ => exact h2 2 (by decide)
theorem isB_of {d : Dr} {s : ByteArray} {e : Int} (h : chk d = (s, e)) : isB d s e = true := by
  unfold isB
  rw [h]
  simp
attribute [local irreducible] PV StepF wpl wpd WP Ret
attribute [local irreducible] chk

theorem c6 (l : List Int) (s : Option Addr) (c : Nat) (q0 q1 q2 : Int) (w0 : World) (hs : SlAt w0 1 eI s l) (hl : l.length ≤ maxLen) (h0 : 0 ≤ q0 ∧ q0 < 256) (h1 : 0 ≤ q1 ∧ q1 < 256) (h2 : 0 ≤ q2 ∧ q2 < 256) :
    Ret Try.prog 6 [.slice s l.length c, .agg #[.int .u8 q0, .int .u8 q1, .int .u8 q2]] w0 (fun v w' => v = .bool true ∧ Keeps [] w0 w') := by
  refine Ret.of_WP Try.func6 rfl Try.ntmps6 rfl ?_
  have hp := Hp.start (M := []) (w := w0)
  ((repeat (with_reducible first | apply WP_seq | apply WP_region)); apply wls; exact sbox3 hp rfl; rintro _ w ⟨qb, rfl, hp⟩)
  (repeat (first | (with_reducible first | apply WP_seq | apply WP_region | apply wpl_nil | apply thenQ_n) | (apply wlp; apply pv_assign; exact fB rfl)))
  (apply wls; exact st_call rfl ent10 rfl (c10 _))
  rintro _ w ⟨rfl, hk⟩
  have hp := hp.call hk
  (repeat (first | (with_reducible first | apply WP_seq | apply WP_region | apply wpl_nil | apply thenQ_n) | (apply wlp; (first | apply pv_move | apply pv_assign); (first | exact fB rfl | exact fS rfl))))
  (apply wls; exact st_call rfl ent11 rfl (c11 l s c _ (hs.keep0 hp.keeps) hl))
  rintro _ w1 ⟨d, a, rfl, hk, hG⟩
  have hp := hp.call hk
  obtain ⟨r1, r2⟩ := chk_round hG.ok
  obtain ⟨p1, p2⟩ := chk_price hG.ok
  have b1 := hG.bl
  have cb := hG.cap.barred
  have cq0 : w1.cell? ⟨qb, 0 + 0 * 1, none⟩ = some (.int .u8 q0) := hp.cell 0 rfl rfl
  have cq1 : w1.cell? ⟨qb, 0 + 1 * 1, none⟩ = some (.int .u8 q1) := hp.cell 0 rfl rfl
  have cq2 : w1.cell? ⟨qb, 0 + 2 * 1, none⟩ = some (.int .u8 q2) := hp.cell 0 rfl rfl
  have hk1 := hp.keeps
  clear hp hk
  have hp := Hp.start (M := []) (w := w1)
  have hd : DrAt w1 d a := hG.at_
  (apply wls; exact salloc13 hp (zeroTy_ok rfl); rintro _ w ⟨db, rfl, hp⟩)
  (apply wls0; exact sstore13 hp 0 rfl rfl rfl rfl (sizeTy_ok rfl) rfl; rintro _ w ⟨rfl, hp⟩)
  have hp := hp.norm 0 (drC d a) rfl rfl
  (repeat (first | (with_reducible first | apply WP_seq | apply WP_region | apply wpl_nil | apply thenQ_n) | (apply wlp; ((apply pf_loadb; exact rfl) <;> (first | exact rfl | exact hp.agg_blk 0 rfl rfl)); exact fA13 rfl)))
  (apply wls; exact salloc13 hp (zeroTy_ok rfl); rintro _ w ⟨eb, rfl, hp⟩)
  (apply wls0; exact sstore13 hp 0 rfl rfl rfl rfl (sizeTy_ok rfl) rfl; rintro _ w ⟨rfl, hp⟩)
  have hp := hp.norm 0 (drC d a) rfl rfl
  (repeat (with_reducible first | apply WP_seq | apply WP_region | apply wpl_nil | apply thenQ_n))
  (apply wlp; exact pf_index_a (i := 0) rfl rfl rfl (by decide); exact fP rfl)
  (apply wlp; exact pf_load rfl rfl (hp.old0 cq0); exact fI rfl)
  (apply wlp; exact pf_conv rfl rfl rfl; exact int_eq (i64_in (by omega) (by omega)))
  (repeat (apply wlp; ((first | apply pf_field | (apply pf_load; exact rfl)) <;> (first | exact rfl | exact hp.cell 1 rfl rfl)); (first | exact fI rfl | exact fP rfl)))
  have t1 := Int.tmod_nonneg d.round h0.1
  have t2 := Int.tmod_lt_of_pos q0 (b := d.round) (by omega)
  (apply wlp; exact pv_rem rfl rfl (by omega); exact fI rfl)
  (apply wlp; exact pv_add rfl rfl; exact int_eq (i64_in (by omega) (by omega)))
  (repeat (apply wlp; (apply pf_field <;> exact rfl); exact fP rfl))
  (apply wls0; exact sstore1 hp 0 rfl rfl rfl rfl (sizeTy_ok rfl) rfl; rintro _ w ⟨rfl, hp⟩)
  have hp := hp.norm 0 (drC { d with round := 1 + q0.tmod d.round } a) rfl rfl
  (repeat (with_reducible first | apply WP_seq | apply WP_region | apply wpl_nil | apply thenQ_n))
  (apply wlp; exact pf_index_a (i := 1) rfl rfl rfl (by decide); exact fP rfl)
  (apply wlp; exact pf_load rfl rfl (hp.old0 cq1); exact fI rfl)
  (apply wlp; exact pf_conv rfl rfl rfl; exact int_eq (i64_in (by omega) (by omega)))
  (repeat (apply wlp; ((first | apply pf_field | (apply pf_load; exact rfl)) <;> (first | exact rfl | exact hp.cell 1 rfl rfl)); (first | exact fI rfl | exact fP rfl)))
  (apply wlp; exact pv_add rfl rfl; exact int_eq (i64_in (by omega) (by omega)))
  have t3 := Int.tmod_nonneg (d.price + 1) h1.1
  have t4 := Int.tmod_lt_of_pos q1 (b := d.price + 1) (by omega)
  (apply wlp; exact pv_rem rfl rfl (by omega); exact fI rfl)
  (repeat (apply wlp; (apply pf_field <;> exact rfl); exact fP rfl))
  (apply wls0; exact sstore1 hp 0 rfl rfl rfl rfl (sizeTy_ok rfl) rfl; rintro _ w ⟨rfl, hp⟩)
  have hp := hp.norm 0 (drC { d with round := 1 + q0.tmod d.round, price := q1.tmod (d.price + 1) } a) rfl rfl
  (repeat (with_reducible first | apply WP_seq | apply wpl_nil | apply thenQ_n))
  refine WP_drawS mixed (by kernel_rfl) (fun w' => Hp _ _ w' _) hp.drew ?_
  have hp := hp.drew
  (repeat ((apply wdp; exact rfl); (intro w hp; intros; ((first | apply pf_field | (apply pf_load; exact rfl) | (apply pf_index_a; exact rfl)) <;> (first | exact rfl | exact hp.cell 1 rfl rfl))); (intros; (first | exact fP rfl | exact fS rfl))))
  (apply wdp; exact rfl; (intro w hp; exact pf_index_a (i := 2) rfl rfl rfl (by decide)); exact fP rfl)
  (apply wdp; exact rfl; (intro w hp; exact pf_load rfl rfl (hp.old0 cq2)); exact fI rfl)
  (apply wdp; exact rfl; (intro w hp; exact pf_conv rfl rfl rfl); exact int_eq (i64_in (by omega) (by omega)))
  (repeat ((apply wdp; exact rfl); (intro w hp; intros; ((first | apply pf_field | (apply pf_load; exact rfl) | (apply pf_len; exact rfl)) <;> (first | exact rfl | exact hp.cell 1 rfl rfl))); (intros; (first | exact fI rfl | exact fP rfl | exact fS rfl))))
  (apply wdp; exact rfl; (intro w hp; exact pv_add rfl rfl); exact int_eq (i64_in (by omega) (by omega)))
  have t5 := Int.tmod_nonneg ((d.barred.length : Int) + 1) h2.1
  have t6 := Int.tmod_lt_of_pos q2 (b := (d.barred.length : Int) + 1) (by omega)
  obtain ⟨m, hm⟩ : ∃ m : Nat, q2.tmod ((d.barred.length : Int) + 1) = ((d.barred.take m).length : Nat) := ⟨(q2.tmod ((d.barred.length : Int) + 1)).toNat, by rw [List.length_take]; omega⟩
  have hml : (d.barred.take m).length ≤ a.cB := by rw [List.length_take]; omega
  (apply wdp; exact rfl; (intro w hp; exact pv_rem rfl rfl (by omega)); exact int_eq hm)
  (apply wdp; exact rfl; (intro w hp; exact pv_sliceTo (h := (d.barred.take m).length) rfl rfl rfl hml); exact fS rfl)
  (repeat ((apply wdp; exact rfl); (intro w hp; intros; (apply pf_field <;> exact rfl)); (intros; exact fP rfl)))
  (apply wds0S; exact rfl; exact rfl; exact sstore1 hp 0 rfl rfl rfl rfl (sizeTy_ok rfl) rfl; rintro _ w ⟨rfl, hp⟩)
  have hp := hp.norm 0 (drC { d with round := 1 + q0.tmod d.round, price := q1.tmod (d.price + 1), barred := d.barred.take m } a) rfl rfl
  refine wpd_nil ?_
  (repeat (first | (with_reducible first | apply WP_seq | apply WP_region | apply thenQ_n) | (apply wlp; ((apply pf_loadb; exact rfl) <;> (first | exact rfl | exact hp.agg_blk 1 rfl rfl)); exact fA13 rfl)))
  (apply wls; exact salloc13 hp (zeroTy_ok rfl); rintro _ w ⟨fb, rfl, hp⟩)
  (apply wls0; exact sstore13 hp 0 rfl rfl rfl rfl (sizeTy_ok rfl) rfl; rintro _ w ⟨rfl, hp⟩)
  (repeat (first | (with_reducible first | apply WP_seq | apply WP_region | apply wpl_nil | apply thenQ_n) | (apply wlp; (apply pf_field <;> exact rfl); exact fP rfl)))
  (apply wls0; exact sstore1 hp 0 rfl rfl rfl rfl (sizeTy_ok rfl) rfl; rintro _ w ⟨rfl, hp⟩)
  have hp := hp.norm 0 (drC { d with round := 0 } a) rfl rfl
  (repeat (first | (with_reducible first | apply WP_seq | apply WP_region | apply wpl_nil | apply thenQ_n) | (apply wlp; ((apply pf_loadb; exact rfl) <;> (first | exact rfl | exact hp.agg_blk 2 rfl rfl)); exact fA13 rfl)))
  (apply wls; exact salloc13 hp (zeroTy_ok rfl); rintro _ w ⟨gb, rfl, hp⟩)
  (apply wls0; exact sstore13 hp 0 rfl rfl rfl rfl (sizeTy_ok rfl) rfl; rintro _ w ⟨rfl, hp⟩)
  (repeat (first | (with_reducible first | apply WP_seq | apply WP_region | apply wpl_nil | apply thenQ_n) | (apply wlp; (apply pf_field <;> exact rfl); exact fP rfl)))
  (apply wls0; exact sstore1 hp 0 rfl rfl rfl rfl (sizeTy_ok rfl) rfl; rintro _ w ⟨rfl, hp⟩)
  have hp := hp.norm 0 (drC { d with price := -1 } a) rfl rfl
  -- g, f, e, d
  have he1 := chk_less (m := m) hG.ok (r := 1 + q0.tmod d.round) (p := q1.tmod (d.price + 1)) (by omega) (by omega)
  have hde : DrAt w1 { d with round := 1 + q0.tmod d.round, price := q1.tmod (d.price + 1), barred := d.barred.take m } a := ⟨hd.tiers, hd.places, hd.quotas, SlAt_take hd.barred m⟩
  have hdf : DrAt w1 { d with round := 0 } a := ⟨hd.tiers, hd.places, hd.quotas, hd.barred⟩
  have hdg : DrAt w1 { d with price := -1 } a := ⟨hd.tiers, hd.places, hd.quotas, hd.barred⟩
  ((repeat (with_reducible first | apply WP_seq | apply WP_region | apply wpl_nil | apply thenQ_n)); (apply wlp; apply pv_move; exact fB rfl); (apply wlp; apply pv_move; exact fB rfl))
  (apply wlpT; exact rfl; exact rfl; (apply pf_loadb; exact rfl; exact rfl; exact rfl; exact hp.agg_blk 3 rfl rfl); exact fA13 rfl)
  (apply wlsT; exact rfl; exact rfl; exact st_call rfl ent15 rfl (c15 d a _ _ _ (hd.keep hp.keeps)); rintro _ w ⟨rfl, hk⟩; have hp := hp.call hk)
  (apply wlp; exact pv_and' rfl rfl; exact bool_eq ((Bool.true_and _).trans (isB_of hG.ok)))
  (apply wlp; apply pv_move; exact fB rfl)
  (apply wlpT; exact rfl; exact rfl; (apply pf_loadb; exact rfl; exact rfl; exact rfl; exact hp.agg_blk 2 rfl rfl); exact fA13 rfl)
  (apply wlsT; exact rfl; exact rfl; exact st_call rfl ent15 rfl (c15 { d with round := 1 + q0.tmod d.round, price := q1.tmod (d.price + 1), barred := d.barred.take m } a _ _ _ (hde.keep hp.keeps)); rintro _ w ⟨rfl, hk⟩; have hp := hp.call hk)
  (apply wlp; exact pv_and' rfl rfl; exact bool_eq ((Bool.true_and _).trans (isB_of he1)))
  (apply wlp; apply pv_move; exact fB rfl)
  (apply wlpT; exact rfl; exact rfl; (apply pf_loadb; exact rfl; exact rfl; exact rfl; exact hp.agg_blk 1 rfl rfl); exact fA13 rfl)
  (apply wlsT; exact rfl; exact rfl; exact st_call rfl ent15 rfl (c15 { d with round := 0 } a _ _ _ (hdf.keep hp.keeps)); rintro _ w ⟨rfl, hk⟩; have hp := hp.call hk)
  (apply wlp; exact pv_and' rfl rfl; exact bool_eq ((Bool.true_and _).trans (isB_of (chk_round0 hG.ok))))
  (apply wlp; apply pv_move; exact fB rfl)
  (apply wlpT; exact rfl; exact rfl; (apply pf_loadb; exact rfl; exact rfl; exact rfl; exact hp.agg_blk 0 rfl rfl); exact fA13 rfl)
  (apply wlsT; exact rfl; exact rfl; exact st_call rfl ent15 rfl (c15 { d with price := -1 } a _ _ _ (hdg.keep hp.keeps)); rintro _ w ⟨rfl, hk⟩; have hp := hp.call hk)
  (apply wlp; exact pv_and' rfl rfl; exact bool_eq ((Bool.true_and _).trans (isB_of (chk_price0 hG.ok))))
  (repeat (first | (with_reducible first | apply wpl_nil | apply thenQ_n | apply WP_ret) | (apply wlp; apply pv_assign; exact fB rfl)))
  exact ret_tmp rfl rfl ⟨_, rfl, rfl, hk1.trans hp.keeps (by simp)⟩
end Go.Proofs.Ytgephdcapajaiaa
