/- math/bits: Len32, LeadingZeros32; conditions: a number below 2^32 other than 0. -/
import Derived.Test.YteklkjnhefnimaaDoorDi
namespace Go.Proofs.YteklkjnhefnimaaDoor
open Go.Eng Go.Dig

def lenT : ByteArray := ⟨#[0, 1, 2, 2, 3, 3, 3, 3, 4, 4, 4, 4, 4, 4, 4, 4, 5, 5, 5, 5, 5, 5, 5, 5, 5, 5, 5, 5, 5, 5, 5, 5, 6, 6, 6, 6, 6, 6, 6, 6, 6, 6, 6, 6, 6, 6, 6, 6, 6, 6, 6, 6, 6, 6, 6, 6, 6, 6, 6, 6, 6, 6, 6, 6, 7, 7, 7, 7, 7, 7, 7, 7, 7, 7, 7, 7, 7, 7, 7, 7, 7, 7, 7, 7, 7, 7, 7, 7, 7, 7, 7, 7, 7, 7, 7, 7, 7, 7, 7, 7, 7, 7, 7, 7, 7, 7, 7, 7, 7, 7, 7, 7, 7, 7, 7, 7, 7, 7, 7, 7, 7, 7, 7, 7, 7, 7, 7, 7, 8, 8, 8, 8, 8, 8, 8, 8, 8, 8, 8, 8, 8, 8, 8, 8, 8, 8, 8, 8, 8, 8, 8, 8, 8, 8, 8, 8, 8, 8, 8, 8, 8, 8, 8, 8, 8, 8, 8, 8, 8, 8, 8, 8, 8, 8, 8, 8, 8, 8, 8, 8, 8, 8, 8, 8, 8, 8, 8, 8, 8, 8, 8, 8, 8, 8, 8, 8, 8, 8, 8, 8, 8, 8, 8, 8, 8, 8, 8, 8, 8, 8, 8, 8, 8, 8, 8, 8, 8, 8, 8, 8, 8, 8, 8, 8, 8, 8, 8, 8, 8, 8, 8, 8, 8, 8, 8, 8, 8, 8, 8, 8, 8, 8, 8, 8, 8, 8, 8, 8, 8, 8, 8, 8, 8, 8, 8, 8]⟩
theorem lenT_ok : ∀ i : Fin 256, i.val ≠ 0 → ∃ t : Fin 9, bAt lenT i.val = (t.val : Int) ∧ 0 < t.val ∧ 2 ^ (t.val - 1) ≤ i.val ∧ i.val < 2 ^ t.val := by decide +kernel
theorem lenT_at {i : Nat} (h : i < 256) (h0 : i ≠ 0) : ∃ t : Nat, bAt lenT i = (t : Int) ∧ 0 < t ∧ t ≤ 8 ∧ 2 ^ (t - 1) ≤ i ∧ i < 2 ^ t := by
  obtain ⟨t, h1, h2, h3, h4⟩ := lenT_ok ⟨i, h⟩ h0
  exact ⟨t.val, h1, h2, by omega, h3, h4⟩
theorem lenT_size : lenT.size = 256 := by decide +kernel

attribute [local irreducible] PV StepF wpl wpd WP Ret

theorem len_shift {x x' n t : Nat} (h : x' = x / 2 ^ n) (h1 : 2 ^ (t - 1) ≤ x') (h2 : x' < 2 ^ t) (ht : 0 < t) : 2 ^ (n + t - 1) ≤ x ∧ x < 2 ^ (n + t) := by
  have hp : 0 < 2 ^ n := Nat.pow_pos (by decide)
  subst h
  constructor
  · have := (Nat.le_div_iff_mul_le hp).1 h1
    rwa [← Nat.pow_add, show t - 1 + n = n + t - 1 from by omega] at this
  · have := (Nat.div_lt_iff_lt_mul hp).1 h2
    rwa [← Nat.pow_add, Nat.add_comm t n] at this
theorem c90 (x : Nat) (w : World) (h0 : 0 < x) (hx : x < 4294967296) :
    Ret Tryd.prog 90 [.int .u32 (x : Int)] w (fun v w' => ∃ t : Nat, v = .int .i64 (t : Int) ∧ 0 < t ∧ t ≤ 32 ∧ 2 ^ (t - 1) ≤ x ∧ x < 2 ^ t ∧ Keeps [] w w') := by
  refine Ret.of_WP Tryd.func90 rfl Tryd.ntmps90 rfl ?_
  have hp := Hp.start (M := []) (w := w)
  (repeat (first | (with_reducible first | apply WP_seq | apply WP_region | apply wpl_nil | apply thenQ_n) | (apply wlp; ((first | apply pv_move | apply pv_assign | apply pv_geq) <;> exact rfl); (first | exact fI rfl | exact fB rfl))))
  refine WP_mid (fun F w1 => ∃ x' n : Nat, x' = x / 2 ^ n ∧ 0 < x' ∧ x' < 65536 ∧ n ≤ 16 ∧ Hp w [] w1 [] ∧ FrHas F [(0, .int .u32 (x' : Int)), (2, .int .i64 (n : Int))]) ?_ ?_
  · refine WP_cond_d rfl (fun h => ?_) (fun h => ?_)
    · (repeat (first | (with_reducible first | apply WP_seq | apply WP_region) | (apply wlp; apply pv_move; exact fI rfl)))
      (apply wlp; exact pn_shr (b := 16) rfl rfl (by decide); exact int_eq (b := ((x / 65536 : Nat) : Int)) rfl)
      (repeat (first | (with_reducible first | apply WP_region | apply wpl_nil | apply thenQ_n) | (apply wlp; apply pv_assign; exact fI rfl)))
      exact ⟨x / 65536, 16, rfl, by omega, by omega, by omega, hp, rfl, rfl, trivial⟩
    · (repeat (with_reducible first | apply thenQ_n | apply WP_skip))
      exact ⟨x, 0, by simp, h0, by omega, by omega, hp, rfl, rfl, trivial⟩
  clear hp
  rintro F w1 ⟨x1, n1, e1, h10, h11, hn1, hp, hF⟩
  refine WP_fresh _ hF ?_
  intro F0
  clear hF
  (repeat (first | (with_reducible first | apply WP_seq | apply WP_region | apply wpl_nil | apply thenQ_n) | (apply wlp; ((first | apply pv_move | apply pv_geq) <;> exact rfl); (first | exact fI rfl | exact fB rfl))))
  refine WP_mid (fun F w1 => ∃ x' n : Nat, x' = x / 2 ^ n ∧ 0 < x' ∧ x' < 256 ∧ n ≤ 24 ∧ Hp w [] w1 [] ∧ FrHas F [(0, .int .u32 (x' : Int)), (2, .int .i64 (n : Int))]) ?_ ?_
  · refine WP_cond_d rfl (fun h => ?_) (fun h => ?_)
    · (repeat (first | (with_reducible first | apply WP_seq | apply WP_region) | (apply wlp; apply pv_move; exact fI rfl)))
      (apply wlp; exact pn_shr (b := 8) rfl rfl (by decide); exact int_eq (b := ((x1 / 256 : Nat) : Int)) rfl)
      (repeat (first | (with_reducible first | apply WP_region | apply wpl_nil | apply thenQ_n) | (apply wlp; (first | apply pv_move | apply pv_assign); exact fI rfl)))
      (apply wlp; (exact pv_add rfl rfl); exact int_eq (b := ((n1 + 8 : Nat) : Int)) (by rw [i64_in (by omega) (by omega)]; omega))
      (repeat (first | (with_reducible first | apply wpl_nil | apply thenQ_n) | (apply wlp; apply pv_assign; exact fI rfl)))
      refine ⟨x1 / 256, n1 + 8, ?_, by omega, by omega, by omega, hp, rfl, rfl, trivial⟩
      rw [e1, Nat.pow_add, ← Nat.div_div_eq_div_mul]
    · (repeat (with_reducible first | apply thenQ_n | apply WP_skip))
      exact ⟨x1, n1, e1, h10, by omega, by omega, hp, rfl, rfl, trivial⟩
  clear hp e1 h10 h11 hn1 x1 n1
  rintro F w1 ⟨x1, n1, e1, h10, h11, hn1, hp, hF⟩
  refine WP_fresh _ hF ?_
  intro F0
  clear hF
  obtain ⟨t, ht, ht0, ht8, hl, hu⟩ := lenT_at h11 (by omega)
  (repeat (with_reducible first | apply WP_seq | apply WP_region))
  (apply wlp; apply pv_move; exact fI rfl)
  (apply wlp; apply pv_move; exact fI rfl)
  (apply wlp; exact pn_8of rfl rfl rfl; exact int_eq (b := (x1 : Int)) (by omega))
  (apply wlp; exact pf_index_s (s := lenT) rfl rfl rfl (by rw [lenT_size]; exact h11); exact int_eq (b := (t : Int)) ht)
  (apply wlp; exact pf_conv rfl rfl rfl; exact int_eq (b := (t : Int)) (i64_in (by omega) (by omega)))
  (apply wlp; (exact pv_add rfl rfl); exact int_eq (b := ((n1 + t : Nat) : Int)) (by rw [i64_in (by omega) (by omega)]; omega))
  (repeat (first | (with_reducible first | apply wpl_nil | apply thenQ_n | apply WP_ret) | (apply wlp; apply pv_assign; exact fI rfl)))
  obtain ⟨q1, q2⟩ := len_shift e1 hl hu ht0
  exact ret_tmp rfl rfl ⟨_, rfl, n1 + t, rfl, by omega, by omega, q1, q2, hp.keeps⟩
theorem c75 (x : Nat) (w : World) (h0 : 0 < x) (hx : x < 4294967296) :
    Ret Tryd.prog 75 [.int .u32 (x : Int)] w (fun v w' => ∃ s : Nat, v = .int .i64 (s : Int) ∧ s ≤ 31 ∧ 2147483648 ≤ x * 2 ^ s ∧ x * 2 ^ s < 4294967296 ∧ Keeps [] w w') := by
  refine Ret.of_WP Tryd.func75 rfl Tryd.ntmps75 rfl ?_
  have hp := Hp.start (M := []) (w := w)
  (repeat (first | (with_reducible first | apply WP_seq | apply WP_region | apply wpl_nil | apply thenQ_n) | (apply wlp; (first | apply pv_move | apply pv_assign); exact fI rfl)))
  (apply wls; exact st_call rfl ent90 rfl (c90 x _ h0 hx))
  rintro _ w1 ⟨t, rfl, ht0, ht, hl, hu, hk⟩
  have hp := hp.call hk
  (apply wlp; (exact pv_sub rfl rfl); exact int_eq (b := ((32 - t : Nat) : Int)) (by rw [i64_in (by omega) (by omega)]; omega))
  (repeat (first | (with_reducible first | apply wpl_nil | apply thenQ_n | apply WP_ret) | (apply wlp; apply pv_assign; exact fI rfl)))
  refine ret_tmp rfl rfl ⟨_, rfl, 32 - t, rfl, by omega, ?_, ?_, hp.keeps⟩
  · have := Nat.mul_le_mul_right (2 ^ (32 - t)) hl
    rwa [← Nat.pow_add, show t - 1 + (32 - t) = 31 from by omega] at this
  · have := (Nat.mul_lt_mul_right (Nat.pow_pos (n := 32 - t) (by decide : 0 < 2))).2 hu
    rwa [← Nat.pow_add, show t + (32 - t) = 32 from by omega] at this
end Go.Proofs.YteklkjnhefnimaaDoor
