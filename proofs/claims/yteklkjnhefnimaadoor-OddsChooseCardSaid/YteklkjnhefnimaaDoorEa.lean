/- odds: fold, Factorial, Choose; conditions: at most 100 elements, or more than 1000. -/
import Derived.Test.YteklkjnhefnimaaDoorDr
import Derived.Test.YteklkjnhefnimaaDoorNc
namespace Go.Proofs.YteklkjnhefnimaaDoor
open Go.Eng Go.Dig

theorem rise_le (m : Nat) : ∀ n, m + n ≤ 128 → rise m n ≤ 2 ^ (7 * n)
  | 0, _ => by simp [rise]
  | n + 1, h => by
    have h1 := rise_le m n (by omega)
    rw [rise, Nat.mul_succ, Nat.pow_add]
    exact Nat.mul_le_mul h1 (by omega)
theorem rise_fit {m n : Nat} (h : m + n ≤ 128) : Fit (rise m n) := by
  refine Fit.of (k := 7 * n + 1) (Nat.lt_of_le_of_lt (rise_le m n h) (Nat.pow_lt_pow_right (by decide) (by omega))) (by omega)
theorem fact_fit {n : Nat} (h : n ≤ 128) : Fit (fact n) := by
  rw [← fact_rise]
  exact rise_fit (by omega)
theorem ch_fit {n k : Nat} (h : n ≤ 3000) : Fit (ch n k) := Fit.of (k := n + 1) (Nat.lt_of_le_of_lt (ch_le_pow n k) (Nat.pow_lt_pow_right (by decide) (by omega))) (by omega)
/-- the number of subsets, for any numbers -/
def chZ (n k : Int) : Nat := if n < 0 ∨ n > 1000 ∨ k < 0 ∨ k > n then 0 else ch n.toNat k.toNat
theorem chZ_nat {n k : Nat} (h : n ≤ 1000) : chZ n k = ch n k := by
  unfold chZ
  by_cases hk : k ≤ n
  · rw [if_neg (by omega)]
    simp
  · rw [if_pos (by omega), ch_gt n k (by omega)]
theorem chZ_zero {n k : Int} (h : n < 0 ∨ n > 1000 ∨ k < 0 ∨ k > n) : chZ n k = 0 := if_pos h

attribute [local irreducible] PV StepF wpl wpd WP Ret
attribute [local irreducible] Fit

theorem c36 (n m : Nat) (f : FuncId) (caps : Array Value) (w : World) (he : Enters Tryd.prog f) (hmn : m + n ≤ 100)
    (hc : ∀ (i : Nat) (w' : World), Keeps [] w w' → 1 ≤ i → i ≤ n → Ret Tryd.prog f ([.int .i64 (i : Int)] ++ caps.toList) w' (fun v w2 => v = .int .i64 ((m + i : Nat) : Int) ∧ Keeps [] w' w2)) :
    Ret Tryd.prog 36 [.int .i64 (n : Int), .func (.func f) #[] caps] w (fun v w' => v = .string (ofN (rise m n)) ∧ Keeps [] w w') := by
  refine Ret.of_WP Tryd.func36 rfl Tryd.ntmps36 rfl ?_
  have hp := Hp.start (M := []) (w := w)
  (repeat (first | (with_reducible first | apply WP_seq | apply WP_region | apply wpl_nil | apply thenQ_n) | (apply wlp; apply pv_assign; exact fT rfl)))
  (apply wls; exact st_call rfl ent13 rfl (c13 1 _ (by decide)))
  rintro _ w1 ⟨rfl, hk⟩
  have hp := hp.call hk
  (repeat (first | (with_reducible first | apply WP_seq | apply WP_block | apply WP_region | apply wpl_nil | apply thenQ_n) | (apply wlp; (first | apply pv_move | apply pv_assign); (first | exact fI rfl | exact fT rfl))))
  refine WP_loopS [5, 6, 9, 10, 11, 12, 13, 14, 15, 16, 17, 18, 19] (fun (i : Nat) F => (F.put 5 (.string (ofN (rise m i)))).put 9 (.int .i64 (i : Int))) (fun i w' => i ≤ n ∧ Hp w [] w' []) (fun i => n - i) 0 (put_self (put_self (Same.eq .refl) rfl) rfl) ⟨Nat.zero_le _, hp⟩ ?_
  clear hp
  rintro u i w2 ⟨hi, hp⟩
  (repeat (first | (with_reducible first | apply WP_seq | apply WP_region | apply wpl_nil | apply thenQ_n) | (apply wlp; (apply pv_lss <;> exact rfl); exact fB rfl)))
  refine WP_cond_d rfl (fun h2 => ?_) (fun h2 => ?_)
  · (repeat (first | (with_reducible first | apply WP_seq | apply WP_block | apply WP_region | apply wpl_nil | apply thenQ_n | apply WP_skip) | (apply wlp; (first | apply pv_move | apply pv_assign); (first | exact fI rfl | exact fT rfl | exact fF rfl))))
    (apply wlp; (exact pv_add rfl rfl); exact int_eq (b := ((i + 1 : Nat) : Int)) (by rw [i64_in (by omega) (by omega)]; omega))
    (apply wls; exact st_call rfl he rfl (hc (i + 1) _ hp.keeps (by omega) (by omega)))
    rintro _ w3 ⟨rfl, hk⟩
    have hp := hp.call hk
    skip
    (apply wls; exact st_call rfl ent13 rfl (c13 ((m + (i + 1) : Nat) : Int) _ (by omega)))
    rintro _ w4 ⟨rfl, hk⟩
    have hp := hp.call hk
    rw [Int.toNat_natCast]
    skip
    (apply wls; exact st_call rfl ent18 rfl (c18 (rise m i) (m + (i + 1)) _ (rise_fit (by omega)) (Fit.small (by omega))))
    rintro _ w5 ⟨rfl, hk⟩
    have hp := hp.call hk
    (repeat (first | (with_reducible first | apply WP_region | apply wpl_nil | apply thenQ_n | apply inBlk_n) | (apply wlp; apply pv_assign; exact fT rfl)))
    (apply wlp; exact pv_add rfl rfl; exact int_eq (i64_in (by omega) (by omega)))
    (repeat (first | (with_reducible first | apply wpl_nil | apply thenQ_n) | (apply wlp; apply pv_move; exact fI rfl)))
    exact ⟨i + 1, put_self (put_self (Same.eq (by repeat (first | exact Same.hav | exact Same.refl | refine Same.put rfl ?_ | refine Same.havs rfl ?_))) rfl) rfl, ⟨by omega, hp⟩, by omega⟩
  · obtain rfl : i = n := by omega
    (repeat (first | (with_reducible first | apply WP_seq | apply WP_region | apply wpl_nil | apply thenQ_n | apply thenQ_exit | apply WP_ret | apply WP_exit) | ((with_reducible apply inBlk_same); exact rfl) | (apply wlp; (first | apply pv_move | apply pv_assign); exact fT rfl)))
    exact ret_tmp rfl rfl ⟨_, rfl, rfl, hp.keeps⟩
theorem c37 (a b i : Int) (p q : Nat) (w : World) (hp : w.cell? ⟨p, 0, none⟩ = some (.int .i64 a)) (hq : w.cell? ⟨q, 0, none⟩ = some (.int .i64 b)) (h : 0 ≤ b ∧ b ≤ a ∧ 0 ≤ i ∧ i ≤ b ∧ a ≤ 1000) :
    Ret Tryd.prog 37 [.int .i64 i, .pointer (some ⟨p, 0, none⟩), .pointer (some ⟨q, 0, none⟩)] w (fun v w' => v = .int .i64 (a - b + i) ∧ Keeps [] w w') := by
  refine Ret.of_WP Tryd.func37 rfl Tryd.ntmps37 rfl ?_
  have hp := Hp.start (M := []) (w := w)
  (repeat (first | (with_reducible first | apply WP_seq | apply WP_region | apply wpl_nil | apply thenQ_n) | (apply wlp; ((first | apply pv_assign | (apply pf_load; exact rfl)) <;> (first | exact rfl | assumption)); exact fI rfl)))
  (apply wlp; exact pv_sub rfl rfl; exact int_eq (i64_in (by omega) (by omega)))
  (repeat (apply wlp; apply pv_move; exact fI rfl))
  (apply wlp; exact pv_add rfl rfl; exact int_eq (i64_in (by omega) (by omega)))
  (repeat (first | (with_reducible first | apply wpl_nil | apply thenQ_n | apply WP_ret) | (apply wlp; apply pv_assign; exact fI rfl)))
  exact ret_tmp rfl rfl ⟨_, rfl, rfl, hp.keeps⟩
theorem c42 (i : Int) (w : World) : Ret Tryd.prog 42 [.int .i64 i] w (fun v w' => v = .int .i64 i ∧ Keeps [] w w') := by
  refine Ret.of_WP Tryd.func42 rfl Tryd.ntmps42 rfl ?_
  have hp := Hp.start (M := []) (w := w)
  (repeat (first | (with_reducible first | apply WP_seq | apply WP_region | apply wpl_nil | apply thenQ_n | apply WP_ret) | (apply wlp; (first | apply pv_move | apply pv_assign); exact fI rfl)))
  exact ret_tmp rfl rfl ⟨_, rfl, rfl, hp.keeps⟩
theorem c15 (n : Nat) (w : World) (hn : n ≤ 100) : Ret Tryd.prog 15 [.int .i64 (n : Int)] w (fun v w' => v = .string (ofN (fact n)) ∧ Keeps [] w w') := by
  refine Ret.of_WP Tryd.func15 rfl Tryd.ntmps15 rfl ?_
  have hp := Hp.start (M := []) (w := w)
  (repeat (with_reducible first | apply WP_seq | apply WP_region))
  (apply wlp; apply pv_assign; exact fT rfl)
  (repeat (with_reducible first | apply WP_seq | apply WP_region | apply wpl_nil | apply thenQ_n))
  (apply wlp; apply pv_move; exact fI rfl)
  (apply wlp; (exact pv_lss rfl rfl); exact bool_eq (b := false) (decide_eq_false (by omega)))
  (repeat (first | (with_reducible first | apply wpl_nil | apply thenQ_n) | (apply wlp; (intros; ((first | apply pv_move | exact pv_orF rfl rfl | apply pv_gtr) <;> exact rfl)); (intros; (first | exact fI rfl | exact fB rfl))) | ((apply wlpT; exact rfl; exact rfl); (((first | apply pv_move | exact pv_orF rfl rfl | apply pv_gtr) <;> exact rfl)); (intros; (first | exact fI rfl | exact fB rfl))) | (apply wlpF; exact rfl; exact rfl; exact rfl) | (apply wlpU; exact rfl; exact rfl)))
  refine WP_cond_d rfl (fun h => absurd h (by omega)) (fun _ => ?_)
  (repeat (first | (with_reducible first | apply WP_seq | apply WP_region | apply thenQ_n | apply WP_skip) | (apply wlp; apply pv_move; exact fI rfl)))
  (apply wls; exact st_call rfl ent36 rfl (c36 n 0 42 #[] _ ent42 (by omega) (fun i w' _ _ _ => Ret.mono (c42 i w') (fun v w2 h => ⟨by rw [h.1, Nat.zero_add], h.2⟩))))
  rintro _ w1 ⟨rfl, hk⟩
  have hp := hp.call hk
  (repeat (first | (with_reducible first | apply wpl_nil | apply thenQ_n | apply WP_ret) | (apply wlp; apply pv_assign; exact fT rfl)))
  exact ret_tmp rfl rfl ⟨_, rfl, by rw [fact_rise]; rfl, hp.keeps⟩
theorem c15z (n : Int) (w : World) (hn : n < 0 ∨ n > 1000) : Ret Tryd.prog 15 [.int .i64 n] w (fun v w' => v = .string (ofN 0) ∧ Keeps [] w w') := by
  refine Ret.of_WP Tryd.func15 rfl Tryd.ntmps15 rfl ?_
  have hp := Hp.start (M := []) (w := w)
  (repeat (first | (with_reducible first | apply WP_seq | apply WP_region | apply wpl_nil | apply thenQ_n) | ((first | apply wlp | (apply wlg; exact rfl; exact rfl)); (intros; ((first | apply pv_move | apply pv_assign | exact pv_or rfl rfl rfl | apply pv_lss | apply pv_gtr) <;> (first | exact rfl | exact ev_sel rfl (by assumption)))); (intros; (first | exact fI rfl | exact fB rfl | exact fT rfl)))))
  refine WP_cond rfl (fun h => ?_) (fun h => ?_)
  · (repeat (with_reducible first | apply WP_seq | apply WP_region))
    (apply wls; exact st_call rfl ent13 rfl (c13 0 _ (by decide)))
    rintro _ w1 ⟨rfl, hk⟩
    have hp := hp.call hk
    (repeat (first | (with_reducible first | apply wpl_nil | apply thenQ_n | apply thenQ_ret | apply WP_ret) | (apply wlp; apply pv_assign; exact fT rfl)))
    exact ret_tmp rfl rfl ⟨_, rfl, rfl, hp.keeps⟩
  · exfalso
    simp at h
    omega
theorem c12 (n k : Int) (w : World) (hn : n ≤ 100 ∨ n > 1000) : Ret Tryd.prog 12 [.int .i64 n, .int .i64 k] w (fun v w' => v = .string (ofN (chZ n k)) ∧ Keeps [] w w') := by
  refine Ret.of_WP Tryd.func12 rfl Tryd.ntmps12 rfl ?_
  have hp := Hp.start (M := []) (w := w)
  (repeat (first | (with_reducible first | apply WP_seq | apply WP_region | apply wpl_nil | apply thenQ_n) | ((first | apply wlp | (apply wlg; exact rfl; exact rfl)); (intros; ((first | apply pv_move | apply pv_assign | (apply pf_load; exact rfl) | exact pv_or rfl rfl rfl | apply pv_lss | apply pv_gtr) <;> (first | exact rfl | exact ev_sel rfl (by assumption) | exact hp.cell 0 rfl rfl | exact hp.cell 1 rfl rfl))); (intros; (first | exact fI rfl | exact fB rfl | exact fT rfl))) | (apply wls; exact sbox1 hp rfl rfl; rintro _ w ⟨b, rfl, hp⟩)))
  refine WP_cond rfl (fun h => ?_) (fun h => ?_)
  · have hz : chZ n k = 0 := chZ_zero (by simp at h; omega)
    (repeat (with_reducible first | apply WP_seq | apply WP_region))
    (apply wls; exact st_call rfl ent13 rfl (c13 0 _ (by decide)))
    rintro _ w1 ⟨rfl, hk⟩
    have hp := hp.call hk
    (repeat (first | (with_reducible first | apply wpl_nil | apply thenQ_n | apply thenQ_ret | apply WP_ret) | (apply wlp; apply pv_assign; exact fT rfl)))
    exact ret_tmp rfl rfl ⟨_, rfl, by rw [hz]; rfl, hp.keeps⟩
  · have h0 : 0 ≤ k ∧ k ≤ n ∧ n ≤ 100 := by simp at h; omega
    obtain ⟨N, rfl⟩ : ∃ N : Nat, n = N := ⟨n.toNat, by omega⟩
    obtain ⟨K, rfl⟩ : ∃ K : Nat, k = K := ⟨k.toNat, by omega⟩
    rw [chZ_nat (by omega)]
    clear h
    obtain ⟨K', hK'⟩ : ∃ K' : Nat, K' = min K (N - K) := ⟨_, rfl⟩
    have hch : ch N K = ch N K' := by
      rw [hK']
      rcases Nat.le_total K (N - K) with h | h
      · rw [Nat.min_eq_left h]
      · rw [Nat.min_eq_right h, ch_symm (by omega)]
    (repeat (first | (with_reducible first | apply WP_seq | apply WP_region | apply thenQ_n | apply WP_skip) | (apply wlp; ((apply pf_load; exact rfl) <;> (first | exact rfl | exact hp.cell 0 rfl rfl | exact hp.cell 1 rfl rfl)); exact fI rfl)))
    (apply wlp; (exact pv_sub rfl rfl); exact int_eq (b := ((N - K : Nat) : Int)) (by rw [i64_in (by omega) (by omega)]; omega))
    (apply wlp; exact pv_min rfl rfl; exact int_eq (b := (K' : Int)) (by omega))
    (repeat (first | (with_reducible first | apply WP_seq | apply WP_region | apply wpl_nil | apply thenQ_n) | (apply wlp; ((first | (apply pf_load; exact rfl) | apply pv_func) <;> (first | exact rfl | exact hp.cell 0 rfl rfl)); (first | exact fI rfl | exact fF2 rfl)) | (apply wls0; exact sstore1 hp 0 rfl rfl rfl rfl (sizeTy_ok rfl) rfl; rintro _ w ⟨rfl, hp⟩)))
    have hq : w.cell? ⟨_, 0, none⟩ = some (.int .i64 (K' : Int)) := hp.cell 0 rfl rfl
    have hp1 : w.cell? ⟨_, 0, none⟩ = some (.int .i64 (N : Int)) := hp.cell 1 rfl rfl
    (apply wls; exact st_call rfl ent36 rfl (c36 K' (N - K') 37 _ _ ent37 (by omega) (fun i w' hk h1 h2 => Ret.mono (c37 N K' i _ _ w' (hk.cell hp1 (by simp)) (hk.cell hq (by simp)) (by omega)) (fun v w2 h => ⟨by rw [h.1]; exact int_eq (by omega), h.2⟩))))
    rintro _ w1 ⟨rfl, hk⟩
    have hp := hp.call hk
    (repeat (first | (with_reducible first | apply WP_seq | apply WP_region | apply wpl_nil | apply thenQ_n) | (apply wlp; ((first | apply pv_move | apply pv_assign | (apply pf_load; exact rfl)) <;> (first | exact rfl | exact hp.cell 0 rfl rfl)); (first | exact fI rfl | exact fT rfl))))
    (apply wls; exact st_call rfl ent15 rfl (c15 K' _ (by omega)))
    rintro _ w2 ⟨rfl, hk⟩
    have hp := hp.call hk
    skip
    (apply wls; exact st_call rfl ent24 rfl (c24 _ _ _ (rise_fit (by omega)) (fact_fit (by omega)) (fact_pos _)))
    rintro _ w3 ⟨rfl, hk⟩
    have hp := hp.call hk
    rw [rise_div (by omega), ← hch]
    (repeat (first | (with_reducible first | apply WP_seq | apply WP_region | apply wpl_nil | apply thenQ_n | apply WP_ret) | (apply wlp; ((first | apply pv_move | apply pv_assign | apply pv_extract) <;> exact rfl); (first | exact fB rfl | exact fT rfl | exact fU rfl))))
    exact ret_tmp rfl rfl ⟨_, rfl, rfl, hp.keeps⟩
end Go.Proofs.YteklkjnhefnimaaDoor
