/- Numbers of subsets and factorials (plain laws, no program); conditions are the hypotheses of each law. -/
namespace Go.Dig

def ch : Nat → Nat → Nat
  | _, 0 => 1
  | 0, _ + 1 => 0
  | n + 1, k + 1 => ch n k + ch n (k + 1)
def fact : Nat → Nat
  | 0 => 1
  | n + 1 => (n + 1) * fact n
theorem ch_zero (n : Nat) : ch n 0 = 1 := by cases n <;> rfl
theorem ch_gt : ∀ (n k : Nat), n < k → ch n k = 0
  | _, 0, h => by omega
  | 0, k + 1, _ => rfl
  | n + 1, k + 1, h => by
    rw [ch, ch_gt n k (by omega), ch_gt n (k + 1) (by omega)]
theorem ch_self : ∀ n, ch n n = 1
  | 0 => rfl
  | n + 1 => by rw [ch, ch_self n, ch_gt n (n + 1) (by omega)]
theorem fact_pos : ∀ n, 0 < fact n
  | 0 => by decide
  | n + 1 => Nat.mul_pos (by omega) (fact_pos n)
theorem ch_fact : ∀ (n k : Nat), k ≤ n → ch n k * fact k * fact (n - k) = fact n
  | n, 0, _ => by rw [ch_zero]; simp [fact]
  | 0, k + 1, h => by omega
  | n + 1, k + 1, h => by
    rw [ch, Nat.add_sub_add_right]
    rcases Nat.lt_or_ge k n with hk | hk
    · have h1 := ch_fact n k (by omega)
      have h2 := ch_fact n (k + 1) (by omega)
      obtain ⟨m, hm⟩ : ∃ m, n - k = m + 1 := ⟨n - k - 1, by omega⟩
      have hm2 : n - (k + 1) = m := by omega
      rw [hm] at h1 ⊢
      rw [hm2] at h2
      rw [Nat.add_mul, Nat.add_mul]
      have e1 : ch n k * fact (k + 1) * fact (m + 1) = (k + 1) * (ch n k * fact k * fact (m + 1)) := by
        rw [fact]
        ac_rfl
      have e2 : ch n (k + 1) * fact (k + 1) * fact (m + 1) = (m + 1) * (ch n (k + 1) * fact (k + 1) * fact m) := by
        rw [show fact (m + 1) = (m + 1) * fact m from rfl]
        ac_rfl
      rw [e1, e2, h1, h2, ← Nat.add_mul, show fact (n + 1) = (n + 1) * fact n from rfl]
      congr 1
      omega
    · have : k = n := by omega
      subst this
      rw [ch_self, ch_gt k (k + 1) (by omega), Nat.sub_self]
      simp [fact]
theorem ch_symm {n k : Nat} (h : k ≤ n) : ch n (n - k) = ch n k := by
  have h1 := ch_fact n k h
  have h2 := ch_fact n (n - k) (by omega)
  rw [show n - (n - k) = k from by omega] at h2
  have hp : 0 < fact k * fact (n - k) := Nat.mul_pos (fact_pos _) (fact_pos _)
  refine Nat.eq_of_mul_eq_mul_right hp ?_
  rw [Nat.mul_assoc] at h1
  rw [h1, ← h2, Nat.mul_comm (fact k), Nat.mul_assoc]
/-- (m + 1) (m + 2) .. (m + k) -/
def rise (m : Nat) : Nat → Nat
  | 0 => 1
  | k + 1 => rise m k * (m + (k + 1))
theorem rise_fact (m : Nat) : ∀ k, rise m k * fact m = fact (m + k)
  | 0 => by simp [rise]
  | k + 1 => by
    have := rise_fact m k
    rw [rise, show m + (k + 1) = (m + k) + 1 from by omega, show fact (m + k + 1) = (m + k + 1) * fact (m + k) from rfl, ← this]
    ac_rfl
theorem rise_ch {n k : Nat} (h : k ≤ n) : rise (n - k) k = ch n k * fact k := by
  have h1 := rise_fact (n - k) k
  rw [show n - k + k = n from by omega, ← ch_fact n k h] at h1
  exact Nat.eq_of_mul_eq_mul_right (fact_pos _) h1
theorem rise_div {n k : Nat} (h : k ≤ n) : rise (n - k) k / fact k = ch n k := by
  rw [rise_ch h]
  exact Nat.mul_div_cancel _ (fact_pos k)
theorem fact_rise : ∀ n, rise 0 n = fact n
  | 0 => rfl
  | n + 1 => by
    rw [rise, fact_rise n, show fact (n + 1) = (n + 1) * fact n from rfl, Nat.mul_comm]
    congr 1
    omega
theorem ch_pascal (n k : Nat) : ch (n + 1) (k + 1) = ch n k + ch n (k + 1) := rfl
theorem ch_mono_n (n k : Nat) : ch n k ≤ ch (n + 1) k := by
  cases k with
  | zero => rw [ch_zero, ch_zero]; exact Nat.le_refl _
  | succ k => rw [ch_pascal]; omega
theorem ch_pos {n k : Nat} (h : k ≤ n) : 0 < ch n k := by
  have h1 := ch_fact n k h
  have h2 := fact_pos n
  rcases Nat.eq_zero_or_pos (ch n k) with h3 | h3
  · rw [h3] at h1
    simp at h1
    omega
  · exact h3
/-- subsets of k elements are at most all subsets -/
theorem ch_le_pow : ∀ (n k : Nat), ch n k ≤ 2 ^ n
  | n, 0 => by rw [ch_zero]; exact Nat.one_le_two_pow
  | 0, k + 1 => by simp [ch]
  | n + 1, k + 1 => by
    have h1 := ch_le_pow n k
    have h2 := ch_le_pow n (k + 1)
    rw [ch, Nat.pow_succ]
    omega
end Go.Dig
