/- Sets by their ranks (plain laws, no program): Unrank gives increasing lists of the pool, in the order of the ranks, and Rank undoes it; conditions are the hypotheses of each law. -/
import Derived.Test.YteklkjnhefnimaaDoorEd
namespace Go.Proofs.YteklkjnhefnimaaDoor
open Go.Dig

/-- increasing, above b and up to p -/
def incr (p : Int) : Int → List Int → Prop
  | _, [] => True
  | b, x :: l => b < x ∧ x ≤ p ∧ incr p x l
theorem incr_weak {p b b' : Int} {l : List Int} (h : incr p b l) (hb : b' ≤ b) : incr p b' l := by
  cases l with
  | nil => trivial
  | cons x l => exact ⟨by have := h.1; omega, h.2⟩
theorem un_incr (pool : Nat) : ∀ (P m r : Nat), P ≤ pool → incr pool ((pool - P : Nat) : Int) (un pool P m r)
  | 0, _, _, _ => trivial
  | P + 1, 0, _, _ => trivial
  | P + 1, m + 1, r, h => by
    rw [un]
    split
    · exact ⟨by omega, by omega, un_incr pool P m r (by omega)⟩
    · exact incr_weak (un_incr pool P (m + 1) _ (by omega)) (by omega)
theorem incr_at {p : Int} : ∀ {l : List Int} {b : Int} {i : Nat}, incr p b l → i < l.length → b < l.getD i 0 ∧ l.getD i 0 ≤ p ∧ (0 < i → l.getD (i - 1) 0 < l.getD i 0)
  | [], _, _, _, h => by simp at h
  | x :: l, b, 0, h, _ => ⟨h.1, h.2.1, fun h => by omega⟩
  | x :: l, b, i + 1, h, hi => by
    have h1 := incr_at (i := i) h.2.2 (by simpa using hi)
    have hb := h.1
    simp only [List.getD_cons_succ]
    refine ⟨by omega, h1.2.1, fun _ => ?_⟩
    cases i with
    | zero => simpa using h1.1
    | succ i => simpa using h1.2.2 (by omega)
theorem incr_isU {p : Int} {l : List Int} (h : incr p 0 l) : ∀ i, i ≤ l.length → isU p l i = true := by
  intro i hi
  unfold isU
  rw [List.all_eq_true]
  intro j hj
  have hj : j < i := by simpa using hj
  have h1 := incr_at (i := j) h (by omega)
  unfold okAt
  simp only [Bool.and_eq_true, Bool.or_eq_true, decide_eq_true_eq]
  refine ⟨⟨by omega, h1.2.1⟩, ?_⟩
  by_cases h0 : j = 0
  · exact .inl h0
  · exact .inr (h1.2.2 (by omega))
theorem un_set {pool : Nat} (h : pool ≤ 60) (m r : Nat) : setB pool (un pool pool m r) = true := by
  have h1 := un_incr pool pool m r (Nat.le_refl _)
  rw [Nat.sub_self] at h1
  unfold setB
  rw [decide_eq_true (by omega), decide_eq_true (by omega), incr_isU h1 _ (Nat.le_refl _)]
  rfl
/-- earlier in the order of lists -/
def lx : List Int → List Int → Prop
  | x :: l, y :: m => x < y ∨ (x = y ∧ lx l m)
  | _, _ => False
theorem un_lx (pool : Nat) : ∀ (P m r : Nat), P ≤ pool → r + 1 < ch P m → lx (un pool P m r) (un pool P m (r + 1))
  | 0, 0, r, _, h => by simp [ch] at h
  | 0, m + 1, r, _, h => by simp [ch] at h
  | P + 1, 0, r, _, h => by simp [ch] at h
  | P + 1, m + 1, r, hP, h => by
    rw [ch] at h
    rw [un, un]
    by_cases h1 : r + 1 < ch P m
    · rw [if_pos (by omega), if_pos h1]
      exact .inr ⟨rfl, un_lx pool P m r (by omega) h1⟩
    · rw [if_neg h1]
      by_cases h2 : r < ch P m
      · rw [if_pos h2]
        have h3 : r + 1 - ch P m < ch P (m + 1) := by omega
        have h4 := un_len pool P (m + 1) _ h3
        have h5 := un_incr pool P (m + 1) (r + 1 - ch P m) (by omega)
        cases hl : un pool P (m + 1) (r + 1 - ch P m) with
        | nil => rw [hl] at h4; simp at h4
        | cons y l =>
          rw [hl] at h5
          exact .inl h5.1
      · rw [if_neg h2, show r + 1 - ch P m = r - ch P m + 1 from by omega]
        exact un_lx pool P (m + 1) _ (by omega) (by omega)
/-- the first place at which two lists differ -/
theorem lx_at : ∀ {l m : List Int}, lx l m → l.length = m.length → ∃ d, d < l.length ∧ (∀ i, i < d → l.getD i 0 = m.getD i 0) ∧ l.getD d 0 < m.getD d 0
  | [], _, h, _ => h.elim
  | _ :: _, [], h, _ => h.elim
  | x :: l, y :: m, h, hl => by
    rcases h with h | ⟨rfl, h⟩
    · exact ⟨0, by simp, fun i hi => by omega, h⟩
    · obtain ⟨d, h1, h2, h3⟩ := lx_at h (by simpa using hl)
      refine ⟨d + 1, by simpa using h1, fun i hi => ?_, h3⟩
      cases i with
      | zero => rfl
      | succ i => exact h2 i (by omega)
/-! ranks -/
def rkL (pool : Int) : Int → List Int → Nat
  | _, [] => 0
  | b, x :: l => innS pool b (l.length : Int) (x - b - 1).toNat + rkL pool x l
theorem innS_shift (pool b k : Int) : ∀ t, innS pool b k (t + 1) = chZ (pool - (b + 1)) k + innS pool (b + 1) k t
  | 0 => by simp [innS]
  | t + 1 => by
    rw [innS, innS_shift pool b k t, innS]
    have e : b + 1 + ((t + 1 : Nat) : Int) = b + ((t + 1 + 1 : Nat) : Int) := by omega
    rw [e]
    omega
theorem rkL_un (pool : Nat) (hp : pool ≤ 60) : ∀ (P m r : Nat), P ≤ pool → r < ch P m → rkL pool ((pool - P : Nat) : Int) (un pool P m r) = r
  | 0, 0, r, _, h => by
    have : r = 0 := by simpa [ch] using h
    subst this
    rfl
  | 0, m + 1, r, _, h => by simp [ch] at h
  | P + 1, 0, r, _, h => by
    have : r = 0 := by simpa [ch] using h
    subst this
    rfl
  | P + 1, m + 1, r, hP, h => by
    rw [ch] at h
    rw [un]
    split
    · rename_i h1
      rw [rkL, show (((pool - P : Nat) : Int) - ((pool - (P + 1) : Nat) : Int) - 1).toNat = 0 from by omega, innS, Nat.zero_add]
      exact rkL_un pool hp P m r (by omega) h1
    · rename_i h1
      have h3 : r - ch P m < ch P (m + 1) := by omega
      have ih := rkL_un pool hp P (m + 1) (r - ch P m) (by omega) h3
      have h4 := un_len pool P (m + 1) _ h3
      have h5 := un_incr pool P (m + 1) (r - ch P m) (by omega)
      cases hl : un pool P (m + 1) (r - ch P m) with
      | nil => rw [hl] at h4; simp at h4
      | cons y l =>
        rw [hl] at h4 h5 ih
        rw [rkL] at ih ⊢
        have hy := h5.1
        have hll : l.length = m := by simpa using h4
        obtain ⟨t, ht⟩ : ∃ t, (y - ((pool - (P + 1) : Nat) : Int) - 1).toNat = t + 1 := ⟨(y - ((pool - (P + 1) : Nat) : Int) - 1).toNat - 1, by omega⟩
        have e1 : ((pool - (P + 1) : Nat) : Int) + 1 = ((pool - P : Nat) : Int) := by omega
        have e2 : (pool : Int) - ((pool - P : Nat) : Int) = (P : Int) := by omega
        have e3 : (y - ((pool - P : Nat) : Int) - 1).toNat = t := by omega
        rw [ht, innS_shift, e1, e2, hll, chZ_nat (by omega)]
        rw [e3, hll] at ih
        omega
theorem rkN_step (pool : Int) (l : List Int) : ∀ (k i : Nat), i + k = l.length → rkN pool l l.length = rkN pool l i + rkL pool (if i = 0 then 0 else l.getD (i - 1) 0) (l.drop i)
  | 0, i, h => by
    have : i = l.length := by omega
    subst this
    rw [List.drop_length]
    rfl
  | k + 1, i, h => by
    have hlt : i < l.length := by omega
    rw [rkN_step pool l k (i + 1) (by omega), rkN, List.drop_eq_getElem_cons hlt, rkL]
    have e1 : (if i + 1 = 0 then 0 else l.getD (i + 1 - 1) 0) = l[i] := by rw [if_neg (by omega), Nat.add_sub_cancel, getD_at hlt]
    rw [e1, getD_at hlt, List.length_drop]
    have e2 : ((l.length - (i + 1) : Nat) : Int) = (l.length : Int) - i - 1 := by omega
    rw [e2]
    omega
theorem rkN_rkL (pool : Int) (l : List Int) : rkN pool l l.length = rkL pool 0 l := by
  have := rkN_step pool l l.length 0 (by omega)
  rw [if_pos rfl, List.drop_zero] at this
  rw [this]
  simp [rkN]
theorem rk_un {pool : Nat} (hp : pool ≤ 60) {m r : Nat} (h : r < ch pool m) : rkN pool (un pool pool m r) (un pool pool m r).length = r := by
  have h1 := rkL_un pool hp pool m r (Nat.le_refl _) h
  rw [Nat.sub_self] at h1
  rw [rkN_rkL]
  exact h1
end Go.Proofs.YteklkjnhefnimaaDoor
