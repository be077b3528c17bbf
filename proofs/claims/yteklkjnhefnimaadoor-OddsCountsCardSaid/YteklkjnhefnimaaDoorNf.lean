/- How many sets have so many elements in common with a given one (plain laws, no program); conditions are the hypotheses of each law. -/
import Derived.Test.YteklkjnhefnimaaDoorNe
import Derived.Test.YteklkjnhefnimaaDoorNd
namespace Go.Proofs.YteklkjnhefnimaaDoor
open Go.Dig

def hit (G L : List Int) : Nat := L.countP (fun x => decide (x ∈ G))
theorem incr_nodup {p : Int} : ∀ {l : List Int} {b : Int}, incr p b l → (∀ x ∈ l, b < x) ∧ l.Nodup
  | [], _, _ => by simp
  | x :: l, b, h => by
    obtain ⟨h1, h2⟩ := incr_nodup h.2.2
    refine ⟨fun y hy => ?_, ?_⟩
    · rcases List.mem_cons.1 hy with rfl | hy
      · exact h.1
      · have := h1 y hy
        have := h.1
        omega
    · rw [List.nodup_cons]
      refine ⟨fun hm => ?_, h2⟩
      have := h1 x hm
      omega
theorem matchN_hit {G L : List Int} (h : L.Nodup) : matchN G L = hit G L := by
  rw [matchN_comm, hit, List.countP_eq_length_filter]
  refine ((List.perm_ext_iff_of_nodup (el_nodup L G _) (h.filter _)).2 ?_).length_eq
  intro y
  rw [el_mem, List.take_length, List.mem_filter, decide_eq_true_eq]
def cU (pool : Nat) (G : List Int) (P j m r : Nat) : Nat := (List.range r).countP (fun q => decide (hit G (un pool P j q) = m))
def aU (pool : Nat) (G : List Int) : Nat → Nat
  | 0 => 0
  | P + 1 => aU pool G P + (if ((pool - P : Nat) : Int) ∈ G then 1 else 0)
theorem aU_le (pool : Nat) (G : List Int) : ∀ P, aU pool G P ≤ P
  | 0 => Nat.le_refl _
  | P + 1 => by
    have := aU_le pool G P
    rw [aU]
    split <;> omega
theorem cU_split (pool : Nat) (G : List Int) (P j m : Nat) : cU pool G (P + 1) (j + 1) m (ch P j + ch P (j + 1)) = (List.range (ch P j)).countP (fun q => decide (hit G (((pool - P : Nat) : Int) :: un pool P j q) = m)) + cU pool G P (j + 1) m (ch P (j + 1)) := by
  unfold cU
  rw [List.range_add, List.countP_append, List.countP_map]
  congr 1
  · apply List.countP_congr
    intro q hq
    have hq : q < ch P j := by simpa using hq
    rw [un, if_pos hq]
  · apply List.countP_congr
    intro q _
    simp only [Function.comp]
    rw [un, if_neg (by omega), Nat.add_sub_cancel_left]
theorem hit_cons (G : List Int) (x : Int) (L : List Int) : hit G (x :: L) = hit G L + (if x ∈ G then 1 else 0) := by
  unfold hit
  rw [List.countP_cons]
  simp
theorem cU_full (pool : Nat) (G : List Int) : ∀ (P j m : Nat), cU pool G P j m (ch P j) = if m ≤ j then ch (aU pool G P) m * ch (P - aU pool G P) (j - m) else 0
  | 0, 0, m => by
    have : ch 0 0 = 1 := rfl
    rw [this]
    cases m with
    | zero => rfl
    | succ m => simp [cU, hit, un]
  | 0, j + 1, m => by
    have e : ch 0 (j + 1) = 0 := rfl
    rw [e]
    show 0 = _
    split
    · cases m with
      | zero => simp [aU, ch]
      | succ m => simp [aU, ch]
    · rfl
  | P + 1, 0, m => by
    rw [ch_zero]
    cases m with
    | zero => simp [cU, hit, un, ch_zero]
    | succ m => simp [cU, hit, un]
  | P + 1, j + 1, m => by
    have hle := aU_le pool G P
    rw [ch_pascal, cU_split, cU_full pool G P (j + 1) m, aU]
    generalize ha : aU pool G P = a at *
    by_cases hv : ((pool - P : Nat) : Int) ∈ G
    · rw [if_pos hv, show P + 1 - (a + 1) = P - a from by omega]
      cases m with
      | zero =>
        have h1 : (List.range (ch P j)).countP (fun q => decide (hit G (((pool - P : Nat) : Int) :: un pool P j q) = 0)) = 0 := by
          rw [List.countP_eq_zero]
          intro q _
          rw [hit_cons, if_pos hv]
          simp
        rw [h1, if_pos (by omega), if_pos (by omega), ch_zero, ch_zero]
        omega
      | succ m =>
        have h1 : (List.range (ch P j)).countP (fun q => decide (hit G (((pool - P : Nat) : Int) :: un pool P j q) = m + 1)) = cU pool G P j m (ch P j) := by
          unfold cU
          apply List.countP_congr
          intro q _
          rw [hit_cons, if_pos hv]
          simp
        rw [h1, cU_full pool G P j m, ha]
        by_cases hm : m ≤ j
        · rw [if_pos hm, if_pos (by omega), if_pos (by omega), ch_pascal, Nat.add_mul, show j + 1 - (m + 1) = j - m from by omega]
        · rw [if_neg hm, if_neg (by omega), if_neg (by omega)]
    · rw [if_neg hv, show a + 0 = a from rfl, show P + 1 - a = P - a + 1 from by omega]
      have h1 : (List.range (ch P j)).countP (fun q => decide (hit G (((pool - P : Nat) : Int) :: un pool P j q) = m)) = cU pool G P j m (ch P j) := by
        unfold cU
        apply List.countP_congr
        intro q _
        rw [hit_cons, if_neg hv]
        simp
      rw [h1, cU_full pool G P j m, ha]
      by_cases hm : m ≤ j
      · rw [if_pos hm, if_pos (by omega), if_pos (by omega), show j + 1 - m = j - m + 1 from by omega, ch_pascal, Nat.mul_add]
      · by_cases hm2 : m = j + 1
        · subst hm2
          rw [if_neg hm, if_pos (by omega), if_pos (by omega), Nat.sub_self, ch_zero, ch_zero]
          omega
        · rw [if_neg hm, if_neg (by omega), if_neg (by omega)]
theorem aU_cons (pool : Nat) (x : Int) (G : List Int) : ∀ P, P ≤ pool → x ≤ ((pool - P : Nat) : Int) → aU pool (x :: G) P = aU pool G P
  | 0, _, _ => rfl
  | P + 1, hP, h => by
    rw [aU, aU, aU_cons pool x G P (by omega) (by omega)]
    congr 1
    have : ((pool - P : Nat) : Int) ≠ x := by omega
    simp [this]
theorem aU_incr (pool : Nat) : ∀ (P : Nat) (G : List Int), P ≤ pool → incr pool ((pool - P : Nat) : Int) G → aU pool G P = G.length
  | 0, [], _, _ => rfl
  | 0, x :: G, _, h => by
    have h1 := h.1
    have h2 := h.2.1
    simp at h1
    omega
  | P + 1, [], hP, _ => by
    rw [aU, aU_incr pool P [] (by omega) trivial]
    simp
  | P + 1, x :: G, hP, h => by
    by_cases hx : x = ((pool - P : Nat) : Int)
    · rw [aU, aU_cons pool x G P (by omega) (by omega), aU_incr pool P G (by omega) (by rw [← hx]; exact h.2.2), if_pos (by rw [hx]; simp)]
      rfl
    · have h1 := h.1
      have hi : incr pool ((pool - P : Nat) : Int) (x :: G) := ⟨by omega, h.2.1, h.2.2⟩
      rw [aU, aU_incr pool P (x :: G) (by omega) hi, if_neg ?_, Nat.add_zero]
      intro hm
      have := (incr_nodup hi).1 _ hm
      omega
/-- so many sets of k elements have m elements in common with one of them -/
theorem cU_all {p k g : Nat} (hg : g < ch p k) (m : Nat) (hm : m ≤ k) : cU p (un p p k g) p k m (ch p k) = ch k m * ch (p - k) (k - m) := by
  have hi := un_incr p p k g (Nat.le_refl _)
  have ha := aU_incr p p (un p p k g) (Nat.le_refl _) hi
  rw [un_len p p k g hg] at ha
  rw [cU_full, ha, if_pos hm]
theorem cU_le (pool : Nat) (G : List Int) (P j m r : Nat) : cU pool G P j m r ≤ r := by
  unfold cU
  exact Nat.le_trans List.countP_le_length (by simp)
theorem cU_succ (pool : Nat) (G : List Int) (P j m r : Nat) : cU pool G P j m (r + 1) = cU pool G P j m r + (if hit G (un pool P j r) = m then 1 else 0) := by
  unfold cU
  rw [List.range_succ, List.countP_append, List.countP_singleton]
  simp
/-- a fraction times its denominator -/
theorem frac_mul {A B : Nat} (hB : 0 < B) : A / Nat.gcd A B * B / Nat.gcd (A / Nat.gcd A B * B) (B / Nat.gcd A B * 1) = A ∧ B / Nat.gcd A B * 1 / Nat.gcd (A / Nat.gcd A B * B) (B / Nat.gcd A B * 1) = 1 := by
  have hg : 0 < Nat.gcd A B := Nat.gcd_pos_of_pos_right A hB
  obtain ⟨c, hc⟩ := Nat.gcd_dvd_left A B
  obtain ⟨d, hd⟩ := Nat.gcd_dvd_right A B
  generalize Nat.gcd A B = g at *
  subst hc
  have hd0 : 0 < d := by
    rcases Nat.eq_zero_or_pos d with h | h
    · subst h; simp at hd; omega
    · exact h
  rw [Nat.mul_div_cancel_left _ hg]
  have e1 : B / g = d := by rw [hd, Nat.mul_div_cancel_left _ hg]
  rw [e1, Nat.mul_one]
  have e2 : c * B = d * (g * c) := by rw [hd]; ac_rfl
  rw [e2, Nat.gcd_mul_right_left, Nat.mul_div_cancel_left _ hd0, Nat.div_self hd0]
  exact ⟨rfl, rfl⟩
end Go.Proofs.YteklkjnhefnimaaDoor
