/- How many different numbers occur in both of two lists (plain laws, no program); conditions are the hypotheses of each law. -/
namespace Go.Dig

/-- the different elements among the first i of a that occur in b -/
def el (a b : List Int) : Nat → List Int
  | 0 => []
  | i + 1 => match a[i]? with
    | some x => if x ∈ b ∧ x ∉ a.take i then el a b i ++ [x] else el a b i
    | none => el a b i
theorem el_mem (a b : List Int) : ∀ (i : Nat) (y : Int), y ∈ el a b i ↔ y ∈ a.take i ∧ y ∈ b
  | 0, y => by simp [el]
  | i + 1, y => by
    have ih := el_mem a b i y
    rw [el]
    cases h : a[i]? with
    | none =>
      have hl : a.length ≤ i := by simpa using h
      simp only
      rw [ih, List.take_of_length_le hl, List.take_of_length_le (by omega)]
    | some x =>
      have hl : i < a.length := (List.getElem?_eq_some_iff.1 h).1
      have hx : a[i] = x := (List.getElem?_eq_some_iff.1 h).2
      simp only
      rw [List.take_succ_eq_append_getElem hl, hx]
      by_cases hc : x ∈ b ∧ x ∉ a.take i
      · rw [if_pos hc]
        simp only [List.mem_append, List.mem_singleton, ih]
        constructor
        · rintro (⟨h1, h2⟩ | rfl)
          · exact ⟨.inl h1, h2⟩
          · exact ⟨.inr rfl, hc.1⟩
        · rintro ⟨h1 | rfl, h2⟩
          · exact .inl ⟨h1, h2⟩
          · exact .inr rfl
      · rw [if_neg hc, ih]
        simp only [List.mem_append, List.mem_singleton]
        constructor
        · rintro ⟨h1, h2⟩
          exact ⟨.inl h1, h2⟩
        · rintro ⟨h1 | rfl, h2⟩
          · exact ⟨h1, h2⟩
          · by_cases h3 : y ∈ a.take i
            · exact ⟨h3, h2⟩
            · exact absurd ⟨h2, h3⟩ hc
theorem el_nodup (a b : List Int) : ∀ i, (el a b i).Nodup
  | 0 => by simp [el]
  | i + 1 => by
    have ih := el_nodup a b i
    rw [el]
    cases h : a[i]? with
    | none => exact ih
    | some x =>
      simp only
      by_cases hc : x ∈ b ∧ x ∉ a.take i
      · rw [if_pos hc, List.nodup_append]
        refine ⟨ih, by simp, ?_⟩
        intro y hy z hz
        have hz : z = x := by simpa using hz
        subst hz
        rintro rfl
        exact hc.2 ((el_mem a b i y).1 hy).1
      · rw [if_neg hc]
        exact ih
theorem el_len (a b : List Int) : ∀ i, (el a b i).length ≤ i
  | 0 => by simp [el]
  | i + 1 => by
    have ih := el_len a b i
    rw [el]
    cases a[i]? with
    | none => simp only; omega
    | some x =>
      simp only
      split
      · simp; omega
      · omega
def matchN (a b : List Int) : Nat := (el a b a.length).length
theorem matchN_of {a b c d : List Int} (h : ∀ y, (y ∈ a ∧ y ∈ b) ↔ (y ∈ c ∧ y ∈ d)) : matchN a b = matchN c d := by
  refine ((List.perm_ext_iff_of_nodup (el_nodup a b _) (el_nodup c d _)).2 ?_).length_eq
  intro y
  rw [el_mem, el_mem, List.take_length, List.take_length]
  exact h y
theorem matchN_comm (a b : List Int) : matchN a b = matchN b a := matchN_of fun y => and_comm
theorem matchN_rev (a b : List Int) : matchN a.reverse b = matchN a b := matchN_of fun y => by simp
theorem matchN_nil (a : List Int) : matchN [] a = 0 := rfl
theorem el_succ {a b : List Int} {i : Nat} {x : Int} (h : a[i]? = some x) : (el a b (i + 1)).length = (el a b i).length + (if x ∈ b ∧ x ∉ a.take i then 1 else 0) := by
  rw [el, h]
  simp only
  split <;> simp
end Go.Dig
