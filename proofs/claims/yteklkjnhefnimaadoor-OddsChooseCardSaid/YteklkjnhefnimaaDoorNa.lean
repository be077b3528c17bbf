/- Digits to a base (plain laws, no program): values of lists, the digits of a number, trimming; conditions are the hypotheses of each law. -/
namespace Go.Dig

/-- the value of digits, the least significant one first -/
def val (b : Nat) : List Nat → Nat
  | [] => 0
  | d :: l => d + b * val b l
def Bd (b : Nat) (l : List Nat) : Prop := ∀ d ∈ l, d < b
theorem Bd.nil {b : Nat} : Bd b [] := by intro d h; cases h
theorem Bd.cons {b d : Nat} {l : List Nat} (h : d < b) (hl : Bd b l) : Bd b (d :: l) := by
  intro x hx
  rcases List.mem_cons.1 hx with rfl | hx
  · exact h
  · exact hl x hx
theorem Bd.head {b d : Nat} {l : List Nat} (h : Bd b (d :: l)) : d < b := h d (by simp)
theorem Bd.tail {b d : Nat} {l : List Nat} (h : Bd b (d :: l)) : Bd b l := fun x hx => h x (by simp [hx])
theorem Bd.app {b : Nat} {l m : List Nat} (h : Bd b l) (h2 : Bd b m) : Bd b (l ++ m) := by
  intro x hx
  rcases List.mem_append.1 hx with hx | hx
  · exact h x hx
  · exact h2 x hx
theorem Bd.left {b : Nat} {l m : List Nat} (h : Bd b (l ++ m)) : Bd b l := fun x hx => h x (by simp [hx])
theorem Bd.right {b : Nat} {l m : List Nat} (h : Bd b (l ++ m)) : Bd b m := fun x hx => h x (by simp [hx])
theorem Bd.get {b i : Nat} {l : List Nat} (h : Bd b l) (hi : i < l.length) : l[i] < b := h _ (List.getElem_mem hi)
theorem Bd.take {b : Nat} {l : List Nat} (h : Bd b l) (i : Nat) : Bd b (l.take i) := fun x hx => h x (List.mem_of_mem_take hx)
theorem Bd.drop {b : Nat} {l : List Nat} (h : Bd b l) (i : Nat) : Bd b (l.drop i) := fun x hx => h x (List.mem_of_mem_drop hx)
theorem Bd.set {b i d : Nat} {l : List Nat} (h : Bd b l) (hd : d < b) : Bd b (l.set i d) := by
  intro x hx
  rcases List.mem_or_eq_of_mem_set hx with hx | hx
  · exact h x hx
  · rw [hx]; exact hd

theorem val_append (b : Nat) (l m : List Nat) : val b (l ++ m) = val b l + b ^ l.length * val b m := by
  induction l with
  | nil => simp [val]
  | cons d l ih =>
    simp only [List.cons_append, val, ih, List.length_cons, Nat.pow_succ]
    rw [Nat.mul_add, ← Nat.mul_assoc, Nat.mul_comm b (b ^ l.length)]
    omega
theorem val_single (b d : Nat) : val b [d] = d := by simp [val]
theorem val_lt {b : Nat} {l : List Nat} (h : Bd b l) : val b l < b ^ l.length := by
  induction l with
  | nil => simp [val]
  | cons d l ih =>
    have h1 := ih h.tail
    have h2 := h.head
    simp only [val, List.length_cons, Nat.pow_succ]
    have h3 : b * (val b l + 1) ≤ b * b ^ l.length := Nat.mul_le_mul_left b h1
    rw [Nat.mul_add, Nat.mul_one] at h3
    rw [Nat.mul_comm (b ^ l.length) b]
    omega
theorem val_zeros (b n : Nat) : val b (List.replicate n 0) = 0 := by
  induction n with
  | zero => rfl
  | succ n ih => rw [List.replicate_succ, val, ih]; simp
theorem zeros_bd {b : Nat} (hb : 0 < b) (n : Nat) : Bd b (List.replicate n 0) := by
  intro d hd
  rw [List.eq_of_mem_replicate hd]
  exact hb
theorem val_take_drop (b : Nat) (l : List Nat) (i : Nat) (hi : i ≤ l.length) : val b l = val b (l.take i) + b ^ i * val b (l.drop i) := by
  have h := val_append b (l.take i) (l.drop i)
  rw [List.take_append_drop, List.length_take, Nat.min_eq_left hi] at h
  exact h
theorem val_take_succ (b : Nat) (l : List Nat) (i : Nat) (hi : i < l.length) : val b (l.take (i + 1)) = val b (l.take i) + b ^ i * l[i] := by
  rw [List.take_succ_eq_append_getElem hi, val_append, List.length_take, Nat.min_eq_left (by omega), val_single]
theorem val_set (b : Nat) (l : List Nat) (i d : Nat) (hi : i < l.length) : val b (l.set i d) + b ^ i * l[i] = val b l + b ^ i * d := by
  induction l generalizing i with
  | nil => simp at hi
  | cons x l ih =>
    cases i with
    | zero => simp [val]; omega
    | succ i =>
      have := ih i (by simpa using hi)
      simp only [List.set_cons_succ, val, List.getElem_cons_succ, Nat.pow_succ]
      have h2 := congrArg (b * ·) this
      simp only [Nat.mul_add] at h2
      rw [Nat.mul_comm (b ^ i) b, Nat.mul_assoc, Nat.mul_assoc]
      omega

/-- m digits of a number -/
def dg (b n : Nat) : Nat → List Nat
  | 0 => []
  | m + 1 => n % b :: dg b (n / b) m
theorem dg_len (b m : Nat) : ∀ n, (dg b n m).length = m := by
  induction m with
  | zero => intro n; rfl
  | succ m ih => intro n; simp [dg, ih]
theorem dg_bd {b : Nat} (hb : 0 < b) (m : Nat) : ∀ n, Bd b (dg b n m) := by
  induction m with
  | zero => intro n; exact .nil
  | succ m ih => intro n; exact .cons (Nat.mod_lt _ hb) (ih _)
theorem dg_val (b m : Nat) : ∀ n, val b (dg b n m) = n % b ^ m := by
  induction m with
  | zero => intro n; simp [dg, val, Nat.mod_one]
  | succ m ih =>
    intro n
    simp only [dg, val, ih, Nat.pow_succ]
    rw [Nat.mul_comm (b ^ m) b, Nat.mod_mul]
theorem div_cons {b d n : Nat} (h : d < b) : (d + b * n) % b = d ∧ (d + b * n) / b = n := by
  have hb : 0 < b := by omega
  exact ⟨by rw [Nat.add_mul_mod_self_left, Nat.mod_eq_of_lt h], by rw [Nat.add_mul_div_left _ _ hb, Nat.div_eq_of_lt h, Nat.zero_add]⟩
theorem dg_of_val {b : Nat} {l : List Nat} (h : Bd b l) : l = dg b (val b l) l.length := by
  induction l with
  | nil => rfl
  | cons d l ih =>
    simp only [val, List.length_cons, dg]
    rw [(div_cons h.head).1, (div_cons h.head).2, ← ih h.tail]
theorem val_inj {b : Nat} {l m : List Nat} (hl : Bd b l) (hm : Bd b m) (hlen : l.length = m.length) (h : val b l = val b m) : l = m := by
  rw [dg_of_val hl, dg_of_val hm, h, hlen]
theorem dg_get (b m : Nat) : ∀ n i, i < m → (dg b n m)[i]? = some (n / b ^ i % b) := by
  induction m with
  | zero => intro n i h; omega
  | succ m ih =>
    intro n i h
    cases i with
    | zero => simp [dg]
    | succ i =>
      simp only [dg, List.getElem?_cons_succ]
      rw [ih _ i (by omega), Nat.div_div_eq_div_mul, Nat.pow_succ, Nat.mul_comm b]

/-- without the zeros at the end -/
def trimL (l : List Nat) : List Nat := (l.reverse.dropWhile (· == 0)).reverse
theorem trimL_snoc0 (l : List Nat) : trimL (l ++ [0]) = trimL l := by
  simp [trimL]
theorem trimL_snoc {l : List Nat} {d : Nat} (h : d ≠ 0) : trimL (l ++ [d]) = l ++ [d] := by
  simp [trimL, h]
theorem trimL_nil : trimL [] = [] := rfl

def digsF (b : Nat) : Nat → Nat → List Nat
  | 0, _ => []
  | k + 1, n => if n = 0 then [] else n % b :: digsF b k (n / b)
/-- the digits of a number -/
def digs (b n : Nat) : List Nat := digsF b n n
theorem digsF_eq {b : Nat} (hb : 1 < b) : ∀ (n k m : Nat), n ≤ k → n ≤ m → digsF b k n = digsF b m n := by
  intro n
  induction n using Nat.strongRecOn with
  | _ n ih =>
    intro k m hk hm
    by_cases h : n = 0
    · subst h
      cases k <;> cases m <;> simp [digsF]
    · obtain ⟨k, rfl⟩ : ∃ k', k = k' + 1 := ⟨k - 1, by omega⟩
      obtain ⟨m, rfl⟩ : ∃ m', m = m' + 1 := ⟨m - 1, by omega⟩
      simp only [digsF, if_neg h]
      have hlt := Nat.div_lt_self (Nat.pos_of_ne_zero h) hb
      rw [ih _ hlt k m (by omega) (by omega)]
theorem digs_zero (b : Nat) : digs b 0 = [] := rfl
section
variable {b : Nat} (hb : 1 < b)
include hb
theorem digs_pos {n : Nat} (h : n ≠ 0) : digs b n = n % b :: digs b (n / b) := by
  obtain ⟨k, rfl⟩ : ∃ k, n = k + 1 := ⟨n - 1, by omega⟩
  unfold digs
  simp only [digsF, if_neg h]
  have hlt := Nat.div_lt_self (Nat.pos_of_ne_zero h) hb
  rw [digsF_eq hb _ k _ (by omega) (Nat.le_refl _)]
theorem digs_val (n : Nat) : val b (digs b n) = n := by
  induction n using Nat.strongRecOn with
  | _ n ih =>
    by_cases h : n = 0
    · subst h; rfl
    · rw [digs_pos hb h, val, ih _ (Nat.div_lt_self (by omega) hb)]
      exact Nat.mod_add_div n b
theorem digs_bd (n : Nat) : Bd b (digs b n) := by
  induction n using Nat.strongRecOn with
  | _ n ih =>
    by_cases h : n = 0
    · subst h; exact .nil
    · rw [digs_pos hb h]
      exact .cons (Nat.mod_lt _ (by omega)) (ih _ (Nat.div_lt_self (by omega) hb))
theorem digs_eq_nil {n : Nat} : digs b n = [] ↔ n = 0 := by
  constructor
  · intro h
    have := digs_val hb n
    rw [h] at this
    exact this.symm
  · rintro rfl
    rfl
theorem digs_last (n : Nat) : ∀ l d, digs b n = l ++ [d] → d ≠ 0 := by
  induction n using Nat.strongRecOn with
  | _ n ih =>
    intro l d h
    by_cases h0 : n = 0
    · subst h0
      rw [digs_zero] at h
      simp at h
    · rw [digs_pos hb h0] at h
      cases l with
      | nil =>
        simp only [List.nil_append, List.cons.injEq] at h
        obtain ⟨h1, h2⟩ := h
        have h3 : n / b = 0 := (digs_eq_nil hb).1 h2
        have h5 : n < b := by
          rcases Nat.div_eq_zero_iff.1 h3 with h6 | h6
          · omega
          · exact h6
        rw [← h1, Nat.mod_eq_of_lt h5]
        exact h0
      | cons x l =>
        simp only [List.cons_append, List.cons.injEq] at h
        exact ih _ (Nat.div_lt_self (by omega) hb) l d h.2
/-- digits without zeros at the end are those of their value -/
theorem eq_digs {l : List Nat} (h : Bd b l) (hl : ∀ m d, l = m ++ [d] → d ≠ 0) : l = digs b (val b l) := by
  induction l with
  | nil => rfl
  | cons d l ih =>
    have hlt : ∀ m e, l = m ++ [e] → e ≠ 0 := fun m e he => hl (d :: m) e (by rw [he]; rfl)
    have hne : d + b * val b l ≠ 0 := by
      intro h0
      have hd : d = 0 := by omega
      have hv : val b l = 0 := by
        have : b * val b l = 0 := by omega
        rcases Nat.mul_eq_zero.1 this with h2 | h2
        · omega
        · exact h2
      cases hl2 : l with
      | nil =>
        subst hl2
        exact hl [] d rfl hd
      | cons x t =>
        have := ih h.tail hlt
        rw [hv, digs_zero, hl2] at this
        cases this
    rw [val, digs_pos hb hne, (div_cons h.head).1, (div_cons h.head).2, ← ih h.tail hlt]
omit hb in
theorem snoc_cases {α : Type} (l : List α) : l = [] ∨ ∃ m d, l = m ++ [d] := by
  rcases List.eq_nil_or_concat l with h | ⟨m, d, h⟩
  · exact .inl h
  · exact .inr ⟨m, d, by rw [h]; simp⟩
theorem trimL_digs {l : List Nat} : Bd b l → trimL l = digs b (val b l) := by
  intro h
  generalize hn : l.length = n
  induction n generalizing l with
  | zero =>
    have : l = [] := List.eq_nil_of_length_eq_zero hn
    subst this
    rfl
  | succ n ih =>
    rcases snoc_cases l with rfl | ⟨m, d, rfl⟩
    · simp at hn
    · by_cases hd : d = 0
      · subst hd
        rw [trimL_snoc0, ih h.left (by simpa using hn), val_append]
        simp [val]
      · rw [trimL_snoc hd]
        refine eq_digs hb h ?_
        intro m' d' e
        have := List.append_inj' e rfl
        simp at this
        rw [← this.2]
        exact hd
theorem digs_len_lt {x y : Nat} (h : (digs b x).length < (digs b y).length) : x < y := by
  rcases snoc_cases (digs b y) with hy | ⟨m, d, hy⟩
  · rw [hy] at h; simp at h
  · have h1 := val_lt (digs_bd hb x)
    rw [digs_val hb] at h1
    have h2 := digs_val hb y
    rw [hy, val_append] at h2
    have h3 := digs_last hb y m d hy
    have h4 : (digs b x).length ≤ m.length := by rw [hy] at h; simp at h; omega
    have h5 : b ^ (digs b x).length ≤ b ^ m.length := Nat.pow_le_pow_right (by omega) h4
    have h6 : b ^ m.length * 1 ≤ b ^ m.length * val b [d] := Nat.mul_le_mul_left _ (by simp [val]; omega)
    omega
theorem lt_of_len {n k : Nat} (h : (digs b n).length ≤ k) : n < b ^ k := by
  have h1 := val_lt (digs_bd hb n)
  rw [digs_val hb] at h1
  exact Nat.lt_of_lt_of_le h1 (Nat.pow_le_pow_right (by omega) h)
theorem len_of_lt {n k : Nat} (h : n < b ^ k) : (digs b n).length ≤ k := by
  induction k generalizing n with
  | zero =>
    have : n = 0 := by simpa using h
    subst this
    simp [digs_zero]
  | succ k ih =>
    by_cases h0 : n = 0
    · subst h0; simp [digs_zero]
    · rw [digs_pos hb h0, List.length_cons]
      have : n / b < b ^ k := by
        rw [Nat.div_lt_iff_lt_mul (by omega)]
        rwa [Nat.pow_succ] at h
      have := ih this
      omega
/-- m digits, trimmed -/
theorem trim_dg {n m : Nat} (h : n < b ^ m) : trimL (dg b n m) = digs b n := by
  rw [trimL_digs hb (dg_bd (by omega) m n), dg_val, Nat.mod_eq_of_lt h]
/-- the digits of a number with zeros behind them -/
theorem digs_pad {n m : Nat} (h : n < b ^ m) : digs b n ++ List.replicate (m - (digs b n).length) 0 = dg b n m := by
  have hl := len_of_lt hb h
  refine val_inj (b := b) ((digs_bd hb n).app (zeros_bd (by omega) _)) (dg_bd (by omega) m n) ?_ ?_
  · rw [dg_len]
    simp
    omega
  · rw [val_append, val_zeros, dg_val, Nat.mod_eq_of_lt h, digs_val hb]
    simp
end
end Go.Dig
