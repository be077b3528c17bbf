/- Sums, differences and products of digits, comparison, strings of bytes (plain laws, no program); conditions are the hypotheses of each law. -/
import Derived.Test.YteklkjnhefnimaaDoorNa
namespace Go.Dig

theorem mod_step (b n i : Nat) : n % b ^ (i + 1) = n % b ^ i + b ^ i * (n / b ^ i % b) := Nat.mod_pow_succ
theorem digs_get {b : Nat} (hb : 1 < b) {n i : Nat} (hi : i < (digs b n).length) : (digs b n)[i] = n / b ^ i % b := by
  have h1 : digs b n = dg b n (digs b n).length := by
    have := dg_of_val (digs_bd hb n)
    rwa [digs_val hb] at this
  have h2 := dg_get b (digs b n).length n i hi
  rw [← h1, List.getElem?_eq_getElem hi] at h2
  simpa using h2
theorem digs_beyond {b : Nat} (hb : 1 < b) {n i : Nat} (hi : (digs b n).length ≤ i) : n / b ^ i % b = 0 := by
  rw [Nat.div_eq_of_lt (lt_of_len hb hi), Nat.zero_mod]
/-- a digit of a sum -/
theorem add_step {b x y i c z c' V : Nat} (h : V + c * b ^ i = x % b ^ i + y % b ^ i) (hz : z + b * c' = c + x / b ^ i % b + y / b ^ i % b) : (V + b ^ i * z) + c' * b ^ (i + 1) = x % b ^ (i + 1) + y % b ^ (i + 1) := by
  rw [mod_step, mod_step, Nat.pow_succ]
  have h2 := congrArg (b ^ i * ·) hz
  simp only [Nat.mul_add] at h2
  have e1 : c' * (b ^ i * b) = b ^ i * (b * c') := by rw [Nat.mul_comm, Nat.mul_assoc]
  have e2 : c * b ^ i = b ^ i * c := Nat.mul_comm _ _
  omega
/-- a digit of a difference -/
theorem sub_step {b x y i c z c' V : Nat} (h : V + y % b ^ i = x % b ^ i + c * b ^ i) (hz : z + c + y / b ^ i % b = x / b ^ i % b + b * c') : (V + b ^ i * z) + y % b ^ (i + 1) = x % b ^ (i + 1) + c' * b ^ (i + 1) := by
  rw [mod_step, mod_step, Nat.pow_succ]
  have h2 := congrArg (b ^ i * ·) hz
  simp only [Nat.mul_add] at h2
  have e1 : c' * (b ^ i * b) = b ^ i * (b * c') := by rw [Nat.mul_comm, Nat.mul_assoc]
  have e2 : c * b ^ i = b ^ i * c := Nat.mul_comm _ _
  omega
theorem sub_end {b x y n c V : Nat} (h : V + y % b ^ n = x % b ^ n + c * b ^ n) (hx : x < b ^ n) (hy : y ≤ x) (hV : V < b ^ n) : V = x - y := by
  rw [Nat.mod_eq_of_lt hx, Nat.mod_eq_of_lt (by omega)] at h
  cases c with
  | zero => omega
  | succ c =>
    rw [Nat.succ_mul] at h
    have := Nat.zero_le (c * b ^ n)
    omega
/-- comparing two numbers by their digits from the top -/
theorem cmp_top {b x y i : Nat} (h : ∀ j, i < j → x / b ^ j % b = y / b ^ j % b) {n : Nat} (hb : 0 < b) (hx : x < b ^ n) (hy : y < b ^ n) : x / b ^ (i + 1) = y / b ^ (i + 1) := by
  have up : ∀ m, ∀ j, i + 1 ≤ j → j + m = max n (i + 1) → x / b ^ j = y / b ^ j := by
    intro m
    induction m with
    | zero =>
      intro j hj hm
      have hjn : n ≤ j := by omega
      have h1 : x < b ^ j := Nat.lt_of_lt_of_le hx (Nat.pow_le_pow_right hb hjn)
      have h2 : y < b ^ j := Nat.lt_of_lt_of_le hy (Nat.pow_le_pow_right hb hjn)
      rw [Nat.div_eq_of_lt h1, Nat.div_eq_of_lt h2]
    | succ m ih =>
      intro j hj hm
      have h1 := ih (j + 1) (by omega) (by omega)
      have h2 := h j (by omega)
      rw [← Nat.div_add_mod (x / b ^ j) b, ← Nat.div_add_mod (y / b ^ j) b, Nat.div_div_eq_div_mul, Nat.div_div_eq_div_mul, ← Nat.pow_succ, h1, h2]
  exact up (max n (i + 1) - (i + 1)) (i + 1) (Nat.le_refl _) (by omega)
theorem div_step (b x i : Nat) : x / b ^ i = b * (x / b ^ (i + 1)) + x / b ^ i % b := by
  rw [Nat.pow_succ, ← Nat.div_div_eq_div_mul]
  exact (Nat.div_add_mod _ _).symm
theorem lt_of_digit {b x y i : Nat} (hb : 0 < b) (h : x / b ^ (i + 1) = y / b ^ (i + 1)) (hd : x / b ^ i % b < y / b ^ i % b) : x < y := by
  have h1 : x / b ^ i < y / b ^ i := by
    rw [div_step b x i, div_step b y i, h]
    omega
  have hp : 0 < b ^ i := Nat.pow_pos hb
  have h2 := Nat.div_mul_le_self y (b ^ i)
  have h3 := Nat.lt_mul_div_succ x hp
  have h4 : b ^ i * (x / b ^ i + 1) ≤ b ^ i * (y / b ^ i) := Nat.mul_le_mul_left _ h1
  rw [Nat.mul_comm (y / b ^ i)] at h2
  omega
/-- a row of a product: carry c, digit d of x times the digits of y below j; the digit at i + j turns from old to z -/
theorem mul_step {b V V' c d y j i z c' old P : Nat} (h : V + c * b ^ (i + j) = P + d * (y % b ^ j) * b ^ i) (hz : z + b * c' = c + d * (y / b ^ j % b) + old) (hs : V' + b ^ (i + j) * old = V + b ^ (i + j) * z) :
    V' + c' * b ^ (i + (j + 1)) = P + d * (y % b ^ (j + 1)) * b ^ i := by
  rw [mod_step]
  have e0 : i + (j + 1) = (i + j) + 1 := by omega
  have e1 : c' * b ^ (i + (j + 1)) = b ^ (i + j) * (b * c') := by rw [e0, Nat.pow_succ, Nat.mul_comm, Nat.mul_assoc]
  have e2 : d * (y % b ^ j + b ^ j * (y / b ^ j % b)) * b ^ i = d * (y % b ^ j) * b ^ i + b ^ (i + j) * (d * (y / b ^ j % b)) := by
    rw [Nat.mul_add, Nat.add_mul]
    congr 1
    rw [Nat.pow_add]
    ac_rfl
  have h2 := congrArg (b ^ (i + j) * ·) hz
  simp only [Nat.mul_add] at h2
  have e3 : c * b ^ (i + j) = b ^ (i + j) * c := Nat.mul_comm _ _
  rw [e1, e2]
  omega
theorem mul_row {b x y i : Nat} : x % b ^ (i + 1) * y = x % b ^ i * y + (x / b ^ i % b) * y * b ^ i := by
  rw [mod_step, Nat.add_mul]
  congr 1
  ac_rfl
/-- a product of digits with two others fits into two digits -/
theorem mul_fit {b c d e o : Nat} (hc : c < b) (hd : d < b) (he : e < b) (ho : o < b) : c + d * e + o < b * b := by
  have h1 : d * e ≤ (b - 1) * (b - 1) := Nat.mul_le_mul (by omega) (by omega)
  obtain ⟨m, rfl⟩ : ∃ m, b = m + 1 := ⟨b - 1, by omega⟩
  simp only [Nat.add_sub_cancel] at h1
  have h2 : (m + 1) * (m + 1) = m * m + m + m + 1 := by
    rw [Nat.mul_add, Nat.add_mul]
    omega
  omega
/-- what a number says of digits above it -/
theorem val_high {b : Nat} {l : List Nat} (hb : 0 < b) {k : Nat} (hv : val b l < b ^ k) {i : Nat} (hi : i < l.length) (hki : k ≤ i) : l[i] = 0 := by
  have h1 := val_take_drop b l i (by omega)
  have h2 : l.drop i = l[i] :: l.drop (i + 1) := List.drop_eq_getElem_cons hi
  rw [h2, val, Nat.mul_add] at h1
  have h3 : b ^ k ≤ b ^ i := Nat.pow_le_pow_right hb hki
  by_cases h4 : l[i] = 0
  · exact h4
  · have h5 : b ^ i * 1 ≤ b ^ i * l[i] := Nat.mul_le_mul_left _ (by omega)
    omega

/-! ### strings of bytes -/
/-- the bytes of a number, the most significant one first, without zeros in front -/
def ofN (n : Nat) : ByteArray := ⟨((digs 256 n).reverse.map UInt8.ofNat).toArray⟩
theorem ofN_size (n : Nat) : (ofN n).size = (digs 256 n).length := by
  show (((digs 256 n).reverse.map UInt8.ofNat).toArray).size = _
  simp
theorem ofN_zero : ofN 0 = ⟨#[]⟩ := rfl
theorem ofN_inj {m n : Nat} (h : ofN m = ofN n) : m = n := by
  have h1 : (digs 256 m).reverse.map UInt8.ofNat = (digs 256 n).reverse.map UInt8.ofNat := by
    have := congrArg (fun a : ByteArray => a.data.toList) h
    simpa [ofN] using this
  have key : ∀ k, ((digs 256 k).reverse.map UInt8.ofNat).map UInt8.toNat = (digs 256 k).reverse := by
    intro k
    rw [List.map_map]
    conv => rhs; rw [← List.map_id (digs 256 k).reverse]
    apply List.map_congr_left
    intro d hd
    have hd' : d < 256 := digs_bd (by decide) k d (by simpa using hd)
    simp
    omega
  have h2 := congrArg (List.map UInt8.toNat) h1
  rw [key, key] at h2
  have h3 : digs 256 m = digs 256 n := List.reverse_inj.1 h2
  have := congrArg (val 256) h3
  rwa [digs_val (by decide), digs_val (by decide)] at this
end Go.Dig
