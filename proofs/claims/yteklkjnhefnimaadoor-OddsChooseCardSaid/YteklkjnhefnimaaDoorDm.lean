/- nat: takeAway, putBack: they change the digits of a part of a list in place; conditions: lists in memory, the other list in another block. -/
import Derived.Test.YteklkjnhefnimaaDoorDl
namespace Go.Proofs.YteklkjnhefnimaaDoor
open Go.Eng Go.Dig

theorem set_mid {A m C : List Nat} {i d : Nat} (hi : i < m.length) : (A ++ m ++ C).set (A.length + i) d = A ++ m.set i d ++ C := by
  rw [List.append_assoc, List.set_append_right _ _ (by omega), show A.length + i - A.length = i from by omega, List.set_append_left _ _ hi, List.append_assoc]
theorem get_mid {A m C : List Nat} {i : Nat} (hi : i < m.length) : (A ++ m ++ C)[A.length + i]? = some m[i] := by
  rw [List.append_assoc, List.getElem?_append_right (by omega), show A.length + i - A.length = i from by omega, List.getElem?_append_left hi, List.getElem?_eq_getElem hi]
/-- the digits from i on stay what they were -/
def Tl (m m0 : List Nat) (i : Nat) : Prop := m.drop i = m0.drop i
theorem Tl.get {m m0 : List Nat} {i : Nat} (h : Tl m m0 i) (hi : i < m.length) (hi0 : i < m0.length) : m[i] = m0[i] := by
  unfold Tl at h
  rw [List.drop_eq_getElem_cons hi, List.drop_eq_getElem_cons hi0] at h
  exact (List.cons.inj h).1
theorem Tl.set {m m0 : List Nat} {i d : Nat} (h : Tl m m0 i) (hi : i < m.length) (hi0 : i < m0.length) : Tl (m.set i d) m0 (i + 1) := by
  unfold Tl at *
  rw [List.drop_eq_getElem_cons hi, List.drop_eq_getElem_cons hi0] at h
  rw [List.drop_set_of_lt (by omega)]
  exact (List.cons.inj h).2
/-- a digit of a difference with a product -/
theorem take_step {b V u v G i cy bo z cy' bo' lo T : Nat} (h : V + G * (v % b ^ i) = u % b ^ i + (cy + bo) * b ^ i) (hT : T = cy + G * (v / b ^ i % b)) (hlo : lo + b * cy' = T) (hz : z + lo + bo = u / b ^ i % b + b * bo') :
    (V + b ^ i * z) + G * (v % b ^ (i + 1)) = u % b ^ (i + 1) + (cy' + bo') * b ^ (i + 1) := by
  rw [mod_step, mod_step, Nat.pow_succ]
  have e1 : G * (v % b ^ i + b ^ i * (v / b ^ i % b)) = G * (v % b ^ i) + b ^ i * (G * (v / b ^ i % b)) := by
    rw [Nat.mul_add]
    congr 1
    ac_rfl
  have e2 : (cy' + bo') * (b ^ i * b) = b ^ i * (b * cy') + b ^ i * (b * bo') := by
    rw [Nat.add_mul]
    congr 1 <;> ac_rfl
  have e3 : (cy + bo) * b ^ i = b ^ i * cy + b ^ i * bo := by rw [Nat.add_mul, Nat.mul_comm cy, Nat.mul_comm bo]
  have h1 := congrArg (b ^ i * ·) hz
  have h2 := congrArg (b ^ i * ·) (hlo.trans hT)
  simp only [Nat.mul_add] at h1 h2
  rw [e1, e2]
  rw [e3] at h
  omega
end Go.Proofs.YteklkjnhefnimaaDoor
