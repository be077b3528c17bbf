/- Equality of rational numbers and of two flags as the program compares them; no conditions. -/
import Derived.Test.YteklkjnhefnimaaDoorEa
namespace Go.Proofs.YteklkjnhefnimaaDoor
open Go.Eng
theorem eqIn_str {P : Program} {w : World} {t : Nat} {a b : ByteArray} (ht : P.underlying t = some .string) (k : Nat) : (Op.equalIn (k + 1) t (.string a) (.string b)).run P w = .ok (decide (a = b)) w := by
  unfold Op.equalIn
  simp [run_und ht]
  exact beq_bytes a b
theorem partAt {t : Nat} {w : World} (hag : (isAgg t).run Tryd.prog w = .ok false w) (xs : Array Value) (o : Nat) (v : Value) (h : xs[o]? = some v) : (part t xs o).run Tryd.prog w = .ok v w := by
  simp [part, hag, h]
theorem eq62 (a a' : Bool) (b b' c c' : ByteArray) (w : World) : (Op.equal 62 (.agg #[.bool a, .string b, .string c]) (.agg #[.bool a', .string b', .string c'])).run Tryd.prog w = .ok ((a == a') && (decide (b = b') && decide (c = c'))) w := by
  show (Op.equalIn (9998 + 1 + 1) 62 _ _).run Tryd.prog w = _
  have hs : (Program.stoodInHeld Tryd.prog 62) = false := by kernel_rfl
  have h4 := fun (x y : Bool) => eqIn_bool (P := Tryd.prog) (w := w) (a := x) (b := y) Tryd.underlying4 9998
  have h23 := fun (x y : ByteArray) => eqIn_str (P := Tryd.prog) (w := w) (a := x) (b := y) Tryd.underlying23 9998
  have g4 : (isAgg 4).run Tryd.prog w = .ok false w := by kernel_rfl
  have g23 : (isAgg 23).run Tryd.prog w = .ok false w := by kernel_rfl
  have p0 := fun (x : Bool) (y z : ByteArray) => partAt g4 #[.bool x, .string y, .string z] 0 _ rfl
  have p1 := fun (x : Bool) (y z : ByteArray) => partAt g23 #[.bool x, .string y, .string z] 1 _ rfl
  have p2 := fun (x : Bool) (y z : ByteArray) => partAt g23 #[.bool x, .string y, .string z] 2 _ rfl
  simp only [Nat.reduceAdd] at h4 h23
  rw [Op.equalIn]
  simp only [Sem.run_bind, run_und Tryd.underlying62, Result.andThen_ok]
  simp [hs, Sem.run_bind, p0, p1, p2, h4, h23]
  cases a <;> cases a' <;> by_cases hb : b = b' <;> by_cases hc : c = c' <;> simp [hb, hc]
theorem pv_eq62 {n : Nat} {w : World} {F : Fr} {d : Option Tmp} {ty : TypeId} {pos : String} {aft : Array Edge} {g : Option (Nat × Bool)} {x y : Operand} {t' : Nat} {a a' : Bool} {b b' c c' : ByteArray}
    (hx : ev n F x = .agg #[.bool a, .string b, .string c]) (hy : ev n F y = .agg #[.bool a', .string b', .string c']) : PV Tryd.prog n w F ⟨d, .binOp .eql 62 x y t', ty, pos, aft, g⟩ (.bool ((a == a') && (decide (b = b') && decide (c = c')))) := by
  have h := eq62 a a' b b' c c' w
  have hg : Program.eqGuardType Tryd.prog Tryd.prog.depth 62 = false := by kernel_rfl
  simp [PV, execOp, hx, hy, eqGuard, hg, binOp, h]
theorem pv_ne62 {n : Nat} {w : World} {F : Fr} {d : Option Tmp} {ty : TypeId} {pos : String} {aft : Array Edge} {g : Option (Nat × Bool)} {x y : Operand} {t' : Nat} {a a' : Bool} {b b' c c' : ByteArray}
    (hx : ev n F x = .agg #[.bool a, .string b, .string c]) (hy : ev n F y = .agg #[.bool a', .string b', .string c']) : PV Tryd.prog n w F ⟨d, .binOp .neq 62 x y t', ty, pos, aft, g⟩ (.bool (!((a == a') && (decide (b = b') && decide (c = c'))))) := by
  have h := eq62 a a' b b' c c' w
  have hg : Program.eqGuardType Tryd.prog Tryd.prog.depth 62 = false := by kernel_rfl
  simp [PV, execOp, hx, hy, eqGuard, hg, binOp, h]
theorem eq102 (a b : Bool) (w : World) : (Op.equal 102 (.agg #[.bool a, .bool b]) (.agg #[.bool false, .bool false])).run Tryd.prog w = .ok (!a && !b) w := by
  cases a <;> cases b <;> kernel_rfl
theorem pv_eq102 {n : Nat} {w : World} {F : Fr} {d : Option Tmp} {ty : TypeId} {pos : String} {aft : Array Edge} {g : Option (Nat × Bool)} {x y : Operand} {t' : Nat} {a b : Bool}
    (hx : ev n F x = .agg #[.bool a, .bool b]) (hy : ev n F y = .agg #[.bool false, .bool false]) : PV Tryd.prog n w F ⟨d, .binOp .eql 102 x y t', ty, pos, aft, g⟩ (.bool (!a && !b)) := by
  have h := eq102 a b w
  have hg : Program.eqGuardType Tryd.prog Tryd.prog.depth 102 = false := by kernel_rfl
  simp [PV, execOp, hx, hy, eqGuard, hg, binOp, h]
end Go.Proofs.YteklkjnhefnimaaDoor
