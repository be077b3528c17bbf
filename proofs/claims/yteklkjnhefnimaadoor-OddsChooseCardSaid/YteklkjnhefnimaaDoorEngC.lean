/- The engine, part C: the values of the operations that leave the world alone; conditions are the hypotheses of each law. -/
import Derived.Test.YteklkjnhefnimaaDoorEngB
namespace Go.Eng

/-- closed facts on a type -/
def TSize (P : Program) (t k : Nat) : Prop := (P.info? t).map (·.size) = some k
def TZero (P : Program) (t : Nat) (z : Value) : Prop := (P.info? t).map (·.zero) = some (some z)
def TBytes (P : Program) (t k : Nat) : Prop := (P.info? t).map (·.bytes) = some k
/-- t is no struct and no array -/
def isOne : TypeDesc → Bool
  | .struct _ => false
  | .array _ _ => false
  | _ => true
def isMany : TypeDesc → Bool
  | .struct _ => true
  | .array _ _ => true
  | _ => false

section
variable {P : Program} {w : World}
theorem TSize.run {t k : Nat} (h : TSize P t k) : (sizeOf t).run P w = .ok k w := by
  unfold TSize at h
  cases hi : P.info? t with
  | none => simp [hi] at h
  | some i => simp [hi] at h; simp [sizeOf, typeInfo, hi, h]
theorem TZero.run {t : Nat} {z : Value} (h : TZero P t z) : (zeroValue t).run P w = .ok z w := by
  unfold TZero at h
  cases hi : P.info? t with
  | none => simp [hi] at h
  | some i => simp [hi] at h; simp [zeroValue, typeInfo, hi, h]
theorem TBytes.ex {t k : Nat} (h : TBytes P t k) : ∃ i, P.info? t = some i ∧ i.bytes = k := by
  unfold TBytes at h
  cases hi : P.info? t with
  | none => simp [hi] at h
  | some i => simp [hi] at h; exact ⟨i, rfl, h⟩
theorem run_und {t : Nat} {d : TypeDesc} (h : P.underlying t = some d) : (underlying t).run P w = .ok d w := by simp [underlying, h]
theorem run_one {t : Nat} {d : TypeDesc} (h : P.underlying t = some d) (h1 : isOne d = true) : (isAgg t).run P w = .ok false w := by
  unfold isAgg
  simp only [Sem.run_bind, run_und h, Result.andThen_ok]
  cases d <;> first | rfl | cases h1
theorem run_many {t : Nat} {d : TypeDesc} (h : P.underlying t = some d) (h1 : isMany d = true) : (isAgg t).run P w = .ok true w := by
  unfold isAgg
  simp only [Sem.run_bind, run_und h, Result.andThen_ok]
  cases d <;> first | rfl | cases h1
end

section
variable {P : Program} {n : Nat} {w : World} {F : Fr} {d : Option Tmp} {ty : TypeId} {pos : String} {aft : Array Edge} {g : Option (Nat × Bool)} {x y : Operand}

theorem pv_move : PV P n w F ⟨d, .move x, ty, pos, aft, g⟩ (ev n F x) := by simp [PV, execOp]
theorem pv_assign : PV P n w F ⟨d, .assign x, ty, pos, aft, g⟩ (ev n F x) := by simp [PV, execOp]

theorem ev_const (v : Value) : ev n F (.const v) = v := rfl
/-- c && .. -/
theorem pv_and {c b : Bool} {c' : Bool} (hx : ev n F x = .bool c) (hy : ev n F y = Sel (c' == true) (.bool b)) (hc : c = c') :
    PV P n w F ⟨d, .pick x y (.const (.bool false)), ty, pos, aft, g⟩ (.bool (c && b)) := by
  subst hc
  simp only [PV, execOp, hx, hy, asBool, ev_const]
  cases c <;> rfl
/-- c || .. -/
theorem pv_or {c b : Bool} {c' : Bool} (hx : ev n F x = .bool c) (hy : ev n F y = Sel (c' == false) (.bool b)) (hc : c = c') :
    PV P n w F ⟨d, .pick x (.const (.bool true)) y, ty, pos, aft, g⟩ (.bool (c || b)) := by
  subst hc
  simp only [PV, execOp, hx, hy, asBool, ev_const]
  cases c <;> rfl
theorem pv_and' {c b : Bool} (hx : ev n F x = .bool c) (hy : ev n F y = .bool b) : PV P n w F ⟨d, .pick x y (.const (.bool false)), ty, pos, aft, g⟩ (.bool (c && b)) := by
  simp only [PV, execOp, hx, hy, asBool, ev_const]
  cases c <;> rfl
theorem pv_or' {c b : Bool} (hx : ev n F x = .bool c) (hy : ev n F y = .bool b) : PV P n w F ⟨d, .pick x (.const (.bool true)) y, ty, pos, aft, g⟩ (.bool (c || b)) := by
  simp only [PV, execOp, hx, hy, asBool, ev_const]
  cases c <;> rfl
theorem pv_and2 {c b c' e : Bool} (hx : ev n F x = .bool c) (hy : ev n F y = Sel (b && (c' == true)) (.bool e)) (hb : b = true) (hc : c = c') : PV P n w F ⟨d, .pick x y (.const (.bool false)), ty, pos, aft, g⟩ (.bool (c && e)) := by
  subst hc hb
  simp only [PV, execOp, hx, hy, asBool, ev_const]
  cases c <;> rfl
theorem pv_or2 {c b c' e : Bool} (hx : ev n F x = .bool c) (hy : ev n F y = Sel (b && (c' == false)) (.bool e)) (hb : b = true) (hc : c = c') : PV P n w F ⟨d, .pick x (.const (.bool true)) y, ty, pos, aft, g⟩ (.bool (c || e)) := by
  subst hc hb
  simp only [PV, execOp, hx, hy, asBool, ev_const]
  cases c <;> rfl
theorem pv_not {c : Bool} {t : Nat} (hx : ev n F x = .bool c) : PV P n w F ⟨d, .unOp .not t x, ty, pos, aft, g⟩ (.bool (!c)) := by
  simp [PV, execOp, hx, Op.unary]

theorem pv_nil {a : Addr} (hx : ev n F x = .pointer (some a)) : PV P n w F ⟨d, .nilCheck x, ty, pos, aft, g⟩ (.pointer (some a)) := by
  simp [PV, execOp, hx]
theorem pv_nil_func {f : FuncId} {a b : Array Value} (hx : ev n F x = .func (.func f) a b) : PV P n w F ⟨d, .nilCheck x, ty, pos, aft, g⟩ (.func (.func f) a b) := by
  simp [PV, execOp, hx]

theorem pv_extract {vs : Array Value} {i : Nat} {v : Value} (hx : ev n F x = .tuple vs) (hv : vs[i]? = some v) : PV P n w F ⟨d, .extract x i, ty, pos, aft, g⟩ v := by
  simp [PV, execOp, hx, Instr.extract, hv]

theorem pv_func {fn : Fn} {a b : Array Operand} : PV P n w F ⟨d, .makeFunc fn a b, ty, pos, aft, g⟩ (.func fn (a.toList.map (ev n F)).toArray (b.toList.map (ev n F)).toArray) := by
  have h : ∀ a : Array Operand, a.map (ev n F) = (a.toList.map (ev n F)).toArray := fun a => by cases a; simp
  simp [PV, execOp, Instr.makeFunc, h]

/-! numbers -/
section
variable {t t' : Nat} {k : IntKind} {a b : Int}
theorem pv_add (hx : ev n F x = .int k a) (hy : ev n F y = .int k b) : PV P n w F ⟨d, .binOp .add t x y t', ty, pos, aft, g⟩ (.int k (k.wrap (a + b))) := by
  simp [PV, execOp, hx, hy, eqGuard, binOp, Op.intArith]
theorem pv_sub (hx : ev n F x = .int k a) (hy : ev n F y = .int k b) : PV P n w F ⟨d, .binOp .sub t x y t', ty, pos, aft, g⟩ (.int k (k.wrap (a - b))) := by
  simp [PV, execOp, hx, hy, eqGuard, binOp, Op.intArith]
theorem pv_mul (hx : ev n F x = .int k a) (hy : ev n F y = .int k b) : PV P n w F ⟨d, .binOp .mul t x y t', ty, pos, aft, g⟩ (.int k (k.wrap (a * b))) := by
  simp [PV, execOp, hx, hy, eqGuard, binOp, Op.intArith]
theorem pv_quo (hx : ev n F x = .int k a) (hy : ev n F y = .int k b) (hb : b ≠ 0) : PV P n w F ⟨d, .binOp .quo t x y t', ty, pos, aft, g⟩ (.int k (k.wrap (a.tdiv b))) := by
  simp [PV, execOp, hx, hy, eqGuard, binOp, Op.intDiv, hb]
theorem pv_rem (hx : ev n F x = .int k a) (hy : ev n F y = .int k b) (hb : b ≠ 0) : PV P n w F ⟨d, .binOp .rem t x y t', ty, pos, aft, g⟩ (.int k (a.tmod b)) := by
  simp [PV, execOp, hx, hy, eqGuard, binOp, Op.intDiv, hb]
theorem pv_lss (hx : ev n F x = .int k a) (hy : ev n F y = .int k b) : PV P n w F ⟨d, .binOp .lss t x y t', ty, pos, aft, g⟩ (.bool (decide (a < b))) := by
  simp [PV, execOp, hx, hy, eqGuard, binOp, Op.intCmp]
theorem pv_leq (hx : ev n F x = .int k a) (hy : ev n F y = .int k b) : PV P n w F ⟨d, .binOp .leq t x y t', ty, pos, aft, g⟩ (.bool (decide (a ≤ b))) := by
  simp [PV, execOp, hx, hy, eqGuard, binOp, Op.intCmp]
theorem pv_gtr (hx : ev n F x = .int k a) (hy : ev n F y = .int k b) : PV P n w F ⟨d, .binOp .gtr t x y t', ty, pos, aft, g⟩ (.bool (decide (b < a))) := by
  simp [PV, execOp, hx, hy, eqGuard, binOp, Op.intCmp]
theorem pv_geq (hx : ev n F x = .int k a) (hy : ev n F y = .int k b) : PV P n w F ⟨d, .binOp .geq t x y t', ty, pos, aft, g⟩ (.bool (decide (b ≤ a))) := by
  simp [PV, execOp, hx, hy, eqGuard, binOp, Op.intCmp]
theorem pv_eql (hx : ev n F x = .int k a) (hy : ev n F y = .int k b) : PV P n w F ⟨d, .binOp .eql t x y t', ty, pos, aft, g⟩ (.bool (decide (a = b))) := by
  simp [PV, execOp, hx, hy, eqGuard, binOp, Op.intCmp]
  rfl
theorem pv_neq (hx : ev n F x = .int k a) (hy : ev n F y = .int k b) : PV P n w F ⟨d, .binOp .neq t x y t', ty, pos, aft, g⟩ (.bool (!decide (a = b))) := by
  simp [PV, execOp, hx, hy, eqGuard, binOp, Op.intCmp, bne]
  rfl
theorem pv_conv {k' : IntKind} (hd : P.underlying t' = some (.int k')) (hs : ∃ q, P.underlying t = some q) (hx : ev n F x = .int k a) :
    PV P n w F ⟨d, .convert t t' x, ty, pos, aft, g⟩ (.int k' (k'.wrap a)) := by
  obtain ⟨q, hq⟩ := hs
  simp [PV, execOp, hx, convert, run_und hq, run_und hd, Conv.intToInt]
theorem pv_min {ts : Array TypeId} (hx : ev n F x = .int k a) (hy : ev n F y = .int k b) : PV P n w F ⟨d, .call ⟨.builtin .min, #[x, y], ts⟩, ty, pos, aft, g⟩ (.int k (min a b)) := by
  have : (if b < a then b else a) = min a b := by rw [Int.min_def]; split <;> split <;> omega
  simp [PV, execOp, resolve, invoke, builtin, Builtin.min_, Builtin.min2, hx, hy, this]
end

theorem i64_in {z : Int} (h1 : -9223372036854775808 ≤ z) (h2 : z ≤ 9223372036854775807) : IntKind.i64.wrap z = z := by
  rw [IntKind.wrap_i64]; omega
theorem i64_out {z : Int} : -9223372036854775808 ≤ IntKind.i64.wrap z ∧ IntKind.i64.wrap z ≤ 9223372036854775807 := by
  rw [IntKind.wrap_i64]; omega
theorem u8_in {z : Int} (h1 : 0 ≤ z) (h2 : z ≤ 255) : IntKind.u8.wrap z = z := by
  rw [IntKind.wrap_u8]; omega
theorem int_eq {k : IntKind} {a b : Int} (h : a = b) : Value.int k a = .int k b := by rw [h]
theorem bool_eq {a b : Bool} (h : a = b) : Value.bool a = .bool b := by rw [h]

/-! strings -/
section
variable {t t' : Nat} {a b : ByteArray}
theorem bytes_beq (a b : ByteArray) : (a.toList == b.toList) = decide (a = b) := by
  rw [Bool.eq_iff_iff]
  simp only [beq_iff_eq, decide_eq_true_eq, ByteArray.toList_eq]
  constructor
  · intro h
    cases a; cases b
    congr 1
    exact Array.toList_inj.1 h
  · rintro rfl; rfl
theorem pv_seql (hx : ev n F x = .string a) (hy : ev n F y = .string b) : PV P n w F ⟨d, .binOp .eql t x y t', ty, pos, aft, g⟩ (.bool (decide (a = b))) := by
  rw [← bytes_beq]
  simp [PV, execOp, hx, hy, eqGuard, binOp, Op.stringOp]
theorem pv_sneq (hx : ev n F x = .string a) (hy : ev n F y = .string b) : PV P n w F ⟨d, .binOp .neq t x y t', ty, pos, aft, g⟩ (.bool (!decide (a = b))) := by
  rw [← bytes_beq]
  simp [PV, execOp, hx, hy, eqGuard, binOp, Op.stringOp]
theorem pv_sadd (hx : ev n F x = .string a) (hy : ev n F y = .string b) (hl : a.size + b.size ≤ 9223372036854775807) : PV P n w F ⟨d, .binOp .add t x y t', ty, pos, aft, g⟩ (.string (a ++ b)) := by
  have hm : IntKind.i64.max = 9223372036854775807 := rfl
  simp [PV, execOp, hx, hy, eqGuard, binOp, Op.stringOp, hm]
  omega
theorem pv_lens {q : Nat} {p : TypeId} (hq : P.underlying p = some .string) (hx : ev n F x = .string a) : PV P n w F ⟨d, .call ⟨.builtin .len, #[x], #[p]⟩, q, pos, aft, g⟩ (.int .i64 a.size) := by
  simp [PV, execOp, resolve, invoke, builtin, Builtin.len_, hx, run_und hq, goInt]
theorem pv_len {q : Nat} {p : TypeId} {e : TypeId} {s : Option Addr} {m c : Nat} (hq : P.underlying p = some (.slice e)) (hx : ev n F x = .slice s m c) : PV P n w F ⟨d, .call ⟨.builtin .len, #[x], #[p]⟩, q, pos, aft, g⟩ (.int .i64 m) := by
  simp [PV, execOp, resolve, invoke, builtin, Builtin.len_, hx, run_und hq, goInt]
/-- a byte of a string, as a number -/
def bAt (s : ByteArray) (i : Nat) : Int := ((s.data.toList[i]?).getD 0).toNat
theorem bAt_lt (s : ByteArray) {i : Nat} (hi : i < s.size) : bAt s i = (s[i]'hi).toNat := by
  have : i < s.data.toList.length := by simpa using hi
  unfold bAt
  rw [List.getElem?_eq_getElem this]
  rfl
theorem pv_index_s {k : IntKind} {i : Nat} (hq : P.underlying t = some .string) (hx : ev n F x = .string a) (hy : ev n F y = .int k i) (hi : i < a.size) :
    PV P n w F ⟨d, .index t x y, ty, pos, aft, g⟩ (.int .u8 (bAt a i)) := by
  have : a[i]? = some (a[i]'hi) := by simp [hi]
  simp [PV, execOp, Instr.index, hx, hy, asIntOf, run_und hq, this, bAt_lt a hi]
end

/-! addresses -/
theorem addr_add (b o k : Nat) : (⟨b, o, none⟩ : Addr).add k = ⟨b, o + k, none⟩ := by
  unfold Addr.add
  split
  · rename_i h; subst h; rfl
  · rfl
theorem pv_field {s : TypeId} {fs : Array Field} {f : Field} {i b o k : Nat} (hs : P.underlying s = some (.struct fs)) (hf : fs[i]? = some f) (hk : TSize P f.type (k + 1)) (hx : ev n F x = .pointer (some ⟨b, o, none⟩)) :
    PV P n w F ⟨d, .fieldAddr s x i, ty, pos, aft, g⟩ (.pointer (some ⟨b, o + f.offset, none⟩)) := by
  simp [PV, execOp, Instr.fieldAt, hx, run_und hs, hf, Instr.sureAddr, fieldPlace, hk.run, addr_add]
/-- a closed fact: field i of s lies at off and has k + 1 cells -/
def FieldAt (P : Program) (s i off k : Nat) : Prop := (match P.underlying s with
  | some (.struct fs) => (fs[i]?).map (fun f => (f.offset, (P.info? f.type).map (·.size)))
  | _ => none) = some (off, some (k + 1))
theorem pv_fieldAt {s i b o off k : Nat} (h : FieldAt P s i off k) (hx : ev n F x = .pointer (some ⟨b, o, none⟩)) :
    PV P n w F ⟨d, .fieldAddr s x i, ty, pos, aft, g⟩ (.pointer (some ⟨b, o + off, none⟩)) := by
  unfold FieldAt at h
  split at h
  · rename_i fs hs
    cases hf : fs[i]? with
    | none => simp [hf] at h
    | some f =>
      simp [hf] at h
      obtain ⟨rfl, h2⟩ := h
      refine pv_field (k := k) hs hf ?_ hx
      unfold TSize
      simpa using h2
  · cases h
theorem pv_index {t e k m c b o i : Nat} {q : IntKind} {s : Option Addr} (ht : P.underlying t = some (.slice e)) (hk : TSize P e k) (hx : ev n F x = .slice s m c) (hy : ev n F y = .int q i) (hs : s = some ⟨b, o, none⟩) (hi : i < m) :
    PV P n w F ⟨d, .indexAddr t x y, ty, pos, aft, g⟩ (.pointer (some ⟨b, o + i * k, none⟩)) := by
  subst hs
  have h1 : (i : Int) < (m : Int) := by omega
  simp [PV, execOp, Instr.indexAt, hx, hy, asIntOf, run_und ht, hi, hk.run, addr_add]
/-- an index into an array behind its address -/
theorem pv_index_a {t e k m b o i : Nat} {q : IntKind} (ht : P.underlying t = some (.array m e)) (hk : TSize P e k) (hx : ev n F x = .pointer (some ⟨b, o, none⟩)) (hy : ev n F y = .int q i) (hi : i < m) :
    PV P n w F ⟨d, .indexAddr t x y, ty, pos, aft, g⟩ (.pointer (some ⟨b, o + i * k, none⟩)) := by
  have h1 : (i : Int) < (m : Int) := by omega
  simp [PV, execOp, Instr.indexAt, Instr.sureAddr, hx, hy, asIntOf, run_und ht, hi, hk.run, addr_add]

theorem run_loadFrom (b o : Nat) : ∀ (vs : List Value) (i : Nat) (acc : Array Value), (∀ j v, vs[j]? = some v → w.cell? ⟨b, o + i + j, none⟩ = some v) →
    (loadCellsFrom ⟨b, o, none⟩ i vs.length acc).run P w = .ok (acc ++ vs.toArray) w
  | [], i, acc, _ => by simp [loadCellsFrom]
  | v :: vs, i, acc, h => by
    have h0 := h 0 v rfl
    have hr := run_loadFrom b o vs (i + 1) (acc.push v) (fun j u hu => by have := h (j + 1) u (by simpa using hu); rw [show o + (i + 1) + j = o + i + (j + 1) from by omega]; exact this)
    simp only [List.length_cons, loadCellsFrom, Sem.run_bind, addr_add]
    have hl : (load (⟨b, o + i, none⟩ : Addr)).run P w = .ok v w := by
      simp only [load, Sem.run]
      rw [show o + i = o + i + 0 from rfl, h0]
    rw [hl]
    simp only [Result.andThen_ok]
    rw [hr]
    simp

theorem pv_load {t : TypeId} {q : TypeDesc} {b o : Nat} {v : Value} (hq : P.underlying t = some q) (h1 : isOne q = true) (hx : ev n F x = .pointer (some ⟨b, o, none⟩)) (hc : w.cell? ⟨b, o, none⟩ = some v) :
    PV P n w F ⟨d, .load t x, ty, pos, aft, g⟩ v := by
  simp [PV, execOp, Instr.loadAt, hx, Instr.sureAddr, loadVar, run_one hq h1, load, Sem.run, hc]
theorem pv_loads {t : TypeId} {q : TypeDesc} {b o k : Nat} {vs : List Value} (hq : P.underlying t = some q) (h1 : isMany q = true) (hk : TSize P t k) (hx : ev n F x = .pointer (some ⟨b, o, none⟩))
    (hl : vs.length = k) (hc : ∀ j v, vs[j]? = some v → w.cell? ⟨b, o + j, none⟩ = some v) :
    PV P n w F ⟨d, .load t x, ty, pos, aft, g⟩ (.agg vs.toArray) := by
  subst hl
  have := run_loadFrom (P := P) (w := w) b o vs 0 #[] (fun j v hv => by simpa using hc j v hv)
  simp [PV, execOp, Instr.loadAt, hx, Instr.sureAddr, loadVar, run_many hq h1, loadCells, hk.run, this]

/-! parts of a slice -/
theorem run_bound {v : Value} {k : IntKind} {i m : Nat} {c : BoundsCode} (hv : v = .int k i) (h : i ≤ m) : (Instr.sliceBound v m c).run P w = .ok i w := by
  have : (i : Int) ≤ (m : Int) := by omega
  simp [Instr.sliceBound, hv, asIntOf, h]

/-! struct values -/
theorem pv_build {t : TypeId} {fs : Array Field} {ps : Array (Nat × Operand)} {zs cs : Array Value} {pl : Array (Nat × Nat)} {z : Value} (ht : P.underlying t = some (.struct fs)) (hz : TZero P t z) (hzs : z.cells = zs)
    (hpl : ∀ w, (fs.mapM (fun f => do pure (f.offset, ← sizeOf f.type) : Field → Sem (Nat × Nat))).run P w = .ok pl w) (hf : Instr.fill (pl[·]?) zs (ps.map fun (i, x) => (i, ev n F x)).toList = some cs) :
    PV P n w F ⟨d, .build t ps, ty, pos, aft, g⟩ (.agg cs) := by
  subst hzs
  simp only [PV, execOp, Instr.build, Sem.run_bind, hz.run, Result.andThen_ok, run_und ht, hpl, hf]
  rfl
end
end Go.Eng
