/- The engine, part L: made slices, parts of slices and strings, unsigned numbers, shifts and bits; conditions are the hypotheses of each law. -/
import Derived.Test.YteklkjnhefnimaaDoorEngK
import Derived.Laws.MakeOwn
import Derived.Scope
namespace Go.Eng

section
variable {P : Program} {n : Nat} {w0 w : World} {M : List Nat} {L : List Ent} {F : Fr} {d : Option Tmp} {ty : TypeId} {pos : String} {aft : Array Edge} {g : Option (Nat × Bool)} {x y : Operand}

theorem madeCells_one (z : Value) (m : Nat) : madeCells #[z] m = (List.replicate m z).toArray := by
  apply Array.ext
  · simp [madeCells]
  · intro i h1 h2
    simp [madeCells, Nat.mod_one]

/-- make([]T, m), elements of one cell -/
theorem st_make1 {α : Type} (enc : α → List Value) (x0 : α) {t e by_ m : Nat} {kl kc : IntKind} {z : Value} (hp : Hp w0 M w L) (ht : P.underlying t = some (.slice e)) (hs : TSize P e 1) (hz : TZero P e z) (hby : TBytes P e by_)
    (hx : ev n F x = .int kl m) (hy : ev n F y = .int kc m) (henc : enc x0 = [z]) (h1 : oneV z = true) (hm : m < 1000000000) (hb : Nat.ble by_ 1000 = true) :
    StepF P n ⟨d, .makeSlice t x y, ty, pos, aft, g⟩ F w (fun u w' => ∃ b, u = .slice (some ⟨b, 0, none⟩) m m ∧ SVL (some ⟨b, 0, none⟩) m (List.replicate m x0) ∧ Hp w0 M w' (ownL enc e 1 (some ⟨b, 0, none⟩) m (List.replicate m x0) :: L)) := by
  obtain ⟨inf, hinf, hib⟩ := hby.ex
  have his : inf.size = 1 := by
    unfold TSize at hs
    simpa [hinf] using hs
  have hiz : inf.zero = some z := by
    unfold TZero at hz
    simpa [hinf] using hz
  have hb' := Nat.le_of_ble_eq_true hb
  have hbm : by_ * m ≤ 1000 * 1000000000 := Nat.mul_le_mul hb' (by omega)
  have hbm' : (inf.bytes : Int) * (m : Int) ≤ 281474976710656 := by
    rw [hib]
    have : ((by_ * m : Nat) : Int) ≤ 281474976710656 := by omega
    rwa [Int.natCast_mul] at this
  have hr := run_make (P := P) w t e inf z ht hinf hiz kl kc m m (by omega) (by omega) hbm' (by omega)
  have hzc : z.cells = #[z] := by cases z <;> first | rfl | cases h1
  have hlen : (List.replicate m x0).length = m := by simp
  have hfm : (List.replicate m x0).flatMap enc = List.replicate m z := by
    clear hr hbm hbm' hm hlen hx hy
    induction m with
    | zero => rfl
    | succ m ih => rw [List.replicate_succ, List.flatMap_cons, ih, henc]; rfl
  refine stepF_val (v := .slice (some ⟨w.heap.size, 0, none⟩) m m) (w' := w.alloc (.cells (List.replicate m z).toArray e)) ?_ ⟨w.heap.size, rfl, ?_, ?_⟩
  · rw [his, hzc, Nat.mul_one, madeCells_one] at hr
    simp only [Int.toNat_natCast] at hr
    simp [execOp, hx, hy, hr]
  · unfold SVL
    rw [hlen]
    exact .inr ⟨_, m, rfl, Nat.le_refl _, by unfold maxLen; omega⟩
  · unfold ownL
    rw [hfm, hlen]
    exact hp.alloc _ ⟨_, rfl, by simp [scap], by simp⟩

/-- x[l:h] of a slice -/
theorem pv_sliceLH {t e k b o m c l h : Nat} {q q' : IntKind} {lo hi : Operand} (ht : P.underlying t = some (.slice e)) (hk : TSize P e k) (hx : ev n F x = .slice (some ⟨b, o, none⟩) m c) (hl : ev n F lo = .int q l) (hh : ev n F hi = .int q' h) (h1 : l ≤ h) (h2 : h ≤ c) (h3 : l < c) :
    PV P n w F ⟨d, .slice t x (some lo) (some hi) none, ty, pos, aft, g⟩ (.slice (some ⟨b, o + l * k, none⟩) (h - l) (c - l)) := by
  have hb1 := run_bound (P := P) (w := w) (c := .sliceAcap) hh h2
  have hb2 := run_bound (P := P) (w := w) (c := .sliceB) hl h1
  have hne : ¬ c = l := by omega
  simp [PV, execOp, Instr.sliceAt, Instr.slice, hx, run_und ht, Instr.sliceBounds, hb1, hb2, hk.run, hne, addr_add]
theorem pv_sliceHi {t e k m c h : Nat} {q : IntKind} {s : Option Addr} (ht : P.underlying t = some (.slice e)) (hk : TSize P e k) (hx : ev n F x = .slice s m c) (hy : ev n F y = .int q h) (hh : h ≤ c) :
    PV P n w F ⟨d, .slice t x none (some y) none, ty, pos, aft, g⟩ (.slice s h c) := by
  have hb := run_bound (P := P) (w := w) (c := .sliceAcap) hy hh
  have e1 : (if c = 0 then s else s.map (·.add (0 * k))) = s := by
    split
    · rfl
    · cases s <;> simp [addr_add0]
  simp only [PV, execOp, Instr.sliceAt, Instr.slice, hx, Sem.run_bind, run_und ht, Result.andThen_ok, Instr.sliceBounds, Sem.run_pure, Option.map_none, Option.map_some, hb, hk.run, if_true, Nat.sub_zero, e1]
/-- s[l:] of a string -/
theorem pv_strLo {t l : Nat} {q : IntKind} {s : ByteArray} (ht : P.underlying t = some .string) (hx : ev n F x = .string s) (hy : ev n F y = .int q l) (hl : l ≤ s.size) :
    PV P n w F ⟨d, .slice t x (some y) none none, ty, pos, aft, g⟩ (.string (s.extract l s.size)) := by
  have hb := run_bound (P := P) (w := w) (c := .sliceB) hy hl
  simp [PV, execOp, Instr.sliceAt, Instr.slice, hx, run_und ht, Instr.sliceBounds, hb]
/-- a conversion between types of strings -/
theorem pv_conv_s {t t' : Nat} {q : TypeDesc} {s : ByteArray} (ht : P.underlying t = some q) (ht' : P.underlying t' = some .string) (hx : ev n F x = .string s) : PV P n w F ⟨d, .convert t t' x, ty, pos, aft, g⟩ (.string s) := by
  cases q <;> simp [PV, execOp, hx, convert, run_und ht, run_und ht']
end

/-! unsigned numbers -/
theorem u32_nat (m : Nat) : IntKind.u32.wrap (m : Int) = ((m % 4294967296 : Nat) : Int) := by
  rw [IntKind.wrap_u32]; omega
theorem u32_in {m : Nat} (h : m < 4294967296) : IntKind.u32.wrap (m : Int) = (m : Int) := by
  rw [IntKind.wrap_u32]; omega
theorem u64_in {m : Nat} (h : m < 18446744073709551616) : IntKind.u64.wrap (m : Int) = (m : Int) := by
  rw [IntKind.wrap_u64]; omega
theorem u64_nat (m : Nat) : IntKind.u64.wrap (m : Int) = ((m % 18446744073709551616 : Nat) : Int) := by
  rw [IntKind.wrap_u64]; omega
theorem u8_nat (m : Nat) : IntKind.u8.wrap (m : Int) = ((m % 256 : Nat) : Int) := by
  rw [IntKind.wrap_u8]; omega
theorem bv_nat (k : Nat) (m : Nat) (h : m < 2 ^ k) : (BitVec.ofInt k (m : Int)).toNat = m := by
  rw [BitVec.toNat_ofInt]
  have : ((m : Int) % ((2 ^ k : Nat) : Int)) = (m : Int) := Int.emod_eq_of_lt (by omega) (by omega)
  rw [this]
  rfl
section
variable {P : Program} {n : Nat} {w : World} {F : Fr} {d : Option Tmp} {ty : TypeId} {pos : String} {aft : Array Edge} {g : Option (Nat × Bool)} {x y : Operand} {t t' : Nat}
theorem pv_shl {k q : IntKind} {a b : Int} (hx : ev n F x = .int k a) (hy : ev n F y = .int q b) (hb : 0 ≤ b) : PV P n w F ⟨d, .binOp .shl t x y t', ty, pos, aft, g⟩ (.int k (k.wrap (a * 2 ^ min b.toNat k.bits))) := by
  simp [PV, execOp, hx, hy, eqGuard, binOp, Op.shift]
  omega
theorem pv_or32 {a b : Nat} (hx : ev n F x = .int .u32 a) (hy : ev n F y = .int .u32 b) (ha : a < 4294967296) (hb : b < 4294967296) : PV P n w F ⟨d, .binOp .or t x y t', ty, pos, aft, g⟩ (.int .u32 ((a ||| b : Nat) : Int)) := by
  have h1 : (BitVec.ofInt 32 (a : Int) ||| BitVec.ofInt 32 (b : Int)).toNat = a ||| b := by
    rw [BitVec.toNat_or, bv_nat 32 a ha, bv_nat 32 b hb]
  have h2 : a ||| b < 2 ^ 32 := Nat.or_lt_two_pow ha hb
  have h3 := u32_in h2
  simp only [PV, execOp, hx, hy, eqGuard, binOp, Op.intBits]
  show Sem.run P (pure (Next.value (Value.int IntKind.u32 (IntKind.u32.wrap ((BitVec.ofInt 32 (a : Int) ||| BitVec.ofInt 32 (b : Int)).toNat : Int))))) w = _
  rw [h1, h3]
  rfl
theorem pv_or64 {a b : Nat} (hx : ev n F x = .int .u64 a) (hy : ev n F y = .int .u64 b) (ha : a < 18446744073709551616) (hb : b < 18446744073709551616) : PV P n w F ⟨d, .binOp .or t x y t', ty, pos, aft, g⟩ (.int .u64 ((a ||| b : Nat) : Int)) := by
  have h1 : (BitVec.ofInt 64 (a : Int) ||| BitVec.ofInt 64 (b : Int)).toNat = a ||| b := by
    rw [BitVec.toNat_or, bv_nat 64 a ha, bv_nat 64 b hb]
  have h2 : a ||| b < 2 ^ 64 := Nat.or_lt_two_pow ha hb
  have h3 := u64_in h2
  simp only [PV, execOp, hx, hy, eqGuard, binOp, Op.intBits]
  show Sem.run P (pure (Next.value (Value.int IntKind.u64 (IntKind.u64.wrap ((BitVec.ofInt 64 (a : Int) ||| BitVec.ofInt 64 (b : Int)).toNat : Int))))) w = _
  rw [h1, h3]
  rfl
end

/-! guards that say no -/
section
variable {P : Program} {n : Nat} {Q : Exit → Fr → World → Prop} {F : Fr} {w : World} {ops : Array Oper} {rest : List Oper} {st : Bool} {G : World → Prop}
variable {d : Nat} {op : Op} {ty : TypeId} {pos : String} {aft : Array Edge}
theorem wlpF {j : Nat} {want c : Bool} {e : Nat} (hj : gslot ops j = some e) (hc : ev n F (.tmp e) = .bool c) (hw : (c == want) = false) (h : wpl P n ops rest Q (F.put d undef) w) : wpl P n ops (⟨some d, op, ty, pos, aft, some (j, want)⟩ :: rest) Q F w := by
  refine wlg (r := undef) (v := undef) hj hc (fun e => by rw [hw] at e; cases e) (fun _ => rfl) ?_
  rw [hw]
  exact h
theorem wlpU {j : Nat} {want : Bool} {e : Nat} (hj : gslot ops j = some e) (hc : ev n F (.tmp e) = undef) (h : wpl P n ops rest Q (F.put d undef) w) : wpl P n ops (⟨some d, op, ty, pos, aft, some (j, want)⟩ :: rest) Q F w := by
  refine wlg2 (r := undef) (v := undef) (b := false) (c := false) hj hc (fun e => by cases e) (fun _ _ => rfl) ?_
  exact h
theorem wdpF {j : Nat} {want c : Bool} {e : Nat} (he : effOp op = false) (hj : gslot ops j = some e) (hc : ev n F (.tmp e) = .bool c) (hw : (c == want) = false) (h : wpd P n ops st G rest Q (F.put d undef) w) : wpd P n ops st G (⟨some d, op, ty, pos, aft, some (j, want)⟩ :: rest) Q F w := by
  refine wdg (r := undef) (v := undef) he hj hc (fun _ _ e => by rw [hw] at e; cases e) (fun _ => rfl) ?_
  rw [hw]
  exact h
theorem wdpU {j : Nat} {want : Bool} {e : Nat} (he : effOp op = false) (hj : gslot ops j = some e) (hc : ev n F (.tmp e) = undef) (h : wpd P n ops st G rest Q (F.put d undef) w) : wpd P n ops st G (⟨some d, op, ty, pos, aft, some (j, want)⟩ :: rest) Q F w := by
  refine wdg2 (r := undef) (v := undef) (b := false) (c := false) he hj hc (fun _ _ e => by cases e) (fun _ _ => rfl) ?_
  exact h
end
section
variable {P : Program} {n : Nat} {w : World} {F : Fr} {d : Option Tmp} {ty : TypeId} {pos : String} {aft : Array Edge} {g : Option (Nat × Bool)} {x y : Operand} {t t' : Nat}
theorem pv_andF (hx : ev n F x = .bool false) : PV P n w F ⟨d, .pick x y (.const (.bool false)), ty, pos, aft, g⟩ (.bool false) := by
  simp only [PV, execOp, hx, asBool, ev_const]
  rfl
theorem pv_orT (hx : ev n F x = .bool true) : PV P n w F ⟨d, .pick x (.const (.bool true)) y, ty, pos, aft, g⟩ (.bool true) := by
  simp only [PV, execOp, hx, asBool, ev_const]
  rfl
theorem pv_andT {b : Bool} (hx : ev n F x = .bool true) (hy : ev n F y = .bool b) : PV P n w F ⟨d, .pick x y (.const (.bool false)), ty, pos, aft, g⟩ (.bool b) := by
  simp only [PV, execOp, hx, hy, asBool, ev_const]
  rfl
theorem pv_orF {b : Bool} (hx : ev n F x = .bool false) (hy : ev n F y = .bool b) : PV P n w F ⟨d, .pick x (.const (.bool true)) y, ty, pos, aft, g⟩ (.bool b) := by
  simp only [PV, execOp, hx, hy, asBool, ev_const]
  rfl
/-! whole numbers -/
theorem pn_add64 {a b : Nat} (hx : ev n F x = .int .u64 (a : Int)) (hy : ev n F y = .int .u64 (b : Int)) (h : a + b < 18446744073709551616) : PV P n w F ⟨d, .binOp .add t x y t', ty, pos, aft, g⟩ (.int .u64 ((a + b : Nat) : Int)) := by
  have := pv_add (P := P) (w := w) (d := d) (ty := ty) (pos := pos) (aft := aft) (g := g) (t := t) (t' := t') hx hy
  rwa [← Int.natCast_add, u64_in h] at this
theorem pn_mul64 {a b : Nat} (hx : ev n F x = .int .u64 (a : Int)) (hy : ev n F y = .int .u64 (b : Int)) (h : a * b < 18446744073709551616) : PV P n w F ⟨d, .binOp .mul t x y t', ty, pos, aft, g⟩ (.int .u64 ((a * b : Nat) : Int)) := by
  have := pv_mul (P := P) (w := w) (d := d) (ty := ty) (pos := pos) (aft := aft) (g := g) (t := t) (t' := t') hx hy
  rwa [← Int.natCast_mul, u64_in h] at this
def sb64 (a b : Nat) : Nat := (a + 18446744073709551616 - b) % 18446744073709551616
theorem pn_sub64 {a b : Nat} (hx : ev n F x = .int .u64 (a : Int)) (hy : ev n F y = .int .u64 (b : Int)) (h : b ≤ 18446744073709551616) : PV P n w F ⟨d, .binOp .sub t x y t', ty, pos, aft, g⟩ (.int .u64 (sb64 a b : Int)) := by
  have h2 := pv_sub (P := P) (w := w) (d := d) (ty := ty) (pos := pos) (aft := aft) (g := g) (t := t) (t' := t') hx hy
  have : IntKind.u64.wrap ((a : Int) - (b : Int)) = (sb64 a b : Int) := by
    rw [IntKind.wrap_u64]
    unfold sb64
    omega
  rwa [this] at h2
theorem pn_add32 {a b : Nat} (hx : ev n F x = .int .u32 (a : Int)) (hy : ev n F y = .int .u32 (b : Int)) : PV P n w F ⟨d, .binOp .add t x y t', ty, pos, aft, g⟩ (.int .u32 (((a + b) % 4294967296 : Nat) : Int)) := by
  have := pv_add (P := P) (w := w) (d := d) (ty := ty) (pos := pos) (aft := aft) (g := g) (t := t) (t' := t') hx hy
  rwa [← Int.natCast_add, u32_nat] at this
theorem pn_shr {k q : IntKind} {a b : Nat} (hx : ev n F x = .int k (a : Int)) (hy : ev n F y = .int q (b : Int)) (hb : b ≤ k.bits) : PV P n w F ⟨d, .binOp .shr t x y t', ty, pos, aft, g⟩ (.int k ((a / 2 ^ b : Nat) : Int)) := by
  have h2 := pv_shr (P := P) (w := w) (d := d) (ty := ty) (pos := pos) (aft := aft) (g := g) (t := t) (t' := t') hx hy (by omega)
  have e : (a : Int).fdiv (2 ^ min (b : Int).toNat k.bits) = ((a / 2 ^ b : Nat) : Int) := by
    rw [Int.toNat_natCast, Nat.min_eq_left hb, Int.fdiv_eq_ediv_of_nonneg _ (Int.le_of_lt (Int.pow_pos (by decide)))]
    rw [show ((2 : Int) ^ b) = ((2 ^ b : Nat) : Int) from by simp]
    exact (Int.natCast_ediv a (2 ^ b)).symm
  rwa [e] at h2
theorem pn_shl64 {q : IntKind} {a b : Nat} (hx : ev n F x = .int .u64 (a : Int)) (hy : ev n F y = .int q (b : Int)) (hb : b ≤ 64) (h : a * 2 ^ b < 18446744073709551616) : PV P n w F ⟨d, .binOp .shl t x y t', ty, pos, aft, g⟩ (.int .u64 ((a * 2 ^ b : Nat) : Int)) := by
  have h2 := pv_shl (P := P) (w := w) (d := d) (ty := ty) (pos := pos) (aft := aft) (g := g) (t := t) (t' := t') hx hy (by omega)
  have e : (a : Int) * 2 ^ min (b : Int).toNat IntKind.u64.bits = ((a * 2 ^ b : Nat) : Int) := by
    rw [Int.toNat_natCast, show IntKind.u64.bits = 64 from rfl, Nat.min_eq_left hb]
    simp
  rwa [e, u64_in h] at h2
theorem pn_shl32 {q : IntKind} {a b : Nat} (hx : ev n F x = .int .u32 (a : Int)) (hy : ev n F y = .int q (b : Int)) (hb : b ≤ 32) : PV P n w F ⟨d, .binOp .shl t x y t', ty, pos, aft, g⟩ (.int .u32 ((a * 2 ^ b % 4294967296 : Nat) : Int)) := by
  have h2 := pv_shl (P := P) (w := w) (d := d) (ty := ty) (pos := pos) (aft := aft) (g := g) (t := t) (t' := t') hx hy (by omega)
  have e : (a : Int) * 2 ^ min (b : Int).toNat IntKind.u32.bits = ((a * 2 ^ b : Nat) : Int) := by
    rw [Int.toNat_natCast, show IntKind.u32.bits = 32 from rfl, Nat.min_eq_left hb]
    simp
  rwa [e, u32_nat] at h2
end
theorem sl_eq {s : Option Addr} {m m' c : Nat} (h : m = m') : Value.slice s m c = .slice s m' c := by rw [h]
theorem ndt {p : Prop} [Decidable p] (h : ¬ p) : (!decide p) = true := by simp [h]
theorem ndf {p : Prop} [Decidable p] (h : p) : (!decide p) = false := by simp [h]
theorem SlAt.pre {α : Type} {w : World} {k : Nat} {enc : α → List Value} {s : Option Addr} {l l' : List α} (h : SlAt w k enc s l) (hp : l' <+: l) : SlAt w k enc s l' := by
  intro i x hx
  refine h i x ?_
  obtain ⟨t, rfl⟩ := hp
  rw [List.getElem?_append_left (by rcases Nat.lt_or_ge i l'.length with h | h; exact h; rw [List.getElem?_eq_none h] at hx; cases hx)]
  exact hx
/-! scopes without jumps -/
def ngQ (Q : Exit → Fr → World → Prop) : Exit → Fr → World → Prop := fun e F w => match e with
  | .goto _ => False
  | e => Q e F w
section
variable {P : Program} {n : Nat} {Q : Exit → Fr → World → Prop} {F : Fr} {w : World}
theorem WP_scope {c : Code} (h : WP P n c (ngQ Q) F w) : WP P n (.scope c) Q F w := by
  refine wp_scope_straight (wp_mono h ?_)
  rintro e a w ⟨F, rfl, h2⟩
  cases e <;> first | exact h2.elim | exact ⟨F, rfl, h2⟩
theorem ngQ_n (h : Q .normal F w) : ngQ Q .normal F w := h
theorem ngQ_ret (h : Q .ret F w) : ngQ Q .ret F w := h
end
end Go.Eng
