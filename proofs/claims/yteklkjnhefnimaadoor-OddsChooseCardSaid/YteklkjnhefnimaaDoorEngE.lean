/- The engine, part E: the rules in the shape in which the scripts use them; conditions are the hypotheses of each law. -/
import Derived.Test.YteklkjnhefnimaaDoorEngD
namespace Go.Eng
section
variable {P : Program} {n : Nat} {Q : Exit → Fr → World → Prop} {F : Fr} {w : World} {ops : Array Oper} {rest : List Oper} {st : Bool} {G : World → Prop}
variable {d : Nat} {op : Op} {ty : TypeId} {pos : String} {aft : Array Edge}

theorem wlp {r v : Value} (hp : PV P n w F ⟨some d, op, ty, pos, aft, none⟩ r) (hv : r = v) (h : wpl P n ops rest Q (F.put d v) w) : wpl P n ops (⟨some d, op, ty, pos, aft, none⟩ :: rest) Q F w := wpl_pure rfl hp hv h
theorem wlg {r v : Value} {j : Nat} {want c : Bool} {e : Nat} (hj : gslot ops j = some e) (hc : ev n F (.tmp e) = .bool c)
    (hp : (c == want) = true → PV P n w F ⟨some d, op, ty, pos, aft, some (j, want)⟩ r) (hv : (c == want) = true → r = v) (h : wpl P n ops rest Q (F.put d (Sel (c == want) v)) w) : wpl P n ops (⟨some d, op, ty, pos, aft, some (j, want)⟩ :: rest) Q F w := wpl_gd rfl hj hc hp hv h
theorem wlg2 {r v : Value} {j : Nat} {want b c : Bool} {e : Nat} (hj : gslot ops j = some e) (hc : ev n F (.tmp e) = Sel b (.bool c))
    (hp : b = true → (b && (c == want)) = true → PV P n w F ⟨some d, op, ty, pos, aft, some (j, want)⟩ r) (hv : b = true → (b && (c == want)) = true → r = v) (h : wpl P n ops rest Q (F.put d (Sel (b && (c == want)) v)) w) : wpl P n ops (⟨some d, op, ty, pos, aft, some (j, want)⟩ :: rest) Q F w := wpl_gd2 rfl hj hc hp hv h
theorem wdg2 {r v : Value} {j : Nat} {want b c : Bool} {e : Nat} (he : effOp op = false) (hj : gslot ops j = some e) (hc : ev n F (.tmp e) = Sel b (.bool c))
    (hp : ∀ w, G w → b = true → (b && (c == want)) = true → PV P n w F ⟨some d, op, ty, pos, aft, some (j, want)⟩ r) (hv : b = true → (b && (c == want)) = true → r = v) (h : wpd P n ops st G rest Q (F.put d (Sel (b && (c == want)) v)) w) : wpd P n ops st G (⟨some d, op, ty, pos, aft, some (j, want)⟩ :: rest) Q F w := wpd_gd2 he rfl hj hc (fun a b c d => hp c d a b) hv h
theorem wls {R : Value → World → Prop} (hs : StepF P n ⟨some d, op, ty, pos, aft, none⟩ F w R) (h : ∀ v w', R v w' → wpl P n ops rest Q (F.put d v) w') : wpl P n ops (⟨some d, op, ty, pos, aft, none⟩ :: rest) Q F w := wpl_step rfl hs h
theorem wls0 {R : Value → World → Prop} (hs : StepF P n ⟨none, op, ty, pos, aft, none⟩ F w R) (h : ∀ v w', R v w' → wpl P n ops rest Q F w') : wpl P n ops (⟨none, op, ty, pos, aft, none⟩ :: rest) Q F w := wpl_step rfl hs h
theorem wdp {r v : Value} (he : effOp op = false) (hp : ∀ w, G w → PV P n w F ⟨some d, op, ty, pos, aft, none⟩ r) (hv : r = v) (h : wpd P n ops st G rest Q (F.put d v) w) : wpd P n ops st G (⟨some d, op, ty, pos, aft, none⟩ :: rest) Q F w := wpd_pure he rfl hp hv h
theorem wdg {r v : Value} {j : Nat} {want c : Bool} {e : Nat} (he : effOp op = false) (hj : gslot ops j = some e) (hc : ev n F (.tmp e) = .bool c)
    (hp : ∀ w, G w → (c == want) = true → PV P n w F ⟨some d, op, ty, pos, aft, some (j, want)⟩ r) (hv : (c == want) = true → r = v) (h : wpd P n ops st G rest Q (F.put d (Sel (c == want) v)) w) : wpd P n ops st G (⟨some d, op, ty, pos, aft, some (j, want)⟩ :: rest) Q F w := wpd_gd he rfl hj hc (fun a b c => hp b c a) hv h
theorem wds {R : Value → World → Prop} (he : effOp op = true) (hs : StepF P n ⟨some d, op, ty, pos, aft, none⟩ F w R) (h : ∀ v w', R v w' → G w' ∧ wpd P n ops st G rest Q (F.put d v) w') : wpd P n ops st G (⟨some d, op, ty, pos, aft, none⟩ :: rest) Q F w := wpd_step he rfl hs h
theorem wds0 {R : Value → World → Prop} (he : effOp op = true) (hs : StepF P n ⟨none, op, ty, pos, aft, none⟩ F w R) (h : ∀ v w', R v w' → G w' ∧ wpd P n ops st G rest Q F w') : wpd P n ops st G (⟨none, op, ty, pos, aft, none⟩ :: rest) Q F w := wpd_step he rfl hs h
theorem wds0S {R : Value → World → Prop} (he : effOp op = true) (hn : need false ⟨none, op, ty, pos, aft, none⟩ = false) (hs : StepF P n ⟨none, op, ty, pos, aft, none⟩ F w R) (h : ∀ v w', R v w' → wpd P n ops false G rest Q F w') : wpd P n ops false G (⟨none, op, ty, pos, aft, none⟩ :: rest) Q F w := wpd_store he hn rfl hs h
theorem wdsS {R : Value → World → Prop} (he : effOp op = true) (hn : need false ⟨some d, op, ty, pos, aft, none⟩ = false) (hs : StepF P n ⟨some d, op, ty, pos, aft, none⟩ F w R) (h : ∀ v w', R v w' → wpd P n ops false G rest Q (F.put d v) w') : wpd P n ops false G (⟨some d, op, ty, pos, aft, none⟩ :: rest) Q F w := wpd_store he hn rfl hs h
theorem wlgs {v : Value} {j : Nat} {want c : Bool} {e : Nat} (hj : gslot ops j = some e) (hc : ev n F (.tmp e) = .bool c) (C : World → Prop) (hC : C w)
    (hs : (c == want) = true → StepF P n ⟨some d, op, ty, pos, aft, some (j, want)⟩ F w (fun u w' => u = v ∧ C w')) (h : ∀ w', C w' → wpl P n ops rest Q (F.put d (Sel (c == want) v)) w') :
    wpl P n ops (⟨some d, op, ty, pos, aft, some (j, want)⟩ :: rest) Q F w := wpl_gstep rfl hj hc C hC hs h
theorem wdgs {v : Value} {j : Nat} {want c : Bool} {e : Nat} (he : effOp op = true) (hj : gslot ops j = some e) (hc : ev n F (.tmp e) = .bool c) (C : World → Prop) (hC : C w)
    (hs : (c == want) = true → StepF P n ⟨some d, op, ty, pos, aft, some (j, want)⟩ F w (fun u w' => u = v ∧ C w')) (h : ∀ w', C w' → G w' ∧ wpd P n ops st G rest Q (F.put d (Sel (c == want) v)) w') :
    wpd P n ops st G (⟨some d, op, ty, pos, aft, some (j, want)⟩ :: rest) Q F w := wpd_gstep he rfl hj hc C hC hs h
end
section
variable {P : Program} {n : Nat} {w0 w : World} {M : List Nat} {L : List Ent} {F : Fr} {d : Option Tmp} {ty : TypeId} {pos : String} {aft : Array Edge} {g : Option (Nat × Bool)} {x y : Operand} {t tb : TypeId}

theorem sbox1 {c0 : Value} (hp : Hp w0 M w L) (hx : ev n F x = c0) (h1 : oneV c0 = true) : StepF P n ⟨d, .box t x, ty, pos, aft, g⟩ F w (fun u w' => ∃ b, u = .pointer (some ⟨b, 0, none⟩) ∧ Hp w0 M w' (blk b 1 (frOf [c0]) t :: L)) := st_box hp hx (by cases c0 <;> first | rfl | cases h1) rfl
theorem salloc1 {c0 : Value} (hp : Hp w0 M w L) (hz : TZero P t c0) (h1 : oneV c0 = true) : StepF P n ⟨d, .alloc t, ty, pos, aft, g⟩ F w (fun u w' => ∃ b, u = .pointer (some ⟨b, 0, none⟩) ∧ Hp w0 M w' (blk b 1 (frOf [c0]) t :: L)) := st_alloc hp hz (by cases c0 <;> first | rfl | cases h1) rfl
theorem sstore1 {c0 : Value} {b o m : Nat} {f : Fr} (hp : Hp w0 M w L) (i : Nat) (hx : ev n F x = .pointer (some ⟨b, o, none⟩)) (hy : ev n F y = c0) (h1 : oneV c0 = true) (hi : L[i]? = some (blk b m f tb)) (hk : TSize P t 1) (ho : Nat.ble (o + 1) m = true) :
    StepF P n ⟨d, .store t x y, ty, pos, aft, g⟩ F w (fun u w' => u = undef ∧ Hp w0 M w' (L.set i (blk b m (putL f o [c0]) tb))) := st_store hp i hx hy hi (by cases c0 <;> first | rfl | cases h1) hk ho (by simp [h1])
theorem sbox2 {c0 c1 : Value} (hp : Hp w0 M w L) (hx : ev n F x = (.agg #[c0, c1])) : StepF P n ⟨d, .box t x, ty, pos, aft, g⟩ F w (fun u w' => ∃ b, u = .pointer (some ⟨b, 0, none⟩) ∧ Hp w0 M w' (blk b 2 (frOf [c0, c1]) t :: L)) := st_box hp hx rfl rfl
theorem salloc2 {c0 c1 : Value} (hp : Hp w0 M w L) (hz : TZero P t (.agg #[c0, c1])) : StepF P n ⟨d, .alloc t, ty, pos, aft, g⟩ F w (fun u w' => ∃ b, u = .pointer (some ⟨b, 0, none⟩) ∧ Hp w0 M w' (blk b 2 (frOf [c0, c1]) t :: L)) := st_alloc hp hz rfl rfl
theorem sstore2 {c0 c1 : Value} {b o m : Nat} {f : Fr} (hp : Hp w0 M w L) (i : Nat) (hx : ev n F x = .pointer (some ⟨b, o, none⟩)) (hy : ev n F y = (.agg #[c0, c1])) (h1 : [c0, c1].all oneV = true) (hi : L[i]? = some (blk b m f tb)) (hk : TSize P t 2) (ho : Nat.ble (o + 2) m = true) :
    StepF P n ⟨d, .store t x y, ty, pos, aft, g⟩ F w (fun u w' => u = undef ∧ Hp w0 M w' (L.set i (blk b m (putL f o [c0, c1]) tb))) := st_store hp i hx hy hi rfl hk ho h1
theorem sbox3 {c0 c1 c2 : Value} (hp : Hp w0 M w L) (hx : ev n F x = (.agg #[c0, c1, c2])) : StepF P n ⟨d, .box t x, ty, pos, aft, g⟩ F w (fun u w' => ∃ b, u = .pointer (some ⟨b, 0, none⟩) ∧ Hp w0 M w' (blk b 3 (frOf [c0, c1, c2]) t :: L)) := st_box hp hx rfl rfl
theorem salloc3 {c0 c1 c2 : Value} (hp : Hp w0 M w L) (hz : TZero P t (.agg #[c0, c1, c2])) : StepF P n ⟨d, .alloc t, ty, pos, aft, g⟩ F w (fun u w' => ∃ b, u = .pointer (some ⟨b, 0, none⟩) ∧ Hp w0 M w' (blk b 3 (frOf [c0, c1, c2]) t :: L)) := st_alloc hp hz rfl rfl
theorem sstore3 {c0 c1 c2 : Value} {b o m : Nat} {f : Fr} (hp : Hp w0 M w L) (i : Nat) (hx : ev n F x = .pointer (some ⟨b, o, none⟩)) (hy : ev n F y = (.agg #[c0, c1, c2])) (h1 : [c0, c1, c2].all oneV = true) (hi : L[i]? = some (blk b m f tb)) (hk : TSize P t 3) (ho : Nat.ble (o + 3) m = true) :
    StepF P n ⟨d, .store t x y, ty, pos, aft, g⟩ F w (fun u w' => u = undef ∧ Hp w0 M w' (L.set i (blk b m (putL f o [c0, c1, c2]) tb))) := st_store hp i hx hy hi rfl hk ho h1
theorem sbox4 {c0 c1 c2 c3 : Value} (hp : Hp w0 M w L) (hx : ev n F x = (.agg #[c0, c1, c2, c3])) : StepF P n ⟨d, .box t x, ty, pos, aft, g⟩ F w (fun u w' => ∃ b, u = .pointer (some ⟨b, 0, none⟩) ∧ Hp w0 M w' (blk b 4 (frOf [c0, c1, c2, c3]) t :: L)) := st_box hp hx rfl rfl
theorem salloc4 {c0 c1 c2 c3 : Value} (hp : Hp w0 M w L) (hz : TZero P t (.agg #[c0, c1, c2, c3])) : StepF P n ⟨d, .alloc t, ty, pos, aft, g⟩ F w (fun u w' => ∃ b, u = .pointer (some ⟨b, 0, none⟩) ∧ Hp w0 M w' (blk b 4 (frOf [c0, c1, c2, c3]) t :: L)) := st_alloc hp hz rfl rfl
theorem sstore4 {c0 c1 c2 c3 : Value} {b o m : Nat} {f : Fr} (hp : Hp w0 M w L) (i : Nat) (hx : ev n F x = .pointer (some ⟨b, o, none⟩)) (hy : ev n F y = (.agg #[c0, c1, c2, c3])) (h1 : [c0, c1, c2, c3].all oneV = true) (hi : L[i]? = some (blk b m f tb)) (hk : TSize P t 4) (ho : Nat.ble (o + 4) m = true) :
    StepF P n ⟨d, .store t x y, ty, pos, aft, g⟩ F w (fun u w' => u = undef ∧ Hp w0 M w' (L.set i (blk b m (putL f o [c0, c1, c2, c3]) tb))) := st_store hp i hx hy hi rfl hk ho h1
theorem sbox5 {c0 c1 c2 c3 c4 : Value} (hp : Hp w0 M w L) (hx : ev n F x = (.agg #[c0, c1, c2, c3, c4])) : StepF P n ⟨d, .box t x, ty, pos, aft, g⟩ F w (fun u w' => ∃ b, u = .pointer (some ⟨b, 0, none⟩) ∧ Hp w0 M w' (blk b 5 (frOf [c0, c1, c2, c3, c4]) t :: L)) := st_box hp hx rfl rfl
theorem salloc5 {c0 c1 c2 c3 c4 : Value} (hp : Hp w0 M w L) (hz : TZero P t (.agg #[c0, c1, c2, c3, c4])) : StepF P n ⟨d, .alloc t, ty, pos, aft, g⟩ F w (fun u w' => ∃ b, u = .pointer (some ⟨b, 0, none⟩) ∧ Hp w0 M w' (blk b 5 (frOf [c0, c1, c2, c3, c4]) t :: L)) := st_alloc hp hz rfl rfl
theorem sstore5 {c0 c1 c2 c3 c4 : Value} {b o m : Nat} {f : Fr} (hp : Hp w0 M w L) (i : Nat) (hx : ev n F x = .pointer (some ⟨b, o, none⟩)) (hy : ev n F y = (.agg #[c0, c1, c2, c3, c4])) (h1 : [c0, c1, c2, c3, c4].all oneV = true) (hi : L[i]? = some (blk b m f tb)) (hk : TSize P t 5) (ho : Nat.ble (o + 5) m = true) :
    StepF P n ⟨d, .store t x y, ty, pos, aft, g⟩ F w (fun u w' => u = undef ∧ Hp w0 M w' (L.set i (blk b m (putL f o [c0, c1, c2, c3, c4]) tb))) := st_store hp i hx hy hi rfl hk ho h1
theorem sbox6 {c0 c1 c2 c3 c4 c5 : Value} (hp : Hp w0 M w L) (hx : ev n F x = (.agg #[c0, c1, c2, c3, c4, c5])) : StepF P n ⟨d, .box t x, ty, pos, aft, g⟩ F w (fun u w' => ∃ b, u = .pointer (some ⟨b, 0, none⟩) ∧ Hp w0 M w' (blk b 6 (frOf [c0, c1, c2, c3, c4, c5]) t :: L)) := st_box hp hx rfl rfl
theorem salloc6 {c0 c1 c2 c3 c4 c5 : Value} (hp : Hp w0 M w L) (hz : TZero P t (.agg #[c0, c1, c2, c3, c4, c5])) : StepF P n ⟨d, .alloc t, ty, pos, aft, g⟩ F w (fun u w' => ∃ b, u = .pointer (some ⟨b, 0, none⟩) ∧ Hp w0 M w' (blk b 6 (frOf [c0, c1, c2, c3, c4, c5]) t :: L)) := st_alloc hp hz rfl rfl
theorem sstore6 {c0 c1 c2 c3 c4 c5 : Value} {b o m : Nat} {f : Fr} (hp : Hp w0 M w L) (i : Nat) (hx : ev n F x = .pointer (some ⟨b, o, none⟩)) (hy : ev n F y = (.agg #[c0, c1, c2, c3, c4, c5])) (h1 : [c0, c1, c2, c3, c4, c5].all oneV = true) (hi : L[i]? = some (blk b m f tb)) (hk : TSize P t 6) (ho : Nat.ble (o + 6) m = true) :
    StepF P n ⟨d, .store t x y, ty, pos, aft, g⟩ F w (fun u w' => u = undef ∧ Hp w0 M w' (L.set i (blk b m (putL f o [c0, c1, c2, c3, c4, c5]) tb))) := st_store hp i hx hy hi rfl hk ho h1
theorem sbox13 {c0 c1 c2 c3 c4 c5 c6 c7 c8 c9 c10 c11 c12 : Value} (hp : Hp w0 M w L) (hx : ev n F x = (.agg #[c0, c1, c2, c3, c4, c5, c6, c7, c8, c9, c10, c11, c12])) : StepF P n ⟨d, .box t x, ty, pos, aft, g⟩ F w (fun u w' => ∃ b, u = .pointer (some ⟨b, 0, none⟩) ∧ Hp w0 M w' (blk b 13 (frOf [c0, c1, c2, c3, c4, c5, c6, c7, c8, c9, c10, c11, c12]) t :: L)) := st_box hp hx rfl rfl
theorem salloc13 {c0 c1 c2 c3 c4 c5 c6 c7 c8 c9 c10 c11 c12 : Value} (hp : Hp w0 M w L) (hz : TZero P t (.agg #[c0, c1, c2, c3, c4, c5, c6, c7, c8, c9, c10, c11, c12])) : StepF P n ⟨d, .alloc t, ty, pos, aft, g⟩ F w (fun u w' => ∃ b, u = .pointer (some ⟨b, 0, none⟩) ∧ Hp w0 M w' (blk b 13 (frOf [c0, c1, c2, c3, c4, c5, c6, c7, c8, c9, c10, c11, c12]) t :: L)) := st_alloc hp hz rfl rfl
theorem sstore13 {c0 c1 c2 c3 c4 c5 c6 c7 c8 c9 c10 c11 c12 : Value} {b o m : Nat} {f : Fr} (hp : Hp w0 M w L) (i : Nat) (hx : ev n F x = .pointer (some ⟨b, o, none⟩)) (hy : ev n F y = (.agg #[c0, c1, c2, c3, c4, c5, c6, c7, c8, c9, c10, c11, c12])) (h1 : [c0, c1, c2, c3, c4, c5, c6, c7, c8, c9, c10, c11, c12].all oneV = true) (hi : L[i]? = some (blk b m f tb)) (hk : TSize P t 13) (ho : Nat.ble (o + 13) m = true) :
    StepF P n ⟨d, .store t x y, ty, pos, aft, g⟩ F w (fun u w' => u = undef ∧ Hp w0 M w' (L.set i (blk b m (putL f o [c0, c1, c2, c3, c4, c5, c6, c7, c8, c9, c10, c11, c12]) tb))) := st_store hp i hx hy hi rfl hk ho h1
end

/-! forcing a value into its own form -/
theorem fI {r : Value} {k : IntKind} {a : Int} (h : r = .int k a) : r = .int k a := h
theorem fB {r : Value} {a : Bool} (h : r = .bool a) : r = .bool a := h
theorem fP {r : Value} {b o : Nat} (h : r = .pointer (some ⟨b, o, none⟩)) : r = .pointer (some ⟨b, o, none⟩) := h
theorem fS {r : Value} {s : Option Addr} {m c : Nat} (h : r = .slice s m c) : r = .slice s m c := h
theorem fT {r : Value} {s : ByteArray} (h : r = .string s) : r = .string s := h
theorem fF {r : Value} {f : Fn} {a b : Array Value} (h : r = .func f a b) : r = .func f a b := h
theorem fF0 {r : Value} {f : Fn} (h : r = .func f #[] #[]) : r = .func f #[] #[] := h
theorem fF1 {r : Value} {f : Fn} {a : Value} (h : r = .func f #[] #[a]) : r = .func f #[] #[a] := h
theorem fF2 {r : Value} {f : Fn} {a b : Value} (h : r = .func f #[] #[a, b]) : r = .func f #[] #[a, b] := h
theorem fF3 {r : Value} {f : Fn} {a b c : Value} (h : r = .func f #[] #[a, b, c]) : r = .func f #[] #[a, b, c] := h
theorem fM {r : Value} {s : Option Nat} (h : r = .map s) : r = .map s := h
theorem fU {r : Value} {vs : Array Value} (h : r = .tuple vs) : r = .tuple vs := h
theorem fL {r v : Value} {b : Bool} (h : r = Sel b v) : r = Sel b v := h
theorem fA1 {r c0 : Value} (h : r = .agg #[c0]) : r = .agg #[c0] := h
theorem fA2 {r c0 c1 : Value} (h : r = .agg #[c0, c1]) : r = .agg #[c0, c1] := h
theorem fA3 {r c0 c1 c2 : Value} (h : r = .agg #[c0, c1, c2]) : r = .agg #[c0, c1, c2] := h
theorem fA4 {r c0 c1 c2 c3 : Value} (h : r = .agg #[c0, c1, c2, c3]) : r = .agg #[c0, c1, c2, c3] := h
theorem fA5 {r c0 c1 c2 c3 c4 : Value} (h : r = .agg #[c0, c1, c2, c3, c4]) : r = .agg #[c0, c1, c2, c3, c4] := h
theorem fA6 {r c0 c1 c2 c3 c4 c5 : Value} (h : r = .agg #[c0, c1, c2, c3, c4, c5]) : r = .agg #[c0, c1, c2, c3, c4, c5] := h
theorem fA13 {r c0 c1 c2 c3 c4 c5 c6 c7 c8 c9 c10 c11 c12 : Value} (h : r = .agg #[c0, c1, c2, c3, c4, c5, c6, c7, c8, c9, c10, c11, c12]) : r = .agg #[c0, c1, c2, c3, c4, c5, c6, c7, c8, c9, c10, c11, c12] := h
theorem fA26 {r c0 c1 c2 c3 c4 c5 c6 c7 c8 c9 c10 c11 c12 c13 c14 c15 c16 c17 c18 c19 c20 c21 c22 c23 c24 c25 : Value} (h : r = .agg #[c0, c1, c2, c3, c4, c5, c6, c7, c8, c9, c10, c11, c12, c13, c14, c15, c16, c17, c18, c19, c20, c21, c22, c23, c24, c25]) : r = .agg #[c0, c1, c2, c3, c4, c5, c6, c7, c8, c9, c10, c11, c12, c13, c14, c15, c16, c17, c18, c19, c20, c21, c22, c23, c24, c25] := h
theorem fA39 {r c0 c1 c2 c3 c4 c5 c6 c7 c8 c9 c10 c11 c12 c13 c14 c15 c16 c17 c18 c19 c20 c21 c22 c23 c24 c25 c26 c27 c28 c29 c30 c31 c32 c33 c34 c35 c36 c37 c38 : Value} (h : r = .agg #[c0, c1, c2, c3, c4, c5, c6, c7, c8, c9, c10, c11, c12, c13, c14, c15, c16, c17, c18, c19, c20, c21, c22, c23, c24, c25, c26, c27, c28, c29, c30, c31, c32, c33, c34, c35, c36, c37, c38]) : r = .agg #[c0, c1, c2, c3, c4, c5, c6, c7, c8, c9, c10, c11, c12, c13, c14, c15, c16, c17, c18, c19, c20, c21, c22, c23, c24, c25, c26, c27, c28, c29, c30, c31, c32, c33, c34, c35, c36, c37, c38] := h
end Go.Eng
