/- The engine, part D: what is kept of the memory and what the call owns of it; boxes, stores, calls; conditions are the hypotheses of each law. -/
import Derived.Test.YteklkjnhefnimaaDoorEngC
namespace Go.Eng
open Go.RowKit (Below)

structure Keeps (M : List Nat) (w w' : World) : Prop where
  os : w'.os = w.os
  tape : w'.tape = w.tape
  output : w'.output = w.output
  size : w.heap.size ≤ w'.heap.size
  block : ∀ k, k < w.heap.size → k ∉ M → w'.heap[k]? = w.heap[k]?

theorem Keeps.refl {M : List Nat} {w : World} : Keeps M w w := ⟨rfl, rfl, rfl, Nat.le_refl _, fun _ _ _ => rfl⟩
theorem Keeps.below {w w' : World} (h : Keeps [] w w') : Below w.heap.size w w' := ⟨h.os, h.tape, h.output, h.size, fun k hk => h.block k hk (by simp)⟩
theorem Keeps.of_below {w w' : World} (h : Below w.heap.size w w') : Keeps [] w w' := ⟨h.os, h.tape, h.output, h.size, fun k hk _ => h.block k hk⟩
theorem Keeps.trans {M N : List Nat} {a b c : World} (h : Keeps M a b) (h2 : Keeps N b c) (hN : ∀ k ∈ N, a.heap.size ≤ k ∨ k ∈ M) : Keeps M a c :=
  ⟨h2.os.trans h.os, h2.tape.trans h.tape, h2.output.trans h.output, Nat.le_trans h.size h2.size, fun k hk hm => (h2.block k (Nat.lt_of_lt_of_le hk h.size) (fun hn => by rcases hN k hn with h1 | h1; omega; exact hm h1)).trans (h.block k hk hm)⟩
theorem Keeps.drew {M : List Nat} {w w' : World} (h : Keeps M w w') : Keeps M w w'.drew := ⟨h.os, h.tape, h.output, h.size, h.block⟩
theorem Keeps.cell {M : List Nat} {w w' : World} (h : Keeps M w w') {a : Addr} {v : Value} (hc : w.cell? a = some v) (hm : a.block ∉ M) : w'.cell? a = some v :=
  (World.cell?_of_block (h.block a.block (World.block_lt_of_cell? w a hc) hm)).trans hc
theorem keeps_alloc (w : World) (o : Obj) : Keeps [] w (w.alloc o) := ⟨rfl, rfl, rfl, by simp, fun k hk _ => Go.RowKit.Below.heap_alloc w o k hk⟩

abbrev Ent := Option Nat × (Obj → Prop)

structure Hp (w0 : World) (M : List Nat) (w : World) (L : List Ent) : Prop where
  keeps : Keeps M w0 w
  own : ∀ (i : Nat) (p : Ent), L[i]? = some p → ∀ b, p.1 = some b → w0.heap.size ≤ b ∨ b ∈ M
  has : ∀ (i : Nat) (p : Ent), L[i]? = some p → ∀ b, p.1 = some b → ∃ o, w.heap[b]? = some o ∧ p.2 o
  dis : ∀ (i j : Nat) (p q : Ent), L[i]? = some p → L[j]? = some q → i ≠ j → ∀ b, p.1 = some b → q.1 ≠ some b

section
variable {w0 w w' : World} {M : List Nat} {L : List Ent}

theorem Hp.start {w : World} : Hp w M w [] := ⟨.refl, by simp, by simp, by simp⟩
theorem Hp.of_keeps {w0 w : World} (h : Keeps M w0 w) : Hp w0 M w [] := ⟨h, by simp, by simp, by simp⟩
theorem Hp.drew (h : Hp w0 M w L) : Hp w0 M w.drew L := ⟨h.keeps.drew, h.own, h.has, h.dis⟩
theorem Hp.lt (h : Hp w0 M w L) {i : Nat} {p : Ent} (hi : L[i]? = some p) {b : Nat} (hb : p.1 = some b) : b < w.heap.size := by
  obtain ⟨o, ho, _⟩ := h.has i p hi b hb
  exact (Array.getElem?_eq_some_iff.1 ho).1

theorem Hp.call (h : Hp w0 M w L) (hk : Keeps [] w w') : Hp w0 M w' L := by
  refine ⟨h.keeps.trans hk (by simp), h.own, fun i p hi b hb => ?_, h.dis⟩
  obtain ⟨o, ho, hp⟩ := h.has i p hi b hb
  exact ⟨o, by rw [hk.block b (h.lt hi hb) (by simp)]; exact ho, hp⟩

/-- a new block that a call or an operation has made -/
theorem Hp.add (h : Hp w0 M w L) (hk : Keeps [] w w') {q : Ent} (hq : ∀ b, q.1 = some b → w.heap.size ≤ b ∧ ∃ o, w'.heap[b]? = some o ∧ q.2 o) : Hp w0 M w' (q :: L) := by
  have h' := h.call hk
  refine ⟨h'.keeps, fun i p hi b hb => ?_, fun i p hi b hb => ?_, fun i j p r hi hj hne b hb => ?_⟩
  · cases i with
    | zero => simp at hi; subst hi; exact .inl (Nat.le_trans h.keeps.size (hq b hb).1)
    | succ i => exact h.own i p (by simpa using hi) b hb
  · cases i with
    | zero => simp at hi; subst hi; exact (hq b hb).2
    | succ i => exact h'.has i p (by simpa using hi) b hb
  · cases i with
    | zero =>
      simp at hi; subst hi
      cases j with
      | zero => exact absurd rfl hne
      | succ j =>
        intro e
        have h1 := (hq b hb).1
        have h2 := h.lt (i := j) (by simpa using hj) e
        omega
    | succ i =>
      cases j with
      | zero =>
        simp at hj; subst hj
        intro e
        have h1 := (hq b e).1
        have h2 := h.lt (i := i) (by simpa using hi) hb
        omega
      | succ j => exact h.dis i j p r (by simpa using hi) (by simpa using hj) (by omega) b hb

theorem Hp.alloc (h : Hp w0 M w L) (o : Obj) {φ : Obj → Prop} (hφ : φ o) : Hp w0 M (w.alloc o) ((some w.heap.size, φ) :: L) :=
  h.add (keeps_alloc w o) (by
    intro b hb
    simp at hb
    subst hb
    exact ⟨Nat.le_refl _, o, heap_alloc_new w o, hφ⟩)

theorem Hp.tail {q : Ent} (h : Hp w0 M w (q :: L)) : Hp w0 M w L :=
  ⟨h.keeps, fun i p hi => h.own (i + 1) p (by simpa using hi), fun i p hi => h.has (i + 1) p (by simpa using hi), fun i j p r hi hj hne => h.dis (i + 1) (j + 1) p r (by simpa using hi) (by simpa using hj) (by omega)⟩

/-- a block that was there before the call and that the call may change -/
theorem Hp.adopt (h : Hp w0 M w L) {b : Nat} {q : Obj → Prop} {o : Obj} (hb : b ∈ M) (ho : w.heap[b]? = some o) (hq : q o) (hne : ∀ (i : Nat) (p : Ent), L[i]? = some p → p.1 ≠ some b) : Hp w0 M w ((some b, q) :: L) := by
  refine ⟨h.keeps, fun i p hi c hc => ?_, fun i p hi c hc => ?_, fun i j p r hi hj hij c hc => ?_⟩
  · cases i with
    | zero => simp at hi; subst hi; simp at hc; subst hc; exact .inr hb
    | succ i => exact h.own i p (by simpa using hi) c hc
  · cases i with
    | zero => simp at hi; subst hi; simp at hc; subst hc; exact ⟨o, ho, hq⟩
    | succ i => exact h.has i p (by simpa using hi) c hc
  · cases i with
    | zero =>
      simp at hi; subst hi; simp at hc; subst hc
      cases j with
      | zero => exact absurd rfl hij
      | succ j => exact hne j r (by simpa using hj)
    | succ i =>
      cases j with
      | zero =>
        simp at hj; subst hj
        intro e
        simp at e; subst e
        exact hne i p (by simpa using hi) hc
      | succ j => exact h.dis i j p r (by simpa using hi) (by simpa using hj) (by omega) c hc

/-- one entry is changed -/
theorem Hp.upd (h : Hp w0 M w L) {i : Nat} {p q : Ent} (hi : L[i]? = some p) (hk : Keeps p.1.toList w w') (hq : ∀ b, q.1 = some b → (p.1 = some b ∨ w.heap.size ≤ b) ∧ ∃ o, w'.heap[b]? = some o ∧ q.2 o) :
    Hp w0 M w' (L.set i q) := by
  have hlen : i < L.length := (List.getElem?_eq_some_iff.1 hi).1
  refine ⟨?_, fun k r hr b hb => ?_, fun k r hr b hb => ?_, fun k j r s hr hs hne b hb => ?_⟩
  · refine h.keeps.trans hk ?_
    intro k hk'
    have : p.1 = some k := by simpa [Option.mem_toList, eq_comm] using hk'
    exact h.own i p hi k this
  · rw [List.getElem?_set] at hr
    by_cases hik : i = k
    · subst hik
      simp [hlen] at hr
      subst hr
      rcases (hq b hb).1 with h1 | h1
      · exact h.own i p hi b h1
      · exact .inl (Nat.le_trans h.keeps.size h1)
    · rw [if_neg hik] at hr
      exact h.own k r hr b hb
  · rw [List.getElem?_set] at hr
    by_cases hik : i = k
    · subst hik
      simp [hlen] at hr
      subst hr
      exact (hq b hb).2
    · rw [if_neg hik] at hr
      obtain ⟨o, ho, hro⟩ := h.has k r hr b hb
      refine ⟨o, ?_, hro⟩
      rw [hk.block b (h.lt hr hb) ?_]
      · exact ho
      · intro hm
        have : p.1 = some b := by simpa [Option.mem_toList, eq_comm] using hm
        exact h.dis k i r p hr hi (fun e => hik e.symm) b hb this
  · rw [List.getElem?_set] at hr hs
    by_cases hik : i = k
    · subst hik
      rw [if_neg hne] at hs
      simp [hlen] at hr
      subst hr
      intro e
      rcases (hq b hb).1 with h1 | h1
      · exact h.dis i j p s hi hs hne b h1 e
      · have := h.lt hs e; omega
    · rw [if_neg hik] at hr
      by_cases hij : i = j
      · subst hij
        simp [hlen] at hs
        subst hs
        intro e
        rcases (hq b e).1 with h1 | h1
        · exact h.dis k i r p hr hi hne b hb h1
        · have := h.lt hr hb; omega
      · rw [if_neg hij] at hs
        exact h.dis k j r s hr hs hne b hb

/-- one entry is weakened -/
theorem Hp.weak (h : Hp w0 M w L) {i : Nat} {p : Ent} {φ : Obj → Prop} (hi : L[i]? = some p) (hφ : ∀ o, p.2 o → φ o) : Hp w0 M w (L.set i (p.1, φ)) := by
  refine h.upd hi (w' := w) .refl ?_
  intro b hb
  obtain ⟨o, ho, hp⟩ := h.has i p hi b hb
  exact ⟨.inl hb, o, ho, hφ o hp⟩

theorem Hp.old0 {w0 w : World} {L : List Ent} (h : Hp w0 [] w L) {a : Addr} {v : Value} (hc : w0.cell? a = some v) : w.cell? a = some v := h.keeps.cell hc (by simp)
theorem Hp.old (h : Hp w0 M w L) {a : Addr} {v : Value} (hc : w0.cell? a = some v) (hm : a.block ∉ M) : w.cell? a = some v := h.keeps.cell hc hm
end

/-! ### blocks whose cells are all known -/
def cellsB (m : Nat) (f : Fr) (t : TypeId) : Obj → Prop := fun o => o = .cells (Array.ofFn (n := m) fun i => f i) t (0, 0)
def blk (b m : Nat) (f : Fr) (t : TypeId) : Ent := (some b, cellsB m f t)

section
variable {w0 w w' : World} {M : List Nat} {L : List Ent}

theorem cell_blk {b m o : Nat} {f : Fr} {t : TypeId} (hb : w.heap[b]? = some (.cells (Array.ofFn (n := m) fun i => f i) t (0, 0))) (ho : o < m) : w.cell? ⟨b, o, none⟩ = some (f o) := by
  simp [World.cell?, hb, ho]

theorem Hp.cell (h : Hp w0 M w L) (i : Nat) {b m o : Nat} {f : Fr} {t : TypeId} (hi : L[i]? = some (blk b m f t)) (ho : Nat.blt o m = true) : w.cell? ⟨b, o, none⟩ = some (f o) := by
  obtain ⟨ob, h1, h2⟩ := h.has i _ hi b rfl
  have h3 : ob = .cells (Array.ofFn (n := m) fun i => f i) t (0, 0) := h2
  subst h3
  exact cell_blk h1 (lt_of_nblt ho)

/-- the cells of a block from an offset on -/
theorem Hp.cells (h : Hp w0 M w L) (i : Nat) {b m o : Nat} {f : Fr} {t : TypeId} (vs : List Value) (hi : L[i]? = some (blk b m f t)) (ho : Nat.ble (o + vs.length) m = true)
    (hv : ∀ j v, vs[j]? = some v → f (o + j) = v) : ∀ j v, vs[j]? = some v → w.cell? ⟨b, o + j, none⟩ = some v := by
  intro j v hj
  have hlt : j < vs.length := (List.getElem?_eq_some_iff.1 hj).1
  rw [h.cell i hi (nblt_true (by have := Nat.le_of_ble_eq_true ho; omega)), hv j v hj]

/-- a struct or an array in a block, whole -/
theorem Hp.agg_blk (h : Hp w0 M w L) (i : Nat) {b m o k : Nat} {f : Fr} {t : TypeId} (hi : L[i]? = some (blk b m f t)) (ho : Nat.ble (o + k) m = true) :
    ∀ (j : Nat) (v : Value), ((List.range k).map fun j => f (o + j))[j]? = some v → w.cell? ⟨b, o + j, none⟩ = some v := by
  intro j v hj
  rw [List.getElem?_map] at hj
  by_cases hlt : j < k
  · rw [List.getElem?_range hlt] at hj
    simp at hj
    rw [h.cell i hi (nblt_true (by have := Nat.le_of_ble_eq_true ho; omega)), hj]
  · rw [List.getElem?_eq_none (by simpa using hlt)] at hj
    cases hj

def putL (f : Fr) (o : Nat) : List Value → Fr
  | [] => f
  | v :: vs => putL (f.put o v) (o + 1) vs

def oneV : Value → Bool
  | .agg _ => false
  | .tuple _ => false
  | _ => true

theorem run_store1 {P : Program} {b o m : Nat} {f : Fr} {t : TypeId} {v : Value} (hb : w.heap[b]? = some (.cells (Array.ofFn (n := m) fun i => f i) t (0, 0))) (ho : o < m) (h1 : oneV v = true) :
    ∃ w', (store ⟨b, o, none⟩ v).run P w = .ok () w' ∧ Keeps [b] w w' ∧ w'.heap[b]? = some (.cells (Array.ofFn (n := m) fun i => (f.put o v) i) t (0, 0)) := by
  have hc := cell_blk hb ho
  have hf : w.frozen? ⟨b, o, none⟩ = false := by simp [World.frozen?, hb]
  refine ⟨w.setCell ⟨b, o, none⟩ v, ?_, ⟨rfl, rfl, rfl, by simp [World.setCell], fun k _ hm => ?_⟩, ?_⟩
  · cases v <;> first | (cases h1; done) | simp [store, Sem.run, hc, hf]
  · simp only [World.setCell, Array.getElem?_modify]
    rw [if_neg (by simp at hm; omega)]
  · simp only [World.setCell, Array.getElem?_modify, if_true, hb, Option.map_some]
    congr 2
    apply Array.ext
    · simp
    · intro i h1 h2
      have hi : i < m := by simpa using h2
      simp only [Option.isSome_none, Bool.false_eq_true, if_false]
      rw [Array.getElem_setIfInBounds (by simpa using hi)]
      simp only [Array.getElem_ofFn, Fr.put]
      by_cases h : o = i
      · subst h; simp
      · rw [if_neg h, nbeq_false (fun e => h e.symm)]; rfl

theorem run_stores {P : Program} {b m : Nat} {t : TypeId} : ∀ (vs : List Value) (w : World) (f : Fr) (o i : Nat), w.heap[b]? = some (.cells (Array.ofFn (n := m) fun i => f i) t (0, 0)) → o + i + vs.length ≤ m → vs.all oneV = true →
    ∃ w', (storeCells ⟨b, o, none⟩ vs i).run P w = .ok () w' ∧ Keeps [b] w w' ∧ w'.heap[b]? = some (.cells (Array.ofFn (n := m) fun j => (putL f (o + i) vs) j) t (0, 0))
  | [], w, f, o, i, hb, _, _ => ⟨w, by simp [storeCells], .refl, hb⟩
  | v :: vs, w, f, o, i, hb, hl, h1 => by
    simp only [List.all_cons, Bool.and_eq_true] at h1
    simp only [List.length_cons] at hl
    obtain ⟨w1, r1, k1, b1⟩ := run_store1 (P := P) (o := o + i) hb (by omega) h1.1
    obtain ⟨w2, r2, k2, b2⟩ := run_stores (P := P) vs w1 (f.put (o + i) v) o (i + 1) b1 (by omega) h1.2
    refine ⟨w2, ?_, k1.trans k2 (fun k hk => .inr hk), b2⟩
    simp only [storeCells, addr_add, Sem.run_bind, r1, Result.andThen_ok, r2]
end

section
variable {P : Program} {n : Nat} {w0 w : World} {M : List Nat} {L : List Ent} {F : Fr} {d : Option Tmp} {ty : TypeId} {pos : String} {aft : Array Edge} {g : Option (Nat × Bool)} {x y : Operand}

theorem stepF_val {o : Oper} {v : Value} {w' : World} {R : Value → World → Prop} (h : (execOp (ev n F) o).run P w = .ok (.value v) w') (hr : R v w') : StepF P n o F w R := .inl ⟨v, w', by rw [act_eval]; exact h, hr⟩
theorem stepF_skip {o : Oper} {w' : World} {R : Value → World → Prop} (h : (execOp (ev n F) o).run P w = .ok .skip w') (hr : R undef w') : StepF P n o F w R := .inr (.inl ⟨w', by rw [act_eval]; exact h, hr⟩)

theorem frOf_eq : ∀ (l : List Value) (i : Nat), frOf l i = l.getD i undef := by
  intro l
  induction l with
  | nil => intro i; simp [frOf]
  | cons x l ih => intro i; cases i <;> simp [frOf, ih]
theorem frOf_arr (l : List Value) : (Array.ofFn (n := l.length) fun i => frOf l i) = l.toArray := by
  apply Array.ext
  · simp
  · intro i h1 h2
    simp [frOf_eq]

theorem st_box {t : TypeId} {v : Value} {cs : List Value} {m : Nat} (hp : Hp w0 M w L) (hx : ev n F x = v) (hcs : v.cells.toList = cs) (hm : cs.length = m) :
    StepF P n ⟨d, .box t x, ty, pos, aft, g⟩ F w (fun u w' => ∃ b, u = .pointer (some ⟨b, 0, none⟩) ∧ Hp w0 M w' (blk b m (frOf cs) t :: L)) := by
  subst hm
  have hfr := frOf_arr
  refine stepF_val (v := .pointer (some ⟨w.heap.size, 0, none⟩)) (w' := w.alloc (.cells v.cells t)) ?_ ⟨_, rfl, hp.alloc _ ?_⟩
  · simp [execOp, Instr.box, newVar, newRow, newObj, hx, Sem.run]
  · show _ = _
    rw [hfr, ← hcs]

theorem st_alloc {t : TypeId} {z : Value} {cs : List Value} {m : Nat} (hp : Hp w0 M w L) (hz : TZero P t z) (hcs : z.cells.toList = cs) (hm : cs.length = m) :
    StepF P n ⟨d, .alloc t, ty, pos, aft, g⟩ F w (fun u w' => ∃ b, u = .pointer (some ⟨b, 0, none⟩) ∧ Hp w0 M w' (blk b m (frOf cs) t :: L)) := by
  have hfr := frOf_arr
  subst hm
  refine stepF_val (v := .pointer (some ⟨w.heap.size, 0, none⟩)) (w' := w.alloc (.cells z.cells t)) ?_ ⟨_, rfl, hp.alloc _ ?_⟩
  · simp only [execOp, Instr.alloc, Sem.run_bind, hz.run, Result.andThen_ok]
    simp [newVar, newRow, newObj, Sem.run]
  · show _ = _
    rw [hfr, ← hcs]

theorem st_store {t tb : TypeId} {v : Value} {cs : List Value} {b o m : Nat} {f : Fr} (hp : Hp w0 M w L) (i : Nat) (hx : ev n F x = .pointer (some ⟨b, o, none⟩)) (hy : ev n F y = v) (hi : L[i]? = some (blk b m f tb))
    (hcs : v.cells.toList = cs) (hk : TSize P t cs.length) (ho : Nat.ble (o + cs.length) m = true) (h1 : cs.all oneV = true) :
    StepF P n ⟨d, .store t x y, ty, pos, aft, g⟩ F w (fun u w' => u = undef ∧ Hp w0 M w' (L.set i (blk b m (putL f o cs) tb))) := by
  obtain ⟨ob, hb1, hb2⟩ := hp.has i _ hi b rfl
  have hb3 : ob = .cells (Array.ofFn (n := m) fun i => f i) tb (0, 0) := hb2
  subst hb3
  obtain ⟨w', hr, hk', hb'⟩ := run_stores (P := P) cs w f o 0 hb1 (by have := Nat.le_of_ble_eq_true ho; omega) h1
  refine stepF_skip (w' := w') ?_ ⟨rfl, hp.upd hi (by simpa [blk] using hk') ?_⟩
  · have hsz : v.cells.size = cs.length := by rw [← hcs]; simp
    have hk2 := hk.run (w := w)
    simp only [execOp, Instr.storeAt, hx, hy, Instr.sureAddr, storeVar, Sem.run_bind, Sem.run_pure, Result.andThen_ok, hk2, hsz, hcs]
    simp [hr]
  · intro b' hb''
    have : b' = b := by simpa [blk, eq_comm] using hb''
    subst this
    exact ⟨.inl rfl, _, hb', rfl⟩

/-! calls -/
def Ret (P : Program) (f : FuncId) (args : List Value) (w : World) (R : Value → World → Prop) : Prop := Calls P f args.toArray w (fun e w' => ∃ v, e = .returned v ∧ R v w')

theorem Ret.mono {f : FuncId} {args : List Value} {R R' : Value → World → Prop} (h : Ret P f args w R) (hr : ∀ v w', R v w' → R' v w') : Ret P f args w R' :=
  Calls.mono h fun _ _ ⟨v, he, hv⟩ => ⟨v, he, hr _ _ hv⟩

/-- a function that has a body is entered -/
def Enters (P : Program) (f : FuncId) : Prop := ∀ (args : Array Value) (w : World), (callFunc f args).run P w = .ok (.enter f args) w

theorem st_call {ts : Array TypeId} {args : Array Operand} {f : FuncId} {first caps : Array Value} {vs : List Value} {R : Value → World → Prop} (hx : ev n F x = .func (.func f) first caps) (he : Enters P f)
    (hargs : first.toList ++ args.toList.map (ev n F) ++ caps.toList = vs) (hc : Ret P f vs w R) :
    StepF P n ⟨d, .call ⟨.value x, args, ts⟩, ty, pos, aft, g⟩ F w R := by
  refine .inr (.inr ⟨f, vs.toArray, w, ?_, hc⟩)
  rw [act_eval]
  have ha : first ++ args.map (ev n F) ++ caps = vs.toArray := by
    rw [← hargs]
    simp
  simp only [execOp, resolve, Sem.run_bind, hx, Deferred.ofValue, Sem.run_pure, Result.andThen_ok, invoke]
  rw [ha]
  exact he _ _

theorem Ret.of_WP {f : FuncId} {fn : Func} {c : Code} {args : List Value} {R : Value → World → Prop} (hf : P.funcs[f]? = some fn) (hb : fn.body = some c) (hn : fn.ntmps = n) (hsz : Nat.ble args.length n = true)
    (h : WP P n c (retQ P n fn (fun e w' => ∃ v, e = .returned v ∧ R v w')) (frOf args) w) : Ret P f args w R :=
  calls_of_WP hf hb hn (Nat.le_of_ble_eq_true hsz) h
end
end Go.Eng
