/- The engine, part M: maps that the call has made, with int or string keys; conditions are the hypotheses of each law. -/
import Derived.Test.YteklkjnhefnimaaDoorEngE
namespace Go.Eng

/-- how the keys of a map are encoded -/
structure KeyEnc (α : Type) [DecidableEq α] where
  kd : TypeDesc
  enc : α → Value
  same : ∀ a b, Instr.sameNow kd (enc a) (enc b) = some (decide (a = b))
  bits : ∀ a, Instr.sameBits 10000 (enc a) (enc a) = true
  plain : ∀ (P : Program) (w : World) (e : Bool) (t : TypeId) (a : α), P.underlying t = some kd → (Instr.checkKey e 10000 t (enc a)).run P w = .ok () w

def kInt : KeyEnc Int where
  kd := .int .i64
  enc a := .int .i64 a
  same a b := by simp [Instr.sameNow]; rfl
  bits a := by simp [Instr.sameBits]
  plain P w e t a h := by
    unfold Instr.checkKey
    simp [run_und h]

theorem beq_bytes (a b : ByteArray) : (a == b) = decide (a = b) := by
  rw [beq_toListBytes, bytes_beq]

def kStr : KeyEnc ByteArray where
  kd := .string
  enc a := .string a
  same a b := by simp only [Instr.sameNow, beq_bytes]
  bits a := by simp [Instr.sameBits, beq_bytes]
  plain P w e t a h := by
    unfold Instr.checkKey
    simp [run_und h]

section
variable {α : Type} [DecidableEq α] (K : KeyEnc α)

def entOf (x : α × Value × Nat) : MapEntry := { key := K.enc x.1, val := x.2.1, born := x.2.2 }
def lk (l : List (α × Value × Nat)) (a : α) : Option Value := (l.find? (fun x => decide (x.1 = a))).map (·.2.1)
def mapB (f : α → Option Value) : Obj → Prop := fun o => ∃ (l : List (α × Value × Nat)) (clock : Nat), o = .map (l.map (entOf K)).toArray clock ∧ ∀ a, lk l a = f a

def fnd (a : α) : List (α × Value × Nat) → Nat → Option (Nat × Value)
  | [], _ => none
  | x :: l, i => if a = x.1 then some (i, x.2.1) else fnd a l (i + 1)

theorem findNow_eq (a : α) : ∀ (l : List (α × Value × Nat)) (i : Nat), Instr.findNow K.kd (K.enc a) (l.map (entOf K)) i = some (fnd a l i)
  | [], i => rfl
  | x :: l, i => by
    simp only [List.map_cons, Instr.findNow, entOf, K.same, fnd]
    by_cases h : a = x.1
    · simp [h]
    · simp only [h, decide_false, if_false]
      exact findNow_eq a l (i + 1)

theorem fnd_lk (a : α) : ∀ (l : List (α × Value × Nat)) (i : Nat), (fnd a l i).map (·.2) = lk l a
  | [], i => rfl
  | x :: l, i => by
    simp only [fnd, lk, List.find?_cons]
    by_cases h : a = x.1
    · simp [h]
    · have h' : ¬ x.1 = a := fun e => h e.symm
      simp only [h, h', if_false, decide_false]
      exact fnd_lk a l (i + 1)

theorem fnd_upd (a : α) (v : Value) : ∀ (l : List (α × Value × Nat)) (i : Nat) (j : Nat) (u : Value), fnd a l i = some (j, u) →
    ∃ k, j = i + k ∧ k < l.length ∧ (∃ x, l[k]? = some x ∧ x.1 = a) ∧ ∀ b, lk (l.modify k fun x => (x.1, v, x.2.2)) b = if b = a then some v else lk l b
  | [], i, j, u, h => by cases h
  | x :: l, i, j, u, h => by
    simp only [fnd] at h
    by_cases hx : a = x.1
    · rw [if_pos hx] at h
      cases h
      refine ⟨0, rfl, by simp, ⟨x, rfl, hx.symm⟩, fun b => ?_⟩
      simp only [List.modify_zero_cons, lk, List.find?_cons]
      by_cases hb : x.1 = b
      · have hba : b = a := by rw [hx, hb]
        simp [hb, hba]
      · have hba : ¬ b = a := by rw [hx]; exact fun e => hb e.symm
        simp [hb, hba]
    · rw [if_neg hx] at h
      obtain ⟨k, hj, hk, ⟨y, hy, hya⟩, hb⟩ := fnd_upd a v l (i + 1) j u h
      refine ⟨k + 1, by omega, by simp; omega, ⟨y, by simpa using hy, hya⟩, fun b => ?_⟩
      have := hb b
      simp only [lk, List.modify_succ_cons, List.find?_cons] at this ⊢
      by_cases hxb : x.1 = b
      · have hba : ¬ b = a := fun e => hx (by rw [← e, hxb])
        simp [hxb, hba]
      · simp only [hxb, decide_false]
        exact this

theorem lk_push (a : α) (v : Value) (c : Nat) (l : List (α × Value × Nat)) (h : lk l a = none) (b : α) : lk (l ++ [(a, v, c)]) b = if b = a then some v else lk l b := by
  unfold lk at *
  rw [List.find?_append]
  by_cases hb : b = a
  · subst hb
    rw [Option.map_eq_none_iff] at h
    simp [h]
  · rw [if_neg hb]
    cases hf : l.find? (fun x => decide (x.1 = b)) with
    | some y => simp
    | none =>
      have : ¬ a = b := fun e => hb e.symm
      simp [this]

variable {P : Program} {w0 w : World} {M : List Nat} {L : List Ent}

theorem run_findKey {t : TypeId} (ht : P.underlying t = some K.kd) (a : α) (l : List (α × Value × Nat)) : (Instr.findKey t (K.enc a) (l.map (entOf K))).run P w = .ok (fnd a l 0) w := by
  simp only [Instr.findKey, Sem.run_bind, run_und ht, Result.andThen_ok, findNow_eq]
  rfl

theorem run_look {mt kt et : TypeId} {z : Value} {b : Nat} {f : α → Option Value} {o : Obj} (hm : P.underlying mt = some (.map kt et)) (hk : P.underlying kt = some K.kd) (hz : TZero P et z) (hb : w.heap[b]? = some o) (ho : mapB K f o) (a : α) :
    (Instr.lookup mt (.map (some b)) (K.enc a) false).run P w = .ok ((f a).getD z) w := by
  obtain ⟨l, clock, rfl, hl⟩ := ho
  have hg : (getObj b).run P w = .ok (.map (l.map (entOf K)).toArray clock) w := by simp [getObj, Sem.run, hb]
  simp only [Instr.lookup, Sem.run_bind, run_und hm, Result.andThen_ok, hg, K.plain P w _ kt a hk, Sem.run_pure, run_findKey K hk]
  rw [← hl a, ← fnd_lk a l 0]
  cases hf : fnd a l 0 with
  | none => simp [hz.run]
  | some y => simp

theorem run_look_ok {mt kt et : TypeId} {z : Value} {b : Nat} {f : α → Option Value} {o : Obj} (hm : P.underlying mt = some (.map kt et)) (hk : P.underlying kt = some K.kd) (hz : TZero P et z) (hb : w.heap[b]? = some o) (ho : mapB K f o) (a : α) :
    (Instr.lookup mt (.map (some b)) (K.enc a) true).run P w = .ok (.tuple #[(f a).getD z, .bool (f a).isSome]) w := by
  obtain ⟨l, clock, rfl, hl⟩ := ho
  have hg : (getObj b).run P w = .ok (.map (l.map (entOf K)).toArray clock) w := by simp [getObj, Sem.run, hb]
  simp only [Instr.lookup, Sem.run_bind, run_und hm, Result.andThen_ok, hg, K.plain P w _ kt a hk, Sem.run_pure, run_findKey K hk]
  rw [← hl a, ← fnd_lk a l 0]
  cases hf : fnd a l 0 with
  | none => simp [hz.run]
  | some y => simp

theorem run_put {mt kt et : TypeId} {b : Nat} {f : α → Option Value} {o : Obj} (hm : P.underlying mt = some (.map kt et)) (hk : P.underlying kt = some K.kd) (hb : w.heap[b]? = some o) (ho : mapB K f o) (a : α) (v : Value) :
    ∃ w' o', (Instr.mapUpdate mt (.map (some b)) (K.enc a) v).run P w = .ok () w' ∧ Keeps [b] w w' ∧ w'.heap[b]? = some o' ∧ mapB K (fun x => if x = a then some v else f x) o' := by
  obtain ⟨l, clock, rfl, hl⟩ := ho
  have hg : (getObj b).run P w = .ok (.map (l.map (entOf K)).toArray clock) w := by simp [getObj, Sem.run, hb]
  have hlt : b < w.heap.size := (Array.getElem?_eq_some_iff.1 hb).1
  have hset : ∀ o', (setObj b o').run P w = .ok () { w with heap := w.heap.setIfInBounds b o' } := by
    intro o'
    simp [setObj, Sem.run, hb]
  have hkeep : ∀ o', Keeps [b] w { w with heap := w.heap.setIfInBounds b o' } := fun o' => ⟨rfl, rfl, rfl, by simp, fun k _ hk' => by
    show (w.heap.setIfInBounds b o')[k]? = _
    rw [Array.getElem?_setIfInBounds, if_neg (by simp at hk'; omega)]⟩
  have hget : ∀ o', (w.heap.setIfInBounds b o')[b]? = some o' := fun o' => by simp [hlt]
  cases hf : fnd a l 0 with
  | none =>
    refine ⟨_, _, ?_, hkeep _, hget _, l ++ [(a, v, clock)], clock + 1, rfl, fun x => ?_⟩
    · simp only [Instr.mapUpdate, Sem.run_bind, run_und hm, Result.andThen_ok, hg, K.plain P w _ kt a hk, run_findKey K hk, hf, hset]
      simp [entOf]
    · rw [lk_push a v clock l (by rw [← fnd_lk a l 0, hf]; rfl), hl x]
  | some y =>
    obtain ⟨j, u⟩ := y
    obtain ⟨k, hj, hk', ⟨x, hx, hxa⟩, hlk⟩ := fnd_upd a v l 0 j u hf
    have hjk : j = k := by omega
    subst hjk
    refine ⟨_, _, ?_, hkeep _, hget _, l.modify j fun x => (x.1, v, x.2.2), clock, rfl, fun x => ?_⟩
    · have hkey : (((l.map (entOf K)).toArray[j]?).map (·.key)).getD (K.enc a) = K.enc a := by
        simp [hx, entOf, hxa]
      simp only [Instr.mapUpdate, Sem.run_bind, run_und hm, Result.andThen_ok, hg, K.plain P w _ kt a hk, run_findKey K hk, hf, hkey, Instr.keyThatStays, K.bits, if_true, Sem.run_pure, hset]
      congr 3
      congr 1
      apply Array.ext_getElem?
      intro i
      simp only [Array.getElem?_modify, List.getElem?_toArray, List.getElem?_map, List.getElem?_modify]
      by_cases hij : j = i
      · subst hij
        simp [hx, entOf, hxa]
      · simp [hij]
    · rw [hlk x, hl x]

end

section
variable {α : Type} [DecidableEq α] {K : KeyEnc α} {P : Program} {n : Nat} {w0 w : World} {M : List Nat} {L : List Ent} {F : Fr} {d : Option Tmp} {ty : TypeId} {pos : String} {aft : Array Edge} {g : Option (Nat × Bool)} {x y z : Operand}

def mapE (K : KeyEnc α) (b : Nat) (f : α → Option Value) : Ent := (some b, mapB K f)

theorem pv_lookup {mt kt et : TypeId} {zv : Value} {b : Nat} {f : α → Option Value} {a : α} (hp : Hp w0 M w L) (i : Nat) (hi : L[i]? = some (mapE K b f)) (hx : ev n F x = .map (some b)) (hy : ev n F y = K.enc a)
    (hm : P.underlying mt = some (.map kt et)) (hk : P.underlying kt = some K.kd) (hz : TZero P et zv) : PV P n w F ⟨d, .lookup mt x y false, ty, pos, aft, g⟩ ((f a).getD zv) := by
  obtain ⟨o, ho, hf⟩ := hp.has i _ hi b rfl
  simp [PV, execOp, hx, hy, run_look K hm hk hz ho hf a]

theorem pv_lookup_ok {mt kt et : TypeId} {zv : Value} {b : Nat} {f : α → Option Value} {a : α} (hp : Hp w0 M w L) (i : Nat) (hi : L[i]? = some (mapE K b f)) (hx : ev n F x = .map (some b)) (hy : ev n F y = K.enc a)
    (hm : P.underlying mt = some (.map kt et)) (hk : P.underlying kt = some K.kd) (hz : TZero P et zv) : PV P n w F ⟨d, .lookup mt x y true, ty, pos, aft, g⟩ (.tuple #[(f a).getD zv, .bool (f a).isSome]) := by
  obtain ⟨o, ho, hf⟩ := hp.has i _ hi b rfl
  simp [PV, execOp, hx, hy, run_look_ok K hm hk hz ho hf a]

theorem st_mapput {mt kt et : TypeId} {b : Nat} {f : α → Option Value} {a : α} {v : Value} (hp : Hp w0 M w L) (i : Nat) (hi : L[i]? = some (mapE K b f)) (hx : ev n F x = .map (some b)) (hy : ev n F y = K.enc a) (hv : ev n F z = v)
    (hm : P.underlying mt = some (.map kt et)) (hk : P.underlying kt = some K.kd) :
    StepF P n ⟨d, .mapUpdate mt x y z, ty, pos, aft, g⟩ F w (fun u w' => u = undef ∧ Hp w0 M w' (L.set i (mapE K b (fun x => if x = a then some v else f x)))) := by
  obtain ⟨o, ho, hf⟩ := hp.has i _ hi b rfl
  obtain ⟨w', o', hr, hk', hb', hf'⟩ := run_put (P := P) K hm hk ho hf a v
  refine stepF_skip (w' := w') ?_ ⟨rfl, hp.upd hi (by simpa [mapE] using hk') ?_⟩
  · simp [execOp, hx, hy, hv, hr]
  · intro b1 hb1
    have : b1 = b := by simpa [mapE, eq_comm] using hb1
    subst this
    exact ⟨.inl rfl, o', hb', hf'⟩

theorem st_makemap {mt : TypeId} (K : KeyEnc α) (hp : Hp w0 M w L) :
    StepF P n ⟨d, .makeMap mt none, ty, pos, aft, g⟩ F w (fun u w' => ∃ b, u = .map (some b) ∧ Hp w0 M w' (mapE K b (fun _ => none) :: L)) := by
  refine stepF_val (v := .map (some w.heap.size)) (w' := w.alloc (.map #[] 0)) ?_ ⟨_, rfl, hp.alloc _ ?_⟩
  · simp [execOp, Instr.makeMap, newObj, Sem.run]
  · exact ⟨[], 0, rfl, fun a => rfl⟩

/-- a set: a map to true -/
def setF (S : α → Bool) : α → Option Value := fun a => if S a = true then some (.bool true) else none
omit [DecidableEq α] in
theorem setF_get (S : α → Bool) (a : α) : (setF S a).getD (.bool false) = .bool (S a) := by
  unfold setF
  cases S a <;> rfl
omit [DecidableEq α] in
theorem setF_none (S : α → Bool) (h : ∀ a, S a = false) : setF S = fun _ => none := by
  funext a
  simp [setF, h a]
theorem setF_put (S : α → Bool) (a : α) : (fun x => if x = a then some (.bool true) else setF S x) = setF (fun x => decide (x = a) || S x) := by
  funext x
  unfold setF
  by_cases h : x = a <;> simp [h]
theorem st_setadd {mt kt et : TypeId} {b : Nat} {S : α → Bool} {a : α} (hp : Hp w0 M w L) (i : Nat) (hi : L[i]? = some (mapE K b (setF S))) (hx : ev n F x = .map (some b)) (hy : ev n F y = K.enc a) (hv : ev n F z = .bool true)
    (hm : P.underlying mt = some (.map kt et)) (hk : P.underlying kt = some K.kd) :
    StepF P n ⟨d, .mapUpdate mt x y z, ty, pos, aft, g⟩ F w (fun u w' => u = undef ∧ Hp w0 M w' (L.set i (mapE K b (setF (fun x => decide (x = a) || S x))))) := by
  rw [← setF_put]
  exact st_mapput hp i hi hx hy hv hm hk
end
end Go.Eng
