/- The engine, part H: guards that say yes, owned lists, calls that write a block of ours; conditions are the hypotheses of each law. -/
import Derived.Test.YteklkjnhefnimaaDoorEngG
namespace Go.Eng
section
variable {P : Program} {n : Nat} {Q : Exit → Fr → World → Prop} {F : Fr} {w : World} {ops : Array Oper} {rest : List Oper} {G : World → Prop}
variable {d : Nat} {op : Op} {ty : TypeId} {pos : String} {aft : Array Edge}
/-- a guarded operation whose guard says yes -/
theorem wlsT {R : Value → World → Prop} {j : Nat} {want : Bool} {e : Nat} (hj : gslot ops j = some e) (hc : ev n F (.tmp e) = .bool want)
    (hs : StepF P n ⟨some d, op, ty, pos, aft, some (j, want)⟩ F w R) (h : ∀ v w', R v w' → wpl P n ops rest Q (F.put d v) w') :
    wpl P n ops (⟨some d, op, ty, pos, aft, some (j, want)⟩ :: rest) Q F w := by
  unfold wpl wpList
  rw [wanted_act rfl hj hc]
  simp only [beq_self_eq_true, if_true]
  refine .inl (Step.wp hs ?_)
  intro u w' hr
  rw [act_put]
  exact h u w' hr
theorem wlpT {r v : Value} {j : Nat} {want : Bool} {e : Nat} (hj : gslot ops j = some e) (hc : ev n F (.tmp e) = .bool want)
    (hp : PV P n w F ⟨some d, op, ty, pos, aft, some (j, want)⟩ r) (hv : r = v) (h : wpl P n ops rest Q (F.put d v) w) : wpl P n ops (⟨some d, op, ty, pos, aft, some (j, want)⟩ :: rest) Q F w := by
  subst hv
  refine wlsT (R := fun u w' => u = r ∧ w' = w) hj hc (.inl ⟨r, w, ?_, rfl, rfl⟩) ?_
  · rw [act_eval]; exact hp
  · rintro u w' ⟨rfl, rfl⟩; exact h
end

theorem blk_SlAt {α : Type} {w0 w : World} {M : List Nat} {L : List Ent} {k b t : Nat} {enc : α → List Value} (l : List α) (hp : Hp w0 M w L) (i : Nat) (hi : L[i]? = some (blk b (l.flatMap enc).length (frOf (l.flatMap enc)) t))
    (hk : ∀ x, (enc x).length = k) : SlAt w k enc (some ⟨b, 0, none⟩) l := by
  intro j x hx
  refine ⟨b, 0, rfl, fun q v hv => ?_⟩
  have hidx := flatMap_get enc k hk l j q x v hx hv
  obtain ⟨b', o', e1, e2⟩ := blk_src hp i hi _ _ hidx
  cases e1
  rw [Nat.add_assoc]
  exact e2

theorem cells_row {cs : List Value} {e size n : Nat} {o : Obj} (hl : cs.length = n * size) (h : cellsB cs.length (frOf cs) e o) : rowB e size n n cs o := by
  refine ⟨_, h, by simp [hl], ?_⟩
  rw [List.take_of_length_le (by simp [hl])]
  apply List.ext_getElem
  · simp
  · intro i h1 h2
    simp [frOf_eq]
theorem Hp.rowOf {w0 w : World} {M : List Nat} {L : List Ent} {cs : List Value} {b e : Nat} (hp : Hp w0 M w L) (i size n : Nat) (hi : L[i]? = some (blk b cs.length (frOf cs) e)) (hl : cs.length = n * size) :
    Hp w0 M w (L.set i (ownE (.slice (some ⟨b, 0, none⟩) n n) e size n cs)) := hp.weak hi fun _ h => cells_row hl h
theorem SlAt_nil {α : Type} {w : World} {k : Nat} {enc : α → List Value} {s : Option Addr} : SlAt w k enc s [] := by intro i x hx; simp at hx

section
variable {P : Program} {n : Nat} {F : Fr} {w : World} {d : Option Tmp} {ty : TypeId} {pos : String} {aft : Array Edge} {g : Option (Nat × Bool)} {x y : Operand}
theorem addr_add0 (a : Addr) : a.add 0 = a := rfl
theorem eqIn_bool {t : Nat} {a b : Bool} (ht : P.underlying t = some .bool) (k : Nat) : (Op.equalIn (k + 1) t (.bool a) (.bool b)).run P w = .ok (a == b) w := by
  unfold Op.equalIn
  simp [run_und ht]
theorem eq_bool {t : Nat} {a b : Bool} (ht : P.underlying t = some .bool) : (Op.equal t (.bool a) (.bool b)).run P w = .ok (a == b) w := eqIn_bool ht 9999
theorem pv_bneq {t t' : Nat} {a b : Bool} (ht : P.underlying t = some .bool) (hx : ev n F x = .bool a) (hy : ev n F y = .bool b) : PV P n w F ⟨d, .binOp .neq t x y t', ty, pos, aft, g⟩ (.bool (a != b)) := by
  have h := eq_bool (P := P) (w := w) (a := a) (b := b) ht
  simp [PV, execOp, hx, hy, eqGuard, binOp, h]
  cases a <;> cases b <;> rfl
end

theorem SlAt_take {α : Type} {w : World} {k : Nat} {enc : α → List Value} {s : Option Addr} {l : List α} (h : SlAt w k enc s l) (n : Nat) : SlAt w k enc s (l.take n) := by
  intro i x hx
  rw [List.getElem?_take] at hx
  split at hx
  · exact h i x hx
  · cases hx
section
variable {w0 w w' : World} {M : List Nat} {L : List Ent}
/-- a block under another name for its cells -/
theorem Hp.norm (hp : Hp w0 M w L) (i : Nat) {b m : Nat} {f : Fr} {t : TypeId} (cs : List Value) (hi : L[i]? = some (blk b m f t)) (h : (List.range m).map f = cs) : Hp w0 M w (L.set i (blk b m (frOf cs) t)) := by
  refine hp.weak hi fun o ho => ?_
  have ho : o = .cells (Array.ofFn (n := m) fun i => f i) t (0, 0) := ho
  subst ho
  subst h
  show _ = _
  congr 1
  apply Array.ext
  · simp
  · intro j h1 h2
    have hj : j < m := by simpa using h1
    simp [frOf_eq, hj]
/-- a call that writes one block of ours -/
theorem Hp.callAt (hp : Hp w0 M w L) (i : Nat) {b m : Nat} {f g : Fr} {t : TypeId} (hi : L[i]? = some (blk b m f t)) (hk : Keeps [b] w w') (ho : ∃ o, w'.heap[b]? = some o ∧ cellsB m g t o) : Hp w0 M w' (L.set i (blk b m g t)) :=
  hp.upd hi hk (by
    intro q hq
    have : q = b := by simpa [blk, eq_comm] using hq
    subst this
    exact ⟨.inl rfl, ho⟩)
end
section
variable {w0 w w' : World} {M : List Nat} {L : List Ent}
theorem Hp.pick (h : Hp w0 M w L) (i : Nat) {p : Ent} (hi : L[i]? = some p) : Hp w0 M w [p] := by
  refine ⟨h.keeps, fun k q hk b hb => ?_, fun k q hk b hb => ?_, fun k j q r hk hj hne => ?_⟩
  · cases k with
    | zero => simp at hk; subst hk; exact h.own i p hi b hb
    | succ k => simp at hk
  · cases k with
    | zero => simp at hk; subst hk; exact h.has i p hi b hb
    | succ k => simp at hk
  · cases k with
    | zero =>
      cases j with
      | zero => exact absurd rfl hne
      | succ j => simp at hj
    | succ k => simp at hk
theorem set_same {α : Type} {L : List α} {i : Nat} {p : α} (hi : L[i]? = some p) : L.set i p = L := by
  apply List.ext_getElem?
  intro j
  rw [List.getElem?_set]
  by_cases hij : i = j
  · subst hij
    have hlt := (List.getElem?_eq_some_iff.1 hi).1
    rw [if_pos rfl, if_pos hlt, hi]
  · rw [if_neg hij]
/-- a call that writes one block of ours and leaves it as it is described -/
theorem Hp.callE (h : Hp w0 M w L) (i : Nat) {b : Nat} {φ : Obj → Prop} (hi : L[i]? = some (some b, φ)) (hk : Keeps [b] w w') (ho : ∃ o, w'.heap[b]? = some o ∧ φ o) : Hp w0 M w' L := by
  have := h.upd (q := (some b, φ)) hi hk (by
    intro q hq
    have : q = b := by simpa [eq_comm] using hq
    subst this
    exact ⟨.inl rfl, ho⟩)
  rwa [set_same hi] at this
end

theorem Hp.takeN {w0 w : World} {M : List Nat} {L : List Ent} (h : Hp w0 M w L) (n : Nat) : Hp w0 M w (L.take n) := by
  have key : ∀ (i : Nat) (p : Ent), (L.take n)[i]? = some p → L[i]? = some p := by
    intro i p hi
    rw [List.getElem?_take] at hi
    split at hi
    · exact hi
    · cases hi
  exact ⟨h.keeps, fun i p hi => h.own i p (key i p hi), fun i p hi => h.has i p (key i p hi), fun i j p q hi hj => h.dis i j p q (key i p hi) (key j q hj)⟩
theorem Hp.pick2 {w0 w : World} {M : List Nat} {L : List Ent} (h : Hp w0 M w L) (i j : Nat) {p q : Ent} (hi : L[i]? = some p) (hj : L[j]? = some q) (hij : Nat.beq i j = false) : Hp w0 M w [p, q] := by
  have hne : i ≠ j := by
    rintro rfl
    rw [Nat.beq_refl] at hij
    cases hij
  have key : ∀ (k : Nat) (r : Ent), [p, q][k]? = some r → (k = 0 ∧ r = p) ∨ (k = 1 ∧ r = q) := by
    intro k r hk
    match k with
    | 0 => simp at hk; exact .inl ⟨rfl, hk.symm⟩
    | 1 => simp at hk; exact .inr ⟨rfl, hk.symm⟩
    | k + 2 => simp at hk
  refine ⟨h.keeps, fun k r hk b hb => ?_, fun k r hk b hb => ?_, fun k m r t hk hm hkm b hb => ?_⟩
  · rcases key k r hk with ⟨_, rfl⟩ | ⟨_, rfl⟩
    · exact h.own i _ hi b hb
    · exact h.own j _ hj b hb
  · rcases key k r hk with ⟨_, rfl⟩ | ⟨_, rfl⟩
    · exact h.has i _ hi b hb
    · exact h.has j _ hj b hb
  · rcases key k r hk with ⟨rfl, rfl⟩ | ⟨rfl, rfl⟩ <;> rcases key m t hm with ⟨rfl, rfl⟩ | ⟨rfl, rfl⟩
    · exact absurd rfl hkm
    · exact h.dis i j _ _ hi hj hne b hb
    · exact h.dis j i _ _ hj hi (fun e => hne e.symm) b hb
    · exact absurd rfl hkm
/-- what a call hands over, in front of what was there -/
theorem Hp.join {w0 w w' : World} {M : List Nat} {L L' : List Ent} (h : Hp w0 M w L) (h' : Hp w [] w' L') : Hp w0 M w' (L' ++ L) := by
  have hc := h.call h'.keeps
  have key : ∀ (i : Nat) (p : Ent), (L' ++ L)[i]? = some p → (i < L'.length ∧ L'[i]? = some p) ∨ (L'.length ≤ i ∧ L[i - L'.length]? = some p) := by
    intro i p hi
    rw [List.getElem?_append] at hi
    split at hi
    · rename_i hlt
      exact .inl ⟨hlt, hi⟩
    · rename_i hlt
      exact .inr ⟨by omega, hi⟩
  have hnew : ∀ (i : Nat) (p : Ent), L'[i]? = some p → ∀ b, p.1 = some b → w.heap.size ≤ b := by
    intro i p hi b hb
    rcases h'.own i p hi b hb with h1 | h1
    · exact h1
    · cases h1
  refine ⟨hc.keeps, fun i p hi b hb => ?_, fun i p hi b hb => ?_, fun i j p q hi hj hne b hb => ?_⟩
  · rcases key i p hi with ⟨_, h1⟩ | ⟨_, h1⟩
    · exact .inl (Nat.le_trans h.keeps.size (hnew i p h1 b hb))
    · exact h.own _ p h1 b hb
  · rcases key i p hi with ⟨_, h1⟩ | ⟨_, h1⟩
    · exact h'.has _ p h1 b hb
    · exact hc.has _ p h1 b hb
  · rcases key i p hi with ⟨_, h1⟩ | ⟨h0, h1⟩ <;> rcases key j q hj with ⟨_, h2⟩ | ⟨h3, h2⟩
    · exact h'.dis i j p q h1 h2 hne b hb
    · intro e
      have := hnew i p h1 b hb
      have := h.lt h2 e
      omega
    · intro e
      have := hnew j q h2 b e
      have := h.lt h1 hb
      omega
    · exact h.dis _ _ p q h1 h2 (by omega) b hb
/-- what holds between two parts of the code -/
theorem WP_mid {P : Program} {n : Nat} {x : Code} {K : Fr → World → Prop} {Q : Exit → Fr → World → Prop} {F : Fr} {w : World} (R : Fr → World → Prop) (h : WP P n x (thenQ R Q) F w) (h2 : ∀ F w, R F w → K F w) : WP P n x (thenQ K Q) F w := by
  refine WP_mono h ?_
  intro e F w h
  cases e <;> first | exact h2 _ _ h | exact h

/-! ### owned lists -/
def ownL {α : Type} (enc : α → List Value) (e k : Nat) (s : Option Addr) (c : Nat) (l : List α) : Ent := ownE (.slice s l.length c) e k l.length (l.flatMap enc)
def SVL {α : Type} (s : Option Addr) (c : Nat) (l : List α) : Prop := SV (.slice s l.length c) l.length
theorem SVL.nil {α : Type} : SVL (α := α) none 0 [] := .inl ⟨rfl, rfl⟩
theorem SVL.cap {α : Type} {s : Option Addr} {c : Nat} {l : List α} (h : SVL s c l) : l.length ≤ c := by
  rcases h with ⟨h, _⟩ | ⟨g, cap, h, h2, _⟩
  · injection h with _ h1 h2
    omega
  · injection h with _ _ h3
    omega
theorem Hp.nilL {α : Type} {w0 w : World} {M : List Nat} {L : List Ent} (h : Hp w0 M w L) (enc : α → List Value) (e k : Nat) : Hp w0 M w (ownL enc e k none 0 [] :: L) := h.addNil _
theorem ownL_At {α : Type} {w0 w : World} {M : List Nat} {L : List Ent} {e k : Nat} {enc : α → List Value} {s : Option Addr} {c : Nat} {l : List α} (hp : Hp w0 M w L) (i : Nat) (hi : L[i]? = some (ownL enc e k s c l)) (hv : SVL s c l)
    (hk : ∀ x, (enc x).length = k) : SlAt w k enc s l := own_SlAt hp hi hv hk
theorem SlAt.lt {α : Type} {w : World} {k : Nat} {enc : α → List Value} {s : Option Addr} {l : List α} (h : SlAt w k enc s l) (hk : ∀ x, (enc x).length = k) (hk0 : 0 < k) (hl : l ≠ []) {b o : Nat} (hs : s = some ⟨b, o, none⟩) : b < w.heap.size := by
  obtain ⟨x, l', rfl⟩ : ∃ x l', l = x :: l' := by cases l with | nil => exact absurd rfl hl | cons x l' => exact ⟨x, l', rfl⟩
  obtain ⟨b', o', hs', hc⟩ := h 0 x rfl
  rw [hs] at hs'
  cases hs'
  have := hc 0 _ (List.getElem?_eq_getElem (by rw [hk]; exact hk0))
  exact World.block_lt_of_cell? w _ this

end Go.Eng
