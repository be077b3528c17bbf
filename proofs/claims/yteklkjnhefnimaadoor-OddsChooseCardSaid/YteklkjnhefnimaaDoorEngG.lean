/- The engine, part G: calls with their arguments one by one, also under a guard; conditions are the hypotheses of each law. -/
import Derived.Test.YteklkjnhefnimaaDoorEngF
namespace Go.Eng
section
variable {P : Program} {n : Nat} {w0 w : World} {M : List Nat} {L : List Ent} {F : Fr} {d : Option Tmp} {ty : TypeId} {pos : String} {aft : Array Edge} {g : Option (Nat × Bool)} {x y : Operand} {ts : Array TypeId} {f : FuncId}
theorem wlgsH {Q : Exit → Fr → World → Prop} {ops : Array Oper} {rest : List Oper} {v : Value} {j : Nat} {want c : Bool} {e d : Nat} {op : Op} (hp : Hp w0 M w L) (hj : gslot ops j = some e) (hc : ev n F (.tmp e) = .bool c)
    (hs : (c == want) = true → StepF P n ⟨some d, op, ty, pos, aft, some (j, want)⟩ F w (fun u w' => u = v ∧ Hp w0 M w' L)) (h : ∀ w', Hp w0 M w' L → wpl P n ops rest Q (F.put d (Sel (c == want) v)) w') :
    wpl P n ops (⟨some d, op, ty, pos, aft, some (j, want)⟩ :: rest) Q F w := wlgs hj hc _ hp hs h
theorem wdgsH {Q : Exit → Fr → World → Prop} {ops : Array Oper} {rest : List Oper} {st : Bool} {G : World → Prop} {v : Value} {j : Nat} {want c : Bool} {e d : Nat} {op : Op} (hp : Hp w0 M w L) (he : effOp op = true) (hj : gslot ops j = some e) (hc : ev n F (.tmp e) = .bool c)
    (hs : (c == want) = true → StepF P n ⟨some d, op, ty, pos, aft, some (j, want)⟩ F w (fun u w' => u = v ∧ Hp w0 M w' L)) (h : ∀ w', Hp w0 M w' L → G w' ∧ wpd P n ops st G rest Q (F.put d (Sel (c == want) v)) w') :
    wpd P n ops st G (⟨some d, op, ty, pos, aft, some (j, want)⟩ :: rest) Q F w := wdgs he hj hc _ hp hs h
theorem StepF.mono {o : Oper} {R R' : Value → World → Prop} (h : StepF P n o F w R) (hr : ∀ v w', R v w' → R' v w') : StepF P n o F w R' := Step.mono h hr

theorem st_call1 {x1 : Operand} {v1 : Value} {R : Value → World → Prop} (hx : ev n F x = .func (.func f) #[] #[]) (he : Enters P f) (h1 : ev n F x1 = v1) (hc : Ret P f [v1] w R) : StepF P n ⟨d, .call ⟨.value x, #[x1], ts⟩, ty, pos, aft, g⟩ F w R :=
  st_call hx he (by simp [h1]) hc
theorem st_callG1 {x1 : Operand} {v1 v : Value} (hp : Hp w0 M w L) (hx : ev n F x = .func (.func f) #[] #[]) (he : Enters P f) (h1 : ev n F x1 = v1) (hc : Ret P f [v1] w (fun u w' => u = v ∧ Keeps [] w w')) :
    StepF P n ⟨d, .call ⟨.value x, #[x1], ts⟩, ty, pos, aft, g⟩ F w (fun u w' => u = v ∧ Hp w0 M w' L) := (st_call1 hx he h1 hc).mono fun _ _ h => ⟨h.1, hp.call h.2⟩
theorem st_call2 {x1 x2 : Operand} {v1 v2 : Value} {R : Value → World → Prop} (hx : ev n F x = .func (.func f) #[] #[]) (he : Enters P f) (h1 : ev n F x1 = v1) (h2 : ev n F x2 = v2) (hc : Ret P f [v1, v2] w R) : StepF P n ⟨d, .call ⟨.value x, #[x1, x2], ts⟩, ty, pos, aft, g⟩ F w R :=
  st_call hx he (by simp [h1, h2]) hc
theorem st_callG2 {x1 x2 : Operand} {v1 v2 v : Value} (hp : Hp w0 M w L) (hx : ev n F x = .func (.func f) #[] #[]) (he : Enters P f) (h1 : ev n F x1 = v1) (h2 : ev n F x2 = v2) (hc : Ret P f [v1, v2] w (fun u w' => u = v ∧ Keeps [] w w')) :
    StepF P n ⟨d, .call ⟨.value x, #[x1, x2], ts⟩, ty, pos, aft, g⟩ F w (fun u w' => u = v ∧ Hp w0 M w' L) := (st_call2 hx he h1 h2 hc).mono fun _ _ h => ⟨h.1, hp.call h.2⟩
theorem st_call3 {x1 x2 x3 : Operand} {v1 v2 v3 : Value} {R : Value → World → Prop} (hx : ev n F x = .func (.func f) #[] #[]) (he : Enters P f) (h1 : ev n F x1 = v1) (h2 : ev n F x2 = v2) (h3 : ev n F x3 = v3) (hc : Ret P f [v1, v2, v3] w R) : StepF P n ⟨d, .call ⟨.value x, #[x1, x2, x3], ts⟩, ty, pos, aft, g⟩ F w R :=
  st_call hx he (by simp [h1, h2, h3]) hc
theorem st_callG3 {x1 x2 x3 : Operand} {v1 v2 v3 v : Value} (hp : Hp w0 M w L) (hx : ev n F x = .func (.func f) #[] #[]) (he : Enters P f) (h1 : ev n F x1 = v1) (h2 : ev n F x2 = v2) (h3 : ev n F x3 = v3) (hc : Ret P f [v1, v2, v3] w (fun u w' => u = v ∧ Keeps [] w w')) :
    StepF P n ⟨d, .call ⟨.value x, #[x1, x2, x3], ts⟩, ty, pos, aft, g⟩ F w (fun u w' => u = v ∧ Hp w0 M w' L) := (st_call3 hx he h1 h2 h3 hc).mono fun _ _ h => ⟨h.1, hp.call h.2⟩
theorem st_call4 {x1 x2 x3 x4 : Operand} {v1 v2 v3 v4 : Value} {R : Value → World → Prop} (hx : ev n F x = .func (.func f) #[] #[]) (he : Enters P f) (h1 : ev n F x1 = v1) (h2 : ev n F x2 = v2) (h3 : ev n F x3 = v3) (h4 : ev n F x4 = v4) (hc : Ret P f [v1, v2, v3, v4] w R) : StepF P n ⟨d, .call ⟨.value x, #[x1, x2, x3, x4], ts⟩, ty, pos, aft, g⟩ F w R :=
  st_call hx he (by simp [h1, h2, h3, h4]) hc
theorem st_callG4 {x1 x2 x3 x4 : Operand} {v1 v2 v3 v4 v : Value} (hp : Hp w0 M w L) (hx : ev n F x = .func (.func f) #[] #[]) (he : Enters P f) (h1 : ev n F x1 = v1) (h2 : ev n F x2 = v2) (h3 : ev n F x3 = v3) (h4 : ev n F x4 = v4) (hc : Ret P f [v1, v2, v3, v4] w (fun u w' => u = v ∧ Keeps [] w w')) :
    StepF P n ⟨d, .call ⟨.value x, #[x1, x2, x3, x4], ts⟩, ty, pos, aft, g⟩ F w (fun u w' => u = v ∧ Hp w0 M w' L) := (st_call4 hx he h1 h2 h3 h4 hc).mono fun _ _ h => ⟨h.1, hp.call h.2⟩
theorem st_call5 {x1 x2 x3 x4 x5 : Operand} {v1 v2 v3 v4 v5 : Value} {R : Value → World → Prop} (hx : ev n F x = .func (.func f) #[] #[]) (he : Enters P f) (h1 : ev n F x1 = v1) (h2 : ev n F x2 = v2) (h3 : ev n F x3 = v3) (h4 : ev n F x4 = v4) (h5 : ev n F x5 = v5) (hc : Ret P f [v1, v2, v3, v4, v5] w R) : StepF P n ⟨d, .call ⟨.value x, #[x1, x2, x3, x4, x5], ts⟩, ty, pos, aft, g⟩ F w R :=
  st_call hx he (by simp [h1, h2, h3, h4, h5]) hc
theorem st_callG5 {x1 x2 x3 x4 x5 : Operand} {v1 v2 v3 v4 v5 v : Value} (hp : Hp w0 M w L) (hx : ev n F x = .func (.func f) #[] #[]) (he : Enters P f) (h1 : ev n F x1 = v1) (h2 : ev n F x2 = v2) (h3 : ev n F x3 = v3) (h4 : ev n F x4 = v4) (h5 : ev n F x5 = v5) (hc : Ret P f [v1, v2, v3, v4, v5] w (fun u w' => u = v ∧ Keeps [] w w')) :
    StepF P n ⟨d, .call ⟨.value x, #[x1, x2, x3, x4, x5], ts⟩, ty, pos, aft, g⟩ F w (fun u w' => u = v ∧ Hp w0 M w' L) := (st_call5 hx he h1 h2 h3 h4 h5 hc).mono fun _ _ h => ⟨h.1, hp.call h.2⟩
end
/-- a slice reads as a list -/
def SlAt {α : Type} (w : World) (k : Nat) (enc : α → List Value) (s : Option Addr) (l : List α) : Prop :=
  ∀ (i : Nat) (x : α), l[i]? = some x → ∃ b o, s = some ⟨b, o, none⟩ ∧ ∀ (j : Nat) (v : Value), (enc x)[j]? = some v → w.cell? ⟨b, o + i * k + j, none⟩ = some v

theorem SlAt.keep {α : Type} {w w' : World} {k : Nat} {enc : α → List Value} {s : Option Addr} {l : List α} {M : List Nat} (h : SlAt w k enc s l) (hk : Keeps M w w') (hM : l ≠ [] → ∀ b o, s = some ⟨b, o, none⟩ → b ∉ M) : SlAt w' k enc s l := by
  intro i x hx
  obtain ⟨b, o, hs, hc⟩ := h i x hx
  exact ⟨b, o, hs, fun j v hv => hk.cell (hc j v hv) (hM (by rintro rfl; simp at hx) b o hs)⟩
theorem SlAt.keep0 {α : Type} {w w' : World} {k : Nat} {enc : α → List Value} {s : Option Addr} {l : List α} (h : SlAt w k enc s l) (hk : Keeps [] w w') : SlAt w' k enc s l := h.keep hk (by simp)

theorem SlAt.base {α : Type} {w : World} {k : Nat} {enc : α → List Value} {s : Option Addr} {l : List α} (h : SlAt w k enc s l) (hl : 0 < l.length) :
    ∃ b o, s = some ⟨b, o, none⟩ ∧ ∀ (i : Nat) (x : α), l[i]? = some x → ∀ (j : Nat) (v : Value), (enc x)[j]? = some v → w.cell? ⟨b, o + i * k + j, none⟩ = some v := by
  obtain ⟨b, o, hs, _⟩ := h 0 _ (List.getElem?_eq_getElem hl)
  refine ⟨b, o, hs, fun i x hx => ?_⟩
  obtain ⟨b', o', hs', hc⟩ := h i x hx
  rw [hs] at hs'
  cases hs'
  exact hc

def eI (x : Int) : List Value := [.int .i64 x]
def eS (x : ByteArray) : List Value := [.string x]

theorem flatMap_get {α β : Type} (enc : α → List β) (k : Nat) (hk : ∀ x, (enc x).length = k) : ∀ (l : List α) (j q : Nat) (x : α) (v : β), l[j]? = some x → (enc x)[q]? = some v → (l.flatMap enc)[j * k + q]? = some v
  | [], j, q, x, v, h, _ => by simp at h
  | y :: l, 0, q, x, v, h, hv => by
    have : y = x := by simpa using h
    subst this
    have hq : q < (enc y).length := (List.getElem?_eq_some_iff.1 hv).1
    simp only [List.flatMap_cons, Nat.zero_mul, Nat.zero_add]
    rw [List.getElem?_append_left hq]
    exact hv
  | y :: l, j + 1, q, x, v, h, hv => by
    simp only [List.flatMap_cons]
    rw [List.getElem?_append_right (by rw [hk, Nat.succ_mul]; omega), hk]
    rw [show (j + 1) * k + q - k = j * k + q from by rw [Nat.succ_mul]; omega]
    exact flatMap_get enc k hk l j q x v (by simpa using h) hv

theorem flatMap_len {α β : Type} (enc : α → List β) (k : Nat) (hk : ∀ x, (enc x).length = k) : ∀ (l : List α), (l.flatMap enc).length = l.length * k
  | [] => by simp
  | y :: l => by simp [List.flatMap_cons, hk, flatMap_len enc k hk l, Nat.succ_mul]; omega

/-- an owned slice reads as a list -/
theorem own_SlAt {α : Type} {w0 w : World} {M : List Nat} {L : List Ent} {i e k : Nat} {enc : α → List Value} {s : Option Addr} {c : Nat} {l : List α} (hp : Hp w0 M w L) (hi : L[i]? = some (ownE (.slice s l.length c) e k l.length (l.flatMap enc))) (hv : SV (.slice s l.length c) l.length)
    (hk : ∀ x, (enc x).length = k) : SlAt w k enc s l := by
  intro j x hx
  rcases hv with ⟨h1, h2⟩ | ⟨g, cap, h1, _⟩
  · have : l = [] := List.eq_nil_of_length_eq_zero h2
    subst this
    simp at hx
  · cases h1
    refine ⟨g, 0, rfl, fun q v hv => ?_⟩
    have hidx := flatMap_get enc k hk l j q x v hx hv
    have := hp.own_cell hi hidx
    rw [← Nat.add_assoc] at this
    exact this

/-- the source of an append: a slice that reads as a list -/
theorem SlAt.src {α : Type} {w : World} {k : Nat} {enc : α → List Value} {s : Option Addr} {l : List α} (h : SlAt w k enc s l) (hk : ∀ x, (enc x).length = k) :
    ∀ (j : Nat) (u : Value), (l.flatMap enc)[j]? = some u → ∃ b o, s = some ⟨b, o, none⟩ ∧ w.cell? ⟨b, o + j, none⟩ = some u := by
  intro j u hu
  have hlen := (List.getElem?_eq_some_iff.1 hu).1
  rw [flatMap_len enc k hk] at hlen
  have hk0 : 0 < k := by
    rcases Nat.eq_zero_or_pos k with h0 | h0
    · subst h0; simp at hlen
    · exact h0
  have hl0 : 0 < l.length := by
    rcases Nat.eq_zero_or_pos l.length with h0 | h0
    · rw [h0] at hlen; simp at hlen
    · exact h0
  obtain ⟨b, o, hs, hc⟩ := h.base hl0
  have hq : j / k < l.length := (Nat.div_lt_iff_lt_mul hk0).2 hlen
  have hx := List.getElem?_eq_getElem hq
  have hm : j % k < (enc l[j / k]).length := by rw [hk]; exact Nat.mod_lt _ hk0
  have hv := List.getElem?_eq_getElem hm
  have h1 := flatMap_get enc k hk l (j / k) (j % k) _ _ hx hv
  have hjk : j / k * k + j % k = j := by rw [Nat.mul_comm]; exact Nat.div_add_mod j k
  rw [hjk, hu] at h1
  refine ⟨b, o, hs, ?_⟩
  have := hc (j / k) _ hx (j % k) _ hv
  rw [Nat.add_assoc, hjk] at this
  rw [this, h1]

/-- one element that was just laid in a block of its own -/
theorem blk_src {w0 w : World} {M : List Nat} {L : List Ent} {b t : Nat} {cs : List Value} (hp : Hp w0 M w L) (i : Nat) (hi : L[i]? = some (blk b cs.length (frOf cs) t)) :
    ∀ (j : Nat) (u : Value), cs[j]? = some u → ∃ b' o, (some ⟨b, 0, none⟩ : Option Addr) = some ⟨b', o, none⟩ ∧ w.cell? ⟨b', o + j, none⟩ = some u := by
  intro j u hu
  have hlt := (List.getElem?_eq_some_iff.1 hu).1
  refine ⟨b, 0, rfl, ?_⟩
  rw [Nat.zero_add, hp.cell i hi (nblt_true hlt), frOf_eq]
  rw [List.getD_eq_getElem?_getD, hu]
  rfl
end Go.Eng
