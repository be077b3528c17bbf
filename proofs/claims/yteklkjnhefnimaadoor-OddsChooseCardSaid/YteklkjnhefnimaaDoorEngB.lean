/- The engine, part B: frames as functions, the rules of control, the values of operations; no conditions. -/
import Derived.Test.YteklkjnhefnimaaDoorEngA
namespace Go.Eng

theorem nbeq_false {i d : Nat} (h : i ≠ d) : Nat.beq i d = false := by
  cases hb : Nat.beq i d
  · rfl
  · exact absurd (Nat.eq_of_beq_eq_true hb) h
theorem nblt_true {a b : Nat} (h : a < b) : Nat.blt a b = true := Nat.ble_eq_true_of_le h
theorem nblt_false {a b : Nat} (h : ¬ a < b) : Nat.blt a b = false := by
  cases hb : Nat.blt a b
  · rfl
  · exact absurd (Nat.le_of_ble_eq_true hb) h
theorem lt_of_nblt {a b : Nat} (h : Nat.blt a b = true) : a < b := Nat.le_of_ble_eq_true h

abbrev Fr := Nat → Value
def Fr.put (F : Fr) (d : Nat) (v : Value) : Fr := fun i => bif Nat.beq i d then v else F i
def Fr.putO (F : Fr) (d : Option Nat) (v : Value) : Fr := match d with
  | none => F
  | some d => F.put d v
def frOf : List Value → Fr
  | [], _ => undef
  | v :: _, 0 => v
  | _ :: l, i + 1 => frOf l i
def inS : List Nat → Nat → Bool
  | [], _ => false
  | d :: S, i => bif Nat.beq i d then true else inS S i
/-- the slots of S are taken from u -/
def Fr.hav (S : List Nat) (u F : Fr) : Fr := fun i => bif inS S i then u i else F i

def ev (n : Nat) (F : Fr) (x : Operand) : Value := match x with
  | .tmp t => bif Nat.blt t n then F t else undef
  | .const v => v
  | .global g => .pointer (some ⟨g, 0, none⟩)
  | .func f => .func (.func f) #[] #[]

def act (n : Nat) (F : Fr) : Act := { tmps := Array.ofFn (n := n) fun i => F i, defers := [] }

theorem act_put (n : Nat) (F : Fr) (d : Option Nat) (v : Value) : (act n F).put d v = act n (F.putO d v) := by
  cases d with
  | none => rfl
  | some d =>
    simp only [Act.put, act, Fr.putO]
    congr 1
    apply Array.ext
    · simp
    · intro i h1 h2
      have h3 : i < n := by simpa using h2
      rw [Array.getElem_setIfInBounds (by simpa using h3)]
      simp only [Array.getElem_ofFn, Fr.put]
      by_cases h : d = i
      · subst h; simp
      · rw [if_neg h, nbeq_false (fun e => h e.symm)]; rfl

theorem act_eval (n : Nat) (F : Fr) : (act n F).eval = ev n F := by
  funext x
  cases x with
  | tmp t =>
    simp only [Act.eval, act, ev, Array.getD_eq_getD_getElem?]
    by_cases h : t < n
    · simp [h, nblt_true h]
    · simp [h, nblt_false h]
  | const v => rfl
  | global g => rfl
  | func f => rfl

theorem act_ex {n : Nat} {a : Act} (hs : a.tmps.size = n) (hd : a.defers = []) : ∃ F, a = act n F := by
  refine ⟨fun i => a.tmps.getD i undef, ?_⟩
  cases a with
  | mk tmps defers =>
    simp only [act] at *
    subst hd
    congr 1
    apply Array.ext
    · simp [hs]
    · intro i h1 h2
      simp [Array.getD_eq_getD_getElem?, h1]

def up (n : Nat) (Q : Exit → Fr → World → Prop) : Exit → Act → World → Prop := fun e a w => ∃ F, a = act n F ∧ Q e F w

def WP (P : Program) (n : Nat) (c : Code) (Q : Exit → Fr → World → Prop) (F : Fr) (w : World) : Prop := c.wp P (up n Q) (act n F) w

def thenQ (K : Fr → World → Prop) (Q : Exit → Fr → World → Prop) : Exit → Fr → World → Prop := fun e F w => match e with
  | .normal => K F w
  | e => Q e F w

def inBlk (id : Nat) (Q : Exit → Fr → World → Prop) : Exit → Fr → World → Prop := fun e F w => match e with
  | .exit id' => match Nat.beq id' id with
    | true => Q .normal F w
    | false => Q (.exit id') F w
  | e => Q e F w

theorem thenQ_n {K : Fr → World → Prop} {Q : Exit → Fr → World → Prop} {F : Fr} {w : World} (h : K F w) : thenQ K Q .normal F w := h
theorem thenQ_ret {K : Fr → World → Prop} {Q : Exit → Fr → World → Prop} {F : Fr} {w : World} (h : Q .ret F w) : thenQ K Q .ret F w := h
theorem thenQ_exit {K : Fr → World → Prop} {Q : Exit → Fr → World → Prop} {F : Fr} {w : World} {i : Nat} (h : Q (.exit i) F w) : thenQ K Q (.exit i) F w := h
theorem inBlk_n {id : Nat} {Q : Exit → Fr → World → Prop} {F : Fr} {w : World} (h : Q .normal F w) : inBlk id Q .normal F w := h
theorem inBlk_ret {id : Nat} {Q : Exit → Fr → World → Prop} {F : Fr} {w : World} (h : Q .ret F w) : inBlk id Q .ret F w := h
theorem inBlk_same {id i : Nat} {Q : Exit → Fr → World → Prop} {F : Fr} {w : World} (hi : Nat.beq i id = true) (h : Q .normal F w) : inBlk id Q (.exit i) F w := by
  simp only [inBlk, hi]; exact h
theorem inBlk_other {id i : Nat} {Q : Exit → Fr → World → Prop} {F : Fr} {w : World} (hi : Nat.beq i id = false) (h : Q (.exit i) F w) : inBlk id Q (.exit i) F w := by
  simp only [inBlk, hi]; exact h

section
variable {P : Program} {n : Nat} {Q : Exit → Fr → World → Prop} {F : Fr} {w : World}

theorem WP_mono {c : Code} {Q' : Exit → Fr → World → Prop} (h : WP P n c Q F w) (hq : ∀ e F w, Q e F w → Q' e F w) : WP P n c Q' F w :=
  wp_mono h fun _ _ _ ⟨F, h1, h2⟩ => ⟨F, h1, hq _ _ _ h2⟩

theorem WP_seq {x y : Code} (h : WP P n x (thenQ (fun F w => WP P n y Q F w) Q) F w) : WP P n (.seq x y) Q F w := by
  refine wp_seq (wp_mono h ?_)
  rintro e a w ⟨F, rfl, h2⟩
  cases e <;> first | exact h2 | exact ⟨F, rfl, h2⟩

/-- with what holds between the two -/
theorem WP_cut {x y : Code} (R : Fr → World → Prop) (h : WP P n x (thenQ R Q) F w) (h2 : ∀ F w, R F w → WP P n y Q F w) : WP P n (.seq x y) Q F w := by
  refine WP_seq (WP_mono h ?_)
  intro e F w h
  cases e <;> first | exact h2 _ _ h | exact h

theorem WP_block {id : Nat} {c : Code} (h : WP P n c (inBlk id Q) F w) : WP P n (.block id c) Q F w := by
  refine wp_block (wp_mono h ?_)
  rintro e a w ⟨F, rfl, h2⟩
  cases e with
  | exit id' =>
    simp only [Exit.inBlock]
    by_cases hid : id' = id
    · subst hid
      simp only [if_true]
      have hb : Nat.beq id' id' = true := Nat.beq_refl id'
      simp only [inBlk, hb] at h2
      exact ⟨F, rfl, h2⟩
    · rw [if_neg hid]
      have hb : Nat.beq id' id = false := nbeq_false hid
      simp only [inBlk, hb] at h2
      exact ⟨F, rfl, h2⟩
  | _ => exact ⟨F, rfl, h2⟩

theorem WP_cond {c : Operand} {x y : Code} {t : Bool} (hc : ev n F c = .bool t) (ht : t = true → WP P n x Q F w) (hf : t = false → WP P n y Q F w) : WP P n (.cond c x y) Q F w :=
  wp_cond_split (by rw [act_eval]; exact hc) ht hf

theorem WP_cond_d {c : Operand} {x y : Code} {p : Prop} [Decidable p] (hc : ev n F c = .bool (decide p)) (ht : p → WP P n x Q F w) (hf : ¬ p → WP P n y Q F w) : WP P n (.cond c x y) Q F w :=
  WP_cond hc (fun h => ht (of_decide_eq_true h)) (fun h => hf (of_decide_eq_false h))

theorem WP_cond_nd {c : Operand} {x y : Code} {p : Prop} [Decidable p] (hc : ev n F c = .bool (!decide p)) (ht : ¬ p → WP P n x Q F w) (hf : p → WP P n y Q F w) : WP P n (.cond c x y) Q F w :=
  WP_cond hc (fun h => ht (of_decide_eq_false (by simpa using h))) (fun h => hf (of_decide_eq_true (by simpa using h)))

theorem WP_cond_t {c : Operand} {x y : Code} (hc : ev n F c = .bool true) (h : WP P n x Q F w) : WP P n (.cond c x y) Q F w := WP_cond hc (fun _ => h) (fun e => by cases e)
theorem WP_cond_f {c : Operand} {x y : Code} (hc : ev n F c = .bool false) (h : WP P n y Q F w) : WP P n (.cond c x y) Q F w := WP_cond hc (fun e => by cases e) (fun _ => h)

theorem WP_skip (h : Q .normal F w) : WP P n .skip Q F w := wp_skip ⟨F, rfl, h⟩
theorem WP_label {l : Nat} (h : Q .normal F w) : WP P n (.label l) Q F w := wp_label ⟨F, rfl, h⟩
theorem WP_exit {id : Nat} (h : Q (.exit id) F w) : WP P n (.exit id) Q F w := wp_exit ⟨F, rfl, h⟩
theorem WP_ret (h : Q .ret F w) : WP P n .ret Q F w := wp_ret ⟨F, rfl, h⟩

theorem loop_ix {c : Code} {a : Act} {QA : Exit → Act → World → Prop} (I : Nat → Act → World → Prop) (m0 : Nat) (h0 : I m0 a w)
    (round : ∀ m a w, I m a w → c.wp P (Exit.then (fun a' w' => ∃ m', m' < m ∧ I m' a' w') QA) a w) : (Code.loop c).wp P QA a w := by
  intro b k cs
  have key : ∀ m a w, I m a w → ∃ e a' w', QA e a' w' ∧ Arrives P (lone (b.at a (.code c :: .inLoop c :: k)) cs w) b k cs e a' w' := by
    intro m
    induction m using Nat.strongRecOn with
    | _ m ih =>
      intro a w hI
      obtain ⟨e, a₁, w₁, hq, harr⟩ := round m a w hI b (.inLoop c :: k) cs
      cases e with
      | normal =>
        obtain ⟨m', hlt, hI₁⟩ := hq
        obtain ⟨e₂, a₂, w₂, hq₂, harr₂⟩ := ih m' hlt a₁ w₁ hI₁
        exact ⟨e₂, a₂, w₂, hq₂, .of_steps (Steps.trans harr (.one step_inLoop)) harr₂⟩
      | exit id => exact ⟨_, a₁, w₁, hq, .pass (x := .inLoop c) rfl (fun _ _ => .inl (by simp)) harr⟩
      | goto l => exact ⟨_, a₁, w₁, hq, .pass (x := .inLoop c) rfl (fun _ _ => .inl (by simp)) harr⟩
      | ret => exact ⟨_, a₁, w₁, hq, .pass (x := .inLoop c) rfl (fun _ _ => .inl (by simp)) harr⟩
      | panic ch => exact ⟨_, a₁, w₁, hq, .pass (x := .inLoop c) rfl (fun _ _ => .inl (by simp)) harr⟩
      | outgrown => exact ⟨_, a₁, w₁, hq, .pass (x := .inLoop c) rfl (fun _ _ => .inl (by simp)) harr⟩
  obtain ⟨e, a', w', hq, harr⟩ := key _ a w h0
  exact ⟨e, a', w', hq, .of_steps (.one step_loop) harr⟩

/-- A LOOP: the frame at the head of each round is G u x, u being what the slots held that the loop writes. -/
theorem WP_loop {c : Code} {X : Type} (G : Fr → X → Fr) (I : X → World → Prop) (μ : X → Nat) (u0 : Fr) (x0 : X) (h0 : F = G u0 x0) (hi : I x0 w)
    (round : ∀ (u : Fr) (x : X) (w : World), I x w → WP P n c (thenQ (fun F' w' => ∃ x', F' = G F' x' ∧ I x' w' ∧ μ x' < μ x) Q) (G u x) w) : WP P n (.loop c) Q F w := by
  refine loop_ix (fun m a w => ∃ u x, a = act n (G u x) ∧ I x w ∧ μ x = m) _ ⟨u0, x0, by rw [h0], hi, rfl⟩ ?_
  rintro m a w ⟨u, x, rfl, hI, rfl⟩
  refine wp_mono (round u x w hI) ?_
  rintro e a w' ⟨F', rfl, h2⟩
  cases e with
  | normal =>
    obtain ⟨x', hF, hI', hlt⟩ := h2
    exact ⟨μ x', hlt, F', x', by rw [← hF], hI', rfl⟩
  | _ => exact ⟨F', rfl, h2⟩

/-! the round's end -/
def Same (S : List Nat) (F F' : Fr) : Prop := ∀ i, inS S i = false → F i = F' i
theorem Same.refl {S : List Nat} {F : Fr} : Same S F F := fun _ _ => rfl
theorem Same.put {S : List Nat} {d : Nat} {v : Value} {F F' : Fr} (h1 : inS S d = true) (h : Same S F F') : Same S (F.put d v) F' := by
  intro i hi'
  have hne : Nat.beq i d = false := by
    refine nbeq_false ?_
    rintro rfl
    rw [h1] at hi'
    cases hi'
  simp only [Fr.put, hne, cond_false]
  exact h i hi'
theorem Same.hav {S : List Nat} {u F : Fr} : Same S (Fr.hav S u F) F := by
  intro i hi'
  simp only [Fr.hav, hi', cond_false]
theorem inS_mem : ∀ (S : List Nat) (i : Nat), inS S i = true → i ∈ S
  | [], _, h => by cases h
  | d :: S, i, h => by
    simp only [inS] at h
    cases hb : Nat.beq i d
    · rw [hb] at h
      exact List.mem_cons_of_mem _ (inS_mem S i h)
    · rw [Nat.eq_of_beq_eq_true hb]
      exact List.mem_cons_self
theorem Same.havs {S S' : List Nat} {u F F' : Fr} (h : S'.all (inS S) = true) (h2 : Same S F F') : Same S (Fr.hav S' u F) F' := by
  intro i hi'
  have hn : inS S' i = false := by
    cases hb : inS S' i
    · rfl
    · have := List.all_eq_true.1 h i (inS_mem S' i hb)
      rw [hi'] at this
      cases this
  simp only [Fr.hav, hn, cond_false]
  exact h2 i hi'
theorem Same.eq {S : List Nat} {F F' : Fr} (h : Same S F' F) : F' = Fr.hav S F' F := by
  funext i
  simp only [Fr.hav]
  cases hb : inS S i
  · exact h i hb
  · rfl
theorem WP_loopS {c : Code} {X : Type} (S : List Nat) (H : X → Fr → Fr) (I : X → World → Prop) (μ : X → Nat) (x0 : X) (h0 : F = H x0 (Fr.hav S F F)) (hi : I x0 w)
    (round : ∀ (u : Fr) (x : X) (w : World), I x w → WP P n c (thenQ (fun F' w' => ∃ x', F' = H x' (Fr.hav S F' F) ∧ I x' w' ∧ μ x' < μ x) Q) (H x (Fr.hav S u F)) w) : WP P n (.loop c) Q F w :=
  WP_loop (fun u x => H x (Fr.hav S u F)) I μ F x0 h0 hi round
theorem WP_loop2 {c : Code} {X Y : Type} (S : List Nat) (H : X → Y → Fr → Fr) (I : X → Y → World → Prop) (μ : X → Y → Nat) (x0 : X) (y0 : Y) (h0 : F = H x0 y0 (Fr.hav S F F)) (hi : I x0 y0 w)
    (round : ∀ (u : Fr) (x : X) (y : Y) (w : World), I x y w → WP P n c (thenQ (fun F' w' => ∃ x' y', F' = H x' y' (Fr.hav S F' F) ∧ I x' y' w' ∧ μ x' y' < μ x y) Q) (H x y (Fr.hav S u F)) w) : WP P n (.loop c) Q F w := by
  refine WP_loopS S (fun (x : X × Y) => H x.1 x.2) (fun x => I x.1 x.2) (fun x => μ x.1 x.2) (x0, y0) h0 hi ?_
  intro u x w hI
  refine WP_mono (round u x.1 x.2 w hI) ?_
  intro e F w h
  cases e with
  | normal =>
    obtain ⟨x', y', h1, h2, h3⟩ := h
    exact ⟨(x', y'), h1, h2, h3⟩
  | _ => exact h
theorem WP_loop3 {c : Code} {X Y Z : Type} (S : List Nat) (H : X → Y → Z → Fr → Fr) (I : X → Y → Z → World → Prop) (μ : X → Y → Z → Nat) (x0 : X) (y0 : Y) (z0 : Z) (h0 : F = H x0 y0 z0 (Fr.hav S F F)) (hi : I x0 y0 z0 w)
    (round : ∀ (u : Fr) (x : X) (y : Y) (z : Z) (w : World), I x y z w → WP P n c (thenQ (fun F' w' => ∃ x' y' z', F' = H x' y' z' (Fr.hav S F' F) ∧ I x' y' z' w' ∧ μ x' y' z' < μ x y z) Q) (H x y z (Fr.hav S u F)) w) : WP P n (.loop c) Q F w := by
  refine WP_loopS S (fun (x : X × Y × Z) => H x.1 x.2.1 x.2.2) (fun x => I x.1 x.2.1 x.2.2) (fun x => μ x.1 x.2.1 x.2.2) (x0, y0, z0) h0 hi ?_
  intro u x w hI
  refine WP_mono (round u x.1 x.2.1 x.2.2 w hI) ?_
  intro e F w h
  cases e with
  | normal =>
    obtain ⟨x', y', z', h1, h2, h3⟩ := h
    exact ⟨(x', y', z'), h1, h2, h3⟩
  | _ => exact h
theorem put_self {F H : Fr} {d : Nat} {v : Value} (h : F = H) (hv : F d = v) : F = H.put d v := by
  subst h
  funext i
  simp only [Fr.put]
  cases hb : Nat.beq i d
  · rfl
  · have := Nat.eq_of_beq_eq_true hb
    subst this
    exact hv
end

/-! ### operations -/
/-- the operation leaves the world alone and yields v -/
def PV (P : Program) (n : Nat) (w : World) (F : Fr) (o : Oper) (v : Value) : Prop := (execOp (ev n F) o).run P w = .ok (.value v) w

def StepF (P : Program) (n : Nat) (o : Oper) (F : Fr) (w : World) (R : Value → World → Prop) : Prop := Step P o (act n F) w R

def wpl (P : Program) (n : Nat) (ops : Array Oper) (l : List Oper) (Q : Exit → Fr → World → Prop) (F : Fr) (w : World) : Prop := wpList P ops (up n Q) l (act n F) w

/-- which operations with an effect must leave the world in the class: all, or all but stores and appends -/
def need (st : Bool) (o : Oper) : Bool := st || match o.op with
  | .store .. => false
  | .call c => match c.callee with
    | .builtin .append => false
    | _ => true
  | _ => true

def wpd (P : Program) (n : Nat) (ops : Array Oper) (st : Bool) (G : World → Prop) (l : List Oper) (Q : Exit → Fr → World → Prop) (F : Fr) (w : World) : Prop :=
  wpD P ops (need st) G (fun a w => up n Q .normal a w) l (act n F) w

/-- the value of an operation whose guard says no -/
def Sel (b : Bool) (v : Value) : Value := if b then v else undef

section
variable {P : Program} {n : Nat} {Q : Exit → Fr → World → Prop} {F : Fr} {w : World} {ops : Array Oper} {o : Oper} {rest : List Oper} {st : Bool} {G : World → Prop}

theorem WP_region {id : Nat} {l : List Oper} (h : wpl P n l.toArray l Q F w) : WP P n (.region id l.toArray false) Q F w := wp_region_lit h

theorem WP_draw {id : Nat} {l : List Oper} (hm : P.follows .mixedOrders = true) (hok : drawOK P l.toArray (need true) = true) (G : World → Prop) (hG : G w.drew)
    (h : wpd P n l.toArray true G l Q F w.drew) : WP P n (.region id l.toArray true) Q F w := wp_draw hm hok G hG h
theorem WP_drawS {id : Nat} {l : List Oper} (hm : P.follows .mixedOrders = true) (hok : drawOK P l.toArray (need false) = true) (G : World → Prop) (hG : G w.drew)
    (h : wpd P n l.toArray false G l Q F w.drew) : WP P n (.region id l.toArray true) Q F w := wp_draw hm hok G hG h

theorem wpl_nil (h : Q .normal F w) : wpl P n ops [] Q F w := wpList_nil ⟨F, rfl, h⟩
theorem wpd_nil (h : Q .normal F w) : wpd P n ops st G [] Q F w := ⟨F, rfl, h⟩

theorem wpl_step {R : Value → World → Prop} (hg : o.guard = none) (hs : StepF P n o F w R) (h : ∀ v w', R v w' → wpl P n ops rest Q (F.putO o.dst v) w') : wpl P n ops (o :: rest) Q F w := by
  refine wpList_plain hg fun K hK => hs.wp fun v w' hr => hK _ _ ?_
  rw [act_put]
  exact h v w' hr

theorem wpl_pure {r v : Value} (hg : o.guard = none) (hp : PV P n w F o r) (hv : r = v) (h : wpl P n ops rest Q (F.putO o.dst v) w) : wpl P n ops (o :: rest) Q F w := by
  subst hv
  refine wpl_step (R := fun u w' => u = r ∧ w' = w) hg (.inl ⟨r, w, ?_, rfl, rfl⟩) ?_
  · rw [act_eval]; exact hp
  · rintro u w' ⟨rfl, rfl⟩; exact h

/-- the slot of the guard -/
def gslot (ops : Array Oper) (j : Nat) : Option Nat := (ops[j]?).bind (·.dst)

theorem wanted_act {j : Nat} {want c : Bool} {d : Nat} (hg : o.guard = some (j, want)) (hj : gslot ops j = some d) (hc : ev n F (.tmp d) = .bool c) :
    Region.wanted o (yielded ops (act n F).tmps) = (c == want) := by
  simp only [Region.wanted, hg, yielded]
  unfold gslot at hj
  rw [hj]
  have hlt : d < n := by
    by_cases h : d < n
    · exact h
    · simp [ev, nblt_false h, undef] at hc
  have hb : Nat.blt d n = true := nblt_true hlt
  simp only [ev, hb, cond_true] at hc
  simp [act, hlt, hc]

theorem wpl_gd {r v : Value} {j : Nat} {want c : Bool} {d : Nat} (hg : o.guard = some (j, want)) (hj : gslot ops j = some d) (hc : ev n F (.tmp d) = .bool c)
    (hp : (c == want) = true → PV P n w F o r) (hv : (c == want) = true → r = v) (h : wpl P n ops rest Q (F.putO o.dst (Sel (c == want) v)) w) : wpl P n ops (o :: rest) Q F w := by
  unfold wpl wpList
  rw [wanted_act hg hj hc]
  cases hcw : (c == want)
  · rw [hcw] at h
    simp only [Bool.false_eq_true, if_false]
    rw [act_put]
    exact h
  · rw [hcw] at h
    simp only [if_true]
    refine .inl ?_
    refine Step.wp (R := fun u w' => u = v ∧ w' = w) (.inl ⟨v, w, ?_, rfl, rfl⟩) ?_
    · rw [act_eval, ← hv hcw]; exact hp hcw
    · rintro u w' ⟨rfl, rfl⟩
      rw [act_put]
      exact h

theorem wanted_act2 {j : Nat} {want b c : Bool} {d : Nat} (hg : o.guard = some (j, want)) (hj : gslot ops j = some d) (hc : ev n F (.tmp d) = Sel b (.bool c)) :
    Region.wanted o (yielded ops (act n F).tmps) = (b && (c == want)) := by
  cases b
  · simp only [Region.wanted, hg, yielded]
    unfold gslot at hj
    rw [hj]
    have hv : (act n F).tmps[d]? = none ∨ (act n F).tmps[d]? = some undef := by
      by_cases h : d < n
      · right
        have hb : Nat.blt d n = true := nblt_true h
        simp only [ev, hb, cond_true, Sel] at hc
        simp [act, h, hc]
      · left
        simp [act, h]
    rcases hv with hv | hv <;> simp [hv, undef]
  · exact (wanted_act hg hj hc).trans (by simp)

theorem wpl_gd2 {r v : Value} {j : Nat} {want b c : Bool} {d : Nat} (hg : o.guard = some (j, want)) (hj : gslot ops j = some d) (hc : ev n F (.tmp d) = Sel b (.bool c))
    (hp : b = true → (b && (c == want)) = true → PV P n w F o r) (hv : b = true → (b && (c == want)) = true → r = v) (h : wpl P n ops rest Q (F.putO o.dst (Sel (b && (c == want)) v)) w) : wpl P n ops (o :: rest) Q F w := by
  unfold wpl wpList
  rw [wanted_act2 hg hj hc]
  cases hcw : (b && (c == want))
  · rw [hcw] at h
    simp only [Bool.false_eq_true, if_false]
    rw [act_put]
    exact h
  · rw [hcw] at h
    have hb : b = true := by simp at hcw; exact hcw.1
    simp only [if_true]
    refine .inl ?_
    refine Step.wp (R := fun u w' => u = v ∧ w' = w) (.inl ⟨v, w, ?_, rfl, rfl⟩) ?_
    · rw [act_eval, ← hv hb hcw]; exact hp hb hcw
    · rintro u w' ⟨rfl, rfl⟩
      rw [act_put]
      exact h

theorem wpd_gd2 {r v : Value} {j : Nat} {want b c : Bool} {d : Nat} (he : effOp o.op = false) (hg : o.guard = some (j, want)) (hj : gslot ops j = some d) (hc : ev n F (.tmp d) = Sel b (.bool c))
    (hp : b = true → (b && (c == want)) = true → ∀ w, G w → PV P n w F o r) (hv : b = true → (b && (c == want)) = true → r = v) (h : wpd P n ops st G rest Q (F.putO o.dst (Sel (b && (c == want)) v)) w) : wpd P n ops st G (o :: rest) Q F w := by
  unfold wpd wpD
  rw [if_neg (by rw [he]; simp)]
  refine ⟨Sel (b && (c == want)) v, ?_, by rw [act_put]; exact h⟩
  unfold YV
  rw [wanted_act2 hg hj hc]
  cases hcw : (b && (c == want))
  · exact .inr ⟨rfl, rfl⟩
  · have hb : b = true := by simp at hcw; exact hcw.1
    refine .inl ⟨rfl, fun w hw => ?_⟩
    rw [act_eval]
    have := hp hb hcw w hw
    rw [hv hb hcw] at this
    exact this

theorem wpd_pure {r v : Value} (he : effOp o.op = false) (hg : o.guard = none) (hp : ∀ w, G w → PV P n w F o r) (hv : r = v) (h : wpd P n ops st G rest Q (F.putO o.dst v) w) : wpd P n ops st G (o :: rest) Q F w := by
  subst hv
  unfold wpd wpD
  rw [if_neg (by rw [he]; simp)]
  refine ⟨r, .inl ⟨by simp [Region.wanted, hg], fun w hw => ?_⟩, ?_⟩
  · rw [act_eval]; exact hp w hw
  · rw [act_put]; exact h

theorem wpd_gd {r v : Value} {j : Nat} {want c : Bool} {d : Nat} (he : effOp o.op = false) (hg : o.guard = some (j, want)) (hj : gslot ops j = some d) (hc : ev n F (.tmp d) = .bool c)
    (hp : (c == want) = true → ∀ w, G w → PV P n w F o r) (hv : (c == want) = true → r = v) (h : wpd P n ops st G rest Q (F.putO o.dst (Sel (c == want) v)) w) : wpd P n ops st G (o :: rest) Q F w := by
  unfold wpd wpD
  rw [if_neg (by rw [he]; simp)]
  refine ⟨Sel (c == want) v, ?_, by rw [act_put]; exact h⟩
  unfold YV
  rw [wanted_act hg hj hc]
  cases hcw : (c == want)
  · exact .inr ⟨rfl, rfl⟩
  · refine .inl ⟨rfl, fun w hw => ?_⟩
    rw [act_eval]
    have := hp hcw w hw
    rw [hv hcw] at this
    exact this

theorem wpd_step {R : Value → World → Prop} (he : effOp o.op = true) (hg : o.guard = none) (hs : StepF P n o F w R) (h : ∀ v w', R v w' → G w' ∧ wpd P n ops st G rest Q (F.putO o.dst v) w') :
    wpd P n ops st G (o :: rest) Q F w := by
  unfold wpd wpD
  rw [if_pos he]
  refine ⟨fun _ => hs.mono fun v w' hr => ?_, fun hw => ?_⟩
  · rw [act_put]; exact ⟨fun _ => (h v w' hr).1, (h v w' hr).2⟩
  · simp [Region.wanted, hg] at hw

/-- a store that need not stay in the class -/
theorem wpd_store {R : Value → World → Prop} (he : effOp o.op = true) (hn : need false o = false) (hg : o.guard = none) (hs : StepF P n o F w R) (h : ∀ v w', R v w' → wpd P n ops false G rest Q (F.putO o.dst v) w') :
    wpd P n ops false G (o :: rest) Q F w := by
  unfold wpd wpD
  rw [if_pos he]
  refine ⟨fun _ => hs.mono fun v w' hr => ?_, fun hw => ?_⟩
  · rw [act_put]; exact ⟨fun hh => (by rw [hn] at hh; cases hh), h v w' hr⟩
  · simp [Region.wanted, hg] at hw

/-- an operation with an effect, under a guard: its value is known, and the worlds that it leaves are in a class that holds the one before it -/
theorem wpd_gstep {v : Value} {j : Nat} {want c : Bool} {d : Nat} (he : effOp o.op = true) (hg : o.guard = some (j, want)) (hj : gslot ops j = some d) (hc : ev n F (.tmp d) = .bool c)
    (C : World → Prop) (hC : C w) (hs : (c == want) = true → StepF P n o F w (fun u w' => u = v ∧ C w'))
    (h : ∀ w', C w' → G w' ∧ wpd P n ops st G rest Q (F.putO o.dst (Sel (c == want) v)) w') : wpd P n ops st G (o :: rest) Q F w := by
  unfold wpd wpD
  rw [if_pos he]
  unfold EffStep
  rw [wanted_act hg hj hc]
  refine ⟨fun hw => (hs hw).mono ?_, fun hw => ?_⟩
  · rintro u w' ⟨rfl, hr⟩
    have := h w' hr
    rw [hw] at this
    rw [act_put]; exact ⟨fun _ => this.1, this.2⟩
  · have := h w hC
    rw [hw] at this
    rw [act_put]; exact ⟨fun _ => this.1, this.2⟩

theorem wpl_gstep {v : Value} {j : Nat} {want c : Bool} {d : Nat} (hg : o.guard = some (j, want)) (hj : gslot ops j = some d) (hc : ev n F (.tmp d) = .bool c)
    (C : World → Prop) (hC : C w) (hs : (c == want) = true → StepF P n o F w (fun u w' => u = v ∧ C w'))
    (h : ∀ w', C w' → wpl P n ops rest Q (F.putO o.dst (Sel (c == want) v)) w') : wpl P n ops (o :: rest) Q F w := by
  unfold wpl wpList
  rw [wanted_act hg hj hc]
  cases hcw : (c == want)
  · have := h w hC
    rw [hcw] at this
    simp only [Bool.false_eq_true, if_false]
    rw [act_put]
    exact this
  · simp only [if_true]
    refine .inl ((hs hcw).wp ?_)
    rintro u w' ⟨rfl, hr⟩
    have := h w' hr
    rw [hcw] at this
    rw [act_put]
    exact this

/-- reading a slot that was written under a guard that says yes -/
theorem ev_sel {x : Operand} {b : Bool} {v : Value} (h : ev n F x = Sel b v) (hb : b = true) : ev n F x = v := by
  rw [h, hb]; rfl

/-! ### calls -/
def retQ (P : Program) (n : Nat) (fn : Func) (R : Ending → World → Prop) : Exit → Fr → World → Prop := fun e F w => match e with
  | .normal | .ret => ∃ v, (results fn (act n F).tmps).run P w = .ok v w ∧ R (.returned v) w
  | _ => False

theorem calls_of_WP {f : FuncId} {fn : Func} {c : Code} {args : List Value} {R : Ending → World → Prop} (hf : P.funcs[f]? = some fn) (hb : fn.body = some c) (hn : fn.ntmps = n) (hsz : args.length ≤ n)
    (h : WP P n c (retQ P n fn R) (frOf args) w) : Calls P f args.toArray w R := by
  refine calls_of_wp hf hb ?_
  have ha : ({ tmps := args.toArray ++ Array.replicate (fn.ntmps - args.toArray.size) undef, defers := [] } : Act) = act n (frOf args) := by
    simp only [act]
    congr 1
    apply Array.ext
    · simp [hn]; omega
    · intro i h1 h2
      simp only [Array.getElem_ofFn]
      have hfr : ∀ (l : List Value) (i : Nat), frOf l i = l.getD i undef := by
        intro l
        induction l with
        | nil => intro i; simp [frOf]
        | cons x l ih => intro i; cases i <;> simp [frOf, ih]
      rw [hfr]
      by_cases hi : i < args.length
      · rw [Array.getElem_append_left (by simpa using hi)]
        simp [List.getD_eq_getElem?_getD, hi]
      · rw [Array.getElem_append_right (by simpa using hi)]
        simp [List.getD_eq_getElem?_getD, hi]
  rw [ha]
  refine Go.wp_mono h ?_
  rintro e a w ⟨F, rfl, h2⟩
  cases e <;> first | exact ⟨rfl, h2⟩ | exact h2.elim

theorem ret_tmp {fn : Func} {R : Ending → World → Prop} {t : Nat} {v : Value} (h : fn.results = #[.tmp t]) (hv : ev n F (.tmp t) = v) (hr : R (.returned v) w) : retQ P n fn R .ret F w := by
  refine ⟨v, ?_, hr⟩
  rw [results_tmp h]
  rw [← hv, ← act_eval]
  rfl
theorem ret_tmp2 {fn : Func} {R : Ending → World → Prop} {t u : Nat} {v v' : Value} (h : fn.results = #[.tmp t, .tmp u]) (hv : ev n F (.tmp t) = v) (hv' : ev n F (.tmp u) = v') (hr : R (.returned (.tuple #[v, v'])) w) : retQ P n fn R .ret F w := by
  refine ⟨.tuple #[v, v'], ?_, hr⟩
  rw [results_tmp2 h]
  rw [← hv, ← hv', ← act_eval]
  rfl
theorem ret_none {fn : Func} {R : Ending → World → Prop} (h : fn.results = #[]) (hr : R (.returned (.tuple #[])) w) : retQ P n fn R .normal F w := ⟨_, results_none h _ _ _, hr⟩
theorem ret_none' {fn : Func} {R : Ending → World → Prop} (h : fn.results = #[]) (hr : R (.returned (.tuple #[])) w) : retQ P n fn R .ret F w := ⟨_, results_none h _ _ _, hr⟩

end
end Go.Eng
