/- The engine, part A: a region that draws its order is walked once, in the order of the text, if its operations that change the world stand in one forced order and the others yield one value in every world of a class; conditions: the closed check drawOK. -/
import Derived.WalkKit
import Derived.Orders
namespace Go.Eng

/-- operations that may change the world -/
def effOp : Op → Bool
  | .move _ | .assign _ | .pick .. | .fieldAddr .. | .field .. | .load .. | .nilCheck _ | .binOp .. | .unOp .. | .convert .. | .makeInterface ..
  | .makeFunc .. | .slice .. | .indexAddr .. | .index .. | .extract .. | .lookup .. | .build .. => false
  | .call c => match c.callee with | .builtin .len | .builtin .min | .builtin .max | .builtin .cap => false | _ => true
  | _ => true

def notSel : Op → Bool
  | .select .. => false
  | _ => true

/-- one operation's outcome -/
def Step (P : Program) (o : Oper) (a : Act) (w : World) (R : Value → World → Prop) : Prop :=
  (∃ v w', (execOp a.eval o).run P w = .ok (.value v) w' ∧ R v w') ∨
  (∃ w', (execOp a.eval o).run P w = .ok .skip w' ∧ R undef w') ∨
  (∃ f args w1, (execOp a.eval o).run P w = .ok (.enter f args) w1 ∧ Calls P f args w1 (fun e w' => ∃ v, e = .returned v ∧ R v w'))

theorem Step.mono {P : Program} {o : Oper} {a : Act} {w : World} {R R' : Value → World → Prop} (h : Step P o a w R) (hr : ∀ v w', R v w' → R' v w') : Step P o a w R' := by
  rcases h with ⟨v, w', h1, h2⟩ | ⟨w', h1, h2⟩ | ⟨f, args, w1, h1, h2⟩
  · exact .inl ⟨v, w', h1, hr _ _ h2⟩
  · exact .inr (.inl ⟨w', h1, hr _ _ h2⟩)
  · exact .inr (.inr ⟨f, args, w1, h1, h2.mono fun e w' ⟨v, he, hv⟩ => ⟨v, he, hr _ _ hv⟩⟩)

theorem Step.out {P : Program} {o : Oper} {a : Act} {w : World} {R : Value → World → Prop} (h : Step P o a w R) : ∃ v w', R v w' := by
  rcases h with ⟨v, w', _, h2⟩ | ⟨w', _, h2⟩ | ⟨f, args, w1, _, h2⟩
  · exact ⟨v, w', h2⟩
  · exact ⟨_, w', h2⟩
  · obtain ⟨e, w', fr, ⟨v, _, hv⟩, _⟩ := h2 []
    exact ⟨v, w', hv⟩

theorem Step.congr {P : Program} {o : Oper} {a a' : Act} {w : World} {R : Value → World → Prop} (he : execOp a'.eval o = execOp a.eval o) (h : Step P o a w R) : Step P o a' w R := by
  unfold Step at *
  rw [he]
  exact h

theorem Step.wp {P : Program} {o : Oper} {a : Act} {w : World} {R : Value → World → Prop} {K : Act → World → Prop} {Q : Exit → Act → World → Prop} (h : Step P o a w R)
    (hk : ∀ v w', R v w' → K (a.put o.dst v) w') : o.wp P a w K Q := by
  unfold Oper.wp
  rcases h with ⟨v, w', h1, h2⟩ | ⟨w', h1, h2⟩ | ⟨f, args, w1, h1, h2⟩
  · rw [h1]; exact hk _ _ h2
  · rw [h1]; exact hk _ _ h2
  · rw [h1]
    exact h2.mono fun e w' ⟨v, he, hv⟩ => by subst he; exact hk _ _ hv

/-- one value in every world of the class -/
def YV (P : Program) (ops : Array Oper) (G : World → Prop) (o : Oper) (a : Act) (v : Value) : Prop :=
  (Region.wanted o (yielded ops a.tmps) = true ∧ ∀ w, G w → (execOp a.eval o).run P w = .ok (.value v) w) ∨
  (Region.wanted o (yielded ops a.tmps) = false ∧ v = undef)

theorem YV.congr {P : Program} {ops : Array Oper} {G : World → Prop} {o : Oper} {a a' : Act} {v : Value} (he : execOp a'.eval o = execOp a.eval o)
    (hw : Region.wanted o (yielded ops a'.tmps) = Region.wanted o (yielded ops a.tmps)) (h : YV P ops G o a v) : YV P ops G o a' v := by
  unfold YV at *
  rw [he, hw]
  exact h

theorem YV.uniq {P : Program} {ops : Array Oper} {G : World → Prop} {o : Oper} {a : Act} {v v' : Value} {w : World} (hw : G w) (h : YV P ops G o a v) (h' : YV P ops G o a v') : v = v' := by
  rcases h with ⟨h1, h2⟩ | ⟨h1, h2⟩ <;> rcases h' with ⟨h3, h4⟩ | ⟨h3, h4⟩
  · have e1 := h2 w hw
    have e2 := h4 w hw
    rw [e1] at e2
    simpa using e2
  · rw [h1] at h3; cases h3
  · rw [h1] at h3; cases h3
  · rw [h2, h4]

def EffStep (P : Program) (ops : Array Oper) (o : Oper) (a : Act) (w : World) (K : Act → World → Prop) : Prop :=
  (Region.wanted o (yielded ops a.tmps) = true → Step P o a w (fun v w' => K (a.put o.dst v) w')) ∧
  (Region.wanted o (yielded ops a.tmps) = false → K (a.put o.dst undef) w)

theorem EffStep.mono {P : Program} {ops : Array Oper} {o : Oper} {a : Act} {w : World} {K K' : Act → World → Prop} (h : EffStep P ops o a w K) (hk : ∀ a w, K a w → K' a w) : EffStep P ops o a w K' :=
  ⟨fun hw => (h.1 hw).mono fun _ _ => hk _ _, fun hw => hk _ _ (h.2 hw)⟩

/-- operations whose value does not depend on the world -/
def wl (P : Program) : Op → Bool
  | .move _ | .assign _ => true
  | .fieldAddr s _ i => match P.underlying s with
    | some (.struct fs) => match fs[i]? with
      | some f => match (P.info? f.type).map (·.size) with
        | some (_ + 1) => true
        | _ => false
      | none => false
    | _ => false
  | _ => false
theorem wl_run {P : Program} {ρ : Operand → Value} {o : Oper} {w w' : World} {v : Value} (h : wl P o.op = true) (hr : (execOp ρ o).run P w = .ok (.value v) w) : (execOp ρ o).run P w' = .ok (.value v) w' := by
  cases o with
  | mk dst op ty pos aft g =>
    cases op <;> first | (cases h; done) | skip
    · simpa [execOp] using hr
    · simpa [execOp] using hr
    · rename_i s x i
      simp only [wl] at h
      split at h
      · rename_i fs hfs
        split at h
        · rename_i f hf
          split at h
          · rename_i k hk
            have hsz : ∀ w, (sizeOf f.type).run P w = .ok (k + 1) w := by
              intro w
              cases hi : P.info? f.type with
              | none => simp [hi] at hk
              | some inf => simp [hi] at hk; simp [sizeOf, typeInfo, hi, hk]
            have hu : ∀ w, (underlying s).run P w = .ok (.struct fs) w := fun w => by simp [underlying, hfs]
            simp only [execOp, Instr.fieldAt, Sem.run_bind, hu, Result.andThen_ok, hf] at hr ⊢
            cases hx : ρ x with
            | pointer a =>
              cases a with
              | none => simp [hx, Instr.sureAddr] at hr
              | some a =>
                simp [hx, Instr.sureAddr, fieldPlace, hsz] at hr ⊢
                exact hr
            | _ => simp [hx, Instr.sureAddr] at hr
          · cases h
        · cases h
      · cases h

/-- the walk in the order of the text -/
def wpD (P : Program) (ops : Array Oper) (nd : Oper → Bool) (G : World → Prop) (K : Act → World → Prop) : List Oper → Act → World → Prop
  | [], a, w => K a w
  | o :: rest, a, w =>
    if effOp o.op then EffStep P ops o a w (fun a' w' => (nd o = true → G w') ∧ wpD P ops nd G K rest a' w')
    else ∃ v, YV P ops G o a v ∧ wpD P ops nd G K rest (a.put o.dst v) w

def opAt (ops : Array Oper) (i : Nat) : Oper := ops.getD i default

/-- what the closed check says of two operations, the first one earlier in the text, the second one not behind it by the edges -/
def okPair (ops : Array Oper) (p i : Oper) : Bool := p.apart ops i && !(effOp p.op && effOp i.op) && notSel p.op && notSel i.op

section
variable {P : Program} {ops : Array Oper} {nd : Oper → Bool} {G : World → Prop} {K : Act → World → Prop}

theorem sel_of {o : Oper} (h : notSel o.op = true) : ∀ cs b, o.op ≠ .select cs b := by
  intro cs b e
  rw [e] at h
  cases h

theorem pull {wG : World} (hwG : G wG) (i : Nat) : ∀ (l : List Nat) (a : Act) (w : World), wpD P ops nd G K (l.map (opAt ops)) a w → i ∈ l → l.Pairwise (· < ·) →
    (∀ j ∈ l, j < i → okPair ops (opAt ops j) (opAt ops i) = true) →
    if effOp (opAt ops i).op then EffStep P ops (opAt ops i) a w (fun a' w' => (nd (opAt ops i) = true → G w') ∧ wpD P ops nd G K ((l.filter (· != i)).map (opAt ops)) a' w')
    else ∃ v, YV P ops G (opAt ops i) a v ∧ wpD P ops nd G K ((l.filter (· != i)).map (opAt ops)) (a.put (opAt ops i).dst v) w := by
  intro l
  induction l with
  | nil => intro a w _ h; cases h
  | cons p rest ih =>
    intro a w h hi hs hok
    obtain ⟨hs1, hs2⟩ := List.pairwise_cons.1 hs
    by_cases hp : p = i
    · subst hp
      have hf : (p :: rest).filter (· != p) = rest := by
        rw [List.filter_cons]
        simp only [bne_self_eq_false, Bool.false_eq_true, if_false]
        rw [List.filter_eq_self]
        intro x hx
        have := hs1 x hx
        simp
        omega
      rw [hf]
      simpa [wpD] using h
    · have hir : i ∈ rest := by
        rcases List.mem_cons.1 hi with e | e
        · exact absurd e.symm hp
        · exact e
      have hlt : p < i := hs1 i hir
      have hpi := hok p (by simp) hlt
      have hrest : ∀ j ∈ rest, j < i → okPair ops (opAt ops j) (opAt ops i) = true := fun j hj => hok j (by simp [hj])
      have hf : (p :: rest).filter (· != i) = p :: rest.filter (· != i) := by
        rw [List.filter_cons, if_pos (by simpa using hp)]
      rw [hf, List.map_cons]
      simp only [okPair, Bool.and_eq_true, Bool.not_eq_true', Bool.and_eq_false_iff] at hpi
      obtain ⟨⟨⟨hap, heff⟩, hsp⟩, hsi⟩ := hpi
      obtain ⟨h1, h2, h3⟩ := Oper.apart_spec hap
      have ei : ∀ (a : Act) (v : Value), execOp (a.put (opAt ops p).dst v).eval (opAt ops i) = execOp a.eval (opAt ops i) := fun a v => execOp_put _ (sel_of hsi) a _ v h1
      have ep : ∀ (a : Act) (v : Value), execOp (a.put (opAt ops i).dst v).eval (opAt ops p) = execOp a.eval (opAt ops p) := fun a v => execOp_put _ (sel_of hsp) a _ v h3
      have wi : ∀ (a : Act) (v : Value), Region.wanted (opAt ops i) (yielded ops (a.put (opAt ops p).dst v).tmps) = Region.wanted (opAt ops i) (yielded ops a.tmps) := fun a v => wanted_put _ a _ v h1
      have wq : ∀ (a : Act) (v : Value), Region.wanted (opAt ops p) (yielded ops (a.put (opAt ops i).dst v).tmps) = Region.wanted (opAt ops p) (yielded ops a.tmps) := fun a v => wanted_put _ a _ v h3
      have hc : ∀ (a : Act) (v u : Value), (a.put (opAt ops p).dst v).put (opAt ops i).dst u = (a.put (opAt ops i).dst u).put (opAt ops p).dst v := fun a v u => Act.put_comm a v u h2
      rw [List.map_cons] at h
      by_cases hpe : effOp (opAt ops p).op = true
      · -- p has an effect, i has none
        have hie : effOp (opAt ops i).op = false := by
          rcases heff with e | e
          · rw [hpe] at e; cases e
          · exact e
        rw [if_neg (by rw [hie]; simp)]
        simp only [wpD, hpe, if_true] at h
        have key : ∀ u w', wpD P ops nd G K (rest.map (opAt ops)) (a.put (opAt ops p).dst u) w' → ∃ v, YV P ops G (opAt ops i) a v ∧ wpD P ops nd G K ((rest.filter (· != i)).map (opAt ops)) ((a.put (opAt ops p).dst u).put (opAt ops i).dst v) w' := by
          intro u w' hr
          have := ih _ _ hr hir hs2 hrest
          rw [if_neg (by rw [hie]; simp)] at this
          obtain ⟨v, hv, hr'⟩ := this
          exact ⟨v, hv.congr (ei a u).symm (wi a u).symm, hr'⟩
        have hex : ∃ v, YV P ops G (opAt ops i) a v := by
          cases hwp : Region.wanted (opAt ops p) (yielded ops a.tmps)
          · obtain ⟨_, hr⟩ := h.2 hwp
            obtain ⟨v, hv, _⟩ := key _ _ hr
            exact ⟨v, hv⟩
          · obtain ⟨u, w', _, hr⟩ := (h.1 hwp).out
            obtain ⟨v, hv, _⟩ := key _ _ hr
            exact ⟨v, hv⟩
        obtain ⟨v, hv⟩ := hex
        refine ⟨v, hv, ?_⟩
        simp only [wpD, hpe, if_true]
        have key2 : ∀ u w', ((nd (opAt ops p) = true → G w') ∧ wpD P ops nd G K (rest.map (opAt ops)) (a.put (opAt ops p).dst u) w') →
            (nd (opAt ops p) = true → G w') ∧ wpD P ops nd G K ((rest.filter (· != i)).map (opAt ops)) ((a.put (opAt ops i).dst v).put (opAt ops p).dst u) w' := by
          rintro u w' ⟨hg', hr⟩
          obtain ⟨v', hv', hr'⟩ := key _ _ hr
          have := hv.uniq hwG hv'
          subst this
          rw [hc] at hr'
          exact ⟨hg', hr'⟩
        refine ⟨fun hw => ?_, fun hw => ?_⟩
        · rw [wq] at hw
          exact ((h.1 hw).congr (ep a v)).mono fun u w' hh => key2 u w' hh
        · rw [wq] at hw
          exact key2 _ _ (h.2 hw)
      · -- p has no effect
        have hpe' : effOp (opAt ops p).op = false := by simpa using hpe
        simp only [wpD, hpe', Bool.false_eq_true, if_false] at h
        obtain ⟨vp, hvp, hr⟩ := h
        have hh := ih _ _ hr hir hs2 hrest
        by_cases hie : effOp (opAt ops i).op = true
        · rw [if_pos hie] at hh ⊢
          have key : ∀ u w', ((nd (opAt ops i) = true → G w') ∧ wpD P ops nd G K ((rest.filter (· != i)).map (opAt ops)) ((a.put (opAt ops p).dst vp).put (opAt ops i).dst u) w') →
              (nd (opAt ops i) = true → G w') ∧ wpD P ops nd G K (opAt ops p :: (rest.filter (· != i)).map (opAt ops)) (a.put (opAt ops i).dst u) w' := by
            rintro u w' ⟨hg', hr'⟩
            refine ⟨hg', ?_⟩
            simp only [wpD, hpe', Bool.false_eq_true, if_false]
            rw [hc] at hr'
            exact ⟨vp, hvp.congr (ep a u) (wq a u), hr'⟩
          refine ⟨fun hw => ?_, fun hw => ?_⟩
          · exact ((hh.1 (by rw [wi]; exact hw)).congr (ei a vp).symm).mono fun u w' hx => key u w' hx
          · exact key _ _ (hh.2 (by rw [wi]; exact hw))
        · rw [if_neg hie] at hh ⊢
          obtain ⟨v, hv, hr'⟩ := hh
          refine ⟨v, hv.congr (ei a vp).symm (wi a vp).symm, ?_⟩
          simp only [wpD, hpe', Bool.false_eq_true, if_false]
          rw [hc] at hr'
          exact ⟨vp, hvp.congr (ep a v) (wq a v), hr'⟩

/-- the closed check of a region -/
def drawOK (P : Program) (ops : Array Oper) (nd : Oper → Bool) : Bool :=
  (List.range ops.size).all fun i => (opAt ops i).after.all (fun e => !Region.binds .any e || decide (e.on < i)) &&
    (!effOp (opAt ops i).op || nd (opAt ops i) || (List.range ops.size).all fun j => effOp (opAt ops j).op || wl P (opAt ops j).op || ((Region.before ops).getD i 0).testBit j) &&
    (List.range i).all fun j => ((Region.before ops).getD i 0).testBit j || okPair ops (opAt ops j) (opAt ops i)


/-! the edges -/
def befStep (acc : Array Nat) (o : Oper) : Array Nat := acc.push (o.after.foldl (fun s e => if Region.binds .any e then s ||| 2 ^ e.on ||| acc.getD e.on 0 else s) 0)

theorem bits_fold (acc : Array Nat) (j : Nat) : ∀ (l : List Edge) (s : Nat), (l.foldl (fun s e => if Region.binds .any e then s ||| 2 ^ e.on ||| acc.getD e.on 0 else s) s).testBit j = true →
    s.testBit j = true ∨ ∃ e ∈ l, Region.binds .any e = true ∧ (e.on = j ∨ (acc.getD e.on 0).testBit j = true)
  | [], s, h => .inl h
  | e :: l, s, h => by
    simp only [List.foldl_cons] at h
    rcases bits_fold acc j l _ h with h' | ⟨e', he', hb, hh⟩
    · by_cases hb : Region.binds .any e = true
      · rw [if_pos hb] at h'
        simp only [Nat.testBit_or, Bool.or_eq_true] at h'
        rcases h' with (h' | h') | h'
        · exact .inl h'
        · refine .inr ⟨e, by simp, hb, .inl ?_⟩
          rw [Nat.testBit_two_pow] at h'
          simpa using h'
        · exact .inr ⟨e, by simp, hb, .inr h'⟩
      · rw [if_neg hb] at h'
        exact .inl h'
    · exact .inr ⟨e', by simp [he'], hb, hh⟩

theorem bef_old : ∀ (l : List Oper) (acc : Array Nat) (k : Nat), k < acc.size → (l.foldl befStep acc).getD k 0 = acc.getD k 0
  | [], _, _, _ => rfl
  | o :: l, acc, k, hk => by
    rw [List.foldl_cons, bef_old l _ k (by simp [befStep]; omega)]
    simp only [befStep, Array.getD_eq_getD_getElem?, Array.getElem?_push]
    rw [if_neg (by omega)]

theorem bef_new : ∀ (l : List Oper) (acc : Array Nat) (k : Nat) (o : Oper) (j : Nat), l[k]? = some o → ((l.foldl befStep acc).getD (acc.size + k) 0).testBit j = true →
    ∃ e ∈ o.after.toList, Region.binds .any e = true ∧ (e.on = j ∨ ((l.foldl befStep acc).getD e.on 0).testBit j = true)
  | [], _, _, _, _, h, _ => by simp at h
  | x :: l, acc, 0, o, j, h, hb => by
    have hx : x = o := by simpa using h
    subst hx
    have h0 : ((x :: l).foldl befStep acc).getD (acc.size + 0) 0 = x.after.foldl (fun s e => if Region.binds .any e then s ||| 2 ^ e.on ||| acc.getD e.on 0 else s) 0 := by
      rw [List.foldl_cons, bef_old l _ _ (by simp [befStep])]
      simp [befStep, Array.getD_eq_getD_getElem?]
    rw [h0, ← Array.foldl_toList] at hb
    rcases bits_fold acc j _ _ hb with h' | ⟨e, he, hbd, hh⟩
    · simp at h'
    · refine ⟨e, he, hbd, hh.imp id fun hh => ?_⟩
      by_cases hlt : e.on < acc.size
      · rw [bef_old (x :: l) acc e.on hlt]
        exact hh
      · rw [Array.getD_eq_getD_getElem?, Array.getElem?_eq_none (by omega)] at hh
        simp at hh
  | x :: l, acc, k + 1, o, j, h, hb => by
    rw [List.foldl_cons] at hb ⊢
    have hsz : (befStep acc x).size = acc.size + 1 := by simp [befStep]
    have := bef_new l (befStep acc x) k o j (by simpa using h) (by rw [hsz]; rw [show acc.size + 1 + k = acc.size + (k + 1) from by omega]; exact hb)
    exact this

theorem before_eq (ops : Array Oper) : Region.before ops = ops.toList.foldl befStep #[] := by
  unfold Region.before
  rw [← Array.foldl_toList]
  rfl

theorem before_spec {ops : Array Oper} {i j : Nat} (hi : i < ops.size) (h : ((Region.before ops).getD i 0).testBit j = true) :
    ∃ e ∈ (opAt ops i).after.toList, Region.binds .any e = true ∧ (e.on = j ∨ ((Region.before ops).getD e.on 0).testBit j = true) := by
  rw [before_eq] at h ⊢
  have ho : ops.toList[i]? = some (opAt ops i) := by
    simp [opAt, Array.getElem?_eq_getElem hi]
  have := bef_new ops.toList #[] i (opAt ops i) j ho (by simpa using h)
  exact this

theorem drawOK_edge {P : Program} {ops : Array Oper} {nd : Oper → Bool} (h : drawOK P ops nd = true) {i : Nat} (hi : i < ops.size) : ∀ e ∈ (opAt ops i).after.toList, Region.binds .any e = true → e.on < i := by
  intro e he hb
  simp only [drawOK, List.all_eq_true, Bool.and_eq_true] at h
  have h1 := (h i (by simpa using hi)).1.1
  rw [Array.all_eq_true_iff_forall_mem] at h1
  have := h1 e (by simpa using he)
  rw [hb] at this
  simpa using this

theorem drawOK_pair {P : Program} {ops : Array Oper} {nd : Oper → Bool} (h : drawOK P ops nd = true) {i j : Nat} (hi : i < ops.size) (hj : j < i) : ((Region.before ops).getD i 0).testBit j = true ∨ okPair ops (opAt ops j) (opAt ops i) = true := by
  simp only [drawOK, List.all_eq_true, Bool.and_eq_true] at h
  have h1 := (h i (by simpa using hi)).2 j (by simpa using hj)
  simpa using h1

theorem drawOK_need {P : Program} {ops : Array Oper} {nd : Oper → Bool} (h : drawOK P ops nd = true) {i j : Nat} (hi : i < ops.size) (hj : j < ops.size) (he : effOp (opAt ops i).op = true) (hp : effOp (opAt ops j).op = false) (hwl : wl P (opAt ops j).op = false) :
    nd (opAt ops i) = true ∨ ((Region.before ops).getD i 0).testBit j = true := by
  simp only [drawOK, List.all_eq_true, Bool.and_eq_true] at h
  have h1 := (h i (by simpa using hi)).1.2
  rw [he] at h1
  simp only [Bool.not_true, Bool.false_or, Bool.or_eq_true, List.all_eq_true] at h1
  rcases h1 with h1 | h1
  · exact .inl h1
  · have := h1 j (by simpa using hj)
    rw [hp, hwl] at this
    exact .inr (by simpa using this)

/-- what is not listed yet, in the order of the text -/
def left (ops : Array Oper) (listed : Array Bool) : List Nat := (List.range ops.size).filter fun i => !listed.getD i true

theorem left_sorted (ops : Array Oper) (listed : Array Bool) : (left ops listed).Pairwise (· < ·) := List.Pairwise.filter _ List.pairwise_lt_range

theorem mem_left {ops : Array Oper} {listed : Array Bool} {i : Nat} : i ∈ left ops listed ↔ i < ops.size ∧ listed.getD i true = false := by
  simp [left]

theorem left_set {ops : Array Oper} {listed : Array Bool} {i : Nat} (hi : i < ops.size) (hsz : listed.size = ops.size) : left ops (listed.setIfInBounds i true) = (left ops listed).filter (· != i) := by
  unfold left
  rw [List.filter_filter]
  apply List.filter_congr
  intro x hx
  by_cases hxi : x = i
  · subst hxi
    simp [Array.getD_eq_getD_getElem?, hsz, hi]
  · have : (listed.setIfInBounds i true).getD x true = listed.getD x true := by
      simp only [Array.getD_eq_getD_getElem?, Array.getElem?_setIfInBounds]
      rw [if_neg (by omega)]
    rw [this]
    simp [hxi]

variable {Q : Exit → Act → World → Prop}

theorem any_of_wpD {wG : World} (hwG : G wG) (hok : drawOK P ops nd = true) (hK : ∀ a w, K a w → Q .normal a w) : ∀ (fuel : Nat) (listed : Array Bool) (a : Act) (w : World), listed.size = ops.size → (left ops listed).length ≤ fuel →
    (∀ i, i < ops.size → listed.getD i true = true → ∀ j, ((Region.before ops).getD i 0).testBit j = true → listed.getD j false = true) →
    (∀ j ∈ left ops listed, effOp (opAt ops j).op = false → wl P (opAt ops j).op = false → G w) → wpD P ops nd G K ((left ops listed).map (opAt ops)) a w → wpAny P .any ops Q fuel listed a w := by
  intro fuel
  have done : ∀ (listed : Array Bool) (a : Act) (w : World), left ops listed = [] → wpD P ops nd G K ((left ops listed).map (opAt ops)) a w → Q .normal a w := by
    intro listed a w hl h
    rw [hl] at h
    exact hK _ _ h
  have hrd : ∀ (listed : Array Bool) i, i ∈ Region.ready .any ops listed ↔ i < ops.size ∧ listed.getD i true = false ∧ ∀ e ∈ (opAt ops i).after.toList, Region.binds .any e = true → listed.getD e.on false = true := by
    intro listed i
    simp only [Region.ready, List.mem_filter, List.mem_range, Bool.and_eq_true, Bool.not_eq_true']
    constructor
    · rintro ⟨h1, h2, h3⟩
      refine ⟨h1, h2, ?_⟩
      rw [Array.getElem?_eq_getElem h1] at h3
      simp only [Option.map_some, Option.getD_some] at h3
      rw [Array.all_eq_true_iff_forall_mem] at h3
      intro e he hb
      have := h3 e (by simpa [opAt, h1] using he)
      rw [hb] at this
      simpa using this
    · rintro ⟨h1, h2, h3⟩
      refine ⟨h1, h2, ?_⟩
      rw [Array.getElem?_eq_getElem h1]
      simp only [Option.map_some, Option.getD_some]
      rw [Array.all_eq_true_iff_forall_mem]
      intro e he
      cases hb : Region.binds .any e
      · rfl
      · simpa using h3 e (by simpa [opAt, h1] using he) hb
  induction fuel with
  | zero =>
    intro listed a w hsz hlen _ _ h
    have hl : left ops listed = [] := List.eq_nil_of_length_eq_zero (by omega)
    refine ⟨?_, done _ _ _ hl h⟩
    rw [List.eq_nil_iff_forall_not_mem]
    intro i hi
    have := (hrd listed i).1 hi
    have hm : i ∈ left ops listed := mem_left.2 ⟨this.1, this.2.1⟩
    rw [hl] at hm
    cases hm
  | succ fuel ih =>
    intro listed a w hsz hlen hcl hG h
    refine ⟨fun hnone => ?_, fun i hi => ?_⟩
    · cases hl : left ops listed with
      | nil => exact done _ _ _ hl h
      | cons i0 rest =>
        exfalso
        have hm : i0 ∈ left ops listed := by rw [hl]; simp
        obtain ⟨h1, h2⟩ := mem_left.1 hm
        have : i0 ∈ Region.ready .any ops listed := by
          refine (hrd listed i0).2 ⟨h1, h2, fun e he hb => ?_⟩
          have hlt := drawOK_edge hok h1 e he hb
          have hs := left_sorted ops listed
          rw [hl] at hs
          by_cases hx : listed.getD e.on true = false
          · have hm' : e.on ∈ left ops listed := mem_left.2 ⟨by omega, hx⟩
            rw [hl] at hm'
            rcases List.mem_cons.1 hm' with e1 | e1
            · omega
            · have := (List.pairwise_cons.1 hs).1 _ e1
              omega
          · have hx' : listed.getD e.on true = true := by simpa using hx
            rw [Array.getD_eq_getD_getElem?] at hx' ⊢
            rw [Array.getElem?_eq_getElem (show e.on < listed.size by omega)] at hx' ⊢
            simpa using hx'
        rw [hnone] at this
        cases this
    · obtain ⟨h1, h2, h3⟩ := (hrd listed i).1 hi
      have hm : i ∈ left ops listed := mem_left.2 ⟨h1, h2⟩
      have hready : ∀ j, ((Region.before ops).getD i 0).testBit j = true → listed.getD j false = true := by
        intro j hb
        obtain ⟨e, he, hbd, hor⟩ := before_spec h1 hb
        have hl := h3 e he hbd
        rcases hor with rfl | hor
        · exact hl
        · have hlt := drawOK_edge hok h1 e he hbd
          refine hcl e.on (by omega) ?_ j hor
          rw [Array.getD_eq_getD_getElem?] at hl ⊢
          rw [Array.getElem?_eq_getElem (show e.on < listed.size by omega)] at hl ⊢
          simpa using hl
      have hpull := pull (P := P) (G := G) (K := K) hwG i (left ops listed) a w h hm (left_sorted _ _) (by
        intro j hj hji
        rcases drawOK_pair hok h1 hji with hb | hb
        · exfalso
          obtain ⟨hj1, hj2⟩ := mem_left.1 hj
          obtain ⟨e, he, hbd, hor⟩ := before_spec h1 hb
          have hl := h3 e he hbd
          have hjl : listed.getD j false = true := by
            rcases hor with rfl | hor
            · exact hl
            · have hlt := drawOK_edge hok h1 e he hbd
              refine hcl e.on (by omega) ?_ j hor
              rw [Array.getD_eq_getD_getElem?] at hl ⊢
              rw [Array.getElem?_eq_getElem (show e.on < listed.size by omega)] at hl ⊢
              simpa using hl
          rw [Array.getD_eq_getD_getElem?] at hjl hj2
          rw [Array.getElem?_eq_getElem (show j < listed.size by omega)] at hjl hj2
          simp at hjl hj2
          rw [hjl] at hj2
          cases hj2
        · exact hb)
      have hlen' : (left ops (listed.setIfInBounds i true)).length ≤ fuel := by
        rw [left_set h1 hsz]
        have : ((left ops listed).filter (· != i)).length < (left ops listed).length := by
          rw [List.length_filter_lt_length_iff_exists]
          exact ⟨i, hm, by simp⟩
        omega
      have hcl' : ∀ k, k < ops.size → (listed.setIfInBounds i true).getD k true = true → ∀ j, ((Region.before ops).getD k 0).testBit j = true → (listed.setIfInBounds i true).getD j false = true := by
        intro k hk hkl j hb
        have hset : ∀ (d : Bool) x, (listed.setIfInBounds i true).getD x d = if x = i then true else listed.getD x d := by
          intro d x
          simp only [Array.getD_eq_getD_getElem?, Array.getElem?_setIfInBounds]
          by_cases hx : x = i
          · subst hx
            simp [hsz, h1]
          · rw [if_neg (fun e => hx e.symm), if_neg hx]
        rw [hset] at hkl ⊢
        split
        · rfl
        · by_cases hki : k = i
          · subst hki
            obtain ⟨e, he, hbd, hor⟩ := before_spec h1 hb
            have hl := h3 e he hbd
            rcases hor with rfl | hor
            · exact hl
            · have hlt := drawOK_edge hok h1 e he hbd
              refine hcl e.on (by omega) ?_ j hor
              rw [Array.getD_eq_getD_getElem?] at hl ⊢
              rw [Array.getElem?_eq_getElem (show e.on < listed.size by omega)] at hl ⊢
              simpa using hl
          · rw [if_neg hki] at hkl
            exact hcl k hk hkl j hb
      have hnext : ∀ a' w', (∀ j ∈ left ops (listed.setIfInBounds i true), effOp (opAt ops j).op = false → wl P (opAt ops j).op = false → G w') → wpD P ops nd G K (((left ops listed).filter (· != i)).map (opAt ops)) a' w' → wpAny P .any ops Q fuel (listed.setIfInBounds i true) a' w' := by
        intro a' w' hg hh
        rw [← left_set h1 hsz] at hh
        exact ih _ a' w' (by simpa using hsz) hlen' hcl' hg hh
      have hsub : ∀ j ∈ left ops (listed.setIfInBounds i true), j ∈ left ops listed ∧ j ≠ i := by
        intro j hj
        rw [left_set h1 hsz] at hj
        simpa using hj
      have hsame : ∀ j ∈ left ops (listed.setIfInBounds i true), effOp (opAt ops j).op = false → wl P (opAt ops j).op = false → G w := fun j hj => hG j (hsub j hj).1
      have heff : effOp (opAt ops i).op = true → ∀ w', (nd (opAt ops i) = true → G w') → ∀ j ∈ left ops (listed.setIfInBounds i true), effOp (opAt ops j).op = false → wl P (opAt ops j).op = false → G w' := by
        intro hie w' hg j hj hjp hjw
        obtain ⟨hj1, hj2⟩ := mem_left.1 (hsub j hj).1
        rcases drawOK_need hok h1 hj1 hie hjp hjw with hn | hb
        · exact hg hn
        · exfalso
          have hjl := hready j hb
          rw [Array.getD_eq_getD_getElem?] at hjl hj2
          rw [Array.getElem?_eq_getElem (show j < listed.size by omega)] at hjl hj2
          simp at hjl hj2
          rw [hjl] at hj2
          cases hj2
      have hio : ops[i]? = some (opAt ops i) := by simp [opAt, Array.getElem?_eq_getElem h1]
      unfold wpOp
      simp only [hio]
      by_cases hie : effOp (opAt ops i).op = true
      · rw [if_pos hie] at hpull
        cases hw : Region.wanted (opAt ops i) (yielded ops a.tmps)
        · simp only [Bool.false_eq_true, if_false]
          obtain ⟨hg, hh⟩ := hpull.2 hw
          exact hnext _ _ (heff hie _ hg) hh
        · simp only [if_true]
          exact .inl ((hpull.1 hw).wp fun v w' ⟨hg, hh⟩ => hnext _ _ (heff hie _ hg) hh)
      · rw [if_neg hie] at hpull
        obtain ⟨v, hv, hh⟩ := hpull
        rcases hv with ⟨hw, hr⟩ | ⟨hw, rfl⟩
        · simp only [hw, if_true]
          refine .inl (Step.wp (R := fun u w' => u = v ∧ w' = w) (.inl ⟨v, w, ?_, rfl, rfl⟩) ?_)
          · cases hwl : wl P (opAt ops i).op
            · exact hr w (hG i hm (by simpa using hie) hwl)
            · exact wl_run hwl (hr wG hwG)
          rintro u w' ⟨rfl, rfl⟩
          exact hnext _ _ hsame hh
        · simp only [hw, Bool.false_eq_true, if_false]
          exact hnext _ _ hsame hh

/-- A REGION THAT DRAWS ITS ORDER, walked once, in the order of the text. -/
theorem wp_draw {id : Nat} {a : Act} {w : World} (hm : P.follows .mixedOrders = true) (hok : drawOK P ops nd = true) (G : World → Prop) (hG : G w.drew)
    (h : wpD P ops nd G (fun a w => Q .normal a w) ops.toList a w.drew) : (Code.region id ops true).wp P Q a w := by
  refine wp_region_any hm ?_
  refine any_of_wpD (G := G) (K := fun a w => Q .normal a w) hG hok (fun _ _ h => h) ops.size _ a _ (by simp) ?_ ?_ (fun _ _ _ _ => hG) ?_
  · unfold left
    exact Nat.le_trans (List.length_filter_le _ _) (by simp)
  · intro i hi hl
    simp [Array.getD_eq_getD_getElem?, hi] at hl
  · have e1 : left ops (Array.replicate ops.size false) = List.range ops.size := by
      unfold left
      rw [List.filter_eq_self]
      intro i hi
      have : i < ops.size := by simpa using hi
      simp [Array.getD_eq_getD_getElem?, this]
    have e2 : (List.range ops.size).map (opAt ops) = ops.toList := by
      apply List.ext_getElem
      · simp
      · intro i h1 h2
        have : i < ops.size := by simpa using h2
        simp [opAt, Array.getD_eq_getD_getElem?, this]
    rw [e1, e2]
    exact h

end
end Go.Eng
