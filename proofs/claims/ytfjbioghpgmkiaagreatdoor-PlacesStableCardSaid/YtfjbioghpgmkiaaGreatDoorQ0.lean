/- Merged texts of ours: EngA EngB EngC EngD EngE EngM EngF EngG EngH EngJ Ty EngK EngL; conditions are the hypotheses of each law. -/
import Derived.WalkKit
import Derived.Orders
import Derived.TacticsIn
import Derived.Sort.LoopGhostIn
import Derived.Maps.RangeRun
import Derived.Laws.BytesString
import Derived.Test.YtfjbioghpgmkiaaGreatDoorProg
import Derived.KernelRfl
import Derived.Laws.MakeOwn
import Derived.Scope
/- The engine, part A: a region that draws its order is walked once, in the order of the text, if its operations that change the world stand in one forced order and the others yield one value in every world of a class; conditions: the closed check drawOK. -/
namespace Go.Eng

/-- operations that may change the world -/
def effOp : Op → Bool
  | .move _ | .assign _ | .pick .. | .fieldAddr .. | .field .. | .load .. | .nilCheck _ | .binOp .. | .unOp .. | .convert .. | .makeInterface ..
  | .makeFunc .. | .slice .. | .indexAddr .. | .index .. | .extract .. | .lookup .. | .build .. => false
  | .call c => match c.callee with | .builtin .len | .builtin .min | .builtin .max | .builtin .cap => false | _ => true
  | _ => true

def notSel : Op → Bool
  | .select .. => false
  | _ => true

/-- one operation's outcome -/
def Step (P : Program) (o : Oper) (a : Act) (w : World) (R : Value → World → Prop) : Prop :=
  (∃ v w', (execOp a.eval o).run P w = .ok (.value v) w' ∧ R v w') ∨
  (∃ w', (execOp a.eval o).run P w = .ok .skip w' ∧ R undef w') ∨
  (∃ f args w1, (execOp a.eval o).run P w = .ok (.enter f args) w1 ∧ Calls P f args w1 (fun e w' => ∃ v, e = .returned v ∧ R v w'))

theorem Step.mono {P : Program} {o : Oper} {a : Act} {w : World} {R R' : Value → World → Prop} (h : Step P o a w R) (hr : ∀ v w', R v w' → R' v w') : Step P o a w R' := by
  rcases h with ⟨v, w', h1, h2⟩ | ⟨w', h1, h2⟩ | ⟨f, args, w1, h1, h2⟩
  · exact .inl ⟨v, w', h1, hr _ _ h2⟩
  · exact .inr (.inl ⟨w', h1, hr _ _ h2⟩)
  · exact .inr (.inr ⟨f, args, w1, h1, h2.mono fun e w' ⟨v, he, hv⟩ => ⟨v, he, hr _ _ hv⟩⟩)

theorem Step.out {P : Program} {o : Oper} {a : Act} {w : World} {R : Value → World → Prop} (h : Step P o a w R) : ∃ v w', R v w' := by
  rcases h with ⟨v, w', _, h2⟩ | ⟨w', _, h2⟩ | ⟨f, args, w1, _, h2⟩
  · exact ⟨v, w', h2⟩
  · exact ⟨_, w', h2⟩
  · obtain ⟨e, w', fr, ⟨v, _, hv⟩, _⟩ := h2 []
    exact ⟨v, w', hv⟩

theorem Step.congr {P : Program} {o : Oper} {a a' : Act} {w : World} {R : Value → World → Prop} (he : execOp a'.eval o = execOp a.eval o) (h : Step P o a w R) : Step P o a' w R := by
  unfold Step at *
  rw [he]
  exact h

theorem Step.wp {P : Program} {o : Oper} {a : Act} {w : World} {R : Value → World → Prop} {K : Act → World → Prop} {Q : Exit → Act → World → Prop} (h : Step P o a w R)
    (hk : ∀ v w', R v w' → K (a.put o.dst v) w') : o.wp P a w K Q := by
  unfold Oper.wp
  rcases h with ⟨v, w', h1, h2⟩ | ⟨w', h1, h2⟩ | ⟨f, args, w1, h1, h2⟩
  · rw [h1]; exact hk _ _ h2
  · rw [h1]; exact hk _ _ h2
  · rw [h1]
    exact h2.mono fun e w' ⟨v, he, hv⟩ => by subst he; exact hk _ _ hv

/-- one value in every world of the class -/
def YV (P : Program) (ops : Array Oper) (G : World → Prop) (o : Oper) (a : Act) (v : Value) : Prop :=
  (Region.wanted o (yielded ops a.tmps) = true ∧ ∀ w, G w → (execOp a.eval o).run P w = .ok (.value v) w) ∨
  (Region.wanted o (yielded ops a.tmps) = false ∧ v = undef)

theorem YV.congr {P : Program} {ops : Array Oper} {G : World → Prop} {o : Oper} {a a' : Act} {v : Value} (he : execOp a'.eval o = execOp a.eval o)
    (hw : Region.wanted o (yielded ops a'.tmps) = Region.wanted o (yielded ops a.tmps)) (h : YV P ops G o a v) : YV P ops G o a' v := by
  unfold YV at *
  rw [he, hw]
  exact h

theorem YV.uniq {P : Program} {ops : Array Oper} {G : World → Prop} {o : Oper} {a : Act} {v v' : Value} {w : World} (hw : G w) (h : YV P ops G o a v) (h' : YV P ops G o a v') : v = v' := by
  rcases h with ⟨h1, h2⟩ | ⟨h1, h2⟩ <;> rcases h' with ⟨h3, h4⟩ | ⟨h3, h4⟩
  · have e1 := h2 w hw
    have e2 := h4 w hw
    rw [e1] at e2
    simpa using e2
  · rw [h1] at h3; cases h3
  · rw [h1] at h3; cases h3
  · rw [h2, h4]

def EffStep (P : Program) (ops : Array Oper) (o : Oper) (a : Act) (w : World) (K : Act → World → Prop) : Prop :=
  (Region.wanted o (yielded ops a.tmps) = true → Step P o a w (fun v w' => K (a.put o.dst v) w')) ∧
  (Region.wanted o (yielded ops a.tmps) = false → K (a.put o.dst undef) w)

theorem EffStep.mono {P : Program} {ops : Array Oper} {o : Oper} {a : Act} {w : World} {K K' : Act → World → Prop} (h : EffStep P ops o a w K) (hk : ∀ a w, K a w → K' a w) : EffStep P ops o a w K' :=
  ⟨fun hw => (h.1 hw).mono fun _ _ => hk _ _, fun hw => hk _ _ (h.2 hw)⟩

/-- operations whose value does not depend on the world -/
def wl (P : Program) : Op → Bool
  | .move _ | .assign _ => true
  | .fieldAddr s _ i => match P.underlying s with
    | some (.struct fs) => match fs[i]? with
      | some f => match (P.info? f.type).map (·.size) with
        | some (_ + 1) => true
        | _ => false
      | none => false
    | _ => false
  | .indexAddr t _ _ => match P.underlying t with
    | some (.slice e) => (P.info? e).isSome
    | _ => false
  | _ => false
theorem wl_run {P : Program} {ρ : Operand → Value} {o : Oper} {w w' : World} {v : Value} (h : wl P o.op = true) (hr : (execOp ρ o).run P w = .ok (.value v) w) : (execOp ρ o).run P w' = .ok (.value v) w' := by
  cases o with
  | mk dst op ty pos aft g =>
    cases op <;> first | (cases h; done) | skip
    · simpa [execOp] using hr
    · simpa [execOp] using hr
    · rename_i s x i
      simp only [wl] at h
      split at h
      · rename_i fs hfs
        split at h
        · rename_i f hf
          split at h
          · rename_i k hk
            have hsz : ∀ w, (sizeOf f.type).run P w = .ok (k + 1) w := by
              intro w
              cases hi : P.info? f.type with
              | none => simp [hi] at hk
              | some inf => simp [hi] at hk; simp [sizeOf, typeInfo, hi, hk]
            have hu : ∀ w, (underlying s).run P w = .ok (.struct fs) w := fun w => by simp [underlying, hfs]
            simp only [execOp, Instr.fieldAt, Sem.run_bind, hu, Result.andThen_ok, hf] at hr ⊢
            cases hx : ρ x with
            | pointer a =>
              cases a with
              | none => simp [hx, Instr.sureAddr] at hr
              | some a =>
                simp [hx, Instr.sureAddr, fieldPlace, hsz] at hr ⊢
                exact hr
            | _ => simp [hx, Instr.sureAddr] at hr
          · cases h
        · cases h
      · cases h
    · rename_i t x y
      simp only [wl] at h
      split at h
      · rename_i e he
        obtain ⟨inf, hinf⟩ := Option.isSome_iff_exists.1 h
        have hsz : ∀ w, (sizeOf e).run P w = .ok inf.size w := fun w => by simp [sizeOf, typeInfo, hinf]
        have hu : ∀ w, (underlying t).run P w = .ok (.slice e) w := fun w => by simp [underlying, he]
        simp only [execOp, Instr.indexAt, Sem.run_bind] at hr ⊢
        cases hy : ρ y with
        | int k i =>
          cases hx : ρ x with
          | slice b m c =>
            cases b with
            | none =>
              simp [hy, hx, asIntOf, hu, boundsPanic, runtimePanic] at hr
              split at hr <;> (try split at hr) <;> cases hr
            | some a =>
              by_cases hb : 0 ≤ i ∧ i < m
              · simp [hy, hx, asIntOf, hu, hsz, hb] at hr ⊢
                exact hr
              · simp [hy, hx, asIntOf, hu, hb, boundsPanic, runtimePanic] at hr
                split at hr <;> (try split at hr) <;> cases hr
          | _ => simp [hy, hx, asIntOf, hu] at hr
        | pointer p => cases p <;> simp [hy, asIntOf] at hr
        | _ => simp [hy, asIntOf] at hr
      · cases h

/-- the walk in the order of the text -/
def wpD (P : Program) (ops : Array Oper) (nd : Oper → Bool) (G : World → Prop) (K : Act → World → Prop) : List Oper → Act → World → Prop
  | [], a, w => K a w
  | o :: rest, a, w =>
    if effOp o.op then EffStep P ops o a w (fun a' w' => (nd o = true → G w') ∧ wpD P ops nd G K rest a' w')
    else ∃ v, YV P ops G o a v ∧ wpD P ops nd G K rest (a.put o.dst v) w

def opAt (ops : Array Oper) (i : Nat) : Oper := ops.getD i default

/-- what the closed check says of two operations, the first one earlier in the text, the second one not behind it by the edges -/
def okPair (ops : Array Oper) (p i : Oper) : Bool := p.apart ops i && !(effOp p.op && effOp i.op) && notSel p.op && notSel i.op

section
variable {P : Program} {ops : Array Oper} {nd : Oper → Bool} {G : World → Prop} {K : Act → World → Prop}

theorem sel_of {o : Oper} (h : notSel o.op = true) : ∀ cs b, o.op ≠ .select cs b := by
  intro cs b e
  rw [e] at h
  cases h

theorem pull {wG : World} (hwG : G wG) (i : Nat) : ∀ (l : List Nat) (a : Act) (w : World), wpD P ops nd G K (l.map (opAt ops)) a w → i ∈ l → l.Pairwise (· < ·) →
    (∀ j ∈ l, j < i → okPair ops (opAt ops j) (opAt ops i) = true) →
    if effOp (opAt ops i).op then EffStep P ops (opAt ops i) a w (fun a' w' => (nd (opAt ops i) = true → G w') ∧ wpD P ops nd G K ((l.filter (· != i)).map (opAt ops)) a' w')
    else ∃ v, YV P ops G (opAt ops i) a v ∧ wpD P ops nd G K ((l.filter (· != i)).map (opAt ops)) (a.put (opAt ops i).dst v) w := by
  intro l
  induction l with
  | nil => intro a w _ h; cases h
  | cons p rest ih =>
    intro a w h hi hs hok
    obtain ⟨hs1, hs2⟩ := List.pairwise_cons.1 hs
    by_cases hp : p = i
    · subst hp
      have hf : (p :: rest).filter (· != p) = rest := by
        rw [List.filter_cons]
        simp only [bne_self_eq_false, Bool.false_eq_true, if_false]
        rw [List.filter_eq_self]
        intro x hx
        have := hs1 x hx
        simp
        omega
      rw [hf]
      simpa [wpD] using h
    · have hir : i ∈ rest := by
        rcases List.mem_cons.1 hi with e | e
        · exact absurd e.symm hp
        · exact e
      have hlt : p < i := hs1 i hir
      have hpi := hok p (by simp) hlt
      have hrest : ∀ j ∈ rest, j < i → okPair ops (opAt ops j) (opAt ops i) = true := fun j hj => hok j (by simp [hj])
      have hf : (p :: rest).filter (· != i) = p :: rest.filter (· != i) := by
        rw [List.filter_cons, if_pos (by simpa using hp)]
      rw [hf, List.map_cons]
      simp only [okPair, Bool.and_eq_true, Bool.not_eq_true', Bool.and_eq_false_iff] at hpi
      obtain ⟨⟨⟨hap, heff⟩, hsp⟩, hsi⟩ := hpi
      obtain ⟨h1, h2, h3⟩ := Oper.apart_spec hap
      have ei : ∀ (a : Act) (v : Value), execOp (a.put (opAt ops p).dst v).eval (opAt ops i) = execOp a.eval (opAt ops i) := fun a v => execOp_put _ (sel_of hsi) a _ v h1
      have ep : ∀ (a : Act) (v : Value), execOp (a.put (opAt ops i).dst v).eval (opAt ops p) = execOp a.eval (opAt ops p) := fun a v => execOp_put _ (sel_of hsp) a _ v h3
      have wi : ∀ (a : Act) (v : Value), Region.wanted (opAt ops i) (yielded ops (a.put (opAt ops p).dst v).tmps) = Region.wanted (opAt ops i) (yielded ops a.tmps) := fun a v => wanted_put _ a _ v h1
      have wq : ∀ (a : Act) (v : Value), Region.wanted (opAt ops p) (yielded ops (a.put (opAt ops i).dst v).tmps) = Region.wanted (opAt ops p) (yielded ops a.tmps) := fun a v => wanted_put _ a _ v h3
      have hc : ∀ (a : Act) (v u : Value), (a.put (opAt ops p).dst v).put (opAt ops i).dst u = (a.put (opAt ops i).dst u).put (opAt ops p).dst v := fun a v u => Act.put_comm a v u h2
      rw [List.map_cons] at h
      by_cases hpe : effOp (opAt ops p).op = true
      · -- p has an effect, i has none
        have hie : effOp (opAt ops i).op = false := by
          rcases heff with e | e
          · rw [hpe] at e; cases e
          · exact e
        rw [if_neg (by rw [hie]; simp)]
        simp only [wpD, hpe, if_true] at h
        have key : ∀ u w', wpD P ops nd G K (rest.map (opAt ops)) (a.put (opAt ops p).dst u) w' → ∃ v, YV P ops G (opAt ops i) a v ∧ wpD P ops nd G K ((rest.filter (· != i)).map (opAt ops)) ((a.put (opAt ops p).dst u).put (opAt ops i).dst v) w' := by
          intro u w' hr
          have := ih _ _ hr hir hs2 hrest
          rw [if_neg (by rw [hie]; simp)] at this
          obtain ⟨v, hv, hr'⟩ := this
          exact ⟨v, hv.congr (ei a u).symm (wi a u).symm, hr'⟩
        have hex : ∃ v, YV P ops G (opAt ops i) a v := by
          cases hwp : Region.wanted (opAt ops p) (yielded ops a.tmps)
          · obtain ⟨_, hr⟩ := h.2 hwp
            obtain ⟨v, hv, _⟩ := key _ _ hr
            exact ⟨v, hv⟩
          · obtain ⟨u, w', _, hr⟩ := (h.1 hwp).out
            obtain ⟨v, hv, _⟩ := key _ _ hr
            exact ⟨v, hv⟩
        obtain ⟨v, hv⟩ := hex
        refine ⟨v, hv, ?_⟩
        simp only [wpD, hpe, if_true]
        have key2 : ∀ u w', ((nd (opAt ops p) = true → G w') ∧ wpD P ops nd G K (rest.map (opAt ops)) (a.put (opAt ops p).dst u) w') →
            (nd (opAt ops p) = true → G w') ∧ wpD P ops nd G K ((rest.filter (· != i)).map (opAt ops)) ((a.put (opAt ops i).dst v).put (opAt ops p).dst u) w' := by
          rintro u w' ⟨hg', hr⟩
          obtain ⟨v', hv', hr'⟩ := key _ _ hr
          have := hv.uniq hwG hv'
          subst this
          rw [hc] at hr'
          exact ⟨hg', hr'⟩
        refine ⟨fun hw => ?_, fun hw => ?_⟩
        · rw [wq] at hw
          exact ((h.1 hw).congr (ep a v)).mono fun u w' hh => key2 u w' hh
        · rw [wq] at hw
          exact key2 _ _ (h.2 hw)
      · -- p has no effect
        have hpe' : effOp (opAt ops p).op = false := by simpa using hpe
        simp only [wpD, hpe', Bool.false_eq_true, if_false] at h
        obtain ⟨vp, hvp, hr⟩ := h
        have hh := ih _ _ hr hir hs2 hrest
        by_cases hie : effOp (opAt ops i).op = true
        · rw [if_pos hie] at hh ⊢
          have key : ∀ u w', ((nd (opAt ops i) = true → G w') ∧ wpD P ops nd G K ((rest.filter (· != i)).map (opAt ops)) ((a.put (opAt ops p).dst vp).put (opAt ops i).dst u) w') →
              (nd (opAt ops i) = true → G w') ∧ wpD P ops nd G K (opAt ops p :: (rest.filter (· != i)).map (opAt ops)) (a.put (opAt ops i).dst u) w' := by
            rintro u w' ⟨hg', hr'⟩
            refine ⟨hg', ?_⟩
            simp only [wpD, hpe', Bool.false_eq_true, if_false]
            rw [hc] at hr'
            exact ⟨vp, hvp.congr (ep a u) (wq a u), hr'⟩
          refine ⟨fun hw => ?_, fun hw => ?_⟩
          · exact ((hh.1 (by rw [wi]; exact hw)).congr (ei a vp).symm).mono fun u w' hx => key u w' hx
          · exact key _ _ (hh.2 (by rw [wi]; exact hw))
        · rw [if_neg hie] at hh ⊢
          obtain ⟨v, hv, hr'⟩ := hh
          refine ⟨v, hv.congr (ei a vp).symm (wi a vp).symm, ?_⟩
          simp only [wpD, hpe', Bool.false_eq_true, if_false]
          rw [hc] at hr'
          exact ⟨vp, hvp.congr (ep a v) (wq a v), hr'⟩

/-- the closed check of a region -/
def drawOK (P : Program) (ops : Array Oper) (nd : Oper → Bool) : Bool :=
  (List.range ops.size).all fun i => (opAt ops i).after.all (fun e => !Region.binds .any e || decide (e.on < i)) &&
    (!effOp (opAt ops i).op || nd (opAt ops i) || (List.range ops.size).all fun j => effOp (opAt ops j).op || wl P (opAt ops j).op || ((Region.before ops).getD i 0).testBit j) &&
    (List.range i).all fun j => ((Region.before ops).getD i 0).testBit j || okPair ops (opAt ops j) (opAt ops i)


/-! the edges -/
def befStep (acc : Array Nat) (o : Oper) : Array Nat := acc.push (o.after.foldl (fun s e => if Region.binds .any e then s ||| 2 ^ e.on ||| acc.getD e.on 0 else s) 0)

theorem bits_fold (acc : Array Nat) (j : Nat) : ∀ (l : List Edge) (s : Nat), (l.foldl (fun s e => if Region.binds .any e then s ||| 2 ^ e.on ||| acc.getD e.on 0 else s) s).testBit j = true →
    s.testBit j = true ∨ ∃ e ∈ l, Region.binds .any e = true ∧ (e.on = j ∨ (acc.getD e.on 0).testBit j = true)
  | [], s, h => .inl h
  | e :: l, s, h => by
    simp only [List.foldl_cons] at h
    rcases bits_fold acc j l _ h with h' | ⟨e', he', hb, hh⟩
    · by_cases hb : Region.binds .any e = true
      · rw [if_pos hb] at h'
        simp only [Nat.testBit_or, Bool.or_eq_true] at h'
        rcases h' with (h' | h') | h'
        · exact .inl h'
        · refine .inr ⟨e, by simp, hb, .inl ?_⟩
          rw [Nat.testBit_two_pow] at h'
          simpa using h'
        · exact .inr ⟨e, by simp, hb, .inr h'⟩
      · rw [if_neg hb] at h'
        exact .inl h'
    · exact .inr ⟨e', by simp [he'], hb, hh⟩

theorem bef_old : ∀ (l : List Oper) (acc : Array Nat) (k : Nat), k < acc.size → (l.foldl befStep acc).getD k 0 = acc.getD k 0
  | [], _, _, _ => rfl
  | o :: l, acc, k, hk => by
    rw [List.foldl_cons, bef_old l _ k (by simp [befStep]; omega)]
    simp only [befStep, Array.getD_eq_getD_getElem?, Array.getElem?_push]
    rw [if_neg (by omega)]

theorem bef_new : ∀ (l : List Oper) (acc : Array Nat) (k : Nat) (o : Oper) (j : Nat), l[k]? = some o → ((l.foldl befStep acc).getD (acc.size + k) 0).testBit j = true →
    ∃ e ∈ o.after.toList, Region.binds .any e = true ∧ (e.on = j ∨ ((l.foldl befStep acc).getD e.on 0).testBit j = true)
  | [], _, _, _, _, h, _ => by simp at h
  | x :: l, acc, 0, o, j, h, hb => by
    have hx : x = o := by simpa using h
    subst hx
    have h0 : ((x :: l).foldl befStep acc).getD (acc.size + 0) 0 = x.after.foldl (fun s e => if Region.binds .any e then s ||| 2 ^ e.on ||| acc.getD e.on 0 else s) 0 := by
      rw [List.foldl_cons, bef_old l _ _ (by simp [befStep])]
      simp [befStep, Array.getD_eq_getD_getElem?]
    rw [h0, ← Array.foldl_toList] at hb
    rcases bits_fold acc j _ _ hb with h' | ⟨e, he, hbd, hh⟩
    · simp at h'
    · refine ⟨e, he, hbd, hh.imp id fun hh => ?_⟩
      by_cases hlt : e.on < acc.size
      · rw [bef_old (x :: l) acc e.on hlt]
        exact hh
      · rw [Array.getD_eq_getD_getElem?, Array.getElem?_eq_none (by omega)] at hh
        simp at hh
  | x :: l, acc, k + 1, o, j, h, hb => by
    rw [List.foldl_cons] at hb ⊢
    have hsz : (befStep acc x).size = acc.size + 1 := by simp [befStep]
    have := bef_new l (befStep acc x) k o j (by simpa using h) (by rw [hsz]; rw [show acc.size + 1 + k = acc.size + (k + 1) from by omega]; exact hb)
    exact this

theorem before_eq (ops : Array Oper) : Region.before ops = ops.toList.foldl befStep #[] := by
  unfold Region.before
  rw [← Array.foldl_toList]
  rfl

theorem before_spec {ops : Array Oper} {i j : Nat} (hi : i < ops.size) (h : ((Region.before ops).getD i 0).testBit j = true) :
    ∃ e ∈ (opAt ops i).after.toList, Region.binds .any e = true ∧ (e.on = j ∨ ((Region.before ops).getD e.on 0).testBit j = true) := by
  rw [before_eq] at h ⊢
  have ho : ops.toList[i]? = some (opAt ops i) := by
    simp [opAt, Array.getElem?_eq_getElem hi]
  have := bef_new ops.toList #[] i (opAt ops i) j ho (by simpa using h)
  exact this

theorem drawOK_edge {P : Program} {ops : Array Oper} {nd : Oper → Bool} (h : drawOK P ops nd = true) {i : Nat} (hi : i < ops.size) : ∀ e ∈ (opAt ops i).after.toList, Region.binds .any e = true → e.on < i := by
  intro e he hb
  simp only [drawOK, List.all_eq_true, Bool.and_eq_true] at h
  have h1 := (h i (by simpa using hi)).1.1
  rw [Array.all_eq_true_iff_forall_mem] at h1
  have := h1 e (by simpa using he)
  rw [hb] at this
  simpa using this

theorem drawOK_pair {P : Program} {ops : Array Oper} {nd : Oper → Bool} (h : drawOK P ops nd = true) {i j : Nat} (hi : i < ops.size) (hj : j < i) : ((Region.before ops).getD i 0).testBit j = true ∨ okPair ops (opAt ops j) (opAt ops i) = true := by
  simp only [drawOK, List.all_eq_true, Bool.and_eq_true] at h
  have h1 := (h i (by simpa using hi)).2 j (by simpa using hj)
  simpa using h1

theorem drawOK_need {P : Program} {ops : Array Oper} {nd : Oper → Bool} (h : drawOK P ops nd = true) {i j : Nat} (hi : i < ops.size) (hj : j < ops.size) (he : effOp (opAt ops i).op = true) (hp : effOp (opAt ops j).op = false) (hwl : wl P (opAt ops j).op = false) :
    nd (opAt ops i) = true ∨ ((Region.before ops).getD i 0).testBit j = true := by
  simp only [drawOK, List.all_eq_true, Bool.and_eq_true] at h
  have h1 := (h i (by simpa using hi)).1.2
  rw [he] at h1
  simp only [Bool.not_true, Bool.false_or, Bool.or_eq_true, List.all_eq_true] at h1
  rcases h1 with h1 | h1
  · exact .inl h1
  · have := h1 j (by simpa using hj)
    rw [hp, hwl] at this
    exact .inr (by simpa using this)

/-- what is not listed yet, in the order of the text -/
def left (ops : Array Oper) (listed : Array Bool) : List Nat := (List.range ops.size).filter fun i => !listed.getD i true

theorem left_sorted (ops : Array Oper) (listed : Array Bool) : (left ops listed).Pairwise (· < ·) := List.Pairwise.filter _ List.pairwise_lt_range

theorem mem_left {ops : Array Oper} {listed : Array Bool} {i : Nat} : i ∈ left ops listed ↔ i < ops.size ∧ listed.getD i true = false := by
  simp [left]

theorem left_set {ops : Array Oper} {listed : Array Bool} {i : Nat} (hi : i < ops.size) (hsz : listed.size = ops.size) : left ops (listed.setIfInBounds i true) = (left ops listed).filter (· != i) := by
  unfold left
  rw [List.filter_filter]
  apply List.filter_congr
  intro x hx
  by_cases hxi : x = i
  · subst hxi
    simp [Array.getD_eq_getD_getElem?, hsz, hi]
  · have : (listed.setIfInBounds i true).getD x true = listed.getD x true := by
      simp only [Array.getD_eq_getD_getElem?, Array.getElem?_setIfInBounds]
      rw [if_neg (by omega)]
    rw [this]
    simp [hxi]

variable {Q : Exit → Act → World → Prop}

theorem any_of_wpD {wG : World} (hwG : G wG) (hok : drawOK P ops nd = true) (hK : ∀ a w, K a w → Q .normal a w) : ∀ (fuel : Nat) (listed : Array Bool) (a : Act) (w : World), listed.size = ops.size → (left ops listed).length ≤ fuel →
    (∀ i, i < ops.size → listed.getD i true = true → ∀ j, ((Region.before ops).getD i 0).testBit j = true → listed.getD j false = true) →
    (∀ j ∈ left ops listed, effOp (opAt ops j).op = false → wl P (opAt ops j).op = false → G w) → wpD P ops nd G K ((left ops listed).map (opAt ops)) a w → wpAny P .any ops Q fuel listed a w := by
  intro fuel
  have done : ∀ (listed : Array Bool) (a : Act) (w : World), left ops listed = [] → wpD P ops nd G K ((left ops listed).map (opAt ops)) a w → Q .normal a w := by
    intro listed a w hl h
    rw [hl] at h
    exact hK _ _ h
  have hrd : ∀ (listed : Array Bool) i, i ∈ Region.ready .any ops listed ↔ i < ops.size ∧ listed.getD i true = false ∧ ∀ e ∈ (opAt ops i).after.toList, Region.binds .any e = true → listed.getD e.on false = true := by
    intro listed i
    simp only [Region.ready, List.mem_filter, List.mem_range, Bool.and_eq_true, Bool.not_eq_true']
    constructor
    · rintro ⟨h1, h2, h3⟩
      refine ⟨h1, h2, ?_⟩
      rw [Array.getElem?_eq_getElem h1] at h3
      simp only [Option.map_some, Option.getD_some] at h3
      rw [Array.all_eq_true_iff_forall_mem] at h3
      intro e he hb
      have := h3 e (by simpa [opAt, h1] using he)
      rw [hb] at this
      simpa using this
    · rintro ⟨h1, h2, h3⟩
      refine ⟨h1, h2, ?_⟩
      rw [Array.getElem?_eq_getElem h1]
      simp only [Option.map_some, Option.getD_some]
      rw [Array.all_eq_true_iff_forall_mem]
      intro e he
      cases hb : Region.binds .any e
      · rfl
      · simpa using h3 e (by simpa [opAt, h1] using he) hb
  induction fuel with
  | zero =>
    intro listed a w hsz hlen _ _ h
    have hl : left ops listed = [] := List.eq_nil_of_length_eq_zero (by omega)
    refine ⟨?_, done _ _ _ hl h⟩
    rw [List.eq_nil_iff_forall_not_mem]
    intro i hi
    have := (hrd listed i).1 hi
    have hm : i ∈ left ops listed := mem_left.2 ⟨this.1, this.2.1⟩
    rw [hl] at hm
    cases hm
  | succ fuel ih =>
    intro listed a w hsz hlen hcl hG h
    refine ⟨fun hnone => ?_, fun i hi => ?_⟩
    · cases hl : left ops listed with
      | nil => exact done _ _ _ hl h
      | cons i0 rest =>
        exfalso
        have hm : i0 ∈ left ops listed := by rw [hl]; simp
        obtain ⟨h1, h2⟩ := mem_left.1 hm
        have : i0 ∈ Region.ready .any ops listed := by
          refine (hrd listed i0).2 ⟨h1, h2, fun e he hb => ?_⟩
          have hlt := drawOK_edge hok h1 e he hb
          have hs := left_sorted ops listed
          rw [hl] at hs
          by_cases hx : listed.getD e.on true = false
          · have hm' : e.on ∈ left ops listed := mem_left.2 ⟨by omega, hx⟩
            rw [hl] at hm'
            rcases List.mem_cons.1 hm' with e1 | e1
            · omega
            · have := (List.pairwise_cons.1 hs).1 _ e1
              omega
          · have hx' : listed.getD e.on true = true := by simpa using hx
            rw [Array.getD_eq_getD_getElem?] at hx' ⊢
            rw [Array.getElem?_eq_getElem (show e.on < listed.size by omega)] at hx' ⊢
            simpa using hx'
        rw [hnone] at this
        cases this
    · obtain ⟨h1, h2, h3⟩ := (hrd listed i).1 hi
      have hm : i ∈ left ops listed := mem_left.2 ⟨h1, h2⟩
      have hready : ∀ j, ((Region.before ops).getD i 0).testBit j = true → listed.getD j false = true := by
        intro j hb
        obtain ⟨e, he, hbd, hor⟩ := before_spec h1 hb
        have hl := h3 e he hbd
        rcases hor with rfl | hor
        · exact hl
        · have hlt := drawOK_edge hok h1 e he hbd
          refine hcl e.on (by omega) ?_ j hor
          rw [Array.getD_eq_getD_getElem?] at hl ⊢
          rw [Array.getElem?_eq_getElem (show e.on < listed.size by omega)] at hl ⊢
          simpa using hl
      have hpull := pull (P := P) (G := G) (K := K) hwG i (left ops listed) a w h hm (left_sorted _ _) (by
        intro j hj hji
        rcases drawOK_pair hok h1 hji with hb | hb
        · exfalso
          obtain ⟨hj1, hj2⟩ := mem_left.1 hj
          obtain ⟨e, he, hbd, hor⟩ := before_spec h1 hb
          have hl := h3 e he hbd
          have hjl : listed.getD j false = true := by
            rcases hor with rfl | hor
            · exact hl
            · have hlt := drawOK_edge hok h1 e he hbd
              refine hcl e.on (by omega) ?_ j hor
              rw [Array.getD_eq_getD_getElem?] at hl ⊢
              rw [Array.getElem?_eq_getElem (show e.on < listed.size by omega)] at hl ⊢
              simpa using hl
          rw [Array.getD_eq_getD_getElem?] at hjl hj2
          rw [Array.getElem?_eq_getElem (show j < listed.size by omega)] at hjl hj2
          simp at hjl hj2
          rw [hjl] at hj2
          cases hj2
        · exact hb)
      have hlen' : (left ops (listed.setIfInBounds i true)).length ≤ fuel := by
        rw [left_set h1 hsz]
        have : ((left ops listed).filter (· != i)).length < (left ops listed).length := by
          rw [List.length_filter_lt_length_iff_exists]
          exact ⟨i, hm, by simp⟩
        omega
      have hcl' : ∀ k, k < ops.size → (listed.setIfInBounds i true).getD k true = true → ∀ j, ((Region.before ops).getD k 0).testBit j = true → (listed.setIfInBounds i true).getD j false = true := by
        intro k hk hkl j hb
        have hset : ∀ (d : Bool) x, (listed.setIfInBounds i true).getD x d = if x = i then true else listed.getD x d := by
          intro d x
          simp only [Array.getD_eq_getD_getElem?, Array.getElem?_setIfInBounds]
          by_cases hx : x = i
          · subst hx
            simp [hsz, h1]
          · rw [if_neg (fun e => hx e.symm), if_neg hx]
        rw [hset] at hkl ⊢
        split
        · rfl
        · by_cases hki : k = i
          · subst hki
            obtain ⟨e, he, hbd, hor⟩ := before_spec h1 hb
            have hl := h3 e he hbd
            rcases hor with rfl | hor
            · exact hl
            · have hlt := drawOK_edge hok h1 e he hbd
              refine hcl e.on (by omega) ?_ j hor
              rw [Array.getD_eq_getD_getElem?] at hl ⊢
              rw [Array.getElem?_eq_getElem (show e.on < listed.size by omega)] at hl ⊢
              simpa using hl
          · rw [if_neg hki] at hkl
            exact hcl k hk hkl j hb
      have hnext : ∀ a' w', (∀ j ∈ left ops (listed.setIfInBounds i true), effOp (opAt ops j).op = false → wl P (opAt ops j).op = false → G w') → wpD P ops nd G K (((left ops listed).filter (· != i)).map (opAt ops)) a' w' → wpAny P .any ops Q fuel (listed.setIfInBounds i true) a' w' := by
        intro a' w' hg hh
        rw [← left_set h1 hsz] at hh
        exact ih _ a' w' (by simpa using hsz) hlen' hcl' hg hh
      have hsub : ∀ j ∈ left ops (listed.setIfInBounds i true), j ∈ left ops listed ∧ j ≠ i := by
        intro j hj
        rw [left_set h1 hsz] at hj
        simpa using hj
      have hsame : ∀ j ∈ left ops (listed.setIfInBounds i true), effOp (opAt ops j).op = false → wl P (opAt ops j).op = false → G w := fun j hj => hG j (hsub j hj).1
      have heff : effOp (opAt ops i).op = true → ∀ w', (nd (opAt ops i) = true → G w') → ∀ j ∈ left ops (listed.setIfInBounds i true), effOp (opAt ops j).op = false → wl P (opAt ops j).op = false → G w' := by
        intro hie w' hg j hj hjp hjw
        obtain ⟨hj1, hj2⟩ := mem_left.1 (hsub j hj).1
        rcases drawOK_need hok h1 hj1 hie hjp hjw with hn | hb
        · exact hg hn
        · exfalso
          have hjl := hready j hb
          rw [Array.getD_eq_getD_getElem?] at hjl hj2
          rw [Array.getElem?_eq_getElem (show j < listed.size by omega)] at hjl hj2
          simp at hjl hj2
          rw [hjl] at hj2
          cases hj2
      have hio : ops[i]? = some (opAt ops i) := by simp [opAt, Array.getElem?_eq_getElem h1]
      unfold wpOp
      simp only [hio]
      by_cases hie : effOp (opAt ops i).op = true
      · rw [if_pos hie] at hpull
        cases hw : Region.wanted (opAt ops i) (yielded ops a.tmps)
        · simp only [Bool.false_eq_true, if_false]
          obtain ⟨hg, hh⟩ := hpull.2 hw
          exact hnext _ _ (heff hie _ hg) hh
        · simp only [if_true]
          exact .inl ((hpull.1 hw).wp fun v w' ⟨hg, hh⟩ => hnext _ _ (heff hie _ hg) hh)
      · rw [if_neg hie] at hpull
        obtain ⟨v, hv, hh⟩ := hpull
        rcases hv with ⟨hw, hr⟩ | ⟨hw, rfl⟩
        · simp only [hw, if_true]
          refine .inl (Step.wp (R := fun u w' => u = v ∧ w' = w) (.inl ⟨v, w, ?_, rfl, rfl⟩) ?_)
          · cases hwl : wl P (opAt ops i).op
            · exact hr w (hG i hm (by simpa using hie) hwl)
            · exact wl_run hwl (hr wG hwG)
          rintro u w' ⟨rfl, rfl⟩
          exact hnext _ _ hsame hh
        · simp only [hw, Bool.false_eq_true, if_false]
          exact hnext _ _ hsame hh

/-- A REGION THAT DRAWS ITS ORDER, walked once, in the order of the text. -/
theorem wp_draw {id : Nat} {a : Act} {w : World} (hm : P.follows .mixedOrders = true) (hok : drawOK P ops nd = true) (G : World → Prop) (hG : G w.drew)
    (h : wpD P ops nd G (fun a w => Q .normal a w) ops.toList a w.drew) : (Code.region id ops true).wp P Q a w := by
  refine wp_region_any hm ?_
  refine any_of_wpD (G := G) (K := fun a w => Q .normal a w) hG hok (fun _ _ h => h) ops.size _ a _ (by simp) ?_ ?_ (fun _ _ _ _ => hG) ?_
  · unfold left
    exact Nat.le_trans (List.length_filter_le _ _) (by simp)
  · intro i hi hl
    simp [Array.getD_eq_getD_getElem?, hi] at hl
  · have e1 : left ops (Array.replicate ops.size false) = List.range ops.size := by
      unfold left
      rw [List.filter_eq_self]
      intro i hi
      have : i < ops.size := by simpa using hi
      simp [Array.getD_eq_getD_getElem?, this]
    have e2 : (List.range ops.size).map (opAt ops) = ops.toList := by
      apply List.ext_getElem
      · simp
      · intro i h1 h2
        have : i < ops.size := by simpa using h2
        simp [opAt, Array.getD_eq_getD_getElem?, this]
    rw [e1, e2]
    exact h

end
end Go.Eng
/- The engine, part B: frames as functions, the rules of control, the values of operations; no conditions. -/
namespace Go.Eng

theorem nbeq_false {i d : Nat} (h : i ≠ d) : Nat.beq i d = false := by
  cases hb : Nat.beq i d
  · rfl
  · exact absurd (Nat.eq_of_beq_eq_true hb) h
theorem nblt_true {a b : Nat} (h : a < b) : Nat.blt a b = true := Nat.ble_eq_true_of_le h
theorem nblt_false {a b : Nat} (h : ¬ a < b) : Nat.blt a b = false := by
  cases hb : Nat.blt a b
  · rfl
  · exact absurd (Nat.le_of_ble_eq_true hb) h
theorem lt_of_nblt {a b : Nat} (h : Nat.blt a b = true) : a < b := Nat.le_of_ble_eq_true h

abbrev Fr := Nat → Value
def Fr.put (F : Fr) (d : Nat) (v : Value) : Fr := fun i => bif Nat.beq i d then v else F i
def Fr.putO (F : Fr) (d : Option Nat) (v : Value) : Fr := match d with
  | none => F
  | some d => F.put d v
def frOf : List Value → Fr
  | [], _ => undef
  | v :: _, 0 => v
  | _ :: l, i + 1 => frOf l i
def inS : List Nat → Nat → Bool
  | [], _ => false
  | d :: S, i => bif Nat.beq i d then true else inS S i
/-- the slots of S are taken from u -/
def Fr.hav (S : List Nat) (u F : Fr) : Fr := fun i => bif inS S i then u i else F i

/-- a frame's size, its marks, and the round that it belongs to -/
structure FrK where
  sz : Nat
  ds : List Deferred
  ro : Option Nat
@[reducible] def FrK.of (n : Nat) : FrK := ⟨n, [], none⟩
instance : Coe Nat FrK := ⟨FrK.of⟩
def FrK.fence (n : FrK) : Fence := { Fence.wide with round := n.ro }
theorem FrK.fence_none {n : FrK} (h : n.ro = none) : n.fence = Fence.wide := by
  unfold FrK.fence
  rw [h]
  rfl
theorem room_fence (n : FrK) (k : Nat) : n.fence.room k := fun _ h => by cases h

def ev (n : FrK) (F : Fr) (x : Operand) : Value := match x with
  | .tmp t => bif Nat.blt t n.sz then F t else undef
  | .const v => v
  | .global g => .pointer (some ⟨g, 0, none⟩)
  | .func f => .func (.func f) #[] #[]

def act (n : FrK) (F : Fr) : Act := { tmps := Array.ofFn (n := n.sz) fun i => F i, defers := n.ds }

theorem act_put (n : FrK) (F : Fr) (d : Option Nat) (v : Value) : (act n F).put d v = act n (F.putO d v) := by
  cases d with
  | none => rfl
  | some d =>
    simp only [Act.put, act, Fr.putO]
    congr 1
    apply Array.ext
    · simp
    · intro i h1 h2
      have h3 : i < n.sz := by simpa using h2
      rw [Array.getElem_setIfInBounds (by simpa using h3)]
      simp only [Array.getElem_ofFn, Fr.put]
      by_cases h : d = i
      · subst h; simp
      · rw [if_neg h, nbeq_false (fun e => h e.symm)]; rfl

theorem act_eval (n : FrK) (F : Fr) : (act n F).eval = ev n F := by
  funext x
  cases x with
  | tmp t =>
    simp only [Act.eval, act, ev, Array.getD_eq_getD_getElem?]
    by_cases h : t < n.sz
    · simp [h, nblt_true h]
    · simp [h, nblt_false h]
  | const v => rfl
  | global g => rfl
  | func f => rfl

def up (n : FrK) (Q : Exit → Fr → World → Prop) : Exit → Act → World → Prop := fun e a w => ∃ F, a = act n F ∧ Q e F w

def WP (P : Program) (n : FrK) (c : Code) (Q : Exit → Fr → World → Prop) (F : Fr) (w : World) : Prop := c.wpIn n.fence 0 P (up n Q) (act n F) w

def thenQ (K : Fr → World → Prop) (Q : Exit → Fr → World → Prop) : Exit → Fr → World → Prop := fun e F w => match e with
  | .normal => K F w
  | e => Q e F w

def inBlk (id : Nat) (Q : Exit → Fr → World → Prop) : Exit → Fr → World → Prop := fun e F w => match e with
  | .exit id' => match Nat.beq id' id with
    | true => Q .normal F w
    | false => Q (.exit id') F w
  | e => Q e F w

theorem thenQ_n {K : Fr → World → Prop} {Q : Exit → Fr → World → Prop} {F : Fr} {w : World} (h : K F w) : thenQ K Q .normal F w := h
theorem thenQ_ret {K : Fr → World → Prop} {Q : Exit → Fr → World → Prop} {F : Fr} {w : World} (h : Q .ret F w) : thenQ K Q .ret F w := h
theorem thenQ_exit {K : Fr → World → Prop} {Q : Exit → Fr → World → Prop} {F : Fr} {w : World} {i : Nat} (h : Q (.exit i) F w) : thenQ K Q (.exit i) F w := h
theorem inBlk_n {id : Nat} {Q : Exit → Fr → World → Prop} {F : Fr} {w : World} (h : Q .normal F w) : inBlk id Q .normal F w := h
theorem inBlk_ret {id : Nat} {Q : Exit → Fr → World → Prop} {F : Fr} {w : World} (h : Q .ret F w) : inBlk id Q .ret F w := h
theorem inBlk_same {id i : Nat} {Q : Exit → Fr → World → Prop} {F : Fr} {w : World} (hi : Nat.beq i id = true) (h : Q .normal F w) : inBlk id Q (.exit i) F w := by
  simp only [inBlk, hi]; exact h
theorem inBlk_other {id i : Nat} {Q : Exit → Fr → World → Prop} {F : Fr} {w : World} (hi : Nat.beq i id = false) (h : Q (.exit i) F w) : inBlk id Q (.exit i) F w := by
  simp only [inBlk, hi]; exact h

section
variable {P : Program} {n : FrK} {Q : Exit → Fr → World → Prop} {F : Fr} {w : World}

theorem WP_mono {c : Code} {Q' : Exit → Fr → World → Prop} (h : WP P n c Q F w) (hq : ∀ e F w, Q e F w → Q' e F w) : WP P n c Q' F w :=
  wpIn_mono h fun _ _ _ ⟨F, h1, h2⟩ => ⟨F, h1, hq _ _ _ h2⟩

theorem WP_seq {x y : Code} (h : WP P n x (thenQ (fun F w => WP P n y Q F w) Q) F w) : WP P n (.seq x y) Q F w := by
  refine wpIn_seq (wpIn_mono h ?_)
  rintro e a w ⟨F, rfl, h2⟩
  cases e <;> first | exact h2 | exact ⟨F, rfl, h2⟩

/-- with what holds between the two -/
theorem WP_cut {x y : Code} (R : Fr → World → Prop) (h : WP P n x (thenQ R Q) F w) (h2 : ∀ F w, R F w → WP P n y Q F w) : WP P n (.seq x y) Q F w := by
  refine WP_seq (WP_mono h ?_)
  intro e F w h
  cases e <;> first | exact h2 _ _ h | exact h

theorem WP_block {id : Nat} {c : Code} (h : WP P n c (inBlk id Q) F w) : WP P n (.block id c) Q F w := by
  refine wpIn_block (wpIn_mono h ?_)
  rintro e a w ⟨F, rfl, h2⟩
  cases e with
  | exit id' =>
    simp only [Exit.inBlock]
    by_cases hid : id' = id
    · subst hid
      simp only [if_true]
      have hb : Nat.beq id' id' = true := Nat.beq_refl id'
      simp only [inBlk, hb] at h2
      exact ⟨F, rfl, h2⟩
    · rw [if_neg hid]
      have hb : Nat.beq id' id = false := nbeq_false hid
      simp only [inBlk, hb] at h2
      exact ⟨F, rfl, h2⟩
  | _ => exact ⟨F, rfl, h2⟩

theorem WP_cond {c : Operand} {x y : Code} {t : Bool} (hc : ev n F c = .bool t) (ht : t = true → WP P n x Q F w) (hf : t = false → WP P n y Q F w) : WP P n (.cond c x y) Q F w :=
  wpIn_cond_split (by rw [act_eval]; exact hc) ht hf

theorem WP_cond_d {c : Operand} {x y : Code} {p : Prop} [Decidable p] (hc : ev n F c = .bool (decide p)) (ht : p → WP P n x Q F w) (hf : ¬ p → WP P n y Q F w) : WP P n (.cond c x y) Q F w :=
  WP_cond hc (fun h => ht (of_decide_eq_true h)) (fun h => hf (of_decide_eq_false h))

theorem WP_cond_nd {c : Operand} {x y : Code} {p : Prop} [Decidable p] (hc : ev n F c = .bool (!decide p)) (ht : ¬ p → WP P n x Q F w) (hf : p → WP P n y Q F w) : WP P n (.cond c x y) Q F w :=
  WP_cond hc (fun h => ht (of_decide_eq_false (by simpa using h))) (fun h => hf (of_decide_eq_true (by simpa using h)))

theorem WP_cond_t {c : Operand} {x y : Code} (hc : ev n F c = .bool true) (h : WP P n x Q F w) : WP P n (.cond c x y) Q F w := WP_cond hc (fun _ => h) (fun e => by cases e)
theorem WP_cond_f {c : Operand} {x y : Code} (hc : ev n F c = .bool false) (h : WP P n y Q F w) : WP P n (.cond c x y) Q F w := WP_cond hc (fun e => by cases e) (fun _ => h)

theorem WP_skip (h : Q .normal F w) : WP P n .skip Q F w := wpIn_skip ⟨F, rfl, h⟩
theorem WP_label {l : Nat} (h : Q .normal F w) : WP P n (.label l) Q F w := wpIn_label ⟨F, rfl, h⟩
theorem WP_exit {id : Nat} (h : Q (.exit id) F w) : WP P n (.exit id) Q F w := wpIn_exit ⟨F, rfl, h⟩
theorem WP_ret (h : Q .ret F w) : WP P n .ret Q F w := wpIn_ret ⟨F, rfl, h⟩

theorem loop_ix {c : Code} {a : Act} {QA : Exit → Act → World → Prop} (I : Nat → Act → World → Prop) (m0 : Nat) (h0 : I m0 a w)
    (round : ∀ m a w, I m a w → c.wpIn n.fence 0 P (Exit.then (fun a' w' => ∃ m', m' < m ∧ I m' a' w') QA) a w) : (Code.loop c).wpIn n.fence 0 P QA a w :=
  wpIn_loop_ghost I m0 h0 round

/-- A LOOP: the frame at the head of each round is G u x, u being what the slots held that the loop writes. -/
theorem WP_loop {c : Code} {X : Type} (G : Fr → X → Fr) (I : X → World → Prop) (μ : X → Nat) (u0 : Fr) (x0 : X) (h0 : F = G u0 x0) (hi : I x0 w)
    (round : ∀ (u : Fr) (x : X) (w : World), I x w → WP P n c (thenQ (fun F' w' => ∃ x', F' = G F' x' ∧ I x' w' ∧ μ x' < μ x) Q) (G u x) w) : WP P n (.loop c) Q F w := by
  refine loop_ix (fun m a w => ∃ u x, a = act n (G u x) ∧ I x w ∧ μ x = m) _ ⟨u0, x0, by rw [h0], hi, rfl⟩ ?_
  rintro m a w ⟨u, x, rfl, hI, rfl⟩
  refine wpIn_mono (round u x w hI) ?_
  rintro e a w' ⟨F', rfl, h2⟩
  cases e with
  | normal =>
    obtain ⟨x', hF, hI', hlt⟩ := h2
    exact ⟨μ x', hlt, F', x', by rw [← hF], hI', rfl⟩
  | _ => exact ⟨F', rfl, h2⟩

/-! the round's end -/
def Same (S : List Nat) (F F' : Fr) : Prop := ∀ i, inS S i = false → F i = F' i
theorem Same.refl {S : List Nat} {F : Fr} : Same S F F := fun _ _ => rfl
theorem Same.put {S : List Nat} {d : Nat} {v : Value} {F F' : Fr} (h1 : inS S d = true) (h : Same S F F') : Same S (F.put d v) F' := by
  intro i hi'
  have hne : Nat.beq i d = false := by
    refine nbeq_false ?_
    rintro rfl
    rw [h1] at hi'
    cases hi'
  simp only [Fr.put, hne, cond_false]
  exact h i hi'
theorem Same.hav {S : List Nat} {u F : Fr} : Same S (Fr.hav S u F) F := by
  intro i hi'
  simp only [Fr.hav, hi', cond_false]
theorem inS_mem : ∀ (S : List Nat) (i : Nat), inS S i = true → i ∈ S
  | [], _, h => by cases h
  | d :: S, i, h => by
    simp only [inS] at h
    cases hb : Nat.beq i d
    · rw [hb] at h
      exact List.mem_cons_of_mem _ (inS_mem S i h)
    · rw [Nat.eq_of_beq_eq_true hb]
      exact List.mem_cons_self
theorem Same.havs {S S' : List Nat} {u F F' : Fr} (h : S'.all (inS S) = true) (h2 : Same S F F') : Same S (Fr.hav S' u F) F' := by
  intro i hi'
  have hn : inS S' i = false := by
    cases hb : inS S' i
    · rfl
    · have := List.all_eq_true.1 h i (inS_mem S' i hb)
      rw [hi'] at this
      cases this
  simp only [Fr.hav, hn, cond_false]
  exact h2 i hi'
theorem Same.eq {S : List Nat} {F F' : Fr} (h : Same S F' F) : F' = Fr.hav S F' F := by
  funext i
  simp only [Fr.hav]
  cases hb : inS S i
  · exact h i hb
  · rfl
theorem WP_loopS {c : Code} {X : Type} (S : List Nat) (H : X → Fr → Fr) (I : X → World → Prop) (μ : X → Nat) (x0 : X) (h0 : F = H x0 (Fr.hav S F F)) (hi : I x0 w)
    (round : ∀ (u : Fr) (x : X) (w : World), I x w → WP P n c (thenQ (fun F' w' => ∃ x', F' = H x' (Fr.hav S F' F) ∧ I x' w' ∧ μ x' < μ x) Q) (H x (Fr.hav S u F)) w) : WP P n (.loop c) Q F w :=
  WP_loop (fun u x => H x (Fr.hav S u F)) I μ F x0 h0 hi round
theorem WP_loop2 {c : Code} {X Y : Type} (S : List Nat) (H : X → Y → Fr → Fr) (I : X → Y → World → Prop) (μ : X → Y → Nat) (x0 : X) (y0 : Y) (h0 : F = H x0 y0 (Fr.hav S F F)) (hi : I x0 y0 w)
    (round : ∀ (u : Fr) (x : X) (y : Y) (w : World), I x y w → WP P n c (thenQ (fun F' w' => ∃ x' y', F' = H x' y' (Fr.hav S F' F) ∧ I x' y' w' ∧ μ x' y' < μ x y) Q) (H x y (Fr.hav S u F)) w) : WP P n (.loop c) Q F w := by
  refine WP_loopS S (fun (x : X × Y) => H x.1 x.2) (fun x => I x.1 x.2) (fun x => μ x.1 x.2) (x0, y0) h0 hi ?_
  intro u x w hI
  refine WP_mono (round u x.1 x.2 w hI) ?_
  intro e F w h
  cases e with
  | normal =>
    obtain ⟨x', y', h1, h2, h3⟩ := h
    exact ⟨(x', y'), h1, h2, h3⟩
  | _ => exact h
theorem WP_loop3 {c : Code} {X Y Z : Type} (S : List Nat) (H : X → Y → Z → Fr → Fr) (I : X → Y → Z → World → Prop) (μ : X → Y → Z → Nat) (x0 : X) (y0 : Y) (z0 : Z) (h0 : F = H x0 y0 z0 (Fr.hav S F F)) (hi : I x0 y0 z0 w)
    (round : ∀ (u : Fr) (x : X) (y : Y) (z : Z) (w : World), I x y z w → WP P n c (thenQ (fun F' w' => ∃ x' y' z', F' = H x' y' z' (Fr.hav S F' F) ∧ I x' y' z' w' ∧ μ x' y' z' < μ x y z) Q) (H x y z (Fr.hav S u F)) w) : WP P n (.loop c) Q F w := by
  refine WP_loopS S (fun (x : X × Y × Z) => H x.1 x.2.1 x.2.2) (fun x => I x.1 x.2.1 x.2.2) (fun x => μ x.1 x.2.1 x.2.2) (x0, y0, z0) h0 hi ?_
  intro u x w hI
  refine WP_mono (round u x.1 x.2.1 x.2.2 w hI) ?_
  intro e F w h
  cases e with
  | normal =>
    obtain ⟨x', y', z', h1, h2, h3⟩ := h
    exact ⟨(x', y', z'), h1, h2, h3⟩
  | _ => exact h
theorem put_self {F H : Fr} {d : Nat} {v : Value} (h : F = H) (hv : F d = v) : F = H.put d v := by
  subst h
  funext i
  simp only [Fr.put]
  cases hb : Nat.beq i d
  · rfl
  · have := Nat.eq_of_beq_eq_true hb
    subst this
    exact hv
end

/-! ### operations -/
/-- the operation leaves the world alone and yields v -/
def PV (P : Program) (n : FrK) (w : World) (F : Fr) (o : Oper) (v : Value) : Prop := (execOp (ev n F) o).run P w = .ok (.value v) w

def StepF (P : Program) (n : FrK) (o : Oper) (F : Fr) (w : World) (R : Value → World → Prop) : Prop := Step P o (act n F) w R

def wpl (P : Program) (n : FrK) (ops : Array Oper) (l : List Oper) (Q : Exit → Fr → World → Prop) (F : Fr) (w : World) : Prop := wpListIn n.fence 0 P ops (up n Q) l (act n F) w

/-- which operations with an effect must leave the world in the class: all, or all but stores and appends -/
def need (st : Bool) (o : Oper) : Bool := st || match o.op with
  | .store .. => false
  | .mapUpdate .. => false
  | .call c => match c.callee with
    | .builtin .append => false
    | _ => true
  | _ => true

def wpd (P : Program) (n : FrK) (ops : Array Oper) (st : Bool) (G : World → Prop) (l : List Oper) (Q : Exit → Fr → World → Prop) (F : Fr) (w : World) : Prop :=
  wpD P ops (need st) G (fun a w => up n Q .normal a w) l (act n F) w

theorem Step.noDefer {P : Program} {o : Oper} {a : Act} {w : World} {R : Value → World → Prop} (h : Step P o a w R) : ∀ c, o.op ≠ .defer c := by
  intro c hc
  have key : ∀ x w', (execOp a.eval o).run P w = .ok x w' → ∃ d, x = .defer d := by
    intro x w' hx
    simp only [execOp, hc, Sem.run_bind] at hx
    cases hr : (resolve a.eval c o.type).run P w with
    | ok d w1 =>
      rw [hr] at hx
      simp only [Result.andThen_ok, Sem.run_pure] at hx
      injection hx with h1 h2
      exact ⟨d, h1.symm⟩
    | halt r w1 =>
      rw [hr] at hx
      cases hx
  rcases h with ⟨v, w', h1, h2⟩ | ⟨w', h1, h2⟩ | ⟨f, args, w1, h1, h2⟩
  · obtain ⟨d, hd⟩ := key _ _ h1
    cases hd
  · obtain ⟨d, hd⟩ := key _ _ h1
    cases hd
  · obtain ⟨d, hd⟩ := key _ _ h1
    cases hd
theorem Step.wpIn {P : Program} {n : FrK} {o : Oper} {a : Act} {w : World} {R : Value → World → Prop} {K : Act → World → Prop} {Q : Exit → Act → World → Prop} (h : Step P o a w R)
    (hk : ∀ v w', R v w' → K (a.put o.dst v) w') : o.wpIn n.fence 0 P a w K Q := by
  refine ⟨fun _ _ => trivial, ?_⟩
  rw [Oper.semAt_eq _ _ _ h.noDefer]
  rcases h with ⟨v, w', h1, h2⟩ | ⟨w', h1, h2⟩ | ⟨f, args, w1, h1, h2⟩
  · rw [h1]; exact hk _ _ h2
  · rw [h1]; exact hk _ _ h2
  · rw [h1]
    refine ⟨fun h => (by cases h), ?_⟩
    refine (callsIn_wide (n := 0 - 1)).2 (h2.mono fun e w' ⟨v, he, hv⟩ => ?_)
    subst he
    exact hk _ _ hv

/-- the value of an operation whose guard says no -/
def Sel (b : Bool) (v : Value) : Value := if b then v else undef

section
variable {P : Program} {n : FrK} {Q : Exit → Fr → World → Prop} {F : Fr} {w : World} {ops : Array Oper} {o : Oper} {rest : List Oper} {st : Bool} {G : World → Prop}

theorem WP_region {id : Nat} {l : List Oper} (h : wpl P n l.toArray l Q F w) : WP P n (.region id l.toArray false) Q F w := wpIn_region_lit h

theorem WP_draw {id : Nat} {l : List Oper} (hm : P.follows .mixedOrders = true) (hok : drawOK P l.toArray (need true) = true) (G : World → Prop) (hG : G w.drew)
    (h : wpd P n l.toArray true G l Q F w.drew) (hr : n.ro = none := by rfl) : WP P n (.region id l.toArray true) Q F w := by
  unfold WP
  rw [FrK.fence_none hr]
  exact wpIn_wide.2 (wp_draw hm hok G hG h)
theorem WP_drawS {id : Nat} {l : List Oper} (hm : P.follows .mixedOrders = true) (hok : drawOK P l.toArray (need false) = true) (G : World → Prop) (hG : G w.drew)
    (h : wpd P n l.toArray false G l Q F w.drew) (hr : n.ro = none := by rfl) : WP P n (.region id l.toArray true) Q F w := by
  unfold WP
  rw [FrK.fence_none hr]
  exact wpIn_wide.2 (wp_draw hm hok G hG h)

theorem wpl_nil (h : Q .normal F w) : wpl P n ops [] Q F w := wpListIn_nil ⟨F, rfl, h⟩
theorem wpd_nil (h : Q .normal F w) : wpd P n ops st G [] Q F w := ⟨F, rfl, h⟩

theorem wpl_step {R : Value → World → Prop} (hg : o.guard = none) (hs : StepF P n o F w R) (h : ∀ v w', R v w' → wpl P n ops rest Q (F.putO o.dst v) w') : wpl P n ops (o :: rest) Q F w := by
  refine wpListIn_plain hg fun K hK => Step.wpIn hs fun v w' hr => hK _ _ ?_
  rw [act_put]
  exact h v w' hr

theorem wpl_pure {r v : Value} (hg : o.guard = none) (hp : PV P n w F o r) (hv : r = v) (h : wpl P n ops rest Q (F.putO o.dst v) w) : wpl P n ops (o :: rest) Q F w := by
  subst hv
  refine wpl_step (R := fun u w' => u = r ∧ w' = w) hg (.inl ⟨r, w, ?_, rfl, rfl⟩) ?_
  · rw [act_eval]; exact hp
  · rintro u w' ⟨rfl, rfl⟩; exact h

/-- the slot of the guard -/
def gslot (ops : Array Oper) (j : Nat) : Option Nat := (ops[j]?).bind (·.dst)

theorem wanted_act {j : Nat} {want c : Bool} {d : Nat} (hg : o.guard = some (j, want)) (hj : gslot ops j = some d) (hc : ev n F (.tmp d) = .bool c) :
    Region.wanted o (yielded ops (act n F).tmps) = (c == want) := by
  simp only [Region.wanted, hg, yielded]
  unfold gslot at hj
  rw [hj]
  have hlt : d < n.sz := by
    by_cases h : d < n.sz
    · exact h
    · simp [ev, nblt_false h, undef] at hc
  have hb : Nat.blt d n.sz = true := nblt_true hlt
  simp only [ev, hb, cond_true] at hc
  simp [act, hlt, hc]

theorem wpl_gd {r v : Value} {j : Nat} {want c : Bool} {d : Nat} (hg : o.guard = some (j, want)) (hj : gslot ops j = some d) (hc : ev n F (.tmp d) = .bool c)
    (hp : (c == want) = true → PV P n w F o r) (hv : (c == want) = true → r = v) (h : wpl P n ops rest Q (F.putO o.dst (Sel (c == want) v)) w) : wpl P n ops (o :: rest) Q F w := by
  unfold wpl wpListIn
  rw [wanted_act hg hj hc]
  cases hcw : (c == want)
  · rw [hcw] at h
    simp only [Bool.false_eq_true, if_false]
    rw [act_put]
    exact ⟨fun _ _ => trivial, h⟩
  · rw [hcw] at h
    simp only [if_true]
    refine Step.wpIn (R := fun u w' => u = v ∧ w' = w) (.inl ⟨v, w, ?_, rfl, rfl⟩) ?_
    · rw [act_eval, ← hv hcw]; exact hp hcw
    · rintro u w' ⟨rfl, rfl⟩
      rw [act_put]
      exact h

theorem wanted_act2 {j : Nat} {want b c : Bool} {d : Nat} (hg : o.guard = some (j, want)) (hj : gslot ops j = some d) (hc : ev n F (.tmp d) = Sel b (.bool c)) :
    Region.wanted o (yielded ops (act n F).tmps) = (b && (c == want)) := by
  cases b
  · simp only [Region.wanted, hg, yielded]
    unfold gslot at hj
    rw [hj]
    have hv : (act n F).tmps[d]? = none ∨ (act n F).tmps[d]? = some undef := by
      by_cases h : d < n.sz
      · right
        have hb : Nat.blt d n.sz = true := nblt_true h
        simp only [ev, hb, cond_true, Sel] at hc
        simp [act, h, hc]
      · left
        simp [act, h]
    rcases hv with hv | hv <;> simp [hv, undef]
  · exact (wanted_act hg hj hc).trans (by simp)

theorem wpl_gd2 {r v : Value} {j : Nat} {want b c : Bool} {d : Nat} (hg : o.guard = some (j, want)) (hj : gslot ops j = some d) (hc : ev n F (.tmp d) = Sel b (.bool c))
    (hp : b = true → (b && (c == want)) = true → PV P n w F o r) (hv : b = true → (b && (c == want)) = true → r = v) (h : wpl P n ops rest Q (F.putO o.dst (Sel (b && (c == want)) v)) w) : wpl P n ops (o :: rest) Q F w := by
  unfold wpl wpListIn
  rw [wanted_act2 hg hj hc]
  cases hcw : (b && (c == want))
  · rw [hcw] at h
    simp only [Bool.false_eq_true, if_false]
    rw [act_put]
    exact ⟨fun _ _ => trivial, h⟩
  · rw [hcw] at h
    have hb : b = true := by simp at hcw; exact hcw.1
    simp only [if_true]
    refine Step.wpIn (R := fun u w' => u = v ∧ w' = w) (.inl ⟨v, w, ?_, rfl, rfl⟩) ?_
    · rw [act_eval, ← hv hb hcw]; exact hp hb hcw
    · rintro u w' ⟨rfl, rfl⟩
      rw [act_put]
      exact h

theorem wpd_gd2 {r v : Value} {j : Nat} {want b c : Bool} {d : Nat} (he : effOp o.op = false) (hg : o.guard = some (j, want)) (hj : gslot ops j = some d) (hc : ev n F (.tmp d) = Sel b (.bool c))
    (hp : b = true → (b && (c == want)) = true → ∀ w, G w → PV P n w F o r) (hv : b = true → (b && (c == want)) = true → r = v) (h : wpd P n ops st G rest Q (F.putO o.dst (Sel (b && (c == want)) v)) w) : wpd P n ops st G (o :: rest) Q F w := by
  unfold wpd wpD
  rw [if_neg (by rw [he]; simp)]
  refine ⟨Sel (b && (c == want)) v, ?_, by rw [act_put]; exact h⟩
  unfold YV
  rw [wanted_act2 hg hj hc]
  cases hcw : (b && (c == want))
  · exact .inr ⟨rfl, rfl⟩
  · have hb : b = true := by simp at hcw; exact hcw.1
    refine .inl ⟨rfl, fun w hw => ?_⟩
    rw [act_eval]
    have := hp hb hcw w hw
    rw [hv hb hcw] at this
    exact this

theorem wpd_pure {r v : Value} (he : effOp o.op = false) (hg : o.guard = none) (hp : ∀ w, G w → PV P n w F o r) (hv : r = v) (h : wpd P n ops st G rest Q (F.putO o.dst v) w) : wpd P n ops st G (o :: rest) Q F w := by
  subst hv
  unfold wpd wpD
  rw [if_neg (by rw [he]; simp)]
  refine ⟨r, .inl ⟨by simp [Region.wanted, hg], fun w hw => ?_⟩, ?_⟩
  · rw [act_eval]; exact hp w hw
  · rw [act_put]; exact h

theorem wpd_gd {r v : Value} {j : Nat} {want c : Bool} {d : Nat} (he : effOp o.op = false) (hg : o.guard = some (j, want)) (hj : gslot ops j = some d) (hc : ev n F (.tmp d) = .bool c)
    (hp : (c == want) = true → ∀ w, G w → PV P n w F o r) (hv : (c == want) = true → r = v) (h : wpd P n ops st G rest Q (F.putO o.dst (Sel (c == want) v)) w) : wpd P n ops st G (o :: rest) Q F w := by
  unfold wpd wpD
  rw [if_neg (by rw [he]; simp)]
  refine ⟨Sel (c == want) v, ?_, by rw [act_put]; exact h⟩
  unfold YV
  rw [wanted_act hg hj hc]
  cases hcw : (c == want)
  · exact .inr ⟨rfl, rfl⟩
  · refine .inl ⟨rfl, fun w hw => ?_⟩
    rw [act_eval]
    have := hp hcw w hw
    rw [hv hcw] at this
    exact this

theorem wpd_step {R : Value → World → Prop} (he : effOp o.op = true) (hg : o.guard = none) (hs : StepF P n o F w R) (h : ∀ v w', R v w' → G w' ∧ wpd P n ops st G rest Q (F.putO o.dst v) w') :
    wpd P n ops st G (o :: rest) Q F w := by
  unfold wpd wpD
  rw [if_pos he]
  refine ⟨fun _ => hs.mono fun v w' hr => ?_, fun hw => ?_⟩
  · rw [act_put]; exact ⟨fun _ => (h v w' hr).1, (h v w' hr).2⟩
  · simp [Region.wanted, hg] at hw

/-- a store that need not stay in the class -/
theorem wpd_store {R : Value → World → Prop} (he : effOp o.op = true) (hn : need false o = false) (hg : o.guard = none) (hs : StepF P n o F w R) (h : ∀ v w', R v w' → wpd P n ops false G rest Q (F.putO o.dst v) w') :
    wpd P n ops false G (o :: rest) Q F w := by
  unfold wpd wpD
  rw [if_pos he]
  refine ⟨fun _ => hs.mono fun v w' hr => ?_, fun hw => ?_⟩
  · rw [act_put]; exact ⟨fun hh => (by rw [hn] at hh; cases hh), h v w' hr⟩
  · simp [Region.wanted, hg] at hw

/-- an operation with an effect, under a guard: its value is known, and the worlds that it leaves are in a class that holds the one before it -/
theorem wpd_gstep {v : Value} {j : Nat} {want c : Bool} {d : Nat} (he : effOp o.op = true) (hg : o.guard = some (j, want)) (hj : gslot ops j = some d) (hc : ev n F (.tmp d) = .bool c)
    (C : World → Prop) (hC : C w) (hs : (c == want) = true → StepF P n o F w (fun u w' => u = v ∧ C w'))
    (h : ∀ w', C w' → G w' ∧ wpd P n ops st G rest Q (F.putO o.dst (Sel (c == want) v)) w') : wpd P n ops st G (o :: rest) Q F w := by
  unfold wpd wpD
  rw [if_pos he]
  unfold EffStep
  rw [wanted_act hg hj hc]
  refine ⟨fun hw => (hs hw).mono ?_, fun hw => ?_⟩
  · rintro u w' ⟨rfl, hr⟩
    have := h w' hr
    rw [hw] at this
    rw [act_put]; exact ⟨fun _ => this.1, this.2⟩
  · have := h w hC
    rw [hw] at this
    rw [act_put]; exact ⟨fun _ => this.1, this.2⟩

theorem wpl_gstep {v : Value} {j : Nat} {want c : Bool} {d : Nat} (hg : o.guard = some (j, want)) (hj : gslot ops j = some d) (hc : ev n F (.tmp d) = .bool c)
    (C : World → Prop) (hC : C w) (hs : (c == want) = true → StepF P n o F w (fun u w' => u = v ∧ C w'))
    (h : ∀ w', C w' → wpl P n ops rest Q (F.putO o.dst (Sel (c == want) v)) w') : wpl P n ops (o :: rest) Q F w := by
  unfold wpl wpListIn
  rw [wanted_act hg hj hc]
  cases hcw : (c == want)
  · have := h w hC
    rw [hcw] at this
    simp only [Bool.false_eq_true, if_false]
    rw [act_put]
    exact ⟨fun _ _ => trivial, this⟩
  · simp only [if_true]
    refine Step.wpIn (hs hcw) ?_
    rintro u w' ⟨rfl, hr⟩
    have := h w' hr
    rw [hcw] at this
    rw [act_put]
    exact this

/-- reading a slot that was written under a guard that says yes -/
theorem ev_sel {x : Operand} {b : Bool} {v : Value} (h : ev n F x = Sel b v) (hb : b = true) : ev n F x = v := by
  rw [h, hb]; rfl

/-! ### calls -/
def retQ (P : Program) (n : FrK) (fn : Func) (R : Ending → World → Prop) : Exit → Fr → World → Prop := fun e F w => match e with
  | .normal | .ret => ∃ v, (results fn (act n F).tmps).run P w = .ok v w ∧ R (.returned v) w
  | _ => False

theorem calls_of_WP {f : FuncId} {fn : Func} {c : Code} {args : List Value} {R : Ending → World → Prop} (hf : P.funcs[f]? = some fn) (hb : fn.body = some c) {m : Nat} (hn : fn.ntmps = m) (hsz : args.length ≤ m)
    (h : WP P (FrK.of m) c (retQ P (FrK.of m) fn R) (frOf args) w) : Calls P f args.toArray w R := by
  refine calls_of_wp hf hb ?_
  have ha : ({ tmps := args.toArray ++ Array.replicate (fn.ntmps - args.toArray.size) undef, defers := [] } : Act) = act (FrK.of m) (frOf args) := by
    simp only [act]
    congr 1
    apply Array.ext
    · simp [hn]; omega
    · intro i h1 h2
      simp only [Array.getElem_ofFn]
      have hfr : ∀ (l : List Value) (i : Nat), frOf l i = l.getD i undef := by
        intro l
        induction l with
        | nil => intro i; simp [frOf]
        | cons x l ih => intro i; cases i <;> simp [frOf, ih]
      rw [hfr]
      by_cases hi : i < args.length
      · rw [Array.getElem_append_left (by simpa using hi)]
        simp [List.getD_eq_getElem?_getD, hi]
      · rw [Array.getElem_append_right (by simpa using hi)]
        simp [List.getD_eq_getElem?_getD, hi]
  rw [ha]
  refine wpIn_wide.1 (wpIn_mono (n := 0) (F := Fence.wide) h ?_)
  rintro e a w ⟨F, rfl, h2⟩
  cases e <;> first | exact ⟨rfl, h2⟩ | exact h2.elim

theorem ret_tmp {fn : Func} {R : Ending → World → Prop} {t : Nat} {v : Value} (h : fn.results = #[.tmp t]) (hv : ev n F (.tmp t) = v) (hr : R (.returned v) w) : retQ P n fn R .ret F w := by
  refine ⟨v, ?_, hr⟩
  rw [results_tmp h]
  rw [← hv, ← act_eval]
  rfl
theorem ret_tmp2 {fn : Func} {R : Ending → World → Prop} {t u : Nat} {v v' : Value} (h : fn.results = #[.tmp t, .tmp u]) (hv : ev n F (.tmp t) = v) (hv' : ev n F (.tmp u) = v') (hr : R (.returned (.tuple #[v, v'])) w) : retQ P n fn R .ret F w := by
  refine ⟨.tuple #[v, v'], ?_, hr⟩
  rw [results_tmp2 h]
  rw [← hv, ← hv', ← act_eval]
  rfl
theorem ret_none {fn : Func} {R : Ending → World → Prop} (h : fn.results = #[]) (hr : R (.returned (.tuple #[])) w) : retQ P n fn R .normal F w := ⟨_, results_none h _ _ _, hr⟩
theorem ret_none' {fn : Func} {R : Ending → World → Prop} (h : fn.results = #[]) (hr : R (.returned (.tuple #[])) w) : retQ P n fn R .ret F w := ⟨_, results_none h _ _ _, hr⟩

end
end Go.Eng
/- The engine, part C: the values of the operations that leave the world alone; conditions are the hypotheses of each law. -/
namespace Go.Eng

/-- closed facts on a type -/
def TSize (P : Program) (t k : Nat) : Prop := (P.info? t).map (·.size) = some k
def TZero (P : Program) (t : Nat) (z : Value) : Prop := (P.info? t).map (·.zero) = some (some z)
def TBytes (P : Program) (t k : Nat) : Prop := (P.info? t).map (·.bytes) = some k
/-- t is no struct and no array -/
def isOne : TypeDesc → Bool
  | .struct _ => false
  | .array _ _ => false
  | _ => true
def isMany : TypeDesc → Bool
  | .struct _ => true
  | .array _ _ => true
  | _ => false

section
variable {P : Program} {w : World}
theorem TSize.run {t k : Nat} (h : TSize P t k) : (sizeOf t).run P w = .ok k w := by
  unfold TSize at h
  cases hi : P.info? t with
  | none => simp [hi] at h
  | some i => simp [hi] at h; simp [sizeOf, typeInfo, hi, h]
theorem TZero.run {t : Nat} {z : Value} (h : TZero P t z) : (zeroValue t).run P w = .ok z w := by
  unfold TZero at h
  cases hi : P.info? t with
  | none => simp [hi] at h
  | some i => simp [hi] at h; simp [zeroValue, typeInfo, hi, h]
theorem TBytes.ex {t k : Nat} (h : TBytes P t k) : ∃ i, P.info? t = some i ∧ i.bytes = k := by
  unfold TBytes at h
  cases hi : P.info? t with
  | none => simp [hi] at h
  | some i => simp [hi] at h; exact ⟨i, rfl, h⟩
theorem run_und {t : Nat} {d : TypeDesc} (h : P.underlying t = some d) : (underlying t).run P w = .ok d w := by simp [underlying, h]
theorem run_one {t : Nat} {d : TypeDesc} (h : P.underlying t = some d) (h1 : isOne d = true) : (isAgg t).run P w = .ok false w := by
  unfold isAgg
  simp only [Sem.run_bind, run_und h, Result.andThen_ok]
  cases d <;> first | rfl | cases h1
theorem run_many {t : Nat} {d : TypeDesc} (h : P.underlying t = some d) (h1 : isMany d = true) : (isAgg t).run P w = .ok true w := by
  unfold isAgg
  simp only [Sem.run_bind, run_und h, Result.andThen_ok]
  cases d <;> first | rfl | cases h1
end

section
variable {P : Program} {n : FrK} {w : World} {F : Fr} {d : Option Tmp} {ty : TypeId} {pos : String} {aft : Array Edge} {g : Option (Nat × Bool)} {x y : Operand}

theorem pv_move : PV P n w F ⟨d, .move x, ty, pos, aft, g⟩ (ev n F x) := by simp [PV, execOp]
theorem pv_assign : PV P n w F ⟨d, .assign x, ty, pos, aft, g⟩ (ev n F x) := by simp [PV, execOp]

theorem ev_const (v : Value) : ev n F (.const v) = v := rfl
/-- c && .. -/
theorem pv_and {c b : Bool} {c' : Bool} (hx : ev n F x = .bool c) (hy : ev n F y = Sel (c' == true) (.bool b)) (hc : c = c') :
    PV P n w F ⟨d, .pick x y (.const (.bool false)), ty, pos, aft, g⟩ (.bool (c && b)) := by
  subst hc
  simp only [PV, execOp, hx, hy, asBool, ev_const]
  cases c <;> rfl
/-- c || .. -/
theorem pv_or {c b : Bool} {c' : Bool} (hx : ev n F x = .bool c) (hy : ev n F y = Sel (c' == false) (.bool b)) (hc : c = c') :
    PV P n w F ⟨d, .pick x (.const (.bool true)) y, ty, pos, aft, g⟩ (.bool (c || b)) := by
  subst hc
  simp only [PV, execOp, hx, hy, asBool, ev_const]
  cases c <;> rfl
theorem pv_and' {c b : Bool} (hx : ev n F x = .bool c) (hy : ev n F y = .bool b) : PV P n w F ⟨d, .pick x y (.const (.bool false)), ty, pos, aft, g⟩ (.bool (c && b)) := by
  simp only [PV, execOp, hx, hy, asBool, ev_const]
  cases c <;> rfl
theorem pv_or' {c b : Bool} (hx : ev n F x = .bool c) (hy : ev n F y = .bool b) : PV P n w F ⟨d, .pick x (.const (.bool true)) y, ty, pos, aft, g⟩ (.bool (c || b)) := by
  simp only [PV, execOp, hx, hy, asBool, ev_const]
  cases c <;> rfl
theorem pv_and2 {c b c' e : Bool} (hx : ev n F x = .bool c) (hy : ev n F y = Sel (b && (c' == true)) (.bool e)) (hb : b = true) (hc : c = c') : PV P n w F ⟨d, .pick x y (.const (.bool false)), ty, pos, aft, g⟩ (.bool (c && e)) := by
  subst hc hb
  simp only [PV, execOp, hx, hy, asBool, ev_const]
  cases c <;> rfl
theorem pv_or2 {c b c' e : Bool} (hx : ev n F x = .bool c) (hy : ev n F y = Sel (b && (c' == false)) (.bool e)) (hb : b = true) (hc : c = c') : PV P n w F ⟨d, .pick x (.const (.bool true)) y, ty, pos, aft, g⟩ (.bool (c || e)) := by
  subst hc hb
  simp only [PV, execOp, hx, hy, asBool, ev_const]
  cases c <;> rfl
theorem pv_not {c : Bool} {t : Nat} (hx : ev n F x = .bool c) : PV P n w F ⟨d, .unOp .not t x, ty, pos, aft, g⟩ (.bool (!c)) := by
  simp [PV, execOp, hx, Op.unary]

theorem pv_nil {a : Addr} (hx : ev n F x = .pointer (some a)) : PV P n w F ⟨d, .nilCheck x, ty, pos, aft, g⟩ (.pointer (some a)) := by
  simp [PV, execOp, hx]
theorem pv_nil_func {f : FuncId} {a b : Array Value} (hx : ev n F x = .func (.func f) a b) : PV P n w F ⟨d, .nilCheck x, ty, pos, aft, g⟩ (.func (.func f) a b) := by
  simp [PV, execOp, hx]

theorem pv_extract {vs : Array Value} {i : Nat} {v : Value} (hx : ev n F x = .tuple vs) (hv : vs[i]? = some v) : PV P n w F ⟨d, .extract x i, ty, pos, aft, g⟩ v := by
  simp [PV, execOp, hx, Instr.extract, hv]

theorem pv_func {fn : Fn} {a b : Array Operand} : PV P n w F ⟨d, .makeFunc fn a b, ty, pos, aft, g⟩ (.func fn (a.toList.map (ev n F)).toArray (b.toList.map (ev n F)).toArray) := by
  have h : ∀ a : Array Operand, a.map (ev n F) = (a.toList.map (ev n F)).toArray := fun a => by cases a; simp
  simp [PV, execOp, Instr.makeFunc, h]

/-! numbers -/
section
variable {t t' : Nat} {k : IntKind} {a b : Int}
theorem pv_add (hx : ev n F x = .int k a) (hy : ev n F y = .int k b) : PV P n w F ⟨d, .binOp .add t x y t', ty, pos, aft, g⟩ (.int k (k.wrap (a + b))) := by
  simp [PV, execOp, hx, hy, eqGuard, binOp, Op.intArith]
theorem pv_sub (hx : ev n F x = .int k a) (hy : ev n F y = .int k b) : PV P n w F ⟨d, .binOp .sub t x y t', ty, pos, aft, g⟩ (.int k (k.wrap (a - b))) := by
  simp [PV, execOp, hx, hy, eqGuard, binOp, Op.intArith]
theorem pv_mul (hx : ev n F x = .int k a) (hy : ev n F y = .int k b) : PV P n w F ⟨d, .binOp .mul t x y t', ty, pos, aft, g⟩ (.int k (k.wrap (a * b))) := by
  simp [PV, execOp, hx, hy, eqGuard, binOp, Op.intArith]
theorem pv_quo (hx : ev n F x = .int k a) (hy : ev n F y = .int k b) (hb : b ≠ 0) : PV P n w F ⟨d, .binOp .quo t x y t', ty, pos, aft, g⟩ (.int k (k.wrap (a.tdiv b))) := by
  simp [PV, execOp, hx, hy, eqGuard, binOp, Op.intDiv, hb]
theorem pv_rem (hx : ev n F x = .int k a) (hy : ev n F y = .int k b) (hb : b ≠ 0) : PV P n w F ⟨d, .binOp .rem t x y t', ty, pos, aft, g⟩ (.int k (a.tmod b)) := by
  simp [PV, execOp, hx, hy, eqGuard, binOp, Op.intDiv, hb]
theorem pv_lss (hx : ev n F x = .int k a) (hy : ev n F y = .int k b) : PV P n w F ⟨d, .binOp .lss t x y t', ty, pos, aft, g⟩ (.bool (decide (a < b))) := by
  simp [PV, execOp, hx, hy, eqGuard, binOp, Op.intCmp]
theorem pv_leq (hx : ev n F x = .int k a) (hy : ev n F y = .int k b) : PV P n w F ⟨d, .binOp .leq t x y t', ty, pos, aft, g⟩ (.bool (decide (a ≤ b))) := by
  simp [PV, execOp, hx, hy, eqGuard, binOp, Op.intCmp]
theorem pv_gtr (hx : ev n F x = .int k a) (hy : ev n F y = .int k b) : PV P n w F ⟨d, .binOp .gtr t x y t', ty, pos, aft, g⟩ (.bool (decide (b < a))) := by
  simp [PV, execOp, hx, hy, eqGuard, binOp, Op.intCmp]
theorem pv_geq (hx : ev n F x = .int k a) (hy : ev n F y = .int k b) : PV P n w F ⟨d, .binOp .geq t x y t', ty, pos, aft, g⟩ (.bool (decide (b ≤ a))) := by
  simp [PV, execOp, hx, hy, eqGuard, binOp, Op.intCmp]
theorem pv_eql (hx : ev n F x = .int k a) (hy : ev n F y = .int k b) : PV P n w F ⟨d, .binOp .eql t x y t', ty, pos, aft, g⟩ (.bool (decide (a = b))) := by
  simp [PV, execOp, hx, hy, eqGuard, binOp, Op.intCmp]
  rfl
theorem pv_neq (hx : ev n F x = .int k a) (hy : ev n F y = .int k b) : PV P n w F ⟨d, .binOp .neq t x y t', ty, pos, aft, g⟩ (.bool (!decide (a = b))) := by
  simp [PV, execOp, hx, hy, eqGuard, binOp, Op.intCmp, bne]
  rfl
theorem pv_conv {k' : IntKind} (hd : P.underlying t' = some (.int k')) (hs : ∃ q, P.underlying t = some q) (hx : ev n F x = .int k a) :
    PV P n w F ⟨d, .convert t t' x, ty, pos, aft, g⟩ (.int k' (k'.wrap a)) := by
  obtain ⟨q, hq⟩ := hs
  simp [PV, execOp, hx, convert, run_und hq, run_und hd, Conv.intToInt]
theorem pv_min {ts : Array TypeId} (hx : ev n F x = .int k a) (hy : ev n F y = .int k b) : PV P n w F ⟨d, .call ⟨.builtin .min, #[x, y], ts⟩, ty, pos, aft, g⟩ (.int k (min a b)) := by
  have : (if b < a then b else a) = min a b := by rw [Int.min_def]; split <;> split <;> omega
  simp [PV, execOp, resolve, invoke, builtin, Builtin.min_, Builtin.min2, hx, hy, this]
end

theorem i64_in {z : Int} (h1 : -9223372036854775808 ≤ z) (h2 : z ≤ 9223372036854775807) : IntKind.i64.wrap z = z := by
  rw [IntKind.wrap_i64]; omega
theorem i64_out {z : Int} : -9223372036854775808 ≤ IntKind.i64.wrap z ∧ IntKind.i64.wrap z ≤ 9223372036854775807 := by
  rw [IntKind.wrap_i64]; omega
theorem u8_in {z : Int} (h1 : 0 ≤ z) (h2 : z ≤ 255) : IntKind.u8.wrap z = z := by
  rw [IntKind.wrap_u8]; omega
theorem int_eq {k : IntKind} {a b : Int} (h : a = b) : Value.int k a = .int k b := by rw [h]
theorem bool_eq {a b : Bool} (h : a = b) : Value.bool a = .bool b := by rw [h]

/-! strings -/
section
variable {t t' : Nat} {a b : ByteArray}
theorem bytes_beq (a b : ByteArray) : (a.toList == b.toList) = decide (a = b) := by
  rw [Bool.eq_iff_iff]
  simp only [beq_iff_eq, decide_eq_true_eq, ByteArray.toList_eq]
  constructor
  · intro h
    cases a; cases b
    congr 1
    exact Array.toList_inj.1 h
  · rintro rfl; rfl
theorem pv_seql (hx : ev n F x = .string a) (hy : ev n F y = .string b) : PV P n w F ⟨d, .binOp .eql t x y t', ty, pos, aft, g⟩ (.bool (decide (a = b))) := by
  rw [← bytes_beq]
  simp [PV, execOp, hx, hy, eqGuard, binOp, Op.stringOp]
theorem pv_sneq (hx : ev n F x = .string a) (hy : ev n F y = .string b) : PV P n w F ⟨d, .binOp .neq t x y t', ty, pos, aft, g⟩ (.bool (!decide (a = b))) := by
  rw [← bytes_beq]
  simp [PV, execOp, hx, hy, eqGuard, binOp, Op.stringOp]
theorem pv_sadd (hx : ev n F x = .string a) (hy : ev n F y = .string b) (hl : a.size + b.size ≤ 9223372036854775807) : PV P n w F ⟨d, .binOp .add t x y t', ty, pos, aft, g⟩ (.string (a ++ b)) := by
  have hm : IntKind.i64.max = 9223372036854775807 := rfl
  simp [PV, execOp, hx, hy, eqGuard, binOp, Op.stringOp, hm]
  omega
theorem pv_lens {q : Nat} {p : TypeId} (hq : P.underlying p = some .string) (hx : ev n F x = .string a) : PV P n w F ⟨d, .call ⟨.builtin .len, #[x], #[p]⟩, q, pos, aft, g⟩ (.int .i64 a.size) := by
  simp [PV, execOp, resolve, invoke, builtin, Builtin.len_, hx, run_und hq, goInt]
theorem pv_len {q : Nat} {p : TypeId} {e : TypeId} {s : Option Addr} {m c : Nat} (hq : P.underlying p = some (.slice e)) (hx : ev n F x = .slice s m c) : PV P n w F ⟨d, .call ⟨.builtin .len, #[x], #[p]⟩, q, pos, aft, g⟩ (.int .i64 m) := by
  simp [PV, execOp, resolve, invoke, builtin, Builtin.len_, hx, run_und hq, goInt]
/-- a byte of a string, as a number -/
def bAt (s : ByteArray) (i : Nat) : Int := ((s.data.toList[i]?).getD 0).toNat
theorem bAt_lt (s : ByteArray) {i : Nat} (hi : i < s.size) : bAt s i = (s[i]'hi).toNat := by
  have : i < s.data.toList.length := by simpa using hi
  unfold bAt
  rw [List.getElem?_eq_getElem this]
  rfl
theorem pv_index_s {k : IntKind} {i : Nat} (hq : P.underlying t = some .string) (hx : ev n F x = .string a) (hy : ev n F y = .int k i) (hi : i < a.size) :
    PV P n w F ⟨d, .index t x y, ty, pos, aft, g⟩ (.int .u8 (bAt a i)) := by
  have : a[i]? = some (a[i]'hi) := by simp [hi]
  simp [PV, execOp, Instr.index, hx, hy, asIntOf, run_und hq, this, bAt_lt a hi]
end

/-! addresses -/
theorem addr_add (b o k : Nat) : (⟨b, o, none⟩ : Addr).add k = ⟨b, o + k, none⟩ := by
  unfold Addr.add
  split
  · rename_i h; subst h; rfl
  · rfl
theorem pv_field {s : TypeId} {fs : Array Field} {f : Field} {i b o k : Nat} (hs : P.underlying s = some (.struct fs)) (hf : fs[i]? = some f) (hk : TSize P f.type (k + 1)) (hx : ev n F x = .pointer (some ⟨b, o, none⟩)) :
    PV P n w F ⟨d, .fieldAddr s x i, ty, pos, aft, g⟩ (.pointer (some ⟨b, o + f.offset, none⟩)) := by
  simp [PV, execOp, Instr.fieldAt, hx, run_und hs, hf, Instr.sureAddr, fieldPlace, hk.run, addr_add]
/-- a closed fact: field i of s lies at off and has k + 1 cells -/
def FieldAt (P : Program) (s i off k : Nat) : Prop := (match P.underlying s with
  | some (.struct fs) => (fs[i]?).map (fun f => (f.offset, (P.info? f.type).map (·.size)))
  | _ => none) = some (off, some (k + 1))
theorem pv_fieldAt {s i b o off k : Nat} (h : FieldAt P s i off k) (hx : ev n F x = .pointer (some ⟨b, o, none⟩)) :
    PV P n w F ⟨d, .fieldAddr s x i, ty, pos, aft, g⟩ (.pointer (some ⟨b, o + off, none⟩)) := by
  unfold FieldAt at h
  split at h
  · rename_i fs hs
    cases hf : fs[i]? with
    | none => simp [hf] at h
    | some f =>
      simp [hf] at h
      obtain ⟨rfl, h2⟩ := h
      refine pv_field (k := k) hs hf ?_ hx
      unfold TSize
      simpa using h2
  · cases h
theorem pv_index {t e k m c b o i : Nat} {q : IntKind} {s : Option Addr} (ht : P.underlying t = some (.slice e)) (hk : TSize P e k) (hx : ev n F x = .slice s m c) (hy : ev n F y = .int q i) (hs : s = some ⟨b, o, none⟩) (hi : i < m) :
    PV P n w F ⟨d, .indexAddr t x y, ty, pos, aft, g⟩ (.pointer (some ⟨b, o + i * k, none⟩)) := by
  subst hs
  have h1 : (i : Int) < (m : Int) := by omega
  simp [PV, execOp, Instr.indexAt, hx, hy, asIntOf, run_und ht, hi, hk.run, addr_add]
/-- an index into an array behind its address -/
theorem pv_index_a {t e k m b o i : Nat} {q : IntKind} (ht : P.underlying t = some (.array m e)) (hk : TSize P e k) (hx : ev n F x = .pointer (some ⟨b, o, none⟩)) (hy : ev n F y = .int q i) (hi : i < m) :
    PV P n w F ⟨d, .indexAddr t x y, ty, pos, aft, g⟩ (.pointer (some ⟨b, o + i * k, none⟩)) := by
  have h1 : (i : Int) < (m : Int) := by omega
  simp [PV, execOp, Instr.indexAt, Instr.sureAddr, hx, hy, asIntOf, run_und ht, hi, hk.run, addr_add]

theorem run_loadFrom (b o : Nat) : ∀ (vs : List Value) (i : Nat) (acc : Array Value), (∀ j v, vs[j]? = some v → w.cell? ⟨b, o + i + j, none⟩ = some v) →
    (loadCellsFrom ⟨b, o, none⟩ i vs.length acc).run P w = .ok (acc ++ vs.toArray) w
  | [], i, acc, _ => by simp [loadCellsFrom]
  | v :: vs, i, acc, h => by
    have h0 := h 0 v rfl
    have hr := run_loadFrom b o vs (i + 1) (acc.push v) (fun j u hu => by have := h (j + 1) u (by simpa using hu); rw [show o + (i + 1) + j = o + i + (j + 1) from by omega]; exact this)
    simp only [List.length_cons, loadCellsFrom, Sem.run_bind, addr_add]
    have hl : (load (⟨b, o + i, none⟩ : Addr)).run P w = .ok v w := by
      simp only [load, Sem.run]
      rw [show o + i = o + i + 0 from rfl, h0]
    rw [hl]
    simp only [Result.andThen_ok]
    rw [hr]
    simp

theorem pv_load {t : TypeId} {q : TypeDesc} {b o : Nat} {v : Value} (hq : P.underlying t = some q) (h1 : isOne q = true) (hx : ev n F x = .pointer (some ⟨b, o, none⟩)) (hc : w.cell? ⟨b, o, none⟩ = some v) :
    PV P n w F ⟨d, .load t x, ty, pos, aft, g⟩ v := by
  simp [PV, execOp, Instr.loadAt, hx, Instr.sureAddr, loadVar, run_one hq h1, load, Sem.run, hc]
theorem pv_loads {t : TypeId} {q : TypeDesc} {b o k : Nat} {vs : List Value} (hq : P.underlying t = some q) (h1 : isMany q = true) (hk : TSize P t k) (hx : ev n F x = .pointer (some ⟨b, o, none⟩))
    (hl : vs.length = k) (hc : ∀ j v, vs[j]? = some v → w.cell? ⟨b, o + j, none⟩ = some v) :
    PV P n w F ⟨d, .load t x, ty, pos, aft, g⟩ (.agg vs.toArray) := by
  subst hl
  have := run_loadFrom (P := P) (w := w) b o vs 0 #[] (fun j v hv => by simpa using hc j v hv)
  simp [PV, execOp, Instr.loadAt, hx, Instr.sureAddr, loadVar, run_many hq h1, loadCells, hk.run, this]

/-! parts of a slice -/
theorem run_bound {v : Value} {k : IntKind} {i m : Nat} {c : BoundsCode} (hv : v = .int k i) (h : i ≤ m) : (Instr.sliceBound v m c).run P w = .ok i w := by
  have : (i : Int) ≤ (m : Int) := by omega
  simp [Instr.sliceBound, hv, asIntOf, h]

/-! struct values -/
theorem pv_build {t : TypeId} {fs : Array Field} {ps : Array (Nat × Operand)} {zs cs : Array Value} {pl : Array (Nat × Nat)} {z : Value} (ht : P.underlying t = some (.struct fs)) (hz : TZero P t z) (hzs : z.cells = zs)
    (hpl : ∀ w, (fs.mapM (fun f => do pure (f.offset, ← sizeOf f.type) : Field → Sem (Nat × Nat))).run P w = .ok pl w) (hf : Instr.fill (pl[·]?) zs (ps.map fun (i, x) => (i, ev n F x)).toList = some cs) :
    PV P n w F ⟨d, .build t ps, ty, pos, aft, g⟩ (.agg cs) := by
  subst hzs
  simp only [PV, execOp, Instr.build, Sem.run_bind, hz.run, Result.andThen_ok, run_und ht, hpl, hf]
  rfl
end
end Go.Eng
/- The engine, part D: what is kept of the memory and what the call owns of it; boxes, stores, calls; conditions are the hypotheses of each law. -/
namespace Go.Eng
open Go.RowKit (Below)

structure Keeps (M : List Nat) (w w' : World) : Prop where
  os : w'.os = w.os
  tape : w'.tape = w.tape
  output : w'.output = w.output
  size : w.heap.size ≤ w'.heap.size
  block : ∀ k, k < w.heap.size → k ∉ M → w'.heap[k]? = w.heap[k]?

theorem Keeps.refl {M : List Nat} {w : World} : Keeps M w w := ⟨rfl, rfl, rfl, Nat.le_refl _, fun _ _ _ => rfl⟩
theorem Keeps.below {w w' : World} (h : Keeps [] w w') : Below w.heap.size w w' := ⟨h.os, h.tape, h.output, h.size, fun k hk => h.block k hk (by simp)⟩
theorem Keeps.of_below {w w' : World} (h : Below w.heap.size w w') : Keeps [] w w' := ⟨h.os, h.tape, h.output, h.size, fun k hk _ => h.block k hk⟩
theorem Keeps.trans {M N : List Nat} {a b c : World} (h : Keeps M a b) (h2 : Keeps N b c) (hN : ∀ k ∈ N, a.heap.size ≤ k ∨ k ∈ M) : Keeps M a c :=
  ⟨h2.os.trans h.os, h2.tape.trans h.tape, h2.output.trans h.output, Nat.le_trans h.size h2.size, fun k hk hm => (h2.block k (Nat.lt_of_lt_of_le hk h.size) (fun hn => by rcases hN k hn with h1 | h1; omega; exact hm h1)).trans (h.block k hk hm)⟩
theorem Keeps.drew {M : List Nat} {w w' : World} (h : Keeps M w w') : Keeps M w w'.drew := ⟨h.os, h.tape, h.output, h.size, h.block⟩
theorem Keeps.cell {M : List Nat} {w w' : World} (h : Keeps M w w') {a : Addr} {v : Value} (hc : w.cell? a = some v) (hm : a.block ∉ M) : w'.cell? a = some v :=
  (World.cell?_of_block (h.block a.block (World.block_lt_of_cell? w a hc) hm)).trans hc
theorem keeps_alloc (w : World) (o : Obj) : Keeps [] w (w.alloc o) := ⟨rfl, rfl, rfl, by simp, fun k hk _ => Go.RowKit.Below.heap_alloc w o k hk⟩

abbrev Ent := Option Nat × (Obj → Prop)

structure Hp (w0 : World) (M : List Nat) (w : World) (L : List Ent) : Prop where
  keeps : Keeps M w0 w
  own : ∀ (i : Nat) (p : Ent), L[i]? = some p → ∀ b, p.1 = some b → w0.heap.size ≤ b ∨ b ∈ M
  has : ∀ (i : Nat) (p : Ent), L[i]? = some p → ∀ b, p.1 = some b → ∃ o, w.heap[b]? = some o ∧ p.2 o
  dis : ∀ (i j : Nat) (p q : Ent), L[i]? = some p → L[j]? = some q → i ≠ j → ∀ b, p.1 = some b → q.1 ≠ some b

section
variable {w0 w w' : World} {M : List Nat} {L : List Ent}

theorem Hp.start {w : World} : Hp w M w [] := ⟨.refl, by simp, by simp, by simp⟩
theorem Hp.of_keeps {w0 w : World} (h : Keeps M w0 w) : Hp w0 M w [] := ⟨h, by simp, by simp, by simp⟩
theorem Hp.drew (h : Hp w0 M w L) : Hp w0 M w.drew L := ⟨h.keeps.drew, h.own, h.has, h.dis⟩
theorem Hp.lt (h : Hp w0 M w L) {i : Nat} {p : Ent} (hi : L[i]? = some p) {b : Nat} (hb : p.1 = some b) : b < w.heap.size := by
  obtain ⟨o, ho, _⟩ := h.has i p hi b hb
  exact (Array.getElem?_eq_some_iff.1 ho).1

theorem Hp.call (h : Hp w0 M w L) (hk : Keeps [] w w') : Hp w0 M w' L := by
  refine ⟨h.keeps.trans hk (by simp), h.own, fun i p hi b hb => ?_, h.dis⟩
  obtain ⟨o, ho, hp⟩ := h.has i p hi b hb
  exact ⟨o, by rw [hk.block b (h.lt hi hb) (by simp)]; exact ho, hp⟩

/-- a new block that a call or an operation has made -/
theorem Hp.add (h : Hp w0 M w L) (hk : Keeps [] w w') {q : Ent} (hq : ∀ b, q.1 = some b → w.heap.size ≤ b ∧ ∃ o, w'.heap[b]? = some o ∧ q.2 o) : Hp w0 M w' (q :: L) := by
  have h' := h.call hk
  refine ⟨h'.keeps, fun i p hi b hb => ?_, fun i p hi b hb => ?_, fun i j p r hi hj hne b hb => ?_⟩
  · cases i with
    | zero => simp at hi; subst hi; exact .inl (Nat.le_trans h.keeps.size (hq b hb).1)
    | succ i => exact h.own i p (by simpa using hi) b hb
  · cases i with
    | zero => simp at hi; subst hi; exact (hq b hb).2
    | succ i => exact h'.has i p (by simpa using hi) b hb
  · cases i with
    | zero =>
      simp at hi; subst hi
      cases j with
      | zero => exact absurd rfl hne
      | succ j =>
        intro e
        have h1 := (hq b hb).1
        have h2 := h.lt (i := j) (by simpa using hj) e
        omega
    | succ i =>
      cases j with
      | zero =>
        simp at hj; subst hj
        intro e
        have h1 := (hq b e).1
        have h2 := h.lt (i := i) (by simpa using hi) hb
        omega
      | succ j => exact h.dis i j p r (by simpa using hi) (by simpa using hj) (by omega) b hb

theorem Hp.alloc (h : Hp w0 M w L) (o : Obj) {φ : Obj → Prop} (hφ : φ o) : Hp w0 M (w.alloc o) ((some w.heap.size, φ) :: L) :=
  h.add (keeps_alloc w o) (by
    intro b hb
    simp at hb
    subst hb
    exact ⟨Nat.le_refl _, o, heap_alloc_new w o, hφ⟩)

theorem Hp.tail {q : Ent} (h : Hp w0 M w (q :: L)) : Hp w0 M w L :=
  ⟨h.keeps, fun i p hi => h.own (i + 1) p (by simpa using hi), fun i p hi => h.has (i + 1) p (by simpa using hi), fun i j p r hi hj hne => h.dis (i + 1) (j + 1) p r (by simpa using hi) (by simpa using hj) (by omega)⟩

/-- a block that was there before the call and that the call may change -/
theorem Hp.adopt (h : Hp w0 M w L) {b : Nat} {q : Obj → Prop} {o : Obj} (hb : b ∈ M) (ho : w.heap[b]? = some o) (hq : q o) (hne : ∀ (i : Nat) (p : Ent), L[i]? = some p → p.1 ≠ some b) : Hp w0 M w ((some b, q) :: L) := by
  refine ⟨h.keeps, fun i p hi c hc => ?_, fun i p hi c hc => ?_, fun i j p r hi hj hij c hc => ?_⟩
  · cases i with
    | zero => simp at hi; subst hi; simp at hc; subst hc; exact .inr hb
    | succ i => exact h.own i p (by simpa using hi) c hc
  · cases i with
    | zero => simp at hi; subst hi; simp at hc; subst hc; exact ⟨o, ho, hq⟩
    | succ i => exact h.has i p (by simpa using hi) c hc
  · cases i with
    | zero =>
      simp at hi; subst hi; simp at hc; subst hc
      cases j with
      | zero => exact absurd rfl hij
      | succ j => exact hne j r (by simpa using hj)
    | succ i =>
      cases j with
      | zero =>
        simp at hj; subst hj
        intro e
        simp at e; subst e
        exact hne i p (by simpa using hi) hc
      | succ j => exact h.dis i j p r (by simpa using hi) (by simpa using hj) (by omega) c hc

/-- one entry is changed -/
theorem Hp.upd (h : Hp w0 M w L) {i : Nat} {p q : Ent} (hi : L[i]? = some p) (hk : Keeps p.1.toList w w') (hq : ∀ b, q.1 = some b → (p.1 = some b ∨ w.heap.size ≤ b) ∧ ∃ o, w'.heap[b]? = some o ∧ q.2 o) :
    Hp w0 M w' (L.set i q) := by
  have hlen : i < L.length := (List.getElem?_eq_some_iff.1 hi).1
  refine ⟨?_, fun k r hr b hb => ?_, fun k r hr b hb => ?_, fun k j r s hr hs hne b hb => ?_⟩
  · refine h.keeps.trans hk ?_
    intro k hk'
    have : p.1 = some k := by simpa [Option.mem_toList, eq_comm] using hk'
    exact h.own i p hi k this
  · rw [List.getElem?_set] at hr
    by_cases hik : i = k
    · subst hik
      simp [hlen] at hr
      subst hr
      rcases (hq b hb).1 with h1 | h1
      · exact h.own i p hi b h1
      · exact .inl (Nat.le_trans h.keeps.size h1)
    · rw [if_neg hik] at hr
      exact h.own k r hr b hb
  · rw [List.getElem?_set] at hr
    by_cases hik : i = k
    · subst hik
      simp [hlen] at hr
      subst hr
      exact (hq b hb).2
    · rw [if_neg hik] at hr
      obtain ⟨o, ho, hro⟩ := h.has k r hr b hb
      refine ⟨o, ?_, hro⟩
      rw [hk.block b (h.lt hr hb) ?_]
      · exact ho
      · intro hm
        have : p.1 = some b := by simpa [Option.mem_toList, eq_comm] using hm
        exact h.dis k i r p hr hi (fun e => hik e.symm) b hb this
  · rw [List.getElem?_set] at hr hs
    by_cases hik : i = k
    · subst hik
      rw [if_neg hne] at hs
      simp [hlen] at hr
      subst hr
      intro e
      rcases (hq b hb).1 with h1 | h1
      · exact h.dis i j p s hi hs hne b h1 e
      · have := h.lt hs e; omega
    · rw [if_neg hik] at hr
      by_cases hij : i = j
      · subst hij
        simp [hlen] at hs
        subst hs
        intro e
        rcases (hq b e).1 with h1 | h1
        · exact h.dis k i r p hr hi hne b hb h1
        · have := h.lt hr hb; omega
      · rw [if_neg hij] at hs
        exact h.dis k j r s hr hs hne b hb

/-- one entry is weakened -/
theorem Hp.weak (h : Hp w0 M w L) {i : Nat} {p : Ent} {φ : Obj → Prop} (hi : L[i]? = some p) (hφ : ∀ o, p.2 o → φ o) : Hp w0 M w (L.set i (p.1, φ)) := by
  refine h.upd hi (w' := w) .refl ?_
  intro b hb
  obtain ⟨o, ho, hp⟩ := h.has i p hi b hb
  exact ⟨.inl hb, o, ho, hφ o hp⟩

theorem Hp.old0 {w0 w : World} {L : List Ent} (h : Hp w0 [] w L) {a : Addr} {v : Value} (hc : w0.cell? a = some v) : w.cell? a = some v := h.keeps.cell hc (by simp)
theorem Hp.old (h : Hp w0 M w L) {a : Addr} {v : Value} (hc : w0.cell? a = some v) (hm : a.block ∉ M) : w.cell? a = some v := h.keeps.cell hc hm
end

/-! ### blocks whose cells are all known -/
def cellsB (m : Nat) (f : Fr) (t : TypeId) : Obj → Prop := fun o => o = .cells (Array.ofFn (n := m) fun i => f i) t (0, 0)
def blk (b m : Nat) (f : Fr) (t : TypeId) : Ent := (some b, cellsB m f t)

section
variable {w0 w w' : World} {M : List Nat} {L : List Ent}

theorem cell_blk {b m o : Nat} {f : Fr} {t : TypeId} (hb : w.heap[b]? = some (.cells (Array.ofFn (n := m) fun i => f i) t (0, 0))) (ho : o < m) : w.cell? ⟨b, o, none⟩ = some (f o) := by
  simp [World.cell?, hb, ho]

theorem Hp.cell (h : Hp w0 M w L) (i : Nat) {b m o : Nat} {f : Fr} {t : TypeId} (hi : L[i]? = some (blk b m f t)) (ho : Nat.blt o m = true) : w.cell? ⟨b, o, none⟩ = some (f o) := by
  obtain ⟨ob, h1, h2⟩ := h.has i _ hi b rfl
  have h3 : ob = .cells (Array.ofFn (n := m) fun i => f i) t (0, 0) := h2
  subst h3
  exact cell_blk h1 (lt_of_nblt ho)

/-- the cells of a block from an offset on -/
theorem Hp.cells (h : Hp w0 M w L) (i : Nat) {b m o : Nat} {f : Fr} {t : TypeId} (vs : List Value) (hi : L[i]? = some (blk b m f t)) (ho : Nat.ble (o + vs.length) m = true)
    (hv : ∀ j v, vs[j]? = some v → f (o + j) = v) : ∀ j v, vs[j]? = some v → w.cell? ⟨b, o + j, none⟩ = some v := by
  intro j v hj
  have hlt : j < vs.length := (List.getElem?_eq_some_iff.1 hj).1
  rw [h.cell i hi (nblt_true (by have := Nat.le_of_ble_eq_true ho; omega)), hv j v hj]

/-- a struct or an array in a block, whole -/
theorem Hp.agg_blk (h : Hp w0 M w L) (i : Nat) {b m o k : Nat} {f : Fr} {t : TypeId} (hi : L[i]? = some (blk b m f t)) (ho : Nat.ble (o + k) m = true) :
    ∀ (j : Nat) (v : Value), ((List.range k).map fun j => f (o + j))[j]? = some v → w.cell? ⟨b, o + j, none⟩ = some v := by
  intro j v hj
  rw [List.getElem?_map] at hj
  by_cases hlt : j < k
  · rw [List.getElem?_range hlt] at hj
    simp at hj
    rw [h.cell i hi (nblt_true (by have := Nat.le_of_ble_eq_true ho; omega)), hj]
  · rw [List.getElem?_eq_none (by simpa using hlt)] at hj
    cases hj

def putL (f : Fr) (o : Nat) : List Value → Fr
  | [] => f
  | v :: vs => putL (f.put o v) (o + 1) vs

def oneV : Value → Bool
  | .agg _ => false
  | .tuple _ => false
  | _ => true

theorem run_store1 {P : Program} {b o m : Nat} {f : Fr} {t : TypeId} {v : Value} (hb : w.heap[b]? = some (.cells (Array.ofFn (n := m) fun i => f i) t (0, 0))) (ho : o < m) (h1 : oneV v = true) :
    ∃ w', (store ⟨b, o, none⟩ v).run P w = .ok () w' ∧ Keeps [b] w w' ∧ w'.heap[b]? = some (.cells (Array.ofFn (n := m) fun i => (f.put o v) i) t (0, 0)) := by
  have hc := cell_blk hb ho
  have hf : w.frozen? ⟨b, o, none⟩ = false := by simp [World.frozen?, hb]
  refine ⟨w.setCell ⟨b, o, none⟩ v, ?_, ⟨rfl, rfl, rfl, by simp [World.setCell], fun k _ hm => ?_⟩, ?_⟩
  · cases v <;> first | (cases h1; done) | simp [store, Sem.run, hc, hf]
  · simp only [World.setCell, Array.getElem?_modify]
    rw [if_neg (by simp at hm; omega)]
  · simp only [World.setCell, Array.getElem?_modify, if_true, hb, Option.map_some]
    congr 2
    apply Array.ext
    · simp
    · intro i h1 h2
      have hi : i < m := by simpa using h2
      simp only [Option.isSome_none, Bool.false_eq_true, if_false]
      rw [Array.getElem_setIfInBounds (by simpa using hi)]
      simp only [Array.getElem_ofFn, Fr.put]
      by_cases h : o = i
      · subst h; simp
      · rw [if_neg h, nbeq_false (fun e => h e.symm)]; rfl

theorem run_stores {P : Program} {b m : Nat} {t : TypeId} : ∀ (vs : List Value) (w : World) (f : Fr) (o i : Nat), w.heap[b]? = some (.cells (Array.ofFn (n := m) fun i => f i) t (0, 0)) → o + i + vs.length ≤ m → vs.all oneV = true →
    ∃ w', (storeCells ⟨b, o, none⟩ vs i).run P w = .ok () w' ∧ Keeps [b] w w' ∧ w'.heap[b]? = some (.cells (Array.ofFn (n := m) fun j => (putL f (o + i) vs) j) t (0, 0))
  | [], w, f, o, i, hb, _, _ => ⟨w, by simp [storeCells], .refl, hb⟩
  | v :: vs, w, f, o, i, hb, hl, h1 => by
    simp only [List.all_cons, Bool.and_eq_true] at h1
    simp only [List.length_cons] at hl
    obtain ⟨w1, r1, k1, b1⟩ := run_store1 (P := P) (o := o + i) hb (by omega) h1.1
    obtain ⟨w2, r2, k2, b2⟩ := run_stores (P := P) vs w1 (f.put (o + i) v) o (i + 1) b1 (by omega) h1.2
    refine ⟨w2, ?_, k1.trans k2 (fun k hk => .inr hk), b2⟩
    simp only [storeCells, addr_add, Sem.run_bind, r1, Result.andThen_ok, r2]
end

section
variable {P : Program} {n : FrK} {w0 w : World} {M : List Nat} {L : List Ent} {F : Fr} {d : Option Tmp} {ty : TypeId} {pos : String} {aft : Array Edge} {g : Option (Nat × Bool)} {x y : Operand}

theorem stepF_val {o : Oper} {v : Value} {w' : World} {R : Value → World → Prop} (h : (execOp (ev n F) o).run P w = .ok (.value v) w') (hr : R v w') : StepF P n o F w R := .inl ⟨v, w', by rw [act_eval]; exact h, hr⟩
theorem stepF_skip {o : Oper} {w' : World} {R : Value → World → Prop} (h : (execOp (ev n F) o).run P w = .ok .skip w') (hr : R undef w') : StepF P n o F w R := .inr (.inl ⟨w', by rw [act_eval]; exact h, hr⟩)

theorem frOf_eq : ∀ (l : List Value) (i : Nat), frOf l i = l.getD i undef := by
  intro l
  induction l with
  | nil => intro i; simp [frOf]
  | cons x l ih => intro i; cases i <;> simp [frOf, ih]
theorem frOf_arr (l : List Value) : (Array.ofFn (n := l.length) fun i => frOf l i) = l.toArray := by
  apply Array.ext
  · simp
  · intro i h1 h2
    simp [frOf_eq]

theorem st_box {t : TypeId} {v : Value} {cs : List Value} {m : Nat} (hp : Hp w0 M w L) (hx : ev n F x = v) (hcs : v.cells.toList = cs) (hm : cs.length = m) :
    StepF P n ⟨d, .box t x, ty, pos, aft, g⟩ F w (fun u w' => ∃ b, u = .pointer (some ⟨b, 0, none⟩) ∧ Hp w0 M w' (blk b m (frOf cs) t :: L)) := by
  subst hm
  have hfr := frOf_arr
  refine stepF_val (v := .pointer (some ⟨w.heap.size, 0, none⟩)) (w' := w.alloc (.cells v.cells t)) ?_ ⟨_, rfl, hp.alloc _ ?_⟩
  · simp [execOp, Instr.box, newVar, newRow, newObj, hx, Sem.run]
  · show _ = _
    rw [hfr, ← hcs]

theorem st_alloc {t : TypeId} {z : Value} {cs : List Value} {m : Nat} (hp : Hp w0 M w L) (hz : TZero P t z) (hcs : z.cells.toList = cs) (hm : cs.length = m) :
    StepF P n ⟨d, .alloc t, ty, pos, aft, g⟩ F w (fun u w' => ∃ b, u = .pointer (some ⟨b, 0, none⟩) ∧ Hp w0 M w' (blk b m (frOf cs) t :: L)) := by
  have hfr := frOf_arr
  subst hm
  refine stepF_val (v := .pointer (some ⟨w.heap.size, 0, none⟩)) (w' := w.alloc (.cells z.cells t)) ?_ ⟨_, rfl, hp.alloc _ ?_⟩
  · simp only [execOp, Instr.alloc, Sem.run_bind, hz.run, Result.andThen_ok]
    simp [newVar, newRow, newObj, Sem.run]
  · show _ = _
    rw [hfr, ← hcs]

theorem st_store {t tb : TypeId} {v : Value} {cs : List Value} {b o m : Nat} {f : Fr} (hp : Hp w0 M w L) (i : Nat) (hx : ev n F x = .pointer (some ⟨b, o, none⟩)) (hy : ev n F y = v) (hi : L[i]? = some (blk b m f tb))
    (hcs : v.cells.toList = cs) (hk : TSize P t cs.length) (ho : Nat.ble (o + cs.length) m = true) (h1 : cs.all oneV = true) :
    StepF P n ⟨d, .store t x y, ty, pos, aft, g⟩ F w (fun u w' => u = undef ∧ Hp w0 M w' (L.set i (blk b m (putL f o cs) tb))) := by
  obtain ⟨ob, hb1, hb2⟩ := hp.has i _ hi b rfl
  have hb3 : ob = .cells (Array.ofFn (n := m) fun i => f i) tb (0, 0) := hb2
  subst hb3
  obtain ⟨w', hr, hk', hb'⟩ := run_stores (P := P) cs w f o 0 hb1 (by have := Nat.le_of_ble_eq_true ho; omega) h1
  refine stepF_skip (w' := w') ?_ ⟨rfl, hp.upd hi (by simpa [blk] using hk') ?_⟩
  · have hsz : v.cells.size = cs.length := by rw [← hcs]; simp
    have hk2 := hk.run (w := w)
    simp only [execOp, Instr.storeAt, hx, hy, Instr.sureAddr, storeVar, Sem.run_bind, Sem.run_pure, Result.andThen_ok, hk2, hsz, hcs]
    simp [hr]
  · intro b' hb''
    have : b' = b := by simpa [blk, eq_comm] using hb''
    subst this
    exact ⟨.inl rfl, _, hb', rfl⟩

/-! calls -/
def Ret (P : Program) (f : FuncId) (args : List Value) (w : World) (R : Value → World → Prop) : Prop := Calls P f args.toArray w (fun e w' => ∃ v, e = .returned v ∧ R v w')

theorem Ret.mono {f : FuncId} {args : List Value} {R R' : Value → World → Prop} (h : Ret P f args w R) (hr : ∀ v w', R v w' → R' v w') : Ret P f args w R' :=
  Calls.mono h fun _ _ ⟨v, he, hv⟩ => ⟨v, he, hr _ _ hv⟩

/-- a function that has a body is entered -/
def Enters (P : Program) (f : FuncId) : Prop := ∀ (args : Array Value) (w : World), (callFunc f args).run P w = .ok (.enter f args) w

theorem st_call {ts : Array TypeId} {args : Array Operand} {f : FuncId} {first caps : Array Value} {vs : List Value} {R : Value → World → Prop} (hx : ev n F x = .func (.func f) first caps) (he : Enters P f)
    (hargs : first.toList ++ args.toList.map (ev n F) ++ caps.toList = vs) (hc : Ret P f vs w R) :
    StepF P n ⟨d, .call ⟨.value x, args, ts⟩, ty, pos, aft, g⟩ F w R := by
  refine .inr (.inr ⟨f, vs.toArray, w, ?_, hc⟩)
  rw [act_eval]
  have ha : first ++ args.map (ev n F) ++ caps = vs.toArray := by
    rw [← hargs]
    simp
  simp only [execOp, resolve, Sem.run_bind, hx, Deferred.ofValue, Sem.run_pure, Result.andThen_ok, invoke]
  rw [ha]
  exact he _ _

theorem Ret.of_WP {f : FuncId} {fn : Func} {c : Code} {args : List Value} {R : Value → World → Prop} (hf : P.funcs[f]? = some fn) (hb : fn.body = some c) {m : Nat} (hn : fn.ntmps = m) (hsz : Nat.ble args.length m = true)
    (h : WP P (FrK.of m) c (retQ P (FrK.of m) fn (fun e w' => ∃ v, e = .returned v ∧ R v w')) (frOf args) w) : Ret P f args w R :=
  calls_of_WP hf hb hn (Nat.le_of_ble_eq_true hsz) h
end
end Go.Eng
/- The engine, part E: the rules in the shape in which the scripts use them; conditions are the hypotheses of each law. -/
namespace Go.Eng
section
variable {P : Program} {n : FrK} {Q : Exit → Fr → World → Prop} {F : Fr} {w : World} {ops : Array Oper} {rest : List Oper} {st : Bool} {G : World → Prop}
variable {d : Nat} {op : Op} {ty : TypeId} {pos : String} {aft : Array Edge}

theorem wlp {r v : Value} (hp : PV P n w F ⟨some d, op, ty, pos, aft, none⟩ r) (hv : r = v) (h : wpl P n ops rest Q (F.put d v) w) : wpl P n ops (⟨some d, op, ty, pos, aft, none⟩ :: rest) Q F w := wpl_pure rfl hp hv h
theorem wlg {r v : Value} {j : Nat} {want c : Bool} {e : Nat} (hj : gslot ops j = some e) (hc : ev n F (.tmp e) = .bool c)
    (hp : (c == want) = true → PV P n w F ⟨some d, op, ty, pos, aft, some (j, want)⟩ r) (hv : (c == want) = true → r = v) (h : wpl P n ops rest Q (F.put d (Sel (c == want) v)) w) : wpl P n ops (⟨some d, op, ty, pos, aft, some (j, want)⟩ :: rest) Q F w := wpl_gd rfl hj hc hp hv h
theorem wlg2 {r v : Value} {j : Nat} {want b c : Bool} {e : Nat} (hj : gslot ops j = some e) (hc : ev n F (.tmp e) = Sel b (.bool c))
    (hp : b = true → (b && (c == want)) = true → PV P n w F ⟨some d, op, ty, pos, aft, some (j, want)⟩ r) (hv : b = true → (b && (c == want)) = true → r = v) (h : wpl P n ops rest Q (F.put d (Sel (b && (c == want)) v)) w) : wpl P n ops (⟨some d, op, ty, pos, aft, some (j, want)⟩ :: rest) Q F w := wpl_gd2 rfl hj hc hp hv h
theorem wdg2 {r v : Value} {j : Nat} {want b c : Bool} {e : Nat} (he : effOp op = false) (hj : gslot ops j = some e) (hc : ev n F (.tmp e) = Sel b (.bool c))
    (hp : ∀ w, G w → b = true → (b && (c == want)) = true → PV P n w F ⟨some d, op, ty, pos, aft, some (j, want)⟩ r) (hv : b = true → (b && (c == want)) = true → r = v) (h : wpd P n ops st G rest Q (F.put d (Sel (b && (c == want)) v)) w) : wpd P n ops st G (⟨some d, op, ty, pos, aft, some (j, want)⟩ :: rest) Q F w := wpd_gd2 he rfl hj hc (fun a b c d => hp c d a b) hv h
theorem wls {R : Value → World → Prop} (hs : StepF P n ⟨some d, op, ty, pos, aft, none⟩ F w R) (h : ∀ v w', R v w' → wpl P n ops rest Q (F.put d v) w') : wpl P n ops (⟨some d, op, ty, pos, aft, none⟩ :: rest) Q F w := wpl_step rfl hs h
theorem wls0 {R : Value → World → Prop} (hs : StepF P n ⟨none, op, ty, pos, aft, none⟩ F w R) (h : ∀ v w', R v w' → wpl P n ops rest Q F w') : wpl P n ops (⟨none, op, ty, pos, aft, none⟩ :: rest) Q F w := wpl_step rfl hs h
theorem wdp {r v : Value} (he : effOp op = false) (hp : ∀ w, G w → PV P n w F ⟨some d, op, ty, pos, aft, none⟩ r) (hv : r = v) (h : wpd P n ops st G rest Q (F.put d v) w) : wpd P n ops st G (⟨some d, op, ty, pos, aft, none⟩ :: rest) Q F w := wpd_pure he rfl hp hv h
theorem wdg {r v : Value} {j : Nat} {want c : Bool} {e : Nat} (he : effOp op = false) (hj : gslot ops j = some e) (hc : ev n F (.tmp e) = .bool c)
    (hp : ∀ w, G w → (c == want) = true → PV P n w F ⟨some d, op, ty, pos, aft, some (j, want)⟩ r) (hv : (c == want) = true → r = v) (h : wpd P n ops st G rest Q (F.put d (Sel (c == want) v)) w) : wpd P n ops st G (⟨some d, op, ty, pos, aft, some (j, want)⟩ :: rest) Q F w := wpd_gd he rfl hj hc (fun a b c => hp b c a) hv h
theorem wds {R : Value → World → Prop} (he : effOp op = true) (hs : StepF P n ⟨some d, op, ty, pos, aft, none⟩ F w R) (h : ∀ v w', R v w' → G w' ∧ wpd P n ops st G rest Q (F.put d v) w') : wpd P n ops st G (⟨some d, op, ty, pos, aft, none⟩ :: rest) Q F w := wpd_step he rfl hs h
theorem wds0 {R : Value → World → Prop} (he : effOp op = true) (hs : StepF P n ⟨none, op, ty, pos, aft, none⟩ F w R) (h : ∀ v w', R v w' → G w' ∧ wpd P n ops st G rest Q F w') : wpd P n ops st G (⟨none, op, ty, pos, aft, none⟩ :: rest) Q F w := wpd_step he rfl hs h
theorem wds0S {R : Value → World → Prop} (he : effOp op = true) (hn : need false ⟨none, op, ty, pos, aft, none⟩ = false) (hs : StepF P n ⟨none, op, ty, pos, aft, none⟩ F w R) (h : ∀ v w', R v w' → wpd P n ops false G rest Q F w') : wpd P n ops false G (⟨none, op, ty, pos, aft, none⟩ :: rest) Q F w := wpd_store he hn rfl hs h
theorem wdsS {R : Value → World → Prop} (he : effOp op = true) (hn : need false ⟨some d, op, ty, pos, aft, none⟩ = false) (hs : StepF P n ⟨some d, op, ty, pos, aft, none⟩ F w R) (h : ∀ v w', R v w' → wpd P n ops false G rest Q (F.put d v) w') : wpd P n ops false G (⟨some d, op, ty, pos, aft, none⟩ :: rest) Q F w := wpd_store he hn rfl hs h
theorem wlgs {v : Value} {j : Nat} {want c : Bool} {e : Nat} (hj : gslot ops j = some e) (hc : ev n F (.tmp e) = .bool c) (C : World → Prop) (hC : C w)
    (hs : (c == want) = true → StepF P n ⟨some d, op, ty, pos, aft, some (j, want)⟩ F w (fun u w' => u = v ∧ C w')) (h : ∀ w', C w' → wpl P n ops rest Q (F.put d (Sel (c == want) v)) w') :
    wpl P n ops (⟨some d, op, ty, pos, aft, some (j, want)⟩ :: rest) Q F w := wpl_gstep rfl hj hc C hC hs h
theorem wdgs {v : Value} {j : Nat} {want c : Bool} {e : Nat} (he : effOp op = true) (hj : gslot ops j = some e) (hc : ev n F (.tmp e) = .bool c) (C : World → Prop) (hC : C w)
    (hs : (c == want) = true → StepF P n ⟨some d, op, ty, pos, aft, some (j, want)⟩ F w (fun u w' => u = v ∧ C w')) (h : ∀ w', C w' → G w' ∧ wpd P n ops st G rest Q (F.put d (Sel (c == want) v)) w') :
    wpd P n ops st G (⟨some d, op, ty, pos, aft, some (j, want)⟩ :: rest) Q F w := wpd_gstep he rfl hj hc C hC hs h
end
section
variable {P : Program} {n : FrK} {w0 w : World} {M : List Nat} {L : List Ent} {F : Fr} {d : Option Tmp} {ty : TypeId} {pos : String} {aft : Array Edge} {g : Option (Nat × Bool)} {x y : Operand} {t tb : TypeId}

theorem sbox1 {c0 : Value} (hp : Hp w0 M w L) (hx : ev n F x = c0) (h1 : oneV c0 = true) : StepF P n ⟨d, .box t x, ty, pos, aft, g⟩ F w (fun u w' => ∃ b, u = .pointer (some ⟨b, 0, none⟩) ∧ Hp w0 M w' (blk b 1 (frOf [c0]) t :: L)) := st_box hp hx (by cases c0 <;> first | rfl | cases h1) rfl
theorem salloc1 {c0 : Value} (hp : Hp w0 M w L) (hz : TZero P t c0) (h1 : oneV c0 = true) : StepF P n ⟨d, .alloc t, ty, pos, aft, g⟩ F w (fun u w' => ∃ b, u = .pointer (some ⟨b, 0, none⟩) ∧ Hp w0 M w' (blk b 1 (frOf [c0]) t :: L)) := st_alloc hp hz (by cases c0 <;> first | rfl | cases h1) rfl
theorem sstore1 {c0 : Value} {b o m : Nat} {f : Fr} (hp : Hp w0 M w L) (i : Nat) (hx : ev n F x = .pointer (some ⟨b, o, none⟩)) (hy : ev n F y = c0) (h1 : oneV c0 = true) (hi : L[i]? = some (blk b m f tb)) (hk : TSize P t 1) (ho : Nat.ble (o + 1) m = true) :
    StepF P n ⟨d, .store t x y, ty, pos, aft, g⟩ F w (fun u w' => u = undef ∧ Hp w0 M w' (L.set i (blk b m (putL f o [c0]) tb))) := st_store hp i hx hy hi (by cases c0 <;> first | rfl | cases h1) hk ho (by simp [h1])
theorem sbox2 {c0 c1 : Value} (hp : Hp w0 M w L) (hx : ev n F x = (.agg #[c0, c1])) : StepF P n ⟨d, .box t x, ty, pos, aft, g⟩ F w (fun u w' => ∃ b, u = .pointer (some ⟨b, 0, none⟩) ∧ Hp w0 M w' (blk b 2 (frOf [c0, c1]) t :: L)) := st_box hp hx rfl rfl
theorem salloc2 {c0 c1 : Value} (hp : Hp w0 M w L) (hz : TZero P t (.agg #[c0, c1])) : StepF P n ⟨d, .alloc t, ty, pos, aft, g⟩ F w (fun u w' => ∃ b, u = .pointer (some ⟨b, 0, none⟩) ∧ Hp w0 M w' (blk b 2 (frOf [c0, c1]) t :: L)) := st_alloc hp hz rfl rfl
theorem sstore2 {c0 c1 : Value} {b o m : Nat} {f : Fr} (hp : Hp w0 M w L) (i : Nat) (hx : ev n F x = .pointer (some ⟨b, o, none⟩)) (hy : ev n F y = (.agg #[c0, c1])) (h1 : [c0, c1].all oneV = true) (hi : L[i]? = some (blk b m f tb)) (hk : TSize P t 2) (ho : Nat.ble (o + 2) m = true) :
    StepF P n ⟨d, .store t x y, ty, pos, aft, g⟩ F w (fun u w' => u = undef ∧ Hp w0 M w' (L.set i (blk b m (putL f o [c0, c1]) tb))) := st_store hp i hx hy hi rfl hk ho h1
theorem sbox3 {c0 c1 c2 : Value} (hp : Hp w0 M w L) (hx : ev n F x = (.agg #[c0, c1, c2])) : StepF P n ⟨d, .box t x, ty, pos, aft, g⟩ F w (fun u w' => ∃ b, u = .pointer (some ⟨b, 0, none⟩) ∧ Hp w0 M w' (blk b 3 (frOf [c0, c1, c2]) t :: L)) := st_box hp hx rfl rfl
theorem salloc3 {c0 c1 c2 : Value} (hp : Hp w0 M w L) (hz : TZero P t (.agg #[c0, c1, c2])) : StepF P n ⟨d, .alloc t, ty, pos, aft, g⟩ F w (fun u w' => ∃ b, u = .pointer (some ⟨b, 0, none⟩) ∧ Hp w0 M w' (blk b 3 (frOf [c0, c1, c2]) t :: L)) := st_alloc hp hz rfl rfl
theorem sstore3 {c0 c1 c2 : Value} {b o m : Nat} {f : Fr} (hp : Hp w0 M w L) (i : Nat) (hx : ev n F x = .pointer (some ⟨b, o, none⟩)) (hy : ev n F y = (.agg #[c0, c1, c2])) (h1 : [c0, c1, c2].all oneV = true) (hi : L[i]? = some (blk b m f tb)) (hk : TSize P t 3) (ho : Nat.ble (o + 3) m = true) :
    StepF P n ⟨d, .store t x y, ty, pos, aft, g⟩ F w (fun u w' => u = undef ∧ Hp w0 M w' (L.set i (blk b m (putL f o [c0, c1, c2]) tb))) := st_store hp i hx hy hi rfl hk ho h1
theorem sbox4 {c0 c1 c2 c3 : Value} (hp : Hp w0 M w L) (hx : ev n F x = (.agg #[c0, c1, c2, c3])) : StepF P n ⟨d, .box t x, ty, pos, aft, g⟩ F w (fun u w' => ∃ b, u = .pointer (some ⟨b, 0, none⟩) ∧ Hp w0 M w' (blk b 4 (frOf [c0, c1, c2, c3]) t :: L)) := st_box hp hx rfl rfl
theorem salloc4 {c0 c1 c2 c3 : Value} (hp : Hp w0 M w L) (hz : TZero P t (.agg #[c0, c1, c2, c3])) : StepF P n ⟨d, .alloc t, ty, pos, aft, g⟩ F w (fun u w' => ∃ b, u = .pointer (some ⟨b, 0, none⟩) ∧ Hp w0 M w' (blk b 4 (frOf [c0, c1, c2, c3]) t :: L)) := st_alloc hp hz rfl rfl
theorem sstore4 {c0 c1 c2 c3 : Value} {b o m : Nat} {f : Fr} (hp : Hp w0 M w L) (i : Nat) (hx : ev n F x = .pointer (some ⟨b, o, none⟩)) (hy : ev n F y = (.agg #[c0, c1, c2, c3])) (h1 : [c0, c1, c2, c3].all oneV = true) (hi : L[i]? = some (blk b m f tb)) (hk : TSize P t 4) (ho : Nat.ble (o + 4) m = true) :
    StepF P n ⟨d, .store t x y, ty, pos, aft, g⟩ F w (fun u w' => u = undef ∧ Hp w0 M w' (L.set i (blk b m (putL f o [c0, c1, c2, c3]) tb))) := st_store hp i hx hy hi rfl hk ho h1
theorem sbox5 {c0 c1 c2 c3 c4 : Value} (hp : Hp w0 M w L) (hx : ev n F x = (.agg #[c0, c1, c2, c3, c4])) : StepF P n ⟨d, .box t x, ty, pos, aft, g⟩ F w (fun u w' => ∃ b, u = .pointer (some ⟨b, 0, none⟩) ∧ Hp w0 M w' (blk b 5 (frOf [c0, c1, c2, c3, c4]) t :: L)) := st_box hp hx rfl rfl
theorem salloc5 {c0 c1 c2 c3 c4 : Value} (hp : Hp w0 M w L) (hz : TZero P t (.agg #[c0, c1, c2, c3, c4])) : StepF P n ⟨d, .alloc t, ty, pos, aft, g⟩ F w (fun u w' => ∃ b, u = .pointer (some ⟨b, 0, none⟩) ∧ Hp w0 M w' (blk b 5 (frOf [c0, c1, c2, c3, c4]) t :: L)) := st_alloc hp hz rfl rfl
theorem sstore5 {c0 c1 c2 c3 c4 : Value} {b o m : Nat} {f : Fr} (hp : Hp w0 M w L) (i : Nat) (hx : ev n F x = .pointer (some ⟨b, o, none⟩)) (hy : ev n F y = (.agg #[c0, c1, c2, c3, c4])) (h1 : [c0, c1, c2, c3, c4].all oneV = true) (hi : L[i]? = some (blk b m f tb)) (hk : TSize P t 5) (ho : Nat.ble (o + 5) m = true) :
    StepF P n ⟨d, .store t x y, ty, pos, aft, g⟩ F w (fun u w' => u = undef ∧ Hp w0 M w' (L.set i (blk b m (putL f o [c0, c1, c2, c3, c4]) tb))) := st_store hp i hx hy hi rfl hk ho h1
theorem sbox6 {c0 c1 c2 c3 c4 c5 : Value} (hp : Hp w0 M w L) (hx : ev n F x = (.agg #[c0, c1, c2, c3, c4, c5])) : StepF P n ⟨d, .box t x, ty, pos, aft, g⟩ F w (fun u w' => ∃ b, u = .pointer (some ⟨b, 0, none⟩) ∧ Hp w0 M w' (blk b 6 (frOf [c0, c1, c2, c3, c4, c5]) t :: L)) := st_box hp hx rfl rfl
theorem salloc6 {c0 c1 c2 c3 c4 c5 : Value} (hp : Hp w0 M w L) (hz : TZero P t (.agg #[c0, c1, c2, c3, c4, c5])) : StepF P n ⟨d, .alloc t, ty, pos, aft, g⟩ F w (fun u w' => ∃ b, u = .pointer (some ⟨b, 0, none⟩) ∧ Hp w0 M w' (blk b 6 (frOf [c0, c1, c2, c3, c4, c5]) t :: L)) := st_alloc hp hz rfl rfl
theorem sstore6 {c0 c1 c2 c3 c4 c5 : Value} {b o m : Nat} {f : Fr} (hp : Hp w0 M w L) (i : Nat) (hx : ev n F x = .pointer (some ⟨b, o, none⟩)) (hy : ev n F y = (.agg #[c0, c1, c2, c3, c4, c5])) (h1 : [c0, c1, c2, c3, c4, c5].all oneV = true) (hi : L[i]? = some (blk b m f tb)) (hk : TSize P t 6) (ho : Nat.ble (o + 6) m = true) :
    StepF P n ⟨d, .store t x y, ty, pos, aft, g⟩ F w (fun u w' => u = undef ∧ Hp w0 M w' (L.set i (blk b m (putL f o [c0, c1, c2, c3, c4, c5]) tb))) := st_store hp i hx hy hi rfl hk ho h1
theorem sbox13 {c0 c1 c2 c3 c4 c5 c6 c7 c8 c9 c10 c11 c12 : Value} (hp : Hp w0 M w L) (hx : ev n F x = (.agg #[c0, c1, c2, c3, c4, c5, c6, c7, c8, c9, c10, c11, c12])) : StepF P n ⟨d, .box t x, ty, pos, aft, g⟩ F w (fun u w' => ∃ b, u = .pointer (some ⟨b, 0, none⟩) ∧ Hp w0 M w' (blk b 13 (frOf [c0, c1, c2, c3, c4, c5, c6, c7, c8, c9, c10, c11, c12]) t :: L)) := st_box hp hx rfl rfl
theorem salloc13 {c0 c1 c2 c3 c4 c5 c6 c7 c8 c9 c10 c11 c12 : Value} (hp : Hp w0 M w L) (hz : TZero P t (.agg #[c0, c1, c2, c3, c4, c5, c6, c7, c8, c9, c10, c11, c12])) : StepF P n ⟨d, .alloc t, ty, pos, aft, g⟩ F w (fun u w' => ∃ b, u = .pointer (some ⟨b, 0, none⟩) ∧ Hp w0 M w' (blk b 13 (frOf [c0, c1, c2, c3, c4, c5, c6, c7, c8, c9, c10, c11, c12]) t :: L)) := st_alloc hp hz rfl rfl
theorem sstore13 {c0 c1 c2 c3 c4 c5 c6 c7 c8 c9 c10 c11 c12 : Value} {b o m : Nat} {f : Fr} (hp : Hp w0 M w L) (i : Nat) (hx : ev n F x = .pointer (some ⟨b, o, none⟩)) (hy : ev n F y = (.agg #[c0, c1, c2, c3, c4, c5, c6, c7, c8, c9, c10, c11, c12])) (h1 : [c0, c1, c2, c3, c4, c5, c6, c7, c8, c9, c10, c11, c12].all oneV = true) (hi : L[i]? = some (blk b m f tb)) (hk : TSize P t 13) (ho : Nat.ble (o + 13) m = true) :
    StepF P n ⟨d, .store t x y, ty, pos, aft, g⟩ F w (fun u w' => u = undef ∧ Hp w0 M w' (L.set i (blk b m (putL f o [c0, c1, c2, c3, c4, c5, c6, c7, c8, c9, c10, c11, c12]) tb))) := st_store hp i hx hy hi rfl hk ho h1
end

/-! forcing a value into its own form -/
theorem fI {r : Value} {k : IntKind} {a : Int} (h : r = .int k a) : r = .int k a := h
theorem fB {r : Value} {a : Bool} (h : r = .bool a) : r = .bool a := h
theorem fP {r : Value} {b o : Nat} (h : r = .pointer (some ⟨b, o, none⟩)) : r = .pointer (some ⟨b, o, none⟩) := h
theorem fS {r : Value} {s : Option Addr} {m c : Nat} (h : r = .slice s m c) : r = .slice s m c := h
theorem fT {r : Value} {s : ByteArray} (h : r = .string s) : r = .string s := h
theorem fF {r : Value} {f : Fn} {a b : Array Value} (h : r = .func f a b) : r = .func f a b := h
theorem fF0 {r : Value} {f : Fn} (h : r = .func f #[] #[]) : r = .func f #[] #[] := h
theorem fF1 {r : Value} {f : Fn} {a : Value} (h : r = .func f #[] #[a]) : r = .func f #[] #[a] := h
theorem fF2 {r : Value} {f : Fn} {a b : Value} (h : r = .func f #[] #[a, b]) : r = .func f #[] #[a, b] := h
theorem fF3 {r : Value} {f : Fn} {a b c : Value} (h : r = .func f #[] #[a, b, c]) : r = .func f #[] #[a, b, c] := h
theorem fM {r : Value} {s : Option Nat} (h : r = .map s) : r = .map s := h
theorem fU {r : Value} {vs : Array Value} (h : r = .tuple vs) : r = .tuple vs := h
theorem fL {r v : Value} {b : Bool} (h : r = Sel b v) : r = Sel b v := h
theorem fA1 {r c0 : Value} (h : r = .agg #[c0]) : r = .agg #[c0] := h
theorem fA2 {r c0 c1 : Value} (h : r = .agg #[c0, c1]) : r = .agg #[c0, c1] := h
theorem fA3 {r c0 c1 c2 : Value} (h : r = .agg #[c0, c1, c2]) : r = .agg #[c0, c1, c2] := h
theorem fA4 {r c0 c1 c2 c3 : Value} (h : r = .agg #[c0, c1, c2, c3]) : r = .agg #[c0, c1, c2, c3] := h
theorem fA5 {r c0 c1 c2 c3 c4 : Value} (h : r = .agg #[c0, c1, c2, c3, c4]) : r = .agg #[c0, c1, c2, c3, c4] := h
theorem fA6 {r c0 c1 c2 c3 c4 c5 : Value} (h : r = .agg #[c0, c1, c2, c3, c4, c5]) : r = .agg #[c0, c1, c2, c3, c4, c5] := h
theorem fA13 {r c0 c1 c2 c3 c4 c5 c6 c7 c8 c9 c10 c11 c12 : Value} (h : r = .agg #[c0, c1, c2, c3, c4, c5, c6, c7, c8, c9, c10, c11, c12]) : r = .agg #[c0, c1, c2, c3, c4, c5, c6, c7, c8, c9, c10, c11, c12] := h
theorem fA26 {r c0 c1 c2 c3 c4 c5 c6 c7 c8 c9 c10 c11 c12 c13 c14 c15 c16 c17 c18 c19 c20 c21 c22 c23 c24 c25 : Value} (h : r = .agg #[c0, c1, c2, c3, c4, c5, c6, c7, c8, c9, c10, c11, c12, c13, c14, c15, c16, c17, c18, c19, c20, c21, c22, c23, c24, c25]) : r = .agg #[c0, c1, c2, c3, c4, c5, c6, c7, c8, c9, c10, c11, c12, c13, c14, c15, c16, c17, c18, c19, c20, c21, c22, c23, c24, c25] := h
theorem fA39 {r c0 c1 c2 c3 c4 c5 c6 c7 c8 c9 c10 c11 c12 c13 c14 c15 c16 c17 c18 c19 c20 c21 c22 c23 c24 c25 c26 c27 c28 c29 c30 c31 c32 c33 c34 c35 c36 c37 c38 : Value} (h : r = .agg #[c0, c1, c2, c3, c4, c5, c6, c7, c8, c9, c10, c11, c12, c13, c14, c15, c16, c17, c18, c19, c20, c21, c22, c23, c24, c25, c26, c27, c28, c29, c30, c31, c32, c33, c34, c35, c36, c37, c38]) : r = .agg #[c0, c1, c2, c3, c4, c5, c6, c7, c8, c9, c10, c11, c12, c13, c14, c15, c16, c17, c18, c19, c20, c21, c22, c23, c24, c25, c26, c27, c28, c29, c30, c31, c32, c33, c34, c35, c36, c37, c38] := h
end Go.Eng
/- The engine, part M: maps that the call has made, with int or string keys; conditions are the hypotheses of each law. -/
namespace Go.Eng

/-- how the keys of a map are encoded -/
structure KeyEnc (α : Type) [DecidableEq α] where
  kd : TypeDesc
  enc : α → Value
  same : ∀ a b, Instr.sameNow kd (enc a) (enc b) = some (decide (a = b))
  bits : ∀ a, Instr.sameBits 10000 (enc a) (enc a) = true
  plain : ∀ (P : Program) (w : World) (e : Bool) (t : TypeId) (a : α), P.underlying t = some kd → (Instr.checkKey e 10000 t (enc a)).run P w = .ok () w

def kInt : KeyEnc Int where
  kd := .int .i64
  enc a := .int .i64 a
  same a b := by simp [Instr.sameNow]; rfl
  bits a := by simp [Instr.sameBits]
  plain P w e t a h := by
    unfold Instr.checkKey
    simp [run_und h]

theorem beq_bytes (a b : ByteArray) : (a == b) = decide (a = b) := by
  rw [beq_toListBytes, bytes_beq]

def kStr : KeyEnc ByteArray where
  kd := .string
  enc a := .string a
  same a b := by simp only [Instr.sameNow, beq_bytes]
  bits a := by simp [Instr.sameBits, beq_bytes]
  plain P w e t a h := by
    unfold Instr.checkKey
    simp [run_und h]

section
variable {α : Type} [DecidableEq α] (K : KeyEnc α)

def entOf (x : α × Value × Nat) : MapEntry := { key := K.enc x.1, val := x.2.1, born := x.2.2 }
def lk (l : List (α × Value × Nat)) (a : α) : Option Value := (l.find? (fun x => decide (x.1 = a))).map (·.2.1)
/-- the entries are in order: no key twice, no stamp twice, no stamp from the future -/
structure MOk (l : List (α × Value × Nat)) (clock : Nat) : Prop where
  born : ∀ x ∈ l, x.2.2 < clock
  nd : (l.map (·.2.2)).Nodup
  keys : (l.map (·.1)).Nodup
def mapB (f : α → Option Value) : Obj → Prop := fun o => ∃ (l : List (α × Value × Nat)) (clock : Nat), o = .map (l.map (entOf K)).toArray clock ∧ (∀ a, lk l a = f a) ∧ MOk l clock
omit [DecidableEq α] in
theorem MOk.upd {l : List (α × Value × Nat)} {clock : Nat} (h : MOk l clock) (k : Nat) (v : Value) : MOk (l.modify k fun x => (x.1, v, x.2.2)) clock := by
  have e1 : (l.modify k fun x => (x.1, v, x.2.2)).map (·.2.2) = l.map (·.2.2) := by
    apply List.ext_getElem?
    intro i
    simp only [List.getElem?_map, List.getElem?_modify]
    by_cases hi : k = i <;> simp [hi] <;> cases l[i]? <;> rfl
  have e2 : (l.modify k fun x => (x.1, v, x.2.2)).map (·.1) = l.map (·.1) := by
    apply List.ext_getElem?
    intro i
    simp only [List.getElem?_map, List.getElem?_modify]
    by_cases hi : k = i <;> simp [hi] <;> cases l[i]? <;> rfl
  refine ⟨fun x hx => ?_, by rw [e1]; exact h.nd, by rw [e2]; exact h.keys⟩
  have : x.2.2 ∈ l.map (·.2.2) := by rw [← e1]; exact List.mem_map_of_mem hx
  obtain ⟨y, hy, e⟩ := List.mem_map.1 this
  rw [← e]
  exact h.born y hy
theorem MOk.push {l : List (α × Value × Nat)} {clock : Nat} (h : MOk l clock) {a : α} {v : Value} (hn : lk l a = none) : MOk (l ++ [(a, v, clock)]) (clock + 1) := by
  refine ⟨fun x hx => ?_, ?_, ?_⟩
  · rcases List.mem_append.1 hx with hx | hx
    · exact Nat.lt_succ_of_lt (h.born x hx)
    · rw [List.mem_singleton.1 hx]
      exact Nat.lt_succ_self _
  · rw [List.map_append, List.nodup_append]
    refine ⟨h.nd, by simp, ?_⟩
    intro x hx y hy e
    obtain ⟨z, hz, rfl⟩ := List.mem_map.1 hx
    have : y = clock := by simpa using hy
    have := h.born z hz
    omega
  · rw [List.map_append, List.nodup_append]
    refine ⟨h.keys, by simp, ?_⟩
    intro x hx y hy e
    obtain ⟨z, hz, rfl⟩ := List.mem_map.1 hx
    have hy : y = a := by simpa using hy
    subst hy
    unfold lk at hn
    rw [Option.map_eq_none_iff, List.find?_eq_none] at hn
    exact hn z hz (by simpa using e)

def fnd (a : α) : List (α × Value × Nat) → Nat → Option (Nat × Value)
  | [], _ => none
  | x :: l, i => if a = x.1 then some (i, x.2.1) else fnd a l (i + 1)

theorem findNow_eq (a : α) : ∀ (l : List (α × Value × Nat)) (i : Nat), Instr.findNow K.kd (K.enc a) (l.map (entOf K)) i = some (fnd a l i)
  | [], i => rfl
  | x :: l, i => by
    simp only [List.map_cons, Instr.findNow, entOf, K.same, fnd]
    by_cases h : a = x.1
    · simp [h]
    · simp only [h, decide_false, if_false]
      exact findNow_eq a l (i + 1)

theorem fnd_lk (a : α) : ∀ (l : List (α × Value × Nat)) (i : Nat), (fnd a l i).map (·.2) = lk l a
  | [], i => rfl
  | x :: l, i => by
    simp only [fnd, lk, List.find?_cons]
    by_cases h : a = x.1
    · simp [h]
    · have h' : ¬ x.1 = a := fun e => h e.symm
      simp only [h, h', if_false, decide_false]
      exact fnd_lk a l (i + 1)

theorem fnd_upd (a : α) (v : Value) : ∀ (l : List (α × Value × Nat)) (i : Nat) (j : Nat) (u : Value), fnd a l i = some (j, u) →
    ∃ k, j = i + k ∧ k < l.length ∧ (∃ x, l[k]? = some x ∧ x.1 = a) ∧ ∀ b, lk (l.modify k fun x => (x.1, v, x.2.2)) b = if b = a then some v else lk l b
  | [], i, j, u, h => by cases h
  | x :: l, i, j, u, h => by
    simp only [fnd] at h
    by_cases hx : a = x.1
    · rw [if_pos hx] at h
      cases h
      refine ⟨0, rfl, by simp, ⟨x, rfl, hx.symm⟩, fun b => ?_⟩
      simp only [List.modify_zero_cons, lk, List.find?_cons]
      by_cases hb : x.1 = b
      · have hba : b = a := by rw [hx, hb]
        simp [hb, hba]
      · have hba : ¬ b = a := by rw [hx]; exact fun e => hb e.symm
        simp [hb, hba]
    · rw [if_neg hx] at h
      obtain ⟨k, hj, hk, ⟨y, hy, hya⟩, hb⟩ := fnd_upd a v l (i + 1) j u h
      refine ⟨k + 1, by omega, by simp; omega, ⟨y, by simpa using hy, hya⟩, fun b => ?_⟩
      have := hb b
      simp only [lk, List.modify_succ_cons, List.find?_cons] at this ⊢
      by_cases hxb : x.1 = b
      · have hba : ¬ b = a := fun e => hx (by rw [← e, hxb])
        simp [hxb, hba]
      · simp only [hxb, decide_false]
        exact this

theorem lk_push (a : α) (v : Value) (c : Nat) (l : List (α × Value × Nat)) (h : lk l a = none) (b : α) : lk (l ++ [(a, v, c)]) b = if b = a then some v else lk l b := by
  unfold lk at *
  rw [List.find?_append]
  by_cases hb : b = a
  · subst hb
    rw [Option.map_eq_none_iff] at h
    simp [h]
  · rw [if_neg hb]
    cases hf : l.find? (fun x => decide (x.1 = b)) with
    | some y => simp
    | none =>
      have : ¬ a = b := fun e => hb e.symm
      simp [this]

variable {P : Program} {w0 w : World} {M : List Nat} {L : List Ent}

theorem run_findKey {t : TypeId} (ht : P.underlying t = some K.kd) (a : α) (l : List (α × Value × Nat)) : (Instr.findKey t (K.enc a) (l.map (entOf K))).run P w = .ok (fnd a l 0) w := by
  simp only [Instr.findKey, Sem.run_bind, run_und ht, Result.andThen_ok, findNow_eq]
  rfl

theorem run_look {mt kt et : TypeId} {z : Value} {b : Nat} {f : α → Option Value} {o : Obj} (hm : P.underlying mt = some (.map kt et)) (hk : P.underlying kt = some K.kd) (hz : TZero P et z) (hb : w.heap[b]? = some o) (ho : mapB K f o) (a : α) :
    (Instr.lookup mt (.map (some b)) (K.enc a) false).run P w = .ok ((f a).getD z) w := by
  obtain ⟨l, clock, rfl, hl, hok⟩ := ho
  have hg : (getObj b).run P w = .ok (.map (l.map (entOf K)).toArray clock) w := by simp [getObj, Sem.run, hb]
  simp only [Instr.lookup, Sem.run_bind, run_und hm, Result.andThen_ok, hg, K.plain P w _ kt a hk, Sem.run_pure, run_findKey K hk]
  rw [← hl a, ← fnd_lk a l 0]
  cases hf : fnd a l 0 with
  | none => simp [hz.run]
  | some y => simp

theorem run_look_ok {mt kt et : TypeId} {z : Value} {b : Nat} {f : α → Option Value} {o : Obj} (hm : P.underlying mt = some (.map kt et)) (hk : P.underlying kt = some K.kd) (hz : TZero P et z) (hb : w.heap[b]? = some o) (ho : mapB K f o) (a : α) :
    (Instr.lookup mt (.map (some b)) (K.enc a) true).run P w = .ok (.tuple #[(f a).getD z, .bool (f a).isSome]) w := by
  obtain ⟨l, clock, rfl, hl, hok⟩ := ho
  have hg : (getObj b).run P w = .ok (.map (l.map (entOf K)).toArray clock) w := by simp [getObj, Sem.run, hb]
  simp only [Instr.lookup, Sem.run_bind, run_und hm, Result.andThen_ok, hg, K.plain P w _ kt a hk, Sem.run_pure, run_findKey K hk]
  rw [← hl a, ← fnd_lk a l 0]
  cases hf : fnd a l 0 with
  | none => simp [hz.run]
  | some y => simp

theorem run_put {mt kt et : TypeId} {b : Nat} {f : α → Option Value} {o : Obj} (hm : P.underlying mt = some (.map kt et)) (hk : P.underlying kt = some K.kd) (hb : w.heap[b]? = some o) (ho : mapB K f o) (a : α) (v : Value) :
    ∃ w' o', (Instr.mapUpdate mt (.map (some b)) (K.enc a) v).run P w = .ok () w' ∧ Keeps [b] w w' ∧ w'.heap[b]? = some o' ∧ mapB K (fun x => if x = a then some v else f x) o' := by
  obtain ⟨l, clock, rfl, hl, hok⟩ := ho
  have hg : (getObj b).run P w = .ok (.map (l.map (entOf K)).toArray clock) w := by simp [getObj, Sem.run, hb]
  have hlt : b < w.heap.size := (Array.getElem?_eq_some_iff.1 hb).1
  have hset : ∀ o', (setObj b o').run P w = .ok () { w with heap := w.heap.setIfInBounds b o' } := by
    intro o'
    simp [setObj, Sem.run, hb]
  have hkeep : ∀ o', Keeps [b] w { w with heap := w.heap.setIfInBounds b o' } := fun o' => ⟨rfl, rfl, rfl, by simp, fun k _ hk' => by
    show (w.heap.setIfInBounds b o')[k]? = _
    rw [Array.getElem?_setIfInBounds, if_neg (by simp at hk'; omega)]⟩
  have hget : ∀ o', (w.heap.setIfInBounds b o')[b]? = some o' := fun o' => by simp [hlt]
  cases hf : fnd a l 0 with
  | none =>
    refine ⟨_, _, ?_, hkeep _, hget _, l ++ [(a, v, clock)], clock + 1, rfl, fun x => ?_, hok.push (by rw [← fnd_lk a l 0, hf]; rfl)⟩
    · simp only [Instr.mapUpdate, Sem.run_bind, run_und hm, Result.andThen_ok, hg, K.plain P w _ kt a hk, run_findKey K hk, hf, hset]
      simp [entOf]
    · rw [lk_push a v clock l (by rw [← fnd_lk a l 0, hf]; rfl), hl x]
  | some y =>
    obtain ⟨j, u⟩ := y
    obtain ⟨k, hj, hk', ⟨x, hx, hxa⟩, hlk⟩ := fnd_upd a v l 0 j u hf
    have hjk : j = k := by omega
    subst hjk
    refine ⟨_, _, ?_, hkeep _, hget _, l.modify j fun x => (x.1, v, x.2.2), clock, rfl, fun x => ?_, hok.upd _ _⟩
    · have hkey : (((l.map (entOf K)).toArray[j]?).map (·.key)).getD (K.enc a) = K.enc a := by
        simp [hx, entOf, hxa]
      simp only [Instr.mapUpdate, Sem.run_bind, run_und hm, Result.andThen_ok, hg, K.plain P w _ kt a hk, run_findKey K hk, hf, hkey, Instr.keyThatStays, K.bits, if_true, Sem.run_pure, hset]
      congr 3
      congr 1
      apply Array.ext_getElem?
      intro i
      simp only [Array.getElem?_modify, List.getElem?_toArray, List.getElem?_map, List.getElem?_modify]
      by_cases hij : j = i
      · subst hij
        simp [hx, entOf, hxa]
      · simp [hij]
    · rw [hlk x, hl x]

end

section
variable {α : Type} [DecidableEq α] {K : KeyEnc α} {P : Program} {n : FrK} {w0 w : World} {M : List Nat} {L : List Ent} {F : Fr} {d : Option Tmp} {ty : TypeId} {pos : String} {aft : Array Edge} {g : Option (Nat × Bool)} {x y z : Operand}

def mapE (K : KeyEnc α) (b : Nat) (f : α → Option Value) : Ent := (some b, mapB K f)

theorem pv_lookup {mt kt et : TypeId} {zv : Value} {b : Nat} {f : α → Option Value} {a : α} (hp : Hp w0 M w L) (i : Nat) (hi : L[i]? = some (mapE K b f)) (hx : ev n F x = .map (some b)) (hy : ev n F y = K.enc a)
    (hm : P.underlying mt = some (.map kt et)) (hk : P.underlying kt = some K.kd) (hz : TZero P et zv) : PV P n w F ⟨d, .lookup mt x y false, ty, pos, aft, g⟩ ((f a).getD zv) := by
  obtain ⟨o, ho, hf⟩ := hp.has i _ hi b rfl
  simp [PV, execOp, hx, hy, run_look K hm hk hz ho hf a]

theorem pv_lookup_ok {mt kt et : TypeId} {zv : Value} {b : Nat} {f : α → Option Value} {a : α} (hp : Hp w0 M w L) (i : Nat) (hi : L[i]? = some (mapE K b f)) (hx : ev n F x = .map (some b)) (hy : ev n F y = K.enc a)
    (hm : P.underlying mt = some (.map kt et)) (hk : P.underlying kt = some K.kd) (hz : TZero P et zv) : PV P n w F ⟨d, .lookup mt x y true, ty, pos, aft, g⟩ (.tuple #[(f a).getD zv, .bool (f a).isSome]) := by
  obtain ⟨o, ho, hf⟩ := hp.has i _ hi b rfl
  simp [PV, execOp, hx, hy, run_look_ok K hm hk hz ho hf a]

theorem st_mapput {mt kt et : TypeId} {b : Nat} {f : α → Option Value} {a : α} {v : Value} (hp : Hp w0 M w L) (i : Nat) (hi : L[i]? = some (mapE K b f)) (hx : ev n F x = .map (some b)) (hy : ev n F y = K.enc a) (hv : ev n F z = v)
    (hm : P.underlying mt = some (.map kt et)) (hk : P.underlying kt = some K.kd) :
    StepF P n ⟨d, .mapUpdate mt x y z, ty, pos, aft, g⟩ F w (fun u w' => u = undef ∧ Hp w0 M w' (L.set i (mapE K b (fun x => if x = a then some v else f x)))) := by
  obtain ⟨o, ho, hf⟩ := hp.has i _ hi b rfl
  obtain ⟨w', o', hr, hk', hb', hf'⟩ := run_put (P := P) K hm hk ho hf a v
  refine stepF_skip (w' := w') ?_ ⟨rfl, hp.upd hi (by simpa [mapE] using hk') ?_⟩
  · simp [execOp, hx, hy, hv, hr]
  · intro b1 hb1
    have : b1 = b := by simpa [mapE, eq_comm] using hb1
    subst this
    exact ⟨.inl rfl, o', hb', hf'⟩

theorem st_makemap {mt : TypeId} (K : KeyEnc α) (hp : Hp w0 M w L) :
    StepF P n ⟨d, .makeMap mt none, ty, pos, aft, g⟩ F w (fun u w' => ∃ b, u = .map (some b) ∧ Hp w0 M w' (mapE K b (fun _ => none) :: L)) := by
  refine stepF_val (v := .map (some w.heap.size)) (w' := w.alloc (.map #[] 0)) ?_ ⟨_, rfl, hp.alloc _ ?_⟩
  · simp [execOp, Instr.makeMap, newObj, Sem.run]
  · exact ⟨[], 0, rfl, fun a => rfl, by simp, by simp, by simp⟩

/-- a set: a map to true -/
def setF (S : α → Bool) : α → Option Value := fun a => if S a = true then some (.bool true) else none
omit [DecidableEq α] in
theorem setF_get (S : α → Bool) (a : α) : (setF S a).getD (.bool false) = .bool (S a) := by
  unfold setF
  cases S a <;> rfl
omit [DecidableEq α] in
theorem setF_none (S : α → Bool) (h : ∀ a, S a = false) : setF S = fun _ => none := by
  funext a
  simp [setF, h a]
theorem setF_put (S : α → Bool) (a : α) : (fun x => if x = a then some (.bool true) else setF S x) = setF (fun x => decide (x = a) || S x) := by
  funext x
  unfold setF
  by_cases h : x = a <;> simp [h]
theorem st_setadd {mt kt et : TypeId} {b : Nat} {S : α → Bool} {a : α} (hp : Hp w0 M w L) (i : Nat) (hi : L[i]? = some (mapE K b (setF S))) (hx : ev n F x = .map (some b)) (hy : ev n F y = K.enc a) (hv : ev n F z = .bool true)
    (hm : P.underlying mt = some (.map kt et)) (hk : P.underlying kt = some K.kd) :
    StepF P n ⟨d, .mapUpdate mt x y z, ty, pos, aft, g⟩ F w (fun u w' => u = undef ∧ Hp w0 M w' (L.set i (mapE K b (setF (fun x => decide (x = a) || S x))))) := by
  rw [← setF_put]
  exact st_mapput hp i hi hx hy hv hm hk
end
/-! ### a range over a map that stays as it is -/
section
variable {α : Type} [DecidableEq α] {K : KeyEnc α} {P : Program} {n : FrK} {w0 w : World} {M : List Nat} {L : List Ent} {F : Fr} {d : Option Tmp} {ty : TypeId} {pos : String} {aft : Array Edge} {g : Option (Nat × Bool)} {x y z : Operand}
/-- a map whose entries have names -/
def mapX (K : KeyEnc α) (b : Nat) (l : List (α × Value × Nat)) (clock : Nat) : Ent := (some b, fun o => o = .map (l.map (entOf K)).toArray clock)
/-- its iterator; seen: the stamps that are done -/
def iterE (r b since : Nat) (seen : Array Nat) : Ent := (some r, fun o => o = .mapIter (some b) since seen since)
theorem mapX_E {b : Nat} {l : List (α × Value × Nat)} {clock : Nat} {f : α → Option Value} (hl : ∀ a, lk l a = f a) (hok : MOk l clock) (o : Obj) (h : (mapX K b l clock).2 o) : mapB K f o := ⟨l, clock, h, hl, hok⟩
theorem mapX_B {b : Nat} {l : List (α × Value × Nat)} {clock : Nat} (hok : MOk l clock) (hp : Hp w0 M w L) (i : Nat) (hi : L[i]? = some (mapX K b l clock)) : Hp w0 M w (L.set i (mapE K b (lk l))) :=
  hp.weak hi (fun o h => mapX_E (fun _ => rfl) hok o h)
theorem st_range {mt kt et : TypeId} {b : Nat} {f : α → Option Value} (hp : Hp w0 M w L) (i : Nat) (hi : L[i]? = some (mapE K b f)) (hx : ev n F x = .map (some b)) (hm : P.underlying mt = some (.map kt et)) :
    StepF P n ⟨d, .range mt x, ty, pos, aft, g⟩ F w (fun u w' => ∃ r l clock, u = .pointer (some ⟨r, 0, none⟩) ∧ (∀ a, lk l a = f a) ∧ MOk l clock ∧ Hp w0 M w' (iterE r b clock #[] :: L.set i (mapX K b l clock))) := by
  obtain ⟨o, ho, l, clock, rfl, hl, hok⟩ := hp.has i _ hi b rfl
  have hp2 : Hp w0 M w (L.set i (mapX K b l clock)) := by
    refine hp.upd hi (w' := w) .refl ?_
    intro b' hb'
    have : b' = b := by simpa [mapX, eq_comm] using hb'
    subst this
    exact ⟨.inl rfl, _, ho, rfl⟩
  refine stepF_val (v := .pointer (some ⟨w.heap.size, 0, none⟩)) (w' := w.alloc (.mapIter (some b) clock #[] clock)) ?_ ⟨_, l, clock, rfl, hl, hok, hp2.alloc _ rfl⟩
  simp [execOp, hx, run_range_map w mt kt et b _ clock hm ho]

theorem leftOf_mem {l : List (α × Value × Nat)} {seen : Array Nat} {e : MapEntry} (h : e ∈ (leftOf (l.map (entOf K)).toArray seen).toList) : ∃ x ∈ l, e = entOf K x ∧ x.2.2 ∉ seen := by
  unfold leftOf at h
  simp only [Array.mem_toList_iff, Array.mem_filter, List.mem_toArray, List.mem_map] at h
  obtain ⟨⟨x, hx, rfl⟩, h2⟩ := h
  refine ⟨x, hx, rfl, ?_⟩
  simpa [entOf] using h2
theorem leftOf_nil {l : List (α × Value × Nat)} {seen : Array Nat} (h : (leftOf (l.map (entOf K)).toArray seen).size = 0) : ∀ x ∈ l, x.2.2 ∈ seen := by
  intro x hx
  have h := Array.eq_empty_of_size_eq_zero h
  unfold leftOf at h
  rw [Array.filter_eq_empty_iff] at h
  have := h (entOf K x) (by simp only [List.mem_toArray, List.mem_map]; exact ⟨x, hx, rfl⟩)
  simpa [entOf] using this
theorem st_next {b r clock : Nat} {seen : Array Nat} {l : List (α × Value × Nat)} (hp : Hp w0 M w L) (i j : Nat) (hi : L[i]? = some (iterE r b clock seen)) (hj : L[j]? = some (mapX K b l clock)) (hok : MOk l clock) (hx : ev n F x = .pointer (some ⟨r, 0, none⟩)) :
    StepF P n ⟨d, .next x false, ty, pos, aft, g⟩ F w (fun u w' => (u = .tuple #[.bool false] ∧ (∀ x ∈ l, x.2.2 ∈ seen) ∧ Hp w0 M w' L) ∨ ∃ q ∈ l, q.2.2 ∉ seen ∧ u = .tuple #[.bool true, K.enc q.1, q.2.1] ∧ Hp w0 M w' (L.set i (iterE r b clock (seen.push q.2.2)))) := by
  obtain ⟨o, ho, hc⟩ := hp.has i _ hi r rfl
  have hc : o = .mapIter (some b) clock seen clock := hc
  subst hc
  obtain ⟨o2, ho2, hm⟩ := hp.has j _ hj b rfl
  have hm : o2 = .map (l.map (entOf K)).toArray clock := hm
  subst hm
  have hold : ∀ x ∈ (l.map (entOf K)).toArray.toList, x.born < clock := by
    intro e he
    simp only [List.mem_map] at he
    obtain ⟨q, hq, rfl⟩ := he
    exact hok.born q hq
  rcases run_next_at (P := P) w ty r b clock clock seen _ clock ho ho2 hold (Nat.le_refl _) with ⟨h0, hr⟩ | ⟨e, he, w1, hw1, hr⟩
  · refine stepF_val (v := .tuple #[.bool false]) (w' := w) ?_ (.inl ⟨rfl, leftOf_nil h0, hp⟩)
    simp [execOp, hx, hr]
  · obtain ⟨q, hq, rfl, hs⟩ := leftOf_mem he
    refine stepF_val (v := .tuple #[.bool true, K.enc q.1, q.2.1]) (w' := Go.ChangeMaps.setBlock w1 r (.mapIter (some b) clock (seen.push q.2.2) clock)) ?_ (.inr ⟨q, hq, hs, rfl, ?_⟩)
    · simp [execOp, hx, hr, entOf]
    · have hp1 : Hp w0 M w1 L := by
        rcases hw1 with rfl | rfl
        · exact hp
        · exact hp.drew
      have hlt : r < w1.heap.size := hp1.lt hi rfl
      refine hp1.upd hi (w' := Go.ChangeMaps.setBlock w1 r (.mapIter (some b) clock (seen.push q.2.2) clock)) ⟨rfl, rfl, rfl, by simp [Go.ChangeMaps.setBlock], fun k _ hk => ?_⟩ ?_
      · have hk : ¬ r = k := by
          intro e
          exact hk (by rw [← e]; simp [iterE])
        simp only [Go.ChangeMaps.setBlock]
        rw [Array.getElem?_setIfInBounds, if_neg hk]
      · intro b1 hb1
        have : b1 = r := by simpa [iterE, eq_comm] using hb1
        subst this
        refine ⟨.inl rfl, _, ?_, rfl⟩
        simp [Go.ChangeMaps.setBlock, hlt]
theorem pv_entry {b r clock : Nat} {seen : Array Nat} {l : List (α × Value × Nat)} {q : α × Value × Nat} (hp : Hp w0 M w L) (i j : Nat) (hi : L[i]? = some (iterE r b clock (seen.push q.2.2))) (hj : L[j]? = some (mapX K b l clock)) (hok : MOk l clock) (hq : q ∈ l) (hx : ev n F x = .pointer (some ⟨r, 0, none⟩)) :
    PV P n w F ⟨d, .entry x, ty, pos, aft, g⟩ (.tuple #[K.enc q.1, q.2.1]) := by
  obtain ⟨o, ho, hc⟩ := hp.has i _ hi r rfl
  have hc : o = .mapIter (some b) clock (seen.push q.2.2) clock := hc
  subst hc
  obtain ⟨o2, ho2, hm⟩ := hp.has j _ hj b rfl
  have hm : o2 = .map (l.map (entOf K)).toArray clock := hm
  subst hm
  have hr := run_entry_at (P := P) w r b clock seen _ clock (entOf K q) ho ho2 (by simp only [List.mem_map]; exact ⟨q, hq, rfl⟩) (by
    have : ((l.map (entOf K)).toArray.toList.map (·.born)) = l.map (·.2.2) := by
      rw [List.map_map]
      rfl
    rw [this]
    exact hok.nd)
  simp [PV, execOp, hx, hr, entOf]
/-- how many entries are left -/
def leftN (l : List (α × Value × Nat)) (seen : Array Nat) : Nat := (l.filter fun x => !decide (x.2.2 ∈ seen)).length
omit [DecidableEq α] in
theorem leftN_push {l : List (α × Value × Nat)} {seen : Array Nat} {q : α × Value × Nat} (hq : q ∈ l) (hs : q.2.2 ∉ seen) : leftN l (seen.push q.2.2) < leftN l seen := by
  unfold leftN
  have h1 : (l.filter fun x => !decide (x.2.2 ∈ seen.push q.2.2)) = ((l.filter fun x => !decide (x.2.2 ∈ seen)).filter fun x => !decide (x.2.2 = q.2.2)) := by
    rw [List.filter_filter]
    apply List.filter_congr
    intro x _
    simp only [Array.mem_push]
    by_cases h1 : x.2.2 ∈ seen <;> by_cases h2 : x.2.2 = q.2.2 <;> simp [h1, h2]
  rw [h1]
  have hm : q ∈ l.filter fun x => !decide (x.2.2 ∈ seen) := by
    rw [List.mem_filter]
    exact ⟨hq, by simp [hs]⟩
  generalize (l.filter fun x => !decide (x.2.2 ∈ seen)) = T at hm
  have : ¬ (T.filter fun x => !decide (x.2.2 = q.2.2)).length = T.length := by
    rw [List.length_filter_eq_length_iff]
    intro h
    have := h q hm
    simp at this
  have := List.length_filter_le (fun x => !decide (x.2.2 = q.2.2)) T
  omega
end
end Go.Eng
/- The engine, part F: struct and slice literals, append onto a slice of the call's own; conditions are the hypotheses of each law. -/
namespace Go.Eng

/-! ### literals -/
def setL (cs : List Value) (o : Nat) : List Value → List Value
  | [] => cs
  | v :: vs => setL (cs.set o v) (o + 1) vs
theorem setL_length : ∀ (vs cs : List Value) (o : Nat), (setL cs o vs).length = cs.length
  | [], _, _ => rfl
  | v :: vs, cs, o => by simp [setL, setL_length vs]
theorem zipIdx_set : ∀ (vs cs : List Value) (o k : Nat), (vs.zipIdx k).foldl (fun (a : Array Value) (x : Value × Nat) => a.setIfInBounds (o + x.2) x.1) cs.toArray = (setL cs (o + k) vs).toArray
  | [], _, _, _ => rfl
  | v :: vs, cs, o, k => by
    simp only [List.zipIdx_cons, List.foldl_cons, setL]
    have h : (cs.toArray).setIfInBounds (o + k) v = (cs.set (o + k) v).toArray := by simp
    rw [h, zipIdx_set vs _ o (k + 1)]
    rfl

def fillL (sz : Nat) (cs : List Value) : List (Nat × Value) → List Value
  | [] => cs
  | (i, v) :: ps => fillL sz (setL cs (i * sz) v.cells.toList) ps

theorem fill_eq (place : Nat → Option (Nat × Nat)) (sz k : Nat) (hpl : ∀ i, i < k → place i = some (i * sz, sz)) : ∀ (ps : List (Nat × Value)) (cs : List Value), cs.length = k * sz →
    (ps.all fun p => Nat.blt p.1 k && Nat.beq p.2.cells.size sz) = true → Instr.fill place cs.toArray ps = some (fillL sz cs ps).toArray
  | [], cs, _, _ => rfl
  | (i, v) :: ps, cs, hl, h => by
    simp only [List.all_cons, Bool.and_eq_true] at h
    obtain ⟨⟨h1, h2⟩, h3⟩ := h
    have hi := lt_of_nblt h1
    have hs : v.cells.size = sz := Nat.eq_of_beq_eq_true h2
    have hle : i * sz + sz ≤ k * sz := by
      rw [← Nat.succ_mul]
      exact Nat.mul_le_mul_right sz hi
    have hz : v.cells.zipIdx.foldl (fun cs (x : Value × Nat) => cs.setIfInBounds (i * sz + x.2) x.1) cs.toArray = (setL cs (i * sz) v.cells.toList).toArray := by
      rw [← Array.foldl_toList, Array.toList_zipIdx]
      have := zipIdx_set v.cells.toList cs (i * sz) 0
      simpa using this
    simp only [Instr.fill, hpl i hi]
    rw [if_neg (by simp [hs, hl]; omega)]
    rw [hz]
    exact fill_eq place sz k hpl ps _ (by rw [setL_length]; exact hl) h3

/-- a struct all of whose fields have one cell -/
def FlatAt (P : Program) (t k : Nat) : Prop := ∃ fs, P.underlying t = some (.struct fs) ∧ ∀ w, ∃ pl : Array (Nat × Nat), (fs.mapM (fun f => do pure (f.offset, ← sizeOf f.type) : Field → Sem (Nat × Nat))).run P w = .ok pl w ∧ ∀ i, i < k → pl[i]? = some (i * 1, 1)

section
variable {P : Program} {n : FrK} {w0 w : World} {M : List Nat} {L : List Ent} {F : Fr} {d : Option Tmp} {ty : TypeId} {pos : String} {aft : Array Edge} {g : Option (Nat × Bool)} {x y : Operand}

theorem map_parts (n : FrK) (F : Fr) (ps : Array (Nat × Operand)) : (ps.map fun (i, x) => (i, ev n F x)).toList = ps.toList.map fun p => (p.1, ev n F p.2) := by
  cases ps; simp

theorem pv_build_s {t : TypeId} {k : Nat} {ps : Array (Nat × Operand)} {zs : List Value} (hf : FlatAt P t k) (hz : TZero P t (.agg zs.toArray)) (hl : zs.length = k)
    (hall : ((ps.toList.map fun p => (p.1, ev n F p.2)).all fun p => Nat.blt p.1 k && Nat.beq p.2.cells.size 1) = true) :
    PV P n w F ⟨d, .build t ps, ty, pos, aft, g⟩ (.agg (fillL 1 zs (ps.toList.map fun p => (p.1, ev n F p.2))).toArray) := by
  obtain ⟨fs, ht, hw⟩ := hf
  obtain ⟨pl, hpl, hp⟩ := hw w
  have hfill := fill_eq (pl[·]?) 1 k hp _ zs (by omega) hall
  simp only [PV, execOp, Instr.build, Sem.run_bind, hz.run, Result.andThen_ok, run_und ht, hpl, Value.cells, map_parts, hfill]
  rfl

theorem pv_build_a {t e : TypeId} {k sz : Nat} {ps : Array (Nat × Operand)} {zs : List Value} (ht : P.underlying t = some (.array k e)) (hs : TSize P e sz) (hz : TZero P t (.agg zs.toArray)) (hl : zs.length = k * sz)
    (hall : ((ps.toList.map fun p => (p.1, ev n F p.2)).all fun p => Nat.blt p.1 k && Nat.beq p.2.cells.size sz) = true) :
    PV P n w F ⟨d, .build t ps, ty, pos, aft, g⟩ (.agg (fillL sz zs (ps.toList.map fun p => (p.1, ev n F p.2))).toArray) := by
  have hfill := fill_eq (fun i => some (i * sz, sz)) sz k (fun _ _ => rfl) _ zs hl hall
  simp only [PV, execOp, Instr.build, Sem.run_bind, hz.run, Result.andThen_ok, run_und ht, hs.run, Value.cells, map_parts, hfill]
  rfl

theorem setL_mid : ∀ (vs pre rest : List Value), vs.length ≤ rest.length → setL (pre ++ rest) pre.length vs = pre ++ vs ++ rest.drop vs.length
  | [], pre, rest, _ => by simp [setL]
  | v :: vs, pre, [], h => by simp at h
  | v :: vs, pre, r :: rest, h => by
    simp only [setL]
    have h1 : (pre ++ r :: rest).set pre.length v = (pre ++ [v]) ++ rest := by
      rw [List.set_append_right _ _ (Nat.le_refl _)]
      simp
    have := setL_mid vs (pre ++ [v]) rest (by simpa using h)
    rw [h1]
    simp only [List.length_append, List.length_cons, List.length_nil] at this
    rw [this]
    simp

/-- the parts in their order -/
def ordered (sz : Nat) : Nat → List (Nat × Value) → Bool
  | _, [] => true
  | i, (j, v) :: ps => Nat.beq j i && Nat.beq v.cells.size sz && ordered sz (i + 1) ps

theorem fillL_ord (sz : Nat) : ∀ (ps : List (Nat × Value)) (i : Nat) (pre rest : List Value), ordered sz i ps = true → pre.length = i * sz → rest.length = ps.length * sz →
    fillL sz (pre ++ rest) ps = pre ++ ps.flatMap (fun p => p.2.cells.toList)
  | [], i, pre, rest, _, _, h => by
    have : rest = [] := List.eq_nil_of_length_eq_zero (by simpa using h)
    simp [fillL, this]
  | (j, v) :: ps, i, pre, rest, ho, hp, hr => by
    simp only [ordered, Bool.and_eq_true] at ho
    obtain ⟨⟨h1, h2⟩, h3⟩ := ho
    have hj : j = i := Nat.eq_of_beq_eq_true h1
    have hs : v.cells.size = sz := Nat.eq_of_beq_eq_true h2
    subst hj
    have hlen : v.cells.toList.length = sz := by simpa using hs
    have hr' : rest.length = ps.length * sz + sz := by rw [hr, List.length_cons, Nat.succ_mul]
    simp only [fillL]
    rw [← hp, setL_mid _ _ _ (by rw [hlen, hr']; omega)]
    rw [fillL_ord sz ps (j + 1) (pre ++ v.cells.toList) (rest.drop v.cells.toList.length) h3 (by rw [List.length_append, hlen, hp, Nat.succ_mul]) (by rw [List.length_drop, hlen, hr']; omega)]
    simp

theorem ordered_all (sz k : Nat) : ∀ (ps : List (Nat × Value)) (i : Nat), ordered sz i ps = true → i + ps.length ≤ k → (ps.all fun p => Nat.blt p.1 k && Nat.beq p.2.cells.size sz) = true
  | [], _, _, _ => rfl
  | (j, v) :: ps, i, ho, hl => by
    simp only [ordered, Bool.and_eq_true] at ho
    obtain ⟨⟨h1, h2⟩, h3⟩ := ho
    have hj : j = i := Nat.eq_of_beq_eq_true h1
    simp only [List.length_cons] at hl
    simp only [List.all_cons, Bool.and_eq_true]
    exact ⟨⟨nblt_true (by omega), h2⟩, ordered_all sz k ps (i + 1) h3 (by omega)⟩

/-- a slice literal -/
theorem st_buildSlice {t e : TypeId} {sz k : Nat} {ps : Array (Nat × Operand)} {z : Value} {vs : List (Nat × Value)} {cs : List Value} (hp : Hp w0 M w L) (ht : P.underlying t = some (.slice e)) (hs : TSize P e sz) (hz : TZero P e z)
    (hvs : (ps.toList.map fun p => (p.1, ev n F p.2)) = vs) (ho : ordered sz 0 vs = true) (hk : vs.length = k) (hcs : vs.flatMap (fun p => p.2.cells.toList) = cs) (hsm : k * sz ≤ 16777216) :
    StepF P n ⟨d, .buildSlice t k ps, ty, pos, aft, g⟩ F w (fun u w' => ∃ b, u = .slice (some ⟨b, 0, none⟩) k k ∧ Hp w0 M w' (blk b cs.length (frOf cs) e :: L)) := by
  subst hvs
  obtain ⟨zs, hzs⟩ : ∃ zs : List Value, zs = (Array.range (k * sz)).toList.map (z.cells[· % z.cells.size]!) := ⟨_, rfl⟩
  have hzl : zs.length = k * sz := by rw [hzs]; simp
  have hfill := fill_eq (fun i => some (i * sz, sz)) sz k (fun _ _ => rfl) _ zs hzl (ordered_all sz k _ 0 ho (by omega))
  have hord := fillL_ord sz (ps.toList.map fun p => (p.1, ev n F p.2)) 0 [] zs ho (by simp) (by rw [hzl, hk])
  simp only [List.nil_append] at hord
  rw [hord, hcs] at hfill
  refine stepF_val (v := .slice (some ⟨w.heap.size, 0, none⟩) k k) (w' := w.alloc (.cells cs.toArray e)) ?_ ⟨_, rfl, hp.alloc _ ?_⟩
  · have hbig : ¬ k * sz > 2 ^ 24 := by
      have : (2 : Nat) ^ 24 = 16777216 := rfl
      omega
    by_cases h0 : k * sz = 0
    · have hzn : zs = [] := List.eq_nil_of_length_eq_zero (by omega)
      rw [hzn] at hfill
      have hcsn : Array.map (fun x => (#[] : Array Value)[x % (#[] : Array Value).size]!) (Array.range (k * sz)) = (#[] : Array Value) := by rw [h0]; simp
      simp only [execOp, Instr.buildSlice, Sem.run_bind, run_und ht, Result.andThen_ok, hs.run, if_neg hbig, if_pos h0, Sem.run_pure, map_parts]
      rw [hcsn]
      simp [newRow, newObj, Sem.run, hfill]
    · have hzz : Array.map (fun x => z.cells[x % z.cells.size]!) (Array.range (k * sz)) = zs.toArray := by
        rw [hzs]
        apply Array.ext'
        simp
      simp only [execOp, Instr.buildSlice, Sem.run_bind, run_und ht, Result.andThen_ok, hs.run, if_neg hbig, if_neg h0, hz.run, Sem.run_pure, map_parts]
      rw [hzz]
      simp [newRow, newObj, Sem.run, hfill]
  · show _ = _
    rw [frOf_arr]
end

/-! ### slices that the call owns -/
/-- the block of a slice: its first n elements are xs -/
def rowB (e size cap n : Nat) (xs : List Value) : Obj → Prop := fun o => ∃ cur, o = .cells cur e (0, 0) ∧ cur.size = cap * size ∧ cur.toList.take (n * size) = xs
def scap : Value → Nat
  | .slice _ _ c => c
  | _ => 0
def ownE (v : Value) (e size n : Nat) (xs : List Value) : Ent := (v.ownBlock, rowB e size (scap v) n xs)
def SV (v : Value) (n : Nat) : Prop := (v = .slice none 0 0 ∧ n = 0) ∨ ∃ g cap, v = .slice (some ⟨g, 0, none⟩) n cap ∧ n ≤ cap ∧ cap ≤ maxLen

theorem SV.nil : SV (.slice none 0 0) 0 := .inl ⟨rfl, rfl⟩
theorem SV.ex {v : Value} {n : Nat} (h : SV v n) : ∃ s c, v = .slice s n c := by
  rcases h with ⟨rfl, rfl⟩ | ⟨g, cap, rfl, _⟩
  · exact ⟨_, _, rfl⟩
  · exact ⟨_, _, rfl⟩

section
variable {w0 w w' : World} {M : List Nat} {L : List Ent} {v : Value} {e size n : Nat} {xs : List Value}

theorem Hp.addNil (h : Hp w0 M w L) (φ : Obj → Prop) : Hp w0 M w ((none, φ) :: L) := h.add .refl (by simp)

theorem Hp.owns (h : Hp w0 M w L) {i : Nat} (hi : L[i]? = some (ownE v e size n xs)) (hv : SV v n) (hl : xs.length = n * size) : w.ownsRow 0 e size v n xs := by
  refine ⟨hl, ?_⟩
  rcases hv with ⟨rfl, rfl⟩ | ⟨g, cap, rfl, h1, h2⟩
  · exact .inl ⟨rfl, rfl⟩
  · obtain ⟨o, ho, cur, rfl, hsz, htk⟩ := h.has i _ hi g rfl
    exact .inr ⟨g, cap, cur, rfl, Nat.zero_le _, ho, h1, h2, hsz, htk⟩

/-- a cell of an owned slice -/
theorem Hp.own_cell (h : Hp w0 M w L) {i g cap j : Nat} {u : Value} (hi : L[i]? = some (ownE (.slice (some ⟨g, 0, none⟩) n cap) e size n xs)) (hj : xs[j]? = some u) : w.cell? ⟨g, 0 + j, none⟩ = some u := by
  obtain ⟨o, ho, cur, rfl, _, htk⟩ := h.has i _ hi g rfl
  rw [← htk, List.getElem?_take] at hj
  split at hj
  · simpa [World.cell?, ho] using hj
  · cases hj
end

section
variable {P : Program} {n : FrK} {w0 w : World} {M : List Nat} {L : List Ent} {F : Fr} {d : Option Tmp} {ty : TypeId} {pos : String} {aft : Array Edge} {g : Option (Nat × Bool)} {x y : Operand}

/-- append onto a slice that the call owns; the source is any slice -/
theorem st_append {t e : TypeId} {size by_ : Nat} {z v : Value} {m k c : Nat} {xs news : List Value} {s : Option Addr} (hp : Hp w0 M w L) (i : Nat) (ht : P.underlying t = some (.slice e)) (hs : TSize P e size) (hby : TBytes P e by_) (hz : TZero P e z)
    (hzs : z.cells.size = size) (hpos : 0 < size) (hx : ev n F x = v) (hy : ev n F y = .slice s k c) (hi : L[i]? = some (ownE v e size m xs)) (hv : SV v m) (hl : xs.length = m * size) (hn : news.length = k * size)
    (hsrc : ∀ (j : Nat) (u : Value), news[j]? = some u → ∃ b o, s = some ⟨b, o, none⟩ ∧ w.cell? ⟨b, o + j, none⟩ = some u) (h1 : ∀ u ∈ news, oneV u = true)
    (hb1 : m + k ≤ maxLen) (hb2 : (m + k) * by_ ≤ 140737488355328) :
    StepF P n ⟨d, .call ⟨.builtin .append, #[x, y], #[t, t]⟩, ty, pos, aft, g⟩ F w (fun u w' => SV u (m + k) ∧ Hp w0 M w' (L.set i (ownE u e size (m + k) (xs ++ news)))) := by
  obtain ⟨inf, hinf, hib⟩ := hby.ex
  have his : inf.size = size := by
    unfold TSize at hs
    simpa [hinf] using hs
  have hiz : inf.zero = some z := by
    unfold TZero at hz
    simpa [hinf] using hz
  have hone : ∀ u ∈ news, u.oneCell' = true := by
    intro u hu
    have := h1 u hu
    cases u <;> first | rfl | (cases this)
  have howns := hp.owns hi hv hl
  by_cases hk : k = 0
  · subst hk
    have hnn : news = [] := List.eq_nil_of_length_eq_zero (by simpa using hn)
    subst hnn
    have hrun : (Builtin.append_ #[t, t] ty #[v, .slice s 0 c]).run P w = .ok v w := by
      rcases hv with ⟨rfl, rfl⟩ | ⟨gb, cap, rfl, h2, h3⟩
      · cases s <;> simp [Builtin.append_, run_und ht, hs.run, Builtin.lenOf, Builtin.firstCells, loadCells, loadCellsFrom]
      · cases s <;> simp [Builtin.append_, run_und ht, hs.run, Builtin.lenOf, Builtin.firstCells, loadCells, loadCellsFrom, h2, storeCells]
    refine stepF_val (v := v) (w' := w) ?_ ⟨by simpa using hv, ?_⟩
    · simp only [execOp, resolve, Sem.run_bind, Sem.run_pure, Result.andThen_ok, invoke, builtin]
      simp [hx, hy, hrun]
    · have : L.set i (ownE v e size (m + 0) (xs ++ [])) = L := by
        simp only [Nat.add_zero, List.append_nil]
        apply List.ext_getElem?
        intro j
        rw [List.getElem?_set]
        by_cases hij : i = j
        · subst hij
          have hlt := (List.getElem?_eq_some_iff.1 hi).1
          rw [if_pos rfl, if_pos hlt, hi]
        · rw [if_neg hij]
      rw [this]
      exact hp
  · have hnl : 0 < news.length := by rw [hn]; exact Nat.mul_pos (by omega) hpos
    obtain ⟨b, o, hsa, _⟩ := hsrc 0 news[0] (List.getElem?_eq_getElem hnl)
    subst hsa
    have hcells : ∀ (j : Nat) (u : Value), news[j]? = some u → w.cell? ((⟨b, o, none⟩ : Addr).add j) = some u := by
      intro j u hu
      obtain ⟨b', o', e1, e2⟩ := hsrc j u hu
      cases e1
      rw [addr_add]
      exact e2
    obtain ⟨v', w', hrun, hown', hgrow, _⟩ := run_append_own (P := P) w 0 t ty e inf z size by_ ht hinf hiz his hib hzs hpos v m xs howns ⟨b, o, none⟩ k c news hn hcells hone hb1 hb2 (Nat.zero_le _)
    refine stepF_val (v := v') (w' := w') ?_ ⟨?_, hp.upd hi ?_ ?_⟩
    · simp only [execOp, resolve, Sem.run_bind, Sem.run_pure, Result.andThen_ok, invoke, builtin]
      simp [hx, hy, hrun]
    · rcases hown'.2 with ⟨h2, h3⟩ | ⟨g2, cap, cur, h2, _, _, h4, h5, _⟩
      · exact .inl ⟨h2, h3⟩
      · exact .inr ⟨g2, cap, h2, h4, h5⟩
    · refine ⟨hgrow.os, hgrow.tape, hgrow.output, hgrow.size, fun q hq hm => hgrow.block q hq ?_⟩
      intro e1
      apply hm
      simp only [ownE]
      rw [← e1]
      simp
    · intro q hq
      rcases hown'.2 with ⟨h2, h3⟩ | ⟨g2, cap, cur, h2, _, h6, h4, h5, h7, h8⟩
      · exact absurd h3 (by omega)
      · subst h2
        have hqg : q = g2 := by simpa [ownE, Value.ownBlock, eq_comm] using hq
        subst hqg
        refine ⟨?_, _, h6, cur, rfl, h7, h8⟩
        rcases hv with ⟨rfl, rfl⟩ | ⟨gb, cap0, rfl, hc1, hc2⟩
        · have hxs : xs = [] := List.eq_nil_of_length_eq_zero (by simpa using hl)
          subst hxs
          obtain ⟨v2, w2, hrun2, hown2, _, _⟩ := run_append_own (P := P) w w.heap.size t ty e inf z size by_ ht hinf hiz his hib hzs hpos (.slice none 0 0) 0 [] (World.ownsRow_nil _ _ _ _) ⟨b, o, none⟩ k c news hn hcells hone hb1 hb2 (Nat.le_refl _)
          rw [hrun] at hrun2
          cases hrun2
          rcases hown2.2 with ⟨h9, _⟩ | ⟨g3, _, _, h9, h10, _⟩
          · cases h9
          · cases h9
            exact .inr h10
        · obtain ⟨o9, ho9, cur9, rfl, hsz9, htk9⟩ := hp.has i _ hi gb rfl
          have hsz9' : cur9.size = cap0 * size := hsz9
          by_cases hroom : m + k ≤ cap0
          · have hfit : m * inf.size + news.length ≤ cur9.size := by
              rw [hn, his, hsz9', ← Nat.add_mul]
              exact Nat.mul_le_mul_right _ hroom
            have hr := run_append_room (P := P) w t ty e inf ht hinf gb m cap0 cur9 ho9 ⟨b, o, none⟩ k c news (by rw [his]; exact hn) hcells hone hroom hfit
            rw [hrun] at hr
            cases hr
            exact .inl rfl
          · have holds := howns.cells (g := gb) rfl
            have hr := run_append_grow (P := P) w t ty e inf z ht hinf hiz ⟨gb, 0, none⟩ m cap0 xs (by rw [his]; exact hl) holds ⟨b, o, none⟩ k c news (by rw [his]; exact hn) hcells (by omega) (by unfold maxLen at hb1; omega) (growslice_fits (by omega) (by rw [hib]; exact hb2))
            rw [hrun] at hr
            cases hr
            exact .inr (Nat.le_refl _)
end
end Go.Eng
/- The engine, part G: calls with their arguments one by one, also under a guard; conditions are the hypotheses of each law. -/
namespace Go.Eng
section
variable {P : Program} {n : FrK} {w0 w : World} {M : List Nat} {L : List Ent} {F : Fr} {d : Option Tmp} {ty : TypeId} {pos : String} {aft : Array Edge} {g : Option (Nat × Bool)} {x y : Operand} {ts : Array TypeId} {f : FuncId}
theorem wlgsH {Q : Exit → Fr → World → Prop} {ops : Array Oper} {rest : List Oper} {v : Value} {j : Nat} {want c : Bool} {e d : Nat} {op : Op} (hp : Hp w0 M w L) (hj : gslot ops j = some e) (hc : ev n F (.tmp e) = .bool c)
    (hs : (c == want) = true → StepF P n ⟨some d, op, ty, pos, aft, some (j, want)⟩ F w (fun u w' => u = v ∧ Hp w0 M w' L)) (h : ∀ w', Hp w0 M w' L → wpl P n ops rest Q (F.put d (Sel (c == want) v)) w') :
    wpl P n ops (⟨some d, op, ty, pos, aft, some (j, want)⟩ :: rest) Q F w := wlgs hj hc _ hp hs h
theorem wdgsH {Q : Exit → Fr → World → Prop} {ops : Array Oper} {rest : List Oper} {st : Bool} {G : World → Prop} {v : Value} {j : Nat} {want c : Bool} {e d : Nat} {op : Op} (hp : Hp w0 M w L) (he : effOp op = true) (hj : gslot ops j = some e) (hc : ev n F (.tmp e) = .bool c)
    (hs : (c == want) = true → StepF P n ⟨some d, op, ty, pos, aft, some (j, want)⟩ F w (fun u w' => u = v ∧ Hp w0 M w' L)) (h : ∀ w', Hp w0 M w' L → G w' ∧ wpd P n ops st G rest Q (F.put d (Sel (c == want) v)) w') :
    wpd P n ops st G (⟨some d, op, ty, pos, aft, some (j, want)⟩ :: rest) Q F w := wdgs he hj hc _ hp hs h
theorem StepF.mono {o : Oper} {R R' : Value → World → Prop} (h : StepF P n o F w R) (hr : ∀ v w', R v w' → R' v w') : StepF P n o F w R' := Step.mono h hr

theorem st_call1 {x1 : Operand} {v1 : Value} {R : Value → World → Prop} (hx : ev n F x = .func (.func f) #[] #[]) (he : Enters P f) (h1 : ev n F x1 = v1) (hc : Ret P f [v1] w R) : StepF P n ⟨d, .call ⟨.value x, #[x1], ts⟩, ty, pos, aft, g⟩ F w R :=
  st_call hx he (by simp [h1]) hc
theorem st_callG1 {x1 : Operand} {v1 v : Value} (hp : Hp w0 M w L) (hx : ev n F x = .func (.func f) #[] #[]) (he : Enters P f) (h1 : ev n F x1 = v1) (hc : Ret P f [v1] w (fun u w' => u = v ∧ Keeps [] w w')) :
    StepF P n ⟨d, .call ⟨.value x, #[x1], ts⟩, ty, pos, aft, g⟩ F w (fun u w' => u = v ∧ Hp w0 M w' L) := (st_call1 hx he h1 hc).mono fun _ _ h => ⟨h.1, hp.call h.2⟩
theorem st_call2 {x1 x2 : Operand} {v1 v2 : Value} {R : Value → World → Prop} (hx : ev n F x = .func (.func f) #[] #[]) (he : Enters P f) (h1 : ev n F x1 = v1) (h2 : ev n F x2 = v2) (hc : Ret P f [v1, v2] w R) : StepF P n ⟨d, .call ⟨.value x, #[x1, x2], ts⟩, ty, pos, aft, g⟩ F w R :=
  st_call hx he (by simp [h1, h2]) hc
theorem st_callG2 {x1 x2 : Operand} {v1 v2 v : Value} (hp : Hp w0 M w L) (hx : ev n F x = .func (.func f) #[] #[]) (he : Enters P f) (h1 : ev n F x1 = v1) (h2 : ev n F x2 = v2) (hc : Ret P f [v1, v2] w (fun u w' => u = v ∧ Keeps [] w w')) :
    StepF P n ⟨d, .call ⟨.value x, #[x1, x2], ts⟩, ty, pos, aft, g⟩ F w (fun u w' => u = v ∧ Hp w0 M w' L) := (st_call2 hx he h1 h2 hc).mono fun _ _ h => ⟨h.1, hp.call h.2⟩
theorem st_call3 {x1 x2 x3 : Operand} {v1 v2 v3 : Value} {R : Value → World → Prop} (hx : ev n F x = .func (.func f) #[] #[]) (he : Enters P f) (h1 : ev n F x1 = v1) (h2 : ev n F x2 = v2) (h3 : ev n F x3 = v3) (hc : Ret P f [v1, v2, v3] w R) : StepF P n ⟨d, .call ⟨.value x, #[x1, x2, x3], ts⟩, ty, pos, aft, g⟩ F w R :=
  st_call hx he (by simp [h1, h2, h3]) hc
theorem st_callG3 {x1 x2 x3 : Operand} {v1 v2 v3 v : Value} (hp : Hp w0 M w L) (hx : ev n F x = .func (.func f) #[] #[]) (he : Enters P f) (h1 : ev n F x1 = v1) (h2 : ev n F x2 = v2) (h3 : ev n F x3 = v3) (hc : Ret P f [v1, v2, v3] w (fun u w' => u = v ∧ Keeps [] w w')) :
    StepF P n ⟨d, .call ⟨.value x, #[x1, x2, x3], ts⟩, ty, pos, aft, g⟩ F w (fun u w' => u = v ∧ Hp w0 M w' L) := (st_call3 hx he h1 h2 h3 hc).mono fun _ _ h => ⟨h.1, hp.call h.2⟩
theorem st_call4 {x1 x2 x3 x4 : Operand} {v1 v2 v3 v4 : Value} {R : Value → World → Prop} (hx : ev n F x = .func (.func f) #[] #[]) (he : Enters P f) (h1 : ev n F x1 = v1) (h2 : ev n F x2 = v2) (h3 : ev n F x3 = v3) (h4 : ev n F x4 = v4) (hc : Ret P f [v1, v2, v3, v4] w R) : StepF P n ⟨d, .call ⟨.value x, #[x1, x2, x3, x4], ts⟩, ty, pos, aft, g⟩ F w R :=
  st_call hx he (by simp [h1, h2, h3, h4]) hc
theorem st_callG4 {x1 x2 x3 x4 : Operand} {v1 v2 v3 v4 v : Value} (hp : Hp w0 M w L) (hx : ev n F x = .func (.func f) #[] #[]) (he : Enters P f) (h1 : ev n F x1 = v1) (h2 : ev n F x2 = v2) (h3 : ev n F x3 = v3) (h4 : ev n F x4 = v4) (hc : Ret P f [v1, v2, v3, v4] w (fun u w' => u = v ∧ Keeps [] w w')) :
    StepF P n ⟨d, .call ⟨.value x, #[x1, x2, x3, x4], ts⟩, ty, pos, aft, g⟩ F w (fun u w' => u = v ∧ Hp w0 M w' L) := (st_call4 hx he h1 h2 h3 h4 hc).mono fun _ _ h => ⟨h.1, hp.call h.2⟩
theorem st_call5 {x1 x2 x3 x4 x5 : Operand} {v1 v2 v3 v4 v5 : Value} {R : Value → World → Prop} (hx : ev n F x = .func (.func f) #[] #[]) (he : Enters P f) (h1 : ev n F x1 = v1) (h2 : ev n F x2 = v2) (h3 : ev n F x3 = v3) (h4 : ev n F x4 = v4) (h5 : ev n F x5 = v5) (hc : Ret P f [v1, v2, v3, v4, v5] w R) : StepF P n ⟨d, .call ⟨.value x, #[x1, x2, x3, x4, x5], ts⟩, ty, pos, aft, g⟩ F w R :=
  st_call hx he (by simp [h1, h2, h3, h4, h5]) hc
theorem st_callG5 {x1 x2 x3 x4 x5 : Operand} {v1 v2 v3 v4 v5 v : Value} (hp : Hp w0 M w L) (hx : ev n F x = .func (.func f) #[] #[]) (he : Enters P f) (h1 : ev n F x1 = v1) (h2 : ev n F x2 = v2) (h3 : ev n F x3 = v3) (h4 : ev n F x4 = v4) (h5 : ev n F x5 = v5) (hc : Ret P f [v1, v2, v3, v4, v5] w (fun u w' => u = v ∧ Keeps [] w w')) :
    StepF P n ⟨d, .call ⟨.value x, #[x1, x2, x3, x4, x5], ts⟩, ty, pos, aft, g⟩ F w (fun u w' => u = v ∧ Hp w0 M w' L) := (st_call5 hx he h1 h2 h3 h4 h5 hc).mono fun _ _ h => ⟨h.1, hp.call h.2⟩
end
/-- a slice reads as a list -/
def SlAt {α : Type} (w : World) (k : Nat) (enc : α → List Value) (s : Option Addr) (l : List α) : Prop :=
  ∀ (i : Nat) (x : α), l[i]? = some x → ∃ b o, s = some ⟨b, o, none⟩ ∧ ∀ (j : Nat) (v : Value), (enc x)[j]? = some v → w.cell? ⟨b, o + i * k + j, none⟩ = some v

theorem SlAt.keep {α : Type} {w w' : World} {k : Nat} {enc : α → List Value} {s : Option Addr} {l : List α} {M : List Nat} (h : SlAt w k enc s l) (hk : Keeps M w w') (hM : l ≠ [] → ∀ b o, s = some ⟨b, o, none⟩ → b ∉ M) : SlAt w' k enc s l := by
  intro i x hx
  obtain ⟨b, o, hs, hc⟩ := h i x hx
  exact ⟨b, o, hs, fun j v hv => hk.cell (hc j v hv) (hM (by rintro rfl; simp at hx) b o hs)⟩
theorem SlAt.keep0 {α : Type} {w w' : World} {k : Nat} {enc : α → List Value} {s : Option Addr} {l : List α} (h : SlAt w k enc s l) (hk : Keeps [] w w') : SlAt w' k enc s l := h.keep hk (by simp)

theorem SlAt.base {α : Type} {w : World} {k : Nat} {enc : α → List Value} {s : Option Addr} {l : List α} (h : SlAt w k enc s l) (hl : 0 < l.length) :
    ∃ b o, s = some ⟨b, o, none⟩ ∧ ∀ (i : Nat) (x : α), l[i]? = some x → ∀ (j : Nat) (v : Value), (enc x)[j]? = some v → w.cell? ⟨b, o + i * k + j, none⟩ = some v := by
  obtain ⟨b, o, hs, _⟩ := h 0 _ (List.getElem?_eq_getElem hl)
  refine ⟨b, o, hs, fun i x hx => ?_⟩
  obtain ⟨b', o', hs', hc⟩ := h i x hx
  rw [hs] at hs'
  cases hs'
  exact hc

def eI (x : Int) : List Value := [.int .i64 x]
def eS (x : ByteArray) : List Value := [.string x]

theorem flatMap_get {α β : Type} (enc : α → List β) (k : Nat) (hk : ∀ x, (enc x).length = k) : ∀ (l : List α) (j q : Nat) (x : α) (v : β), l[j]? = some x → (enc x)[q]? = some v → (l.flatMap enc)[j * k + q]? = some v
  | [], j, q, x, v, h, _ => by simp at h
  | y :: l, 0, q, x, v, h, hv => by
    have : y = x := by simpa using h
    subst this
    have hq : q < (enc y).length := (List.getElem?_eq_some_iff.1 hv).1
    simp only [List.flatMap_cons, Nat.zero_mul, Nat.zero_add]
    rw [List.getElem?_append_left hq]
    exact hv
  | y :: l, j + 1, q, x, v, h, hv => by
    simp only [List.flatMap_cons]
    rw [List.getElem?_append_right (by rw [hk, Nat.succ_mul]; omega), hk]
    rw [show (j + 1) * k + q - k = j * k + q from by rw [Nat.succ_mul]; omega]
    exact flatMap_get enc k hk l j q x v (by simpa using h) hv

theorem flatMap_len {α β : Type} (enc : α → List β) (k : Nat) (hk : ∀ x, (enc x).length = k) : ∀ (l : List α), (l.flatMap enc).length = l.length * k
  | [] => by simp
  | y :: l => by simp [List.flatMap_cons, hk, flatMap_len enc k hk l, Nat.succ_mul]; omega

/-- an owned slice reads as a list -/
theorem own_SlAt {α : Type} {w0 w : World} {M : List Nat} {L : List Ent} {i e k : Nat} {enc : α → List Value} {s : Option Addr} {c : Nat} {l : List α} (hp : Hp w0 M w L) (hi : L[i]? = some (ownE (.slice s l.length c) e k l.length (l.flatMap enc))) (hv : SV (.slice s l.length c) l.length)
    (hk : ∀ x, (enc x).length = k) : SlAt w k enc s l := by
  intro j x hx
  rcases hv with ⟨h1, h2⟩ | ⟨g, cap, h1, _⟩
  · have : l = [] := List.eq_nil_of_length_eq_zero h2
    subst this
    simp at hx
  · cases h1
    refine ⟨g, 0, rfl, fun q v hv => ?_⟩
    have hidx := flatMap_get enc k hk l j q x v hx hv
    have := hp.own_cell hi hidx
    rw [← Nat.add_assoc] at this
    exact this

/-- the source of an append: a slice that reads as a list -/
theorem SlAt.src {α : Type} {w : World} {k : Nat} {enc : α → List Value} {s : Option Addr} {l : List α} (h : SlAt w k enc s l) (hk : ∀ x, (enc x).length = k) :
    ∀ (j : Nat) (u : Value), (l.flatMap enc)[j]? = some u → ∃ b o, s = some ⟨b, o, none⟩ ∧ w.cell? ⟨b, o + j, none⟩ = some u := by
  intro j u hu
  have hlen := (List.getElem?_eq_some_iff.1 hu).1
  rw [flatMap_len enc k hk] at hlen
  have hk0 : 0 < k := by
    rcases Nat.eq_zero_or_pos k with h0 | h0
    · subst h0; simp at hlen
    · exact h0
  have hl0 : 0 < l.length := by
    rcases Nat.eq_zero_or_pos l.length with h0 | h0
    · rw [h0] at hlen; simp at hlen
    · exact h0
  obtain ⟨b, o, hs, hc⟩ := h.base hl0
  have hq : j / k < l.length := (Nat.div_lt_iff_lt_mul hk0).2 hlen
  have hx := List.getElem?_eq_getElem hq
  have hm : j % k < (enc l[j / k]).length := by rw [hk]; exact Nat.mod_lt _ hk0
  have hv := List.getElem?_eq_getElem hm
  have h1 := flatMap_get enc k hk l (j / k) (j % k) _ _ hx hv
  have hjk : j / k * k + j % k = j := by rw [Nat.mul_comm]; exact Nat.div_add_mod j k
  rw [hjk, hu] at h1
  refine ⟨b, o, hs, ?_⟩
  have := hc (j / k) _ hx (j % k) _ hv
  rw [Nat.add_assoc, hjk] at this
  rw [this, h1]

/-- one element that was just laid in a block of its own -/
theorem blk_src {w0 w : World} {M : List Nat} {L : List Ent} {b t : Nat} {cs : List Value} (hp : Hp w0 M w L) (i : Nat) (hi : L[i]? = some (blk b cs.length (frOf cs) t)) :
    ∀ (j : Nat) (u : Value), cs[j]? = some u → ∃ b' o, (some ⟨b, 0, none⟩ : Option Addr) = some ⟨b', o, none⟩ ∧ w.cell? ⟨b', o + j, none⟩ = some u := by
  intro j u hu
  have hlt := (List.getElem?_eq_some_iff.1 hu).1
  refine ⟨b, 0, rfl, ?_⟩
  rw [Nat.zero_add, hp.cell i hi (nblt_true hlt), frOf_eq]
  rw [List.getD_eq_getElem?_getD, hu]
  rfl
end Go.Eng
/- The engine, part H: guards that say yes, owned lists, calls that write a block of ours; conditions are the hypotheses of each law. -/
namespace Go.Eng
section
variable {P : Program} {n : FrK} {Q : Exit → Fr → World → Prop} {F : Fr} {w : World} {ops : Array Oper} {rest : List Oper} {G : World → Prop}
variable {d : Nat} {op : Op} {ty : TypeId} {pos : String} {aft : Array Edge}
/-- a guarded operation whose guard says yes -/
theorem wlsT {R : Value → World → Prop} {j : Nat} {want : Bool} {e : Nat} (hj : gslot ops j = some e) (hc : ev n F (.tmp e) = .bool want)
    (hs : StepF P n ⟨some d, op, ty, pos, aft, some (j, want)⟩ F w R) (h : ∀ v w', R v w' → wpl P n ops rest Q (F.put d v) w') :
    wpl P n ops (⟨some d, op, ty, pos, aft, some (j, want)⟩ :: rest) Q F w := by
  unfold wpl wpListIn
  rw [wanted_act rfl hj hc]
  simp only [beq_self_eq_true, if_true]
  refine Step.wpIn hs ?_
  intro u w' hr
  rw [act_put]
  exact h u w' hr
theorem wlpT {r v : Value} {j : Nat} {want : Bool} {e : Nat} (hj : gslot ops j = some e) (hc : ev n F (.tmp e) = .bool want)
    (hp : PV P n w F ⟨some d, op, ty, pos, aft, some (j, want)⟩ r) (hv : r = v) (h : wpl P n ops rest Q (F.put d v) w) : wpl P n ops (⟨some d, op, ty, pos, aft, some (j, want)⟩ :: rest) Q F w := by
  subst hv
  refine wlsT (R := fun u w' => u = r ∧ w' = w) hj hc (.inl ⟨r, w, ?_, rfl, rfl⟩) ?_
  · rw [act_eval]; exact hp
  · rintro u w' ⟨rfl, rfl⟩; exact h
end

theorem blk_SlAt {α : Type} {w0 w : World} {M : List Nat} {L : List Ent} {k b t : Nat} {enc : α → List Value} (l : List α) (hp : Hp w0 M w L) (i : Nat) (hi : L[i]? = some (blk b (l.flatMap enc).length (frOf (l.flatMap enc)) t))
    (hk : ∀ x, (enc x).length = k) : SlAt w k enc (some ⟨b, 0, none⟩) l := by
  intro j x hx
  refine ⟨b, 0, rfl, fun q v hv => ?_⟩
  have hidx := flatMap_get enc k hk l j q x v hx hv
  obtain ⟨b', o', e1, e2⟩ := blk_src hp i hi _ _ hidx
  cases e1
  rw [Nat.add_assoc]
  exact e2

theorem cells_row {cs : List Value} {e size n : Nat} {o : Obj} (hl : cs.length = n * size) (h : cellsB cs.length (frOf cs) e o) : rowB e size n n cs o := by
  refine ⟨_, h, by simp [hl], ?_⟩
  rw [List.take_of_length_le (by simp [hl])]
  apply List.ext_getElem
  · simp
  · intro i h1 h2
    simp [frOf_eq]
theorem Hp.rowOf {w0 w : World} {M : List Nat} {L : List Ent} {cs : List Value} {b e : Nat} (hp : Hp w0 M w L) (i size n : Nat) (hi : L[i]? = some (blk b cs.length (frOf cs) e)) (hl : cs.length = n * size) :
    Hp w0 M w (L.set i (ownE (.slice (some ⟨b, 0, none⟩) n n) e size n cs)) := hp.weak hi fun _ h => cells_row hl h
theorem SlAt_nil {α : Type} {w : World} {k : Nat} {enc : α → List Value} {s : Option Addr} : SlAt w k enc s [] := by intro i x hx; simp at hx

section
variable {P : Program} {n : FrK} {F : Fr} {w : World} {d : Option Tmp} {ty : TypeId} {pos : String} {aft : Array Edge} {g : Option (Nat × Bool)} {x y : Operand}
theorem addr_add0 (a : Addr) : a.add 0 = a := rfl
theorem eqIn_bool {t : Nat} {a b : Bool} (ht : P.underlying t = some .bool) (k : Nat) : (Op.equalIn (k + 1) t (.bool a) (.bool b)).run P w = .ok (a == b) w := by
  unfold Op.equalIn
  simp [run_und ht]
theorem eq_bool {t : Nat} {a b : Bool} (ht : P.underlying t = some .bool) : (Op.equal t (.bool a) (.bool b)).run P w = .ok (a == b) w := eqIn_bool ht 9999
theorem pv_bneq {t t' : Nat} {a b : Bool} (ht : P.underlying t = some .bool) (hx : ev n F x = .bool a) (hy : ev n F y = .bool b) : PV P n w F ⟨d, .binOp .neq t x y t', ty, pos, aft, g⟩ (.bool (a != b)) := by
  have h := eq_bool (P := P) (w := w) (a := a) (b := b) ht
  simp [PV, execOp, hx, hy, eqGuard, binOp, h]
  cases a <;> cases b <;> rfl
end

theorem SlAt_take {α : Type} {w : World} {k : Nat} {enc : α → List Value} {s : Option Addr} {l : List α} (h : SlAt w k enc s l) (n : Nat) : SlAt w k enc s (l.take n) := by
  intro i x hx
  rw [List.getElem?_take] at hx
  split at hx
  · exact h i x hx
  · cases hx
section
variable {w0 w w' : World} {M : List Nat} {L : List Ent}
/-- a block under another name for its cells -/
theorem Hp.norm (hp : Hp w0 M w L) (i : Nat) {b m : Nat} {f : Fr} {t : TypeId} (cs : List Value) (hi : L[i]? = some (blk b m f t)) (h : (List.range m).map f = cs) : Hp w0 M w (L.set i (blk b m (frOf cs) t)) := by
  refine hp.weak hi fun o ho => ?_
  have ho : o = .cells (Array.ofFn (n := m) fun i => f i) t (0, 0) := ho
  subst ho
  subst h
  show _ = _
  congr 1
  apply Array.ext
  · simp
  · intro j h1 h2
    have hj : j < m := by simpa using h1
    simp [frOf_eq]
/-- a call that writes one block of ours -/
theorem Hp.callAt (hp : Hp w0 M w L) (i : Nat) {b m : Nat} {f g : Fr} {t : TypeId} (hi : L[i]? = some (blk b m f t)) (hk : Keeps [b] w w') (ho : ∃ o, w'.heap[b]? = some o ∧ cellsB m g t o) : Hp w0 M w' (L.set i (blk b m g t)) :=
  hp.upd hi hk (by
    intro q hq
    have : q = b := by simpa [blk, eq_comm] using hq
    subst this
    exact ⟨.inl rfl, ho⟩)
end
section
variable {w0 w w' : World} {M : List Nat} {L : List Ent}
theorem Hp.pick (h : Hp w0 M w L) (i : Nat) {p : Ent} (hi : L[i]? = some p) : Hp w0 M w [p] := by
  refine ⟨h.keeps, fun k q hk b hb => ?_, fun k q hk b hb => ?_, fun k j q r hk hj hne => ?_⟩
  · cases k with
    | zero => simp at hk; subst hk; exact h.own i p hi b hb
    | succ k => simp at hk
  · cases k with
    | zero => simp at hk; subst hk; exact h.has i p hi b hb
    | succ k => simp at hk
  · cases k with
    | zero =>
      cases j with
      | zero => exact absurd rfl hne
      | succ j => simp at hj
    | succ k => simp at hk
theorem set_same {α : Type} {L : List α} {i : Nat} {p : α} (hi : L[i]? = some p) : L.set i p = L := by
  apply List.ext_getElem?
  intro j
  rw [List.getElem?_set]
  by_cases hij : i = j
  · subst hij
    have hlt := (List.getElem?_eq_some_iff.1 hi).1
    rw [if_pos rfl, if_pos hlt, hi]
  · rw [if_neg hij]
/-- a call that writes one block of ours and leaves it as it is described -/
theorem Hp.callE (h : Hp w0 M w L) (i : Nat) {b : Nat} {φ : Obj → Prop} (hi : L[i]? = some (some b, φ)) (hk : Keeps [b] w w') (ho : ∃ o, w'.heap[b]? = some o ∧ φ o) : Hp w0 M w' L := by
  have := h.upd (q := (some b, φ)) hi hk (by
    intro q hq
    have : q = b := by simpa [eq_comm] using hq
    subst this
    exact ⟨.inl rfl, ho⟩)
  rwa [set_same hi] at this
end

theorem Hp.takeN {w0 w : World} {M : List Nat} {L : List Ent} (h : Hp w0 M w L) (n : Nat) : Hp w0 M w (L.take n) := by
  have key : ∀ (i : Nat) (p : Ent), (L.take n)[i]? = some p → L[i]? = some p := by
    intro i p hi
    rw [List.getElem?_take] at hi
    split at hi
    · exact hi
    · cases hi
  exact ⟨h.keeps, fun i p hi => h.own i p (key i p hi), fun i p hi => h.has i p (key i p hi), fun i j p q hi hj => h.dis i j p q (key i p hi) (key j q hj)⟩
theorem Hp.pick2 {w0 w : World} {M : List Nat} {L : List Ent} (h : Hp w0 M w L) (i j : Nat) {p q : Ent} (hi : L[i]? = some p) (hj : L[j]? = some q) (hij : Nat.beq i j = false) : Hp w0 M w [p, q] := by
  have hne : i ≠ j := by
    rintro rfl
    rw [Nat.beq_refl] at hij
    cases hij
  have key : ∀ (k : Nat) (r : Ent), [p, q][k]? = some r → (k = 0 ∧ r = p) ∨ (k = 1 ∧ r = q) := by
    intro k r hk
    match k with
    | 0 => simp at hk; exact .inl ⟨rfl, hk.symm⟩
    | 1 => simp at hk; exact .inr ⟨rfl, hk.symm⟩
    | k + 2 => simp at hk
  refine ⟨h.keeps, fun k r hk b hb => ?_, fun k r hk b hb => ?_, fun k m r t hk hm hkm b hb => ?_⟩
  · rcases key k r hk with ⟨_, rfl⟩ | ⟨_, rfl⟩
    · exact h.own i _ hi b hb
    · exact h.own j _ hj b hb
  · rcases key k r hk with ⟨_, rfl⟩ | ⟨_, rfl⟩
    · exact h.has i _ hi b hb
    · exact h.has j _ hj b hb
  · rcases key k r hk with ⟨rfl, rfl⟩ | ⟨rfl, rfl⟩ <;> rcases key m t hm with ⟨rfl, rfl⟩ | ⟨rfl, rfl⟩
    · exact absurd rfl hkm
    · exact h.dis i j _ _ hi hj hne b hb
    · exact h.dis j i _ _ hj hi (fun e => hne e.symm) b hb
    · exact absurd rfl hkm
/-- what a call hands over, in front of what was there -/
theorem Hp.join {w0 w w' : World} {M : List Nat} {L L' : List Ent} (h : Hp w0 M w L) (h' : Hp w [] w' L') : Hp w0 M w' (L' ++ L) := by
  have hc := h.call h'.keeps
  have key : ∀ (i : Nat) (p : Ent), (L' ++ L)[i]? = some p → (i < L'.length ∧ L'[i]? = some p) ∨ (L'.length ≤ i ∧ L[i - L'.length]? = some p) := by
    intro i p hi
    rw [List.getElem?_append] at hi
    split at hi
    · rename_i hlt
      exact .inl ⟨hlt, hi⟩
    · rename_i hlt
      exact .inr ⟨by omega, hi⟩
  have hnew : ∀ (i : Nat) (p : Ent), L'[i]? = some p → ∀ b, p.1 = some b → w.heap.size ≤ b := by
    intro i p hi b hb
    rcases h'.own i p hi b hb with h1 | h1
    · exact h1
    · cases h1
  refine ⟨hc.keeps, fun i p hi b hb => ?_, fun i p hi b hb => ?_, fun i j p q hi hj hne b hb => ?_⟩
  · rcases key i p hi with ⟨_, h1⟩ | ⟨_, h1⟩
    · exact .inl (Nat.le_trans h.keeps.size (hnew i p h1 b hb))
    · exact h.own _ p h1 b hb
  · rcases key i p hi with ⟨_, h1⟩ | ⟨_, h1⟩
    · exact h'.has _ p h1 b hb
    · exact hc.has _ p h1 b hb
  · rcases key i p hi with ⟨_, h1⟩ | ⟨h0, h1⟩ <;> rcases key j q hj with ⟨_, h2⟩ | ⟨h3, h2⟩
    · exact h'.dis i j p q h1 h2 hne b hb
    · intro e
      have := hnew i p h1 b hb
      have := h.lt h2 e
      omega
    · intro e
      have := hnew j q h2 b e
      have := h.lt h1 hb
      omega
    · exact h.dis _ _ p q h1 h2 (by omega) b hb
/-- what holds between two parts of the code -/
theorem WP_mid {P : Program} {n : FrK} {x : Code} {K : Fr → World → Prop} {Q : Exit → Fr → World → Prop} {F : Fr} {w : World} (R : Fr → World → Prop) (h : WP P n x (thenQ R Q) F w) (h2 : ∀ F w, R F w → K F w) : WP P n x (thenQ K Q) F w := by
  refine WP_mono h ?_
  intro e F w h
  cases e <;> first | exact h2 _ _ h | exact h

/-! ### owned lists -/
def ownL {α : Type} (enc : α → List Value) (e k : Nat) (s : Option Addr) (c : Nat) (l : List α) : Ent := ownE (.slice s l.length c) e k l.length (l.flatMap enc)
def SVL {α : Type} (s : Option Addr) (c : Nat) (l : List α) : Prop := SV (.slice s l.length c) l.length
theorem SVL.nil {α : Type} : SVL (α := α) none 0 [] := .inl ⟨rfl, rfl⟩
theorem SVL.cap {α : Type} {s : Option Addr} {c : Nat} {l : List α} (h : SVL s c l) : l.length ≤ c := by
  rcases h with ⟨h, _⟩ | ⟨g, cap, h, h2, _⟩
  · injection h with _ h1 h2
    omega
  · injection h with _ _ h3
    omega
theorem Hp.nilL {α : Type} {w0 w : World} {M : List Nat} {L : List Ent} (h : Hp w0 M w L) (enc : α → List Value) (e k : Nat) : Hp w0 M w (ownL enc e k none 0 [] :: L) := h.addNil _
theorem ownL_At {α : Type} {w0 w : World} {M : List Nat} {L : List Ent} {e k : Nat} {enc : α → List Value} {s : Option Addr} {c : Nat} {l : List α} (hp : Hp w0 M w L) (i : Nat) (hi : L[i]? = some (ownL enc e k s c l)) (hv : SVL s c l)
    (hk : ∀ x, (enc x).length = k) : SlAt w k enc s l := own_SlAt hp hi hv hk
theorem SlAt.lt {α : Type} {w : World} {k : Nat} {enc : α → List Value} {s : Option Addr} {l : List α} (h : SlAt w k enc s l) (hk : ∀ x, (enc x).length = k) (hk0 : 0 < k) (hl : l ≠ []) {b o : Nat} (hs : s = some ⟨b, o, none⟩) : b < w.heap.size := by
  obtain ⟨x, l', rfl⟩ : ∃ x l', l = x :: l' := by cases l with | nil => exact absurd rfl hl | cons x l' => exact ⟨x, l', rfl⟩
  obtain ⟨b', o', hs', hc⟩ := h 0 x rfl
  rw [hs] at hs'
  cases hs'
  have := hc 0 _ (List.getElem?_eq_getElem (by rw [hk]; exact hk0))
  exact World.block_lt_of_cell? w _ this

theorem filter_ne {l : List Nat} {i : Nat} (h : i ∉ l) : l.filter (· != i) = l := by
  rw [List.filter_eq_self]
  intro x hx
  have : x ≠ i := by
    rintro rfl
    exact h hx
  simpa using this
theorem filter_len {l : List Nat} {i : Nat} (hs : l.Nodup) (h : i ∈ l) : (l.filter (· != i)).length + 1 = l.length := by
  induction l with
  | nil => cases h
  | cons p rest ih =>
    obtain ⟨h1, h2⟩ := List.nodup_cons.1 hs
    by_cases hp : p = i
    · subst hp
      rw [List.filter_cons]
      simp only [bne_self_eq_false, Bool.false_eq_true, if_false]
      rw [filter_ne h1]
      rfl
    · have hir : i ∈ rest := by
        rcases List.mem_cons.1 h with e | e
        · exact absurd e.symm hp
        · exact e
      rw [List.filter_cons, if_pos (by simpa using hp)]
      simp only [List.length_cons]
      rw [ih h2 hir]
theorem sorted_nodup {l : List Nat} (h : l.Pairwise (· < ·)) : l.Nodup := h.imp fun h => Nat.ne_of_lt h
end Go.Eng
/- The engine, part J: bytes as a string; conditions are the hypotheses of each law. -/
namespace Go.Eng

def bytesOf (ns : List Int) : ByteArray := ns.foldl (fun r n => r.push (UInt8.ofNat n.toNat)) ByteArray.empty
theorem bytesOf_size_aux (ns : List Int) : ∀ r : ByteArray, (ns.foldl (fun r n => r.push (UInt8.ofNat n.toNat)) r).size = r.size + ns.length := by
  induction ns with
  | nil => intro r; simp
  | cons n ns ih =>
    intro r
    rw [List.foldl_cons, ih, ByteArray.size_push, List.length_cons]
    omega
theorem bytesOf_size (ns : List Int) : (bytesOf ns).size = ns.length := by
  unfold bytesOf
  rw [bytesOf_size_aux]
  simp

section
variable {P : Program} {n : FrK} {w : World} {F : Fr} {d : Option Tmp} {ty : TypeId} {pos : String} {aft : Array Edge} {g : Option (Nat × Bool)} {x y : Operand}
theorem run_loadN {b o len : Nat} {vs : List Value} (hl : vs.length = len) (hc : ∀ (j : Nat) (v : Value), vs[j]? = some v → w.cell? ⟨b, o + j, none⟩ = some v) : (loadCells ⟨b, o, none⟩ len).run P w = .ok vs.toArray w := by
  subst hl
  have := run_loadFrom (P := P) (w := w) b o vs 0 #[] (fun j v hv => by simpa using hc j v hv)
  simp [loadCells, this]
theorem pv_bts {t t' e b o len cap : Nat} {ns : List Int} (ht : P.underlying t = some (.slice e)) (he : P.underlying e = some (.int .u8)) (ht' : P.underlying t' = some .string) (hx : ev n F x = .slice (some ⟨b, o, none⟩) len cap) (hl : ns.length = len)
    (hc : ∀ (j : Nat) (v : Value), (ns.map (Value.int .u8))[j]? = some v → w.cell? ⟨b, o + j, none⟩ = some v) : PV P n w F ⟨d, .convert t t' x, ty, pos, aft, g⟩ (.string (bytesOf ns)) := by
  have h1 := run_loadN (P := P) (len := len) (by simpa using hl) hc
  have h2 := run_bytesToString (P := P) w ⟨b, o, none⟩ len cap ns h1
  simp only [PV, execOp, convert, hx, Sem.run_bind, run_und ht, run_und ht', Result.andThen_ok, run_und he, h2]
  rfl
end
end Go.Eng
/- Made by a program of ours (gen_ty.py): tables of the types of the program, each proved; no conditions. -/
namespace Go.Proofs.YtfjbioghpgmkiaaGreatDoor
open Go.Eng
def oneTy : Nat → Bool
  | 1 => true
  | 2 => true
  | 3 => true
  | 4 => true
  | 5 => true
  | 9 => true
  | 21 => true
  | 22 => true
  | 23 => true
  | 26 => true
  | 27 => true
  | 28 => true
  | 29 => true
  | 30 => true
  | 33 => true
  | 35 => true
  | 36 => true
  | 37 => true
  | 39 => true
  | 42 => true
  | 43 => true
  | 44 => true
  | 45 => true
  | 47 => true
  | 48 => true
  | 49 => true
  | 50 => true
  | 53 => true
  | 57 => true
  | 58 => true
  | 59 => true
  | 60 => true
  | 61 => true
  | 62 => true
  | 63 => true
  | 65 => true
  | 67 => true
  | 68 => true
  | 69 => true
  | 70 => true
  | 71 => true
  | 72 => true
  | 73 => true
  | 75 => true
  | 76 => true
  | 77 => true
  | 79 => true
  | 80 => true
  | 81 => true
  | 82 => true
  | 83 => true
  | 85 => true
  | 88 => true
  | 89 => true
  | 90 => true
  | 92 => true
  | 93 => true
  | 94 => true
  | 95 => true
  | 96 => true
  | 97 => true
  | 98 => true
  | 99 => true
  | 100 => true
  | 101 => true
  | 102 => true
  | 103 => true
  | 104 => true
  | 105 => true
  | 106 => true
  | 107 => true
  | 108 => true
  | 109 => true
  | 110 => true
  | 111 => true
  | 112 => true
  | 113 => true
  | 114 => true
  | 115 => true
  | 116 => true
  | 117 => true
  | 118 => true
  | 119 => true
  | 120 => true
  | 121 => true
  | 122 => true
  | 123 => true
  | 124 => true
  | 125 => true
  | 126 => true
  | 127 => true
  | 128 => true
  | 129 => true
  | 130 => true
  | 131 => true
  | 132 => true
  | 133 => true
  | 134 => true
  | 135 => true
  | 136 => true
  | 138 => true
  | 139 => true
  | 140 => true
  | 141 => true
  | 142 => true
  | 144 => true
  | 145 => true
  | 146 => true
  | 147 => true
  | 148 => true
  | 149 => true
  | 150 => true
  | 154 => true
  | 155 => true
  | 156 => true
  | 157 => true
  | 159 => true
  | 160 => true
  | 161 => true
  | 166 => true
  | 167 => true
  | 168 => true
  | 169 => true
  | 170 => true
  | 176 => true
  | 180 => true
  | _ => false
theorem oneTy_ok {t : Nat} (h : oneTy t = true) : ∃ q, Tryz.prog.underlying t = some q ∧ isOne q = true := by
  unfold oneTy at h
  split at h
  · exact ⟨_, Tryz.underlying1, rfl⟩
  · exact ⟨_, Tryz.underlying2, rfl⟩
  · exact ⟨_, Tryz.underlying3, rfl⟩
  · exact ⟨_, Tryz.underlying4, rfl⟩
  · exact ⟨_, Tryz.underlying5, rfl⟩
  · exact ⟨_, Tryz.underlying9, rfl⟩
  · exact ⟨_, Tryz.underlying21, rfl⟩
  · exact ⟨_, Tryz.underlying22, rfl⟩
  · exact ⟨_, Tryz.underlying23, rfl⟩
  · exact ⟨_, Tryz.underlying26, rfl⟩
  · exact ⟨_, Tryz.underlying27, rfl⟩
  · exact ⟨_, Tryz.underlying28, rfl⟩
  · exact ⟨_, Tryz.underlying29, rfl⟩
  · exact ⟨_, Tryz.underlying30, rfl⟩
  · exact ⟨_, Tryz.underlying33, rfl⟩
  · exact ⟨_, Tryz.underlying35, rfl⟩
  · exact ⟨_, Tryz.underlying36, rfl⟩
  · exact ⟨_, Tryz.underlying37, rfl⟩
  · exact ⟨_, Tryz.underlying39, rfl⟩
  · exact ⟨_, Tryz.underlying42, rfl⟩
  · exact ⟨_, Tryz.underlying43, rfl⟩
  · exact ⟨_, Tryz.underlying44, rfl⟩
  · exact ⟨_, Tryz.underlying45, rfl⟩
  · exact ⟨_, Tryz.underlying47, rfl⟩
  · exact ⟨_, Tryz.underlying48, rfl⟩
  · exact ⟨_, Tryz.underlying49, rfl⟩
  · exact ⟨_, Tryz.underlying50, rfl⟩
  · exact ⟨_, Tryz.underlying53, rfl⟩
  · exact ⟨_, Tryz.underlying57, rfl⟩
  · exact ⟨_, Tryz.underlying58, rfl⟩
  · exact ⟨_, Tryz.underlying59, rfl⟩
  · exact ⟨_, Tryz.underlying60, rfl⟩
  · exact ⟨_, Tryz.underlying61, rfl⟩
  · exact ⟨_, Tryz.underlying62, rfl⟩
  · exact ⟨_, Tryz.underlying63, rfl⟩
  · exact ⟨_, Tryz.underlying65, rfl⟩
  · exact ⟨_, Tryz.underlying67, rfl⟩
  · exact ⟨_, Tryz.underlying68, rfl⟩
  · exact ⟨_, Tryz.underlying69, rfl⟩
  · exact ⟨_, Tryz.underlying70, rfl⟩
  · exact ⟨_, Tryz.underlying71, rfl⟩
  · exact ⟨_, Tryz.underlying72, rfl⟩
  · exact ⟨_, Tryz.underlying73, rfl⟩
  · exact ⟨_, Tryz.underlying75, rfl⟩
  · exact ⟨_, Tryz.underlying76, rfl⟩
  · exact ⟨_, Tryz.underlying77, rfl⟩
  · exact ⟨_, Tryz.underlying79, rfl⟩
  · exact ⟨_, Tryz.underlying80, rfl⟩
  · exact ⟨_, Tryz.underlying81, rfl⟩
  · exact ⟨_, Tryz.underlying82, rfl⟩
  · exact ⟨_, Tryz.underlying83, rfl⟩
  · exact ⟨_, Tryz.underlying85, rfl⟩
  · exact ⟨_, Tryz.underlying88, rfl⟩
  · exact ⟨_, Tryz.underlying89, rfl⟩
  · exact ⟨_, Tryz.underlying90, rfl⟩
  · exact ⟨_, Tryz.underlying92, rfl⟩
  · exact ⟨_, Tryz.underlying93, rfl⟩
  · exact ⟨_, Tryz.underlying94, rfl⟩
  · exact ⟨_, Tryz.underlying95, rfl⟩
  · exact ⟨_, Tryz.underlying96, rfl⟩
  · exact ⟨_, Tryz.underlying97, rfl⟩
  · exact ⟨_, Tryz.underlying98, rfl⟩
  · exact ⟨_, Tryz.underlying99, rfl⟩
  · exact ⟨_, Tryz.underlying100, rfl⟩
  · exact ⟨_, Tryz.underlying101, rfl⟩
  · exact ⟨_, Tryz.underlying102, rfl⟩
  · exact ⟨_, Tryz.underlying103, rfl⟩
  · exact ⟨_, Tryz.underlying104, rfl⟩
  · exact ⟨_, Tryz.underlying105, rfl⟩
  · exact ⟨_, Tryz.underlying106, rfl⟩
  · exact ⟨_, Tryz.underlying107, rfl⟩
  · exact ⟨_, Tryz.underlying108, rfl⟩
  · exact ⟨_, Tryz.underlying109, rfl⟩
  · exact ⟨_, Tryz.underlying110, rfl⟩
  · exact ⟨_, Tryz.underlying111, rfl⟩
  · exact ⟨_, Tryz.underlying112, rfl⟩
  · exact ⟨_, Tryz.underlying113, rfl⟩
  · exact ⟨_, Tryz.underlying114, rfl⟩
  · exact ⟨_, Tryz.underlying115, rfl⟩
  · exact ⟨_, Tryz.underlying116, rfl⟩
  · exact ⟨_, Tryz.underlying117, rfl⟩
  · exact ⟨_, Tryz.underlying118, rfl⟩
  · exact ⟨_, Tryz.underlying119, rfl⟩
  · exact ⟨_, Tryz.underlying120, rfl⟩
  · exact ⟨_, Tryz.underlying121, rfl⟩
  · exact ⟨_, Tryz.underlying122, rfl⟩
  · exact ⟨_, Tryz.underlying123, rfl⟩
  · exact ⟨_, Tryz.underlying124, rfl⟩
  · exact ⟨_, Tryz.underlying125, rfl⟩
  · exact ⟨_, Tryz.underlying126, rfl⟩
  · exact ⟨_, Tryz.underlying127, rfl⟩
  · exact ⟨_, Tryz.underlying128, rfl⟩
  · exact ⟨_, Tryz.underlying129, rfl⟩
  · exact ⟨_, Tryz.underlying130, rfl⟩
  · exact ⟨_, Tryz.underlying131, rfl⟩
  · exact ⟨_, Tryz.underlying132, rfl⟩
  · exact ⟨_, Tryz.underlying133, rfl⟩
  · exact ⟨_, Tryz.underlying134, rfl⟩
  · exact ⟨_, Tryz.underlying135, rfl⟩
  · exact ⟨_, Tryz.underlying136, rfl⟩
  · exact ⟨_, Tryz.underlying138, rfl⟩
  · exact ⟨_, Tryz.underlying139, rfl⟩
  · exact ⟨_, Tryz.underlying140, rfl⟩
  · exact ⟨_, Tryz.underlying141, rfl⟩
  · exact ⟨_, Tryz.underlying142, rfl⟩
  · exact ⟨_, Tryz.underlying144, rfl⟩
  · exact ⟨_, Tryz.underlying145, rfl⟩
  · exact ⟨_, Tryz.underlying146, rfl⟩
  · exact ⟨_, Tryz.underlying147, rfl⟩
  · exact ⟨_, Tryz.underlying148, rfl⟩
  · exact ⟨_, Tryz.underlying149, rfl⟩
  · exact ⟨_, Tryz.underlying150, rfl⟩
  · exact ⟨_, Tryz.underlying154, rfl⟩
  · exact ⟨_, Tryz.underlying155, rfl⟩
  · exact ⟨_, Tryz.underlying156, rfl⟩
  · exact ⟨_, Tryz.underlying157, rfl⟩
  · exact ⟨_, Tryz.underlying159, rfl⟩
  · exact ⟨_, Tryz.underlying160, rfl⟩
  · exact ⟨_, Tryz.underlying161, rfl⟩
  · exact ⟨_, Tryz.underlying166, rfl⟩
  · exact ⟨_, Tryz.underlying167, rfl⟩
  · exact ⟨_, Tryz.underlying168, rfl⟩
  · exact ⟨_, Tryz.underlying169, rfl⟩
  · exact ⟨_, Tryz.underlying170, rfl⟩
  · exact ⟨_, Tryz.underlying176, rfl⟩
  · exact ⟨_, Tryz.underlying180, rfl⟩
  · cases h
def manyTy : Nat → Option Nat
  | 24 => some 2
  | 25 => some 2
  | 31 => some 13
  | 32 => some 13
  | 40 => some 6
  | 41 => some 6
  | 51 => some 2
  | 52 => some 2
  | 54 => some 3
  | 55 => some 3
  | 78 => some 3
  | 84 => some 2
  | 86 => some 3
  | 87 => some 3
  | 151 => some 256
  | 152 => some 256
  | 162 => some 256
  | 163 => some 2
  | 164 => some 2
  | 165 => some 32
  | 185 => some 2
  | 186 => some 2
  | 187 => some 3
  | 188 => some 3
  | _ => none
theorem manyTy_ok {t k : Nat} (h : manyTy t = some k) : ∃ q, Tryz.prog.underlying t = some q ∧ isMany q = true := by
  unfold manyTy at h
  split at h
  · exact ⟨_, Tryz.underlying24, rfl⟩
  · exact ⟨_, Tryz.underlying25, rfl⟩
  · exact ⟨_, Tryz.underlying31, rfl⟩
  · exact ⟨_, Tryz.underlying32, rfl⟩
  · exact ⟨_, Tryz.underlying40, rfl⟩
  · exact ⟨_, Tryz.underlying41, rfl⟩
  · exact ⟨_, Tryz.underlying51, rfl⟩
  · exact ⟨_, Tryz.underlying52, rfl⟩
  · exact ⟨_, Tryz.underlying54, rfl⟩
  · exact ⟨_, Tryz.underlying55, rfl⟩
  · exact ⟨_, Tryz.underlying78, rfl⟩
  · exact ⟨_, Tryz.underlying84, rfl⟩
  · exact ⟨_, Tryz.underlying86, rfl⟩
  · exact ⟨_, Tryz.underlying87, rfl⟩
  · exact ⟨_, Tryz.underlying151, rfl⟩
  · exact ⟨_, Tryz.underlying152, rfl⟩
  · exact ⟨_, Tryz.underlying162, rfl⟩
  · exact ⟨_, Tryz.underlying163, rfl⟩
  · exact ⟨_, Tryz.underlying164, rfl⟩
  · exact ⟨_, Tryz.underlying165, rfl⟩
  · exact ⟨_, Tryz.underlying185, rfl⟩
  · exact ⟨_, Tryz.underlying186, rfl⟩
  · exact ⟨_, Tryz.underlying187, rfl⟩
  · exact ⟨_, Tryz.underlying188, rfl⟩
  · cases h
def sizeTy : Nat → Option Nat
  | 1 => some 1
  | 2 => some 1
  | 3 => some 1
  | 4 => some 1
  | 5 => some 1
  | 9 => some 1
  | 21 => some 1
  | 22 => some 1
  | 23 => some 1
  | 24 => some 2
  | 25 => some 2
  | 26 => some 1
  | 27 => some 1
  | 28 => some 1
  | 29 => some 1
  | 30 => some 1
  | 31 => some 13
  | 32 => some 13
  | 33 => some 1
  | 35 => some 1
  | 36 => some 1
  | 37 => some 1
  | 39 => some 1
  | 40 => some 6
  | 41 => some 6
  | 42 => some 1
  | 43 => some 1
  | 44 => some 1
  | 45 => some 1
  | 47 => some 1
  | 48 => some 1
  | 49 => some 1
  | 50 => some 1
  | 51 => some 2
  | 52 => some 2
  | 53 => some 1
  | 54 => some 3
  | 55 => some 3
  | 57 => some 1
  | 58 => some 1
  | 59 => some 1
  | 60 => some 1
  | 61 => some 1
  | 62 => some 1
  | 63 => some 1
  | 65 => some 1
  | 67 => some 1
  | 68 => some 1
  | 69 => some 1
  | 70 => some 1
  | 71 => some 1
  | 72 => some 1
  | 73 => some 1
  | 75 => some 1
  | 76 => some 1
  | 77 => some 1
  | 78 => some 3
  | 79 => some 1
  | 80 => some 1
  | 81 => some 1
  | 82 => some 1
  | 83 => some 1
  | 84 => some 2
  | 85 => some 1
  | 86 => some 3
  | 87 => some 3
  | 88 => some 1
  | 89 => some 1
  | 90 => some 1
  | 92 => some 1
  | 93 => some 1
  | 94 => some 1
  | 95 => some 1
  | 96 => some 1
  | 97 => some 1
  | 98 => some 1
  | 99 => some 1
  | 100 => some 1
  | 101 => some 1
  | 102 => some 1
  | 103 => some 1
  | 104 => some 1
  | 105 => some 1
  | 106 => some 1
  | 107 => some 1
  | 108 => some 1
  | 109 => some 1
  | 110 => some 1
  | 111 => some 1
  | 112 => some 1
  | 113 => some 1
  | 114 => some 1
  | 115 => some 1
  | 116 => some 1
  | 117 => some 1
  | 118 => some 1
  | 119 => some 1
  | 120 => some 1
  | 121 => some 1
  | 122 => some 1
  | 123 => some 1
  | 124 => some 1
  | 125 => some 1
  | 126 => some 1
  | 127 => some 1
  | 128 => some 1
  | 129 => some 1
  | 130 => some 1
  | 131 => some 1
  | 132 => some 1
  | 133 => some 1
  | 134 => some 1
  | 135 => some 1
  | 136 => some 1
  | 138 => some 1
  | 139 => some 1
  | 140 => some 1
  | 141 => some 1
  | 142 => some 1
  | 144 => some 1
  | 145 => some 1
  | 146 => some 1
  | 147 => some 1
  | 148 => some 1
  | 149 => some 1
  | 150 => some 1
  | 151 => some 256
  | 152 => some 256
  | 154 => some 1
  | 155 => some 1
  | 156 => some 1
  | 157 => some 1
  | 159 => some 1
  | 160 => some 1
  | 161 => some 1
  | 162 => some 256
  | 163 => some 2
  | 164 => some 2
  | 165 => some 32
  | 166 => some 1
  | 167 => some 1
  | 168 => some 1
  | 169 => some 1
  | 170 => some 1
  | 176 => some 1
  | 180 => some 1
  | 185 => some 2
  | 186 => some 2
  | 187 => some 3
  | 188 => some 3
  | _ => none
theorem sizeTy_ok {t k : Nat} (h : sizeTy t = some k) : TSize Tryz.prog t k := by
  unfold sizeTy at h
  split at h
  · cases h; unfold TSize; kernel_rfl
  · cases h; unfold TSize; kernel_rfl
  · cases h; unfold TSize; kernel_rfl
  · cases h; unfold TSize; kernel_rfl
  · cases h; unfold TSize; kernel_rfl
  · cases h; unfold TSize; kernel_rfl
  · cases h; unfold TSize; kernel_rfl
  · cases h; unfold TSize; kernel_rfl
  · cases h; unfold TSize; kernel_rfl
  · cases h; unfold TSize; kernel_rfl
  · cases h; unfold TSize; kernel_rfl
  · cases h; unfold TSize; kernel_rfl
  · cases h; unfold TSize; kernel_rfl
  · cases h; unfold TSize; kernel_rfl
  · cases h; unfold TSize; kernel_rfl
  · cases h; unfold TSize; kernel_rfl
  · cases h; unfold TSize; kernel_rfl
  · cases h; unfold TSize; kernel_rfl
  · cases h; unfold TSize; kernel_rfl
  · cases h; unfold TSize; kernel_rfl
  · cases h; unfold TSize; kernel_rfl
  · cases h; unfold TSize; kernel_rfl
  · cases h; unfold TSize; kernel_rfl
  · cases h; unfold TSize; kernel_rfl
  · cases h; unfold TSize; kernel_rfl
  · cases h; unfold TSize; kernel_rfl
  · cases h; unfold TSize; kernel_rfl
  · cases h; unfold TSize; kernel_rfl
  · cases h; unfold TSize; kernel_rfl
  · cases h; unfold TSize; kernel_rfl
  · cases h; unfold TSize; kernel_rfl
  · cases h; unfold TSize; kernel_rfl
  · cases h; unfold TSize; kernel_rfl
  · cases h; unfold TSize; kernel_rfl
  · cases h; unfold TSize; kernel_rfl
  · cases h; unfold TSize; kernel_rfl
  · cases h; unfold TSize; kernel_rfl
  · cases h; unfold TSize; kernel_rfl
  · cases h; unfold TSize; kernel_rfl
  · cases h; unfold TSize; kernel_rfl
  · cases h; unfold TSize; kernel_rfl
  · cases h; unfold TSize; kernel_rfl
  · cases h; unfold TSize; kernel_rfl
  · cases h; unfold TSize; kernel_rfl
  · cases h; unfold TSize; kernel_rfl
  · cases h; unfold TSize; kernel_rfl
  · cases h; unfold TSize; kernel_rfl
  · cases h; unfold TSize; kernel_rfl
  · cases h; unfold TSize; kernel_rfl
  · cases h; unfold TSize; kernel_rfl
  · cases h; unfold TSize; kernel_rfl
  · cases h; unfold TSize; kernel_rfl
  · cases h; unfold TSize; kernel_rfl
  · cases h; unfold TSize; kernel_rfl
  · cases h; unfold TSize; kernel_rfl
  · cases h; unfold TSize; kernel_rfl
  · cases h; unfold TSize; kernel_rfl
  · cases h; unfold TSize; kernel_rfl
  · cases h; unfold TSize; kernel_rfl
  · cases h; unfold TSize; kernel_rfl
  · cases h; unfold TSize; kernel_rfl
  · cases h; unfold TSize; kernel_rfl
  · cases h; unfold TSize; kernel_rfl
  · cases h; unfold TSize; kernel_rfl
  · cases h; unfold TSize; kernel_rfl
  · cases h; unfold TSize; kernel_rfl
  · cases h; unfold TSize; kernel_rfl
  · cases h; unfold TSize; kernel_rfl
  · cases h; unfold TSize; kernel_rfl
  · cases h; unfold TSize; kernel_rfl
  · cases h; unfold TSize; kernel_rfl
  · cases h; unfold TSize; kernel_rfl
  · cases h; unfold TSize; kernel_rfl
  · cases h; unfold TSize; kernel_rfl
  · cases h; unfold TSize; kernel_rfl
  · cases h; unfold TSize; kernel_rfl
  · cases h; unfold TSize; kernel_rfl
  · cases h; unfold TSize; kernel_rfl
  · cases h; unfold TSize; kernel_rfl
  · cases h; unfold TSize; kernel_rfl
  · cases h; unfold TSize; kernel_rfl
  · cases h; unfold TSize; kernel_rfl
  · cases h; unfold TSize; kernel_rfl
  · cases h; unfold TSize; kernel_rfl
  · cases h; unfold TSize; kernel_rfl
  · cases h; unfold TSize; kernel_rfl
  · cases h; unfold TSize; kernel_rfl
  · cases h; unfold TSize; kernel_rfl
  · cases h; unfold TSize; kernel_rfl
  · cases h; unfold TSize; kernel_rfl
  · cases h; unfold TSize; kernel_rfl
  · cases h; unfold TSize; kernel_rfl
  · cases h; unfold TSize; kernel_rfl
  · cases h; unfold TSize; kernel_rfl
  · cases h; unfold TSize; kernel_rfl
  · cases h; unfold TSize; kernel_rfl
  · cases h; unfold TSize; kernel_rfl
  · cases h; unfold TSize; kernel_rfl
  · cases h; unfold TSize; kernel_rfl
  · cases h; unfold TSize; kernel_rfl
  · cases h; unfold TSize; kernel_rfl
  · cases h; unfold TSize; kernel_rfl
  · cases h; unfold TSize; kernel_rfl
  · cases h; unfold TSize; kernel_rfl
  · cases h; unfold TSize; kernel_rfl
  · cases h; unfold TSize; kernel_rfl
  · cases h; unfold TSize; kernel_rfl
  · cases h; unfold TSize; kernel_rfl
  · cases h; unfold TSize; kernel_rfl
  · cases h; unfold TSize; kernel_rfl
  · cases h; unfold TSize; kernel_rfl
  · cases h; unfold TSize; kernel_rfl
  · cases h; unfold TSize; kernel_rfl
  · cases h; unfold TSize; kernel_rfl
  · cases h; unfold TSize; kernel_rfl
  · cases h; unfold TSize; kernel_rfl
  · cases h; unfold TSize; kernel_rfl
  · cases h; unfold TSize; kernel_rfl
  · cases h; unfold TSize; kernel_rfl
  · cases h; unfold TSize; kernel_rfl
  · cases h; unfold TSize; kernel_rfl
  · cases h; unfold TSize; kernel_rfl
  · cases h; unfold TSize; kernel_rfl
  · cases h; unfold TSize; kernel_rfl
  · cases h; unfold TSize; kernel_rfl
  · cases h; unfold TSize; kernel_rfl
  · cases h; unfold TSize; kernel_rfl
  · cases h; unfold TSize; kernel_rfl
  · cases h; unfold TSize; kernel_rfl
  · cases h; unfold TSize; kernel_rfl
  · cases h; unfold TSize; kernel_rfl
  · cases h; unfold TSize; kernel_rfl
  · cases h; unfold TSize; kernel_rfl
  · cases h; unfold TSize; kernel_rfl
  · cases h; unfold TSize; kernel_rfl
  · cases h; unfold TSize; kernel_rfl
  · cases h; unfold TSize; kernel_rfl
  · cases h; unfold TSize; kernel_rfl
  · cases h; unfold TSize; kernel_rfl
  · cases h; unfold TSize; kernel_rfl
  · cases h; unfold TSize; kernel_rfl
  · cases h; unfold TSize; kernel_rfl
  · cases h; unfold TSize; kernel_rfl
  · cases h; unfold TSize; kernel_rfl
  · cases h; unfold TSize; kernel_rfl
  · cases h; unfold TSize; kernel_rfl
  · cases h; unfold TSize; kernel_rfl
  · cases h; unfold TSize; kernel_rfl
  · cases h; unfold TSize; kernel_rfl
  · cases h; unfold TSize; kernel_rfl
  · cases h
def slTy : Nat → Option (Nat × Nat)
  | 22 => some (84, 2)
  | 23 => some (87, 3)
  | 27 => some (186, 2)
  | 28 => some (52, 2)
  | 29 => some (188, 3)
  | 30 => some (3, 1)
  | 33 => some (41, 6)
  | 37 => some (9, 1)
  | 44 => some (49, 1)
  | 49 => some (55, 3)
  | 61 => some (5, 1)
  | 76 => some (53, 1)
  | 80 => some (30, 1)
  | 121 => some (133, 1)
  | 125 => some (4, 1)
  | _ => none
theorem slTy_ok {t e k : Nat} (h : slTy t = some (e, k)) : Tryz.prog.underlying t = some (.slice e) ∧ TSize Tryz.prog e k := by
  unfold slTy at h
  split at h
  · cases h; exact ⟨Tryz.underlying22, sizeTy_ok rfl⟩
  · cases h; exact ⟨Tryz.underlying23, sizeTy_ok rfl⟩
  · cases h; exact ⟨Tryz.underlying27, sizeTy_ok rfl⟩
  · cases h; exact ⟨Tryz.underlying28, sizeTy_ok rfl⟩
  · cases h; exact ⟨Tryz.underlying29, sizeTy_ok rfl⟩
  · cases h; exact ⟨Tryz.underlying30, sizeTy_ok rfl⟩
  · cases h; exact ⟨Tryz.underlying33, sizeTy_ok rfl⟩
  · cases h; exact ⟨Tryz.underlying37, sizeTy_ok rfl⟩
  · cases h; exact ⟨Tryz.underlying44, sizeTy_ok rfl⟩
  · cases h; exact ⟨Tryz.underlying49, sizeTy_ok rfl⟩
  · cases h; exact ⟨Tryz.underlying61, sizeTy_ok rfl⟩
  · cases h; exact ⟨Tryz.underlying76, sizeTy_ok rfl⟩
  · cases h; exact ⟨Tryz.underlying80, sizeTy_ok rfl⟩
  · cases h; exact ⟨Tryz.underlying121, sizeTy_ok rfl⟩
  · cases h; exact ⟨Tryz.underlying125, sizeTy_ok rfl⟩
  · cases h
def arrTy : Nat → Option (Nat × Nat × Nat)
  | 78 => some (3, 3, 1)
  | 84 => some (2, 3, 1)
  | 151 => some (256, 4, 1)
  | 152 => some (256, 4, 1)
  | 162 => some (256, 5, 1)
  | 165 => some (16, 164, 2)
  | _ => none
theorem arrTy_ok {t m e k : Nat} (h : arrTy t = some (m, e, k)) : Tryz.prog.underlying t = some (.array m e) ∧ TSize Tryz.prog e k := by
  unfold arrTy at h
  split at h
  · cases h; exact ⟨Tryz.underlying78, sizeTy_ok rfl⟩
  · cases h; exact ⟨Tryz.underlying84, sizeTy_ok rfl⟩
  · cases h; exact ⟨Tryz.underlying151, sizeTy_ok rfl⟩
  · cases h; exact ⟨Tryz.underlying152, sizeTy_ok rfl⟩
  · cases h; exact ⟨Tryz.underlying162, sizeTy_ok rfl⟩
  · cases h; exact ⟨Tryz.underlying165, sizeTy_ok rfl⟩
  · cases h
def strTy : Nat → Bool
  | 9 => true
  | 53 => true
  | _ => false
theorem strTy_ok {t : Nat} (h : strTy t = true) : Tryz.prog.underlying t = some .string := by
  unfold strTy at h
  split at h
  · exact Tryz.underlying9
  · exact Tryz.underlying53
  · cases h
def intTy : Nat → Option IntKind
  | 2 => some .i64
  | 3 => some .i64
  | 5 => some .u8
  | 21 => some .i32
  | 45 => some .i64
  | 123 => some .u64
  | 132 => some .u64
  | 133 => some .u32
  | _ => none
theorem intTy_ok {t : Nat} {k : IntKind} (h : intTy t = some k) : Tryz.prog.underlying t = some (.int k) := by
  unfold intTy at h
  split at h
  · cases h; exact Tryz.underlying2
  · cases h; exact Tryz.underlying3
  · cases h; exact Tryz.underlying5
  · cases h; exact Tryz.underlying21
  · cases h; exact Tryz.underlying45
  · cases h; exact Tryz.underlying123
  · cases h; exact Tryz.underlying132
  · cases h; exact Tryz.underlying133
  · cases h
def fieldTy : Nat → Nat → Option Nat
  | 24, 0 => some 0
  | 24, 1 => some 1
  | 25, 0 => some 0
  | 25, 1 => some 1
  | 31, 0 => some 0
  | 31, 1 => some 1
  | 31, 2 => some 2
  | 31, 3 => some 3
  | 31, 4 => some 4
  | 31, 5 => some 5
  | 31, 6 => some 6
  | 31, 7 => some 7
  | 31, 8 => some 8
  | 31, 9 => some 9
  | 31, 10 => some 10
  | 31, 11 => some 11
  | 31, 12 => some 12
  | 32, 0 => some 0
  | 32, 1 => some 1
  | 32, 2 => some 2
  | 32, 3 => some 3
  | 32, 4 => some 4
  | 32, 5 => some 5
  | 32, 6 => some 6
  | 32, 7 => some 7
  | 32, 8 => some 8
  | 32, 9 => some 9
  | 32, 10 => some 10
  | 32, 11 => some 11
  | 32, 12 => some 12
  | 40, 0 => some 0
  | 40, 1 => some 1
  | 40, 2 => some 2
  | 40, 3 => some 3
  | 40, 4 => some 4
  | 40, 5 => some 5
  | 41, 0 => some 0
  | 41, 1 => some 1
  | 41, 2 => some 2
  | 41, 3 => some 3
  | 41, 4 => some 4
  | 41, 5 => some 5
  | 51, 0 => some 0
  | 51, 1 => some 1
  | 52, 0 => some 0
  | 52, 1 => some 1
  | 54, 0 => some 0
  | 54, 1 => some 1
  | 54, 2 => some 2
  | 55, 0 => some 0
  | 55, 1 => some 1
  | 55, 2 => some 2
  | 86, 0 => some 0
  | 86, 1 => some 1
  | 86, 2 => some 2
  | 87, 0 => some 0
  | 87, 1 => some 1
  | 87, 2 => some 2
  | 163, 0 => some 0
  | 163, 1 => some 1
  | 164, 0 => some 0
  | 164, 1 => some 1
  | 185, 0 => some 0
  | 185, 1 => some 1
  | 186, 0 => some 0
  | 186, 1 => some 1
  | 187, 0 => some 0
  | 187, 1 => some 1
  | 187, 2 => some 2
  | 188, 0 => some 0
  | 188, 1 => some 1
  | 188, 2 => some 2
  | _, _ => none
section
variable {n : FrK} {w : World} {F : Fr} {d : Option Tmp} {ty : TypeId} {pos : String} {aft : Array Edge} {g : Option (Nat × Bool)} {x y : Operand}
set_option maxHeartbeats 2000000 in
theorem pf_field {s i off b o : Nat} (h : fieldTy s i = some off) (hx : ev n F x = .pointer (some ⟨b, o, none⟩)) : PV Tryz.prog n w F ⟨d, .fieldAddr s x i, ty, pos, aft, g⟩ (.pointer (some ⟨b, o + off, none⟩)) := by
  unfold fieldTy at h
  split at h
  · cases h; exact pv_fieldAt (k := 0) (by unfold FieldAt; kernel_rfl) hx
  · cases h; exact pv_fieldAt (k := 0) (by unfold FieldAt; kernel_rfl) hx
  · cases h; exact pv_fieldAt (k := 0) (by unfold FieldAt; kernel_rfl) hx
  · cases h; exact pv_fieldAt (k := 0) (by unfold FieldAt; kernel_rfl) hx
  · cases h; exact pv_fieldAt (k := 0) (by unfold FieldAt; kernel_rfl) hx
  · cases h; exact pv_fieldAt (k := 0) (by unfold FieldAt; kernel_rfl) hx
  · cases h; exact pv_fieldAt (k := 0) (by unfold FieldAt; kernel_rfl) hx
  · cases h; exact pv_fieldAt (k := 0) (by unfold FieldAt; kernel_rfl) hx
  · cases h; exact pv_fieldAt (k := 0) (by unfold FieldAt; kernel_rfl) hx
  · cases h; exact pv_fieldAt (k := 0) (by unfold FieldAt; kernel_rfl) hx
  · cases h; exact pv_fieldAt (k := 0) (by unfold FieldAt; kernel_rfl) hx
  · cases h; exact pv_fieldAt (k := 0) (by unfold FieldAt; kernel_rfl) hx
  · cases h; exact pv_fieldAt (k := 0) (by unfold FieldAt; kernel_rfl) hx
  · cases h; exact pv_fieldAt (k := 0) (by unfold FieldAt; kernel_rfl) hx
  · cases h; exact pv_fieldAt (k := 0) (by unfold FieldAt; kernel_rfl) hx
  · cases h; exact pv_fieldAt (k := 0) (by unfold FieldAt; kernel_rfl) hx
  · cases h; exact pv_fieldAt (k := 0) (by unfold FieldAt; kernel_rfl) hx
  · cases h; exact pv_fieldAt (k := 0) (by unfold FieldAt; kernel_rfl) hx
  · cases h; exact pv_fieldAt (k := 0) (by unfold FieldAt; kernel_rfl) hx
  · cases h; exact pv_fieldAt (k := 0) (by unfold FieldAt; kernel_rfl) hx
  · cases h; exact pv_fieldAt (k := 0) (by unfold FieldAt; kernel_rfl) hx
  · cases h; exact pv_fieldAt (k := 0) (by unfold FieldAt; kernel_rfl) hx
  · cases h; exact pv_fieldAt (k := 0) (by unfold FieldAt; kernel_rfl) hx
  · cases h; exact pv_fieldAt (k := 0) (by unfold FieldAt; kernel_rfl) hx
  · cases h; exact pv_fieldAt (k := 0) (by unfold FieldAt; kernel_rfl) hx
  · cases h; exact pv_fieldAt (k := 0) (by unfold FieldAt; kernel_rfl) hx
  · cases h; exact pv_fieldAt (k := 0) (by unfold FieldAt; kernel_rfl) hx
  · cases h; exact pv_fieldAt (k := 0) (by unfold FieldAt; kernel_rfl) hx
  · cases h; exact pv_fieldAt (k := 0) (by unfold FieldAt; kernel_rfl) hx
  · cases h; exact pv_fieldAt (k := 0) (by unfold FieldAt; kernel_rfl) hx
  · cases h; exact pv_fieldAt (k := 0) (by unfold FieldAt; kernel_rfl) hx
  · cases h; exact pv_fieldAt (k := 0) (by unfold FieldAt; kernel_rfl) hx
  · cases h; exact pv_fieldAt (k := 0) (by unfold FieldAt; kernel_rfl) hx
  · cases h; exact pv_fieldAt (k := 0) (by unfold FieldAt; kernel_rfl) hx
  · cases h; exact pv_fieldAt (k := 0) (by unfold FieldAt; kernel_rfl) hx
  · cases h; exact pv_fieldAt (k := 0) (by unfold FieldAt; kernel_rfl) hx
  · cases h; exact pv_fieldAt (k := 0) (by unfold FieldAt; kernel_rfl) hx
  · cases h; exact pv_fieldAt (k := 0) (by unfold FieldAt; kernel_rfl) hx
  · cases h; exact pv_fieldAt (k := 0) (by unfold FieldAt; kernel_rfl) hx
  · cases h; exact pv_fieldAt (k := 0) (by unfold FieldAt; kernel_rfl) hx
  · cases h; exact pv_fieldAt (k := 0) (by unfold FieldAt; kernel_rfl) hx
  · cases h; exact pv_fieldAt (k := 0) (by unfold FieldAt; kernel_rfl) hx
  · cases h; exact pv_fieldAt (k := 0) (by unfold FieldAt; kernel_rfl) hx
  · cases h; exact pv_fieldAt (k := 0) (by unfold FieldAt; kernel_rfl) hx
  · cases h; exact pv_fieldAt (k := 0) (by unfold FieldAt; kernel_rfl) hx
  · cases h; exact pv_fieldAt (k := 0) (by unfold FieldAt; kernel_rfl) hx
  · cases h; exact pv_fieldAt (k := 0) (by unfold FieldAt; kernel_rfl) hx
  · cases h; exact pv_fieldAt (k := 0) (by unfold FieldAt; kernel_rfl) hx
  · cases h; exact pv_fieldAt (k := 0) (by unfold FieldAt; kernel_rfl) hx
  · cases h; exact pv_fieldAt (k := 0) (by unfold FieldAt; kernel_rfl) hx
  · cases h; exact pv_fieldAt (k := 0) (by unfold FieldAt; kernel_rfl) hx
  · cases h; exact pv_fieldAt (k := 0) (by unfold FieldAt; kernel_rfl) hx
  · cases h; exact pv_fieldAt (k := 0) (by unfold FieldAt; kernel_rfl) hx
  · cases h; exact pv_fieldAt (k := 0) (by unfold FieldAt; kernel_rfl) hx
  · cases h; exact pv_fieldAt (k := 0) (by unfold FieldAt; kernel_rfl) hx
  · cases h; exact pv_fieldAt (k := 0) (by unfold FieldAt; kernel_rfl) hx
  · cases h; exact pv_fieldAt (k := 0) (by unfold FieldAt; kernel_rfl) hx
  · cases h; exact pv_fieldAt (k := 0) (by unfold FieldAt; kernel_rfl) hx
  · cases h; exact pv_fieldAt (k := 0) (by unfold FieldAt; kernel_rfl) hx
  · cases h; exact pv_fieldAt (k := 0) (by unfold FieldAt; kernel_rfl) hx
  · cases h; exact pv_fieldAt (k := 0) (by unfold FieldAt; kernel_rfl) hx
  · cases h; exact pv_fieldAt (k := 0) (by unfold FieldAt; kernel_rfl) hx
  · cases h; exact pv_fieldAt (k := 0) (by unfold FieldAt; kernel_rfl) hx
  · cases h; exact pv_fieldAt (k := 0) (by unfold FieldAt; kernel_rfl) hx
  · cases h; exact pv_fieldAt (k := 0) (by unfold FieldAt; kernel_rfl) hx
  · cases h; exact pv_fieldAt (k := 0) (by unfold FieldAt; kernel_rfl) hx
  · cases h; exact pv_fieldAt (k := 0) (by unfold FieldAt; kernel_rfl) hx
  · cases h; exact pv_fieldAt (k := 0) (by unfold FieldAt; kernel_rfl) hx
  · cases h; exact pv_fieldAt (k := 0) (by unfold FieldAt; kernel_rfl) hx
  · cases h; exact pv_fieldAt (k := 0) (by unfold FieldAt; kernel_rfl) hx
  · cases h; exact pv_fieldAt (k := 0) (by unfold FieldAt; kernel_rfl) hx
  · cases h; exact pv_fieldAt (k := 0) (by unfold FieldAt; kernel_rfl) hx
  · cases h
theorem pf_load {t b o : Nat} {v : Value} (h : oneTy t = true) (hx : ev n F x = .pointer (some ⟨b, o, none⟩)) (hc : w.cell? ⟨b, o, none⟩ = some v) : PV Tryz.prog n w F ⟨d, .load t x, ty, pos, aft, g⟩ v := by
  obtain ⟨q, h1, h2⟩ := oneTy_ok h
  exact pv_load h1 h2 hx hc
theorem pf_loads {t b o k : Nat} {vs : List Value} (h : manyTy t = some k) (hz : sizeTy t = some k) (hx : ev n F x = .pointer (some ⟨b, o, none⟩)) (hl : vs.length = k) (hc : ∀ (j : Nat) (v : Value), vs[j]? = some v → w.cell? ⟨b, o + j, none⟩ = some v) :
    PV Tryz.prog n w F ⟨d, .load t x, ty, pos, aft, g⟩ (.agg vs.toArray) := by
  obtain ⟨q, h1, h2⟩ := manyTy_ok h
  exact pv_loads h1 h2 (sizeTy_ok hz) hx hl hc
theorem pf_loadb {t b o k : Nat} {f : Fr} (h : manyTy t = some k) (hz : sizeTy t = some k) (hx : ev n F x = .pointer (some ⟨b, o, none⟩)) (hc : ∀ (j : Nat) (v : Value), ((List.range k).map fun j => f (o + j))[j]? = some v → w.cell? ⟨b, o + j, none⟩ = some v) :
    PV Tryz.prog n w F ⟨d, .load t x, ty, pos, aft, g⟩ (.agg ((List.range k).map fun j => f (o + j)).toArray) := pf_loads h hz hx (by simp) hc
theorem pf_index {t e k m c b o i : Nat} {q : IntKind} {s : Option Addr} (h : slTy t = some (e, k)) (hx : ev n F x = .slice s m c) (hy : ev n F y = .int q i) (hs : s = some ⟨b, o, none⟩) (hi : i < m) :
    PV Tryz.prog n w F ⟨d, .indexAddr t x y, ty, pos, aft, g⟩ (.pointer (some ⟨b, o + i * k, none⟩)) := pv_index (slTy_ok h).1 (slTy_ok h).2 hx hy hs hi
theorem pf_index_a {t e k m b o i : Nat} {q : IntKind} (h : arrTy t = some (m, e, k)) (hx : ev n F x = .pointer (some ⟨b, o, none⟩)) (hy : ev n F y = .int q i) (hi : i < m) :
    PV Tryz.prog n w F ⟨d, .indexAddr t x y, ty, pos, aft, g⟩ (.pointer (some ⟨b, o + i * k, none⟩)) := pv_index_a (arrTy_ok h).1 (arrTy_ok h).2 hx hy hi
theorem pf_len {q p e k : Nat} {s : Option Addr} {m c : Nat} (h : slTy p = some (e, k)) (hx : ev n F x = .slice s m c) : PV Tryz.prog n w F ⟨d, .call ⟨.builtin .len, #[x], #[p]⟩, q, pos, aft, g⟩ (.int .i64 m) := pv_len (slTy_ok h).1 hx
theorem pf_lens {q p : Nat} {s : ByteArray} (h : strTy p = true) (hx : ev n F x = .string s) : PV Tryz.prog n w F ⟨d, .call ⟨.builtin .len, #[x], #[p]⟩, q, pos, aft, g⟩ (.int .i64 s.size) := pv_lens (strTy_ok h) hx
theorem pf_index_s {t : Nat} {s : ByteArray} {k : IntKind} {i : Nat} (h : strTy t = true) (hx : ev n F x = .string s) (hy : ev n F y = .int k i) (hi : i < s.size) : PV Tryz.prog n w F ⟨d, .index t x y, ty, pos, aft, g⟩ (.int .u8 (bAt s i)) :=
  pv_index_s (strTy_ok h) hx hy hi
theorem pf_conv {t t' : Nat} {k k' q : IntKind} {a : Int} (h : intTy t = some q) (h' : intTy t' = some k') (hx : ev n F x = .int k a) : PV Tryz.prog n w F ⟨d, .convert t t' x, ty, pos, aft, g⟩ (.int k' (k'.wrap a)) :=
  pv_conv (intTy_ok h') ⟨_, intTy_ok h⟩ hx
end
def zeroTy : Nat → Option Value
  | 1 => some (.nilFunc)
  | 2 => some (.int .i64 0)
  | 3 => some (.int .i64 0)
  | 4 => some (.bool false)
  | 5 => some (.int .u8 0)
  | 9 => some (.string ⟨#[]⟩)
  | 21 => some (.int .i32 0)
  | 22 => some (.slice none 0 0)
  | 23 => some (.slice none 0 0)
  | 24 => some (.agg #[.slice none 0 0, .slice none 0 0])
  | 25 => some (.agg #[.slice none 0 0, .slice none 0 0])
  | 26 => some (.nilFunc)
  | 27 => some (.slice none 0 0)
  | 28 => some (.slice none 0 0)
  | 29 => some (.slice none 0 0)
  | 30 => some (.slice none 0 0)
  | 31 => some (.agg #[.string ⟨#[]⟩, .int .i64 0, .int .i64 0, .int .i64 0, .int .i64 0, .int .i64 0, .slice none 0 0, .bool false, .slice none 0 0, .int .i64 0, .int .i64 0, .slice none 0 0, .slice none 0 0])
  | 32 => some (.agg #[.string ⟨#[]⟩, .int .i64 0, .int .i64 0, .int .i64 0, .int .i64 0, .int .i64 0, .slice none 0 0, .bool false, .slice none 0 0, .int .i64 0, .int .i64 0, .slice none 0 0, .slice none 0 0])
  | 33 => some (.slice none 0 0)
  | 35 => some (.nilFunc)
  | 36 => some (.nilFunc)
  | 37 => some (.slice none 0 0)
  | 39 => some (.nilFunc)
  | 40 => some (.agg #[.int .i64 0, .int .i64 0, .int .i64 0, .slice none 0 0, .slice none 0 0, .slice none 0 0])
  | 41 => some (.agg #[.int .i64 0, .int .i64 0, .int .i64 0, .slice none 0 0, .slice none 0 0, .slice none 0 0])
  | 42 => some (.nilFunc)
  | 43 => some (.nilFunc)
  | 44 => some (.slice none 0 0)
  | 45 => some (.int .i64 0)
  | 47 => some (.nilFunc)
  | 48 => some (.nilFunc)
  | 49 => some (.slice none 0 0)
  | 50 => some (.nilFunc)
  | 51 => some (.agg #[.string ⟨#[]⟩, .int .i64 0])
  | 52 => some (.agg #[.string ⟨#[]⟩, .int .i64 0])
  | 53 => some (.string ⟨#[]⟩)
  | 54 => some (.agg #[.bool false, .string ⟨#[]⟩, .string ⟨#[]⟩])
  | 55 => some (.agg #[.bool false, .string ⟨#[]⟩, .string ⟨#[]⟩])
  | 57 => some (.nilFunc)
  | 58 => some (.nilFunc)
  | 59 => some (.nilFunc)
  | 60 => some (.nilFunc)
  | 61 => some (.slice none 0 0)
  | 62 => some (.map none)
  | 63 => some (.nilFunc)
  | 65 => some (.nilFunc)
  | 67 => some (.nilFunc)
  | 68 => some (.nilFunc)
  | 69 => some (.nilFunc)
  | 70 => some (.nilFunc)
  | 71 => some (.nilFunc)
  | 72 => some (.nilFunc)
  | 73 => some (.nilFunc)
  | 75 => some (.nilFunc)
  | 76 => some (.slice none 0 0)
  | 77 => some (.nilFunc)
  | 78 => some (.agg #[.int .i64 0, .int .i64 0, .int .i64 0])
  | 79 => some (.nilFunc)
  | 80 => some (.slice none 0 0)
  | 81 => some (.nilFunc)
  | 82 => some (.nilFunc)
  | 83 => some (.nilFunc)
  | 84 => some (.agg #[.int .i64 0, .int .i64 0])
  | 85 => some (.nilFunc)
  | 86 => some (.agg #[.int .i64 0, .int .i64 0, .slice none 0 0])
  | 87 => some (.agg #[.int .i64 0, .int .i64 0, .slice none 0 0])
  | 88 => some (.nilFunc)
  | 89 => some (.nilFunc)
  | 90 => some (.map none)
  | 92 => some (.nilFunc)
  | 93 => some (.nilFunc)
  | 94 => some (.nilFunc)
  | 95 => some (.nilFunc)
  | 96 => some (.nilFunc)
  | 97 => some (.nilFunc)
  | 98 => some (.nilFunc)
  | 99 => some (.nilFunc)
  | 100 => some (.nilFunc)
  | 101 => some (.nilFunc)
  | 102 => some (.nilFunc)
  | 103 => some (.nilFunc)
  | 104 => some (.nilFunc)
  | 105 => some (.nilFunc)
  | 106 => some (.nilFunc)
  | 107 => some (.nilFunc)
  | 108 => some (.nilFunc)
  | 109 => some (.nilFunc)
  | 110 => some (.nilFunc)
  | 111 => some (.nilFunc)
  | 112 => some (.nilFunc)
  | 113 => some (.nilFunc)
  | 114 => some (.nilFunc)
  | 115 => some (.nilFunc)
  | 116 => some (.nilFunc)
  | 117 => some (.nilFunc)
  | 118 => some (.nilFunc)
  | 119 => some (.nilFunc)
  | 120 => some (.nilFunc)
  | 121 => some (.slice none 0 0)
  | 122 => some (.nilFunc)
  | 123 => some (.int .u64 0)
  | 124 => some (.nilFunc)
  | 125 => some (.slice none 0 0)
  | 126 => some (.nilFunc)
  | 127 => some (.nilFunc)
  | 128 => some (.nilFunc)
  | 129 => some (.nilFunc)
  | 130 => some (.nilFunc)
  | 131 => some (.nilFunc)
  | 132 => some (.int .u64 0)
  | 133 => some (.int .u32 0)
  | 134 => some (.nilFunc)
  | 135 => some (.nilFunc)
  | 136 => some (.nilFunc)
  | 138 => some (.nilFunc)
  | 139 => some (.nilFunc)
  | 140 => some (.nilFunc)
  | 141 => some (.nilFunc)
  | 142 => some (.nilFunc)
  | 144 => some (.nilFunc)
  | 145 => some (.nilFunc)
  | 146 => some (.nilFunc)
  | 147 => some (.nilFunc)
  | 148 => some (.nilFunc)
  | 149 => some (.nilFunc)
  | 150 => some (.nilFunc)
  | 154 => some (.nilFunc)
  | 155 => some (.nilFunc)
  | 156 => some (.pointer none)
  | 157 => some (.nilFunc)
  | 159 => some (.nilFunc)
  | 160 => some (.nilFunc)
  | 161 => some (.nilFunc)
  | 163 => some (.agg #[.int .u8 0, .int .u8 0])
  | 164 => some (.agg #[.int .u8 0, .int .u8 0])
  | 165 => some (.agg #[.int .u8 0, .int .u8 0, .int .u8 0, .int .u8 0, .int .u8 0, .int .u8 0, .int .u8 0, .int .u8 0, .int .u8 0, .int .u8 0, .int .u8 0, .int .u8 0, .int .u8 0, .int .u8 0, .int .u8 0, .int .u8 0, .int .u8 0, .int .u8 0, .int .u8 0, .int .u8 0, .int .u8 0, .int .u8 0, .int .u8 0, .int .u8 0, .int .u8 0, .int .u8 0, .int .u8 0, .int .u8 0, .int .u8 0, .int .u8 0, .int .u8 0, .int .u8 0])
  | 166 => some (.nilFunc)
  | 167 => some (.nilFunc)
  | 168 => some (.nilFunc)
  | 169 => some (.nilFunc)
  | 170 => some (.nilFunc)
  | 176 => some (.nilFunc)
  | 180 => some (.pointer none)
  | 185 => some (.agg #[.int .i64 0, .int .i64 0])
  | 186 => some (.agg #[.int .i64 0, .int .i64 0])
  | 187 => some (.agg #[.string ⟨#[]⟩, .int .i64 0, .int .i64 0])
  | 188 => some (.agg #[.string ⟨#[]⟩, .int .i64 0, .int .i64 0])
  | _ => none
theorem zeroTy_ok {t : Nat} {z : Value} (h : zeroTy t = some z) : TZero Tryz.prog t z := by
  unfold zeroTy at h
  split at h
  · cases h; unfold TZero; kernel_rfl
  · cases h; unfold TZero; kernel_rfl
  · cases h; unfold TZero; kernel_rfl
  · cases h; unfold TZero; kernel_rfl
  · cases h; unfold TZero; kernel_rfl
  · cases h; unfold TZero; kernel_rfl
  · cases h; unfold TZero; kernel_rfl
  · cases h; unfold TZero; kernel_rfl
  · cases h; unfold TZero; kernel_rfl
  · cases h; unfold TZero; kernel_rfl
  · cases h; unfold TZero; kernel_rfl
  · cases h; unfold TZero; kernel_rfl
  · cases h; unfold TZero; kernel_rfl
  · cases h; unfold TZero; kernel_rfl
  · cases h; unfold TZero; kernel_rfl
  · cases h; unfold TZero; kernel_rfl
  · cases h; unfold TZero; kernel_rfl
  · cases h; unfold TZero; kernel_rfl
  · cases h; unfold TZero; kernel_rfl
  · cases h; unfold TZero; kernel_rfl
  · cases h; unfold TZero; kernel_rfl
  · cases h; unfold TZero; kernel_rfl
  · cases h; unfold TZero; kernel_rfl
  · cases h; unfold TZero; kernel_rfl
  · cases h; unfold TZero; kernel_rfl
  · cases h; unfold TZero; kernel_rfl
  · cases h; unfold TZero; kernel_rfl
  · cases h; unfold TZero; kernel_rfl
  · cases h; unfold TZero; kernel_rfl
  · cases h; unfold TZero; kernel_rfl
  · cases h; unfold TZero; kernel_rfl
  · cases h; unfold TZero; kernel_rfl
  · cases h; unfold TZero; kernel_rfl
  · cases h; unfold TZero; kernel_rfl
  · cases h; unfold TZero; kernel_rfl
  · cases h; unfold TZero; kernel_rfl
  · cases h; unfold TZero; kernel_rfl
  · cases h; unfold TZero; kernel_rfl
  · cases h; unfold TZero; kernel_rfl
  · cases h; unfold TZero; kernel_rfl
  · cases h; unfold TZero; kernel_rfl
  · cases h; unfold TZero; kernel_rfl
  · cases h; unfold TZero; kernel_rfl
  · cases h; unfold TZero; kernel_rfl
  · cases h; unfold TZero; kernel_rfl
  · cases h; unfold TZero; kernel_rfl
  · cases h; unfold TZero; kernel_rfl
  · cases h; unfold TZero; kernel_rfl
  · cases h; unfold TZero; kernel_rfl
  · cases h; unfold TZero; kernel_rfl
  · cases h; unfold TZero; kernel_rfl
  · cases h; unfold TZero; kernel_rfl
  · cases h; unfold TZero; kernel_rfl
  · cases h; unfold TZero; kernel_rfl
  · cases h; unfold TZero; kernel_rfl
  · cases h; unfold TZero; kernel_rfl
  · cases h; unfold TZero; kernel_rfl
  · cases h; unfold TZero; kernel_rfl
  · cases h; unfold TZero; kernel_rfl
  · cases h; unfold TZero; kernel_rfl
  · cases h; unfold TZero; kernel_rfl
  · cases h; unfold TZero; kernel_rfl
  · cases h; unfold TZero; kernel_rfl
  · cases h; unfold TZero; kernel_rfl
  · cases h; unfold TZero; kernel_rfl
  · cases h; unfold TZero; kernel_rfl
  · cases h; unfold TZero; kernel_rfl
  · cases h; unfold TZero; kernel_rfl
  · cases h; unfold TZero; kernel_rfl
  · cases h; unfold TZero; kernel_rfl
  · cases h; unfold TZero; kernel_rfl
  · cases h; unfold TZero; kernel_rfl
  · cases h; unfold TZero; kernel_rfl
  · cases h; unfold TZero; kernel_rfl
  · cases h; unfold TZero; kernel_rfl
  · cases h; unfold TZero; kernel_rfl
  · cases h; unfold TZero; kernel_rfl
  · cases h; unfold TZero; kernel_rfl
  · cases h; unfold TZero; kernel_rfl
  · cases h; unfold TZero; kernel_rfl
  · cases h; unfold TZero; kernel_rfl
  · cases h; unfold TZero; kernel_rfl
  · cases h; unfold TZero; kernel_rfl
  · cases h; unfold TZero; kernel_rfl
  · cases h; unfold TZero; kernel_rfl
  · cases h; unfold TZero; kernel_rfl
  · cases h; unfold TZero; kernel_rfl
  · cases h; unfold TZero; kernel_rfl
  · cases h; unfold TZero; kernel_rfl
  · cases h; unfold TZero; kernel_rfl
  · cases h; unfold TZero; kernel_rfl
  · cases h; unfold TZero; kernel_rfl
  · cases h; unfold TZero; kernel_rfl
  · cases h; unfold TZero; kernel_rfl
  · cases h; unfold TZero; kernel_rfl
  · cases h; unfold TZero; kernel_rfl
  · cases h; unfold TZero; kernel_rfl
  · cases h; unfold TZero; kernel_rfl
  · cases h; unfold TZero; kernel_rfl
  · cases h; unfold TZero; kernel_rfl
  · cases h; unfold TZero; kernel_rfl
  · cases h; unfold TZero; kernel_rfl
  · cases h; unfold TZero; kernel_rfl
  · cases h; unfold TZero; kernel_rfl
  · cases h; unfold TZero; kernel_rfl
  · cases h; unfold TZero; kernel_rfl
  · cases h; unfold TZero; kernel_rfl
  · cases h; unfold TZero; kernel_rfl
  · cases h; unfold TZero; kernel_rfl
  · cases h; unfold TZero; kernel_rfl
  · cases h; unfold TZero; kernel_rfl
  · cases h; unfold TZero; kernel_rfl
  · cases h; unfold TZero; kernel_rfl
  · cases h; unfold TZero; kernel_rfl
  · cases h; unfold TZero; kernel_rfl
  · cases h; unfold TZero; kernel_rfl
  · cases h; unfold TZero; kernel_rfl
  · cases h; unfold TZero; kernel_rfl
  · cases h; unfold TZero; kernel_rfl
  · cases h; unfold TZero; kernel_rfl
  · cases h; unfold TZero; kernel_rfl
  · cases h; unfold TZero; kernel_rfl
  · cases h; unfold TZero; kernel_rfl
  · cases h; unfold TZero; kernel_rfl
  · cases h; unfold TZero; kernel_rfl
  · cases h; unfold TZero; kernel_rfl
  · cases h; unfold TZero; kernel_rfl
  · cases h; unfold TZero; kernel_rfl
  · cases h; unfold TZero; kernel_rfl
  · cases h; unfold TZero; kernel_rfl
  · cases h; unfold TZero; kernel_rfl
  · cases h; unfold TZero; kernel_rfl
  · cases h; unfold TZero; kernel_rfl
  · cases h; unfold TZero; kernel_rfl
  · cases h; unfold TZero; kernel_rfl
  · cases h; unfold TZero; kernel_rfl
  · cases h; unfold TZero; kernel_rfl
  · cases h; unfold TZero; kernel_rfl
  · cases h; unfold TZero; kernel_rfl
  · cases h; unfold TZero; kernel_rfl
  · cases h; unfold TZero; kernel_rfl
  · cases h; unfold TZero; kernel_rfl
  · cases h; unfold TZero; kernel_rfl
  · cases h; unfold TZero; kernel_rfl
  · cases h; unfold TZero; kernel_rfl
  · cases h; unfold TZero; kernel_rfl
  · cases h; unfold TZero; kernel_rfl
  · cases h
def byteTy : Nat → Option Nat
  | 1 => some 8
  | 2 => some 8
  | 3 => some 8
  | 4 => some 1
  | 5 => some 1
  | 9 => some 16
  | 21 => some 4
  | 22 => some 24
  | 23 => some 24
  | 24 => some 48
  | 25 => some 48
  | 26 => some 8
  | 27 => some 24
  | 28 => some 24
  | 29 => some 24
  | 30 => some 24
  | 31 => some 176
  | 32 => some 176
  | 33 => some 24
  | 35 => some 8
  | 36 => some 8
  | 37 => some 24
  | 39 => some 8
  | 40 => some 96
  | 41 => some 96
  | 42 => some 8
  | 43 => some 8
  | 44 => some 24
  | 45 => some 8
  | 47 => some 8
  | 48 => some 8
  | 49 => some 24
  | 50 => some 8
  | 51 => some 24
  | 52 => some 24
  | 53 => some 16
  | 54 => some 40
  | 55 => some 40
  | 57 => some 8
  | 58 => some 8
  | 59 => some 8
  | 60 => some 8
  | 61 => some 24
  | 62 => some 8
  | 63 => some 8
  | 65 => some 8
  | 67 => some 8
  | 68 => some 8
  | 69 => some 8
  | 70 => some 8
  | 71 => some 8
  | 72 => some 8
  | 73 => some 8
  | 75 => some 8
  | 76 => some 24
  | 77 => some 8
  | 78 => some 24
  | 79 => some 8
  | 80 => some 24
  | 81 => some 8
  | 82 => some 8
  | 83 => some 8
  | 84 => some 16
  | 85 => some 8
  | 86 => some 40
  | 87 => some 40
  | 88 => some 8
  | 89 => some 8
  | 90 => some 8
  | 92 => some 8
  | 93 => some 8
  | 94 => some 8
  | 95 => some 8
  | 96 => some 8
  | 97 => some 8
  | 98 => some 8
  | 99 => some 8
  | 100 => some 8
  | 101 => some 8
  | 102 => some 8
  | 103 => some 8
  | 104 => some 8
  | 105 => some 8
  | 106 => some 8
  | 107 => some 8
  | 108 => some 8
  | 109 => some 8
  | 110 => some 8
  | 111 => some 8
  | 112 => some 8
  | 113 => some 8
  | 114 => some 8
  | 115 => some 8
  | 116 => some 8
  | 117 => some 8
  | 118 => some 8
  | 119 => some 8
  | 120 => some 8
  | 121 => some 24
  | 122 => some 8
  | 123 => some 8
  | 124 => some 8
  | 125 => some 24
  | 126 => some 8
  | 127 => some 8
  | 128 => some 8
  | 129 => some 8
  | 130 => some 8
  | 131 => some 8
  | 132 => some 8
  | 133 => some 4
  | 134 => some 8
  | 135 => some 8
  | 136 => some 8
  | 138 => some 8
  | 139 => some 8
  | 140 => some 8
  | 141 => some 8
  | 142 => some 8
  | 144 => some 8
  | 145 => some 8
  | 146 => some 8
  | 147 => some 8
  | 148 => some 8
  | 149 => some 8
  | 150 => some 8
  | 151 => some 256
  | 152 => some 256
  | 154 => some 8
  | 155 => some 8
  | 156 => some 8
  | 157 => some 8
  | 159 => some 8
  | 160 => some 8
  | 161 => some 8
  | 162 => some 256
  | 163 => some 2
  | 164 => some 2
  | 165 => some 32
  | 166 => some 8
  | 167 => some 8
  | 168 => some 8
  | 169 => some 8
  | 170 => some 8
  | 176 => some 8
  | 180 => some 8
  | 185 => some 16
  | 186 => some 16
  | 187 => some 32
  | 188 => some 32
  | _ => none
theorem byteTy_ok {t k : Nat} (h : byteTy t = some k) : TBytes Tryz.prog t k := by
  unfold byteTy at h
  split at h
  · cases h; unfold TBytes; kernel_rfl
  · cases h; unfold TBytes; kernel_rfl
  · cases h; unfold TBytes; kernel_rfl
  · cases h; unfold TBytes; kernel_rfl
  · cases h; unfold TBytes; kernel_rfl
  · cases h; unfold TBytes; kernel_rfl
  · cases h; unfold TBytes; kernel_rfl
  · cases h; unfold TBytes; kernel_rfl
  · cases h; unfold TBytes; kernel_rfl
  · cases h; unfold TBytes; kernel_rfl
  · cases h; unfold TBytes; kernel_rfl
  · cases h; unfold TBytes; kernel_rfl
  · cases h; unfold TBytes; kernel_rfl
  · cases h; unfold TBytes; kernel_rfl
  · cases h; unfold TBytes; kernel_rfl
  · cases h; unfold TBytes; kernel_rfl
  · cases h; unfold TBytes; kernel_rfl
  · cases h; unfold TBytes; kernel_rfl
  · cases h; unfold TBytes; kernel_rfl
  · cases h; unfold TBytes; kernel_rfl
  · cases h; unfold TBytes; kernel_rfl
  · cases h; unfold TBytes; kernel_rfl
  · cases h; unfold TBytes; kernel_rfl
  · cases h; unfold TBytes; kernel_rfl
  · cases h; unfold TBytes; kernel_rfl
  · cases h; unfold TBytes; kernel_rfl
  · cases h; unfold TBytes; kernel_rfl
  · cases h; unfold TBytes; kernel_rfl
  · cases h; unfold TBytes; kernel_rfl
  · cases h; unfold TBytes; kernel_rfl
  · cases h; unfold TBytes; kernel_rfl
  · cases h; unfold TBytes; kernel_rfl
  · cases h; unfold TBytes; kernel_rfl
  · cases h; unfold TBytes; kernel_rfl
  · cases h; unfold TBytes; kernel_rfl
  · cases h; unfold TBytes; kernel_rfl
  · cases h; unfold TBytes; kernel_rfl
  · cases h; unfold TBytes; kernel_rfl
  · cases h; unfold TBytes; kernel_rfl
  · cases h; unfold TBytes; kernel_rfl
  · cases h; unfold TBytes; kernel_rfl
  · cases h; unfold TBytes; kernel_rfl
  · cases h; unfold TBytes; kernel_rfl
  · cases h; unfold TBytes; kernel_rfl
  · cases h; unfold TBytes; kernel_rfl
  · cases h; unfold TBytes; kernel_rfl
  · cases h; unfold TBytes; kernel_rfl
  · cases h; unfold TBytes; kernel_rfl
  · cases h; unfold TBytes; kernel_rfl
  · cases h; unfold TBytes; kernel_rfl
  · cases h; unfold TBytes; kernel_rfl
  · cases h; unfold TBytes; kernel_rfl
  · cases h; unfold TBytes; kernel_rfl
  · cases h; unfold TBytes; kernel_rfl
  · cases h; unfold TBytes; kernel_rfl
  · cases h; unfold TBytes; kernel_rfl
  · cases h; unfold TBytes; kernel_rfl
  · cases h; unfold TBytes; kernel_rfl
  · cases h; unfold TBytes; kernel_rfl
  · cases h; unfold TBytes; kernel_rfl
  · cases h; unfold TBytes; kernel_rfl
  · cases h; unfold TBytes; kernel_rfl
  · cases h; unfold TBytes; kernel_rfl
  · cases h; unfold TBytes; kernel_rfl
  · cases h; unfold TBytes; kernel_rfl
  · cases h; unfold TBytes; kernel_rfl
  · cases h; unfold TBytes; kernel_rfl
  · cases h; unfold TBytes; kernel_rfl
  · cases h; unfold TBytes; kernel_rfl
  · cases h; unfold TBytes; kernel_rfl
  · cases h; unfold TBytes; kernel_rfl
  · cases h; unfold TBytes; kernel_rfl
  · cases h; unfold TBytes; kernel_rfl
  · cases h; unfold TBytes; kernel_rfl
  · cases h; unfold TBytes; kernel_rfl
  · cases h; unfold TBytes; kernel_rfl
  · cases h; unfold TBytes; kernel_rfl
  · cases h; unfold TBytes; kernel_rfl
  · cases h; unfold TBytes; kernel_rfl
  · cases h; unfold TBytes; kernel_rfl
  · cases h; unfold TBytes; kernel_rfl
  · cases h; unfold TBytes; kernel_rfl
  · cases h; unfold TBytes; kernel_rfl
  · cases h; unfold TBytes; kernel_rfl
  · cases h; unfold TBytes; kernel_rfl
  · cases h; unfold TBytes; kernel_rfl
  · cases h; unfold TBytes; kernel_rfl
  · cases h; unfold TBytes; kernel_rfl
  · cases h; unfold TBytes; kernel_rfl
  · cases h; unfold TBytes; kernel_rfl
  · cases h; unfold TBytes; kernel_rfl
  · cases h; unfold TBytes; kernel_rfl
  · cases h; unfold TBytes; kernel_rfl
  · cases h; unfold TBytes; kernel_rfl
  · cases h; unfold TBytes; kernel_rfl
  · cases h; unfold TBytes; kernel_rfl
  · cases h; unfold TBytes; kernel_rfl
  · cases h; unfold TBytes; kernel_rfl
  · cases h; unfold TBytes; kernel_rfl
  · cases h; unfold TBytes; kernel_rfl
  · cases h; unfold TBytes; kernel_rfl
  · cases h; unfold TBytes; kernel_rfl
  · cases h; unfold TBytes; kernel_rfl
  · cases h; unfold TBytes; kernel_rfl
  · cases h; unfold TBytes; kernel_rfl
  · cases h; unfold TBytes; kernel_rfl
  · cases h; unfold TBytes; kernel_rfl
  · cases h; unfold TBytes; kernel_rfl
  · cases h; unfold TBytes; kernel_rfl
  · cases h; unfold TBytes; kernel_rfl
  · cases h; unfold TBytes; kernel_rfl
  · cases h; unfold TBytes; kernel_rfl
  · cases h; unfold TBytes; kernel_rfl
  · cases h; unfold TBytes; kernel_rfl
  · cases h; unfold TBytes; kernel_rfl
  · cases h; unfold TBytes; kernel_rfl
  · cases h; unfold TBytes; kernel_rfl
  · cases h; unfold TBytes; kernel_rfl
  · cases h; unfold TBytes; kernel_rfl
  · cases h; unfold TBytes; kernel_rfl
  · cases h; unfold TBytes; kernel_rfl
  · cases h; unfold TBytes; kernel_rfl
  · cases h; unfold TBytes; kernel_rfl
  · cases h; unfold TBytes; kernel_rfl
  · cases h; unfold TBytes; kernel_rfl
  · cases h; unfold TBytes; kernel_rfl
  · cases h; unfold TBytes; kernel_rfl
  · cases h; unfold TBytes; kernel_rfl
  · cases h; unfold TBytes; kernel_rfl
  · cases h; unfold TBytes; kernel_rfl
  · cases h; unfold TBytes; kernel_rfl
  · cases h; unfold TBytes; kernel_rfl
  · cases h; unfold TBytes; kernel_rfl
  · cases h; unfold TBytes; kernel_rfl
  · cases h; unfold TBytes; kernel_rfl
  · cases h; unfold TBytes; kernel_rfl
  · cases h; unfold TBytes; kernel_rfl
  · cases h; unfold TBytes; kernel_rfl
  · cases h; unfold TBytes; kernel_rfl
  · cases h; unfold TBytes; kernel_rfl
  · cases h; unfold TBytes; kernel_rfl
  · cases h; unfold TBytes; kernel_rfl
  · cases h; unfold TBytes; kernel_rfl
  · cases h; unfold TBytes; kernel_rfl
  · cases h; unfold TBytes; kernel_rfl
  · cases h; unfold TBytes; kernel_rfl
  · cases h; unfold TBytes; kernel_rfl
  · cases h; unfold TBytes; kernel_rfl
  · cases h; unfold TBytes; kernel_rfl
  · cases h; unfold TBytes; kernel_rfl
  · cases h
def mapTyI : Nat → Option (Nat × Nat × Value)
  | 62 => some (3, 3, .int .i64 0)
  | _ => none
theorem mapTyI_ok {t k e : Nat} {z : Value} (h : mapTyI t = some (k, e, z)) : Tryz.prog.underlying t = some (.map k e) ∧ Tryz.prog.underlying k = some kInt.kd ∧ TZero Tryz.prog e z := by
  unfold mapTyI at h
  split at h
  · cases h; exact ⟨Tryz.underlying62, Tryz.underlying3, zeroTy_ok rfl⟩
  · cases h
def mapTyS : Nat → Option (Nat × Nat × Value)
  | 90 => some (9, 3, .int .i64 0)
  | _ => none
theorem mapTyS_ok {t k e : Nat} {z : Value} (h : mapTyS t = some (k, e, z)) : Tryz.prog.underlying t = some (.map k e) ∧ Tryz.prog.underlying k = some kStr.kd ∧ TZero Tryz.prog e z := by
  unfold mapTyS at h
  split at h
  · cases h; exact ⟨Tryz.underlying90, Tryz.underlying9, zeroTy_ok rfl⟩
  · cases h
def flatTy : Nat → Option Nat
  | 24 => some 2
  | 25 => some 2
  | 31 => some 13
  | 32 => some 13
  | 40 => some 6
  | 41 => some 6
  | 51 => some 2
  | 52 => some 2
  | 54 => some 3
  | 55 => some 3
  | 86 => some 3
  | 87 => some 3
  | 163 => some 2
  | 164 => some 2
  | 185 => some 2
  | 186 => some 2
  | 187 => some 3
  | 188 => some 3
  | _ => none
theorem flatTy_ok {t k : Nat} (h : flatTy t = some k) : FlatAt Tryz.prog t k := by
  unfold flatTy at h
  split at h
  · cases h; exact ⟨_, Tryz.underlying24, fun w => ⟨#[(0, 1), (1, 1)], by kernel_rfl, by decide⟩⟩
  · cases h; exact ⟨_, Tryz.underlying25, fun w => ⟨#[(0, 1), (1, 1)], by kernel_rfl, by decide⟩⟩
  · cases h; exact ⟨_, Tryz.underlying31, fun w => ⟨#[(0, 1), (1, 1), (2, 1), (3, 1), (4, 1), (5, 1), (6, 1), (7, 1), (8, 1), (9, 1), (10, 1), (11, 1), (12, 1)], by kernel_rfl, by decide⟩⟩
  · cases h; exact ⟨_, Tryz.underlying32, fun w => ⟨#[(0, 1), (1, 1), (2, 1), (3, 1), (4, 1), (5, 1), (6, 1), (7, 1), (8, 1), (9, 1), (10, 1), (11, 1), (12, 1)], by kernel_rfl, by decide⟩⟩
  · cases h; exact ⟨_, Tryz.underlying40, fun w => ⟨#[(0, 1), (1, 1), (2, 1), (3, 1), (4, 1), (5, 1)], by kernel_rfl, by decide⟩⟩
  · cases h; exact ⟨_, Tryz.underlying41, fun w => ⟨#[(0, 1), (1, 1), (2, 1), (3, 1), (4, 1), (5, 1)], by kernel_rfl, by decide⟩⟩
  · cases h; exact ⟨_, Tryz.underlying51, fun w => ⟨#[(0, 1), (1, 1)], by kernel_rfl, by decide⟩⟩
  · cases h; exact ⟨_, Tryz.underlying52, fun w => ⟨#[(0, 1), (1, 1)], by kernel_rfl, by decide⟩⟩
  · cases h; exact ⟨_, Tryz.underlying54, fun w => ⟨#[(0, 1), (1, 1), (2, 1)], by kernel_rfl, by decide⟩⟩
  · cases h; exact ⟨_, Tryz.underlying55, fun w => ⟨#[(0, 1), (1, 1), (2, 1)], by kernel_rfl, by decide⟩⟩
  · cases h; exact ⟨_, Tryz.underlying86, fun w => ⟨#[(0, 1), (1, 1), (2, 1)], by kernel_rfl, by decide⟩⟩
  · cases h; exact ⟨_, Tryz.underlying87, fun w => ⟨#[(0, 1), (1, 1), (2, 1)], by kernel_rfl, by decide⟩⟩
  · cases h; exact ⟨_, Tryz.underlying163, fun w => ⟨#[(0, 1), (1, 1)], by kernel_rfl, by decide⟩⟩
  · cases h; exact ⟨_, Tryz.underlying164, fun w => ⟨#[(0, 1), (1, 1)], by kernel_rfl, by decide⟩⟩
  · cases h; exact ⟨_, Tryz.underlying185, fun w => ⟨#[(0, 1), (1, 1)], by kernel_rfl, by decide⟩⟩
  · cases h; exact ⟨_, Tryz.underlying186, fun w => ⟨#[(0, 1), (1, 1)], by kernel_rfl, by decide⟩⟩
  · cases h; exact ⟨_, Tryz.underlying187, fun w => ⟨#[(0, 1), (1, 1), (2, 1)], by kernel_rfl, by decide⟩⟩
  · cases h; exact ⟨_, Tryz.underlying188, fun w => ⟨#[(0, 1), (1, 1), (2, 1)], by kernel_rfl, by decide⟩⟩
  · cases h
section
variable {n : FrK} {w w0 : World} {M : List Nat} {L : List Ent} {F : Fr} {d : Option Tmp} {ty : TypeId} {pos : String} {aft : Array Edge} {g : Option (Nat × Bool)} {x y : Operand}
theorem pf_build {t k : Nat} {ps : Array (Nat × Operand)} {zs : List Value} (hf : flatTy t = some k) (hz : zeroTy t = some (.agg zs.toArray)) (hl : zs.length = k)
    (hall : ((ps.toList.map fun p => (p.1, ev n F p.2)).all fun p => Nat.blt p.1 k && Nat.beq p.2.cells.size 1) = true) :
    PV Tryz.prog n w F ⟨d, .build t ps, ty, pos, aft, g⟩ (.agg (fillL 1 zs (ps.toList.map fun p => (p.1, ev n F p.2))).toArray) := pv_build_s (flatTy_ok hf) (zeroTy_ok hz) hl hall
theorem pf_build_a {t k e sz : Nat} {ps : Array (Nat × Operand)} {zs : List Value} (ht : arrTy t = some (k, e, sz)) (hz : zeroTy t = some (.agg zs.toArray)) (hl : zs.length = k * sz)
    (hall : ((ps.toList.map fun p => (p.1, ev n F p.2)).all fun p => Nat.blt p.1 k && Nat.beq p.2.cells.size sz) = true) :
    PV Tryz.prog n w F ⟨d, .build t ps, ty, pos, aft, g⟩ (.agg (fillL sz zs (ps.toList.map fun p => (p.1, ev n F p.2))).toArray) := pv_build_a (arrTy_ok ht).1 (arrTy_ok ht).2 (zeroTy_ok hz) hl hall
theorem sf_slice {t e sz k : Nat} {ps : Array (Nat × Operand)} {z : Value} {vs : List (Nat × Value)} {cs : List Value} (hp : Hp w0 M w L) (ht : slTy t = some (e, sz)) (hz : zeroTy e = some z)
    (hvs : (ps.toList.map fun p => (p.1, ev n F p.2)) = vs) (ho : ordered sz 0 vs = true) (hk : vs.length = k) (hcs : vs.flatMap (fun p => p.2.cells.toList) = cs) (hsm : Nat.ble (k * sz) 16777216 = true) :
    StepF Tryz.prog n ⟨d, .buildSlice t k ps, ty, pos, aft, g⟩ F w (fun u w' => ∃ b, u = .slice (some ⟨b, 0, none⟩) k k ∧ Hp w0 M w' (blk b cs.length (frOf cs) e :: L)) :=
  st_buildSlice hp (slTy_ok ht).1 (slTy_ok ht).2 (zeroTy_ok hz) hvs ho hk hcs (Nat.le_of_ble_eq_true hsm)
theorem sf_append {t e size by_ : Nat} {z v : Value} {m k c : Nat} {xs news : List Value} {s : Option Addr} (hp : Hp w0 M w L) (i : Nat) (ht : slTy t = some (e, size)) (hby : byteTy e = some by_) (hz : zeroTy e = some z)
    (hzs : z.cells.size = size) (hpos : Nat.blt 0 size = true) (hx : ev n F x = v) (hy : ev n F y = .slice s k c) (hi : L[i]? = some (ownE v e size m xs)) (hv : SV v m) (hl : xs.length = m * size) (hn : news.length = k * size)
    (hsrc : ∀ (j : Nat) (u : Value), news[j]? = some u → ∃ b o, s = some ⟨b, o, none⟩ ∧ w.cell? ⟨b, o + j, none⟩ = some u) (h1 : ∀ u ∈ news, oneV u = true)
    (hb1 : m + k ≤ maxLen) (hb2 : (m + k) * by_ ≤ 140737488355328) :
    StepF Tryz.prog n ⟨d, .call ⟨.builtin .append, #[x, y], #[t, t]⟩, ty, pos, aft, g⟩ F w (fun u w' => SV u (m + k) ∧ Hp w0 M w' (L.set i (ownE u e size (m + k) (xs ++ news)))) :=
  st_append hp i (slTy_ok ht).1 (slTy_ok ht).2 (byteTy_ok hby) (zeroTy_ok hz) hzs (lt_of_nblt hpos) hx hy hi hv hl hn hsrc h1 hb1 hb2
end
theorem run_cellRes {n : Nat} {F : Fr} {w : World} {fn : Func} {p ty b o k : Nat} {vs : List Value} (h : fn.results = #[.cell p ty]) (h1 : manyTy ty = some k) (hz : sizeTy ty = some k) (hx : ev n F (.tmp p) = .pointer (some ⟨b, o, none⟩)) (hl : vs.length = k)
    (hc : ∀ (j : Nat) (v : Value), vs[j]? = some v → w.cell? ⟨b, o + j, none⟩ = some v) : (results fn (act n F).tmps).run Tryz.prog w = .ok (.agg vs.toArray) w := by
  obtain ⟨q, hq, hq1⟩ := manyTy_ok h1
  have hk := sizeTy_ok hz
  subst hl
  have := run_loadFrom (P := Tryz.prog) (w := w) b o vs 0 #[] (fun j v hv => by simpa using hc j v hv)
  have hx' : (act n F).tmps.getD p undef = .pointer (some ⟨b, o, none⟩) := by
    rw [← hx, ← act_eval]
    rfl
  have hx2 : (act n F).tmps[p]?.getD undef = .pointer (some ⟨b, o, none⟩) := by simpa using hx'
  simp [results, h, hx2, asAddr, loadVar, run_many hq hq1, loadCells, hk.run, this]
theorem ret_cell {n : Nat} {F : Fr} {w : World} {fn : Func} {R : Ending → World → Prop} {p ty b o k : Nat} {f : Fr} (h : fn.results = #[.cell p ty]) (h1 : manyTy ty = some k) (hz : sizeTy ty = some k) (hx : ev n F (.tmp p) = .pointer (some ⟨b, o, none⟩))
    (hc : ∀ (j : Nat) (v : Value), ((List.range k).map fun j => f (o + j))[j]? = some v → w.cell? ⟨b, o + j, none⟩ = some v) (hr : R (.returned (.agg ((List.range k).map fun j => f (o + j)).toArray)) w) : retQ Tryz.prog n fn R .ret F w :=
  ⟨_, run_cellRes h h1 hz hx (by simp) hc, hr⟩

section
variable {n : FrK} {F : Fr} {w : World} {d : Option Tmp} {ty : TypeId} {pos : String} {aft : Array Edge} {g : Option (Nat × Bool)} {x y : Operand}
theorem pv_sliceTo {t e k m c h : Nat} {q : IntKind} {s : Option Addr} (ht : slTy t = some (e, k)) (hx : ev n F x = .slice s m c) (hy : ev n F y = .int q h) (hh : h ≤ c) :
    PV Tryz.prog n w F ⟨d, .slice t x none (some y) none, ty, pos, aft, g⟩ (.slice s h c) := by
  have hb := run_bound (P := Tryz.prog) (w := w) (c := .sliceAcap) hy hh
  have e1 : (if c = 0 then s else s.map (·.add (0 * k))) = s := by
    split
    · rfl
    · cases s <;> simp [addr_add0]
  simp only [PV, execOp, Instr.sliceAt, Instr.slice, hx, Sem.run_bind, run_und (slTy_ok ht).1, Result.andThen_ok, Instr.sliceBounds, Sem.run_pure, Option.map_none, Option.map_some, hb, (slTy_ok ht).2.run, if_true, Nat.sub_zero, e1]
theorem pf_build_ord {t k e sz : Nat} {ps : Array (Nat × Operand)} {zs : List Value} {vs : List (Nat × Value)} (ht : arrTy t = some (k, e, sz)) (hz : zeroTy t = some (.agg zs.toArray)) (hl : zs.length = k * sz)
    (hvs : (ps.toList.map fun p => (p.1, ev n F p.2)) = vs) (ho : ordered sz 0 vs = true) (hk : vs.length = k) :
    PV Tryz.prog n w F ⟨d, .build t ps, ty, pos, aft, g⟩ (.agg (vs.flatMap fun p => p.2.cells.toList).toArray) := by
  have h1 := pf_build_a (w := w) (d := d) (ty := ty) (pos := pos) (aft := aft) (g := g) (n := n) (F := F) (ps := ps) ht hz hl (by rw [hvs]; exact ordered_all sz k vs 0 ho (by omega))
  have h2 := fillL_ord sz vs 0 [] zs ho (by simp) (by rw [hl, hk])
  rw [hvs] at h1
  rw [List.nil_append, List.nil_append] at h2
  rw [h2] at h1
  exact h1
end
section
variable {n : FrK} {w w0 : World} {M : List Nat} {L : List Ent} {F : Fr} {d : Option Tmp} {ty : TypeId} {pos : String} {aft : Array Edge} {g : Option (Nat × Bool)} {x y : Operand}
theorem sf_app1 {α : Type} (enc : α → List Value) (l : List α) (xv : α) {t e k by_ b c : Nat} {z : Value} {s : Option Addr} (hp : Hp w0 M w L) (i j : Nat) (ht : slTy t = some (e, k)) (hby : byteTy e = some by_) (hz : zeroTy e = some z)
    (hzs : z.cells.size = k) (hpos : Nat.blt 0 k = true) (hb : Nat.ble by_ 1000 = true) (hk : ∀ x, (enc x).length = k) (hx : ev n F x = .slice s l.length c) (hy : ev n F y = .slice (some ⟨b, 0, none⟩) 1 1)
    (hi : L[i]? = some (ownL enc e k s c l)) (hv : SVL s c l) (hj : L[j]? = some (blk b (enc xv).length (frOf (enc xv)) e)) (h1 : (enc xv).all oneV = true) (hlen : l.length < 1000000) :
    StepF Tryz.prog n ⟨d, .call ⟨.builtin .append, #[x, y], #[t, t]⟩, ty, pos, aft, g⟩ F w
      (fun u w' => ∃ s' c', u = .slice s' (l ++ [xv]).length c' ∧ SVL s' c' (l ++ [xv]) ∧ Hp w0 M w' (L.set i (ownL enc e k s' c' (l ++ [xv])))) := by
  have hb' := Nat.le_of_ble_eq_true hb
  have hb2 : (l.length + 1) * by_ ≤ 1000000 * 1000 := Nat.mul_le_mul (by omega) hb'
  refine (sf_append hp i ht hby hz hzs hpos hx hy hi hv (flatMap_len enc k hk l) (by rw [hk]; omega) (blk_src hp j hj) (by simpa [List.all_eq_true] using h1) (by unfold maxLen; omega) (by omega)).mono ?_
  rintro u w' ⟨h2, h3⟩
  obtain ⟨s', c', rfl⟩ := h2.ex
  have e1 : (l ++ [xv]).length = l.length + 1 := by simp
  have e2 : (l ++ [xv]).flatMap enc = l.flatMap enc ++ enc xv := by simp
  refine ⟨s', c', by rw [e1], by unfold SVL; rw [e1]; exact h2, ?_⟩
  unfold ownL
  rw [e1, e2]
  exact h3
end

section
variable {n : FrK} {w w0 : World} {M : List Nat} {L : List Ent} {F : Fr} {d : Option Tmp} {ty : TypeId} {pos : String} {aft : Array Edge} {g : Option (Nat × Bool)} {x y : Operand}
/-- append onto an owned list: the elements of another one -/
theorem sf_app {α : Type} (enc : α → List Value) (l l2 : List α) {t e k by_ c c2 : Nat} {z : Value} {s s2 : Option Addr} (hp : Hp w0 M w L) (i : Nat) (ht : slTy t = some (e, k)) (hby : byteTy e = some by_) (hz : zeroTy e = some z)
    (hzs : z.cells.size = k) (hpos : Nat.blt 0 k = true) (hb : Nat.ble by_ 1000 = true) (hk : ∀ x, (enc x).length = k) (hx : ev n F x = .slice s l.length c) (hy : ev n F y = .slice s2 l2.length c2)
    (hi : L[i]? = some (ownL enc e k s c l)) (hv : SVL s c l) (hs : SlAt w k enc s2 l2) (h1 : ∀ x, (enc x).all oneV = true) (hlen : l.length + l2.length < 1000000) :
    StepF Tryz.prog n ⟨d, .call ⟨.builtin .append, #[x, y], #[t, t]⟩, ty, pos, aft, g⟩ F w
      (fun u w' => ∃ s' c', u = .slice s' (l ++ l2).length c' ∧ SVL s' c' (l ++ l2) ∧ Hp w0 M w' (L.set i (ownL enc e k s' c' (l ++ l2)))) := by
  have hb' := Nat.le_of_ble_eq_true hb
  have hb2 : (l.length + l2.length) * by_ ≤ 1000000 * 1000 := Nat.mul_le_mul (by omega) hb'
  refine (sf_append hp i ht hby hz hzs hpos hx hy hi hv (flatMap_len enc k hk l) (flatMap_len enc k hk l2) (hs.src hk) ?_ (by unfold maxLen; omega) (by omega)).mono ?_
  · intro u hu
    rw [List.mem_flatMap] at hu
    obtain ⟨a, _, ha⟩ := hu
    exact List.all_eq_true.1 (h1 a) u ha
  rintro u w' ⟨h2, h3⟩
  obtain ⟨s', c', rfl⟩ := h2.ex
  have e1 : (l ++ l2).length = l.length + l2.length := by simp
  have e2 : (l ++ l2).flatMap enc = l.flatMap enc ++ l2.flatMap enc := by simp
  refine ⟨s', c', by rw [e1], by unfold SVL; rw [e1]; exact h2, ?_⟩
  unfold ownL
  rw [e1, e2]
  exact h3
theorem sf_clone {α : Type} (enc : α → List Value) (l : List α) {t e k by_ b c : Nat} {z : Value} {s : Option Addr} (hp : Hp w0 M w L) (i : Nat) (ht : slTy t = some (e, k)) (hby : byteTy e = some by_) (hz : zeroTy e = some z)
    (hzs : z.cells.size = k) (hpos : Nat.blt 0 k = true) (hb : Nat.ble by_ 1000 = true) (hk : ∀ x, (enc x).length = k) (hx : ev n F x = .slice (some ⟨b, 0, none⟩) 0 0) (hy : ev n F y = .slice s l.length c)
    (hi : L[i]? = some (blk b 0 (frOf []) e)) (hs : SlAt w k enc s l) (h1 : ∀ x, (enc x).all oneV = true) (hlen : l.length < 1000000) :
    StepF Tryz.prog n ⟨d, .call ⟨.builtin .append, #[x, y], #[t, t]⟩, ty, pos, aft, g⟩ F w
      (fun u w' => ∃ s' c', u = .slice s' l.length c' ∧ SVL s' c' l ∧ Hp w0 M w' (L.set i (ownL enc e k s' c' l))) := by
  have hr := hp.rowOf (cs := []) i k 0 hi (by simp)
  have hlt := (List.getElem?_eq_some_iff.1 hi).1
  refine (sf_app enc ([] : List α) l (s := some ⟨b, 0, none⟩) (c := 0) hr i ht hby hz hzs hpos hb hk hx hy (by rw [List.getElem?_set, if_pos rfl, if_pos hlt]; rfl) (.inr ⟨b, 0, rfl, by simp, by unfold maxLen; omega⟩) hs h1 (by simpa using hlen)).mono ?_
  rintro u w' ⟨s', c', h2, h3, h4⟩
  rw [List.set_set] at h4
  exact ⟨s', c', h2, h3, h4⟩
theorem pf_bts {t t' e b o len cap : Nat} {ns : List Int} (ht : slTy t = some (e, 1)) (he : intTy e = some .u8) (ht' : strTy t' = true) (hx : ev n F x = .slice (some ⟨b, o, none⟩) len cap) (hl : ns.length = len)
    (hc : ∀ (j : Nat) (v : Value), (ns.map (Value.int .u8))[j]? = some v → w.cell? ⟨b, o + j, none⟩ = some v) : PV Tryz.prog n w F ⟨d, .convert t t' x, ty, pos, aft, g⟩ (.string (bytesOf ns)) := pv_bts (slTy_ok ht).1 (intTy_ok he) (strTy_ok ht') hx hl hc
end

theorem mixed : Tryz.prog.follows .mixedOrders = true := by kernel_rfl
theorem ent3 : Enters Tryz.prog 3 := fun _ _ => by kernel_rfl
theorem ent4 : Enters Tryz.prog 4 := fun _ _ => by kernel_rfl
theorem ent5 : Enters Tryz.prog 5 := fun _ _ => by kernel_rfl
theorem ent6 : Enters Tryz.prog 6 := fun _ _ => by kernel_rfl
theorem ent7 : Enters Tryz.prog 7 := fun _ _ => by kernel_rfl
theorem ent8 : Enters Tryz.prog 8 := fun _ _ => by kernel_rfl
theorem ent9 : Enters Tryz.prog 9 := fun _ _ => by kernel_rfl
theorem ent10 : Enters Tryz.prog 10 := fun _ _ => by kernel_rfl
theorem ent11 : Enters Tryz.prog 11 := fun _ _ => by kernel_rfl
theorem ent12 : Enters Tryz.prog 12 := fun _ _ => by kernel_rfl
theorem ent13 : Enters Tryz.prog 13 := fun _ _ => by kernel_rfl
theorem ent14 : Enters Tryz.prog 14 := fun _ _ => by kernel_rfl
theorem ent15 : Enters Tryz.prog 15 := fun _ _ => by kernel_rfl
theorem ent16 : Enters Tryz.prog 16 := fun _ _ => by kernel_rfl
theorem ent17 : Enters Tryz.prog 17 := fun _ _ => by kernel_rfl
theorem ent18 : Enters Tryz.prog 18 := fun _ _ => by kernel_rfl
theorem ent19 : Enters Tryz.prog 19 := fun _ _ => by kernel_rfl
theorem ent20 : Enters Tryz.prog 20 := fun _ _ => by kernel_rfl
theorem ent21 : Enters Tryz.prog 21 := fun _ _ => by kernel_rfl
theorem ent22 : Enters Tryz.prog 22 := fun _ _ => by kernel_rfl
theorem ent23 : Enters Tryz.prog 23 := fun _ _ => by kernel_rfl
theorem ent24 : Enters Tryz.prog 24 := fun _ _ => by kernel_rfl
theorem ent25 : Enters Tryz.prog 25 := fun _ _ => by kernel_rfl
theorem ent26 : Enters Tryz.prog 26 := fun _ _ => by kernel_rfl
theorem ent27 : Enters Tryz.prog 27 := fun _ _ => by kernel_rfl
theorem ent28 : Enters Tryz.prog 28 := fun _ _ => by kernel_rfl
theorem ent29 : Enters Tryz.prog 29 := fun _ _ => by kernel_rfl
theorem ent30 : Enters Tryz.prog 30 := fun _ _ => by kernel_rfl
theorem ent31 : Enters Tryz.prog 31 := fun _ _ => by kernel_rfl
theorem ent32 : Enters Tryz.prog 32 := fun _ _ => by kernel_rfl
theorem ent33 : Enters Tryz.prog 33 := fun _ _ => by kernel_rfl
theorem ent34 : Enters Tryz.prog 34 := fun _ _ => by kernel_rfl
theorem ent35 : Enters Tryz.prog 35 := fun _ _ => by kernel_rfl
theorem ent36 : Enters Tryz.prog 36 := fun _ _ => by kernel_rfl
theorem ent37 : Enters Tryz.prog 37 := fun _ _ => by kernel_rfl
theorem ent38 : Enters Tryz.prog 38 := fun _ _ => by kernel_rfl
theorem ent39 : Enters Tryz.prog 39 := fun _ _ => by kernel_rfl
theorem ent40 : Enters Tryz.prog 40 := fun _ _ => by kernel_rfl
theorem ent41 : Enters Tryz.prog 41 := fun _ _ => by kernel_rfl
theorem ent42 : Enters Tryz.prog 42 := fun _ _ => by kernel_rfl
theorem ent43 : Enters Tryz.prog 43 := fun _ _ => by kernel_rfl
theorem ent44 : Enters Tryz.prog 44 := fun _ _ => by kernel_rfl
theorem ent45 : Enters Tryz.prog 45 := fun _ _ => by kernel_rfl
theorem ent46 : Enters Tryz.prog 46 := fun _ _ => by kernel_rfl
theorem ent47 : Enters Tryz.prog 47 := fun _ _ => by kernel_rfl
theorem ent48 : Enters Tryz.prog 48 := fun _ _ => by kernel_rfl
theorem ent49 : Enters Tryz.prog 49 := fun _ _ => by kernel_rfl
theorem ent50 : Enters Tryz.prog 50 := fun _ _ => by kernel_rfl
theorem ent51 : Enters Tryz.prog 51 := fun _ _ => by kernel_rfl
theorem ent52 : Enters Tryz.prog 52 := fun _ _ => by kernel_rfl
theorem ent53 : Enters Tryz.prog 53 := fun _ _ => by kernel_rfl
theorem ent54 : Enters Tryz.prog 54 := fun _ _ => by kernel_rfl
theorem ent55 : Enters Tryz.prog 55 := fun _ _ => by kernel_rfl
theorem ent56 : Enters Tryz.prog 56 := fun _ _ => by kernel_rfl
theorem ent57 : Enters Tryz.prog 57 := fun _ _ => by kernel_rfl
theorem ent58 : Enters Tryz.prog 58 := fun _ _ => by kernel_rfl
theorem ent59 : Enters Tryz.prog 59 := fun _ _ => by kernel_rfl
theorem ent60 : Enters Tryz.prog 60 := fun _ _ => by kernel_rfl
theorem ent61 : Enters Tryz.prog 61 := fun _ _ => by kernel_rfl
theorem ent62 : Enters Tryz.prog 62 := fun _ _ => by kernel_rfl
theorem ent63 : Enters Tryz.prog 63 := fun _ _ => by kernel_rfl
theorem ent64 : Enters Tryz.prog 64 := fun _ _ => by kernel_rfl
theorem ent65 : Enters Tryz.prog 65 := fun _ _ => by kernel_rfl
theorem ent66 : Enters Tryz.prog 66 := fun _ _ => by kernel_rfl
theorem ent67 : Enters Tryz.prog 67 := fun _ _ => by kernel_rfl
theorem ent68 : Enters Tryz.prog 68 := fun _ _ => by kernel_rfl
theorem ent69 : Enters Tryz.prog 69 := fun _ _ => by kernel_rfl
theorem ent70 : Enters Tryz.prog 70 := fun _ _ => by kernel_rfl
theorem ent71 : Enters Tryz.prog 71 := fun _ _ => by kernel_rfl
theorem ent72 : Enters Tryz.prog 72 := fun _ _ => by kernel_rfl
theorem ent73 : Enters Tryz.prog 73 := fun _ _ => by kernel_rfl
theorem ent74 : Enters Tryz.prog 74 := fun _ _ => by kernel_rfl
theorem ent75 : Enters Tryz.prog 75 := fun _ _ => by kernel_rfl
theorem ent76 : Enters Tryz.prog 76 := fun _ _ => by kernel_rfl
theorem ent77 : Enters Tryz.prog 77 := fun _ _ => by kernel_rfl
theorem ent78 : Enters Tryz.prog 78 := fun _ _ => by kernel_rfl
theorem ent79 : Enters Tryz.prog 79 := fun _ _ => by kernel_rfl
theorem ent80 : Enters Tryz.prog 80 := fun _ _ => by kernel_rfl
theorem ent81 : Enters Tryz.prog 81 := fun _ _ => by kernel_rfl
theorem ent82 : Enters Tryz.prog 82 := fun _ _ => by kernel_rfl
theorem ent83 : Enters Tryz.prog 83 := fun _ _ => by kernel_rfl
theorem ent84 : Enters Tryz.prog 84 := fun _ _ => by kernel_rfl
theorem ent85 : Enters Tryz.prog 85 := fun _ _ => by kernel_rfl
theorem ent86 : Enters Tryz.prog 86 := fun _ _ => by kernel_rfl
theorem ent87 : Enters Tryz.prog 87 := fun _ _ => by kernel_rfl
theorem ent88 : Enters Tryz.prog 88 := fun _ _ => by kernel_rfl
theorem ent89 : Enters Tryz.prog 89 := fun _ _ => by kernel_rfl
theorem ent90 : Enters Tryz.prog 90 := fun _ _ => by kernel_rfl
theorem ent91 : Enters Tryz.prog 91 := fun _ _ => by kernel_rfl
theorem ent92 : Enters Tryz.prog 92 := fun _ _ => by kernel_rfl
theorem ent93 : Enters Tryz.prog 93 := fun _ _ => by kernel_rfl
theorem ent94 : Enters Tryz.prog 94 := fun _ _ => by kernel_rfl
theorem ent95 : Enters Tryz.prog 95 := fun _ _ => by kernel_rfl
theorem ent96 : Enters Tryz.prog 96 := fun _ _ => by kernel_rfl
theorem ent97 : Enters Tryz.prog 97 := fun _ _ => by kernel_rfl
theorem ent98 : Enters Tryz.prog 98 := fun _ _ => by kernel_rfl
theorem ent99 : Enters Tryz.prog 99 := fun _ _ => by kernel_rfl
theorem ent100 : Enters Tryz.prog 100 := fun _ _ => by kernel_rfl
theorem ent101 : Enters Tryz.prog 101 := fun _ _ => by kernel_rfl
theorem ent102 : Enters Tryz.prog 102 := fun _ _ => by kernel_rfl
theorem ent103 : Enters Tryz.prog 103 := fun _ _ => by kernel_rfl
theorem ent104 : Enters Tryz.prog 104 := fun _ _ => by kernel_rfl
theorem ent105 : Enters Tryz.prog 105 := fun _ _ => by kernel_rfl
theorem ent106 : Enters Tryz.prog 106 := fun _ _ => by kernel_rfl
theorem ent107 : Enters Tryz.prog 107 := fun _ _ => by kernel_rfl
theorem ent108 : Enters Tryz.prog 108 := fun _ _ => by kernel_rfl
theorem ent109 : Enters Tryz.prog 109 := fun _ _ => by kernel_rfl
theorem ent110 : Enters Tryz.prog 110 := fun _ _ => by kernel_rfl
theorem ent111 : Enters Tryz.prog 111 := fun _ _ => by kernel_rfl
theorem ent112 : Enters Tryz.prog 112 := fun _ _ => by kernel_rfl
theorem ent113 : Enters Tryz.prog 113 := fun _ _ => by kernel_rfl
theorem ent114 : Enters Tryz.prog 114 := fun _ _ => by kernel_rfl
theorem ent115 : Enters Tryz.prog 115 := fun _ _ => by kernel_rfl
theorem ent116 : Enters Tryz.prog 116 := fun _ _ => by kernel_rfl
theorem ent117 : Enters Tryz.prog 117 := fun _ _ => by kernel_rfl
theorem ent118 : Enters Tryz.prog 118 := fun _ _ => by kernel_rfl
theorem ent119 : Enters Tryz.prog 119 := fun _ _ => by kernel_rfl
theorem ent120 : Enters Tryz.prog 120 := fun _ _ => by kernel_rfl
theorem ent121 : Enters Tryz.prog 121 := fun _ _ => by kernel_rfl
theorem ent122 : Enters Tryz.prog 122 := fun _ _ => by kernel_rfl
theorem ent123 : Enters Tryz.prog 123 := fun _ _ => by kernel_rfl
theorem ent124 : Enters Tryz.prog 124 := fun _ _ => by kernel_rfl
theorem ent126 : Enters Tryz.prog 126 := fun _ _ => by kernel_rfl
theorem ent148 : Enters Tryz.prog 148 := fun _ _ => by kernel_rfl
end Go.Proofs.YtfjbioghpgmkiaaGreatDoor
/- The engine, part K: owned blocks in any order, stores into owned lists and into blocks of which not all is known, shifts, frames of which only some slots are named, guards in drawn regions; conditions are the hypotheses of each law. -/
namespace Go.Eng
section
variable {w0 w w' : World} {M : List Nat} {L L' : List Ent}
def Apart (p q : Ent) : Prop := ∀ b, p.1 = some b → q.1 ≠ some b
theorem Hp.dis' (h : Hp w0 M w L) : L.Pairwise Apart := by
  rw [List.pairwise_iff_getElem]
  intro i j hi hj hij
  exact h.dis i j _ _ (List.getElem?_eq_getElem hi) (List.getElem?_eq_getElem hj) (by omega)
theorem Hp.own' (h : Hp w0 M w L) {p : Ent} (hp : p ∈ L) : ∀ b, p.1 = some b → w0.heap.size ≤ b ∨ b ∈ M := by
  obtain ⟨i, hi⟩ := List.getElem?_of_mem hp
  exact h.own i p hi
theorem Hp.has' (h : Hp w0 M w L) {p : Ent} (hp : p ∈ L) : ∀ b, p.1 = some b → ∃ o, w.heap[b]? = some o ∧ p.2 o := by
  obtain ⟨i, hi⟩ := List.getElem?_of_mem hp
  exact h.has i p hi
theorem Hp.of' (hk : Keeps M w0 w) (ho : ∀ p ∈ L, ∀ b, p.1 = some b → w0.heap.size ≤ b ∨ b ∈ M) (hh : ∀ p ∈ L, ∀ b, p.1 = some b → ∃ o, w.heap[b]? = some o ∧ p.2 o) (hd : L.Pairwise Apart) : Hp w0 M w L := by
  rw [List.pairwise_iff_getElem] at hd
  refine ⟨hk, fun i p hi => ho p (List.mem_of_getElem? hi), fun i p hi => hh p (List.mem_of_getElem? hi), fun i j p q hi hj hne b hb hq => ?_⟩
  obtain ⟨hi', rfl⟩ := List.getElem?_eq_some_iff.1 hi
  obtain ⟨hj', rfl⟩ := List.getElem?_eq_some_iff.1 hj
  rcases Nat.lt_or_gt_of_ne hne with h | h
  · exact hd i j hi' hj' h b hb hq
  · exact hd j i hj' hi' h b hq hb
theorem Hp.perm (h : Hp w0 M w L) (hp : L.Perm L') : Hp w0 M w L' :=
  .of' h.keeps (fun _ hm => h.own' (hp.mem_iff.2 hm)) (fun _ hm => h.has' (hp.mem_iff.2 hm)) ((hp.pairwise_iff (fun hxy b hb hq => hxy b hq hb)).1 h.dis')
theorem Hp.sub (h : Hp w0 M w L) (hs : L'.Sublist L) : Hp w0 M w L' :=
  .of' h.keeps (fun _ hm => h.own' (hs.subset hm)) (fun _ hm => h.has' (hs.subset hm)) (h.dis'.sublist hs)
theorem Hp.dropAt (h : Hp w0 M w L) (i : Nat) : Hp w0 M w (L.eraseIdx i) := h.sub (List.eraseIdx_sublist L i)
/-- some entries, in any order -/
theorem Hp.picks (h : Hp w0 M w L) (is : List Nat) (ps : List Ent) (hn : decide is.Nodup = true) (he : is.map (fun i => L[i]?) = ps.map some) : Hp w0 M w ps := by
  have hnd := of_decide_eq_true hn
  have hlen : is.length = ps.length := by
    have := congrArg List.length he
    simpa using this
  have key : ∀ (k : Nat) (p : Ent), ps[k]? = some p → ∃ i, is[k]? = some i ∧ L[i]? = some p := by
    intro k p hk
    have h1 := congrArg (fun l => l[k]?) he
    simp only [List.getElem?_map, hk, Option.map_some] at h1
    cases h2 : is[k]? with
    | none => rw [h2] at h1; simp at h1
    | some i => rw [h2] at h1; exact ⟨i, rfl, by simpa using h1⟩
  refine ⟨h.keeps, fun k p hk => ?_, fun k p hk => ?_, fun k m p q hk hm hkm => ?_⟩
  · obtain ⟨i, _, hi⟩ := key k p hk
    exact h.own i p hi
  · obtain ⟨i, _, hi⟩ := key k p hk
    exact h.has i p hi
  · obtain ⟨i, hi1, hi⟩ := key k p hk
    obtain ⟨j, hj1, hj⟩ := key m q hm
    refine h.dis i j p q hi hj ?_
    rintro rfl
    apply hkm
    obtain ⟨hk1, e1⟩ := List.getElem?_eq_some_iff.1 hi1
    obtain ⟨hm1, e2⟩ := List.getElem?_eq_some_iff.1 hj1
    exact (List.getElem_inj hnd).1 (e1.trans e2.symm)
theorem ownL_mem {α : Type} {e k : Nat} {enc : α → List Value} {s : Option Addr} {c : Nat} {l : List α} (hp : Hp w0 M w L) (hm : ownL enc e k s c l ∈ L) (hv : SVL s c l) (hk : ∀ x, (enc x).length = k) : SlAt w k enc s l := by
  obtain ⟨i, hi⟩ := List.getElem?_of_mem hm
  exact ownL_At hp i hi hv hk
theorem SVL.addr {α : Type} {s : Option Addr} {c : Nat} {l : List α} (h : SVL s c l) (hl : l ≠ []) : ∃ g, s = some ⟨g, 0, none⟩ := by
  rcases h with ⟨h, h2⟩ | ⟨g, cap, h, _⟩
  · exact absurd (List.eq_nil_of_length_eq_zero h2) hl
  · injection h with h1
    exact ⟨g, h1⟩
theorem SVL.set {α : Type} {s : Option Addr} {c : Nat} {l : List α} (h : SVL s c l) (i : Nat) (x : α) : SVL s c (l.set i x) := by
  unfold SVL at *
  rwa [List.length_set]
end

/-! a store into an owned list -/
theorem run_storeC {P : Program} {w : World} {b o : Nat} {cur : Array Value} {t : TypeId} {v : Value} (hb : w.heap[b]? = some (.cells cur t (0, 0))) (ho : o < cur.size) (h1 : oneV v = true) :
    ∃ w', (store ⟨b, o, none⟩ v).run P w = .ok () w' ∧ Keeps [b] w w' ∧ w'.heap[b]? = some (.cells (cur.setIfInBounds o v) t (0, 0)) := by
  have hc : w.cell? ⟨b, o, none⟩ = some cur[o] := by simp [World.cell?, hb, ho]
  have hf : w.frozen? ⟨b, o, none⟩ = false := by simp [World.frozen?, hb]
  refine ⟨w.setCell ⟨b, o, none⟩ v, ?_, ⟨rfl, rfl, rfl, by simp [World.setCell], fun k _ hm => ?_⟩, ?_⟩
  · cases v <;> first | (cases h1; done) | simp [store, Sem.run, hc, hf]
  · simp only [World.setCell, Array.getElem?_modify]
    rw [if_neg (by simp at hm; omega)]
  · simp only [World.setCell, Array.getElem?_modify, if_true, hb, Option.map_some]
    simp
theorem flatMap_set {α : Type} (enc : α → List Value) (v : Value) (xv : α) (hk : ∀ x, (enc x).length = 1) (hv : enc xv = [v]) : ∀ (l : List α) (i : Nat), (l.set i xv).flatMap enc = (l.flatMap enc).set i v
  | [], i => by simp
  | y :: l, 0 => by
    obtain ⟨u, hu⟩ : ∃ u, enc y = [u] := List.length_eq_one_iff.1 (hk y)
    simp [hu, hv]
  | y :: l, i + 1 => by
    obtain ⟨u, hu⟩ : ∃ u, enc y = [u] := List.length_eq_one_iff.1 (hk y)
    simp only [List.set_cons_succ, List.flatMap_cons, hu, List.cons_append, List.nil_append]
    rw [flatMap_set enc v xv hk hv l i]
section
variable {P : Program} {n : FrK} {w0 w : World} {M : List Nat} {L : List Ent} {F : Fr} {d : Option Tmp} {ty : TypeId} {pos : String} {aft : Array Edge} {g : Option (Nat × Bool)} {x y : Operand}
theorem st_setL {α : Type} (enc : α → List Value) (l : List α) (i : Nat) (xv : α) {t e gb c : Nat} {v : Value} (hp : Hp w0 M w L) (j : Nat) (hj : L[j]? = some (ownL enc e 1 (some ⟨gb, 0, none⟩) c l)) (hvl : SVL (some ⟨gb, 0, none⟩) c l) (hi : i < l.length)
    (hx : ev n F x = .pointer (some ⟨gb, 0 + i * 1, none⟩)) (hy : ev n F y = v) (hk : ∀ x, (enc x).length = 1) (hv : enc xv = [v]) (h1 : oneV v = true) (hz : TSize P t 1) :
    StepF P n ⟨d, .store t x y, ty, pos, aft, g⟩ F w (fun u w' => u = undef ∧ Hp w0 M w' (L.set j (ownL enc e 1 (some ⟨gb, 0, none⟩) c (l.set i xv)))) := by
  obtain ⟨o, ho, cur, rfl, hsz, htk⟩ := hp.has j _ hj gb rfl
  have hsz : cur.size = c * 1 := hsz
  have hcap := hvl.cap
  have hlen : (l.flatMap enc).length = l.length * 1 := flatMap_len enc 1 hk l
  obtain ⟨w', hr, hk', hb'⟩ := run_storeC (P := P) (o := 0 + i * 1) (v := v) ho (by omega) h1
  refine stepF_skip (w' := w') ?_ ⟨rfl, hp.upd hj hk' ?_⟩
  · have hcs : v.cells.size = 1 := by cases v <;> first | rfl | cases h1
    have hcl : v.cells.toList = [v] := by cases v <;> first | rfl | cases h1
    have hz2 := hz.run (w := w)
    simp only [execOp, Instr.storeAt, hx, hy, Instr.sureAddr, storeVar, Sem.run_bind, Sem.run_pure, Result.andThen_ok, hz2, hcs, hcl]
    simp only [storeCells, addr_add]
    simp only [Nat.add_zero] at hr ⊢
    rw [if_neg (by simp)]
    simp only [Sem.run_bind, hr, Result.andThen_ok]
    rfl
  · intro b1 hb1
    have hb1 : b1 = gb := by
      have : (some gb : Option Nat) = some b1 := hb1
      simpa [eq_comm] using this
    subst hb1
    refine ⟨.inl rfl, _, hb', cur.setIfInBounds (0 + i * 1) v, rfl, ?_, ?_⟩
    · show _ = c * 1
      simp
      omega
    · rw [flatMap_set enc v xv hk hv, List.length_set, ← htk]
      simp only [Array.toList_setIfInBounds]
      rw [List.take_set]
      simp
end

/-! shifts and bits -/
def bandI (a b : Int) : Int := IntKind.i64.wrap ((BitVec.ofInt 64 a &&& BitVec.ofInt 64 b).toNat)
section
variable {P : Program} {n : FrK} {w : World} {F : Fr} {d : Option Tmp} {ty : TypeId} {pos : String} {aft : Array Edge} {g : Option (Nat × Bool)} {x y : Operand} {t t' : Nat} {k q : IntKind} {a b : Int}
theorem pv_shr (hx : ev n F x = .int k a) (hy : ev n F y = .int q b) (hb : 0 ≤ b) : PV P n w F ⟨d, .binOp .shr t x y t', ty, pos, aft, g⟩ (.int k (a.fdiv (2 ^ min b.toNat k.bits))) := by
  simp [PV, execOp, hx, hy, eqGuard, binOp, Op.shift]
  omega
theorem pv_band (hx : ev n F x = .int .i64 a) (hy : ev n F y = .int .i64 b) : PV P n w F ⟨d, .binOp .and t x y t', ty, pos, aft, g⟩ (.int .i64 (bandI a b)) := by
  simp only [PV, execOp, hx, hy, eqGuard, binOp, Op.intBits, bandI]
  rfl
end
/-- the slots that are read later on -/
def Fr.puts (F : Fr) : List (Nat × Value) → Fr
  | [] => F
  | p :: S => (Fr.puts F S).put p.1 p.2
def FrHas (F : Fr) : List (Nat × Value) → Prop
  | [] => True
  | p :: S => F p.1 = p.2 ∧ FrHas F S
theorem puts_self {F : Fr} : ∀ {S : List (Nat × Value)}, FrHas F S → F = F.puts S
  | [], _ => rfl
  | _ :: _, h => put_self (puts_self h.2) h.1
theorem WP_fresh {P : Program} {n : FrK} {c : Code} {Q : Exit → Fr → World → Prop} {F : Fr} {w : World} (S : List (Nat × Value)) (hS : FrHas F S) (h : ∀ F0 : Fr, WP P n c Q (F0.puts S) w) : WP P n c Q F w := by
  rw [puts_self hS]
  exact h F
section
variable {P : Program} {n : FrK} {Q : Exit → Fr → World → Prop} {F : Fr} {w : World} {ops : Array Oper} {rest : List Oper} {st : Bool} {G : World → Prop}
variable {d : Nat} {op : Op} {ty : TypeId} {pos : String} {aft : Array Edge}
/-- a guarded operation whose guard says yes, in a region that draws its order -/
theorem wdsT {R : Value → World → Prop} {j : Nat} {want : Bool} {e : Nat} (he : effOp op = true) (hj : gslot ops j = some e) (hc : ev n F (.tmp e) = .bool want)
    (hs : StepF P n ⟨some d, op, ty, pos, aft, some (j, want)⟩ F w R) (h : ∀ v w', R v w' → G w' ∧ wpd P n ops st G rest Q (F.put d v) w') :
    wpd P n ops st G (⟨some d, op, ty, pos, aft, some (j, want)⟩ :: rest) Q F w := by
  unfold wpd wpD
  rw [if_pos he]
  unfold EffStep
  rw [wanted_act rfl hj hc]
  refine ⟨fun _ => Step.mono hs fun v w' hr => ?_, fun hw => ?_⟩
  · rw [act_put]; exact ⟨fun _ => (h v w' hr).1, (h v w' hr).2⟩
  · simp at hw
theorem wdpT {r v : Value} {j : Nat} {want : Bool} {e : Nat} (he : effOp op = false) (hj : gslot ops j = some e) (hc : ev n F (.tmp e) = .bool want)
    (hp : ∀ w, G w → PV P n w F ⟨some d, op, ty, pos, aft, some (j, want)⟩ r) (hv : r = v) (h : wpd P n ops st G rest Q (F.put d v) w) : wpd P n ops st G (⟨some d, op, ty, pos, aft, some (j, want)⟩ :: rest) Q F w := by
  subst hv
  unfold wpd wpD
  rw [if_neg (by simp [he])]
  refine ⟨r, .inl ⟨?_, fun w hw => ?_⟩, ?_⟩
  · rw [wanted_act rfl hj hc]
    simp
  · rw [act_eval]; exact hp w hw
  · rw [act_put]; exact h
end
theorem Hp.joinT {w0 w w' : World} {M : List Nat} {L : List Ent} (h : Hp w0 M w L) (A B : List Ent) (h' : Hp w [] w' (A ++ B)) : Hp w0 M w' (A ++ (L ++ B)) := by
  refine (h.join h').perm ?_
  rw [List.append_assoc]
  exact List.Perm.append_left _ List.perm_append_comm
theorem Same.putB {S : List Nat} {d : Nat} {v : Value} {F F' : Fr} (h1 : F' d = v) (h : Same S F F') : Same S (F.put d v) F' := by
  intro i hi
  simp only [Fr.put]
  cases hb : Nat.beq i d
  · exact h i hi
  · rw [Nat.eq_of_beq_eq_true hb]
    exact h1.symm
/-- the cells of an element of an owned list -/
theorem own_elem {α : Type} {w0 w : World} {M : List Nat} {L : List Ent} {e k g c q : Nat} {enc : α → List Value} {l : List α} {x : α} (hp : Hp w0 M w L) (i : Nat) (hi : L[i]? = some (ownL enc e k (some ⟨g, 0, none⟩) c l)) (hv : SVL (some ⟨g, 0, none⟩) c l) (hk : ∀ x, (enc x).length = k) (hx : l[q]? = some x) :
    ∀ (j : Nat) (v : Value), (enc x)[j]? = some v → w.cell? ⟨g, 0 + q * k + j, none⟩ = some v := by
  obtain ⟨b, o, hs, hc⟩ := ownL_At hp i hi hv hk q x hx
  cases hs
  exact hc
/-- a block of the same size, whatever it holds -/
def anyC (p : Ent) : Ent := (p.1, fun o => ∃ q cur cur' t, p.2 q ∧ q = .cells cur t (0, 0) ∧ o = .cells cur' t (0, 0) ∧ cur'.size = cur.size)
theorem Hp.anyTail {w0 w : World} {M : List Nat} {A B : List Ent} (h : Hp w0 M w (A ++ B)) (hB : ∀ p ∈ B, ∀ o, p.2 o → ∃ cur t, o = .cells cur t (0, 0)) : Hp w0 M w (A ++ B.map anyC) := by
  have hd := h.dis'
  rw [List.pairwise_append] at hd
  refine .of' h.keeps ?_ ?_ ?_
  · intro p hp b hb
    rcases List.mem_append.1 hp with hp | hp
    · exact h.own' (List.mem_append_left _ hp) b hb
    · obtain ⟨q, hq, rfl⟩ := List.mem_map.1 hp
      exact h.own' (List.mem_append_right _ hq) b hb
  · intro p hp b hb
    rcases List.mem_append.1 hp with hp | hp
    · exact h.has' (List.mem_append_left _ hp) b hb
    · obtain ⟨q, hq, rfl⟩ := List.mem_map.1 hp
      obtain ⟨o, ho, hqo⟩ := h.has' (List.mem_append_right _ hq) b hb
      obtain ⟨cur, t, e⟩ := hB q hq o hqo
      exact ⟨o, ho, o, cur, cur, t, hqo, e, e, rfl⟩
  · rw [List.pairwise_append]
    refine ⟨hd.1, ?_, ?_⟩
    · rw [List.pairwise_map]
      exact hd.2.1
    · intro p hp q hq
      obtain ⟨r, hr, rfl⟩ := List.mem_map.1 hq
      exact hd.2.2 p hp r hr
section
variable {P : Program} {n : FrK} {w0 w : World} {M : List Nat} {L : List Ent} {F : Fr} {d : Option Tmp} {ty : TypeId} {pos : String} {aft : Array Edge} {g : Option (Nat × Bool)} {x y : Operand}
/-- a store into a block that stays as it is described -/
theorem st_storeM {t b off : Nat} {v : Value} {p : Ent} (hp : Hp w0 M w L) (hm : p ∈ L) (hb : p.1 = some b) (hcl : ∀ v, oneV v = true → ∀ o, p.2 o → ∃ cur t, o = .cells cur t (0, 0) ∧ off < cur.size ∧ p.2 (.cells (cur.setIfInBounds off v) t (0, 0)))
    (hx : ev n F x = .pointer (some ⟨b, off, none⟩)) (hy : ev n F y = v) (h1 : oneV v = true) (hz : TSize P t 1) :
    StepF P n ⟨d, .store t x y, ty, pos, aft, g⟩ F w (fun u w' => u = undef ∧ Hp w0 M w' L) := by
  obtain ⟨i, hi⟩ := List.getElem?_of_mem hm
  obtain ⟨o, ho, hpo⟩ := hp.has i p hi b hb
  obtain ⟨cur, tt, rfl, hoff, hset⟩ := hcl v h1 o hpo
  obtain ⟨w', hr, hk', hb'⟩ := run_storeC (P := P) (o := off) (v := v) ho hoff h1
  obtain ⟨pb, pp⟩ := p
  have hpb : pb = some b := hb
  subst hpb
  refine stepF_skip (w' := w') ?_ ⟨rfl, hp.callE i hi hk' ⟨_, hb', hset⟩⟩
  have hcs : v.cells.size = 1 := by cases v <;> first | rfl | cases h1
  have hcl2 : v.cells.toList = [v] := by cases v <;> first | rfl | cases h1
  have hz2 := hz.run (w := w)
  simp only [execOp, Instr.storeAt, hx, hy, Instr.sureAddr, storeVar, Sem.run_bind, Sem.run_pure, Result.andThen_ok, hz2, hcs, hcl2]
  simp only [storeCells, addr_add]
  simp only [Nat.add_zero]
  rw [if_neg (by simp)]
  simp only [Sem.run_bind, hr, Result.andThen_ok]
  rfl
end
theorem anyC_set {α : Type} {enc : α → List Value} {e c off : Nat} {s : Option Addr} {l : List α} (hv : SVL s c l) (_hk : ∀ x, (enc x).length = 1) (ho : off < l.length) :
    ∀ v, oneV v = true → ∀ o, (anyC (ownL enc e 1 s c l)).2 o → ∃ cur t, o = .cells cur t (0, 0) ∧ off < cur.size ∧ (anyC (ownL enc e 1 s c l)).2 (.cells (cur.setIfInBounds off v) t (0, 0)) := by
  rintro v _ o ⟨q, cur, cur', t, hq, rfl, rfl, hsz⟩
  have hq2 : rowB e 1 c l.length (l.flatMap enc) (.cells cur t (0, 0)) := hq
  obtain ⟨cur2, he, hs2, _⟩ := hq2
  have hcc : cur = cur2 := by injection he
  have hcap := hv.cap
  refine ⟨cur', t, rfl, by rw [hsz, hcc, hs2]; omega, _, cur, _, t, hq, rfl, rfl, by simpa using hsz⟩
theorem ownL_cells {α : Type} {enc : α → List Value} {e k c : Nat} {s : Option Addr} {l : List α} : ∀ o, (ownL enc e k s c l).2 o → ∃ cur t, o = .cells cur t (0, 0) := by
  rintro o ⟨cur, he, _⟩
  exact ⟨cur, e, he⟩
end Go.Eng
/- The engine, part L: made slices, parts of slices and strings, unsigned numbers, shifts and bits; conditions are the hypotheses of each law. -/
namespace Go.Eng

section
variable {P : Program} {n : FrK} {w0 w : World} {M : List Nat} {L : List Ent} {F : Fr} {d : Option Tmp} {ty : TypeId} {pos : String} {aft : Array Edge} {g : Option (Nat × Bool)} {x y : Operand}

theorem madeCells_one (z : Value) (m : Nat) : madeCells #[z] m = (List.replicate m z).toArray := by
  apply Array.ext
  · simp [madeCells]
  · intro i h1 h2
    simp [madeCells, Nat.mod_one]

/-- make([]T, m), elements of one cell -/
theorem st_make1 {α : Type} (enc : α → List Value) (x0 : α) {t e by_ m : Nat} {kl kc : IntKind} {z : Value} (hp : Hp w0 M w L) (ht : P.underlying t = some (.slice e)) (hs : TSize P e 1) (hz : TZero P e z) (hby : TBytes P e by_)
    (hx : ev n F x = .int kl m) (hy : ev n F y = .int kc m) (henc : enc x0 = [z]) (h1 : oneV z = true) (hm : m < 1000000000) (hb : Nat.ble by_ 1000 = true) :
    StepF P n ⟨d, .makeSlice t x y, ty, pos, aft, g⟩ F w (fun u w' => ∃ b, u = .slice (some ⟨b, 0, none⟩) m m ∧ SVL (some ⟨b, 0, none⟩) m (List.replicate m x0) ∧ Hp w0 M w' (ownL enc e 1 (some ⟨b, 0, none⟩) m (List.replicate m x0) :: L)) := by
  obtain ⟨inf, hinf, hib⟩ := hby.ex
  have his : inf.size = 1 := by
    unfold TSize at hs
    simpa [hinf] using hs
  have hiz : inf.zero = some z := by
    unfold TZero at hz
    simpa [hinf] using hz
  have hb' := Nat.le_of_ble_eq_true hb
  have hbm : by_ * m ≤ 1000 * 1000000000 := Nat.mul_le_mul hb' (by omega)
  have hbm' : (inf.bytes : Int) * (m : Int) ≤ 281474976710656 := by
    rw [hib]
    have : ((by_ * m : Nat) : Int) ≤ 281474976710656 := by omega
    rwa [Int.natCast_mul] at this
  have hr := run_make (P := P) w t e inf z ht hinf hiz kl kc m m (by omega) (by omega) hbm' (by omega)
  have hzc : z.cells = #[z] := by cases z <;> first | rfl | cases h1
  have hlen : (List.replicate m x0).length = m := by simp
  have hfm : (List.replicate m x0).flatMap enc = List.replicate m z := by
    clear hr hbm hbm' hm hlen hx hy
    induction m with
    | zero => rfl
    | succ m ih => rw [List.replicate_succ, List.flatMap_cons, ih, henc]; rfl
  refine stepF_val (v := .slice (some ⟨w.heap.size, 0, none⟩) m m) (w' := w.alloc (.cells (List.replicate m z).toArray e)) ?_ ⟨w.heap.size, rfl, ?_, ?_⟩
  · rw [his, hzc, Nat.mul_one, madeCells_one] at hr
    simp only [Int.toNat_natCast] at hr
    simp [execOp, hx, hy, hr]
  · unfold SVL
    rw [hlen]
    exact .inr ⟨_, m, rfl, Nat.le_refl _, by unfold maxLen; omega⟩
  · unfold ownL
    rw [hfm, hlen]
    exact hp.alloc _ ⟨_, rfl, by simp [scap], by simp⟩

/-- x[l:h] of a slice -/
theorem pv_sliceLH {t e k b o m c l h : Nat} {q q' : IntKind} {lo hi : Operand} (ht : P.underlying t = some (.slice e)) (hk : TSize P e k) (hx : ev n F x = .slice (some ⟨b, o, none⟩) m c) (hl : ev n F lo = .int q l) (hh : ev n F hi = .int q' h) (h1 : l ≤ h) (h2 : h ≤ c) (h3 : l < c) :
    PV P n w F ⟨d, .slice t x (some lo) (some hi) none, ty, pos, aft, g⟩ (.slice (some ⟨b, o + l * k, none⟩) (h - l) (c - l)) := by
  have hb1 := run_bound (P := P) (w := w) (c := .sliceAcap) hh h2
  have hb2 := run_bound (P := P) (w := w) (c := .sliceB) hl h1
  have hne : ¬ c = l := by omega
  simp [PV, execOp, Instr.sliceAt, Instr.slice, hx, run_und ht, Instr.sliceBounds, hb1, hb2, hk.run, hne, addr_add]
theorem pv_sliceHi {t e k m c h : Nat} {q : IntKind} {s : Option Addr} (ht : P.underlying t = some (.slice e)) (hk : TSize P e k) (hx : ev n F x = .slice s m c) (hy : ev n F y = .int q h) (hh : h ≤ c) :
    PV P n w F ⟨d, .slice t x none (some y) none, ty, pos, aft, g⟩ (.slice s h c) := by
  have hb := run_bound (P := P) (w := w) (c := .sliceAcap) hy hh
  have e1 : (if c = 0 then s else s.map (·.add (0 * k))) = s := by
    split
    · rfl
    · cases s <;> simp [addr_add0]
  simp only [PV, execOp, Instr.sliceAt, Instr.slice, hx, Sem.run_bind, run_und ht, Result.andThen_ok, Instr.sliceBounds, Sem.run_pure, Option.map_none, Option.map_some, hb, hk.run, if_true, Nat.sub_zero, e1]
/-- s[l:] of a string -/
theorem pv_strLo {t l : Nat} {q : IntKind} {s : ByteArray} (ht : P.underlying t = some .string) (hx : ev n F x = .string s) (hy : ev n F y = .int q l) (hl : l ≤ s.size) :
    PV P n w F ⟨d, .slice t x (some y) none none, ty, pos, aft, g⟩ (.string (s.extract l s.size)) := by
  have hb := run_bound (P := P) (w := w) (c := .sliceB) hy hl
  simp [PV, execOp, Instr.sliceAt, Instr.slice, hx, run_und ht, Instr.sliceBounds, hb]
/-- a conversion between types of strings -/
theorem pv_conv_s {t t' : Nat} {q : TypeDesc} {s : ByteArray} (ht : P.underlying t = some q) (ht' : P.underlying t' = some .string) (hx : ev n F x = .string s) : PV P n w F ⟨d, .convert t t' x, ty, pos, aft, g⟩ (.string s) := by
  cases q <;> simp [PV, execOp, hx, convert, run_und ht, run_und ht']
end

/-! unsigned numbers -/
theorem u32_nat (m : Nat) : IntKind.u32.wrap (m : Int) = ((m % 4294967296 : Nat) : Int) := by
  rw [IntKind.wrap_u32]; omega
theorem u32_in {m : Nat} (h : m < 4294967296) : IntKind.u32.wrap (m : Int) = (m : Int) := by
  rw [IntKind.wrap_u32]; omega
theorem u64_in {m : Nat} (h : m < 18446744073709551616) : IntKind.u64.wrap (m : Int) = (m : Int) := by
  rw [IntKind.wrap_u64]; omega
theorem u64_nat (m : Nat) : IntKind.u64.wrap (m : Int) = ((m % 18446744073709551616 : Nat) : Int) := by
  rw [IntKind.wrap_u64]; omega
theorem u8_nat (m : Nat) : IntKind.u8.wrap (m : Int) = ((m % 256 : Nat) : Int) := by
  rw [IntKind.wrap_u8]; omega
theorem bv_nat (k : Nat) (m : Nat) (h : m < 2 ^ k) : (BitVec.ofInt k (m : Int)).toNat = m := by
  rw [BitVec.toNat_ofInt]
  have : ((m : Int) % ((2 ^ k : Nat) : Int)) = (m : Int) := Int.emod_eq_of_lt (by omega) (by omega)
  rw [this]
  rfl
section
variable {P : Program} {n : FrK} {w : World} {F : Fr} {d : Option Tmp} {ty : TypeId} {pos : String} {aft : Array Edge} {g : Option (Nat × Bool)} {x y : Operand} {t t' : Nat}
theorem pv_shl {k q : IntKind} {a b : Int} (hx : ev n F x = .int k a) (hy : ev n F y = .int q b) (hb : 0 ≤ b) : PV P n w F ⟨d, .binOp .shl t x y t', ty, pos, aft, g⟩ (.int k (k.wrap (a * 2 ^ min b.toNat k.bits))) := by
  simp [PV, execOp, hx, hy, eqGuard, binOp, Op.shift]
  omega
theorem pv_or32 {a b : Nat} (hx : ev n F x = .int .u32 a) (hy : ev n F y = .int .u32 b) (ha : a < 4294967296) (hb : b < 4294967296) : PV P n w F ⟨d, .binOp .or t x y t', ty, pos, aft, g⟩ (.int .u32 ((a ||| b : Nat) : Int)) := by
  have h1 : (BitVec.ofInt 32 (a : Int) ||| BitVec.ofInt 32 (b : Int)).toNat = a ||| b := by
    rw [BitVec.toNat_or, bv_nat 32 a ha, bv_nat 32 b hb]
  have h2 : a ||| b < 2 ^ 32 := Nat.or_lt_two_pow ha hb
  have h3 := u32_in h2
  simp only [PV, execOp, hx, hy, eqGuard, binOp, Op.intBits]
  show Sem.run P (pure (Next.value (Value.int IntKind.u32 (IntKind.u32.wrap ((BitVec.ofInt 32 (a : Int) ||| BitVec.ofInt 32 (b : Int)).toNat : Int))))) w = _
  rw [h1, h3]
  rfl
theorem pv_or64 {a b : Nat} (hx : ev n F x = .int .u64 a) (hy : ev n F y = .int .u64 b) (ha : a < 18446744073709551616) (hb : b < 18446744073709551616) : PV P n w F ⟨d, .binOp .or t x y t', ty, pos, aft, g⟩ (.int .u64 ((a ||| b : Nat) : Int)) := by
  have h1 : (BitVec.ofInt 64 (a : Int) ||| BitVec.ofInt 64 (b : Int)).toNat = a ||| b := by
    rw [BitVec.toNat_or, bv_nat 64 a ha, bv_nat 64 b hb]
  have h2 : a ||| b < 2 ^ 64 := Nat.or_lt_two_pow ha hb
  have h3 := u64_in h2
  simp only [PV, execOp, hx, hy, eqGuard, binOp, Op.intBits]
  show Sem.run P (pure (Next.value (Value.int IntKind.u64 (IntKind.u64.wrap ((BitVec.ofInt 64 (a : Int) ||| BitVec.ofInt 64 (b : Int)).toNat : Int))))) w = _
  rw [h1, h3]
  rfl
end

/-! guards that say no -/
section
variable {P : Program} {n : FrK} {Q : Exit → Fr → World → Prop} {F : Fr} {w : World} {ops : Array Oper} {rest : List Oper} {st : Bool} {G : World → Prop}
variable {d : Nat} {op : Op} {ty : TypeId} {pos : String} {aft : Array Edge}
theorem wlpF {j : Nat} {want c : Bool} {e : Nat} (hj : gslot ops j = some e) (hc : ev n F (.tmp e) = .bool c) (hw : (c == want) = false) (h : wpl P n ops rest Q (F.put d undef) w) : wpl P n ops (⟨some d, op, ty, pos, aft, some (j, want)⟩ :: rest) Q F w := by
  refine wlg (r := undef) (v := undef) hj hc (fun e => by rw [hw] at e; cases e) (fun _ => rfl) ?_
  rw [hw]
  exact h
theorem wlpU {j : Nat} {want : Bool} {e : Nat} (hj : gslot ops j = some e) (hc : ev n F (.tmp e) = undef) (h : wpl P n ops rest Q (F.put d undef) w) : wpl P n ops (⟨some d, op, ty, pos, aft, some (j, want)⟩ :: rest) Q F w := by
  refine wlg2 (r := undef) (v := undef) (b := false) (c := false) hj hc (fun e => by cases e) (fun _ _ => rfl) ?_
  exact h
theorem wdpF {j : Nat} {want c : Bool} {e : Nat} (he : effOp op = false) (hj : gslot ops j = some e) (hc : ev n F (.tmp e) = .bool c) (hw : (c == want) = false) (h : wpd P n ops st G rest Q (F.put d undef) w) : wpd P n ops st G (⟨some d, op, ty, pos, aft, some (j, want)⟩ :: rest) Q F w := by
  refine wdg (r := undef) (v := undef) he hj hc (fun _ _ e => by rw [hw] at e; cases e) (fun _ => rfl) ?_
  rw [hw]
  exact h
theorem wdpU {j : Nat} {want : Bool} {e : Nat} (he : effOp op = false) (hj : gslot ops j = some e) (hc : ev n F (.tmp e) = undef) (h : wpd P n ops st G rest Q (F.put d undef) w) : wpd P n ops st G (⟨some d, op, ty, pos, aft, some (j, want)⟩ :: rest) Q F w := by
  refine wdg2 (r := undef) (v := undef) (b := false) (c := false) he hj hc (fun _ _ e => by cases e) (fun _ _ => rfl) ?_
  exact h
end
section
variable {P : Program} {n : FrK} {w : World} {F : Fr} {d : Option Tmp} {ty : TypeId} {pos : String} {aft : Array Edge} {g : Option (Nat × Bool)} {x y : Operand} {t t' : Nat}
theorem pv_andF (hx : ev n F x = .bool false) : PV P n w F ⟨d, .pick x y (.const (.bool false)), ty, pos, aft, g⟩ (.bool false) := by
  simp only [PV, execOp, hx, asBool, ev_const]
  rfl
theorem pv_orT (hx : ev n F x = .bool true) : PV P n w F ⟨d, .pick x (.const (.bool true)) y, ty, pos, aft, g⟩ (.bool true) := by
  simp only [PV, execOp, hx, asBool, ev_const]
  rfl
theorem pv_andT {b : Bool} (hx : ev n F x = .bool true) (hy : ev n F y = .bool b) : PV P n w F ⟨d, .pick x y (.const (.bool false)), ty, pos, aft, g⟩ (.bool b) := by
  simp only [PV, execOp, hx, hy, asBool, ev_const]
  rfl
theorem pv_orF {b : Bool} (hx : ev n F x = .bool false) (hy : ev n F y = .bool b) : PV P n w F ⟨d, .pick x (.const (.bool true)) y, ty, pos, aft, g⟩ (.bool b) := by
  simp only [PV, execOp, hx, hy, asBool, ev_const]
  rfl
/-! whole numbers -/
theorem pn_add64 {a b : Nat} (hx : ev n F x = .int .u64 (a : Int)) (hy : ev n F y = .int .u64 (b : Int)) (h : a + b < 18446744073709551616) : PV P n w F ⟨d, .binOp .add t x y t', ty, pos, aft, g⟩ (.int .u64 ((a + b : Nat) : Int)) := by
  have := pv_add (P := P) (w := w) (d := d) (ty := ty) (pos := pos) (aft := aft) (g := g) (t := t) (t' := t') hx hy
  rwa [← Int.natCast_add, u64_in h] at this
theorem pn_mul64 {a b : Nat} (hx : ev n F x = .int .u64 (a : Int)) (hy : ev n F y = .int .u64 (b : Int)) (h : a * b < 18446744073709551616) : PV P n w F ⟨d, .binOp .mul t x y t', ty, pos, aft, g⟩ (.int .u64 ((a * b : Nat) : Int)) := by
  have := pv_mul (P := P) (w := w) (d := d) (ty := ty) (pos := pos) (aft := aft) (g := g) (t := t) (t' := t') hx hy
  rwa [← Int.natCast_mul, u64_in h] at this
def sb64 (a b : Nat) : Nat := (a + 18446744073709551616 - b) % 18446744073709551616
theorem pn_sub64 {a b : Nat} (hx : ev n F x = .int .u64 (a : Int)) (hy : ev n F y = .int .u64 (b : Int)) (h : b ≤ 18446744073709551616) : PV P n w F ⟨d, .binOp .sub t x y t', ty, pos, aft, g⟩ (.int .u64 (sb64 a b : Int)) := by
  have h2 := pv_sub (P := P) (w := w) (d := d) (ty := ty) (pos := pos) (aft := aft) (g := g) (t := t) (t' := t') hx hy
  have : IntKind.u64.wrap ((a : Int) - (b : Int)) = (sb64 a b : Int) := by
    rw [IntKind.wrap_u64]
    unfold sb64
    omega
  rwa [this] at h2
theorem pn_add32 {a b : Nat} (hx : ev n F x = .int .u32 (a : Int)) (hy : ev n F y = .int .u32 (b : Int)) : PV P n w F ⟨d, .binOp .add t x y t', ty, pos, aft, g⟩ (.int .u32 (((a + b) % 4294967296 : Nat) : Int)) := by
  have := pv_add (P := P) (w := w) (d := d) (ty := ty) (pos := pos) (aft := aft) (g := g) (t := t) (t' := t') hx hy
  rwa [← Int.natCast_add, u32_nat] at this
theorem pn_shr {k q : IntKind} {a b : Nat} (hx : ev n F x = .int k (a : Int)) (hy : ev n F y = .int q (b : Int)) (hb : b ≤ k.bits) : PV P n w F ⟨d, .binOp .shr t x y t', ty, pos, aft, g⟩ (.int k ((a / 2 ^ b : Nat) : Int)) := by
  have h2 := pv_shr (P := P) (w := w) (d := d) (ty := ty) (pos := pos) (aft := aft) (g := g) (t := t) (t' := t') hx hy (by omega)
  have e : (a : Int).fdiv (2 ^ min (b : Int).toNat k.bits) = ((a / 2 ^ b : Nat) : Int) := by
    rw [Int.toNat_natCast, Nat.min_eq_left hb, Int.fdiv_eq_ediv_of_nonneg _ (Int.le_of_lt (Int.pow_pos (by decide)))]
    rw [show ((2 : Int) ^ b) = ((2 ^ b : Nat) : Int) from by simp]
    exact (Int.natCast_ediv a (2 ^ b)).symm
  rwa [e] at h2
theorem pn_shl64 {q : IntKind} {a b : Nat} (hx : ev n F x = .int .u64 (a : Int)) (hy : ev n F y = .int q (b : Int)) (hb : b ≤ 64) (h : a * 2 ^ b < 18446744073709551616) : PV P n w F ⟨d, .binOp .shl t x y t', ty, pos, aft, g⟩ (.int .u64 ((a * 2 ^ b : Nat) : Int)) := by
  have h2 := pv_shl (P := P) (w := w) (d := d) (ty := ty) (pos := pos) (aft := aft) (g := g) (t := t) (t' := t') hx hy (by omega)
  have e : (a : Int) * 2 ^ min (b : Int).toNat IntKind.u64.bits = ((a * 2 ^ b : Nat) : Int) := by
    rw [Int.toNat_natCast, show IntKind.u64.bits = 64 from rfl, Nat.min_eq_left hb]
    simp
  rwa [e, u64_in h] at h2
theorem pn_shl32 {q : IntKind} {a b : Nat} (hx : ev n F x = .int .u32 (a : Int)) (hy : ev n F y = .int q (b : Int)) (hb : b ≤ 32) : PV P n w F ⟨d, .binOp .shl t x y t', ty, pos, aft, g⟩ (.int .u32 ((a * 2 ^ b % 4294967296 : Nat) : Int)) := by
  have h2 := pv_shl (P := P) (w := w) (d := d) (ty := ty) (pos := pos) (aft := aft) (g := g) (t := t) (t' := t') hx hy (by omega)
  have e : (a : Int) * 2 ^ min (b : Int).toNat IntKind.u32.bits = ((a * 2 ^ b : Nat) : Int) := by
    rw [Int.toNat_natCast, show IntKind.u32.bits = 32 from rfl, Nat.min_eq_left hb]
    simp
  rwa [e, u32_nat] at h2
end
theorem sl_eq {s : Option Addr} {m m' c : Nat} (h : m = m') : Value.slice s m c = .slice s m' c := by rw [h]
theorem ndt {p : Prop} [Decidable p] (h : ¬ p) : (!decide p) = true := by simp [h]
theorem ndf {p : Prop} [Decidable p] (h : p) : (!decide p) = false := by simp [h]
theorem SlAt.pre {α : Type} {w : World} {k : Nat} {enc : α → List Value} {s : Option Addr} {l l' : List α} (h : SlAt w k enc s l) (hp : l' <+: l) : SlAt w k enc s l' := by
  intro i x hx
  refine h i x ?_
  obtain ⟨t, rfl⟩ := hp
  rw [List.getElem?_append_left (by rcases Nat.lt_or_ge i l'.length with h | h; exact h; rw [List.getElem?_eq_none h] at hx; cases hx)]
  exact hx
/-! scopes without jumps -/
def ngQ (Q : Exit → Fr → World → Prop) : Exit → Fr → World → Prop := fun e F w => match e with
  | .goto _ => False
  | e => Q e F w
section
variable {P : Program} {n : FrK} {Q : Exit → Fr → World → Prop} {F : Fr} {w : World}
theorem WP_scope {m : Nat} {ds : List Deferred} {c : Code} (h : WP P ⟨m, ds, none⟩ c (ngQ Q) F w) : WP P ⟨m, ds, none⟩ (.scope c) Q F w := by
  unfold WP at *
  rw [FrK.fence_none rfl] at *
  refine wpIn_wide.2 (wp_scope_straight (wp_mono (wpIn_wide.1 h) ?_))
  rintro e a w ⟨F, rfl, h2⟩
  cases e <;> first | exact h2.elim | exact ⟨F, rfl, h2⟩
theorem ngQ_n (h : Q .normal F w) : ngQ Q .normal F w := h
theorem ngQ_ret (h : Q .ret F w) : ngQ Q .ret F w := h
end
end Go.Eng
