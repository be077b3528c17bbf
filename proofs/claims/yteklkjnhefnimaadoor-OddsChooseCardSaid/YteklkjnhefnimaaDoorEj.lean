/- A region that draws its order, by an invariant over the set of operations that are done; conditions are the hypotheses of the law. -/
import Derived.Test.YteklkjnhefnimaaDoorEi
namespace Go.Eng

/-- every edge that binds points backwards -/
def edgesOK (ops : Array Oper) : Bool := (List.range ops.size).all fun i => (opAt ops i).after.toList.all fun e => !Region.binds .any e || decide (e.on < i)
/-- all that must be done before i is done -/
def aftOK (ops : Array Oper) (i : Nat) (D : Nat → Bool) : Bool := (opAt ops i).after.toList.all fun e => !Region.binds .any e || D e.on

section
variable {P : Program} {ops : Array Oper} {Q : Exit → Act → World → Prop}
theorem any_of_inv (hed : edgesOK ops = true) (I : (Nat → Bool) → Act → World → Prop)
    (hstep : ∀ (i : Nat) (D : Nat → Bool) (a : Act) (w : World), i < ops.size → D i = false → aftOK ops i D = true → I D a w → EffStep P ops (opAt ops i) a w (fun a' w' => I (fun j => D j || Nat.beq j i) a' w'))
    (hend : ∀ (D : Nat → Bool) (a : Act) (w : World), (∀ i, i < ops.size → D i = true) → I D a w → Q .normal a w) :
    ∀ (fuel : Nat) (listed : Array Bool) (a : Act) (w : World), listed.size = ops.size → (left ops listed).length ≤ fuel → I (fun i => listed.getD i false) a w → wpAny P .any ops Q fuel listed a w := by
  have hedge : ∀ i, i < ops.size → ∀ e ∈ (opAt ops i).after.toList, Region.binds .any e = true → e.on < i := by
    intro i hi e he hb
    have h1 := List.all_eq_true.1 hed i (by simpa using hi)
    have h2 := List.all_eq_true.1 h1 e he
    rw [hb] at h2
    simpa using h2
  have hgd : ∀ (listed : Array Bool) (i : Nat), listed.size = ops.size → i < ops.size → listed.getD i true = listed.getD i false := by
    intro listed i hsz hi
    simp [Array.getD_eq_getD_getElem?, hsz, hi]
  have done : ∀ (listed : Array Bool) (a : Act) (w : World), listed.size = ops.size → left ops listed = [] → I (fun i => listed.getD i false) a w → Q .normal a w := by
    intro listed a w hsz hl h
    refine hend _ a w (fun i hi => ?_) h
    have : ¬ i ∈ left ops listed := by rw [hl]; simp
    rw [mem_left] at this
    rw [← hgd listed i hsz hi]
    cases hx : listed.getD i true
    · exact absurd ⟨hi, hx⟩ this
    · rfl
  have hrd : ∀ (listed : Array Bool) i, i ∈ Region.ready .any ops listed ↔ i < ops.size ∧ listed.getD i true = false ∧ ∀ e ∈ (opAt ops i).after.toList, Region.binds .any e = true → listed.getD e.on false = true := by
    intro listed i
    simp only [Region.ready, List.mem_filter, List.mem_range, Bool.and_eq_true, Bool.not_eq_true']
    constructor
    · rintro ⟨h1, h2, h3⟩
      refine ⟨h1, h2, ?_⟩
      rw [Array.getElem?_eq_getElem h1] at h3
      simp only [Option.map_some, Option.getD_some] at h3
      rw [Array.all_eq_true_iff_forall_mem] at h3
      intro e he hb
      have := h3 e (by simpa [opAt, h1] using he)
      rw [hb] at this
      simpa using this
    · rintro ⟨h1, h2, h3⟩
      refine ⟨h1, h2, ?_⟩
      rw [Array.getElem?_eq_getElem h1]
      simp only [Option.map_some, Option.getD_some]
      rw [Array.all_eq_true_iff_forall_mem]
      intro e he
      cases hb : Region.binds .any e
      · rfl
      · simpa using h3 e (by simpa [opAt, h1] using he) hb
  intro fuel
  induction fuel with
  | zero =>
    intro listed a w hsz hlen h
    have hl : left ops listed = [] := List.eq_nil_of_length_eq_zero (by omega)
    refine ⟨?_, done _ _ _ hsz hl h⟩
    rw [List.eq_nil_iff_forall_not_mem]
    intro i hi
    have := (hrd listed i).1 hi
    have hm : i ∈ left ops listed := mem_left.2 ⟨this.1, this.2.1⟩
    rw [hl] at hm
    cases hm
  | succ fuel ih =>
    intro listed a w hsz hlen h
    refine ⟨fun hnone => ?_, fun i hi => ?_⟩
    · cases hl : left ops listed with
      | nil => exact done _ _ _ hsz hl h
      | cons i0 rest =>
        exfalso
        have hm : i0 ∈ left ops listed := by rw [hl]; simp
        obtain ⟨h1, h2⟩ := mem_left.1 hm
        have : i0 ∈ Region.ready .any ops listed := by
          refine (hrd listed i0).2 ⟨h1, h2, fun e he hb => ?_⟩
          have hlt := hedge i0 h1 e he hb
          have hs := left_sorted ops listed
          rw [hl] at hs
          by_cases hx : listed.getD e.on true = false
          · have hm' : e.on ∈ left ops listed := mem_left.2 ⟨by omega, hx⟩
            rw [hl] at hm'
            rcases List.mem_cons.1 hm' with e1 | e1
            · omega
            · have := (List.pairwise_cons.1 hs).1 _ e1
              omega
          · rw [← hgd listed e.on hsz (by omega)]
            simpa using hx
        rw [hnone] at this
        cases this
    · obtain ⟨h1, h2, h3⟩ := (hrd listed i).1 hi
      have hm : i ∈ left ops listed := mem_left.2 ⟨h1, h2⟩
      have hD : listed.getD i false = false := by rw [← hgd listed i hsz h1]; exact h2
      have hA : aftOK ops i (fun i => listed.getD i false) = true := by
        unfold aftOK
        rw [List.all_eq_true]
        intro e he
        cases hb : Region.binds .any e
        · rfl
        · simpa using h3 e he hb
      have hlen' : (left ops (listed.setIfInBounds i true)).length ≤ fuel := by
        rw [left_set h1 hsz]
        have := filter_len (sorted_nodup (left_sorted ops listed)) hm
        omega
      have hset : (fun j => (fun i => listed.getD i false) j || Nat.beq j i) = (fun j => (listed.setIfInBounds i true).getD j false) := by
        funext j
        by_cases hj : j = i
        · subst hj
          have : Nat.beq j j = true := Nat.beq_refl j
          simp [Array.getD_eq_getD_getElem?, hsz, h1, this]
        · have : Nat.beq j i = false := nbeq_false hj
          simp only [this, Bool.or_false, Array.getD_eq_getD_getElem?, Array.getElem?_setIfInBounds]
          rw [if_neg (fun e => hj e.symm)]
      have hst := hstep i _ a w h1 hD hA h
      rw [hset] at hst
      have hio : ops[i]? = some (opAt ops i) := by simp [opAt, Array.getElem?_eq_getElem h1]
      have hnext : ∀ a' w', I (fun j => (listed.setIfInBounds i true).getD j false) a' w' → wpAny P .any ops Q fuel (listed.setIfInBounds i true) a' w' := fun a' w' h => ih _ a' w' (by simpa using hsz) hlen' h
      unfold wpOp
      simp only [hio]
      cases hw : Region.wanted (opAt ops i) (yielded ops a.tmps)
      · simp only [Bool.false_eq_true, if_false]
        exact hnext _ _ (hst.2 hw)
      · simp only [if_true]
        exact .inl ((hst.1 hw).wp fun v w' h => hnext _ _ h)
end

section
variable {P : Program} {n : Nat} {Q : Exit → Fr → World → Prop} {F : Fr} {w : World} {ops : Array Oper}
/-- one operation of the region, over frames -/
def EffF (P : Program) (n : Nat) (ops : Array Oper) (o : Oper) (F : Fr) (w : World) (K : Fr → World → Prop) : Prop := EffStep P ops o (act n F) w (fun a' w' => ∃ F', a' = act n F' ∧ K F' w')
theorem WP_drawI {id : Nat} {l : List Oper} (hm : P.follows .mixedOrders = true) (hed : edgesOK l.toArray = true) (I : (Nat → Bool) → Fr → World → Prop) (h0 : I (fun _ => false) F w.drew)
    (hstep : ∀ (i : Nat) (D : Nat → Bool) (F : Fr) (w : World), i < l.length → D i = false → aftOK l.toArray i D = true → I D F w → EffF P n l.toArray (opAt l.toArray i) F w (fun F' w' => I (fun j => D j || Nat.beq j i) F' w'))
    (hend : ∀ (D : Nat → Bool) (F : Fr) (w : World), (∀ i, i < l.length → D i = true) → I D F w → Q .normal F w) : WP P n (.region id l.toArray true) Q F w := by
  refine wp_region_any hm ?_
  refine any_of_inv hed (fun D a w => ∃ F', a = act n F' ∧ I D F' w) ?_ ?_ l.toArray.size _ _ _ (by simp) ?_ ⟨F, rfl, ?_⟩
  · rintro i D a w hi hD hA ⟨F', rfl, hI⟩
    exact hstep i D F' w (by simpa using hi) hD hA hI
  · rintro D a w hD ⟨F', rfl, hI⟩
    exact ⟨F', rfl, hend D F' w (fun i hi => hD i (by simpa using hi)) hI⟩
  · unfold left
    exact Nat.le_trans (List.length_filter_le _ _) (by simp)
  · have : (fun i => (Array.replicate l.toArray.size false).getD i false) = (fun _ => false) := by
      funext i
      simp only [Array.getD_eq_getD_getElem?]
      rw [Array.getElem?_replicate]
      split <;> rfl
    rw [this]
    exact h0
variable {d : Nat} {op : Op} {ty : TypeId} {pos : String} {aft : Array Edge} {K : Fr → World → Prop}
theorem effN {R : Value → World → Prop} (hs : StepF P n ⟨some d, op, ty, pos, aft, none⟩ F w R) (h : ∀ v w', R v w' → K (F.put d v) w') : EffF P n ops ⟨some d, op, ty, pos, aft, none⟩ F w K :=
  ⟨fun _ => Step.mono hs fun v w' hr => ⟨F.put d v, by rw [act_put]; rfl, h v w' hr⟩, fun hw => by simp [Region.wanted] at hw⟩
theorem effNp {r v : Value} (hp : PV P n w F ⟨some d, op, ty, pos, aft, none⟩ r) (hv : r = v) (h : K (F.put d v) w) : EffF P n ops ⟨some d, op, ty, pos, aft, none⟩ F w K := by
  subst hv
  refine effN (R := fun u w' => u = r ∧ w' = w) (.inl ⟨r, w, ?_, rfl, rfl⟩) ?_
  · rw [act_eval]; exact hp
  · rintro u w' ⟨rfl, rfl⟩; exact h
theorem effT {R : Value → World → Prop} {j : Nat} {want : Bool} {e : Nat} (hj : gslot ops j = some e) (hc : ev n F (.tmp e) = .bool want) (hs : StepF P n ⟨some d, op, ty, pos, aft, some (j, want)⟩ F w R) (h : ∀ v w', R v w' → K (F.put d v) w') :
    EffF P n ops ⟨some d, op, ty, pos, aft, some (j, want)⟩ F w K :=
  ⟨fun _ => Step.mono hs fun v w' hr => ⟨F.put d v, by rw [act_put]; rfl, h v w' hr⟩, fun hw => by rw [wanted_act rfl hj hc] at hw; simp at hw⟩
theorem effTp {r v : Value} {j : Nat} {want : Bool} {e : Nat} (hj : gslot ops j = some e) (hc : ev n F (.tmp e) = .bool want) (hp : PV P n w F ⟨some d, op, ty, pos, aft, some (j, want)⟩ r) (hv : r = v) (h : K (F.put d v) w) :
    EffF P n ops ⟨some d, op, ty, pos, aft, some (j, want)⟩ F w K := by
  subst hv
  refine effT (R := fun u w' => u = r ∧ w' = w) hj hc (.inl ⟨r, w, ?_, rfl, rfl⟩) ?_
  · rw [act_eval]; exact hp
  · rintro u w' ⟨rfl, rfl⟩; exact h
end
theorem inS_of_mem : ∀ {S : List Nat} {i : Nat}, i ∈ S → inS S i = true
  | [], _, h => by cases h
  | d :: S, i, h => by
    simp only [inS]
    rcases List.mem_cons.1 h with rfl | h
    · rw [Nat.beq_refl]; rfl
    · rw [inS_of_mem h]
      cases Nat.beq i d <;> rfl
/-- slots from a base on, as far as their operations are done; the others are those of F0 -/
structure Dn (b m : Nat) (V : Nat → Value) (F0 : Fr) (D : Nat → Bool) (F : Fr) : Prop where
  at_ : ∀ j, j < m → D j = true → F (b + j) = V j
  out : ∀ s, s < b ∨ b + m ≤ s → F s = F0 s
theorem Dn.start {b m : Nat} {V : Nat → Value} {F0 : Fr} : Dn b m V F0 (fun _ => false) F0 := ⟨by simp, fun _ _ => rfl⟩
theorem Dn.put {b m i : Nat} {V : Nat → Value} {F0 F : Fr} {D : Nat → Bool} (h : Dn b m V F0 D F) (hi : i < m) : Dn b m V F0 (fun j => D j || Nat.beq j i) (F.put (b + i) (V i)) := by
  refine ⟨fun j hj hD => ?_, fun s hs => ?_⟩
  · by_cases hji : j = i
    · subst hji
      have : Nat.beq (b + j) (b + j) = true := Nat.beq_refl _
      simp [Fr.put, this]
    · have h1 : Nat.beq j i = false := nbeq_false hji
      rw [h1, Bool.or_false] at hD
      have h2 : Nat.beq (b + j) (b + i) = false := nbeq_false (by omega)
      simp only [Fr.put, h2, cond_false]
      exact h.at_ j hj hD
  · have h2 : Nat.beq s (b + i) = false := nbeq_false (by omega)
    simp only [Fr.put, h2, cond_false]
    exact h.out s hs
theorem Dn.same {b m : Nat} {V : Nat → Value} {F0 F : Fr} {D : Nat → Bool} (h : Dn b m V F0 D F) : Same (List.range' b m) F F0 := by
  intro s hs
  refine h.out s ?_
  rcases Nat.lt_or_ge s b with h1 | h1
  · exact .inl h1
  · rcases Nat.lt_or_ge s (b + m) with h2 | h2
    · rw [inS_of_mem (List.mem_range'_1.2 ⟨h1, h2⟩)] at hs
      cases hs
    · exact .inr h2
theorem Dn.slot {b m n : Nat} {V : Nat → Value} {F0 F : Fr} {D : Nat → Bool} (h : Dn b m V F0 D F) (j : Nat) (hD : D j = true) (hj : Nat.blt j m = true) (hn : Nat.blt (b + j) n = true) : ev n F (.tmp (b + j)) = V j := by
  simp only [ev, hn, cond_true]
  exact h.at_ j (lt_of_nblt hj) hD
theorem Dn.old {b m n : Nat} {V : Nat → Value} {F0 F : Fr} {D : Nat → Bool} (h : Dn b m V F0 D F) (s : Nat) (hs : (Nat.blt s b || Nat.ble (b + m) s) = true) (hn : Nat.blt s n = true) : ev n F (.tmp s) = F0 s := by
  simp only [ev, hn, cond_true]
  refine h.out s ?_
  rcases Bool.or_eq_true _ _ ▸ hs with h1 | h1
  · exact .inl (lt_of_nblt h1)
  · exact .inr (Nat.le_of_ble_eq_true h1)
end Go.Eng
