/- The engine, part I: a region that draws its order and in which some operations with effects float (their order against others is free): walked once for each order of these; conditions: the closed check and the hypotheses of each law. -/
import Derived.Test.YteklkjnhefnimaaDoorEngH
namespace Go.Eng

def befBit (ops : Array Oper) (i j : Nat) : Bool := ((Region.before ops).getD i 0).testBit j
/-- the operations with effects whose order against i is free -/
def floats (ops : Array Oper) (i : Nat) (rest : List Nat) : List Nat := rest.filter fun x => effOp (opAt ops x).op && !befBit ops x i

def wpE (P : Program) (ops : Array Oper) (nd : Oper → Bool) (G : World → Prop) (K : Act → World → Prop) : Nat → List Nat → Act → World → Prop
  | 0, _, a, w => K a w
  | _ + 1, [], a, w => K a w
  | n + 1, i :: rest, a, w =>
    if effOp (opAt ops i).op then ∀ x ∈ i :: floats ops i rest, EffStep P ops (opAt ops x) a w (fun a' w' => (nd (opAt ops x) = true → G w') ∧ wpE P ops nd G K n ((i :: rest).filter (· != x)) a' w')
    else ∃ v, YV P ops G (opAt ops i) a v ∧ wpE P ops nd G K n rest (a.put (opAt ops i).dst v) w

/-- two operations, the first one earlier in the text -/
def okPairE (ops : Array Oper) (j i : Nat) : Bool :=
  befBit ops i j || (if effOp (opAt ops j).op && effOp (opAt ops i).op then (List.range ops.size).all fun x => !befBit ops i x || decide (x < j) else okPair ops (opAt ops j) (opAt ops i))

def drawOKE (P : Program) (ops : Array Oper) (nd : Oper → Bool) : Bool :=
  (List.range ops.size).all fun i => (opAt ops i).after.all (fun e => !Region.binds .any e || decide (e.on < i)) &&
    (!effOp (opAt ops i).op || nd (opAt ops i) || (List.range ops.size).all fun j => effOp (opAt ops j).op || wl P (opAt ops j).op || befBit ops i j) &&
    (List.range i).all fun j => okPairE ops j i

section
variable {P : Program} {ops : Array Oper} {nd : Oper → Bool} {G : World → Prop} {K : Act → World → Prop} {Q : Exit → Act → World → Prop}

theorem drawOKE_edge (h : drawOKE P ops nd = true) {i : Nat} (hi : i < ops.size) : ∀ e ∈ (opAt ops i).after.toList, Region.binds .any e = true → e.on < i := by
  intro e he hb
  simp only [drawOKE, List.all_eq_true, Bool.and_eq_true] at h
  have h1 := (h i (by simpa using hi)).1.1
  rw [Array.all_eq_true_iff_forall_mem] at h1
  have := h1 e (by simpa using he)
  rw [hb] at this
  simpa using this
theorem drawOKE_need (h : drawOKE P ops nd = true) {i j : Nat} (hi : i < ops.size) (hj : j < ops.size) (he : effOp (opAt ops i).op = true) (hp : effOp (opAt ops j).op = false) (hwl : wl P (opAt ops j).op = false) : nd (opAt ops i) = true ∨ befBit ops i j = true := by
  simp only [drawOKE, List.all_eq_true, Bool.and_eq_true] at h
  have h1 := (h i (by simpa using hi)).1.2
  rw [he] at h1
  simp only [Bool.not_true, Bool.false_or, Bool.or_eq_true, List.all_eq_true] at h1
  rcases h1 with h1 | h1
  · exact .inl h1
  · have := h1 j (by simpa using hj)
    rw [hp, hwl] at this
    exact .inr (by simpa using this)
theorem drawOKE_pair (h : drawOKE P ops nd = true) {i j : Nat} (hi : i < ops.size) (hj : j < i) : okPairE ops j i = true := by
  simp only [drawOKE, List.all_eq_true, Bool.and_eq_true] at h
  exact (h i (by simpa using hi)).2 j (by simpa using hj)
/-- an operation with an effect, another one, not ordered -/
theorem okE_mixed (h : drawOKE P ops nd = true) {i j : Nat} (hi : i < ops.size) (hj : j < i) (hb : befBit ops i j = false) (hm : ¬ (effOp (opAt ops j).op = true ∧ effOp (opAt ops i).op = true)) : okPair ops (opAt ops j) (opAt ops i) = true := by
  have := drawOKE_pair h hi hj
  unfold okPairE at this
  rw [hb, if_neg (by simpa using hm)] at this
  simpa using this
theorem okE_float (h : drawOKE P ops nd = true) {i j : Nat} (hi : i < ops.size) (hj : j < i) (hb : befBit ops i j = false) (h1 : effOp (opAt ops j).op = true) (h2 : effOp (opAt ops i).op = true) : ∀ x, x < ops.size → j ≤ x → befBit ops i x = false := by
  intro x hx hjx
  have := drawOKE_pair h hi hj
  unfold okPairE at this
  rw [hb, if_pos (by simp [h1, h2])] at this
  simp only [Bool.false_or, List.all_eq_true] at this
  have := this x (by simpa using hx)
  cases hbb : befBit ops i x
  · rfl
  · rw [hbb] at this
    simp at this
    omega

theorem befBit_lt (h : drawOKE P ops nd = true) {i : Nat} (hi : i < ops.size) : ∀ {j : Nat}, befBit ops i j = true → j < i := by
  induction i using Nat.strongRecOn with
  | _ i ih =>
    intro j hb
    obtain ⟨e, he, hbd, hor⟩ := before_spec hi hb
    have hlt := drawOKE_edge h hi e he hbd
    rcases hor with rfl | hor
    · exact hlt
    · exact Nat.lt_trans (ih e.on hlt (by omega) hor) hlt

theorem pair_apart {o o' : Oper} (h : okPair ops o o' = true) : o.apart ops o' = true ∧ notSel o.op = true ∧ notSel o'.op = true := by
  simp only [okPair, Bool.and_eq_true] at h
  exact ⟨h.1.1.1, h.1.2, h.2⟩

/-- what two operations that are apart do to each other -/
structure Commute (ops : Array Oper) (p i : Oper) : Prop where
  ei : ∀ (a : Act) (v : Value), execOp (a.put p.dst v).eval i = execOp a.eval i
  ep : ∀ (a : Act) (v : Value), execOp (a.put i.dst v).eval p = execOp a.eval p
  wi : ∀ (a : Act) (v : Value), Region.wanted i (yielded ops (a.put p.dst v).tmps) = Region.wanted i (yielded ops a.tmps)
  wq : ∀ (a : Act) (v : Value), Region.wanted p (yielded ops (a.put i.dst v).tmps) = Region.wanted p (yielded ops a.tmps)
  hc : ∀ (a : Act) (v u : Value), (a.put p.dst v).put i.dst u = (a.put i.dst u).put p.dst v
theorem Commute.of {p i : Oper} (h : okPair ops p i = true) : Commute ops p i := by
  obtain ⟨hap, hsp, hsi⟩ := pair_apart h
  obtain ⟨h1, h2, h3⟩ := Oper.apart_spec hap
  exact ⟨fun a v => execOp_put _ (sel_of hsi) a _ v h1, fun a v => execOp_put _ (sel_of hsp) a _ v h3, fun a v => wanted_put _ a _ v h1, fun a v => wanted_put _ a _ v h3, fun a v u => Act.put_comm a v u h2⟩
theorem Commute.symm {p i : Oper} (h : Commute ops p i) : Commute ops i p := ⟨h.ep, h.ei, h.wq, h.wi, fun a v u => (h.hc a u v).symm⟩

theorem filter_ne {l : List Nat} {i : Nat} (h : i ∉ l) : l.filter (· != i) = l := by
  rw [List.filter_eq_self]
  intro x hx
  have : x ≠ i := by
    rintro rfl
    exact h hx
  simpa using this
theorem filter_len {l : List Nat} {i : Nat} (hs : l.Nodup) (h : i ∈ l) : (l.filter (· != i)).length + 1 = l.length := by
  induction l with
  | nil => cases h
  | cons p rest ih =>
    obtain ⟨h1, h2⟩ := List.nodup_cons.1 hs
    by_cases hp : p = i
    · subst hp
      rw [List.filter_cons]
      simp only [bne_self_eq_false, Bool.false_eq_true, if_false]
      rw [filter_ne h1]
      rfl
    · have hir : i ∈ rest := by
        rcases List.mem_cons.1 h with e | e
        · exact absurd e.symm hp
        · exact e
      rw [List.filter_cons, if_pos (by simpa using hp)]
      simp only [List.length_cons]
      rw [ih h2 hir]
theorem sorted_nodup {l : List Nat} (h : l.Pairwise (· < ·)) : l.Nodup := h.imp fun h => Nat.ne_of_lt h

theorem pullE {wG : World} (hwG : G wG) (hok : drawOKE P ops nd = true) (i : Nat) (hi0 : i < ops.size) : ∀ (n : Nat) (l : List Nat) (a : Act) (w : World), l.length = n + 1 → (∀ x ∈ l, x < ops.size) → wpE P ops nd G K (n + 1) l a w → i ∈ l → l.Pairwise (· < ·) →
    (∀ j ∈ l, befBit ops i j = false) →
    if effOp (opAt ops i).op then EffStep P ops (opAt ops i) a w (fun a' w' => (nd (opAt ops i) = true → G w') ∧ wpE P ops nd G K n (l.filter (· != i)) a' w')
    else ∃ v, YV P ops G (opAt ops i) a v ∧ wpE P ops nd G K n (l.filter (· != i)) (a.put (opAt ops i).dst v) w := by
  intro n
  induction n with
  | zero =>
    intro l a w hlen hlt h hi hs hb
    match l, hlen with
    | [p], _ =>
      have : i = p := by simpa using hi
      subst this
      simp only [wpE] at h
      by_cases he : effOp (opAt ops i).op = true
      · rw [if_pos he] at h ⊢
        exact h i (by simp)
      · rw [if_neg he] at h ⊢
        rw [List.filter_cons]
        simp only [bne_self_eq_false, Bool.false_eq_true, if_false, List.filter_nil]
        exact h
  | succ n ih =>
    intro l a w hlen hlt h hi hs hb
    match l, hlen with
    | p :: rest, hlen =>
      have hlen' : rest.length = n + 1 := by simpa using hlen
      obtain ⟨hs1, hs2⟩ := List.pairwise_cons.1 hs
      have hnd := sorted_nodup hs
      by_cases hp : p = i
      · subst hp
        have hf : (p :: rest).filter (· != p) = rest := by
          rw [List.filter_cons]
          simp only [bne_self_eq_false, Bool.false_eq_true, if_false]
          exact filter_ne (List.nodup_cons.1 hnd).1
        rw [wpE] at h
        by_cases he : effOp (opAt ops p).op = true
        · rw [if_pos he] at h ⊢
          exact h p (by simp)
        · rw [if_neg he] at h ⊢
          rw [hf]
          exact h
      · have hir : i ∈ rest := by
          rcases List.mem_cons.1 hi with e | e
          · exact absurd e.symm hp
          · exact e
        have hpi : p < i := hs1 i hir
        have hbp : befBit ops i p = false := hb p (by simp)
        have hf : (p :: rest).filter (· != i) = p :: rest.filter (· != i) := by
          rw [List.filter_cons, if_pos (by simpa using hp)]
        have hltr : ∀ x ∈ rest, x < ops.size := fun x hx => hlt x (by simp [hx])
        have hbr : ∀ j ∈ rest, befBit ops i j = false := fun j hj => hb j (by simp [hj])
        rw [wpE] at h
        by_cases hpe : effOp (opAt ops p).op = true
        · rw [if_pos hpe] at h
          by_cases hie : effOp (opAt ops i).op = true
          · rw [if_pos hie]
            exact h i (by
              rw [List.mem_cons]
              right
              unfold floats
              rw [List.mem_filter]
              exact ⟨hir, by simp [hie, hbp]⟩)
          · have hiep : effOp (opAt ops i).op = false := by simpa using hie
            rw [if_neg hie]
            -- each branch
            have hbr2 : ∀ x ∈ p :: floats ops p rest, x ∈ p :: rest ∧ x ≠ i ∧ effOp (opAt ops x).op = true ∧ Commute ops (opAt ops x) (opAt ops i) := by
              intro x hx
              have hxl : x ∈ p :: rest ∧ effOp (opAt ops x).op = true ∧ (x = p ∨ (x ∈ rest ∧ befBit ops x p = false)) := by
                rcases List.mem_cons.1 hx with rfl | hx
                · exact ⟨by simp, hpe, .inl rfl⟩
                · unfold floats at hx
                  rw [List.mem_filter] at hx
                  simp only [Bool.and_eq_true, Bool.not_eq_true'] at hx
                  exact ⟨by simp [hx.1], hx.2.1, .inr ⟨hx.1, hx.2.2⟩⟩
              obtain ⟨hxm, hxe, hxo⟩ := hxl
              have hxi : x ≠ i := by
                rintro rfl
                rw [hiep] at hxe
                cases hxe
              refine ⟨hxm, hxi, hxe, ?_⟩
              rcases Nat.lt_or_gt_of_ne hxi with hlt' | hlt'
              · exact Commute.of (okE_mixed hok hi0 hlt' (hb x hxm) (by rw [hiep]; simp))
              · rcases hxo with rfl | ⟨hxr, hxb⟩
                · omega
                · have hbx := okE_float hok (hlt x hxm) (hs1 x hxr) hxb hpe hxe i hi0 (by omega)
                  exact (Commute.of (okE_mixed hok (hlt x hxm) hlt' hbx (by rw [hiep]; simp))).symm
            have key : ∀ x ∈ p :: floats ops p rest, ∀ u w', wpE P ops nd G K (n + 1) ((p :: rest).filter (· != x)) (a.put (opAt ops x).dst u) w' →
                ∃ v, YV P ops G (opAt ops i) a v ∧ wpE P ops nd G K n (((p :: rest).filter (· != x)).filter (· != i)) ((a.put (opAt ops x).dst u).put (opAt ops i).dst v) w' := by
              intro x hx u w' hr
              obtain ⟨hxm, hxi, hxe, hcm⟩ := hbr2 x hx
              have hfl := filter_len hnd hxm
              have := ih _ (a.put (opAt ops x).dst u) w' (by simp only [List.length_cons] at hfl; omega) (fun y hy => hlt y (List.mem_filter.1 hy).1) hr (by
                rw [List.mem_filter]
                exact ⟨hi, by simpa using fun e : i = x => hxi e.symm⟩) (hs.filter _) (fun j hj => hb j (List.mem_filter.1 hj).1)
              rw [if_neg hie] at this
              obtain ⟨v, hv, hr'⟩ := this
              exact ⟨v, hv.congr (hcm.ei a u).symm (hcm.wi a u).symm, hr'⟩
            have hex : ∃ v, YV P ops G (opAt ops i) a v := by
              have h0 := h p (by simp)
              cases hwp : Region.wanted (opAt ops p) (yielded ops a.tmps)
              · obtain ⟨_, hr⟩ := h0.2 hwp
                obtain ⟨v, hv, _⟩ := key p (by simp) _ _ hr
                exact ⟨v, hv⟩
              · obtain ⟨u, w', _, hr⟩ := (h0.1 hwp).out
                obtain ⟨v, hv, _⟩ := key p (by simp) _ _ hr
                exact ⟨v, hv⟩
            obtain ⟨v, hv⟩ := hex
            refine ⟨v, hv, ?_⟩
            rw [hf, wpE, if_pos hpe]
            have hfl : floats ops p (rest.filter (· != i)) = floats ops p rest := by
              unfold floats
              rw [List.filter_filter]
              apply List.filter_congr
              intro y _
              by_cases hyi : y = i
              · subst hyi
                simp [hiep]
              · simp [hyi]
            rw [hfl]
            intro x hx
            obtain ⟨hxm, hxi, hxe, hcm⟩ := hbr2 x hx
            have hsw : ((p :: rest).filter (· != x)).filter (· != i) = (p :: rest.filter (· != i)).filter (· != x) := by
              rw [← hf, List.filter_filter, List.filter_filter]
              apply List.filter_congr
              intro y _
              rw [Bool.and_comm]
            have key2 : ∀ u w', ((nd (opAt ops x) = true → G w') ∧ wpE P ops nd G K (n + 1) ((p :: rest).filter (· != x)) (a.put (opAt ops x).dst u) w') →
                (nd (opAt ops x) = true → G w') ∧ wpE P ops nd G K n ((p :: rest.filter (· != i)).filter (· != x)) ((a.put (opAt ops i).dst v).put (opAt ops x).dst u) w' := by
              rintro u w' ⟨hg', hr⟩
              obtain ⟨v', hv', hr'⟩ := key x hx _ _ hr
              have := hv.uniq hwG hv'
              subst this
              rw [hsw, hcm.hc] at hr'
              exact ⟨hg', hr'⟩
            refine ⟨fun hw => ?_, fun hw => ?_⟩
            · rw [hcm.wq] at hw
              exact (((h x hx).1 hw).congr (hcm.ep a v)).mono fun u w' hh => key2 u w' hh
            · rw [hcm.wq] at hw
              exact key2 _ _ ((h x hx).2 hw)
        · have hpe' : effOp (opAt ops p).op = false := by simpa using hpe
          rw [if_neg hpe] at h
          obtain ⟨vp, hvp, hr⟩ := h
          have hh := ih rest _ w hlen' hltr hr hir hs2 hbr
          have hcm : Commute ops (opAt ops p) (opAt ops i) := Commute.of (okE_mixed hok hi0 hpi hbp (by rw [hpe']; simp))
          rw [hf]
          by_cases hie : effOp (opAt ops i).op = true
          · rw [if_pos hie] at hh ⊢
            have key : ∀ u w', ((nd (opAt ops i) = true → G w') ∧ wpE P ops nd G K n (rest.filter (· != i)) ((a.put (opAt ops p).dst vp).put (opAt ops i).dst u) w') →
                (nd (opAt ops i) = true → G w') ∧ wpE P ops nd G K (n + 1) (p :: rest.filter (· != i)) (a.put (opAt ops i).dst u) w' := by
              rintro u w' ⟨hg', hr'⟩
              refine ⟨hg', ?_⟩
              rw [wpE, if_neg hpe]
              rw [hcm.hc] at hr'
              exact ⟨vp, hvp.congr (hcm.ep a u) (hcm.wq a u), hr'⟩
            refine ⟨fun hw => ?_, fun hw => ?_⟩
            · exact ((hh.1 (by rw [hcm.wi]; exact hw)).congr (hcm.ei a vp).symm).mono fun u w' hx => key u w' hx
            · exact key _ _ (hh.2 (by rw [hcm.wi]; exact hw))
          · rw [if_neg hie] at hh ⊢
            obtain ⟨v, hv, hr'⟩ := hh
            refine ⟨v, hv.congr (hcm.ei a vp).symm (hcm.wi a vp).symm, ?_⟩
            rw [wpE, if_neg hpe]
            rw [hcm.hc] at hr'
            exact ⟨vp, hvp.congr (hcm.ep a v) (hcm.wq a v), hr'⟩

theorem any_of_wpE {wG : World} (hwG : G wG) (hok : drawOKE P ops nd = true) (hK : ∀ a w, K a w → Q .normal a w) : ∀ (fuel : Nat) (listed : Array Bool) (a : Act) (w : World), listed.size = ops.size → (left ops listed).length ≤ fuel →
    (∀ i, i < ops.size → listed.getD i true = true → ∀ j, ((Region.before ops).getD i 0).testBit j = true → listed.getD j false = true) →
    (∀ j ∈ left ops listed, effOp (opAt ops j).op = false → wl P (opAt ops j).op = false → G w) → wpE P ops nd G K (left ops listed).length (left ops listed) a w → wpAny P .any ops Q fuel listed a w := by
  intro fuel
  have done : ∀ (listed : Array Bool) (a : Act) (w : World), left ops listed = [] → wpE P ops nd G K (left ops listed).length (left ops listed) a w → Q .normal a w := by
    intro listed a w hl h
    rw [hl] at h
    exact hK _ _ h
  have hrd : ∀ (listed : Array Bool) i, i ∈ Region.ready .any ops listed ↔ i < ops.size ∧ listed.getD i true = false ∧ ∀ e ∈ (opAt ops i).after.toList, Region.binds .any e = true → listed.getD e.on false = true := by
    intro listed i
    simp only [Region.ready, List.mem_filter, List.mem_range, Bool.and_eq_true, Bool.not_eq_true']
    constructor
    · rintro ⟨h1, h2, h3⟩
      refine ⟨h1, h2, ?_⟩
      rw [Array.getElem?_eq_getElem h1] at h3
      simp only [Option.map_some, Option.getD_some] at h3
      rw [Array.all_eq_true_iff_forall_mem] at h3
      intro e he hb
      have := h3 e (by simpa [opAt, h1] using he)
      rw [hb] at this
      simpa using this
    · rintro ⟨h1, h2, h3⟩
      refine ⟨h1, h2, ?_⟩
      rw [Array.getElem?_eq_getElem h1]
      simp only [Option.map_some, Option.getD_some]
      rw [Array.all_eq_true_iff_forall_mem]
      intro e he
      cases hb : Region.binds .any e
      · rfl
      · simpa using h3 e (by simpa [opAt, h1] using he) hb
  induction fuel with
  | zero =>
    intro listed a w hsz hlen _ _ h
    have hl : left ops listed = [] := List.eq_nil_of_length_eq_zero (by omega)
    refine ⟨?_, done _ _ _ hl h⟩
    rw [List.eq_nil_iff_forall_not_mem]
    intro i hi
    have := (hrd listed i).1 hi
    have hm : i ∈ left ops listed := mem_left.2 ⟨this.1, this.2.1⟩
    rw [hl] at hm
    cases hm
  | succ fuel ih =>
    intro listed a w hsz hlen hcl hG h
    refine ⟨fun hnone => ?_, fun i hi => ?_⟩
    · cases hl : left ops listed with
      | nil => exact done _ _ _ hl h
      | cons i0 rest =>
        exfalso
        have hm : i0 ∈ left ops listed := by rw [hl]; simp
        obtain ⟨h1, h2⟩ := mem_left.1 hm
        have : i0 ∈ Region.ready .any ops listed := by
          refine (hrd listed i0).2 ⟨h1, h2, fun e he hb => ?_⟩
          have hlt := drawOKE_edge hok h1 e he hb
          have hs := left_sorted ops listed
          rw [hl] at hs
          by_cases hx : listed.getD e.on true = false
          · have hm' : e.on ∈ left ops listed := mem_left.2 ⟨by omega, hx⟩
            rw [hl] at hm'
            rcases List.mem_cons.1 hm' with e1 | e1
            · omega
            · have := (List.pairwise_cons.1 hs).1 _ e1
              omega
          · have hx' : listed.getD e.on true = true := by simpa using hx
            rw [Array.getD_eq_getD_getElem?] at hx' ⊢
            rw [Array.getElem?_eq_getElem (show e.on < listed.size by omega)] at hx' ⊢
            simpa using hx'
        rw [hnone] at this
        cases this
    · obtain ⟨h1, h2, h3⟩ := (hrd listed i).1 hi
      have hm : i ∈ left ops listed := mem_left.2 ⟨h1, h2⟩
      have hready : ∀ j, ((Region.before ops).getD i 0).testBit j = true → listed.getD j false = true := by
        intro j hb
        obtain ⟨e, he, hbd, hor⟩ := before_spec h1 hb
        have hl := h3 e he hbd
        rcases hor with rfl | hor
        · exact hl
        · have hlt := drawOKE_edge hok h1 e he hbd
          refine hcl e.on (by omega) ?_ j hor
          rw [Array.getD_eq_getD_getElem?] at hl ⊢
          rw [Array.getElem?_eq_getElem (show e.on < listed.size by omega)] at hl ⊢
          simpa using hl
      have hnb : ∀ j ∈ left ops listed, befBit ops i j = false := by
        intro j hj
        cases hb : befBit ops i j
        · rfl
        · exfalso
          obtain ⟨hj1, hj2⟩ := mem_left.1 hj
          have hjl := hready j hb
          rw [Array.getD_eq_getD_getElem?] at hjl hj2
          rw [Array.getElem?_eq_getElem (show j < listed.size by omega)] at hjl hj2
          simp at hjl hj2
          rw [hjl] at hj2
          cases hj2
      obtain ⟨n, hn⟩ : ∃ n, (left ops listed).length = n + 1 := by
        cases hl : left ops listed with
        | nil => rw [hl] at hm; cases hm
        | cons x y => exact ⟨y.length, rfl⟩
      have hfl := filter_len (sorted_nodup (left_sorted ops listed)) hm
      have hn' : (left ops (listed.setIfInBounds i true)).length = n := by
        rw [left_set h1 hsz]
        omega
      rw [hn] at h
      have hpull := pullE (P := P) (G := G) (K := K) hwG hok i h1 n (left ops listed) a w hn (fun x hx => (mem_left.1 hx).1) h hm (left_sorted _ _) hnb
      have hlen' : (left ops (listed.setIfInBounds i true)).length ≤ fuel := by omega
      have hcl' : ∀ k, k < ops.size → (listed.setIfInBounds i true).getD k true = true → ∀ j, ((Region.before ops).getD k 0).testBit j = true → (listed.setIfInBounds i true).getD j false = true := by
        intro k hk hkl j hb
        have hset : ∀ (d : Bool) x, (listed.setIfInBounds i true).getD x d = if x = i then true else listed.getD x d := by
          intro d x
          simp only [Array.getD_eq_getD_getElem?, Array.getElem?_setIfInBounds]
          by_cases hx : x = i
          · subst hx
            simp [hsz, h1]
          · rw [if_neg (fun e => hx e.symm), if_neg hx]
        rw [hset] at hkl ⊢
        split
        · rfl
        · by_cases hki : k = i
          · subst hki
            exact hready j hb
          · rw [if_neg hki] at hkl
            exact hcl k hk hkl j hb
      have hsub : ∀ j ∈ left ops (listed.setIfInBounds i true), j ∈ left ops listed ∧ j ≠ i := by
        intro j hj
        rw [left_set h1 hsz] at hj
        simpa using hj
      have hsame : ∀ j ∈ left ops (listed.setIfInBounds i true), effOp (opAt ops j).op = false → wl P (opAt ops j).op = false → G w := fun j hj => hG j (hsub j hj).1
      have heff : effOp (opAt ops i).op = true → ∀ w', (nd (opAt ops i) = true → G w') → ∀ j ∈ left ops (listed.setIfInBounds i true), effOp (opAt ops j).op = false → wl P (opAt ops j).op = false → G w' := by
        intro hie w' hg j hj hjp hjw
        obtain ⟨hj1, _⟩ := hsub j hj
        rcases drawOKE_need hok h1 (mem_left.1 hj1).1 hie hjp hjw with hb | hb
        · exact hg hb
        · rw [hnb j hj1] at hb
          cases hb
      have hnext : ∀ a' w', (∀ j ∈ left ops (listed.setIfInBounds i true), effOp (opAt ops j).op = false → wl P (opAt ops j).op = false → G w') → wpE P ops nd G K n ((left ops listed).filter (· != i)) a' w' → wpAny P .any ops Q fuel (listed.setIfInBounds i true) a' w' := by
        intro a' w' hg hh
        rw [← left_set h1 hsz] at hh
        exact ih _ a' w' (by simpa using hsz) hlen' hcl' hg (by rw [hn']; exact hh)
      have hio : ops[i]? = some (opAt ops i) := by simp [opAt, Array.getElem?_eq_getElem h1]
      unfold wpOp
      simp only [hio]
      by_cases hie : effOp (opAt ops i).op = true
      · rw [if_pos hie] at hpull
        cases hw : Region.wanted (opAt ops i) (yielded ops a.tmps)
        · simp only [Bool.false_eq_true, if_false]
          obtain ⟨hg, hh⟩ := hpull.2 hw
          exact hnext _ _ (heff hie _ hg) hh
        · simp only [if_true]
          exact .inl ((hpull.1 hw).wp fun v w' ⟨hg, hh⟩ => hnext _ _ (heff hie _ hg) hh)
      · rw [if_neg hie] at hpull
        obtain ⟨v, hv, hh⟩ := hpull
        rcases hv with ⟨hw, hr⟩ | ⟨hw, rfl⟩
        · simp only [hw, if_true]
          refine .inl (Step.wp (R := fun u w' => u = v ∧ w' = w) (.inl ⟨v, w, ?_, rfl, rfl⟩) ?_)
          · cases hwl : wl P (opAt ops i).op
            · exact hr w (hG i hm (by simpa using hie) hwl)
            · exact wl_run hwl (hr wG hwG)
          rintro u w' ⟨rfl, rfl⟩
          exact hnext _ _ hsame hh
        · simp only [hw, Bool.false_eq_true, if_false]
          exact hnext _ _ hsame hh

theorem wp_drawE {id : Nat} {a : Act} {w : World} (hm : P.follows .mixedOrders = true) (hok : drawOKE P ops nd = true) (G : World → Prop) (hG : G w.drew)
    (h : wpE P ops nd G (fun a w => Q .normal a w) ops.size (List.range ops.size) a w.drew) : (Code.region id ops true).wp P Q a w := by
  refine wp_region_any hm ?_
  have e1 : left ops (Array.replicate ops.size false) = List.range ops.size := by
    unfold left
    rw [List.filter_eq_self]
    intro i hi
    have : i < ops.size := by simpa using hi
    simp [Array.getD_eq_getD_getElem?, this]
  refine any_of_wpE (G := G) (K := fun a w => Q .normal a w) hG hok (fun _ _ h => h) ops.size _ a _ (by simp) ?_ ?_ (fun _ _ _ _ => hG) ?_
  · unfold left
    exact Nat.le_trans (List.length_filter_le _ _) (by simp)
  · intro i hi hl
    simp [Array.getD_eq_getD_getElem?, hi] at hl
  · rw [e1, List.length_range]
    exact h
end

/-! ### over frames -/
def wpe (P : Program) (n : Nat) (ops : Array Oper) (st : Bool) (G : World → Prop) (l : List Nat) (Q : Exit → Fr → World → Prop) (F : Fr) (w : World) : Prop :=
  wpE P ops (need st) G (fun a w => up n Q .normal a w) l.length l (act n F) w
/-- the operation x is done now -/
def wpb (P : Program) (n : Nat) (ops : Array Oper) (st : Bool) (G : World → Prop) (x : Nat) (l : List Nat) (Q : Exit → Fr → World → Prop) (F : Fr) (w : World) : Prop :=
  EffStep P ops (opAt ops x) (act n F) w (fun a' w' => (need st (opAt ops x) = true → G w') ∧ wpE P ops (need st) G (fun a w => up n Q .normal a w) l.length l a' w')

section
variable {P : Program} {n : Nat} {Q : Exit → Fr → World → Prop} {F : Fr} {w : World} {ops : Array Oper} {rest : List Nat} {st : Bool} {G : World → Prop}
variable {i d : Nat} {op : Op} {ty : TypeId} {pos : String} {aft : Array Edge}

theorem WP_drawE {id : Nat} {l : List Oper} (st : Bool) (is : List Nat) (hm : P.follows .mixedOrders = true) (hok : drawOKE P l.toArray (need st) = true) (hl : List.range l.length = is) (G : World → Prop) (hG : G w.drew)
    (h : wpe P n l.toArray st G is Q F w.drew) : WP P n (.region id l.toArray true) Q F w := by
  subst hl
  refine wp_drawE hm hok G hG ?_
  unfold wpe at h
  rw [List.length_range] at h
  rw [List.size_toArray]
  exact h
theorem wpe_nil (h : Q .normal F w) : wpe P n ops st G [] Q F w := ⟨F, rfl, h⟩
theorem wep {r v : Value} (ho : opAt ops i = ⟨some d, op, ty, pos, aft, none⟩) (he : effOp op = false) (hp : ∀ w, G w → PV P n w F ⟨some d, op, ty, pos, aft, none⟩ r) (hv : r = v) (h : wpe P n ops st G rest Q (F.put d v) w) : wpe P n ops st G (i :: rest) Q F w := by
  subst hv
  unfold wpe
  simp only [List.length_cons, wpE]
  rw [ho, if_neg (by simp [he])]
  refine ⟨r, .inl ⟨by simp [Region.wanted], fun w hw => ?_⟩, ?_⟩
  · rw [act_eval]; exact hp w hw
  · rw [act_put]; exact h
/-- nothing floats here -/
theorem wee0 (he : effOp (opAt ops i).op = true) (hf : floats ops i rest = []) (h : wpb P n ops st G i ((i :: rest).filter (· != i)) Q F w) (hn : Nat.beq ((i :: rest).filter (· != i)).length rest.length = true) : wpe P n ops st G (i :: rest) Q F w := by
  unfold wpe
  simp only [List.length_cons, wpE]
  rw [if_pos he, hf]
  intro x hx
  have : x = i := by simpa using hx
  subst this
  unfold wpb at h
  rw [Nat.eq_of_beq_eq_true hn] at h
  exact h
/-- one operation floats -/
theorem wee1 (k : Nat) (he : effOp (opAt ops i).op = true) (hf : floats ops i rest = [k]) (hn : Nat.beq ((i :: rest).filter (· != i)).length rest.length = true) (hn2 : Nat.beq ((i :: rest).filter (· != k)).length rest.length = true)
    (h : wpb P n ops st G i ((i :: rest).filter (· != i)) Q F w) (h2 : wpb P n ops st G k ((i :: rest).filter (· != k)) Q F w) : wpe P n ops st G (i :: rest) Q F w := by
  unfold wpe
  simp only [List.length_cons, wpE]
  rw [if_pos he, hf]
  intro x hx
  have : x = i ∨ x = k := by simpa using hx
  rcases this with rfl | rfl
  · unfold wpb at h
    rw [Nat.eq_of_beq_eq_true hn] at h
    exact h
  · unfold wpb at h2
    rw [Nat.eq_of_beq_eq_true hn2] at h2
    exact h2
theorem wbs {l : List Nat} {R : Value → World → Prop} (ho : opAt ops i = ⟨some d, op, ty, pos, aft, none⟩) (hs : StepF P n ⟨some d, op, ty, pos, aft, none⟩ F w R) (h : ∀ v w', R v w' → G w' ∧ wpe P n ops st G l Q (F.put d v) w') : wpb P n ops st G i l Q F w := by
  unfold wpb
  rw [ho]
  refine ⟨fun _ => Step.mono hs fun v w' hr => ?_, fun hw => ?_⟩
  · rw [act_put]
    exact ⟨fun _ => (h v w' hr).1, (h v w' hr).2⟩
  · simp [Region.wanted] at hw
theorem wbs0S {l : List Nat} {R : Value → World → Prop} (ho : opAt ops i = ⟨none, op, ty, pos, aft, none⟩) (hn : need false ⟨none, op, ty, pos, aft, none⟩ = false) (hs : StepF P n ⟨none, op, ty, pos, aft, none⟩ F w R) (h : ∀ v w', R v w' → wpe P n ops false G l Q F w') : wpb P n ops false G i l Q F w := by
  unfold wpb
  rw [ho]
  refine ⟨fun _ => Step.mono hs fun v w' hr => ?_, fun hw => ?_⟩
  · rw [act_put]
    exact ⟨fun hh => (by rw [hn] at hh; cases hh), h v w' hr⟩
  · simp [Region.wanted] at hw
end
end Go.Eng
