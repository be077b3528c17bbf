/- Merged texts of ours: Pa Ej Ma Mb Mc Md Me Pb Mf Mg Pc Mh Mi; conditions are the hypotheses of each law. -/
import Derived.Test.YtfjbioghpgmkiaaGreatDoorQ2
import Derived.Laws.Cover3
/- Plain laws on orders: the two decodings agree, a list is an order by both tests, numbers and orders are inverse; no conditions. -/
namespace Go.Proofs.YtfjbioghpgmkiaaGreatDoor
open Go.Dig Go.Eng

theorem erase_map (f : Int → Int) (L : List Int) (i : Nat) : (L.map f).eraseIdx i = (L.eraseIdx i).map f := by
  rw [erase_split, erase_split, List.map_append, List.map_take, List.map_drop]
theorem dec_map (f : Int → Int) : ∀ (k : Nat) (L : List Int) (x : Nat), L.length = k → x < fact k → dec k (L.map f) x = (dec k L x).map f
  | 0, _, _, _, _ => rfl
  | k + 1, L, x, hL, hx => by
    have hd : x / fact k < L.length := by
      rw [hL]
      exact (Nat.div_lt_iff_lt_mul (fact_pos k)).2 hx
    have hm := Nat.mod_lt x (fact_pos k)
    rw [dec, dec, List.map_cons, List.getElem?_map, List.getElem?_eq_getElem hd]
    congr 1
    rw [erase_map, dec_map f k _ _ (by rw [List.length_eraseIdx_of_lt hd]; omega) hm]
theorem idn_get {n i : Nat} (h : i < n) : (idn n)[i]? = some (i : Int) := by
  unfold idn
  rw [List.getElem?_map, List.getElem?_range h]
  rfl
theorem idn_erase {k d : Nat} (h : d ≤ k) : (idn (k + 1)).eraseIdx d = (idn k).map (bump d) := by
  apply List.ext_getElem?
  intro i
  rw [List.getElem?_eraseIdx, List.getElem?_map]
  by_cases hi : i < k
  · rw [idn_get hi]
    by_cases hd : i < d
    · rw [if_pos hd, idn_get (by omega)]
      show _ = some (bump d i)
      unfold bump
      rw [if_neg (by omega)]
    · rw [if_neg hd, idn_get (by omega)]
      show _ = some (bump d i)
      unfold bump
      rw [if_pos (by omega)]
      rfl
  · have e1 : (idn k)[i]? = none := List.getElem?_eq_none (by rw [idn_len]; omega)
    have e2 : (idn (k + 1))[i + 1]? = none := List.getElem?_eq_none (by rw [idn_len]; omega)
    rw [if_neg (by omega), e1, e2]
    rfl
theorem rfO_mod : ∀ (k : Nat) (x y : Nat), x % fact k = y % fact k → rfO k x = rfO k y
  | 0, _, _, _ => rfl
  | k + 1, x, y, h => by
    rw [rfO_succ, rfO_succ]
    rw [fact_succ, Nat.mul_comm] at h
    have h1 : x / fact k % (k + 1) = y / fact k % (k + 1) := by
      have a := Nat.mod_mul_right_div_self x (fact k) (k + 1)
      have b := Nat.mod_mul_right_div_self y (fact k) (k + 1)
      rw [h] at a
      omega
    have h2 : x % fact k = y % fact k := by
      have a := Nat.mod_mul_right_mod x (fact k) (k + 1)
      have b := Nat.mod_mul_right_mod y (fact k) (k + 1)
      rw [h] at a
      omega
    rw [h1, rfO_mod k x y h2]
theorem ord_rf : ∀ (n x : Nat), x < fact n → ordN n x = rfO n x
  | 0, _, _ => rfl
  | k + 1, x, h => by
    have hd : x / fact k < k + 1 := (Nat.div_lt_iff_lt_mul (fact_pos k)).2 h
    have hm := Nat.mod_lt x (fact_pos k)
    rw [rfO_succ, Nat.mod_eq_of_lt hd]
    unfold ordN
    rw [dec, idn_get hd, idn_erase (by omega), dec_map _ k _ _ (idn_len k) hm]
    have := ord_rf k (x % fact k) hm
    unfold ordN at this
    rw [this, rfO_mod k (x % fact k) x (Nat.mod_mod _ _)]
    rfl
end Go.Proofs.YtfjbioghpgmkiaaGreatDoor
/- A region that draws its order, by an invariant over the set of operations that are done; conditions are the hypotheses of the law. -/
namespace Go.Eng

/-- every edge that binds points backwards -/
def edgesOK (ops : Array Oper) : Bool := (List.range ops.size).all fun i => (opAt ops i).after.toList.all fun e => !Region.binds .any e || decide (e.on < i)
/-- all that must be done before i is done -/
def aftOK (ops : Array Oper) (i : Nat) (D : Nat → Bool) : Bool := (opAt ops i).after.toList.all fun e => !Region.binds .any e || D e.on

section
variable {P : Program} {ops : Array Oper} {Q : Exit → Act → World → Prop}
theorem any_of_inv (hed : edgesOK ops = true) (I : (Nat → Bool) → Act → World → Prop)
    (hstep : ∀ (i : Nat) (D : Nat → Bool) (a : Act) (w : World), i < ops.size → D i = false → aftOK ops i D = true → I D a w → EffStep P ops (opAt ops i) a w (fun a' w' => I (fun j => D j || Nat.beq j i) a' w'))
    (hend : ∀ (D : Nat → Bool) (a : Act) (w : World), (∀ i, i < ops.size → D i = true) → I D a w → Q .normal a w) :
    ∀ (fuel : Nat) (listed : Array Bool) (a : Act) (w : World), listed.size = ops.size → (left ops listed).length ≤ fuel → I (fun i => listed.getD i false) a w → wpAny P .any ops Q fuel listed a w := by
  have hedge : ∀ i, i < ops.size → ∀ e ∈ (opAt ops i).after.toList, Region.binds .any e = true → e.on < i := by
    intro i hi e he hb
    have h1 := List.all_eq_true.1 hed i (by simpa using hi)
    have h2 := List.all_eq_true.1 h1 e he
    rw [hb] at h2
    simpa using h2
  have hgd : ∀ (listed : Array Bool) (i : Nat), listed.size = ops.size → i < ops.size → listed.getD i true = listed.getD i false := by
    intro listed i hsz hi
    simp [Array.getD_eq_getD_getElem?, hsz, hi]
  have done : ∀ (listed : Array Bool) (a : Act) (w : World), listed.size = ops.size → left ops listed = [] → I (fun i => listed.getD i false) a w → Q .normal a w := by
    intro listed a w hsz hl h
    refine hend _ a w (fun i hi => ?_) h
    have : ¬ i ∈ left ops listed := by rw [hl]; simp
    rw [mem_left] at this
    rw [← hgd listed i hsz hi]
    cases hx : listed.getD i true
    · exact absurd ⟨hi, hx⟩ this
    · rfl
  have hrd : ∀ (listed : Array Bool) i, i ∈ Region.ready .any ops listed ↔ i < ops.size ∧ listed.getD i true = false ∧ ∀ e ∈ (opAt ops i).after.toList, Region.binds .any e = true → listed.getD e.on false = true := by
    intro listed i
    simp only [Region.ready, List.mem_filter, List.mem_range, Bool.and_eq_true, Bool.not_eq_true']
    constructor
    · rintro ⟨h1, h2, h3⟩
      refine ⟨h1, h2, ?_⟩
      rw [Array.getElem?_eq_getElem h1] at h3
      simp only [Option.map_some, Option.getD_some] at h3
      rw [Array.all_eq_true_iff_forall_mem] at h3
      intro e he hb
      have := h3 e (by simpa [opAt, h1] using he)
      rw [hb] at this
      simpa using this
    · rintro ⟨h1, h2, h3⟩
      refine ⟨h1, h2, ?_⟩
      rw [Array.getElem?_eq_getElem h1]
      simp only [Option.map_some, Option.getD_some]
      rw [Array.all_eq_true_iff_forall_mem]
      intro e he
      cases hb : Region.binds .any e
      · rfl
      · simpa using h3 e (by simpa [opAt, h1] using he) hb
  intro fuel
  induction fuel with
  | zero =>
    intro listed a w hsz hlen h
    have hl : left ops listed = [] := List.eq_nil_of_length_eq_zero (by omega)
    refine ⟨?_, done _ _ _ hsz hl h⟩
    rw [List.eq_nil_iff_forall_not_mem]
    intro i hi
    have := (hrd listed i).1 hi
    have hm : i ∈ left ops listed := mem_left.2 ⟨this.1, this.2.1⟩
    rw [hl] at hm
    cases hm
  | succ fuel ih =>
    intro listed a w hsz hlen h
    refine ⟨fun hnone => ?_, fun i hi => ?_⟩
    · cases hl : left ops listed with
      | nil => exact done _ _ _ hsz hl h
      | cons i0 rest =>
        exfalso
        have hm : i0 ∈ left ops listed := by rw [hl]; simp
        obtain ⟨h1, h2⟩ := mem_left.1 hm
        have : i0 ∈ Region.ready .any ops listed := by
          refine (hrd listed i0).2 ⟨h1, h2, fun e he hb => ?_⟩
          have hlt := hedge i0 h1 e he hb
          have hs := left_sorted ops listed
          rw [hl] at hs
          by_cases hx : listed.getD e.on true = false
          · have hm' : e.on ∈ left ops listed := mem_left.2 ⟨by omega, hx⟩
            rw [hl] at hm'
            rcases List.mem_cons.1 hm' with e1 | e1
            · omega
            · have := (List.pairwise_cons.1 hs).1 _ e1
              omega
          · rw [← hgd listed e.on hsz (by omega)]
            simpa using hx
        rw [hnone] at this
        cases this
    · obtain ⟨h1, h2, h3⟩ := (hrd listed i).1 hi
      have hm : i ∈ left ops listed := mem_left.2 ⟨h1, h2⟩
      have hD : listed.getD i false = false := by rw [← hgd listed i hsz h1]; exact h2
      have hA : aftOK ops i (fun i => listed.getD i false) = true := by
        unfold aftOK
        rw [List.all_eq_true]
        intro e he
        cases hb : Region.binds .any e
        · rfl
        · simpa using h3 e he hb
      have hlen' : (left ops (listed.setIfInBounds i true)).length ≤ fuel := by
        rw [left_set h1 hsz]
        have := filter_len (sorted_nodup (left_sorted ops listed)) hm
        omega
      have hset : (fun j => (fun i => listed.getD i false) j || Nat.beq j i) = (fun j => (listed.setIfInBounds i true).getD j false) := by
        funext j
        by_cases hj : j = i
        · subst hj
          have : Nat.beq j j = true := Nat.beq_refl j
          simp [Array.getD_eq_getD_getElem?, hsz, h1]
        · have : Nat.beq j i = false := nbeq_false hj
          simp only [this, Bool.or_false, Array.getD_eq_getD_getElem?, Array.getElem?_setIfInBounds]
          rw [if_neg (fun e => hj e.symm)]
      have hst := hstep i _ a w h1 hD hA h
      rw [hset] at hst
      have hio : ops[i]? = some (opAt ops i) := by simp [opAt, Array.getElem?_eq_getElem h1]
      have hnext : ∀ a' w', I (fun j => (listed.setIfInBounds i true).getD j false) a' w' → wpAny P .any ops Q fuel (listed.setIfInBounds i true) a' w' := fun a' w' h => ih _ a' w' (by simpa using hsz) hlen' h
      unfold wpOp
      simp only [hio]
      cases hw : Region.wanted (opAt ops i) (yielded ops a.tmps)
      · simp only [Bool.false_eq_true, if_false]
        exact hnext _ _ (hst.2 hw)
      · simp only [if_true]
        exact .inl ((hst.1 hw).wp fun v w' h => hnext _ _ h)
end

section
variable {P : Program} {n : FrK} {Q : Exit → Fr → World → Prop} {F : Fr} {w : World} {ops : Array Oper}
/-- one operation of the region, over frames -/
def EffF (P : Program) (n : FrK) (ops : Array Oper) (o : Oper) (F : Fr) (w : World) (K : Fr → World → Prop) : Prop := EffStep P ops o (act n F) w (fun a' w' => ∃ F', a' = act n F' ∧ K F' w')
theorem WP_drawI {id : Nat} {l : List Oper} (hm : P.follows .mixedOrders = true) (hed : edgesOK l.toArray = true) (I : (Nat → Bool) → Fr → World → Prop) (h0 : I (fun _ => false) F w.drew)
    (hstep : ∀ (i : Nat) (D : Nat → Bool) (F : Fr) (w : World), i < l.length → D i = false → aftOK l.toArray i D = true → I D F w → EffF P n l.toArray (opAt l.toArray i) F w (fun F' w' => I (fun j => D j || Nat.beq j i) F' w'))
    (hend : ∀ (D : Nat → Bool) (F : Fr) (w : World), (∀ i, i < l.length → D i = true) → I D F w → Q .normal F w) (hr : n.ro = none := by rfl) : WP P n (.region id l.toArray true) Q F w := by
  unfold WP
  rw [FrK.fence_none hr]
  refine wpIn_wide.2 (wp_region_any hm ?_)
  refine any_of_inv hed (fun D a w => ∃ F', a = act n F' ∧ I D F' w) ?_ ?_ l.toArray.size _ _ _ (by simp) ?_ ⟨F, rfl, ?_⟩
  · rintro i D a w hi hD hA ⟨F', rfl, hI⟩
    exact hstep i D F' w (by simpa using hi) hD hA hI
  · rintro D a w hD ⟨F', rfl, hI⟩
    exact ⟨F', rfl, hend D F' w (fun i hi => hD i (by simpa using hi)) hI⟩
  · unfold left
    exact Nat.le_trans (List.length_filter_le _ _) (by simp)
  · have : (fun i => (Array.replicate l.toArray.size false).getD i false) = (fun _ => false) := by
      funext i
      simp only [Array.getD_eq_getD_getElem?]
      rw [Array.getElem?_replicate]
      split <;> rfl
    rw [this]
    exact h0
variable {d : Nat} {op : Op} {ty : TypeId} {pos : String} {aft : Array Edge} {K : Fr → World → Prop}
theorem effN {R : Value → World → Prop} (hs : StepF P n ⟨some d, op, ty, pos, aft, none⟩ F w R) (h : ∀ v w', R v w' → K (F.put d v) w') : EffF P n ops ⟨some d, op, ty, pos, aft, none⟩ F w K :=
  ⟨fun _ => Step.mono hs fun v w' hr => ⟨F.put d v, by rw [act_put]; rfl, h v w' hr⟩, fun hw => by simp [Region.wanted] at hw⟩
theorem effNp {r v : Value} (hp : PV P n w F ⟨some d, op, ty, pos, aft, none⟩ r) (hv : r = v) (h : K (F.put d v) w) : EffF P n ops ⟨some d, op, ty, pos, aft, none⟩ F w K := by
  subst hv
  refine effN (R := fun u w' => u = r ∧ w' = w) (.inl ⟨r, w, ?_, rfl, rfl⟩) ?_
  · rw [act_eval]; exact hp
  · rintro u w' ⟨rfl, rfl⟩; exact h
theorem effT {R : Value → World → Prop} {j : Nat} {want : Bool} {e : Nat} (hj : gslot ops j = some e) (hc : ev n F (.tmp e) = .bool want) (hs : StepF P n ⟨some d, op, ty, pos, aft, some (j, want)⟩ F w R) (h : ∀ v w', R v w' → K (F.put d v) w') :
    EffF P n ops ⟨some d, op, ty, pos, aft, some (j, want)⟩ F w K :=
  ⟨fun _ => Step.mono hs fun v w' hr => ⟨F.put d v, by rw [act_put]; rfl, h v w' hr⟩, fun hw => by rw [wanted_act rfl hj hc] at hw; simp at hw⟩
theorem effTp {r v : Value} {j : Nat} {want : Bool} {e : Nat} (hj : gslot ops j = some e) (hc : ev n F (.tmp e) = .bool want) (hp : PV P n w F ⟨some d, op, ty, pos, aft, some (j, want)⟩ r) (hv : r = v) (h : K (F.put d v) w) :
    EffF P n ops ⟨some d, op, ty, pos, aft, some (j, want)⟩ F w K := by
  subst hv
  refine effT (R := fun u w' => u = r ∧ w' = w) hj hc (.inl ⟨r, w, ?_, rfl, rfl⟩) ?_
  · rw [act_eval]; exact hp
  · rintro u w' ⟨rfl, rfl⟩; exact h
end
theorem inS_of_mem : ∀ {S : List Nat} {i : Nat}, i ∈ S → inS S i = true
  | [], _, h => by cases h
  | d :: S, i, h => by
    simp only [inS]
    rcases List.mem_cons.1 h with rfl | h
    · rw [Nat.beq_refl]; rfl
    · rw [inS_of_mem h]
      cases Nat.beq i d <;> rfl
/-- slots from a base on, as far as their operations are done; the others are those of F0 -/
structure Dn (b m : Nat) (V : Nat → Value) (F0 : Fr) (D : Nat → Bool) (F : Fr) : Prop where
  at_ : ∀ j, j < m → D j = true → F (b + j) = V j
  out : ∀ s, s < b ∨ b + m ≤ s → F s = F0 s
theorem Dn.start {b m : Nat} {V : Nat → Value} {F0 : Fr} : Dn b m V F0 (fun _ => false) F0 := ⟨by simp, fun _ _ => rfl⟩
theorem Dn.put {b m i : Nat} {V : Nat → Value} {F0 F : Fr} {D : Nat → Bool} (h : Dn b m V F0 D F) (hi : i < m) : Dn b m V F0 (fun j => D j || Nat.beq j i) (F.put (b + i) (V i)) := by
  refine ⟨fun j hj hD => ?_, fun s hs => ?_⟩
  · by_cases hji : j = i
    · subst hji
      have : Nat.beq (b + j) (b + j) = true := Nat.beq_refl _
      simp [Fr.put]
    · have h1 : Nat.beq j i = false := nbeq_false hji
      rw [h1, Bool.or_false] at hD
      have h2 : Nat.beq (b + j) (b + i) = false := nbeq_false (by omega)
      simp only [Fr.put, h2, cond_false]
      exact h.at_ j hj hD
  · have h2 : Nat.beq s (b + i) = false := nbeq_false (by omega)
    simp only [Fr.put, h2, cond_false]
    exact h.out s hs
theorem Dn.same {b m : Nat} {V : Nat → Value} {F0 F : Fr} {D : Nat → Bool} (h : Dn b m V F0 D F) : Same (List.range' b m) F F0 := by
  intro s hs
  refine h.out s ?_
  rcases Nat.lt_or_ge s b with h1 | h1
  · exact .inl h1
  · rcases Nat.lt_or_ge s (b + m) with h2 | h2
    · rw [inS_of_mem (List.mem_range'_1.2 ⟨h1, h2⟩)] at hs
      cases hs
    · exact .inr h2
theorem Dn.congr {b m : Nat} {V : Nat → Value} {F0 F : Fr} {D D' : Nat → Bool} (h : Dn b m V F0 D F) (hd : ∀ j, j < m → D' j = D j) : Dn b m V F0 D' F := ⟨fun j hj h2 => h.at_ j hj (by rw [← hd j hj]; exact h2), h.out⟩
theorem eff0 {R : Value → World → Prop} {P : Program} {n : FrK} {F : Fr} {w : World} {ops : Array Oper} {op : Op} {ty : TypeId} {pos : String} {aft : Array Edge} {K : Fr → World → Prop} (hs : StepF P n ⟨none, op, ty, pos, aft, none⟩ F w R) (h : ∀ v w', R v w' → K F w') : EffF P n ops ⟨none, op, ty, pos, aft, none⟩ F w K :=
  ⟨fun _ => Step.mono hs fun v w' hr => ⟨F, by rfl, h v w' hr⟩, fun hw => by simp [Region.wanted] at hw⟩
theorem Dn.slot {b m : Nat} {n : FrK} {V : Nat → Value} {F0 F : Fr} {D : Nat → Bool} (h : Dn b m V F0 D F) (j : Nat) (hD : D j = true) (hj : Nat.blt j m = true) (hn : Nat.blt (b + j) n.sz = true) : ev n F (.tmp (b + j)) = V j := by
  simp only [ev, hn, cond_true]
  exact h.at_ j (lt_of_nblt hj) hD
theorem Dn.old {b m : Nat} {n : FrK} {V : Nat → Value} {F0 F : Fr} {D : Nat → Bool} (h : Dn b m V F0 D F) (s : Nat) (hs : (Nat.blt s b || Nat.ble (b + m) s) = true) (hn : Nat.blt s n.sz = true) : ev n F (.tmp s) = F0 s := by
  simp only [ev, hn, cond_true]
  refine h.out s ?_
  rcases Bool.or_eq_true _ _ ▸ hs with h1 | h1
  · exact .inl (lt_of_nblt h1)
  · exact .inr (Nat.le_of_ble_eq_true h1)
end Go.Eng
/- cmp.Compare, places.related, the comparison of two entrants' classes, slices.insertionSortCmpFunc, stableCmpFunc up to 20 elements, SortStableFunc, Clone; conditions: the lists lie in memory, the sorted list is the call's own. -/
namespace Go.Proofs.YtfjbioghpgmkiaaGreatDoor
open Go.Eng Go.Dig

/-- an entrant as it lies in memory -/
structure En where
  id : Int
  cls : Int
  fam : Int
  ws : Option Addr
  wc : Nat
  wl : List ByteArray
def eE (e : En) : List Value := [.int .i64 e.id, .int .i64 e.cls, .int .i64 e.fam, .slice none 0 0, .slice e.ws e.wl.length e.wc, .slice none 0 0]
def relB (a b : En) : Bool := (!decide (a.fam = 0)) && (decide (a.fam = b.fam) && decide (a.cls = b.cls))
def cmpI (a b : Int) : Int := if a < b then -1 else if b < a then 1 else 0

/-! insertion -/
def insV (c : Int → Int) : List Int → Int → List Int
  | [], x => [x]
  | y :: r, x => if c x < c y then y :: insV c r x else x :: y :: r
def sv (c : Int → Int) : List Int → List Int
  | [] => []
  | x :: r => insV c (sv c r) x
/-- sorted, stably -/
def srt (c : Int → Int) (l : List Int) : List Int := (sv c l.reverse).reverse
theorem insV_perm (c : Int → Int) (x : Int) : ∀ r : List Int, (insV c r x).Perm (x :: r)
  | [] => .refl _
  | y :: r => by
    rw [insV]
    split
    · exact ((insV_perm c x r).cons y).trans (.swap x y r)
    · exact .refl _
theorem sv_perm (c : Int → Int) : ∀ r : List Int, (sv c r).Perm r
  | [] => .refl _
  | x :: r => (insV_perm c x _).trans ((sv_perm c r).cons x)
theorem srt_perm (c : Int → Int) (l : List Int) : (srt c l).Perm l :=
  (List.reverse_perm _).trans ((sv_perm c _).trans (List.reverse_perm _))
theorem srt_len (c : Int → Int) (l : List Int) : (srt c l).length = l.length := (srt_perm c l).length_eq
theorem srt_snoc (c : Int → Int) (l : List Int) (x : Int) : srt c (l ++ [x]) = (insV c (srt c l).reverse x).reverse := by
  unfold srt
  rw [List.reverse_append, List.reverse_reverse]
  rfl
theorem srt_nil (c : Int → Int) : srt c [] = [] := rfl
theorem srt_one (c : Int → Int) (x : Int) : srt c [x] = [x] := rfl
theorem insV_stop {c : Int → Int} {P : List Int} {x : Int} {j : Nat} (hj : j < P.length) (h : ¬ c x < c P[j]) : (insV c (P.take (j + 1)).reverse x).reverse = P.take (j + 1) ++ [x] := by
  rw [List.take_succ_eq_append_getElem hj, List.reverse_append]
  show (insV c (P[j] :: (P.take j).reverse) x).reverse = _
  rw [insV, if_neg h]
  simp
theorem insV_go {c : Int → Int} {P : List Int} {x : Int} {j : Nat} (hj : j < P.length) (h : c x < c P[j]) : (insV c (P.take (j + 1)).reverse x).reverse = (insV c (P.take j).reverse x).reverse ++ [P[j]] := by
  rw [List.take_succ_eq_append_getElem hj, List.reverse_append]
  show (insV c (P[j] :: (P.take j).reverse) x).reverse = _
  rw [insV, if_pos h]
  simp
/-- the list with x moved to the place j -/
def mv (P : List Int) (x : Int) (j : Nat) (S : List Int) : List Int := P.take j ++ x :: (P.drop j ++ S)
theorem mv_len {P : List Int} {x : Int} {j : Nat} {S : List Int} : (mv P x j S).length = P.length + S.length + 1 := by
  unfold mv
  rw [List.length_append, List.length_cons, List.length_append]
  have := congrArg List.length (List.take_append_drop j P)
  rw [List.length_append] at this
  omega
theorem mv_at {P : List Int} {x : Int} {j : Nat} {S : List Int} (hj : j ≤ P.length) : (mv P x j S)[j]? = some x := by
  unfold mv
  rw [List.getElem?_append_right (by rw [List.length_take]; omega), List.length_take, Nat.min_eq_left hj, Nat.sub_self]
  rfl
theorem mv_before {P : List Int} {x : Int} {j : Nat} {S : List Int} (hj : j < P.length) : (mv P x (j + 1) S)[j]? = some P[j] := by
  unfold mv
  rw [List.getElem?_append_left (by rw [List.length_take]; omega), List.getElem?_take, if_pos (by omega), List.getElem?_eq_getElem hj]
theorem mv_swap {P : List Int} {x : Int} {j : Nat} {S : List Int} (hj : j < P.length) : ((mv P x (j + 1) S).set (j + 1) P[j]).set j x = mv P x j S := by
  unfold mv
  rw [List.take_succ_eq_append_getElem hj, List.append_assoc, List.drop_eq_getElem_cons hj]
  have h1 : (P.take j).length = j := by rw [List.length_take]; omega
  rw [List.set_append_right _ _ (by omega), List.set_append_right _ _ (by omega), h1, Nat.sub_self, show j + 1 - j = 1 from by omega]
  rfl

section
variable {P : Program} {n : FrK} {Q : Exit → Fr → World → Prop} {F : Fr} {w : World} {ops : Array Oper} {rest : List Oper} {st : Bool} {G : World → Prop} {d : Nat} {op : Op} {ty : TypeId} {pos : String} {aft : Array Edge}
theorem wdsF {j : Nat} {want c : Bool} {e : Nat} (he : effOp op = true) (hj : gslot ops j = some e) (hc : ev n F (.tmp e) = .bool c) (hw : (c == want) = false) (hG : G w) (h : wpd P n ops st G rest Q (F.put d undef) w) :
    wpd P n ops st G (⟨some d, op, ty, pos, aft, some (j, want)⟩ :: rest) Q F w := by
  refine wdgs (v := undef) he hj hc (fun w' => w' = w) rfl (fun h => by rw [hw] at h; cases h) ?_
  rintro w' rfl
  refine ⟨hG, ?_⟩
  rw [hw]
  exact h
end


/-- how the operations stand to the slots -/
def phi (j : Nat) : Nat := bif Nat.beq j 15 then 16 else j
theorem phi_lt {j : Nat} (h : j < 16) : phi j ≠ 15 ∧ phi j ≠ 17 ∧ phi j < 17 := by
  unfold phi
  by_cases hj : j = 15
  · subst hj
    decide
  · rw [nbeq_false hj]
    simp only [cond_false]
    omega
theorem nbp {j i : Nat} (h : j < 16) (hi : i < 15) : Nat.beq (phi j) i = Nat.beq j i := by
  unfold phi
  by_cases hj : j = 15
  · subst hj
    show Nat.beq 16 i = Nat.beq 15 i
    rw [nbeq_false (by omega), nbeq_false (by omega)]
  · rw [nbeq_false hj]
    rfl
def swV (b ln cc q : Nat) (x y : Int) : Nat → Value := frOf [.slice (some ⟨b, 0, none⟩) ln cc, .int .i64 ((q + 1 : Nat) : Int), .slice (some ⟨b, 0, none⟩) ln cc, .int .i64 ((q + 1 : Nat) : Int), .int .i64 (q : Int), .slice (some ⟨b, 0, none⟩) ln cc, .int .i64 ((q + 1 : Nat) : Int), .int .i64 (q : Int), .pointer (some ⟨b, 0 + q * 1, none⟩), .int .i64 y, .slice (some ⟨b, 0, none⟩) ln cc, .int .i64 ((q + 1 : Nat) : Int), .pointer (some ⟨b, 0 + (q + 1) * 1, none⟩), .int .i64 x, .pointer (some ⟨b, 0 + (q + 1) * 1, none⟩), .pointer (some ⟨b, 0 + q * 1, none⟩)]

attribute [local irreducible] PV StepF wpl wpd WP Ret
attribute [local irreducible] Fit

theorem WP_name {P : Program} {n : FrK} {c : Code} {Q : Exit → Fr → World → Prop} {F : Fr} {w : World} (h : ∀ F0, F0 = F → WP P n c Q F0 w) : WP P n c Q F w := h F rfl
theorem p97 (a : Int) (w : World) : Ret Tryz.prog 97 [.int .i64 a] w (fun v w' => v = .bool false ∧ Keeps [] w w') := by
  refine Ret.of_WP Tryz.func97 rfl Tryz.ntmps97 rfl ?_
  have hp := Hp.start (M := []) (w := w)
  (repeat (first | (with_reducible first | apply WP_seq | apply WP_region | apply wpl_nil | apply thenQ_n | apply WP_ret) | (apply wlp; ((first | apply pv_move | apply pv_assign | (apply pv_neq; (first | exact rfl | exact ev_sel rfl (by assumption)))) <;> exact rfl); (first | exact fI rfl | exact fB rfl))))
  exact ret_tmp rfl rfl ⟨_, rfl, (by show Value.bool (!decide (a = a)) = .bool false; simp), hp.keeps⟩
theorem p88 (a b : Int) (w : World) : Ret Tryz.prog 88 [.int .i64 a, .int .i64 b] w (fun v w' => v = .int .i64 (cmpI a b) ∧ Keeps [] w w') := by
  refine Ret.of_WP Tryz.func88 rfl Tryz.ntmps88 rfl ?_
  have hp := Hp.start (M := []) (w := w)
  (repeat (first | (with_reducible first | apply WP_seq | apply WP_region | apply wpl_nil | apply thenQ_n) | (apply wlp; (first | apply pv_move | apply pv_assign); exact fI rfl)))
  (apply wls; exact st_call rfl ent97 rfl (p97 a _); rintro _ w1 ⟨rfl, hk⟩; have hp := hp.call hk)
  (repeat (first | (with_reducible first | apply WP_seq | apply WP_region | apply wpl_nil | apply thenQ_n) | (apply wlp; (first | apply pv_move | apply pv_assign); (first | exact fI rfl | exact fB rfl))))
  (apply wls; exact st_call rfl ent97 rfl (p97 b _); rintro _ w2 ⟨rfl, hk⟩; have hp := hp.call hk)
  (repeat (first | (with_reducible first | apply WP_seq | apply WP_region | apply wpl_nil | apply thenQ_n) | (apply wlp; (first | apply pv_move | apply pv_assign); exact fB rfl)))
  refine WP_cond_f rfl ?_
  (repeat (first | (with_reducible first | apply WP_seq | apply WP_region | apply wpl_nil | apply thenQ_n | apply WP_skip) | (apply wlp; apply pv_move; exact fB rfl)))
  refine WP_cond_f rfl ?_
  (repeat (first | (with_reducible first | apply WP_seq | apply WP_region | apply wpl_nil | apply thenQ_n | apply WP_skip) | (apply wlp; ((first | apply pv_move | apply pv_lss) <;> exact rfl); (first | exact fI rfl | exact fB rfl))))
  refine WP_cond_d rfl (fun h => ?_) (fun h => ?_)
  · (repeat (first | (with_reducible first | apply WP_seq | apply WP_region | apply wpl_nil | apply thenQ_n | apply thenQ_ret | apply WP_ret) | (apply wlp; apply pv_assign; exact fI rfl)))
    exact ret_tmp rfl rfl ⟨_, rfl, by unfold cmpI; rw [if_pos h]; rfl, hp.keeps⟩
  (repeat (first | (with_reducible first | apply WP_seq | apply WP_region | apply wpl_nil | apply thenQ_n | apply WP_skip) | (apply wlp; ((first | apply pv_move | apply pv_gtr) <;> exact rfl); (first | exact fI rfl | exact fB rfl))))
  refine WP_cond_d rfl (fun h2 => ?_) (fun h2 => ?_)
  · (repeat (first | (with_reducible first | apply WP_seq | apply WP_region | apply wpl_nil | apply thenQ_n | apply thenQ_ret | apply WP_ret) | (apply wlp; apply pv_assign; exact fI rfl)))
    exact ret_tmp rfl rfl ⟨_, rfl, by unfold cmpI; rw [if_neg h, if_pos h2]; rfl, hp.keeps⟩
  · (repeat (first | (with_reducible first | apply WP_seq | apply WP_region | apply wpl_nil | apply thenQ_n | apply WP_ret | apply WP_skip) | (apply wlp; apply pv_assign; exact fI rfl)))
    exact ret_tmp rfl rfl ⟨_, rfl, by unfold cmpI; rw [if_neg h, if_neg h2]; rfl, hp.keeps⟩
theorem p89 (a b : En) (w : World) : Ret Tryz.prog 89 [.agg (eE a).toArray, .agg (eE b).toArray] w (fun v w' => v = .bool (relB a b) ∧ Keeps [] w w') := by
  refine Ret.of_WP Tryz.func89 rfl Tryz.ntmps89 rfl ?_
  have hp := Hp.start (M := []) (w := w)
  (repeat (first | (with_reducible first | apply WP_seq | apply WP_region | apply wpl_nil | apply thenQ_n | apply WP_ret) | ((first | apply wlp | (apply wlg; exact rfl; exact rfl)); (intros; ((first | apply pv_move | apply pv_assign | apply pf_field | (apply pf_load; exact rfl) | exact pv_and rfl rfl rfl | (apply pv_eql; (first | exact rfl | exact ev_sel rfl (by assumption))) | (apply pv_neq; (first | exact rfl | exact ev_sel rfl (by assumption)))) <;> (first | exact rfl | exact ev_sel rfl (by assumption) | exact hp.cell 0 rfl rfl | exact hp.cell 1 rfl rfl))); (intros; (first | exact fI rfl | exact fB rfl | exact fP rfl))) | (apply wls; exact sbox6 hp rfl; rintro _ w ⟨b, rfl, hp⟩)))
  exact ret_tmp rfl rfl ⟨_, rfl, by unfold relB; simp [Bool.and_assoc]; rfl, hp.keeps⟩
theorem p87 (l : List En) (s : Option Addr) (c lb x y : Nat) (w : World) (hb : w.cell? ⟨lb, 0, none⟩ = some (.slice s l.length c)) (hs : SlAt w 6 eE s l) (hx : x < l.length) (hy : y < l.length) :
    Ret Tryz.prog 87 [.int .i64 (x : Int), .int .i64 (y : Int), .pointer (some ⟨lb, 0, none⟩)] w (fun v w' => v = .int .i64 (cmpI l[x].cls l[y].cls) ∧ Keeps [] w w') := by
  obtain ⟨b0, o0, hs0, hc0⟩ := hs.base (by omega)
  have h1 := hc0 x _ (List.getElem?_eq_getElem hx) 1 _ rfl
  have h2 := hc0 y _ (List.getElem?_eq_getElem hy) 1 _ rfl
  refine Ret.of_WP Tryz.func87 rfl Tryz.ntmps87 rfl ?_
  have hp := Hp.start (M := []) (w := w)
  (repeat (first | (with_reducible first | apply WP_seq | apply WP_region | apply wpl_nil | apply thenQ_n) | (apply wlp; apply pv_assign; exact fI rfl)))
  refine WP_draw mixed (by kernel_rfl) (fun w' => Hp _ _ w' _) hp.drew ?_
  have hp := hp.drew
  (repeat ((apply wdp; exact rfl); (intro w hp; intros; ((first | apply pv_move | apply pf_field | (apply pf_load; exact rfl) | (apply pf_index; exact rfl)) <;> (first | exact rfl | assumption | exact hp.old0 (by assumption)))); (intros; (first | exact fI rfl | exact fP rfl | exact fS rfl))))
  (apply wds; exact rfl; exact st_call rfl ent88 rfl (p88 _ _ _); rintro _ w1 ⟨rfl, hk⟩; have hp := hp.call hk; refine ⟨hp, ?_⟩)
  (repeat ((apply wdp; exact rfl); (intro w hp; intros; apply pv_assign); (intros; exact fI rfl)))
  refine wpd_nil ?_
  (repeat (with_reducible first | apply thenQ_n | apply WP_ret))
  exact ret_tmp rfl rfl ⟨_, rfl, rfl, hp.keeps⟩
/-- what the sort asks of a comparison -/
def CmpAt (lb : Nat) (c : Int → Int) (l : List Int) (M : List Nat) (w : World) : Prop := ∀ W, Keeps M w W → ∀ x ∈ l, ∀ y ∈ l, Ret Tryz.prog 87 [.int .i64 x, .int .i64 y, .pointer (some ⟨lb, 0, none⟩)] W (fun v W' => v = .int .i64 (cmpI (c x) (c y)) ∧ Keeps [] W W')
theorem p100 (l : List Int) (c : Int → Int) (b cc lb : Nat) (w : World) (hr : rowAt w b cc l) (hc : l.length ≤ cc) (hcm : cc ≤ maxLen) (hC : CmpAt lb c l [b] w) (h20 : l.length < 20) :
    Ret Tryz.prog 100 [.slice (some ⟨b, 0, none⟩) l.length cc, .int .i64 0, .int .i64 (l.length : Int), .func (.func 87) #[] #[.pointer (some ⟨lb, 0, none⟩)]] w (fun _ w' => Keeps [b] w w' ∧ rowAt w' b cc (srt c l)) := by
  have hSV : ∀ z : List Int, z.length = l.length → SVL (some ⟨b, 0, none⟩) cc z := fun z hz => .inr ⟨b, cc, by rw [hz], by omega, hcm⟩
  refine Ret.of_WP Tryz.func100 rfl Tryz.ntmps100 rfl ?_
  have hp := Hp.ofRow hr
  (repeat (first | (with_reducible first | apply WP_seq | apply WP_region) | (apply wlp; apply pv_move; exact fI rfl)))
  (apply wlp; (exact pv_add rfl rfl); exact int_eq (b := ((0 + 1 : Nat) : Int)) (by rw [i64_in (by omega) (by omega)]; omega))
  (repeat (first | (with_reducible first | apply WP_block | apply wpl_nil | apply thenQ_n) | (apply wlp; apply pv_assign; exact fI rfl)))
  refine WP_loop2 [8, 9, 12, 13, 14, 15, 16, 17, 18, 19, 20, 21, 22, 23, 24, 25, 26, 27, 28, 29, 30, 31, 32, 33, 34, 35, 36, 37, 38, 39, 40, 41, 42, 43, 44, 45, 46, 47, 48, 49, 50, 51, 52] (fun (i : Nat) (_z : List Int) F => F.put 8 (.int .i64 ((i + 1 : Nat) : Int)))
    (fun i z w' => (i + 1 ≤ l.length ∨ i = 0) ∧ z = srt c (l.take (i + 1)) ++ l.drop (i + 1) ∧ Hp w [b] w' [ownL eI 3 1 (some ⟨b, 0, none⟩) cc z]) (fun i _ => l.length - i) 0 l (put_self (Same.eq .refl) rfl) ⟨.inr rfl, ?_, hp⟩ ?_
  · cases l with
    | nil => rfl
    | cons x l => simp [srt_one]
  (repeat clear hp)
  rintro u i z w1 ⟨hi, hz, hp⟩
  (repeat (first | (with_reducible first | apply WP_seq | apply WP_region | apply wpl_nil | apply thenQ_n) | (apply wlp; ((first | apply pv_move | apply pv_lss) <;> exact rfl); (first | exact fI rfl | exact fB rfl))))
  refine WP_cond_d rfl (fun h => ?_) (fun h => ?_)
  · have hlt : i + 1 < l.length := by omega
    obtain ⟨Pf, hP⟩ : ∃ Pf, Pf = srt c (l.take (i + 1)) := ⟨_, rfl⟩
    obtain ⟨S, hS⟩ : ∃ S, S = l.drop (i + 1 + 1) := ⟨_, rfl⟩
    have hPl : Pf.length = i + 1 := by rw [hP, srt_len, List.length_take]; omega
    have hSl : S.length = l.length - (i + 1 + 1) := by rw [hS, List.length_drop]
    have hPm : ∀ y ∈ Pf, y ∈ l := by
      intro y hy
      rw [hP] at hy
      exact List.mem_of_mem_take ((srt_perm c _).mem_iff.1 hy)
    have hxm : l[i + 1] ∈ l := List.getElem_mem hlt
    have hsn := srt_snoc c (l.take (i + 1)) l[i + 1]
    rw [← List.take_succ_eq_append_getElem hlt, ← hP] at hsn
    rw [← hP, List.drop_eq_getElem_cons hlt, ← hS] at hz
    generalize hx : l[i + 1] = x at hxm hsn hz
    have hz0 : z = mv Pf x (i + 1) S := by
      rw [hz]
      unfold mv
      rw [← hPl, List.take_length, List.drop_length]
      rfl
    subst hz0
    clear hz
    (repeat (first | (with_reducible first | apply WP_seq | apply WP_block | apply WP_region | apply wpl_nil | apply thenQ_n | apply WP_skip) | (apply wlp; (first | apply pv_move | apply pv_assign); exact fI rfl)))
    refine WP_loopS [9, 18, 19, 20, 21, 22, 23, 24, 25, 26, 27, 28, 29, 30, 31, 32, 33, 34, 35, 36, 37, 38, 39, 40, 41, 42, 43, 44, 45, 46, 47, 48, 49, 50, 51, 52] (fun (j : Nat) F => F.put 9 (.int .i64 (j : Int)))
      (fun j w' => j ≤ i + 1 ∧ (insV c Pf.reverse x).reverse = (insV c (Pf.take j).reverse x).reverse ++ Pf.drop j ∧ Hp w [b] w' [ownL eI 3 1 (some ⟨b, 0, none⟩) cc (mv Pf x j S)]) (fun j => j) (i + 1) (put_self (Same.eq .refl) rfl) ⟨Nat.le_refl _, by rw [← hPl, List.take_length, List.drop_length, List.append_nil], hp⟩ ?_
    (repeat clear hp)
    rintro u2 j w2 ⟨hj, hins, hp⟩
    have hzl : (mv Pf x j S).length = l.length := by rw [mv_len]; omega
    have hvz := hSV _ hzl
    (repeat with_reducible apply WP_seq)
    refine WP_draw mixed (by kernel_rfl) (fun w' => Hp w [b] w' [ownL eI 3 1 (some ⟨b, 0, none⟩) cc (mv Pf x j S)]) hp.drew ?_
    have hp := hp.drew
    (apply wdp; exact rfl; (intro w hp; exact pv_move); exact fI rfl)
    (apply wdp; exact rfl; (intro w hp; exact pv_move); exact fI rfl)
    rcases Nat.eq_zero_or_pos j with h0 | h0
    · subst h0
      (apply wdp; exact rfl; (intro w hp; exact pv_gtr rfl rfl); exact bool_eq (b := false) (decide_eq_false (by omega)))
      (repeat (first | ((apply wdp; exact rfl); (intro w hp; intros; apply pv_move); (intros; exact fB rfl)) | (apply wdpF; exact rfl; exact rfl; exact rfl; exact rfl) | (apply wdpU; exact rfl; exact rfl; exact rfl)))
      (apply wdsF; exact rfl; exact rfl; exact rfl; exact rfl; exact hp)
      (repeat (first | ((apply wdp; exact rfl); (intro w hp; intros; exact pv_andF rfl); (intros; exact fB rfl)) | (apply wdpF; exact rfl; exact rfl; exact rfl; exact rfl) | (apply wdpU; exact rfl; exact rfl; exact rfl)))
      refine wpd_nil ?_
      refine WP_cond_f rfl ?_
      (repeat (first | (with_reducible first | apply WP_region | apply thenQ_n | apply inBlk_n | apply thenQ_exit | apply WP_exit) | ((with_reducible apply inBlk_same); exact rfl) | (apply wlp; apply pv_move; exact fI rfl)))
      (apply wlp; (exact pv_add rfl rfl); exact int_eq (b := ((i + 1 + 1 : Nat) : Int)) (by rw [i64_in (by omega) (by omega)]; omega))
      (repeat (first | (with_reducible first | apply wpl_nil | apply thenQ_n) | (apply wlp; apply pv_assign; exact fI rfl)))
      refine ⟨i + 1, mv Pf x 0 S, put_self (Same.eq (by repeat (first | exact Same.hav | exact Same.refl | refine Same.put rfl ?_ | refine Same.havs rfl ?_))) rfl, ⟨.inl (by omega), ?_, hp⟩, by omega⟩
      rw [hsn, hins, ← hS]
      unfold mv
      simp [insV]
    obtain ⟨q, rfl⟩ : ∃ q, j = q + 1 := ⟨j - 1, by omega⟩
    have hqP : q < Pf.length := by omega
    have hg1 := mv_at (P := Pf) (x := x) (j := q + 1) (S := S) (by omega)
    have hg2 := mv_before (x := x) (S := S) hqP
    have hsw := mv_swap (x := x) (S := S) hqP
    have hgo := insV_go (c := c) (x := x) hqP
    have hst := insV_stop (c := c) (x := x) hqP
    have hym : Pf[q] ∈ l := hPm _ (List.getElem_mem hqP)
    have hdr : Pf.drop q = Pf[q] :: Pf.drop (q + 1) := List.drop_eq_getElem_cons hqP
    generalize Pf[q] = y at hg2 hsw hgo hst hym hdr
    have hiz : q + 1 < l.length := by omega
    have hiz2 : q < l.length := by omega
    have hsz1 : q + 1 < (mv Pf x (q + 1) S).length := by omega
    (apply wdp; exact rfl; (intro w hp; exact pv_gtr rfl rfl); exact bool_eq (b := true) (decide_eq_true (by omega)))
    (repeat (first | ((apply wdp; exact rfl); (intro w hp; intros; ((first | apply pv_move | (apply pf_load; exact rfl) | (apply pf_index; exact rfl)) <;> (first | exact rfl | assumption))); (intros; (first | exact fI rfl | exact fB rfl | exact fP rfl | exact fS rfl | exact fF1 rfl))) | ((apply wdpT; exact rfl; exact rfl; exact rfl); (intro w hp; ((first | apply pv_move | (apply pf_load; exact rfl) | (apply pf_index; exact rfl)) <;> (first | exact rfl | assumption))); (intros; (first | exact fI rfl | exact fB rfl | exact fP rfl | exact fS rfl | exact fF1 rfl))) | (apply wdpF; exact rfl; exact rfl; exact rfl; exact rfl) | (apply wdpU; exact rfl; exact rfl; exact rfl)))
    (apply wdpT; exact rfl; exact rfl; exact rfl; (intro w hp; exact pf_load rfl rfl (own_elem hp 0 rfl hvz (fun _ => rfl) hg1 0 _ rfl)); exact fI rfl)
    (repeat (first | ((apply wdpT; exact rfl; exact rfl; exact rfl); (intro w hp; apply pv_move); (intros; (first | exact fI rfl | exact fS rfl))) | (apply wdpF; exact rfl; exact rfl; exact rfl; exact rfl) | (apply wdpU; exact rfl; exact rfl; exact rfl)))
    (apply wdpT; exact rfl; exact rfl; exact rfl; (intro w hp; exact pv_sub rfl rfl); exact int_eq (b := ((q : Nat) : Int)) (by rw [i64_in (by omega) (by omega)]; omega))
    (repeat (first | ((apply wdpT; exact rfl; exact rfl; exact rfl); (intro w hp; ((first | (apply pf_load; exact rfl) | (apply pf_index; exact rfl)) <;> (first | exact rfl | assumption))); (intros; exact fP rfl)) | (apply wdpF; exact rfl; exact rfl; exact rfl; exact rfl) | (apply wdpU; exact rfl; exact rfl; exact rfl)))
    (apply wdpT; exact rfl; exact rfl; exact rfl; (intro w hp; exact pf_load rfl rfl (own_elem hp 0 rfl hvz (fun _ => rfl) hg2 0 _ rfl)); exact fI rfl)
    (apply wdsT; exact rfl; exact rfl; exact rfl; exact st_call rfl ent87 rfl (hC _ hp.keeps x hxm y hym); rintro _ w3 ⟨rfl, hk⟩; have hp := hp.call hk; refine ⟨hp, ?_⟩)
    by_cases hcc : c x < c y
    · have e1 : cmpI (c x) (c y) = -1 := if_pos hcc
      rw [e1]
      (repeat (first | ((apply wdp; exact rfl); (intro w hp; intros; ((first | exact pv_andT rfl rfl | apply pv_lss) <;> exact rfl)); (intros; exact fB rfl)) | ((apply wdpT; exact rfl; exact rfl; exact rfl); (intro w hp; ((first | exact pv_andT rfl rfl | apply pv_lss) <;> exact rfl)); (intros; exact fB rfl)) | (apply wdpF; exact rfl; exact rfl; exact rfl; exact rfl) | (apply wdpU; exact rfl; exact rfl; exact rfl)))
      refine wpd_nil ?_
      refine WP_cond_t rfl ?_
      (repeat (with_reducible first | apply WP_seq | apply WP_block | apply thenQ_n | apply WP_skip))
      refine WP_name ?_
      intro F0 hF0
      have h00 : F0 0 = .slice (some ⟨b, 0, none⟩) l.length cc := by rw [hF0]; rfl
      have h09 : F0 9 = .int .i64 ((q + 1 : Nat) : Int) := by rw [hF0]; rfl
      refine WP_drawI mixed (by kernel_rfl) (fun D F w' => Dn 37 16 (swV b l.length cc q x y) F0 (fun j => D (phi j)) F ∧ (D 15 = true → D 9 = true ∧ D 13 = true) ∧ (D 17 = true → D 15 = true) ∧ (D 15 = false → Hp w [b] w' [ownL eI 3 1 (some ⟨b, 0, none⟩) cc (mv Pf x (q + 1) S)]) ∧ (D 15 = true → D 17 = false → Hp w [b] w' [ownL eI 3 1 (some ⟨b, 0, none⟩) cc ((mv Pf x (q + 1) S).set (q + 1) y)]) ∧ (D 17 = true → Hp w [b] w' [ownL eI 3 1 (some ⟨b, 0, none⟩) cc (((mv Pf x (q + 1) S).set (q + 1) y).set q x)])) ⟨Dn.start, by simp, by simp, fun _ => hp.drew, by simp, by simp⟩ ?_ ?_
      · rintro i D F w4 hi hDi hA ⟨hD, hd15, hd17, hp0, hp1, hp2⟩
        have hvz2 := hvz.set (q + 1) y
        have hsz2 : q < ((mv Pf x (q + 1) S).set (q + 1) y).length := by rw [List.length_set]; omega
        have nb15 : ∀ j, j < 16 → Nat.beq (phi j) 15 = false := fun j hj => nbeq_false (phi_lt hj).1
        have nb17 : ∀ j, j < 16 → Nat.beq (phi j) 17 = false := fun j hj => nbeq_false (phi_lt hj).2.1
        have nb16 : ∀ j, j < 16 → (D (phi j) || Nat.beq (phi j) 16) = (D (phi j) || Nat.beq j 15) := by
          intro j hj
          by_cases h : j = 15
          · subst h; rfl
          · have e1 : phi j = j := by unfold phi; rw [nbeq_false h]; rfl
            rw [e1, nbeq_false (show j ≠ 16 by omega), nbeq_false h]
        have h15 : (D 9 = false ∨ D 13 = false) → D 15 = false := by
          intro h
          cases h5 : D 15
          · rfl
          · have := hd15 h5
            rcases h with h | h <;> simp [h] at this
        have nxt : ∀ i, i < 15 → i ≠ 9999 → Dn 37 16 (swV b l.length cc q x y) F0 (fun j => D (phi j) || Nat.beq (phi j) i) (F.put (37 + i) (swV b l.length cc q x y i)) ∧ ((D 15 || Nat.beq 15 i) = true → (D 9 || Nat.beq 9 i) = true ∧ (D 13 || Nat.beq 13 i) = true) ∧ ((D 17 || Nat.beq 17 i) = true → (D 15 || Nat.beq 15 i) = true) ∧ ((D 15 || Nat.beq 15 i) = false → Hp w [b] w4 [ownL eI 3 1 (some ⟨b, 0, none⟩) cc (mv Pf x (q + 1) S)]) ∧ ((D 15 || Nat.beq 15 i) = true → (D 17 || Nat.beq 17 i) = false → Hp w [b] w4 [ownL eI 3 1 (some ⟨b, 0, none⟩) cc ((mv Pf x (q + 1) S).set (q + 1) y)]) ∧ ((D 17 || Nat.beq 17 i) = true → Hp w [b] w4 [ownL eI 3 1 (some ⟨b, 0, none⟩) cc (((mv Pf x (q + 1) S).set (q + 1) y).set q x)]) := by
          intro i hi15 _
          have e15 : Nat.beq 15 i = false := nbeq_false (by omega)
          have e17 : Nat.beq 17 i = false := nbeq_false (by omega)
          rw [e15, e17, Bool.or_false, Bool.or_false]
          refine ⟨(hD.put (i := i) (by omega)).congr (fun j hj => by rw [nbp hj hi15]), fun h => ⟨by simp [(hd15 h).1], by simp [(hd15 h).2]⟩, hd17, hp0, hp1, hp2⟩
        match i, hi with
        | 0, _ =>
          exact effNp pv_move ((hD.old 0 rfl rfl).trans h00) (nxt 0 (by decide) (by decide))
        | 1, _ =>
          exact effNp pv_move ((hD.old 9 rfl rfl).trans h09) (nxt 1 (by decide) (by decide))
        | 2, _ =>
          have hA : (true && true) = true := hA
          simp only [Bool.and_eq_true, and_true] at hA
          exact effNp pv_move ((hD.old 0 rfl rfl).trans h00) (nxt 2 (by decide) (by decide))
        | 3, _ =>
          have hA : (true && true) = true := hA
          simp only [Bool.and_eq_true, and_true] at hA
          exact effNp pv_move ((hD.old 9 rfl rfl).trans h09) (nxt 3 (by decide) (by decide))
        | 4, _ =>
          have hA : (D 3 && (true && true)) = true := hA
          simp only [Bool.and_eq_true, and_true] at hA
          exact effNp (pv_sub (hD.slot 3 hA rfl rfl) rfl) (int_eq (by rw [i64_in (by omega) (by omega)]; omega)) (nxt 4 (by decide) (by decide))
        | 5, _ =>
          exact effNp pv_move ((hD.old 0 rfl rfl).trans h00) (nxt 5 (by decide) (by decide))
        | 6, _ =>
          exact effNp pv_move ((hD.old 9 rfl rfl).trans h09) (nxt 6 (by decide) (by decide))
        | 7, _ =>
          have hA : (D 6 && true) = true := hA
          simp only [Bool.and_eq_true, and_true] at hA
          exact effNp (pv_sub (hD.slot 6 hA rfl rfl) rfl) (int_eq (by rw [i64_in (by omega) (by omega)]; omega)) (nxt 7 (by decide) (by decide))
        | 8, _ =>
          have hA : (D 5 && (D 7 && true)) = true := hA
          simp only [Bool.and_eq_true, and_true] at hA
          exact effNp (pf_index rfl (hD.slot 5 hA.1 rfl rfl) (hD.slot 7 hA.2 rfl rfl) rfl (by omega)) rfl (nxt 8 (by decide) (by decide))
        | 9, _ =>
          have hA : (D 8 && true) = true := hA
          simp only [Bool.and_eq_true, and_true] at hA
          exact effNp (pf_load rfl (hD.slot 8 hA rfl rfl) (own_elem (hp0 (h15 (by simp [hDi]))) 0 rfl hvz (fun _ => rfl) hg2 0 _ rfl)) rfl (nxt 9 (by decide) (by decide))
        | 10, _ =>
          exact effNp pv_move ((hD.old 0 rfl rfl).trans h00) (nxt 10 (by decide) (by decide))
        | 11, _ =>
          exact effNp pv_move ((hD.old 9 rfl rfl).trans h09) (nxt 11 (by decide) (by decide))
        | 12, _ =>
          have hA : (D 10 && (D 11 && true)) = true := hA
          simp only [Bool.and_eq_true, and_true] at hA
          exact effNp (pf_index rfl (hD.slot 10 hA.1 rfl rfl) (hD.slot 11 hA.2 rfl rfl) rfl (by omega)) rfl (nxt 12 (by decide) (by decide))
        | 13, _ =>
          have hA : (D 12 && true) = true := hA
          simp only [Bool.and_eq_true, and_true] at hA
          exact effNp (pf_load rfl (hD.slot 12 hA rfl rfl) (own_elem (hp0 (h15 (by simp [hDi]))) 0 rfl hvz (fun _ => rfl) hg1 0 _ rfl)) rfl (nxt 13 (by decide) (by decide))
        | 14, _ =>
          have hA : (D 0 && (D 1 && (D 0 && (D 1 && (true && (true && (true && (D 5 && (D 6 && (D 7 && (D 8 && (D 9 && (true && (true && (true && (D 13 && true)))))))))))))))) = true := hA
          simp only [Bool.and_eq_true, and_true, true_and] at hA
          exact effNp (pf_index rfl (hD.slot 0 hA.1 rfl rfl) (hD.slot 1 hA.2.1 rfl rfl) rfl (by omega)) rfl (nxt 14 (by decide) (by decide))
        | 15, _ =>
          have hA : (D 14 && (D 9 && (D 0 && (D 1 && (true && (true && (true && (D 5 && (D 6 && (D 7 && (D 8 && (D 9 && (true && (true && (true && (D 13 && true)))))))))))))))) = true := hA
          simp only [Bool.and_eq_true, and_true, true_and] at hA
          have h9 : D 9 = true := hA.2.1
          have h13 : D 13 = true := by simp [hA]
          refine eff0 (st_setL eI _ (q + 1) y (hp0 hDi) 0 rfl hvz hsz1 (hD.slot 14 hA.1 rfl rfl) (hD.slot 9 h9 rfl rfl) (fun _ => rfl) rfl rfl (sizeTy_ok rfl)) ?_
          rintro _ w' ⟨rfl, hp'⟩
          exact ⟨hD.congr (fun j hj => by show (D (phi j) || Nat.beq (phi j) 15) = _; rw [nb15 j hj, Bool.or_false]), fun _ => ⟨by simp [h9], by simp [h13]⟩, fun h => by simp, fun h => by simp at h, fun _ _ => hp', fun h => absurd (hd17 (by simpa using h)) (by rw [hDi]; simp)⟩
        | 16, _ =>
          have hA : (D 2 && (D 4 && (D 0 && (D 1 && (D 2 && (D 3 && (D 4 && (D 5 && (D 6 && (D 7 && (D 8 && (D 9 && (D 10 && (D 11 && (D 12 && (D 13 && (D 14 && (D 15 && true)))))))))))))))))) = true := hA
          simp only [Bool.and_eq_true, and_true] at hA
          have h15' : D 15 = true := by simp [hA]
          exact effNp (pf_index rfl (hD.slot 2 hA.1 rfl rfl) (hD.slot 4 hA.2.1 rfl rfl) rfl (by omega)) rfl ⟨(hD.put (i := 15) (by decide)).congr (fun j hj => nb16 j hj), fun _ => ⟨by simp [hA], by simp [hA]⟩, fun _ => by simp [h15'], fun h => by simp [h15'] at h, fun _ h => hp1 h15' (by simp at h; exact h.1), fun h => hp2 (by rcases Bool.or_eq_true _ _ ▸ h with h | h; exact h; cases h)⟩
        | 17, _ =>
          have hA : (D 16 && (D 13 && (D 15 && (D 0 && (D 1 && (D 2 && (D 3 && (D 4 && (D 5 && (D 6 && (D 7 && (D 8 && (D 9 && (D 10 && (D 11 && (D 12 && (D 13 && (D 14 && (D 15 && true))))))))))))))))))) = true := hA
          simp only [Bool.and_eq_true, and_true] at hA
          have h15' : D 15 = true := by simp [hA]
          have h13 : D 13 = true := by simp [hA]
          refine eff0 (st_setL eI _ q x (hp1 h15' hDi) 0 rfl hvz2 hsz2 (hD.slot 15 hA.1 rfl rfl) (hD.slot 13 h13 rfl rfl) (fun _ => rfl) rfl rfl (sizeTy_ok rfl)) ?_
          rintro _ w' ⟨rfl, hp'⟩
          exact ⟨hD.congr (fun j hj => by show (D (phi j) || Nat.beq (phi j) 17) = _; rw [nb17 j hj, Bool.or_false]), fun _ => ⟨by simp [hA], by simp [hA]⟩, fun _ => by simp [h15'], fun h => by simp [h15'] at h, fun _ h => by simp at h, fun _ => hp'⟩
        | i + 18, hi => exact absurd hi (by show ¬ i + 18 < 18; omega)
      · rintro D F w4 hD ⟨hDn, _, _, _, _, hp2⟩
        have hp := hp2 (hD 17 (by decide))
        rw [hsw] at hp
        have hF := hDn.same.eq
        rw [hF]
        subst hF0
        (repeat (first | (with_reducible first | apply WP_region | apply thenQ_n | apply inBlk_n) | (apply wlp; apply pv_move; exact fI rfl)))
        (apply wlp; (exact pv_sub rfl rfl); exact int_eq (b := ((q : Nat) : Int)) (by rw [i64_in (by omega) (by omega)]; omega))
        (repeat (first | (with_reducible first | apply wpl_nil | apply thenQ_n) | (apply wlp; apply pv_assign; exact fI rfl)))
        refine ⟨q, put_self (Same.eq (by repeat (first | exact Same.hav | exact Same.refl | refine Same.put rfl ?_ | refine Same.havs rfl ?_))) rfl, ⟨by omega, ?_, hp⟩, by omega⟩
        rw [hins, hgo hcc, hdr]
        simp
    · have e1 : ¬ cmpI (c x) (c y) < 0 := by
        unfold cmpI
        rw [if_neg hcc]
        split <;> decide
      (apply wdpT; exact rfl; exact rfl; exact rfl; (intro w hp; exact pv_lss rfl rfl); exact bool_eq (b := false) (decide_eq_false e1))
      (repeat (first | ((apply wdp; exact rfl); (intro w hp; intros; exact pv_andT rfl rfl); (intros; exact fB rfl)) | (apply wdpF; exact rfl; exact rfl; exact rfl; exact rfl) | (apply wdpU; exact rfl; exact rfl; exact rfl)))
      refine wpd_nil ?_
      refine WP_cond_f rfl ?_
      (repeat (first | (with_reducible first | apply WP_region | apply thenQ_n | apply inBlk_n | apply thenQ_exit | apply WP_exit) | ((with_reducible apply inBlk_same); exact rfl) | (apply wlp; apply pv_move; exact fI rfl)))
      (apply wlp; (exact pv_add rfl rfl); exact int_eq (b := ((i + 1 + 1 : Nat) : Int)) (by rw [i64_in (by omega) (by omega)]; omega))
      (repeat (first | (with_reducible first | apply wpl_nil | apply thenQ_n) | (apply wlp; apply pv_assign; exact fI rfl)))
      refine ⟨i + 1, mv Pf x (q + 1) S, put_self (Same.eq (by repeat (first | exact Same.hav | exact Same.refl | refine Same.put rfl ?_ | refine Same.havs rfl ?_))) rfl, ⟨.inl (by omega), ?_, hp⟩, by omega⟩
      rw [hsn, hins, hst hcc, ← hS]
      unfold mv
      simp
  · have hz2 : z = srt c l := by
      rw [hz]
      rcases hi with hi | hi
      · have e : i + 1 = l.length := by omega
        rw [e, List.take_length, List.drop_length, List.append_nil]
      · subst hi
        rw [List.take_of_length_le (by omega), List.drop_eq_nil_of_le (by omega), List.append_nil]
    subst hz2
    (repeat (first | (with_reducible first | apply thenQ_exit | apply WP_exit) | ((with_reducible apply inBlk_same); exact rfl)))
    exact ret_none rfl ⟨_, rfl, hp.keeps, Hp.rowat hp 0 rfl⟩
end Go.Proofs.YtfjbioghpgmkiaaGreatDoor
/- slices.stableCmpFunc and SortStableFunc up to 19 elements, slices.Clone; conditions: the sorted list is the call's own. -/
namespace Go.Proofs.YtfjbioghpgmkiaaGreatDoor
open Go.Eng Go.Dig

section
variable {n : FrK} {w : World} {F : Fr} {d : Option Tmp} {ty : TypeId} {pos : String} {aft : Array Edge} {g : Option (Nat × Bool)} {x y : Operand}
/-- a slice compared with nil -/
theorem pv_slnil {t t' e m c : Nat} {s : Option Addr} (ht : Tryz.prog.underlying t = some (.slice e)) (hx : ev n F x = .slice s m c) (hy : ev n F y = .slice none 0 0) : PV Tryz.prog n w F ⟨d, .binOp .eql t x y t', ty, pos, aft, g⟩ (.bool s.isNone) := by
  have h := run_equal_slice_nil (P := Tryz.prog) (w := w) t e s m c ht
  simp [PV, execOp, hx, hy, eqGuard, binOp, h]
end
attribute [local irreducible] PV StepF wpl wpd WP Ret
attribute [local irreducible] Fit

theorem p96 (l : List Int) (c : Int → Int) (b cc lb : Nat) (w : World) (hr : rowAt w b cc l) (hc : l.length ≤ cc) (hcm : cc ≤ maxLen) (hC : CmpAt lb c l [b] w) (h20 : l.length < 20) :
    Ret Tryz.prog 96 [.slice (some ⟨b, 0, none⟩) l.length cc, .int .i64 (l.length : Int), .func (.func 87) #[] #[.pointer (some ⟨lb, 0, none⟩)]] w (fun _ w' => Keeps [b] w w' ∧ rowAt w' b cc (srt c l)) := by
  refine Ret.of_WP Tryz.func96 rfl Tryz.ntmps96 rfl ?_
  have hp := Hp.start (M := []) (w := w)
  (repeat (first | (with_reducible first | apply WP_seq | apply WP_block | apply WP_region | apply wpl_nil | apply thenQ_n) | (apply wlp; (first | apply pv_move | apply pv_assign); exact fI rfl)))
  refine WP_loopS [7, 8, 11, 12, 13, 14, 15, 16, 17, 18, 19, 20, 21, 22] (fun (_ : Unit) F => (F.put 7 (.int .i64 0)).put 8 (.int .i64 20)) (fun _ w' => w' = w) (fun _ => 0) () (put_self (put_self (Same.eq .refl) rfl) rfl) rfl ?_
  rintro u ⟨⟩ _ rfl
  (repeat (first | (with_reducible first | apply WP_seq | apply WP_region | apply wpl_nil | apply thenQ_n) | (apply wlp; ((first | apply pv_move | apply pv_leq) <;> exact rfl); (first | exact fI rfl | exact fB rfl))))
  refine WP_cond_d rfl (fun h => absurd h (by omega)) (fun _ => ?_)
  (repeat (first | (with_reducible first | apply WP_seq | apply WP_region | apply thenQ_n | apply thenQ_exit | apply WP_exit) | ((with_reducible apply inBlk_same); exact rfl) | (apply wlp; apply pv_move; (first | exact fI rfl | exact fS rfl | exact fF1 rfl))))
  (apply wls; exact st_call rfl ent100 rfl (p100 l c b cc lb _ hr hc hcm hC h20); rintro v w1 ⟨hk, hr1⟩)
  (repeat (with_reducible first | apply WP_block | apply wpl_nil | apply thenQ_n))
  refine WP_loopS [6, 7, 8, 9, 28, 29, 30, 31, 32, 33, 34, 35, 36, 37, 38, 39, 40, 41, 42, 43, 44, 45, 46, 47, 48, 49, 50, 51, 52, 53, 54, 55, 56, 57, 58, 59, 60, 61, 62] (fun (_ : Unit) F => F.put 6 (.int .i64 20)) (fun _ w' => w' = w1) (fun _ => 0) () (put_self (Same.eq .refl) rfl) rfl ?_
  rintro u2 ⟨⟩ _ rfl
  (repeat (first | (with_reducible first | apply WP_seq | apply WP_region | apply wpl_nil | apply thenQ_n) | (apply wlp; ((first | apply pv_move | apply pv_lss) <;> exact rfl); (first | exact fI rfl | exact fB rfl))))
  refine WP_cond_d rfl (fun h => absurd h (by omega)) (fun _ => ?_)
  (repeat (first | (with_reducible first | apply thenQ_exit | apply WP_exit) | ((with_reducible apply inBlk_same); exact rfl)))
  exact ret_none rfl ⟨_, rfl, hk, hr1⟩
theorem p86 (l : List Int) (c : Int → Int) (b cc lb : Nat) (w : World) (hr : rowAt w b cc l) (hc : l.length ≤ cc) (hcm : cc ≤ maxLen) (hC : CmpAt lb c l [b] w) (h20 : l.length < 20) :
    Ret Tryz.prog 86 [.slice (some ⟨b, 0, none⟩) l.length cc, .func (.func 87) #[] #[.pointer (some ⟨lb, 0, none⟩)]] w (fun _ w' => Keeps [b] w w' ∧ rowAt w' b cc (srt c l)) := by
  refine Ret.of_WP Tryz.func86 rfl Tryz.ntmps86 rfl ?_
  (repeat (first | with_reducible apply WP_region | (apply wlp; ((first | apply pv_move | (apply pf_len; exact rfl)) <;> exact rfl); (first | exact fI rfl | exact fS rfl | exact fF1 rfl))))
  (apply wls; exact st_call rfl ent96 rfl (p96 l c b cc lb _ hr hc hcm hC h20); rintro v w1 ⟨hk, hr1⟩)
  (repeat with_reducible apply wpl_nil)
  exact ret_none rfl ⟨_, rfl, hk, hr1⟩
theorem p85 (l : List Int) (s : Option Addr) (c : Nat) (w : World) (hs : SlAt w 1 eI s l) (hl : l.length ≤ 1000) (hsn : s = none → l = []) :
    Ret Tryz.prog 85 [.slice s l.length c] w (fun v w' => ∃ s' c', v = .slice s' l.length c' ∧ SVL s' c' l ∧ Hp w [] w' [ownL eI 3 1 s' c' l]) := by
  refine Ret.of_WP Tryz.func85 rfl Tryz.ntmps85 rfl ?_
  have hp := Hp.start (M := []) (w := w)
  (repeat (first | (with_reducible first | apply WP_seq | apply WP_region | apply wpl_nil | apply thenQ_n) | (apply wlp; (first | apply pv_move | apply pv_assign); exact fS rfl)))
  (apply wlp; exact pv_slnil sl30.1 rfl rfl; exact fB rfl)
  (repeat (with_reducible first | apply wpl_nil | apply thenQ_n))
  refine WP_cond rfl (fun h => ?_) (fun h => ?_)
  · have hl0 := hsn (by cases s <;> simp_all)
    subst hl0
    (repeat (first | (with_reducible first | apply WP_seq | apply WP_region | apply wpl_nil | apply thenQ_n | apply thenQ_ret | apply WP_ret) | (apply wlp; apply pv_assign; exact fS rfl)))
    exact ret_tmp rfl rfl ⟨_, rfl, none, 0, rfl, SVL.nil, hp.nilL eI 3 1⟩
  · (repeat (with_reducible first | apply WP_seq | apply WP_region | apply thenQ_n | apply WP_skip))
    (apply wls; exact sf_slice hp rfl rfl rfl rfl rfl rfl rfl; rintro _ w1 ⟨g, rfl, hp⟩)
    have hp : Hp w [] w1 [blk g 0 (frOf []) 3] := hp
    have hp : Hp w [] w1 [ownL eI 3 1 (some ⟨g, 0, none⟩) 0 []] := hp.rowOf (cs := []) 0 1 0 rfl rfl
    have hv : SVL (some ⟨g, 0, none⟩) 0 ([] : List Int) := .inr ⟨g, 0, rfl, Nat.le_refl _, by unfold maxLen; omega⟩
    (repeat (apply wlp; apply pv_move; exact fS rfl))
    (apply wls; exact sf_app eI [] l hp 0 rfl rfl rfl rfl rfl rfl (fun _ => rfl) rfl rfl rfl hv (hs.keep0 hp.keeps) (fun _ => rfl) (by simp; omega); rintro _ w2 ⟨s', c', rfl, hv', hp⟩)
    (repeat (first | (with_reducible first | apply wpl_nil | apply thenQ_n | apply WP_ret) | (apply wlp; apply pv_assign; exact fS rfl)))
    exact ret_tmp rfl rfl ⟨_, rfl, s', c', rfl, hv', hp⟩
end Go.Proofs.YtfjbioghpgmkiaaGreatDoor
/- places.turns: the iterator yields the entrants in their turns; conditions: fewer than 20 entrants, an order of them, all in memory. -/
namespace Go.Proofs.YtfjbioghpgmkiaaGreatDoor
open Go.Eng Go.Dig

def clsF (l : List En) (x : Int) : Int := ((l[x.toNat]?).map En.cls).getD 0
def relF (l : List En) (x y : Int) : Bool := match l[x.toNat]?, l[y.toNat]? with
  | some a, some b => relB a b
  | _, _ => false
def fl (r : Int → Bool) (D R : List Int) : List Int := R.filter fun m => !decide (m ∈ D) && r m
def tl (r : Int → Int → Bool) : List Int → List Int → List Int
  | [], _ => []
  | n :: Q, D => if n ∈ D then tl r Q D else n :: (fl (r n) (D ++ [n]) Q ++ tl r Q (D ++ [n] ++ fl (r n) (D ++ [n]) Q))
/-- the turns -/
def trn (l : List En) (ord : List Int) : List Int := tl (relF l) (srt (clsF l) ord) []
theorem tl_skip {r : Int → Int → Bool} {n : Int} {Q D : List Int} (h : n ∈ D) : tl r (n :: Q) D = tl r Q D := by rw [tl, if_pos h]
theorem tl_take {r : Int → Int → Bool} {n : Int} {Q D : List Int} (h : n ∉ D) : tl r (n :: Q) D = n :: (fl (r n) (D ++ [n]) Q ++ tl r Q (D ++ [n] ++ fl (r n) (D ++ [n]) Q)) := by rw [tl, if_neg h]
theorem fl_snoc (r : Int → Bool) (D R : List Int) (m : Int) : fl r D (R ++ [m]) = fl r D R ++ (if (!decide (m ∈ D) && r m) = true then [m] else []) := by
  unfold fl
  rw [List.filter_append]
  congr 1
  simp only [List.filter_cons, List.filter_nil]
theorem fl_nil (r : Int → Bool) (D : List Int) : fl r D [] = [] := rfl
theorem fl_split (r : Int → Bool) (D A B : List Int) : fl r D (A ++ B) = fl r D A ++ fl r D B := List.filter_append ..
theorem fl_mem {r : Int → Bool} {D R : List Int} {m : Int} (h : m ∈ fl r D R) : m ∈ R := (List.mem_filter.1 h).1
theorem isO_facts {n : Nat} {l : List Int} (h : isO n l = true) : l.length = n ∧ (∀ x ∈ l, 0 ≤ x ∧ x < n) ∧ l.Nodup := by
  unfold isO at h
  simp only [Bool.and_eq_true, decide_eq_true_eq, List.all_eq_true] at h
  exact ⟨h.1, h.2.1, h.2.2⟩

/-! two rows that the iterator owns -/
def rowAtB (w : World) (b c : Nat) (z : List Bool) : Prop := ∃ o, w.heap[b]? = some o ∧ rowB 4 1 c z.length (z.flatMap eBo) o
theorem Hp.of2 {W : World} {qb db cq cd : Nat} {Q : List Int} {z : List Bool} (hq : rowAt W qb cq Q) (hd : rowAtB W db cd z) (hne : qb ≠ db) :
    Hp W [qb, db] W [ownL eBo 4 1 (some ⟨db, 0, none⟩) cd z, ownL eI 3 1 (some ⟨qb, 0, none⟩) cq Q] := by
  obtain ⟨o, ho, hr⟩ := hq
  obtain ⟨o2, ho2, hr2⟩ := hd
  have h1 : Hp W [qb, db] W [ownL eI 3 1 (some ⟨qb, 0, none⟩) cq Q] := (Hp.start (M := [qb, db]) (w := W)).adopt (b := qb) (o := o) (by simp) ho hr (fun i p hi => by simp at hi)
  refine h1.adopt (b := db) (o := o2) (by simp) ho2 hr2 (fun i p hi => ?_)
  cases i with
  | zero =>
    simp at hi
    subst hi
    intro e
    have : (some qb : Option Nat) = some db := e
    simp at this
    exact hne this
  | succ i => simp at hi
theorem rowAt.keep {W W' : World} {b c : Nat} {l : List Int} {M : List Nat} (h : rowAt W b c l) (hk : Keeps M W W') (hb : b ∉ M) : rowAt W' b c l := by
  obtain ⟨o, ho, hr⟩ := h
  exact ⟨o, (hk.block b (Array.getElem?_eq_some_iff.1 ho).1 hb).trans ho, hr⟩
theorem rowAtB.keep {W W' : World} {b c : Nat} {l : List Bool} {M : List Nat} (h : rowAtB W b c l) (hk : Keeps M W W') (hb : b ∉ M) : rowAtB W' b c l := by
  obtain ⟨o, ho, hr⟩ := h
  exact ⟨o, (hk.block b (Array.getElem?_eq_some_iff.1 ho).1 hb).trans ho, hr⟩
theorem Keeps.priv {M : List Nat} {W W' : World} {B : Nat} (h : Keeps M W W') (hB : B ≤ W.heap.size) (hM : ∀ k ∈ M, B ≤ k) : Priv B W W' :=
  ⟨h.os, h.tape, h.output, h.size, fun k hk => h.block k (by omega) (fun hm => by have := hM k hm; omega)⟩

attribute [local irreducible] PV StepF wpl wpd WP Ret
attribute [local irreducible] Fit srt tl fl seenL

/-- nothing to sort -/
theorem p100n (s : Option Addr) (cc : Nat) (f : Value) (w : World) : Ret Tryz.prog 100 [.slice s 0 cc, .int .i64 0, .int .i64 0, f] w (fun _ w' => Keeps [] w w') := by
  refine Ret.of_WP Tryz.func100 rfl Tryz.ntmps100 rfl ?_
  have hp := Hp.start (M := []) (w := w)
  (repeat (first | (with_reducible first | apply WP_seq | apply WP_region) | (apply wlp; apply pv_move; exact fI rfl)))
  (apply wlp; (exact pv_add rfl rfl); exact int_eq (b := ((1 : Nat) : Int)) (by rw [i64_in (by omega) (by omega)]; omega))
  (repeat (first | (with_reducible first | apply WP_block | apply wpl_nil | apply thenQ_n) | (apply wlp; apply pv_assign; exact fI rfl)))
  refine WP_loopS [8, 9, 12, 13, 14, 15, 16, 17, 18, 19, 20, 21, 22, 23, 24, 25, 26, 27, 28, 29, 30, 31, 32, 33, 34, 35, 36, 37, 38, 39, 40, 41, 42, 43, 44, 45, 46, 47, 48, 49, 50, 51, 52] (fun (_ : Unit) F => F.put 8 (.int .i64 1)) (fun _ w' => w' = w) (fun _ => 0) () (put_self (Same.eq .refl) rfl) rfl ?_
  rintro u ⟨⟩ _ rfl
  (repeat (first | (with_reducible first | apply WP_seq | apply WP_region | apply wpl_nil | apply thenQ_n) | (apply wlp; ((first | apply pv_move | apply pv_lss) <;> exact rfl); (first | exact fI rfl | exact fB rfl))))
  refine WP_cond_d rfl (fun h => absurd h (by omega)) (fun _ => ?_)
  (repeat (first | (with_reducible first | apply thenQ_exit | apply WP_exit) | ((with_reducible apply inBlk_same); exact rfl)))
  exact ret_none rfl ⟨_, rfl, .refl⟩
theorem p86n (s : Option Addr) (cc lb : Nat) (w : World) : Ret Tryz.prog 86 [.slice s 0 cc, .func (.func 87) #[] #[.pointer (some ⟨lb, 0, none⟩)]] w (fun _ w' => Keeps [] w w') := by
  have h96 : ∀ w, Ret Tryz.prog 96 [.slice s 0 cc, .int .i64 0, .func (.func 87) #[] #[.pointer (some ⟨lb, 0, none⟩)]] w (fun _ w' => Keeps [] w w') := by
    intro w
    refine Ret.of_WP Tryz.func96 rfl Tryz.ntmps96 rfl ?_
    (repeat (first | (with_reducible first | apply WP_seq | apply WP_block | apply WP_region | apply wpl_nil | apply thenQ_n) | (apply wlp; (first | apply pv_move | apply pv_assign); exact fI rfl)))
    refine WP_loopS [7, 8, 11, 12, 13, 14, 15, 16, 17, 18, 19, 20, 21, 22] (fun (_ : Unit) F => (F.put 7 (.int .i64 0)).put 8 (.int .i64 20)) (fun _ w' => w' = w) (fun _ => 0) () (put_self (put_self (Same.eq .refl) rfl) rfl) rfl ?_
    rintro u ⟨⟩ _ rfl
    (repeat (first | (with_reducible first | apply WP_seq | apply WP_region | apply wpl_nil | apply thenQ_n) | (apply wlp; ((first | apply pv_move | apply pv_leq) <;> exact rfl); (first | exact fI rfl | exact fB rfl))))
    refine WP_cond_d rfl (fun h => absurd h (by omega)) (fun _ => ?_)
    (repeat (first | (with_reducible first | apply WP_seq | apply WP_region | apply thenQ_n | apply thenQ_exit | apply WP_exit) | ((with_reducible apply inBlk_same); exact rfl) | (apply wlp; apply pv_move; (first | exact fI rfl | exact fS rfl | exact fF1 rfl))))
    (apply wls; exact st_call rfl ent100 rfl (p100n s cc _ _); rintro v w1 hk)
    (repeat (with_reducible first | apply WP_block | apply wpl_nil | apply thenQ_n))
    refine WP_loopS [6, 7, 8, 9, 28, 29, 30, 31, 32, 33, 34, 35, 36, 37, 38, 39, 40, 41, 42, 43, 44, 45, 46, 47, 48, 49, 50, 51, 52, 53, 54, 55, 56, 57, 58, 59, 60, 61, 62] (fun (_ : Unit) F => F.put 6 (.int .i64 20)) (fun _ w' => w' = w1) (fun _ => 0) () (put_self (Same.eq .refl) rfl) rfl ?_
    rintro u2 ⟨⟩ _ rfl
    (repeat (first | (with_reducible first | apply WP_seq | apply WP_region | apply wpl_nil | apply thenQ_n) | (apply wlp; ((first | apply pv_move | apply pv_lss) <;> exact rfl); (first | exact fI rfl | exact fB rfl))))
    refine WP_cond_d rfl (fun h => absurd h (by omega)) (fun _ => ?_)
    (repeat (first | (with_reducible first | apply thenQ_exit | apply WP_exit) | ((with_reducible apply inBlk_same); exact rfl)))
    exact ret_none rfl ⟨_, rfl, hk⟩
  refine Ret.of_WP Tryz.func86 rfl Tryz.ntmps86 rfl ?_
  (repeat (first | with_reducible apply WP_region | (apply wlp; ((first | apply pv_move | (apply pf_len; exact rfl)) <;> exact rfl); (first | exact fI rfl | exact fS rfl | exact fF1 rfl))))
  (apply wls; exact st_call rfl ent96 rfl (h96 _); rintro v w1 hk)
  (repeat with_reducible apply wpl_nil)
  exact ret_none rfl ⟨_, rfl, hk⟩
theorem p84 (l : List En) (ord : List Int) (s so : Option Addr) (c co lb ob : Nat) (M : List Nat) (w : World)
    (hlb : w.cell? ⟨lb, 0, none⟩ = some (.slice s l.length c)) (hob : w.cell? ⟨ob, 0, none⟩ = some (.slice so ord.length co)) (hs : SlAt w 6 eE s l) (hso : SlAt w 1 eI so ord) (hO : isO l.length ord = true) (h20 : l.length < 20) (hson : so = none → ord = [])
    (hMl : lb ∉ M) (hMs : l ≠ [] → ∀ b o, s = some ⟨b, o, none⟩ → b ∉ M) (hMlt : ∀ k ∈ M, k < w.heap.size) :
    It Tryz.prog 84 [.pointer (some ⟨ob, 0, none⟩), .pointer (some ⟨lb, 0, none⟩)] (fun x : Int => Value.int .i64 x) (trn l ord) M w := by
  intro ll J hll hlc hY hJ hJ0
  obtain ⟨hOl, hOb, hOn⟩ := isO_facts hO
  have hQp := srt_perm (clsF l) ord
  have hQl := srt_len (clsF l) ord
  have htr : trn l ord = tl (relF l) (srt (clsF l) ord) [] := rfl
  have hlbw : lb < w.heap.size := World.block_lt_of_cell? w _ hlb
  have hsw : l ≠ [] → ∀ b o, s = some ⟨b, o, none⟩ → b < w.heap.size := fun h b o e => hs.lt (fun _ => rfl) (by decide) h e
  have hlbl : lb ≠ ll := hlc _ _ hlb
  have hsl : l ≠ [] → ∀ b o, s = some ⟨b, o, none⟩ → b ≠ ll := by
    intro h b o e
    obtain ⟨x, l', rfl⟩ : ∃ x l', l = x :: l' := by cases l with | nil => exact absurd rfl h | cons x l' => exact ⟨x, l', rfl⟩
    obtain ⟨b', o', e', hc'⟩ := hs 0 x rfl
    rw [e] at e'
    cases e'
    exact hlc _ _ (hc' 0 _ rfl)
  refine Ret.of_WP Tryz.func84 rfl Tryz.ntmps84 rfl ?_
  have hp := Hp.start (M := []) (w := w)
  (repeat (first | (with_reducible first | apply WP_seq | apply WP_region) | (apply wlp; ((apply pf_load; exact rfl) <;> (first | exact rfl | assumption)); exact fS rfl)))
  (apply wls; exact st_call rfl ent85 rfl (p85 ord so co _ hso (by omega) hson); rintro _ w1 ⟨sq, cq, rfl, hvq, hpo⟩; have hp := hp.join hpo; clear hpo)
  by_cases hnil : ord = []
  · subst hnil
    have hl0 : l = [] := List.eq_nil_of_length_eq_zero hOl.symm
    subst hl0
    (repeat (first | (with_reducible first | apply WP_seq | apply WP_region | apply wpl_nil | apply thenQ_n) | (apply wlp; (first | apply pv_move | apply pv_assign | apply pv_func); (first | exact fS rfl | exact fF1 rfl))))
    (apply wls; exact st_call rfl ent86 rfl (p86n sq cq lb _); rintro _ w2 hk; have hp := hp.call hk)
    (repeat (first | (with_reducible first | apply WP_seq | apply WP_region | apply wpl_nil | apply thenQ_n) | (apply wlp; ((first | (apply pf_load; exact rfl) | (apply pf_len; exact rfl)) <;> (first | exact rfl | exact hp.old0 (by assumption))); (first | exact fI rfl | exact fS rfl))))
    (apply wls; exact sf_make eBo false hp rfl rfl rfl (m := 0) rfl rfl rfl rfl (by omega) rfl; rintro _ w3 ⟨db, rfl, hvd, hp⟩)
    (repeat (first | (with_reducible first | apply WP_seq | apply WP_block | apply WP_region | apply wpl_nil | apply thenQ_n) | (apply wlp; ((first | apply pv_move | apply pv_assign | (apply pf_len; exact rfl)) <;> exact rfl); (first | exact fI rfl | exact fS rfl))))
    refine WP_loopS [6, 7, 9, 20, 21, 22, 23, 24, 25, 26, 27, 28, 29, 30, 31, 32, 33, 34, 35, 36, 37, 38, 39, 40, 41, 42, 43, 44, 45, 46, 47, 48, 49, 50, 51, 52, 53, 54, 55, 56, 57, 58, 59, 60, 61, 62, 63, 64, 65, 66, 67, 68, 69] (fun (_ : Unit) F => F.put 20 (.int .i64 0)) (fun _ w' => w' = w3) (fun _ => 0) () (put_self (Same.eq .refl) rfl) rfl ?_
    rintro u ⟨⟩ _ rfl
    (repeat (first | (with_reducible first | apply WP_seq | apply WP_region | apply wpl_nil | apply thenQ_n) | (apply wlp; (apply pv_lss <;> exact rfl); exact fB rfl)))
    refine WP_cond_d rfl (fun h => absurd h (by simp)) (fun _ => ?_)
    (repeat (first | (with_reducible first | apply thenQ_exit | apply WP_exit) | ((with_reducible apply inBlk_same); exact rfl)))
    refine ret_none rfl ⟨_, rfl, ?_⟩
    have e : trn [] [] = [] := by
      rw [htr]
      unfold srt tl
      rfl
    rw [e]
    exact hJ _ _ _ hJ0 (Keeps.priv hp.keeps (Nat.le_refl _) (by simp))
  obtain ⟨qb, hsq⟩ := hvq.addr hnil
  subst hsq
  have hcqm : cq ≤ maxLen := by
    rcases hvq with ⟨h, _⟩ | ⟨g, cap, h, _, h2⟩
    · cases h
    · cases h; exact h2
  have hqw : w.heap.size ≤ qb := by
    rcases hp.own 0 _ rfl qb rfl with h | h
    · exact h
    · cases h
  have hlne : l ≠ [] := by rintro rfl; exact hnil (List.eq_nil_of_length_eq_zero hOl)
  have hC : CmpAt lb (clsF l) ord [qb] w1 := by
    intro W hk x hx y hy
    obtain ⟨hx0, hx1⟩ := hOb x hx
    obtain ⟨hy0, hy1⟩ := hOb y hy
    obtain ⟨a, rfl⟩ : ∃ a : Nat, x = a := ⟨x.toNat, by omega⟩
    obtain ⟨b, rfl⟩ : ∃ b : Nat, y = b := ⟨y.toNat, by omega⟩
    have ha : a < l.length := by omega
    have hb : b < l.length := by omega
    have hk2 : Keeps [qb] w W := (show Keeps [qb] w w1 from ⟨hp.keeps.os, hp.keeps.tape, hp.keeps.output, hp.keeps.size, fun k hk _ => hp.keeps.block k hk (by simp)⟩).trans hk (fun k hk => .inr hk)
    have h := p87 l s c lb a b W (hk2.cell hlb (by simp; omega)) (hs.keep hk2 (fun h bb o e => by have := hsw h bb o e; simp; omega)) ha hb
    have e1 : clsF l (a : Int) = l[a].cls := by unfold clsF; rw [Int.toNat_natCast, List.getElem?_eq_getElem ha]; rfl
    have e2 : clsF l (b : Int) = l[b].cls := by unfold clsF; rw [Int.toNat_natCast, List.getElem?_eq_getElem hb]; rfl
    rw [e1, e2]
    exact h
  (repeat (first | (with_reducible first | apply WP_seq | apply WP_region | apply wpl_nil | apply thenQ_n) | (apply wlp; (first | apply pv_move | apply pv_assign | apply pv_func); (first | exact fS rfl | exact fF1 rfl))))
  (apply wls; exact st_call rfl ent86 rfl (p86 ord (clsF l) qb cq lb _ (Hp.rowat hp 0 rfl) hvq.cap hcqm hC (by omega)); rintro _ w2 ⟨hk2, hr2⟩; have hp := Hp.callU hp 0 rfl hk2 hr2)
  generalize hQ : srt (clsF l) ord = Q at hQp hQl htr hp
  have hQb : ∀ x ∈ Q, 0 ≤ x ∧ x < l.length := fun x hx => hOb x (hQp.mem_iff.1 hx)
  have hQn : Q.Nodup := hQp.nodup_iff.2 hOn
  rw [← hQl]
  (repeat (first | (with_reducible first | apply WP_seq | apply WP_region | apply wpl_nil | apply thenQ_n) | (apply wlp; ((first | (apply pf_load; exact rfl) | (apply pf_len; exact rfl)) <;> (first | exact rfl | exact hp.old0 (by assumption))); (first | exact fI rfl | exact fS rfl))))
  (apply wls; exact sf_make eBo false hp rfl rfl rfl rfl rfl rfl rfl (by omega) rfl; rintro _ w3 ⟨db, rfl, hvd, hp⟩)
  rw [← seenL_nil] at hvd hp
  have hp : Hp w [] w3 [ownL eBo 4 1 (some ⟨db, 0, none⟩) l.length (seenL l.length []), ownL eI 3 1 (some ⟨qb, 0, none⟩) cq Q] := hp
  have hdw : w.heap.size ≤ db := by
    rcases hp.own 0 _ rfl db rfl with h | h
    · exact h
    · cases h
  have hqd : qb ≠ db := by
    rintro rfl
    exact hp.dis 0 1 _ _ rfl rfl (by decide) qb rfl rfl
  have hvQ : SVL (some ⟨qb, 0, none⟩) cq Q := .inr ⟨qb, cq, rfl, by rw [hQl]; exact hvq.cap, hcqm⟩
  have hvS : ∀ D : List Int, SVL (some ⟨db, 0, none⟩) l.length (seenL l.length D) := fun D => .inr ⟨db, l.length, by rw [seenL_len], by rw [seenL_len]; exact Nat.le_refl _, by unfold maxLen; omega⟩
  have hqM : qb ∉ ll :: M := by
    intro hm
    rcases List.mem_cons.1 hm with h | h
    · omega
    · have := hMlt _ h; omega
  have hdM : db ∉ ll :: M := by
    intro hm
    rcases List.mem_cons.1 hm with h | h
    · omega
    · have := hMlt _ h; omega
  have hlM : lb ∉ ll :: M := by simp [hlbl, hMl]
  have hsM : l ≠ [] → ∀ b o, s = some ⟨b, o, none⟩ → b ∉ ll :: M := fun h b o e => by simp [hsl h b o e, hMs h b o e]
  have hlq : lb ∉ [qb, db] := by simp; omega
  have hsQ : l ≠ [] → ∀ b o, s = some ⟨b, o, none⟩ → b ∉ [qb, db] := fun h b o e => by have := hsw h b o e; simp; omega
  have hpB : ∀ k ∈ [qb, db], w.heap.size ≤ k := by simp; omega
  -- what holds between two yields
  obtain ⟨FX, hFX⟩ : ∃ FX : List Int → World → Prop, FX = fun pre W => w.heap.size ≤ W.heap.size ∧ rowAt W qb cq Q ∧ rowAtB W db l.length (seenL l.length pre) ∧ W.cell? ⟨lb, 0, none⟩ = some (.slice s l.length c) ∧ SlAt W 6 eE s l ∧ J pre W := ⟨_, rfl⟩
  have hF3 : FX [] w3 := by
    rw [hFX]
    exact ⟨hp.keeps.size, hp.has 1 _ rfl qb rfl, hp.has 0 _ rfl db rfl, hp.old0 hlb, hs.keep0 hp.keeps, hJ _ _ _ hJ0 (Keeps.priv hp.keeps (Nat.le_refl _) (by simp))⟩
  have hFy : ∀ {pre : List Int} {x : Int} {W W2 W3 : World}, FX pre W → Hp W [qb, db] W2 [ownL eBo 4 1 (some ⟨db, 0, none⟩) l.length (seenL l.length (pre ++ [x])), ownL eI 3 1 (some ⟨qb, 0, none⟩) cq Q] → J (pre ++ [x]) W3 → Keeps (ll :: M) W2 W3 → FX (pre ++ [x]) W3 := by
    intro pre x W W2 W3 h h2 h3 hk
    rw [hFX] at h ⊢
    obtain ⟨h4, _, _, h5, h6, _⟩ := h
    exact ⟨Nat.le_trans h4 (Nat.le_trans h2.keeps.size hk.size), rowAt.keep (h2.has 1 _ rfl qb rfl) hk hqM, rowAtB.keep (h2.has 0 _ rfl db rfl) hk hdM, hk.cell (h2.keeps.cell h5 hlq) hlM, (h6.keep h2.keeps hsQ).keep hk hsM, h3⟩
  have hFj : ∀ {pre : List Int} {W W2 : World} {L : List Ent}, FX pre W → Hp W [qb, db] W2 L → J pre W2 := by
    intro pre W W2 L h h2
    rw [hFX] at h
    exact hJ _ _ _ h.2.2.2.2.2 (Keeps.priv h2.keeps h.1 hpB)
  have hFp : ∀ {pre : List Int} {W : World}, FX pre W → Hp W [qb, db] W [ownL eBo 4 1 (some ⟨db, 0, none⟩) l.length (seenL l.length pre), ownL eI 3 1 (some ⟨qb, 0, none⟩) cq Q] := by
    intro pre W h
    rw [hFX] at h
    exact Hp.of2 h.2.1 h.2.2.1 hqd
  have hFk : ∀ {pre : List Int} {W W2 : World}, FX pre W → Hp W [qb, db] W2 [ownL eBo 4 1 (some ⟨db, 0, none⟩) l.length (seenL l.length pre), ownL eI 3 1 (some ⟨qb, 0, none⟩) cq Q] → FX pre W2 := by
    intro pre W W2 h h2
    have hj := hFj h h2
    rw [hFX] at h ⊢
    obtain ⟨h4, _, _, h5, h6, _⟩ := h
    exact ⟨Nat.le_trans h4 h2.keeps.size, h2.has 1 _ rfl qb rfl, h2.has 0 _ rfl db rfl, h2.keeps.cell h5 hlq, h6.keep h2.keeps hsQ, hj⟩
  have hFl : ∀ {pre : List Int} {W : World}, FX pre W → W.cell? ⟨lb, 0, none⟩ = some (.slice s l.length c) := by
    intro pre W h
    rw [hFX] at h
    exact h.2.2.2.1
  have hFs : ∀ {pre : List Int} {W : World}, FX pre W → SlAt W 6 eE s l := by
    intro pre W h
    rw [hFX] at h
    exact h.2.2.2.2.1
  have hFJ : ∀ {pre : List Int} {W : World}, FX pre W → J pre W := by
    intro pre W h
    rw [hFX] at h
    exact h.2.2.2.2.2
  clear hFX
  (repeat (first | (with_reducible first | apply WP_seq | apply WP_block | apply WP_region | apply wpl_nil | apply thenQ_n) | (apply wlp; ((first | apply pv_move | apply pv_assign | (apply pf_len; exact rfl)) <;> exact rfl); (first | exact fI rfl | exact fS rfl))))
  refine WP_loop2 [6, 7, 9, 20, 21, 22, 23, 24, 25, 26, 27, 28, 29, 30, 31, 32, 33, 34, 35, 36, 37, 38, 39, 40, 41, 42, 43, 44, 45, 46, 47, 48, 49, 50, 51, 52, 53, 54, 55, 56, 57, 58, 59, 60, 61, 62, 63, 64, 65, 66, 67, 68, 69] (fun (i : Nat) (_pre : List Int) F => F.put 20 (.int .i64 (i : Int))) (fun i pre w' => i ≤ Q.length ∧ pre ++ tl (relF l) (Q.drop i) pre = trn l ord ∧ FX pre w') (fun i _ => Q.length - i) 0 [] (put_self (Same.eq .refl) rfl) ⟨Nat.zero_le _, by rw [htr]; simp, hF3⟩ ?_
  clear hF3 hvd
  (repeat clear hp)
  rintro u i pre w4 ⟨hi, htl, hF⟩
  have hp := hFp hF
  (repeat (first | (with_reducible first | apply WP_seq | apply WP_region | apply wpl_nil | apply thenQ_n) | (apply wlp; (apply pv_lss <;> exact rfl); exact fB rfl)))
  refine WP_cond_d rfl (fun h => ?_) (fun h => ?_)
  · have hlt : i < Q.length := by omega
    have hgi := List.getElem?_eq_getElem hlt
    have hdr : Q.drop i = Q[i] :: Q.drop (i + 1) := List.drop_eq_getElem_cons hlt
    have hnQ : Q[i] ∉ Q.drop (i + 1) := by
      have := hQn.sublist (List.drop_sublist i Q)
      rw [hdr] at this
      exact (List.nodup_cons.1 this).1
    obtain ⟨hn0, hn1⟩ := hQb Q[i] (List.getElem_mem hlt)
    generalize Q[i] = nn at hgi hdr hnQ hn0 hn1
    obtain ⟨k, rfl⟩ : ∃ k : Nat, nn = k := ⟨nn.toNat, by omega⟩
    have hkl : k < l.length := by omega
    have hks : k < (seenL l.length pre).length := by rw [seenL_len]; exact hkl
    have hcq := own_elem hp 1 rfl hvQ (fun _ => rfl) hgi 0 _ rfl
    have hcq : w4.cell? ⟨qb, 0 + i * 1, none⟩ = some (.int .i64 (k : Int)) := hcq
    have hcd := own_elem hp 0 rfl (hvS pre) (fun _ => rfl) (seenL_get pre hkl) 0 _ rfl
    have hcd : w4.cell? ⟨db, 0 + k * 1, none⟩ = some (.bool (decide ((k : Int) ∈ pre))) := hcd
    rw [hdr] at htl
    (repeat (first | (with_reducible first | apply WP_seq | apply WP_block | apply WP_region | apply wpl_nil | apply thenQ_n | apply WP_skip) | (apply wlp; ((first | apply pv_move | apply pv_assign | (apply pf_load; exact rfl) | (apply pf_index; exact rfl)) <;> (first | exact rfl | assumption)); (first | exact fI rfl | exact fB rfl | exact fP rfl | exact fS rfl))))
    refine WP_cond_d rfl (fun h2 => ?_) (fun h2 => ?_)
    · rw [tl_skip h2] at htl
      (repeat (first | (with_reducible first | apply WP_region | apply thenQ_n | apply thenQ_exit | apply WP_exit) | ((with_reducible apply inBlk_same); exact rfl)))
      (apply wlp; (exact pv_add rfl rfl); exact int_eq (b := ((i + 1 : Nat) : Int)) (by rw [i64_in (by omega) (by omega)]; omega))
      (repeat (first | (with_reducible first | apply wpl_nil | apply thenQ_n) | (apply wlp; apply pv_move; exact fI rfl)))
      exact ⟨i + 1, pre, put_self (Same.eq (by repeat (first | exact Same.hav | exact Same.refl | refine Same.put rfl ?_ | refine Same.havs rfl ?_))) rfl, ⟨by omega, htl, hF⟩, by omega⟩
    rw [tl_take h2] at htl
    (repeat (first | (with_reducible first | apply WP_seq | apply WP_region | apply thenQ_n | apply WP_skip) | (apply wlp; ((first | apply pv_move | (apply pf_index; exact rfl)) <;> (first | exact rfl | assumption)); (first | exact fI rfl | exact fP rfl | exact fS rfl))))
    (apply wls0; exact st_setL eBo _ k true hp 0 rfl (hvS pre) hks rfl rfl (fun _ => rfl) rfl rfl (sizeTy_ok rfl); rintro _ w5 ⟨rfl, hp⟩)
    rw [seenL_set _ hkl] at hp
    (repeat (first | (with_reducible first | apply WP_seq | apply WP_region | apply wpl_nil | apply thenQ_n) | (apply wlp; apply pv_move; (first | exact fI rfl | exact fF0 rfl))))
    (apply wlY; exact rfl; exact rfl; exact hY pre (k : Int) _ (hFj hF hp) ⟨_, htl.symm⟩; rintro _ w6 ⟨rfl, hJ6, hk6⟩; refine ⟨_, rfl, ?_⟩)
    have hF := hFy hF hp hJ6 hk6
    (repeat (first | (with_reducible first | apply wpl_nil | apply thenQ_n) | (apply wlp; (apply pv_not <;> exact rfl); exact fB rfl)))
    refine WP_cond_f rfl ?_
    clear hp
    (repeat clear hp)
    obtain ⟨R, hR⟩ : ∃ R, R = Q.drop (i + 1) := ⟨_, rfl⟩
    have hRl : R.length = Q.length - (i + 1) := by rw [hR, List.length_drop]
    have hRn : R.Nodup := by rw [hR]; exact hQn.sublist (List.drop_sublist _ _)
    have hRb : ∀ x ∈ R, 0 ≤ x ∧ x < l.length := fun x hx => hQb x (List.mem_of_mem_drop (hR ▸ hx))
    have hQc : Q.length ≤ cq := hvQ.cap
    rw [← hR] at htl hnQ hdr
    obtain ⟨ad, had⟩ : ∃ ad, ad = (some ⟨qb, if cq = i + 1 then 0 else 0 + (i + 1) * 1, none⟩ : Option Addr) := ⟨_, rfl⟩
    have hsl : Value.slice (some ⟨qb, if cq = i + 1 then 0 else 0 + (i + 1) * 1, none⟩) (Q.length - (i + 1)) (cq - (i + 1)) = .slice ad R.length (cq - (i + 1)) := by rw [had, hRl]
    have hsub : ∀ {pre : List Int} {W : World}, FX pre W → SlAt W 1 eI ad R := by
      intro pre W h
      have := SlAt.dropIf (ownL_At (hFp h) 1 rfl hvQ (fun _ => rfl)) hQc (i + 1)
      rw [had, hR]
      exact this
    obtain ⟨DD, hDD⟩ : ∃ DD, DD = pre ++ [(k : Int)] := ⟨_, rfl⟩
    have htl : DD ++ (fl (relF l (k : Int)) DD R ++ tl (relF l) R (DD ++ fl (relF l (k : Int)) DD R)) = trn l ord := by
      rw [← htl, hDD]
      simp
    rw [← hDD] at hF
    obtain ⟨bE, oE, hsE, _⟩ := (hFs hF).base (by omega)
    (repeat (first | (with_reducible first | apply WP_seq | apply WP_region | apply thenQ_n | apply WP_skip) | (apply wlp; apply pv_move; (first | exact fI rfl | exact fS rfl))))
    (apply wlp; (exact pv_add rfl rfl); exact int_eq (b := ((i + 1 : Nat) : Int)) (by rw [i64_in (by omega) (by omega)]; omega))
    (apply wlp; exact pv_sliceLo sl30.1 sl30.2 rfl rfl (by omega) hQc; exact hsl)
    (repeat (first | (with_reducible first | apply WP_block | apply wpl_nil | apply thenQ_n) | (apply wlp; ((first | apply pv_move | (apply pf_len; exact rfl)) <;> exact rfl); exact fI rfl)))
    refine WP_loopS [9, 41, 42, 43, 44, 45, 46, 47, 48, 49, 50, 51, 52, 53, 54, 55, 56, 57, 58, 59, 60, 61, 62, 63, 64, 65, 66, 67, 68] (fun (j : Nat) F => F.put 41 (.int .i64 (j : Int))) (fun j w' => j ≤ R.length ∧ FX (DD ++ fl (relF l (k : Int)) DD (R.take j)) w') (fun j => R.length - j) 0 (put_self (Same.eq .refl) rfl) ⟨Nat.zero_le _, by rw [List.take_zero, fl_nil, List.append_nil]; exact hF⟩ ?_
    clear hF hJ6 hk6
    rintro u2 j w7 ⟨hj, hF⟩
    have hp := hFp hF
    (repeat (first | (with_reducible first | apply WP_seq | apply WP_region | apply wpl_nil | apply thenQ_n) | (apply wlp; (apply pv_lss <;> exact rfl); exact fB rfl)))
    refine WP_cond_d rfl (fun h3 => ?_) (fun h3 => ?_)
    · have hjl : j < R.length := by omega
      obtain ⟨b1, o1, hs1, hc1⟩ := (hsub hF).base (by omega)
      have hcj := hc1 j _ (List.getElem?_eq_getElem hjl) 0 _ rfl
      have htk := List.take_succ_eq_append_getElem hjl
      have hsp : R = R.take j ++ R[j] :: R.drop (j + 1) := by
        rw [← List.drop_eq_getElem_cons hjl, List.take_append_drop]
      have hmT : R[j] ∉ R.take j := by
        have h9 : (R.take j ++ R.drop j).Nodup := by rw [List.take_append_drop]; exact hRn
        rw [List.nodup_append] at h9
        intro hm
        exact h9.2.2 _ hm _ (by rw [List.drop_eq_getElem_cons hjl]; exact List.mem_cons_self) rfl
      obtain ⟨hm0, hm1⟩ := hRb R[j] (List.getElem_mem hjl)
      generalize R[j] = mm at hcj htk hsp hmT hm0 hm1
      obtain ⟨q, rfl⟩ : ∃ q : Nat, mm = q := ⟨mm.toNat, by omega⟩
      have hql : q < l.length := by omega
      have hcj : w7.cell? ⟨b1, o1 + j * 1, none⟩ = some (.int .i64 (q : Int)) := hcj
      have hsn := fl_snoc (relF l (k : Int)) DD (R.take j) (q : Int)
      rw [← htk] at hsn
      obtain ⟨T, hT⟩ : ∃ T, T = fl (relF l (k : Int)) DD (R.take j) := ⟨_, rfl⟩
      have hqT : (q : Int) ∈ DD ++ T ↔ (q : Int) ∈ DD := by
        rw [List.mem_append]
        constructor
        · rintro (h | h)
          · exact h
          · rw [hT] at h
            exact absurd (fl_mem h) hmT
        · exact .inl
      rw [← hT] at hF hp hsn
      have hqs : q < (seenL l.length (DD ++ T)).length := by rw [seenL_len]; exact hql
      have hgd := seenL_get (DD ++ T) hql
      have hlc7 := hFl hF
      have hs7 := hFs hF
      obtain ⟨bE2, oE2, hsE2, hcE⟩ := hs7.base (by omega)
      rw [hsE] at hsE2
      cases hsE2
      have hbE : bE ∉ [qb, db] := hsQ hlne bE oE hsE
      have hcn := hcE k _ (List.getElem?_eq_getElem hkl)
      have hcm := hcE q _ (List.getElem?_eq_getElem hql)
      have hrel : relF l (k : Int) (q : Int) = relB l[k] l[q] := by
        unfold relF
        rw [Int.toNat_natCast, Int.toNat_natCast, List.getElem?_eq_getElem hkl, List.getElem?_eq_getElem hql]
      generalize l[k] = en at hcn hrel
      generalize l[q] = em at hcm hrel
      (repeat (first | (with_reducible first | apply WP_seq | apply WP_block | apply WP_region | apply wpl_nil | apply thenQ_n | apply WP_skip) | (apply wlp; ((first | apply pv_assign | (apply pf_load; exact rfl) | (apply pf_index; exact rfl)) <;> (first | exact rfl | assumption)); (first | exact fI rfl | exact fP rfl))))
      refine WP_draw mixed (by kernel_rfl) (fun w' => Hp w7 [qb, db] w' [ownL eBo 4 1 (some ⟨db, 0, none⟩) l.length (seenL l.length (DD ++ T)), ownL eI 3 1 (some ⟨qb, 0, none⟩) cq Q]) hp.drew ?_
      have hp := hp.drew
      (repeat ((apply wdp; exact rfl); (intro w hp; intros; ((first | apply pv_move | (apply pf_load; exact rfl) | (apply pf_index; exact rfl)) <;> (first | exact rfl | assumption))); (intros; (first | exact fI rfl | exact fP rfl | exact fS rfl))))
      by_cases hqD : (q : Int) ∈ DD
      · (apply wdp; exact rfl; (intro w hp; exact pf_load rfl rfl (own_elem hp 0 rfl (hvS _) (fun _ => rfl) hgd 0 _ rfl)); exact bool_eq (b := true) (decide_eq_true (hqT.2 hqD)))
        (repeat (first | ((apply wdp; exact rfl); (intro w hp; intros; apply pv_move); (intros; exact fB rfl)) | (apply wdpF; exact rfl; exact rfl; exact rfl; exact rfl) | (apply wdpU; exact rfl; exact rfl; exact rfl)))
        (apply wdsF; exact rfl; exact rfl; exact rfl; exact rfl; exact hp)
        (repeat (first | ((apply wdp; exact rfl); (intro w hp; intros; exact pv_orT rfl); (intros; exact fB rfl)) | (apply wdpF; exact rfl; exact rfl; exact rfl; exact rfl) | (apply wdpU; exact rfl; exact rfl; exact rfl)))
        refine wpd_nil ?_
        refine WP_cond_t rfl ?_
        (repeat (first | (with_reducible first | apply WP_region | apply thenQ_n | apply thenQ_exit | apply WP_exit) | ((with_reducible apply inBlk_same); exact rfl)))
        (apply wlp; (exact pv_add rfl rfl); exact int_eq (b := ((j + 1 : Nat) : Int)) (by rw [i64_in (by omega) (by omega)]; omega))
        (repeat (first | (with_reducible first | apply wpl_nil | apply thenQ_n) | (apply wlp; apply pv_move; exact fI rfl)))
        refine ⟨j + 1, put_self (Same.eq (by repeat (first | exact Same.hav | exact Same.refl | refine Same.put rfl ?_ | refine Same.havs rfl ?_))) rfl, ⟨by omega, ?_⟩, by omega⟩
        rw [hsn, decide_eq_true hqD]
        show FX (DD ++ (T ++ [])) _
        rw [List.append_nil]
        exact hFk hF hp
      have hqDT : (q : Int) ∉ DD ++ T := fun h => hqD (hqT.1 h)
      (apply wdp; exact rfl; (intro w hp; exact pf_load rfl rfl (own_elem hp 0 rfl (hvS _) (fun _ => rfl) hgd 0 _ rfl)); exact bool_eq (b := false) (decide_eq_false hqDT))
      (apply wdp; exact rfl; (intro w hp; exact pv_move); exact fB rfl)
      (apply wdpT; exact rfl; exact rfl; exact rfl; (intro w hp; exact pf_load rfl rfl (hp.old hlc7 hlq)); exact fS rfl)
      (apply wdpT; exact rfl; exact rfl; exact rfl; (intro w hp; exact pv_move); exact fI rfl)
      (apply wdpT; exact rfl; exact rfl; exact rfl; (intro w hp; exact pf_index rfl rfl rfl hsE hkl); exact fP rfl)
      (apply wdpT; exact rfl; exact rfl; exact rfl; (intro w hp; exact pf_loads (vs := eE en) rfl rfl rfl rfl (fun j v hv => hp.old (hcn j v hv) hbE)); exact fA6 rfl)
      (apply wdpT; exact rfl; exact rfl; exact rfl; (intro w hp; exact pf_load rfl rfl (hp.old hlc7 hlq)); exact fS rfl)
      (apply wdpT; exact rfl; exact rfl; exact rfl; (intro w hp; exact pv_move); exact fI rfl)
      (apply wdpT; exact rfl; exact rfl; exact rfl; (intro w hp; exact pf_index rfl rfl rfl hsE hql); exact fP rfl)
      (apply wdpT; exact rfl; exact rfl; exact rfl; (intro w hp; exact pf_loads (vs := eE em) rfl rfl rfl rfl (fun j v hv => hp.old (hcm j v hv) hbE)); exact fA6 rfl)
      (apply wdsT; exact rfl; exact rfl; exact rfl; exact st_call rfl ent89 rfl (p89 en em _); rintro _ w8 ⟨rfl, hk8⟩; have hp := hp.call hk8; refine ⟨hp, ?_⟩)
      rw [← hrel]
      by_cases hre : relF l (k : Int) (q : Int) = true
      · rw [hre]
        rw [decide_eq_false hqD, hre] at hsn
        have hsn : fl (relF l (k : Int)) DD (R.take (j + 1)) = T ++ [(q : Int)] := hsn
        (repeat (first | ((apply wdp; exact rfl); (intro w hp; intros; ((first | exact pv_orF rfl rfl | apply pv_not) <;> exact rfl)); (intros; exact fB rfl)) | ((apply wdpT; exact rfl; exact rfl; exact rfl); (intro w hp; ((first | exact pv_orF rfl rfl | apply pv_not) <;> exact rfl)); (intros; exact fB rfl)) | (apply wdpF; exact rfl; exact rfl; exact rfl; exact rfl) | (apply wdpU; exact rfl; exact rfl; exact rfl)))
        refine wpd_nil ?_
        refine WP_cond_f rfl ?_
        have hxs : ∃ suf, trn l ord = (DD ++ T) ++ (q : Int) :: suf := by
          have e1 : fl (relF l (k : Int)) DD R = (T ++ [(q : Int)]) ++ fl (relF l (k : Int)) DD (R.drop (j + 1)) := by
            rw [← hsn, ← fl_split, List.take_append_drop]
          refine ⟨fl (relF l (k : Int)) DD (R.drop (j + 1)) ++ tl (relF l) R (DD ++ fl (relF l (k : Int)) DD R), ?_⟩
          rw [← htl]
          conv => lhs; rw [e1]
          simp [e1]
        (repeat (first | (with_reducible first | apply WP_seq | apply WP_region | apply thenQ_n | apply WP_skip) | (apply wlp; ((first | apply pv_move | (apply pf_index; exact rfl)) <;> (first | exact rfl | assumption)); (first | exact fI rfl | exact fP rfl | exact fS rfl))))
        (apply wls0; exact st_setL eBo _ q true hp 0 rfl (hvS _) hqs rfl rfl (fun _ => rfl) rfl rfl (sizeTy_ok rfl); rintro _ w9 ⟨rfl, hp⟩)
        rw [seenL_set _ hql] at hp
        (repeat (first | (with_reducible first | apply WP_seq | apply WP_region | apply wpl_nil | apply thenQ_n) | (apply wlp; apply pv_move; (first | exact fI rfl | exact fF0 rfl))))
        (apply wlY; exact rfl; exact rfl; exact hY (DD ++ T) (q : Int) _ (hFj hF hp) hxs; rintro _ w10 ⟨rfl, hJ10, hk10⟩; refine ⟨_, rfl, ?_⟩)
        have hF := hFy hF hp hJ10 hk10
        (repeat (first | (with_reducible first | apply wpl_nil | apply thenQ_n) | (apply wlp; (apply pv_not <;> exact rfl); exact fB rfl)))
        refine WP_cond_f rfl ?_
        (repeat (with_reducible first | apply WP_region | apply thenQ_n | apply inBlk_n | apply WP_skip))
        (apply wlp; (exact pv_add rfl rfl); exact int_eq (b := ((j + 1 : Nat) : Int)) (by rw [i64_in (by omega) (by omega)]; omega))
        (repeat (first | (with_reducible first | apply wpl_nil | apply thenQ_n) | (apply wlp; apply pv_move; exact fI rfl)))
        refine ⟨j + 1, put_self (Same.eq (by repeat (first | exact Same.hav | exact Same.refl | refine Same.put rfl ?_ | refine Same.havs rfl ?_))) rfl, ⟨by omega, ?_⟩, by omega⟩
        rw [hsn, ← List.append_assoc]
        exact hF
      · have hre : relF l (k : Int) (q : Int) = false := by simpa using hre
        rw [hre]
        rw [hre, Bool.and_false] at hsn
        have hsn : fl (relF l (k : Int)) DD (R.take (j + 1)) = T ++ [] := hsn
        (repeat (first | ((apply wdp; exact rfl); (intro w hp; intros; ((first | exact pv_orF rfl rfl | apply pv_not) <;> exact rfl)); (intros; exact fB rfl)) | ((apply wdpT; exact rfl; exact rfl; exact rfl); (intro w hp; ((first | exact pv_orF rfl rfl | apply pv_not) <;> exact rfl)); (intros; exact fB rfl)) | (apply wdpF; exact rfl; exact rfl; exact rfl; exact rfl) | (apply wdpU; exact rfl; exact rfl; exact rfl)))
        refine wpd_nil ?_
        refine WP_cond_t rfl ?_
        (repeat (first | (with_reducible first | apply WP_region | apply thenQ_n | apply thenQ_exit | apply WP_exit) | ((with_reducible apply inBlk_same); exact rfl)))
        (apply wlp; (exact pv_add rfl rfl); exact int_eq (b := ((j + 1 : Nat) : Int)) (by rw [i64_in (by omega) (by omega)]; omega))
        (repeat (first | (with_reducible first | apply wpl_nil | apply thenQ_n) | (apply wlp; apply pv_move; exact fI rfl)))
        refine ⟨j + 1, put_self (Same.eq (by repeat (first | exact Same.hav | exact Same.refl | refine Same.put rfl ?_ | refine Same.havs rfl ?_))) rfl, ⟨by omega, ?_⟩, by omega⟩
        rw [hsn, List.append_nil]
        exact hFk hF hp
    · have e : R.take j = R := List.take_of_length_le (by omega)
      rw [e] at hF
      (repeat (first | (with_reducible first | apply WP_region | apply thenQ_n | apply inBlk_n | apply thenQ_exit | apply WP_exit) | ((with_reducible apply inBlk_same); exact rfl)))
      (apply wlp; (exact pv_add rfl rfl); exact int_eq (b := ((i + 1 : Nat) : Int)) (by rw [i64_in (by omega) (by omega)]; omega))
      (repeat (first | (with_reducible first | apply wpl_nil | apply thenQ_n) | (apply wlp; apply pv_move; exact fI rfl)))
      refine ⟨i + 1, _, put_self (Same.eq (by repeat (first | exact Same.hav | exact Same.refl | refine Same.put rfl ?_ | refine Same.havs rfl ?_))) rfl, ⟨by omega, ?_, hF⟩, by omega⟩
      rw [← hR, List.append_assoc]
      exact htl
  · have e : Q.drop i = [] := List.drop_eq_nil_of_le (by omega)
    rw [e] at htl
    have htl : pre = trn l ord := by
      rw [← htl]
      unfold tl
      simp
    subst htl
    (repeat (first | (with_reducible first | apply thenQ_exit | apply WP_exit) | ((with_reducible apply inBlk_same); exact rfl)))
    exact ret_none rfl ⟨_, rfl, hFJ hF⟩
end Go.Proofs.YtfjbioghpgmkiaaGreatDoor
/- places: turns, seats, assignable; conditions: the data lie in memory. -/
namespace Go.Proofs.YtfjbioghpgmkiaaGreatDoor
open Go.Eng Go.Dig

def eP (p : ByteArray × Int) : List Value := [.string p.1, .int .i64 p.2]
/-- a draw as it lies in memory -/
def dB (nm : ByteArray) (kind : Int) (s : Option Addr) (m c : Nat) : List Value := [.string nm, .int .i64 kind, .int .i64 0, .int .i64 0, .int .i64 0, .int .i64 0, .slice none 0 0, .bool false, .slice s m c, .int .i64 0, .int .i64 0, .slice none 0 0, .slice none 0 0]
def noN : ByteArray := ⟨#[]⟩
/-- the seats of a place -/
def stO (ps : List (ByteArray × Int)) (a : ByteArray) : Option Int := if a = noN then none else (ps.find? fun p => decide (p.1 = a)).map (·.2)
def mF (f : ByteArray → Option Int) (a : ByteArray) : Option Value := (f a).map fun x => .int .i64 x
theorem stO_snoc (ps : List (ByteArray × Int)) (p : ByteArray × Int) (a : ByteArray) : stO (ps ++ [p]) a = if (stO ps p.1).isSome = false ∧ p.1 ≠ noN ∧ a = p.1 then some p.2 else stO ps a := by
  unfold stO
  by_cases ha : a = noN
  · rw [if_pos ha, if_pos ha]
    rw [if_neg (by rintro ⟨_, h1, h2⟩; exact h1 (h2 ▸ ha))]
  · rw [if_neg ha, if_neg ha, List.find?_append]
    by_cases hp : a = p.1
    · subst hp
      rw [if_neg ha]
      cases h : ps.find? fun q => decide (q.1 = p.1) with
      | none => simp [ha]
      | some q => simp
    · rw [if_neg (by rintro ⟨_, _, h⟩; exact hp h)]
      cases h : ps.find? fun q => decide (q.1 = a) with
      | none => simp [show ¬ p.1 = a from fun h => hp h.symm]
      | some q => simp
theorem stO_nil : mF (stO []) = fun _ => none := by
  funext a
  unfold mF stO
  split <;> rfl
theorem mF_look (f : ByteArray → Option Int) (a : ByteArray) : (mF f a).getD (.int .i64 0) = .int .i64 ((f a).getD 0) := by
  unfold mF
  cases f a <;> rfl
theorem mF_some (f : ByteArray → Option Int) (a : ByteArray) : (mF f a).isSome = (f a).isSome := by
  unfold mF
  cases f a <;> rfl
theorem mp90 : Tryz.prog.underlying 90 = some (.map 9 3) ∧ Tryz.prog.underlying 9 = some kStr.kd ∧ TZero Tryz.prog 3 (.int .i64 0) := ⟨Tryz.underlying90, Tryz.underlying9, zeroTy_ok rfl⟩

attribute [local irreducible] PV StepF wpl wpd WP Ret
attribute [local irreducible] Fit srt tl fl seenL stO isO

theorem p54 (s so : Option Addr) (m c mo co : Nat) (w : World) : Ret Tryz.prog 54 [.slice s m c, .slice so mo co] w (fun v w' => ∃ lb ob, v = .func (.func 84) #[] #[.pointer (some ⟨ob, 0, none⟩), .pointer (some ⟨lb, 0, none⟩)] ∧ Hp w [] w' [blk ob 1 (frOf [.slice so mo co]) 30, blk lb 1 (frOf [.slice s m c]) 33]) := by
  refine Ret.of_WP Tryz.func54 rfl Tryz.ntmps54 rfl ?_
  have hp := Hp.start (M := []) (w := w)
  (repeat (with_reducible first | apply WP_seq | apply WP_region))
  (apply wls; exact sbox1 hp rfl rfl; rintro _ w1 ⟨lb, rfl, hp⟩)
  (apply wls; exact sbox1 hp rfl rfl; rintro _ w2 ⟨ob, rfl, hp⟩)
  (repeat (first | (with_reducible first | apply WP_seq | apply WP_region | apply wpl_nil | apply thenQ_n | apply WP_ret) | (apply wlp; (first | apply pv_assign | apply pv_func); (first | exact fF2 rfl | exact rfl))))
  exact ret_tmp rfl rfl ⟨_, rfl, lb, ob, rfl, hp⟩
theorem p55 (nm : ByteArray) (kind : Int) (ps : List (ByteArray × Int)) (s : Option Addr) (c : Nat) (w : World) (hs : SlAt w 2 eP s ps) (hl : ps.length ≤ 9223372036854775806) :
    Ret Tryz.prog 55 [.agg (dB nm kind s ps.length c).toArray] w (fun v w' => ∃ mb, v = .map (some mb) ∧ Hp w [] w' [mapE kStr mb (mF (stO ps))]) := by
  refine Ret.of_WP Tryz.func55 rfl Tryz.ntmps55 rfl ?_
  have hp := Hp.start (M := []) (w := w)
  (repeat (with_reducible first | apply WP_seq | apply WP_region))
  (apply wls; exact sbox13 hp rfl; rintro _ w1 ⟨bx, rfl, hp⟩)
  (repeat (first | (with_reducible first | apply WP_seq | apply WP_region | apply wpl_nil | apply thenQ_n) | (apply wlp; apply pv_assign; exact fM rfl)))
  (apply wls; exact st_makemap kStr hp; rintro _ w2 ⟨mb, rfl, hp⟩)
  rw [← stO_nil] at hp
  (repeat (first | (with_reducible first | apply WP_seq | apply WP_block | apply WP_region | apply wpl_nil | apply thenQ_n) | (apply wlp; ((first | apply pv_move | apply pv_assign | apply pf_field | (apply pf_load; exact rfl) | (apply pf_len; exact rfl)) <;> (first | exact rfl | exact hp.cell 1 rfl rfl)); (first | exact fI rfl | exact fP rfl | exact fS rfl | exact fM rfl))))
  refine WP_loopS [5, 6, 7, 12, 13, 14, 15, 16, 17, 18, 19, 20, 21, 22, 23, 24, 25, 26, 27, 28, 29, 30, 31, 32, 33, 34, 35] (fun (i : Nat) F => F.put 12 (.int .i64 (i : Int))) (fun i w' => i ≤ ps.length ∧ Hp w [] w' [mapE kStr mb (mF (stO (ps.take i)))]) (fun i => ps.length - i) 0 (put_self (Same.eq .refl) rfl) ⟨Nat.zero_le _, hp.pick 0 rfl⟩ ?_
  (repeat clear hp)
  rintro u i w3 ⟨hi, hp⟩
  (repeat (first | (with_reducible first | apply WP_seq | apply WP_region | apply wpl_nil | apply thenQ_n) | (apply wlp; (apply pv_lss <;> exact rfl); exact fB rfl)))
  refine WP_cond_d rfl (fun h => ?_) (fun h => ?_)
  · have hlt : i < ps.length := by omega
    obtain ⟨b0, o0, hs0, hc0⟩ := hs.base (by omega)
    have hci := hc0 i _ (List.getElem?_eq_getElem hlt)
    have htk := List.take_succ_eq_append_getElem hlt
    generalize ps[i] = p at hci htk
    obtain ⟨pn, pv⟩ := p
    have hsn := fun a => stO_snoc (ps.take i) (pn, pv) a
    rw [← htk] at hsn
    generalize ps.take i = T at *
    (repeat (first | (with_reducible first | apply WP_seq | apply WP_block | apply WP_region | apply thenQ_n | apply WP_skip) | (apply wlp; ((first | (apply pf_loadb; exact rfl) | (apply pf_index; exact rfl)) <;> (first | exact rfl | assumption)); exact fP rfl)))
    (apply wlp; exact pf_loads (vs := eP (pn, pv)) rfl rfl rfl rfl (fun j v hv => hp.old0 (hci j v hv)); exact fA2 rfl)
    (apply wls; exact salloc2 hp (zeroTy_ok rfl); rintro _ w4 ⟨pb, rfl, hp⟩)
    (apply wls0; exact sstore2 hp 0 rfl rfl rfl rfl (sizeTy_ok rfl) rfl; rintro _ w5 ⟨rfl, hp⟩)
    have hp := hp.norm 0 [.string pn, .int .i64 pv] rfl rfl
    have hp : Hp w [] w5 [blk pb 2 (frOf [.string pn, .int .i64 pv]) 52, mapE kStr mb (mF (stO T))] := hp
    (repeat (first | (with_reducible first | apply WP_seq | apply WP_region | apply wpl_nil | apply thenQ_n) | (apply wlp; ((first | apply pv_move | apply pf_field | (apply pf_load; exact rfl)) <;> (first | exact rfl | exact hp.cell 0 rfl rfl)); (first | exact fP rfl | exact fT rfl | exact fM rfl))))
    (apply wlp; exact pv_lookup_ok (K := kStr) (a := pn) hp 1 rfl rfl rfl mp90.1 mp90.2.1 mp90.2.2; exact fU rfl)
    rw [mF_some, mF_look]
    (repeat (first | (with_reducible first | apply WP_seq | apply WP_region | apply wpl_nil | apply thenQ_n) | ((first | apply wlp | (apply wlg; exact rfl; exact rfl)); (intros; ((first | apply pv_move | apply pv_assign | apply pf_field | (apply pf_load; exact rfl) | exact pv_and rfl rfl rfl | apply pv_not | apply pv_extract | (apply pv_sneq; (first | exact rfl | exact ev_sel rfl (by assumption)))) <;> (first | exact rfl | exact ev_sel rfl (by assumption) | exact hp.cell 0 rfl rfl))); (intros; (first | exact fI rfl | exact fB rfl | exact fP rfl | exact fT rfl | exact fU rfl)))))
    refine WP_cond rfl (fun h2 => ?_) (fun h2 => ?_)
    · have hc2 : (stO T pn).isSome = false ∧ pn ≠ noN := by
        simp at h2
        exact ⟨by simp [h2.1], h2.2⟩
      (repeat (first | with_reducible apply WP_region | (apply wlp; ((first | apply pv_move | apply pf_field | (apply pf_load; exact rfl)) <;> (first | exact rfl | exact hp.cell 0 rfl rfl)); (first | exact fI rfl | exact fP rfl | exact fT rfl | exact fM rfl))))
      (apply wls0; exact st_mapput (K := kStr) (a := pn) (v := .int .i64 pv) hp 1 rfl rfl rfl rfl mp90.1 mp90.2.1; rintro _ w6 ⟨rfl, hp⟩)
      have hfe : (fun x => if x = pn then some (.int .i64 pv) else mF (stO T) x) = mF (stO (ps.take (i + 1))) := by
        funext a
        unfold mF
        rw [hsn a]
        by_cases ha : a = pn
        · rw [if_pos ha, if_pos ⟨hc2.1, hc2.2, ha⟩]; rfl
        · rw [if_neg ha, if_neg (fun h => ha h.2.2)]
      have hp : Hp w [] w6 [blk pb 2 (frOf [.string pn, .int .i64 pv]) 52, mapE kStr mb (fun x => if x = pn then some (.int .i64 pv) else mF (stO T) x)] := hp
      rw [hfe] at hp
      (repeat (with_reducible first | apply WP_region | apply wpl_nil | apply thenQ_n | apply inBlk_n))
      (apply wlp; (exact pv_add rfl rfl); exact int_eq (b := ((i + 1 : Nat) : Int)) (by rw [i64_in (by omega) (by omega)]; omega))
      (repeat (first | (with_reducible first | apply wpl_nil | apply thenQ_n) | (apply wlp; apply pv_move; exact fI rfl)))
      exact ⟨i + 1, put_self (Same.eq (by repeat (first | exact Same.hav | exact Same.refl | refine Same.put rfl ?_ | refine Same.havs rfl ?_))) rfl, ⟨by omega, hp.tail⟩, by omega⟩
    · have hfe : mF (stO T) = mF (stO (ps.take (i + 1))) := by
        funext a
        unfold mF
        rw [hsn a, if_neg]
        rintro ⟨h3, h4, _⟩
        simp at h2
        exact h4 (h2 (by simpa using h3))
      rw [hfe] at hp
      (repeat (with_reducible first | apply WP_region | apply thenQ_n | apply inBlk_n | apply WP_skip))
      (apply wlp; (exact pv_add rfl rfl); exact int_eq (b := ((i + 1 : Nat) : Int)) (by rw [i64_in (by omega) (by omega)]; omega))
      (repeat (first | (with_reducible first | apply wpl_nil | apply thenQ_n) | (apply wlp; apply pv_move; exact fI rfl)))
      exact ⟨i + 1, put_self (Same.eq (by repeat (first | exact Same.hav | exact Same.refl | refine Same.put rfl ?_ | refine Same.havs rfl ?_))) rfl, ⟨by omega, hp.tail⟩, by omega⟩
  · have e : ps.take i = ps := List.take_of_length_le (by omega)
    rw [e] at hp
    (repeat (first | (with_reducible first | apply WP_seq | apply WP_region | apply wpl_nil | apply thenQ_n | apply thenQ_exit | apply WP_ret | apply WP_exit) | ((with_reducible apply inBlk_same); exact rfl) | (apply wlp; (first | apply pv_move | apply pv_assign); exact fM rfl)))
    exact ret_tmp rfl rfl ⟨_, rfl, mb, rfl, hp⟩
end Go.Proofs.YtfjbioghpgmkiaaGreatDoor
/- places: assignable, assign, Assign; conditions: a ballot of fewer than 20 entrants that lies in memory. -/
namespace Go.Proofs.YtfjbioghpgmkiaaGreatDoor
open Go.Eng Go.Dig

/-- entrants with their wishes, in memory -/
structure EAt (w : World) (s : Option Addr) (l : List En) : Prop where
  at_ : SlAt w 6 eE s l
  ws : ∀ e ∈ l, SlAt w 1 eS e.ws e.wl
  len : ∀ e ∈ l, e.wl.length ≤ 1000000
theorem EAt.keep0 {w w' : World} {s : Option Addr} {l : List En} (h : EAt w s l) (hk : Keeps [] w w') : EAt w' s l := ⟨h.at_.keep0 hk, fun e he => (h.ws e he).keep0 hk, h.len⟩
abbrev AS := (ByteArray → Option Int) × List ByteArray
def wsh (l : List En) (n : Int) : List ByteArray := ((l[n.toNat]?).map En.wl).getD []
def avl (f : ByteArray → Option Int) (w : ByteArray) : Bool := decide (0 < (f w).getD 0)
def stepA (l : List En) (S : AS) (n : Int) : AS := match (wsh l n).find? (avl S.1) with
  | none => S
  | some w => (fun a => if a = w then some ((S.1 w).getD 0 - 1) else S.1 a, S.2.set n.toNat w)
def asg0 (l : List En) (ps : List (ByteArray × Int)) : AS := (stO ps, List.replicate l.length noN)
/-- the places that are given out -/
def asg (l : List En) (ps : List (ByteArray × Int)) (ord : List Int) : List ByteArray := ((trn l ord).foldl (stepA l) (asg0 l ps)).2
theorem stepA_len (l : List En) (S : AS) (n : Int) : (stepA l S n).2.length = S.2.length := by
  unfold stepA
  split
  · rfl
  · simp
theorem foldA_len (l : List En) : ∀ (t : List Int) (S : AS), (t.foldl (stepA l) S).2.length = S.2.length
  | [], _ => rfl
  | n :: t, S => by rw [List.foldl_cons, foldA_len l t, stepA_len]
theorem tl_perm (r : Int → Int → Bool) : ∀ (Q D : List Int), Q.Nodup → (tl r Q D).Perm (Q.filter fun m => !decide (m ∈ D))
  | [], D, _ => by
    unfold tl
    exact .refl _
  | n :: Q, D, hn => by
    obtain ⟨hnQ, hQ⟩ := List.nodup_cons.1 hn
    by_cases h : n ∈ D
    · rw [tl_skip h, List.filter_cons_of_neg (by simp [h])]
      exact tl_perm r Q D hQ
    · rw [tl_take h, List.filter_cons_of_pos (by simp [h])]
      refine List.Perm.cons _ ?_
      refine (List.Perm.append_left _ (tl_perm r Q _ hQ)).trans ?_
      have e1 : fl (r n) (D ++ [n]) Q = (Q.filter fun m => !decide (m ∈ D)).filter (r n) := by
        unfold fl
        rw [List.filter_filter]
        apply List.filter_congr
        intro m hm
        have : m ≠ n := fun e => hnQ (e ▸ hm)
        simp [this, Bool.and_comm]
      have e2 : (Q.filter fun m => !decide (m ∈ D ++ [n] ++ fl (r n) (D ++ [n]) Q)) = (Q.filter fun m => !decide (m ∈ D)).filter fun m => !(r n m) := by
        rw [List.filter_filter]
        apply List.filter_congr
        intro m hm
        have h1 : m ≠ n := fun e => hnQ (e ▸ hm)
        rw [e1]
        by_cases h2 : m ∈ D
        · simp [h2]
        · cases h3 : r n m
          · simp [h1, h2, h3]
          · simp [h1, h2, h3, hm]
      rw [e2, e1]
      exact List.filter_append_perm (r n) _
theorem trn_perm (l : List En) {ord : List Int} (h : ord.Nodup) : (trn l ord).Perm ord := by
  have hn : (srt (clsF l) ord).Nodup := (srt_perm (clsF l) ord).nodup_iff.2 h
  have := tl_perm (relF l) _ [] hn
  have e : ((srt (clsF l) ord).filter fun m => !decide (m ∈ ([] : List Int))) = srt (clsF l) ord := by
    rw [List.filter_eq_self]
    intro a _
    simp
  rw [e] at this
  exact this.trans (srt_perm _ _)

theorem stepA_none {l : List En} {S : AS} {k : Int} (h : (wsh l k).find? (avl S.1) = none) : stepA l S k = S := by
  unfold stepA
  rw [h]
theorem stepA_some {l : List En} {S : AS} {k : Int} {w : ByteArray} (h : (wsh l k).find? (avl S.1) = some w) : stepA l S k = (fun a => if a = w then some ((S.1 w).getD 0 - 1) else S.1 a, S.2.set k.toNat w) := by
  unfold stepA
  rw [h]
theorem stepA_le (l : List En) (S : AS) (k : Int) (w : ByteArray) : ((stepA l S k).1 w).getD 0 ≤ (S.1 w).getD 0 := by
  cases hf : (wsh l k).find? (avl S.1) with
  | none => rw [stepA_none hf]; exact Int.le_refl _
  | some w0 =>
    rw [stepA_some hf]
    show (if w = w0 then some ((S.1 w0).getD 0 - 1) else S.1 w).getD 0 ≤ _
    by_cases e : w = w0
    · subst e
      rw [if_pos rfl, Option.getD_some]
      omega
    · rw [if_neg e]
      exact Int.le_refl _
theorem foldA_le (l : List En) (w : ByteArray) : ∀ (t : List Int) (S : AS), ((t.foldl (stepA l) S).1 w).getD 0 ≤ (S.1 w).getD 0
  | [], _ => Int.le_refl _
  | n :: t, S => by
    rw [List.foldl_cons]
    exact Int.le_trans (foldA_le l w t _) (stepA_le l S n w)
theorem stO_le {ps : List (ByteArray × Int)} {B : Int} (h : ∀ p ∈ ps, p.2 ≤ B) (hB : 0 ≤ B) (w : ByteArray) : (stO ps w).getD 0 ≤ B := by
  unfold stO
  split
  · exact hB
  · cases hf : ps.find? fun p => decide (p.1 = w) with
    | none => exact hB
    | some p => exact h p (List.mem_of_find?_eq_some hf)
theorem mF_put (f : ByteArray → Option Int) (w : ByteArray) (x : Int) : (fun a => if a = w then some (Value.int .i64 x) else mF f a) = mF (fun a => if a = w then some x else f a) := by
  funext a
  unfold mF
  by_cases h : a = w
  · simp [h]
  · simp [h]
theorem find_none {f : ByteArray → Bool} {ws : List ByteArray} (h : ∀ x ∈ ws, f x = false) : ws.find? f = none := by
  rw [List.find?_eq_none]
  intro x hx
  rw [h x hx]
  decide
theorem find_at {f : ByteArray → Bool} {ws : List ByteArray} {j : Nat} (hj : j < ws.length) (h : ∀ x ∈ ws.take j, f x = false) (hf : f ws[j] = true) : ws.find? f = some ws[j] := by
  have e : ws = ws.take j ++ ws[j] :: ws.drop (j + 1) := by rw [← List.drop_eq_getElem_cons hj, List.take_append_drop]
  have h1 : (ws.take j ++ ws[j] :: ws.drop (j + 1)).find? f = some ws[j] := by
    rw [List.find?_append, find_none h, Option.none_or, List.find?_cons, hf]
  rwa [← e] at h1
theorem Hp.upd2 {w0 W W' : World} {M : List Nat} {L : List Ent} {b1 b2 : Nat} {φ ψ φ' ψ' : Obj → Prop} (h : Hp w0 M W ((some b1, φ) :: (some b2, ψ) :: L)) (hk : Keeps [b1, b2] W W')
    (h1 : ∃ o, W'.heap[b1]? = some o ∧ φ' o) (h2 : ∃ o, W'.heap[b2]? = some o ∧ ψ' o) : Hp w0 M W' ((some b1, φ') :: (some b2, ψ') :: L) := by
  have hd := h.dis'
  rw [List.pairwise_cons, List.pairwise_cons] at hd
  refine .of' (h.keeps.trans hk ?_) ?_ ?_ ?_
  · intro k hk'
    rcases List.mem_cons.1 hk' with rfl | hk'
    · exact h.own 0 _ rfl k rfl
    · obtain rfl : k = b2 := by simpa using hk'
      exact h.own 1 _ rfl k rfl
  · intro p hp b hb
    rcases List.mem_cons.1 hp with rfl | hp1
    · exact h.own 0 _ rfl b hb
    · rcases List.mem_cons.1 hp1 with rfl | hp2
      · exact h.own 1 _ rfl b hb
      · exact h.own' (List.mem_cons_of_mem _ (List.mem_cons_of_mem _ hp2)) b hb
  · intro p hp b hb
    rcases List.mem_cons.1 hp with rfl | hp1
    · have : b = b1 := by simpa [eq_comm] using hb
      subst this
      exact h1
    · rcases List.mem_cons.1 hp1 with rfl | hp2
      · have : b = b2 := by simpa [eq_comm] using hb
        subst this
        exact h2
      · obtain ⟨o, ho, hpo⟩ := h.has' (List.mem_cons_of_mem _ (List.mem_cons_of_mem _ hp2)) b hb
        refine ⟨o, ?_, hpo⟩
        rw [hk.block b (Array.getElem?_eq_some_iff.1 ho).1 ?_]
        · exact ho
        · intro hm
          rcases List.mem_cons.1 hm with e | hm
          · exact hd.1 p (List.mem_cons_of_mem _ hp2) b (by rw [e]) hb
          · have e : b = b2 := by simpa using hm
            exact hd.2.1 p hp2 b (by rw [e]) hb
  · rw [List.pairwise_cons, List.pairwise_cons]
    refine ⟨fun p hp => ?_, fun p hp => hd.2.1 p hp, hd.2.2⟩
    rcases List.mem_cons.1 hp with rfl | hp
    · exact hd.1 (some b2, ψ) List.mem_cons_self
    · exact hd.1 p (List.mem_cons_of_mem _ hp)
theorem Hp.adopt2 {W : World} {b1 b2 : Nat} {φ ψ : Obj → Prop} (h1 : ∃ o, W.heap[b1]? = some o ∧ φ o) (h2 : ∃ o, W.heap[b2]? = some o ∧ ψ o) (hne : b1 ≠ b2) : Hp W [b1, b2] W [(some b1, φ), (some b2, ψ)] := by
  obtain ⟨o, ho, hr⟩ := h1
  obtain ⟨o2, ho2, hr2⟩ := h2
  have h3 : Hp W [b1, b2] W [(some b2, ψ)] := (Hp.start (M := [b1, b2]) (w := W)).adopt (b := b2) (o := o2) (by simp) ho2 hr2 (fun i p hi => by simp at hi)
  refine h3.adopt (b := b1) (o := o) (by simp) ho hr (fun i p hi => ?_)
  cases i with
  | zero =>
    simp at hi
    subst hi
    intro e
    simp at e
    exact hne e.symm
  | succ i => simp at hi

theorem WPA_fresh {P : Program} {n : FrK} {c : Code} {QA : Exit → Act → World → Prop} {F : Fr} {w : World} (S : List (Nat × Value)) (hS : FrHas F S) (h : ∀ F0 : Fr, WPA P n c QA (F0.puts S) w) : WPA P n c QA F w := by
  rw [puts_self hS]
  exact h F
/-- what assign owns -/
def asL (mb gb b7 b8 b4 ob lb m c mo co : Nat) (s so : Option Addr) (S : AS) : List Ent :=
  [mapE kStr mb (mF S.1), ownL eS 9 1 (some ⟨gb, 0, none⟩) m S.2, blk b7 1 (frOf [.map (some mb)]) 90, blk b8 1 (frOf [.slice (some ⟨gb, 0, none⟩) m m]) 37, blk b4 1 (frOf [.slice s m c]) 33, blk ob 1 (frOf [.slice so mo co]) 30, blk lb 1 (frOf [.slice s m c]) 33]

theorem WPA_done {P : Program} {n n' : FrK} {y : Code} {QA : Exit → Act → World → Prop} {F : Fr} {w : World} (hr : n'.ro = none) (hr' : n.ro = none) (h : WPA P n y QA F w) : (Exit.then (fun a w => y.wpIn n'.fence 0 P QA a w) QA) .normal (act n F) w := by
  show y.wpIn n'.fence 0 P QA (act n F) w
  rw [FrK.fence_none hr]
  unfold WPA at h
  rw [FrK.fence_none hr'] at h
  exact h

attribute [local irreducible] PV StepF wpl wpd WP Ret
attribute [local irreducible] Fit srt tl fl seenL stO isO trn

theorem p38 (nm : ByteArray) (np : Nat) (l : List En) (ord : List Int) (s sP so : Option Addr) (c cP co : Nat) (w : World) (hso : SlAt w 1 eI so ord) (hl : l.length ≤ 40) (hnp : np ≤ 12) (hlo : ord.length ≤ 9223372036854775806) :
    Ret Tryz.prog 38 [.agg (dB nm 2 sP np cP).toArray, .slice s l.length c, .slice so ord.length co] w (fun v w' => v = .bool (isO l.length ord) ∧ Keeps [] w w') := by
  refine Ret.of_WP Tryz.func38 rfl Tryz.ntmps38 rfl ?_
  have hp := Hp.start (M := []) (w := w)
  (repeat (with_reducible first | apply WP_seq | apply WP_region))
  (apply wls; exact sbox13 hp rfl; rintro _ w1 ⟨bx, rfl, hp⟩)
  skip
  (apply wlp; apply pv_assign; exact fB rfl)
  (repeat (with_reducible first | apply WP_seq | apply WP_region | apply wpl_nil | apply thenQ_n))
  (apply wlp; (apply pf_field <;> exact rfl); exact fP rfl)
  (apply wlp; ((apply pf_load; exact rfl) <;> (first | exact rfl | exact hp.cell 0 rfl rfl)); exact fI rfl)
  (apply wlp; (exact pv_eql rfl rfl); exact bool_eq (b := true) (decide_eq_true (by omega)))
  (apply wlp; apply pv_move; exact fB rfl)
  ((apply wlpT; exact rfl; exact rfl); (apply pv_move); (intros; exact fS rfl))
  ((apply wlpT; exact rfl; exact rfl); (((apply pf_len; exact rfl) <;> exact rfl)); (intros; exact fI rfl))
  (apply wlpT; exact rfl; exact rfl; (exact pv_leq rfl rfl); exact bool_eq (b := true) (decide_eq_true (by omega)))
  (apply wlp; exact pv_andT rfl rfl; exact fB rfl)
  (apply wlp; apply pv_move; exact fB rfl)
  ((apply wlpT; exact rfl; exact rfl); ((apply pf_field <;> exact rfl)); (intros; exact fP rfl))
  ((apply wlpT; exact rfl; exact rfl); (((apply pf_load; exact rfl) <;> (first | exact rfl | exact hp.cell 0 rfl rfl))); (intros; exact fS rfl))
  ((apply wlpT; exact rfl; exact rfl); (((apply pf_len; exact rfl) <;> exact rfl)); (intros; exact fI rfl))
  (apply wlpT; exact rfl; exact rfl; (exact pv_leq rfl rfl); exact bool_eq (b := true) (decide_eq_true (by omega)))
  (apply wlp; exact pv_andT rfl rfl; exact fB rfl)
  (apply wlp; apply pv_move; exact fB rfl)
  ((apply wlpT; exact rfl; exact rfl); (apply pv_move); (intros; exact fS rfl))
  ((apply wlpT; exact rfl; exact rfl); (apply pv_move); (intros; exact fS rfl))
  ((apply wlpT; exact rfl; exact rfl); (((apply pf_len; exact rfl) <;> exact rfl)); (intros; exact fI rfl))
  (apply wlsT; exact rfl; exact rfl; exact st_call rfl ent47 rfl (p47 l.length ord so co _ (hso.keep0 hp.keeps) hlo (by omega)); rintro _ w2 ⟨rfl, hk⟩; have hp := hp.call hk)
  (apply wlp; exact pv_andT rfl rfl; exact fB rfl)
  (repeat (first | (with_reducible first | apply wpl_nil | apply thenQ_n | apply WP_ret) | (apply wlp; apply pv_assign; exact fB rfl)))
  exact ret_tmp rfl rfl ⟨_, rfl, rfl, hp.keeps⟩
theorem p39 (nm : ByteArray) (ps : List (ByteArray × Int)) (l : List En) (ord : List Int) (s sP so : Option Addr) (c cP co : Nat) (w : World) (hE : EAt w s l) (hP : SlAt w 2 eP sP ps) (hso : SlAt w 1 eI so ord) (h20 : l.length < 20) (hps : ps.length ≤ 1000) (hpm : ∀ p ∈ ps, p.2 ≤ 9223372036854775807) (hO : isO l.length ord = true) (hson : so = none → ord = []) :
    Ret Tryz.prog 39 [.agg (dB nm 2 sP ps.length cP).toArray, .slice s l.length c, .slice so ord.length co] w (fun v w' => ∃ gb, v = .slice (some ⟨gb, 0, none⟩) l.length l.length ∧ SVL (some ⟨gb, 0, none⟩) l.length (asg l ps ord) ∧ Hp w [] w' [ownL eS 9 1 (some ⟨gb, 0, none⟩) l.length (asg l ps ord)]) := by
  have hsw : l ≠ [] → ∀ b o, s = some ⟨b, o, none⟩ → b < w.heap.size := fun h b o e => hE.at_.lt (fun _ => rfl) (by decide) h e
  refine Ret.of_marks Tryz.func39 rfl Tryz.ntmps39 rfl ?_
  have hp := Hp.start (M := []) (w := w)
  refine WPA_seq ?_
  (repeat with_reducible apply WP_region)
  (apply wls; exact sbox13 hp rfl; rintro _ w1 ⟨b3, rfl, hp⟩)
  (apply wls; exact sbox1 hp rfl rfl; rintro _ w2 ⟨b4, rfl, hp⟩)
  (repeat (first | (with_reducible first | apply wpl_nil | apply thenQ_n) | (apply wlp; apply pv_assign; exact fS rfl)))
  refine WPA_seq ?_
  (repeat (first | with_reducible apply WP_region | (apply wlp; ((apply pf_loadb; exact rfl) <;> (first | exact rfl | exact hp.agg_blk 1 rfl rfl)); exact fA13 rfl)))
  (apply wls; exact st_call rfl ent55 rfl (p55 nm 2 ps sP cP _ (hP.keep0 hp.keeps) (by omega)); rintro _ w3 ⟨mb, rfl, hpo⟩; have hp := hp.join hpo; clear hpo)
  (apply wls; exact salloc1 hp (zeroTy_ok rfl) rfl; rintro _ w4 ⟨b7, rfl, hp⟩)
  (apply wls0; exact sstore1 hp 0 rfl rfl rfl rfl (sizeTy_ok rfl) rfl; rintro _ w5 ⟨rfl, hp⟩)
  have hp := hp.norm 0 [.map (some mb)] rfl rfl
  (repeat (with_reducible first | apply wpl_nil | apply thenQ_n))
  refine WPA_seq ?_
  (repeat (first | with_reducible apply WP_region | (apply wlp; ((first | (apply pf_load; exact rfl) | (apply pf_len; exact rfl)) <;> (first | exact rfl | exact hp.cell 2 rfl rfl)); (first | exact fI rfl | exact fS rfl))))
  (apply wls; exact sf_make eS noN hp rfl rfl rfl rfl rfl rfl rfl (by omega) rfl; rintro _ w6 ⟨gb, rfl, hvg, hp⟩)
  (apply wls; exact salloc1 hp (zeroTy_ok rfl) rfl; rintro _ w7 ⟨b8, rfl, hp⟩)
  (apply wls0; exact sstore1 hp 0 rfl rfl rfl rfl (sizeTy_ok rfl) rfl; rintro _ w8 ⟨rfl, hp⟩)
  have hp := hp.norm 0 [.slice (some ⟨gb, 0, none⟩) l.length l.length] rfl rfl
  (repeat (with_reducible first | apply wpl_nil | apply thenQ_n))
  refine WPA_seq2 ?_
  (repeat (first | with_reducible apply WP_region | (apply wlp; ((first | apply pv_move | (apply pf_load; exact rfl)) <;> (first | exact rfl | exact hp.cell 4 rfl rfl)); exact fS rfl)))
  (apply wls; exact st_call rfl ent54 rfl (p54 s so l.length c ord.length co _); rintro _ w9 ⟨lb, ob, rfl, hpo⟩; have hp := hp.join hpo; clear hpo)
  have hlen : ∀ t : List Int, (t.foldl (stepA l) (asg0 l ps)).2.length = l.length := fun t => by rw [foldA_len]; simp [asg0]
  have hp : Hp w [] w9 (asL mb gb b7 b8 b4 ob lb l.length c ord.length co s so (asg0 l ps)) := hp.picks [5, 3, 4, 2, 6, 0, 1] _ rfl rfl
  have hnew : ∀ (i : Nat) (b : Nat) (φ : Obj → Prop), (asL mb gb b7 b8 b4 ob lb l.length c ord.length co s so (asg0 l ps))[i]? = some (some b, φ) → w.heap.size ≤ b ∧ b < w9.heap.size := by
    intro i b φ hi
    refine ⟨?_, hp.lt hi rfl⟩
    rcases hp.own i _ hi b rfl with h | h
    · exact h
    · cases h
  have hmw := hnew 0 mb _ rfl
  have hgw := hnew 1 gb _ rfl
  have h7w := hnew 2 b7 _ rfl
  have h8w := hnew 3 b8 _ rfl
  have h4w := hnew 4 b4 _ rfl
  have how := hnew 5 ob _ rfl
  have hlw := hnew 6 lb _ rfl
  have hmg : mb ≠ gb := by rintro rfl; exact hp.dis 0 1 _ _ rfl rfl (by decide) mb rfl rfl
  have hn7 : b7 ∉ [mb, gb] := by
    intro hm
    rcases List.mem_cons.1 hm with e | hm
    · exact hp.dis 2 0 _ _ rfl rfl (by decide) b7 rfl (by rw [e]; rfl)
    · have e : b7 = gb := by simpa using hm
      exact hp.dis 2 1 _ _ rfl rfl (by decide) b7 rfl (by rw [e]; rfl)
  have hn8 : b8 ∉ [mb, gb] := by
    intro hm
    rcases List.mem_cons.1 hm with e | hm
    · exact hp.dis 3 0 _ _ rfl rfl (by decide) b8 rfl (by rw [e]; rfl)
    · have e : b8 = gb := by simpa using hm
      exact hp.dis 3 1 _ _ rfl rfl (by decide) b8 rfl (by rw [e]; rfl)
  have hn4 : b4 ∉ [mb, gb] := by
    intro hm
    rcases List.mem_cons.1 hm with e | hm
    · exact hp.dis 4 0 _ _ rfl rfl (by decide) b4 rfl (by rw [e]; rfl)
    · have e : b4 = gb := by simpa using hm
      exact hp.dis 4 1 _ _ rfl rfl (by decide) b4 rfl (by rw [e]; rfl)
  have hnl : lb ∉ [mb, gb] := by
    intro hm
    rcases List.mem_cons.1 hm with e | hm
    · exact hp.dis 6 0 _ _ rfl rfl (by decide) lb rfl (by rw [e]; rfl)
    · have e : lb = gb := by simpa using hm
      exact hp.dis 6 1 _ _ rfl rfl (by decide) lb rfl (by rw [e]; rfl)
  (repeat (with_reducible first | apply wpl_nil | apply thenQ_n))
  refine WPA_fresh [(4, .pointer (some ⟨b4, 0, none⟩)), (7, .pointer (some ⟨b7, 0, none⟩)), (8, .pointer (some ⟨b8, 0, none⟩)), (19, .func (.func 84) #[] #[.pointer (some ⟨ob, 0, none⟩), .pointer (some ⟨lb, 0, none⟩)])] ⟨rfl, rfl, rfl, rfl, trivial⟩ ?_
  intro F0
  refine WPA_range (gf := 84) (lb := [.pointer (some ⟨ob, 0, none⟩), .pointer (some ⟨lb, 0, none⟩)]) rfl ent84 (fun x : Int => Value.int .i64 x) (trn l ord) [mb, gb] ?_ (fun pre W => Hp w [] W (asL mb gb b7 b8 b4 ob lb l.length c ord.length co s so (pre.foldl (stepA l) (asg0 l ps)))) ?_ hp ?_
    (fun x => ((F0.puts [(4, .pointer (some ⟨b4, 0, none⟩)), (7, .pointer (some ⟨b7, 0, none⟩)), (8, .pointer (some ⟨b8, 0, none⟩)), (19, .func (.func 84) #[] #[.pointer (some ⟨ob, 0, none⟩), .pointer (some ⟨lb, 0, none⟩)])]).put 20 (.int .i64 x)).put 9 (.int .i64 x)) ?_ ?_ ?_
  · intro k hk
    rcases List.mem_cons.1 hk with e | hk
    · omega
    · have e : k = gb := by simpa using hk
      omega
  · intro pre W W' h hpr
    refine h.priv hpr hp.keeps.size ?_
    intro p hpm b hb
    simp only [asL, List.mem_cons, List.mem_nil_iff, or_false] at hpm
    rcases hpm with rfl | rfl | rfl | rfl | rfl | rfl | rfl
    · have : (some mb : Option Nat) = some b := hb
      cases this; omega
    · have : (some gb : Option Nat) = some b := hb
      cases this; omega
    · have : (some b7 : Option Nat) = some b := hb
      cases this; omega
    · have : (some b8 : Option Nat) = some b := hb
      cases this; omega
    · have : (some b4 : Option Nat) = some b := hb
      cases this; omega
    · have : (some ob : Option Nat) = some b := hb
      cases this; omega
    · have : (some lb : Option Nat) = some b := hb
      cases this; omega
  · intro W1 hk hsz
    have hk1 : Keeps [] w W1 := hp.keeps.trans hk (by simp)
    refine p84 l ord s so c co lb ob [mb, gb] W1 (hk.cell (hp.cell 6 rfl rfl) (by simp)) (hk.cell (hp.cell 5 rfl rfl) (by simp)) (hE.at_.keep0 hk1) (hso.keep0 hk1) hO h20 hson hnl ?_ ?_
    · intro h b o e
      have := hsw h b o e
      simp
      omega
    · intro k hk2
      rcases List.mem_cons.1 hk2 with e | hk2
      · omega
      · have e : k = gb := by simpa using hk2
        omega
  · intro ll x W
    (repeat (first | (with_reducible first | apply WP_region | apply wpl_nil) | (apply wlp; apply pv_assign; exact fI rfl)))
    exact ⟨rfl, rfl, rfl⟩
  · rintro ll pre x W ⟨suf, hsuf⟩ hpI
    have hxm : x ∈ ord := (trn_perm l (isO_facts hO).2.2).mem_iff.1 (by rw [hsuf]; simp)
    obtain ⟨hx0, hx1⟩ := (isO_facts hO).2.1 x hxm
    obtain ⟨k, rfl⟩ : ∃ k : Nat, x = k := ⟨x.toNat, by omega⟩
    have hkl : k < l.length := by omega
    have hfold : (pre ++ [(k : Int)]).foldl (stepA l) (asg0 l ps) = stepA l (pre.foldl (stepA l) (asg0 l ps)) k := by
      rw [List.foldl_append]
      rfl
    rw [hfold]
    have hSl := hlen pre
    have hSm : ∀ a, ((pre.foldl (stepA l) (asg0 l ps)).1 a).getD 0 ≤ 9223372036854775807 := fun a => Int.le_trans (foldA_le l a pre _) (stO_le hpm (by decide) a)
    generalize pre.foldl (stepA l) (asg0 l ps) = S at hpI hSl hSm
    have hwsh : wsh l (k : Int) = l[k].wl := by
      unfold wsh
      rw [Int.toNat_natCast, List.getElem?_eq_getElem hkl]
      rfl
    obtain ⟨bE, oE, hsE, hcE⟩ := hE.at_.base (by omega)
    have hcn := hcE k _ (List.getElem?_eq_getElem hkl)
    have hws := hE.ws l[k] (List.getElem_mem hkl)
    have hwl := hE.len l[k] (List.getElem_mem hkl)
    generalize l[k] = e at hcn hws hwl hwsh
    have hbE := hsw (by rintro rfl; simp at hkl) bE oE hsE
    have hbEn : bE ∉ [mb, gb] := by simp; omega
    have c4 : W.cell? ⟨b4, 0, none⟩ = some (.slice s l.length c) := hpI.cell 4 rfl rfl
    have c7 : W.cell? ⟨b7, 0, none⟩ = some (.map (some mb)) := hpI.cell 2 rfl rfl
    have c8 : W.cell? ⟨b8, 0, none⟩ = some (.slice (some ⟨gb, 0, none⟩) l.length l.length) := hpI.cell 3 rfl rfl
    have cws : W.cell? ⟨bE, oE + k * 6 + 4, none⟩ = some (.slice e.ws e.wl.length e.wc) := hpI.old0 (hcn 4 _ rfl)
    have hwsn : e.wl ≠ [] → ∀ b o, e.ws = some ⟨b, o, none⟩ → b ∉ [mb, gb] := fun h b o q => by
      have := hws.lt (fun _ => rfl) (by decide) h q
      simp
      omega
    have hws := hws.keep0 hpI.keeps
    have hvS : SVL (some ⟨gb, 0, none⟩) l.length S.2 := .inr ⟨gb, l.length, by rw [hSl], by rw [hSl]; exact Nat.le_refl _, by unfold maxLen; omega⟩
    have hks : k < S.2.length := by omega
    have hp := Hp.adopt2 (hpI.has 0 _ rfl mb rfl) (hpI.has 1 _ rfl gb rfl) hmg
    (repeat (first | (with_reducible first | apply WP_seq | apply WP_block | apply WP_region | apply wpl_nil | apply thenQ_n) | (apply wlp; ((first | apply pv_move | apply pf_field | (apply pf_load; exact rfl) | (apply pf_len; exact rfl) | (apply pf_index; exact rfl)) <;> (first | exact rfl | assumption)); (first | exact fI rfl | exact fP rfl | exact fS rfl))))
    refine WP_loopS [11, 27, 28, 29, 30, 31, 32, 33, 34, 35, 36, 37, 38, 39, 40, 41, 42, 43] (fun (j : Nat) F => F.put 27 (.int .i64 (j : Int))) (fun j w' => j ≤ e.wl.length ∧ (∀ y ∈ e.wl.take j, avl S.1 y = false) ∧ Hp W [mb, gb] w' [mapE kStr mb (mF S.1), ownL eS 9 1 (some ⟨gb, 0, none⟩) l.length S.2]) (fun j => e.wl.length - j) 0 (put_self (Same.eq .refl) rfl) ⟨Nat.zero_le _, by simp, hp⟩ ?_
    (repeat clear hp)
    rintro u j w10 ⟨hj, hno, hp⟩
    (repeat (first | (with_reducible first | apply WP_seq | apply WP_region | apply wpl_nil | apply thenQ_n) | (apply wlp; (apply pv_lss <;> exact rfl); exact fB rfl)))
    refine WP_cond_d rfl (fun h => ?_) (fun h => ?_)
    · have hlt : j < e.wl.length := by omega
      obtain ⟨b1, o1, hs1, hc1⟩ := hws.base (by omega)
      have hcj := hc1 j _ (List.getElem?_eq_getElem hlt) 0 _ rfl
      have hb1n := hwsn (by intro h0; rw [h0] at hlt; simp at hlt) b1 o1 hs1
      have htk := List.take_succ_eq_append_getElem hlt
      have hfa := fun hf => find_at (f := avl S.1) hlt hno hf
      generalize e.wl[j] = a at hcj htk hfa
      have hcj : W.cell? ⟨b1, o1 + j * 1, none⟩ = some (.string a) := hcj
      have hSa := hSm a
      (repeat (first | (with_reducible first | apply WP_seq | apply WP_block | apply WP_region | apply thenQ_n | apply WP_skip) | (apply wlp; ((first | (apply pf_load; exact rfl) | (apply pf_index; exact rfl)) <;> (first | exact rfl | assumption)); exact fP rfl)))
      (apply wlp; exact pf_load rfl rfl (hp.old hcj hb1n); exact fT rfl)
      (repeat (first | (with_reducible first | apply WP_seq | apply WP_region | apply wpl_nil | apply thenQ_n) | (apply wlp; ((first | apply pv_assign | (apply pf_load; exact rfl)) <;> exact rfl); exact fT rfl)))
      (apply wlp; exact pf_load rfl rfl (hp.old c7 hn7); exact fM rfl)
      (repeat (apply wlp; apply pv_move; exact fT rfl))
      (apply wlp; exact pv_lookup (K := kStr) (a := a) hp 0 rfl rfl rfl mp90.1 mp90.2.1 mp90.2.2; exact mF_look _ _)
      (repeat (first | (with_reducible first | apply wpl_nil | apply thenQ_n) | (apply wlp; (apply pv_gtr <;> exact rfl); exact fB rfl)))
      refine WP_cond_d rfl (fun h2 => ?_) (fun h2 => ?_)
      · have hst := stepA_some (l := l) (S := S) (k := (k : Int)) (w := a) (by rw [hwsh]; exact hfa (decide_eq_true h2))
        (repeat (first | (with_reducible first | apply WP_seq | apply WP_region) | (apply wlp; ((apply pf_load; exact rfl) <;> exact rfl); skip)))
        (apply wlp; exact pf_load rfl rfl (hp.old c7 hn7); exact fM rfl)
        (repeat (apply wlp; apply pv_move; exact fT rfl))
        (apply wlp; exact pv_lookup (K := kStr) (a := a) hp 0 rfl rfl rfl mp90.1 mp90.2.1 mp90.2.2; exact mF_look _ _)
        (apply wlp; exact pv_sub rfl rfl; exact int_eq (i64_in (by omega) (by omega)))
        skip
        (apply wls0; exact st_mapput (K := kStr) (a := a) (v := .int .i64 ((S.1 a).getD 0 - 1)) hp 0 rfl rfl rfl rfl mp90.1 mp90.2.1; rintro _ w11 ⟨rfl, hp⟩)
        have hp : Hp W [mb, gb] w11 [mapE kStr mb (fun y => if y = a then some (.int .i64 ((S.1 a).getD 0 - 1)) else mF S.1 y), ownL eS 9 1 (some ⟨gb, 0, none⟩) l.length S.2] := hp
        rw [mF_put] at hp
        (repeat (first | (with_reducible first | apply WP_seq | apply WP_region | apply wpl_nil | apply thenQ_n) | (apply wlp; ((apply pf_load; exact rfl) <;> exact rfl); skip)))
        (apply wlp; exact pf_load rfl rfl (hp.old c8 hn8); exact fS rfl)
        (repeat (apply wlp; ((first | apply pv_move | (apply pf_index; exact rfl)) <;> (first | exact rfl | assumption)); (first | exact fI rfl | exact fP rfl | exact fT rfl)))
        (apply wls0; exact st_setL eS _ k a hp 1 rfl hvS hks rfl rfl (fun _ => rfl) rfl rfl (sizeTy_ok rfl); rintro _ w12 ⟨rfl, hp⟩)
        (repeat (first | (with_reducible first | apply wpl_nil | apply thenQ_n | apply inBlk_n | apply thenQ_exit | apply WP_exit) | ((with_reducible apply inBlk_same); exact rfl) | ((with_reducible apply inBlk_other); exact rfl)))
        rw [hst]
        exact ⟨rfl, Hp.upd2 hpI hp.keeps (hp.has 0 _ rfl mb rfl) (hp.has 1 _ rfl gb rfl), hp.keeps⟩
      · (repeat (with_reducible first | apply WP_region | apply thenQ_n | apply inBlk_n | apply WP_skip))
        (apply wlp; (exact pv_add rfl rfl); exact int_eq (b := ((j + 1 : Nat) : Int)) (by rw [i64_in (by omega) (by omega)]; omega))
        (repeat (first | (with_reducible first | apply wpl_nil | apply thenQ_n) | (apply wlp; apply pv_move; exact fI rfl)))
        refine ⟨j + 1, put_self (Same.eq (by repeat (first | exact Same.hav | exact Same.refl | refine Same.put rfl ?_ | refine Same.havs rfl ?_))) rfl, ⟨by omega, ?_, hp⟩, by omega⟩
        intro y hy
        rw [htk] at hy
        rcases List.mem_append.1 hy with hy | hy
        · exact hno y hy
        · rw [List.mem_singleton.1 hy]
          exact decide_eq_false h2
    · have hf : (wsh l (k : Int)).find? (avl S.1) = none := by
        rw [hwsh]
        refine find_none ?_
        rwa [List.take_of_length_le (by omega)] at hno
      (repeat (first | (with_reducible first | apply inBlk_n | apply thenQ_exit | apply WP_exit) | ((with_reducible apply inBlk_same); exact rfl)))
      rw [stepA_none hf]
      exact ⟨rfl, Hp.upd2 hpI hp.keeps (hp.has 0 _ rfl mb rfl) (hp.has 1 _ rfl gb rfl), hp.keeps⟩
  · intro D W hD hpI hD2
    have hpp : Hp w [] (W.putObj D (.deferred none)) [ownL eS 9 1 (some ⟨gb, 0, none⟩) l.length (asg l ps ord)] := by
      refine Hp.priv (B := w9.heap.size) (hpI.pick 1 rfl) (Priv.put W _ hD) hp.keeps.size ?_
      intro p hpm b hb
      rw [List.mem_singleton.1 hpm] at hb
      have : (some gb : Option Nat) = some b := hb
      cases this
      exact hgw.2
    have hal : (asg l ps ord).length = l.length := hlen _
    have hva : SVL (some ⟨gb, 0, none⟩) l.length (asg l ps ord) := .inr ⟨gb, l.length, by rw [hal], by rw [hal]; exact Nat.le_refl _, by unfold maxLen; omega⟩
    refine WPA_done rfl rfl (WPA_of ?_)
    have hp := hpI
    (repeat (first | (with_reducible first | apply WP_seq | apply WP_region | apply wpl_nil | apply thenQ_n | apply WP_ret) | (apply wlp; ((first | apply pv_assign | (apply pf_load; exact rfl)) <;> (first | exact rfl | exact hp.cell 3 rfl rfl)); exact fS rfl)))
    exact ret_mark rfl rfl rfl hD2 ⟨_, rfl, gb, rfl, hva, hpp⟩
end Go.Proofs.YtfjbioghpgmkiaaGreatDoor
/- places: the list of places that is given out is stable, and no other one is; plain. -/
namespace Go.Proofs.YtfjbioghpgmkiaaGreatDoor
open Go.Eng Go.Dig

theorem rev_ind {α : Type} {motive : List α → Prop} (nil : motive []) (append_singleton : ∀ (l : List α) (a : α), motive l → motive (l ++ [a])) (l : List α) : motive l := by
  have h : ∀ r : List α, motive r.reverse := by
    intro r
    induction r with
    | nil => exact nil
    | cons a r ih =>
      rw [List.reverse_cons]
      exact append_singleton _ _ ih
  have := h l.reverse
  rwa [List.reverse_reverse] at this
theorem perm_of_sub {α : Type} [BEq α] [LawfulBEq α] : ∀ {a b : List α}, a.Nodup → (∀ x ∈ a, x ∈ b) → b.length ≤ a.length → a.Perm b
  | [], b, _, _, hl => by
    rw [List.eq_nil_of_length_eq_zero (Nat.le_zero.1 hl)]
  | x :: a, b, hn, hs, hl => by
    obtain ⟨hx, hn⟩ := List.nodup_cons.1 hn
    have hxb := hs x List.mem_cons_self
    have hp := List.perm_cons_erase hxb
    refine (List.Perm.cons x (perm_of_sub hn (fun y hy => ?_) ?_)).trans hp.symm
    · have hne : y ≠ x := by rintro rfl; exact hx hy
      exact (List.mem_erase_of_ne hne).2 (hs y (List.mem_cons_of_mem _ hy))
    · have := hp.length_eq
      rw [List.length_cons] at this hl
      omega
abbrev gA (l : List En) (ps : List (ByteArray × Int)) (A : List Int) : AS := A.foldl (stepA l) (asg0 l ps)
theorem gA_snoc (l : List En) (ps : List (ByteArray × Int)) (A : List Int) (k : Int) : gA l ps (A ++ [k]) = stepA l (gA l ps A) k := by
  unfold gA
  rw [List.foldl_append]
  rfl
def xa (x : List ByteArray) (k : Int) : ByteArray := (x[k.toNat]?).getD noN
def cA (x : List ByteArray) (A : List Int) (w : ByteArray) : Nat := A.countP fun j => decide (xa x j = w)
def cS (x : List ByteArray) (w : ByteArray) : Nat := x.countP fun y => decide (y = w)
theorem xa_set {x : List ByteArray} {k j : Int} {w : ByteArray} (hk : 0 ≤ k) (hkl : k < x.length) (hj : 0 ≤ j) : xa (x.set k.toNat w) j = if j = k then w else xa x j := by
  unfold xa
  rw [List.getElem?_set]
  by_cases h : j = k
  · subst h
    rw [if_pos rfl, if_pos rfl, if_pos (by omega)]
    rfl
  · rw [if_neg h, if_neg (by omega)]
theorem cA_snoc (x : List ByteArray) (A : List Int) (k : Int) (w : ByteArray) : cA x (A ++ [k]) w = cA x A w + if xa x k = w then 1 else 0 := by
  unfold cA
  rw [List.countP_append, List.countP_cons, List.countP_nil]
  by_cases h : xa x k = w <;> simp [h]
theorem cA_congr {x y : List ByteArray} {A : List Int} (w : ByteArray) (h : ∀ j ∈ A, xa x j = xa y j) : cA x A w = cA y A w := by
  unfold cA
  apply List.countP_congr
  intro j hj
  rw [h j hj]
structure InvA (l : List En) (ps : List (ByteArray × Int)) (A : List Int) (S : AS) : Prop where
  len : S.2.length = l.length
  out : ∀ k, 0 ≤ k → k ∉ A → xa S.2 k = noN
  none : (S.1 noN).getD 0 = 0
  cnt : ∀ w, w ≠ noN → (S.1 w).getD 0 = (stO ps w).getD 0 - (cA S.2 A w : Int)
  cap : ∀ w, w ≠ noN → (cA S.2 A w : Int) ≤ max ((stO ps w).getD 0) 0
theorem avl_noN {l : List En} {ps : List (ByteArray × Int)} {A : List Int} {S : AS} (h : InvA l ps A S) : avl S.1 noN = false := by
  unfold avl
  rw [h.none]
  rfl
theorem stO_noN (ps : List (ByteArray × Int)) : stO ps noN = none := by
  unfold stO
  rw [if_pos rfl]
theorem InvA.step {l : List En} {ps : List (ByteArray × Int)} {A : List Int} {S : AS} (h : InvA l ps A S) {k : Int} (hk : 0 ≤ k) (hkl : k < l.length) (hkA : k ∉ A) (hA : ∀ j ∈ A, 0 ≤ j) : InvA l ps (A ++ [k]) (stepA l S k) := by
  cases hf : (wsh l k).find? (avl S.1) with
  | none =>
    rw [stepA_none hf]
    have hx := h.out k hk hkA
    refine ⟨h.len, fun j hj hjA => h.out j hj (fun hm => hjA (List.mem_append_left _ hm)), h.none, fun w hw => ?_, fun w hw => ?_⟩
    · rw [cA_snoc, hx, if_neg (fun e => hw e.symm)]
      exact h.cnt w hw
    · rw [cA_snoc, hx, if_neg (fun e => hw e.symm)]
      exact h.cap w hw
  | some w0 =>
    rw [stepA_some hf]
    have ha := List.find?_some hf
    have hw0 : w0 ≠ noN := by
      rintro rfl
      rw [avl_noN h] at ha
      cases ha
    have ha : 0 < (S.1 w0).getD 0 := by
      unfold avl at ha
      simpa using ha
    have hset : ∀ j, 0 ≤ j → xa (S.2.set k.toNat w0) j = if j = k then w0 else xa S.2 j := fun j hj => xa_set hk (by rw [h.len]; exact hkl) hj
    have hcA : ∀ w, cA (S.2.set k.toNat w0) (A ++ [k]) w = cA S.2 A w + if w0 = w then 1 else 0 := by
      intro w
      rw [cA_snoc, hset k hk, if_pos rfl]
      congr 1
      apply cA_congr
      intro j hj
      rw [hset j (hA j hj), if_neg (fun (e : j = k) => hkA (e ▸ hj))]
    refine ⟨by simpa using h.len, fun j hj hjA => ?_, ?_, fun w hw => ?_, fun w hw => ?_⟩
    · show xa (S.2.set k.toNat w0) j = noN
      rw [hset j hj, if_neg (fun e => hjA (by rw [e]; simp))]
      exact h.out j hj (fun hm => hjA (List.mem_append_left _ hm))
    · show (if noN = w0 then some ((S.1 w0).getD 0 - 1) else S.1 noN).getD 0 = 0
      rw [if_neg (fun e => hw0 e.symm)]
      exact h.none
    · show (if w = w0 then some ((S.1 w0).getD 0 - 1) else S.1 w).getD 0 = _
      rw [hcA w]
      by_cases e : w = w0
      · subst e
        rw [if_pos rfl, if_pos rfl]
        have := h.cnt w hw
        simp only [Option.getD_some]
        omega
      · rw [if_neg e, if_neg (fun e2 => e e2.symm)]
        exact h.cnt w hw
    · show ((cA (S.2.set k.toNat w0) (A ++ [k]) w : Nat) : Int) ≤ _
      rw [hcA w]
      by_cases e : w = w0
      · subst e
        rw [if_pos rfl]
        have := h.cnt w hw
        omega
      · rw [if_neg (fun e2 => e e2.symm)]
        exact h.cap w hw
theorem InvA.start (l : List En) (ps : List (ByteArray × Int)) : InvA l ps [] (asg0 l ps) := by
  refine ⟨by simp [asg0], fun k hk _ => ?_, ?_, fun w hw => ?_, fun w hw => ?_⟩
  · unfold xa asg0
    rw [List.getElem?_replicate]
    split <;> rfl
  · show (stO ps noN).getD 0 = 0
    rw [stO_noN]
    rfl
  · show (stO ps w).getD 0 = _ - ((cA _ [] w : Nat) : Int)
    simp [cA]
  · simp [cA]
    omega
theorem gA_inv (l : List En) (ps : List (ByteArray × Int)) : ∀ (A : List Int), A.Nodup → (∀ k ∈ A, 0 ≤ k ∧ k < l.length) → InvA l ps A (gA l ps A) := by
  intro A
  induction A using rev_ind with
  | nil => exact fun _ _ => InvA.start l ps
  | append_singleton A k ih =>
    intro hn hb
    rw [gA_snoc]
    have hn2 := List.nodup_append.1 hn
    have hk := hb k (by simp)
    refine (ih hn2.1 (fun j hj => hb j (List.mem_append_left _ hj))).step hk.1 hk.2 (fun hm => ?_) (fun j hj => (hb j (List.mem_append_left _ hj)).1)
    exact hn2.2.2 _ hm k (by simp) rfl
theorem stepA_other {l : List En} {S : AS} {k j : Int} (hk : 0 ≤ k) (hkl : k < S.2.length) (hj : 0 ≤ j) (hne : j ≠ k) : xa (stepA l S k).2 j = xa S.2 j := by
  cases hf : (wsh l k).find? (avl S.1) with
  | none => rw [stepA_none hf]
  | some w0 =>
    rw [stepA_some hf]
    show xa (S.2.set k.toNat w0) j = _
    rw [xa_set hk hkl hj, if_neg hne]
theorem gA_later (l : List En) (ps : List (ByteArray × Int)) (A : List Int) (j : Int) (hj : 0 ≤ j) : ∀ B : List Int, (∀ k ∈ B, 0 ≤ k ∧ k < l.length ∧ j ≠ k) → xa (gA l ps (A ++ B)).2 j = xa (gA l ps A).2 j := by
  intro B
  induction B using rev_ind with
  | nil => intro _; rw [List.append_nil]
  | append_singleton B k ih =>
    intro h
    have hk := h k (by simp)
    rw [← List.append_assoc, gA_snoc, stepA_other hk.1 (by rw [foldA_len]; simpa [asg0] using hk.2.1) hj hk.2.2]
    exact ih fun m hm => h m (List.mem_append_left _ hm)

def bef (ws : List ByteArray) (p : ByteArray) : List ByteArray := if p = noN then ws else ws.takeWhile fun y => !decide (y = p)
structure Stb (l : List En) (ps : List (ByteArray × Int)) (T : List Int) (x : List ByteArray) : Prop where
  mem : ∀ k ∈ T, xa x k ≠ noN → xa x k ∈ wsh l k
  cap : ∀ w, w ≠ noN → (cS x w : Int) ≤ max ((stO ps w).getD 0) 0
  bet : ∀ (A : List Int) (k : Int) (B : List Int), T = A ++ k :: B → ∀ w ∈ bef (wsh l k) (xa x k), (stO ps w).isSome = true → (cS x w : Int) = max ((stO ps w).getD 0) 0 ∧ ∀ j ∈ B, xa x j ≠ w

/-- T lists the numbers below n, each once -/
structure Ord (n : Nat) (T : List Int) : Prop where
  nd : T.Nodup
  bd : ∀ k ∈ T, 0 ≤ k ∧ k < n
  len : T.length = n
theorem Ord.of {n : Nat} {T : List Int} (h : isO n T = true) : Ord n T := ⟨(isO_facts h).2.2, (isO_facts h).2.1, (isO_facts h).1⟩
theorem Ord.trn {l : List En} {ord : List Int} (h : Ord l.length ord) : Ord l.length (trn l ord) :=
  have hp := trn_perm l h.nd
  ⟨hp.nodup_iff.2 h.nd, fun k hk => h.bd k (hp.mem_iff.1 hk), hp.length_eq.trans h.len⟩
theorem Ord.mem_rg {n : Nat} {k : Int} (h0 : 0 ≤ k) (h1 : k < n) : k ∈ (List.range n).map Int.ofNat := by
  rw [List.mem_map]
  exact ⟨k.toNat, List.mem_range.2 (by omega), Int.toNat_of_nonneg h0⟩
theorem Ord.perm {n : Nat} {T : List Int} (h : Ord n T) : T.Perm ((List.range n).map Int.ofNat) :=
  perm_of_sub h.nd (fun k hk => Ord.mem_rg (h.bd k hk).1 (h.bd k hk).2) (by rw [List.length_map, List.length_range, h.len]; exact Nat.le_refl _)
theorem Ord.all {n : Nat} {T : List Int} (h : Ord n T) (k : Int) (h0 : 0 ≤ k) (h1 : k < n) : k ∈ T := by
  rw [h.perm.mem_iff]
  exact Ord.mem_rg h0 h1
theorem Ord.count {n : Nat} {T : List Int} (h : Ord n T) {x : List ByteArray} (hx : x.length = n) (w : ByteArray) : cA x T w = cS x w := by
  unfold cA cS
  rw [h.perm.countP_eq, List.countP_map]
  subst hx
  have e : x = (List.range x.length).map fun i => xa x (Int.ofNat i) := by
    apply List.ext_getElem
    · simp
    · intro i h1 h2
      simp [xa, h1]
  conv => rhs; rw [e, List.countP_map]
  rfl
theorem cA_split (x : List ByteArray) (A B : List Int) (k : Int) (w : ByteArray) : cA x (A ++ k :: B) w = cA x A w + (if xa x k = w then 1 else 0) + cA x B w := by
  unfold cA
  rw [List.countP_append, List.countP_cons]
  by_cases h : xa x k = w <;> simp [h] <;> omega
theorem tw_mem {α : Type} {p : α → Bool} {x : α} : ∀ {l : List α}, x ∈ l.takeWhile p → p x = true
  | a :: l, h => by
    rw [List.takeWhile_cons] at h
    split at h
    · rename_i ha
      rcases List.mem_cons.1 h with rfl | h
      · exact ha
      · exact tw_mem h
    · cases h
theorem mem_bef {ws : List ByteArray} {p w : ByteArray} (h : w ∈ bef ws p) : w ∈ ws ∧ (p ≠ noN → w ≠ p) := by
  unfold bef at h
  by_cases hp : p = noN
  · rw [if_pos hp] at h
    exact ⟨h, fun e => absurd hp e⟩
  · rw [if_neg hp] at h
    exact ⟨(List.takeWhile_sublist _).subset h, fun _ => by simpa using tw_mem h⟩
theorem find_bef {f : ByteArray → Bool} {p : ByteArray} (hp : p ≠ noN) : ∀ {ws : List ByteArray}, p ∈ ws → (∀ w ∈ bef ws p, f w = false) → f p = true → ws.find? f = some p := by
  intro ws
  unfold bef
  rw [if_neg hp]
  induction ws with
  | nil => intro h; cases h
  | cons a r ih =>
    intro hm hb hf
    by_cases e : a = p
    · subst e
      rw [List.find?_cons, hf]
    · rw [List.find?_cons, hb a (by rw [List.takeWhile_cons, if_pos (by simp [e])]; exact List.mem_cons_self)]
      refine ih ?_ ?_ hf
      · rcases List.mem_cons.1 hm with h | h
        · exact absurd h.symm e
        · exact h
      · intro w hw
        refine hb w ?_
        rw [List.takeWhile_cons, if_pos (by simp [e])]
        exact List.mem_cons_of_mem _ hw
theorem bef_find {f : ByteArray → Bool} {p : ByteArray} (hp : p ≠ noN) : ∀ {ws : List ByteArray}, ws.find? f = some p → ∀ w ∈ bef ws p, f w = false := by
  intro ws
  unfold bef
  rw [if_neg hp]
  induction ws with
  | nil => intro h; cases h
  | cons a r ih =>
    intro hf w hw
    rw [List.find?_cons] at hf
    cases hfa : f a with
    | true =>
      rw [hfa] at hf
      have : a = p := by simpa using hf
      rw [List.takeWhile_cons, if_neg (by simp [this])] at hw
      cases hw
    | false =>
      rw [hfa] at hf
      by_cases e : a = p
      · rw [List.takeWhile_cons, if_neg (by simp [e])] at hw
        cases hw
      · rw [List.takeWhile_cons, if_pos (by simp [e])] at hw
        rcases List.mem_cons.1 hw with h | h
        · rw [h]; exact hfa
        · exact ih hf w h

theorem stb_unique {l : List En} {ps : List (ByteArray × Int)} {T : List Int} {x : List ByteArray} (hT : Ord l.length T) (hx : x.length = l.length) (h : Stb l ps T x) :
    ∀ A B, T = A ++ B → ∀ k ∈ A, xa (gA l ps A).2 k = xa x k := by
  intro A
  induction A using rev_ind with
  | nil => intro B _ k hk; cases hk
  | append_singleton A k ih =>
    intro B hTe j hj
    have hTe : T = A ++ k :: B := by rw [hTe, List.append_assoc]; rfl
    have ih := ih (k :: B) hTe
    have hnd := hT.nd
    rw [hTe, List.nodup_append] at hnd
    have hkA : k ∉ A := fun hm => hnd.2.2 _ hm k (by simp) rfl
    have hbT : ∀ m ∈ A ++ k :: B, 0 ≤ m ∧ m < l.length := fun m hm => hT.bd m (by rw [hTe]; exact hm)
    have hA : ∀ m ∈ A, 0 ≤ m ∧ m < l.length := fun m hm => hbT m (List.mem_append_left _ hm)
    obtain ⟨hk0, hk1⟩ := hbT k (by simp)
    have hI := gA_inv l ps A hnd.1 hA
    rw [gA_snoc]
    rcases List.mem_append.1 hj with hj | hj
    · rw [stepA_other hk0 (by rw [hI.len]; exact hk1) (hA j hj).1 (fun e => hkA (e ▸ hj))]
      exact ih j hj
    · have hj : j = k := by simpa using hj
      subst hj
      have hcA : ∀ w, cA (gA l ps A).2 A w = cA x A w := fun w => cA_congr w ih
      have hsp : ∀ w, cS x w = cA x A w + (if xa x j = w then 1 else 0) + cA x B w := fun w => by rw [← hT.count hx, hTe, cA_split]
      have hno : ∀ w ∈ bef (wsh l j) (xa x j), avl (gA l ps A).1 w = false := by
        intro w hw
        unfold avl
        by_cases hwn : w = noN
        · rw [hwn, hI.none]
          rfl
        have hc := hI.cnt w hwn
        rw [hcA] at hc
        cases hso : stO ps w with
        | none =>
          rw [hso] at hc
          simp only [Option.getD_none] at hc
          exact decide_eq_false (by omega)
        | some v =>
          obtain ⟨hb1, hb2⟩ := h.bet A j B hTe w hw (by rw [hso]; rfl)
          have hB0 : cA x B w = 0 := by
            unfold cA
            rw [List.countP_eq_zero]
            intro m hm
            simpa using hb2 m hm
          have hxw : xa x j ≠ w := by
            intro e
            by_cases hp : xa x j = noN
            · exact hwn (by rw [← e, hp])
            · exact (mem_bef hw).2 hp e.symm
          have := hsp w
          rw [if_neg hxw, hB0] at this
          exact decide_eq_false (by omega)
      by_cases hp : xa x j = noN
      · have hf : (wsh l j).find? (avl (gA l ps A).1) = none := by
          rw [List.find?_eq_none]
          intro w hw
          have := hno w (by unfold bef; rw [if_pos hp]; exact hw)
          rw [this]
          decide
        rw [stepA_none hf, hp]
        exact hI.out j hk0 hkA
      · have hm := h.mem j (by rw [hTe]; simp) hp
        have hav : avl (gA l ps A).1 (xa x j) = true := by
          unfold avl
          have hc := hI.cnt _ hp
          rw [hcA] at hc
          have h1 := h.cap _ hp
          have h2 := hsp (xa x j)
          rw [if_pos rfl] at h2
          exact decide_eq_true (by omega)
        rw [stepA_some (find_bef hp hm hno hav)]
        show xa ((gA l ps A).2.set j.toNat (xa x j)) j = _
        rw [xa_set hk0 (by rw [hI.len]; exact hk1) hk0, if_pos rfl]
theorem asg_stb {l : List En} {ps : List (ByteArray × Int)} {T : List Int} (hT : Ord l.length T) : Stb l ps T (gA l ps T).2 := by
  have hI := gA_inv l ps T hT.nd hT.bd
  have hsplit : ∀ (A : List Int) (k : Int) (B : List Int), T = A ++ k :: B → A.Nodup ∧ k ∉ A ∧ (∀ m ∈ A, 0 ≤ m ∧ m < l.length) ∧ (0 ≤ k ∧ k < l.length) ∧ (∀ m ∈ B, 0 ≤ m ∧ m < l.length ∧ k ≠ m) ∧ (∀ j ∈ A, xa (gA l ps T).2 j = xa (gA l ps A).2 j) ∧ xa (gA l ps T).2 k = xa (stepA l (gA l ps A) k).2 k ∧ (∀ j ∈ A, xa (stepA l (gA l ps A) k).2 j = xa (gA l ps A).2 j) := by
    intro A k B hTe
    have hnd := hT.nd
    rw [hTe, List.nodup_append] at hnd
    have hkA : k ∉ A := fun hm => hnd.2.2 _ hm k (by simp) rfl
    have hbT : ∀ m ∈ A ++ k :: B, 0 ≤ m ∧ m < l.length := fun m hm => hT.bd m (by rw [hTe]; exact hm)
    have hkB := (List.nodup_cons.1 hnd.2.1).1
    have hA : ∀ m ∈ A, 0 ≤ m ∧ m < l.length := fun m hm => hbT m (List.mem_append_left _ hm)
    refine ⟨hnd.1, hkA, hA, hbT k (by simp), fun m hm => ⟨(hbT m (by simp [hm])).1, (hbT m (by simp [hm])).2, fun e => hkB (e ▸ hm)⟩, fun j hj => ?_, ?_, fun j hj => ?_⟩
    · rw [hTe]
      exact gA_later l ps A j (hA j hj).1 _ fun m hm => ⟨(hbT m (List.mem_append_right _ hm)).1, (hbT m (List.mem_append_right _ hm)).2, hnd.2.2 j hj m hm⟩
    · rw [hTe, show A ++ k :: B = (A ++ [k]) ++ B from by simp, gA_later l ps (A ++ [k]) k (hbT k (by simp)).1 B fun m hm => ⟨(hbT m (by simp [hm])).1, (hbT m (by simp [hm])).2, fun e => hkB (e ▸ hm)⟩, gA_snoc]
    · exact stepA_other (hbT k (by simp)).1 (by rw [foldA_len]; simpa [asg0] using (hbT k (by simp)).2) (hA j hj).1 (fun e => hkA (e ▸ hj))
  refine ⟨fun k hk hne => ?_, fun w hw => ?_, fun A k B hTe w hw hso => ?_⟩
  · obtain ⟨A, B, hTe⟩ := List.append_of_mem hk
    obtain ⟨h1, h2, h3, h4, h5, h6, h7, h8⟩ := hsplit A k B hTe
    rw [h7] at hne ⊢
    have hIA := gA_inv l ps A h1 h3
    cases hf : (wsh l k).find? (avl (gA l ps A).1) with
    | none =>
      rw [stepA_none hf] at hne
      exact absurd (hIA.out k h4.1 h2) hne
    | some w0 =>
      rw [stepA_some hf]
      show xa ((gA l ps A).2.set k.toNat w0) k ∈ _
      rw [xa_set h4.1 (by rw [hIA.len]; exact h4.2) h4.1, if_pos rfl]
      exact List.mem_of_find?_eq_some hf
  · rw [← hT.count hI.len]
    exact hI.cap w hw
  · obtain ⟨h1, h2, h3, h4, h5, h6, h7, h8⟩ := hsplit A k B hTe
    have hIA := gA_inv l ps A h1 h3
    have hwn : w ≠ noN := by
      rintro rfl
      rw [stO_noN] at hso
      cases hso
    have hav : avl (gA l ps A).1 w = false := by
      rw [h7] at hw
      cases hf : (wsh l k).find? (avl (gA l ps A).1) with
      | none =>
        have := List.find?_eq_none.1 hf w (mem_bef hw).1
        simpa using this
      | some w0 =>
        rw [stepA_some hf] at hw
        have e : xa ((gA l ps A).2.set k.toNat w0) k = w0 := by rw [xa_set h4.1 (by rw [hIA.len]; exact h4.2) h4.1, if_pos rfl]
        have hw : w ∈ bef (wsh l k) (xa ((gA l ps A).2.set k.toNat w0) k) := hw
        rw [e] at hw
        have hw0 : w0 ≠ noN := by
          rintro rfl
          have := List.find?_some hf
          rw [avl_noN hIA] at this
          cases this
        exact bef_find hw0 hf w hw
    have hc := hIA.cnt w hwn
    have hav : ¬ 0 < ((gA l ps A).1 w).getD 0 := by
      unfold avl at hav
      simpa using hav
    have hcap := hI.cap w hwn
    have hsp := cA_split (gA l ps T).2 A B k w
    rw [← hTe, cA_congr w h6] at hsp
    have hcS := hT.count hI.len w
    have hB0 : cA (gA l ps T).2 B w = 0 := by split at hsp <;> omega
    refine ⟨by split at hsp <;> omega, fun j hj => ?_⟩
    unfold cA at hB0
    rw [List.countP_eq_zero] at hB0
    simpa using hB0 j hj
/-- the list that is given out is stable, and no other one -/
theorem stb_iff {l : List En} {ps : List (ByteArray × Int)} {ord : List Int} {x : List ByteArray} (hO : isO l.length ord = true) (hx : x.length = l.length) : Stb l ps (trn l ord) x ↔ x = asg l ps ord := by
  have hT := (Ord.of hO).trn
  constructor
  · intro h
    have h2 := stb_unique hT hx h (trn l ord) [] (by simp)
    have hI := gA_inv l ps (trn l ord) hT.nd hT.bd
    apply List.ext_getElem
    · rw [hx]
      exact hI.len.symm
    · intro i h3 h4
      have := h2 (i : Int) (hT.all _ (by omega) (by omega))
      have h4 : i < (gA l ps (trn l ord)).2.length := h4
      unfold xa at this
      rw [Int.toNat_natCast, List.getElem?_eq_getElem h3, List.getElem?_eq_getElem h4] at this
      exact this.symm
  · rintro rfl
    exact asg_stb hT
end Go.Proofs.YtfjbioghpgmkiaaGreatDoor
/- slices.Index over strings, places.preferred; conditions: the list lies in memory. -/
namespace Go.Proofs.YtfjbioghpgmkiaaGreatDoor
open Go.Eng Go.Dig

theorem tw_at {ws : List ByteArray} {p : ByteArray} {i : Nat} (hi : i < ws.length) (h : ∀ y ∈ ws.take i, y ≠ p) (hp : ws[i] = p) : (ws.takeWhile fun y => !decide (y = p)) = ws.take i := by
  have e : ws = ws.take i ++ ws[i] :: ws.drop (i + 1) := by rw [← List.drop_eq_getElem_cons hi, List.take_append_drop]
  have h1 : ((ws.take i ++ ws[i] :: ws.drop (i + 1)).takeWhile fun y => !decide (y = p)) = ws.take i := by
    rw [List.takeWhile_append_of_pos (fun y hy => by simpa using h y hy), List.takeWhile_cons_of_neg (by simp [hp]), List.append_nil]
  rwa [← e] at h1
theorem tw_take (ws : List ByteArray) (p : ByteArray) : (ws.takeWhile fun y => !decide (y = p)) = ws.take (ws.takeWhile fun y => !decide (y = p)).length :=
  List.prefix_iff_eq_take.1 (List.takeWhile_prefix _)
def inB (ws : List ByteArray) (p : ByteArray) : Bool := ws.any fun y => decide (y = p)
theorem inB_iff {ws : List ByteArray} {p : ByteArray} : inB ws p = true ↔ p ∈ ws := by
  unfold inB
  rw [List.any_eq_true]
  constructor
  · rintro ⟨x, hx, h⟩
    rw [← of_decide_eq_true h]
    exact hx
  · intro h
    exact ⟨p, h, decide_eq_true rfl⟩
theorem sl37 : Tryz.prog.underlying 37 = some (.slice 9) ∧ TSize Tryz.prog 9 1 := slTy_ok rfl
/-- where a string stands in a list, or -1 -/
def ixS (ws : List ByteArray) (p : ByteArray) : Int := if inB ws p = true then ((ws.takeWhile fun y => !decide (y = p)).length : Int) else -1
theorem ixS_at {ws : List ByteArray} {p : ByteArray} {i : Nat} (hi : i < ws.length) (h : ∀ y ∈ ws.take i, y ≠ p) (hp : ws[i] = p) : ixS ws p = (i : Int) := by
  unfold ixS
  rw [if_pos (inB_iff.2 (hp ▸ List.getElem_mem hi)), tw_at hi h hp, List.length_take, Nat.min_eq_left (by omega)]
theorem ixS_no {ws : List ByteArray} {p : ByteArray} (h : ∀ y ∈ ws, y ≠ p) : ixS ws p = -1 := by
  unfold ixS
  rw [if_neg (fun hm => h p (inB_iff.1 hm) rfl)]
/-- where a place may be wished for -/
def prefOk (ws : List ByteArray) (p : ByteArray) : Bool := decide (p = noN) || inB ws p

attribute [local irreducible] PV StepF wpl wpd WP Ret

theorem p90 (ws : List ByteArray) (p : ByteArray) (s : Option Addr) (c : Nat) (w : World) (hs : SlAt w 1 eS s ws) (hl : ws.length ≤ 1000000) :
    Ret Tryz.prog 90 [.slice s ws.length c, .string p] w (fun v w' => v = .int .i64 (ixS ws p) ∧ Keeps [] w w') := by
  refine Ret.of_WP Tryz.func90 rfl Tryz.ntmps90 rfl ?_
  have hp := Hp.start (M := []) (w := w)
  (repeat (first | (with_reducible first | apply WP_seq | apply WP_block | apply WP_region | apply wpl_nil | apply thenQ_n) | (apply wlp; ((first | apply pv_move | apply pv_assign | (apply pf_len; exact rfl)) <;> exact rfl); (first | exact fI rfl | exact fS rfl))))
  refine WP_loopS [4, 5, 8, 9, 10, 11, 12, 13, 14, 15, 16, 17, 18] (fun (i : Nat) F => F.put 8 (.int .i64 (i : Int))) (fun i w' => i ≤ ws.length ∧ (∀ y ∈ ws.take i, y ≠ p) ∧ Hp w [] w' []) (fun i => ws.length - i) 0 (put_self (Same.eq .refl) rfl) ⟨Nat.zero_le _, by simp, hp⟩ ?_
  clear hp
  rintro u i w1 ⟨hi, hno, hp⟩
  (repeat (first | (with_reducible first | apply WP_seq | apply WP_region | apply wpl_nil | apply thenQ_n) | (apply wlp; (apply pv_lss <;> exact rfl); exact fB rfl)))
  refine WP_cond_d rfl (fun h2 => ?_) (fun h2 => ?_)
  · have hlt : i < ws.length := by omega
    obtain ⟨b0, o0, hs0, hc0⟩ := hs.base (by omega)
    have hci := hc0 i _ (List.getElem?_eq_getElem hlt) 0 _ rfl
    have ht1 := List.take_succ_eq_append_getElem hlt
    have hix := fun h => ixS_at (p := p) hlt hno h
    generalize ws[i] = x at hci ht1 hix
    (repeat (first | (with_reducible first | apply WP_seq | apply WP_block | apply WP_region | apply wpl_nil | apply thenQ_n | apply WP_skip) | (apply wlp; ((first | apply pv_move | apply pv_assign | (apply pf_load; exact rfl) | (apply pf_index; exact rfl) | (apply pv_seql; (first | exact rfl | exact ev_sel rfl (by assumption)))) <;> (first | exact rfl | assumption | exact hp.old0 (by assumption))); (first | exact fI rfl | exact fB rfl | exact fP rfl | exact fS rfl | exact fT rfl))))
    refine WP_cond_d rfl (fun h3 => ?_) (fun h3 => ?_)
    · (repeat (first | (with_reducible first | apply WP_seq | apply WP_region | apply wpl_nil | apply thenQ_n | apply thenQ_ret | apply inBlk_ret | apply WP_ret) | (apply wlp; (first | apply pv_move | apply pv_assign); exact fI rfl)))
      exact ret_tmp rfl rfl ⟨_, rfl, by rw [hix h3.symm]; rfl, hp.keeps⟩
    · (repeat (with_reducible first | apply WP_region | apply thenQ_n | apply inBlk_n | apply WP_skip))
      (apply wlp; (exact pv_add rfl rfl); exact int_eq (b := ((i + 1 : Nat) : Int)) (by rw [i64_in (by omega) (by omega)]; omega))
      (repeat (first | (with_reducible first | apply wpl_nil | apply thenQ_n) | (apply wlp; apply pv_move; exact fI rfl)))
      refine ⟨i + 1, put_self (Same.eq (by repeat (first | exact Same.hav | exact Same.refl | refine Same.put rfl ?_ | refine Same.havs rfl ?_))) rfl, ⟨by omega, ?_, hp⟩, by omega⟩
      intro y hy
      rw [ht1] at hy
      rcases List.mem_append.1 hy with hy | hy
      · exact hno y hy
      · rw [List.mem_singleton.1 hy]
        exact fun e => h3 e.symm
  · rw [List.take_of_length_le (by omega)] at hno
    (repeat (first | (with_reducible first | apply WP_seq | apply WP_region | apply wpl_nil | apply thenQ_n | apply thenQ_exit | apply WP_ret | apply WP_exit) | ((with_reducible apply inBlk_same); exact rfl) | (apply wlp; apply pv_assign; exact fI rfl)))
    exact ret_tmp rfl rfl ⟨_, rfl, by rw [ixS_no hno]; rfl, hp.keeps⟩
theorem p56 (ws : List ByteArray) (p : ByteArray) (s : Option Addr) (c : Nat) (w : World) (hs : SlAt w 1 eS s ws) (hl : ws.length ≤ 1000000) (hc : ws.length ≤ c) :
    Ret Tryz.prog 56 [.slice s ws.length c, .string p] w (fun v w' => (if prefOk ws p = true then v = .tuple #[.slice s (bef ws p).length c, .bool true] else ∃ z, v = .tuple #[z, .bool false]) ∧ Keeps [] w w') := by
  refine Ret.of_WP Tryz.func56 rfl Tryz.ntmps56 rfl ?_
  have hp := Hp.start (M := []) (w := w)
  (repeat (first | (with_reducible first | apply WP_seq | apply WP_region | apply wpl_nil | apply thenQ_n) | (apply wlp; ((first | apply pv_move | apply pv_assign | (apply pv_seql; (first | exact rfl | exact ev_sel rfl (by assumption)))) <;> exact rfl); (first | exact fB rfl | exact fS rfl | exact fT rfl))))
  refine WP_cond_d rfl (fun h => ?_) (fun h => ?_)
  · have h : p = noN := h
    (repeat (first | (with_reducible first | apply WP_seq | apply WP_region | apply wpl_nil | apply thenQ_n | apply thenQ_ret | apply WP_ret) | (apply wlp; (first | apply pv_move | apply pv_assign); (first | exact fB rfl | exact fS rfl))))
    refine ret_tmp2 rfl rfl rfl ⟨_, rfl, ?_, hp.keeps⟩
    unfold prefOk bef
    rw [if_pos (by simp [h]), if_pos h]
    rfl
  · have h : p ≠ noN := h
    (repeat (first | (with_reducible first | apply WP_seq | apply WP_region | apply thenQ_n | apply WP_skip) | (apply wlp; apply pv_move; (first | exact fS rfl | exact fT rfl))))
    (apply wls; exact st_call rfl ent90 rfl (p90 ws p s c _ (hs.keep0 hp.keeps) hl); rintro _ w1 ⟨rfl, hk⟩; have hp := hp.call hk)
    (repeat (first | (with_reducible first | apply WP_seq | apply WP_region | apply wpl_nil | apply thenQ_n) | (apply wlp; ((first | apply pv_move | apply pv_assign | apply pv_lss) <;> exact rfl); (first | exact fI rfl | exact fB rfl))))
    by_cases hm : inB ws p = true
    · have hix : ixS ws p = ((bef ws p).length : Int) := by
        unfold ixS bef
        rw [if_pos hm, if_neg h]
      have hbl : (bef ws p).length ≤ ws.length := by
        unfold bef
        rw [if_neg h]
        exact (List.takeWhile_sublist _).length_le
      rw [hix]
      refine WP_cond_f rfl ?_
      (repeat (first | (with_reducible first | apply WP_seq | apply WP_region | apply thenQ_n | apply WP_skip) | (apply wlp; apply pv_move; (first | exact fI rfl | exact fS rfl))))
      (apply wlp; exact pv_sliceHi sl37.1 sl37.2 rfl rfl (by omega); exact fS rfl)
      (repeat (first | (with_reducible first | apply wpl_nil | apply thenQ_n | apply WP_ret) | (apply wlp; apply pv_assign; (first | exact fB rfl | exact fS rfl))))
      refine ret_tmp2 rfl rfl rfl ⟨_, rfl, ?_, hp.keeps⟩
      unfold prefOk
      rw [if_pos (by simp [hm])]
      rfl
    · have hix : ixS ws p = -1 := by
        unfold ixS
        rw [if_neg hm]
      rw [hix]
      refine WP_cond_t rfl ?_
      (repeat (first | (with_reducible first | apply WP_seq | apply WP_region | apply wpl_nil | apply thenQ_n | apply thenQ_ret | apply WP_ret) | (apply wlp; apply pv_assign; (first | exact fB rfl | exact fS rfl))))
      refine ret_tmp2 rfl rfl rfl ⟨_, rfl, ?_, hp.keeps⟩
      unfold prefOk
      rw [if_neg (by simp [h, hm])]
      exact ⟨_, rfl⟩
end Go.Proofs.YtfjbioghpgmkiaaGreatDoor
/- places.Stable; conditions: a ballot of fewer than 20 entrants that lies in memory, an order of them, a list of as many places. -/
namespace Go.Proofs.YtfjbioghpgmkiaaGreatDoor
open Go.Eng Go.Dig

abbrev TS := List Int × Nat
def stepT (S : TS) (k : Int) : TS := (S.1.set k.toNat (S.2 : Int), S.2 + 1)
/-- the turns, as Stable notes them -/
def tnS (n : Nat) (A : List Int) : TS := A.foldl stepT (List.replicate n 0, 0)
theorem tnS_nil (n : Nat) : tnS n [] = (List.replicate n 0, 0) := rfl
theorem tnS_snoc (n : Nat) (A : List Int) (k : Int) : tnS n (A ++ [k]) = stepT (tnS n A) k := by
  unfold tnS
  rw [List.foldl_append]
  rfl
theorem tnS_num (n : Nat) (A : List Int) : (tnS n A).2 = A.length ∧ (tnS n A).1.length = n := by
  induction A using rev_ind with
  | nil => exact ⟨rfl, by simp [tnS]⟩
  | append_singleton A k ih => rw [tnS_snoc, List.length_append]; exact ⟨congrArg (· + 1) ih.1, by simp [stepT, ih.2]⟩
def stepH (f : ByteArray → Option Int) (w : ByteArray) : ByteArray → Option Int := if w = noN then f else fun a => if a = w then some ((f w).getD 0 + 1) else f a
/-- how often a place is held -/
def hoF (x : List ByteArray) : ByteArray → Option Int := x.foldl stepH (fun _ => none)
def stepLa (f : ByteArray → Option Int) (p : ByteArray × Int) : ByteArray → Option Int := if p.1 = noN then f else fun a => if a = p.1 then some (max ((f p.1).getD 0) p.2) else f a
/-- the latest turn of a holder -/
def laF (q : List (ByteArray × Int)) : ByteArray → Option Int := q.foldl stepLa (fun _ => none)
theorem hoF_snoc (x : List ByteArray) (w : ByteArray) : hoF (x ++ [w]) = stepH (hoF x) w := by
  unfold hoF
  rw [List.foldl_append]
  rfl
theorem laF_snoc (q : List (ByteArray × Int)) (p : ByteArray × Int) : laF (q ++ [p]) = stepLa (laF q) p := by
  unfold laF
  rw [List.foldl_append]
  rfl
theorem hoF_bd (x : List ByteArray) (a : ByteArray) : 0 ≤ (hoF x a).getD 0 ∧ (hoF x a).getD 0 ≤ x.length := by
  induction x using rev_ind generalizing a with
  | nil => exact ⟨Int.le_refl _, Int.le_refl _⟩
  | append_singleton x w ih =>
    rw [hoF_snoc, List.length_append]
    unfold stepH
    have h1 := ih a
    have h2 := ih w
    split
    · constructor
      · omega
      · simp; omega
    · by_cases e : a = w
      · simp only [e, if_true, Option.getD_some]
        constructor
        · omega
        · simp; omega
      · simp only [e, if_false]
        constructor
        · omega
        · simp; omega
def badW (ps : List (ByteArray × Int)) (ho la : ByteArray → Option Int) (t : Int) (w : ByteArray) : Bool :=
  (stO ps w).isSome && ((!decide ((ho w).getD 0 = max ((stO ps w).getD 0) 0)) || (decide (0 < (ho w).getD 0) && decide (t < (la w).getD 0)))
/-- what Stable asks of one entrant -/
def okE (l : List En) (ps : List (ByteArray × Int)) (T : List Int) (x : List ByteArray) (k : Nat) : Prop :=
  prefOk (wsh l k) (xa x k) = true ∧ ∀ w ∈ bef (wsh l k) (xa x k), badW ps (hoF x) (laF (x.zip (tnS l.length T).1)) (((tnS l.length T).1[k]?).getD 0) w = false
structure StbP (l : List En) (ps : List (ByteArray × Int)) (T : List Int) (x : List ByteArray) : Prop where
  cap : ∀ w n, hoF x w = some n → n ≤ max ((stO ps w).getD 0) 0
  ok : ∀ k, k < l.length → okE l ps T x k

theorem lk_mem {α : Type} [DecidableEq α] : ∀ {l : List (α × Value × Nat)} {q : α × Value × Nat}, (l.map (·.1)).Nodup → q ∈ l → lk l q.1 = some q.2.1
  | y :: l, q, hn, hq => by
    unfold lk
    rw [List.map_cons, List.nodup_cons] at hn
    rw [List.find?_cons]
    rcases List.mem_cons.1 hq with rfl | hq
    · simp
    · have hne : ¬ y.1 = q.1 := fun e => hn.1 (by rw [e]; exact List.mem_map_of_mem hq)
      simp only [hne, decide_false]
      exact lk_mem hn.2 hq
theorem lk_ex {α : Type} [DecidableEq α] {l : List (α × Value × Nat)} {a : α} {v : Value} (h : lk l a = some v) : ∃ q ∈ l, q.1 = a ∧ q.2.1 = v := by
  unfold lk at h
  cases hf : l.find? fun x => decide (x.1 = a) with
  | none => rw [hf] at h; cases h
  | some q =>
    rw [hf] at h
    exact ⟨q, List.mem_of_find?_eq_some hf, by simpa using List.find?_some hf, by simpa using h⟩
theorem Hp.adoptNew {w0 w : World} {M : List Nat} {L : List Ent} (h : Hp w0 M w L) {b : Nat} {q : Obj → Prop} {o : Obj} (hb : w0.heap.size ≤ b) (ho : w.heap[b]? = some o) (hq : q o) (hne : ∀ p ∈ L, p.1 ≠ some b) : Hp w0 M w ((some b, q) :: L) := by
  refine .of' h.keeps ?_ ?_ ?_
  · intro p hp c hc
    rcases List.mem_cons.1 hp with rfl | hp
    · have : b = c := by simpa using hc
      exact .inl (by omega)
    · exact h.own' hp c hc
  · intro p hp c hc
    rcases List.mem_cons.1 hp with rfl | hp
    · have : b = c := by simpa using hc
      subst this
      exact ⟨o, ho, hq⟩
    · exact h.has' hp c hc
  · rw [List.pairwise_cons]
    refine ⟨fun p hp c hc => ?_, h.dis'⟩
    have : b = c := by simpa using hc
    subst this
    exact hne p hp
theorem bef_sl {w : World} {s : Option Addr} {ws : List ByteArray} {p : ByteArray} (h : SlAt w 1 eS s ws) : SlAt w 1 eS s (bef ws p) := by
  unfold bef
  split
  · exact h
  · rw [tw_take]
    exact SlAt_take h _
theorem bef_len (ws : List ByteArray) (p : ByteArray) : (bef ws p).length ≤ ws.length := by
  unfold bef
  split
  · exact Nat.le_refl _
  · exact (List.takeWhile_sublist _).length_le
theorem hoF_nil : mF (hoF []) = fun _ => none := rfl
theorem laF_nil : mF (laF []) = fun _ => none := rfl
/-- what Stable owns -/
def stL (tb b10 b9 b4 ob lb : Nat) (n c mo co : Nat) (nm : ByteArray) (sP : Option Addr) (np cP : Nat) (s so : Option Addr) (S : TS) : List Ent :=
  [ownL eI 3 1 (some ⟨tb, 0, none⟩) n S.1, blk b10 1 (frOf [.int .i64 (S.2 : Int)]) 3, blk b9 1 (frOf [.slice (some ⟨tb, 0, none⟩) n n]) 30, blk b4 13 (frOf (dB nm 2 sP np cP)) 32, blk ob 1 (frOf [.slice so mo co]) 30, blk lb 1 (frOf [.slice s n c]) 33]
def dfE (D : Nat) : Ent := (some D, fun o => o = .deferred (some []))
theorem pv_maxK {P : Program} {n : FrK} {F : Fr} {w : World} {d : Option Tmp} {ty : TypeId} {pos : String} {aft : Array Edge} {g : Option (Nat × Bool)} {x y : Operand} {ts : Array TypeId} {k : IntKind} {a b : Int} (hx : ev n F x = .int k a) (hy : ev n F y = .int k b) : PV P n w F ⟨d, .call ⟨.builtin .max, #[x, y], ts⟩, ty, pos, aft, g⟩ (.int k (max a b)) := by
  have : (if a < b then b else a) = max a b := by rw [Int.max_def]; split <;> split <;> omega
  simp [PV, execOp, resolve, invoke, builtin, Builtin.max_, Builtin.max2, hx, hy, this]
theorem nd_inj {α β : Type} {f : α → β} : ∀ {l : List α}, (l.map f).Nodup → ∀ {a b : α}, a ∈ l → b ∈ l → f a = f b → a = b
  | y :: l, hn, a, b, ha, hb, e => by
    rw [List.map_cons, List.nodup_cons] at hn
    rcases List.mem_cons.1 ha with h1 | h1 <;> rcases List.mem_cons.1 hb with h2 | h2
    · rw [h1, h2]
    · exact absurd (show f y ∈ l.map f by rw [← h1, e]; exact List.mem_map_of_mem h2) hn.1
    · exact absurd (show f y ∈ l.map f by rw [← h2, ← e]; exact List.mem_map_of_mem h1) hn.1
    · exact nd_inj hn.2 h1 h2 e
theorem Hp.df {w0 w : World} {M : List Nat} {L : List Ent} {D : Nat} (h : Hp w0 M w L) (i : Nat) (hi : L[i]? = some (dfE D)) : w.heap[D]? = some (.deferred (some [])) := by
  obtain ⟨o, ho, hq⟩ := h.has i _ hi D rfl
  have hq : o = .deferred (some []) := hq
  rw [ho, hq]
/-- what Stable owns behind the turns -/
def stM (lm hm am D tb b9 b4 : Nat) (n np cP : Nat) (nm : ByteArray) (sP : Option Addr) (f g h : ByteArray → Option Int) (TT : List Int) : List Ent :=
  [mapE kStr lm (mF f), mapE kStr hm (mF g), mapE kStr am (mF h), dfE D, ownL eI 3 1 (some ⟨tb, 0, none⟩) n TT, blk b9 1 (frOf [.slice (some ⟨tb, 0, none⟩) n n]) 30, blk b4 13 (frOf (dB nm 2 sP np cP)) 32]

attribute [local irreducible] PV StepF wpl wpd WP Ret
attribute [local irreducible] Fit srt tl fl seenL stO isO trn tnS hoF laF bef prefOk

set_option maxHeartbeats 2000000 in
theorem p23 (nm : ByteArray) (ps : List (ByteArray × Int)) (l : List En) (ord : List Int) (x : List ByteArray) (s sP so sx : Option Addr) (c cP co cx : Nat) (w : World) (hE : EAt w s l) (hec : ∀ e ∈ l, e.wl.length ≤ e.wc) (hP : SlAt w 2 eP sP ps) (hso : SlAt w 1 eI so ord) (hsx : SlAt w 1 eS sx x) (h20 : l.length < 20) (hps : ps.length ≤ 12) (_hpm : ∀ p ∈ ps, p.2 ≤ 9223372036854775807) (hO : isO l.length ord = true) (hson : so = none → ord = []) (hxl : x.length = l.length) :
    Ret Tryz.prog 23 [.agg (dB nm 2 sP ps.length cP).toArray, .slice s l.length c, .slice so ord.length co, .slice sx x.length cx] w (fun v w' => (∃ b, v = .bool b ∧ (b = true ↔ StbP l ps (trn l ord) x)) ∧ Keeps [] w w') := by
  have hsw : l ≠ [] → ∀ b o, s = some ⟨b, o, none⟩ → b < w.heap.size := fun h b o e => hE.at_.lt (fun _ => rfl) (by decide) h e
  have hT := (Ord.of hO).trn
  refine Ret.of_marks Tryz.func23 rfl Tryz.ntmps23 rfl ?_
  have hp := Hp.start (M := []) (w := w)
  refine WPA_seq ?_
  (repeat with_reducible apply WP_region)
  (apply wls; exact sbox13 hp rfl; rintro _ w1 ⟨b4, rfl, hp⟩)
  (repeat (first | (with_reducible first | apply wpl_nil | apply thenQ_n) | (apply wlp; apply pv_assign; exact fB rfl)))
  refine WPA_seq ?_
  (repeat (first | (with_reducible first | apply WP_seq | apply WP_region) | (apply wlp; ((first | apply pv_move | (apply pf_loadb; exact rfl)) <;> (first | exact rfl | exact hp.agg_blk 0 rfl rfl)); (first | exact fS rfl | exact fA13 rfl))))
  (apply wls; exact st_call rfl ent38 rfl (p38 nm ps.length l ord s sP so c cP co _ (hso.keep0 hp.keeps) (by omega) hps (by rw [hT.len.symm, (trn_perm l (Ord.of hO).nd).length_eq] at h20; omega)); rintro _ w2 ⟨rfl, hk⟩; rw [hO]; have hp := hp.call hk)
  (apply wlp; (apply pv_not <;> exact rfl); exact fB rfl)
  (apply wlp; apply pv_move; exact fB rfl)
  ((apply wlpT; exact rfl; exact rfl); (apply pv_move); (intros; exact fS rfl))
  ((apply wlpT; exact rfl; exact rfl); (((apply pf_len; exact rfl) <;> exact rfl)); (intros; exact fI rfl))
  ((apply wlpT; exact rfl; exact rfl); (apply pv_move); (intros; exact fS rfl))
  ((apply wlpT; exact rfl; exact rfl); (((apply pf_len; exact rfl) <;> exact rfl)); (intros; exact fI rfl))
  (apply wlpT; exact rfl; exact rfl; (exact pv_neq rfl rfl); exact bool_eq (b := false) (ndf (by omega)))
  (apply wlp; exact pv_orF rfl rfl; exact fB rfl)
  (repeat (with_reducible first | apply wpl_nil | apply thenQ_n))
  refine WP_cond_f rfl ?_
  (repeat (with_reducible first | apply thenQ_n | apply WP_skip))
  refine WPA_seq ?_
  (repeat (first | with_reducible apply WP_region | (apply wlp; ((first | apply pv_move | (apply pf_len; exact rfl)) <;> exact rfl); (first | exact fI rfl | exact fS rfl))))
  (apply wls; exact sf_make eI 0 hp rfl rfl rfl rfl rfl rfl rfl (by omega) rfl; rintro _ w3 ⟨tb, rfl, hvt, hp⟩)
  (apply wls; exact salloc1 hp (zeroTy_ok rfl) rfl; rintro _ w4 ⟨b9, rfl, hp⟩)
  (apply wls0; exact sstore1 hp 0 rfl rfl rfl rfl (sizeTy_ok rfl) rfl; rintro _ w5 ⟨rfl, hp⟩)
  have hp := hp.norm 0 [.slice (some ⟨tb, 0, none⟩) l.length l.length] rfl rfl
  (repeat (with_reducible first | apply wpl_nil | apply thenQ_n))
  refine WPA_seq ?_
  (repeat with_reducible apply WP_region)
  (apply wls; exact salloc1 hp (zeroTy_ok rfl) rfl; rintro _ w6 ⟨b10, rfl, hp⟩)
  (apply wls0; exact sstore1 hp 0 rfl rfl rfl rfl (sizeTy_ok rfl) rfl; rintro _ w7 ⟨rfl, hp⟩)
  have hp := hp.norm 0 [.int .i64 0] rfl rfl
  (repeat (with_reducible first | apply wpl_nil | apply thenQ_n))
  refine WPA_seq2 ?_
  (repeat (first | with_reducible apply WP_region | (apply wlp; apply pv_move; exact fS rfl)))
  (apply wls; exact st_call rfl ent54 rfl (p54 s so l.length c ord.length co _); rintro _ w8 ⟨lb, ob, rfl, hpo⟩; have hp := hp.join hpo; clear hpo)
  have hp : Hp w [] w8 (stL tb b10 b9 b4 ob lb l.length c ord.length co nm sP ps.length cP s so (tnS l.length [])) := by
    rw [tnS_nil]
    exact hp.picks [4, 2, 3, 5, 0, 1] _ rfl rfl
  have hnew : ∀ (i : Nat) (b : Nat) (φ : Obj → Prop), (stL tb b10 b9 b4 ob lb l.length c ord.length co nm sP ps.length cP s so (tnS l.length []))[i]? = some (some b, φ) → w.heap.size ≤ b ∧ b < w8.heap.size := by
    intro i b φ hi
    refine ⟨?_, hp.lt hi rfl⟩
    rcases hp.own i _ hi b rfl with h | h
    · exact h
    · cases h
  have h0w := hnew 0 tb _ rfl
  have h1w := hnew 1 b10 _ rfl
  have h2w := hnew 2 b9 _ rfl
  have h3w := hnew 3 b4 _ rfl
  have h4w := hnew 4 ob _ rfl
  have h5w := hnew 5 lb _ rfl
  have hd01 : tb ≠ b10 := by rintro rfl; exact hp.dis 0 1 _ _ rfl rfl (by decide) tb rfl rfl
  have hn9 : b9 ∉ [tb, b10] := by
    intro hm
    rcases List.mem_cons.1 hm with e | hm
    · exact hp.dis 2 0 _ _ rfl rfl (by decide) b9 rfl (by rw [e]; rfl)
    · have e : b9 = b10 := by simpa using hm
      exact hp.dis 2 1 _ _ rfl rfl (by decide) b9 rfl (by rw [e]; rfl)
  have hnl : lb ∉ [tb, b10] := by
    intro hm
    rcases List.mem_cons.1 hm with e | hm
    · exact hp.dis 5 0 _ _ rfl rfl (by decide) lb rfl (by rw [e]; rfl)
    · have e : lb = b10 := by simpa using hm
      exact hp.dis 5 1 _ _ rfl rfl (by decide) lb rfl (by rw [e]; rfl)
  (repeat (with_reducible first | apply wpl_nil | apply thenQ_n))
  refine WPA_fresh [(1, .slice s l.length c), (3, .slice sx x.length cx), (4, .pointer (some ⟨b4, 0, none⟩)), (9, .pointer (some ⟨b9, 0, none⟩)), (10, .pointer (some ⟨b10, 0, none⟩)), (44, .func (.func 84) #[] #[.pointer (some ⟨ob, 0, none⟩), .pointer (some ⟨lb, 0, none⟩)])] ⟨rfl, rfl, rfl, rfl, rfl, rfl, trivial⟩ ?_
  intro F0
  refine WPA_range (gf := 84) (lb := [.pointer (some ⟨ob, 0, none⟩), .pointer (some ⟨lb, 0, none⟩)]) rfl ent84 (fun x : Int => Value.int .i64 x) (trn l ord) [tb, b10] ?_ (fun pre W => Hp w [] W (stL tb b10 b9 b4 ob lb l.length c ord.length co nm sP ps.length cP s so (tnS l.length pre))) ?_ hp ?_
    (fun y => ((F0.puts [(1, .slice s l.length c), (3, .slice sx x.length cx), (4, .pointer (some ⟨b4, 0, none⟩)), (9, .pointer (some ⟨b9, 0, none⟩)), (10, .pointer (some ⟨b10, 0, none⟩)), (44, .func (.func 84) #[] #[.pointer (some ⟨ob, 0, none⟩), .pointer (some ⟨lb, 0, none⟩)])]).put 45 (.int .i64 y)).put 11 (.int .i64 y)) ?_ ?_ ?_
  · intro k hk
    rcases List.mem_cons.1 hk with e | hk
    · omega
    · have e : k = b10 := by simpa using hk
      omega
  · intro pre W W' h hpr
    refine h.priv hpr hp.keeps.size ?_
    intro p hpm b hb
    simp only [stL, List.mem_cons, List.mem_nil_iff, or_false] at hpm
    rcases hpm with rfl | rfl | rfl | rfl | rfl | rfl
    · have : (some tb : Option Nat) = some b := hb
      cases this; omega
    · have : (some b10 : Option Nat) = some b := hb
      cases this; omega
    · have : (some b9 : Option Nat) = some b := hb
      cases this; omega
    · have : (some b4 : Option Nat) = some b := hb
      cases this; omega
    · have : (some ob : Option Nat) = some b := hb
      cases this; omega
    · have : (some lb : Option Nat) = some b := hb
      cases this; omega
  · intro W1 hk hsz
    have hk1 : Keeps [] w W1 := hp.keeps.trans hk (by simp)
    refine p84 l ord s so c co lb ob [tb, b10] W1 (hk.cell (hp.cell 5 rfl rfl) (by simp)) (hk.cell (hp.cell 4 rfl rfl) (by simp)) (hE.at_.keep0 hk1) (hso.keep0 hk1) hO h20 hson hnl ?_ ?_
    · intro h b o e
      have := hsw h b o e
      simp
      omega
    · intro k hk2
      rcases List.mem_cons.1 hk2 with e | hk2
      · omega
      · have e : k = b10 := by simpa using hk2
        omega
  · intro ll y W
    (repeat (first | (with_reducible first | apply WP_region | apply wpl_nil) | (apply wlp; apply pv_assign; exact fI rfl)))
    exact ⟨rfl, rfl, rfl⟩
  · rintro ll pre y W ⟨suf, hsuf⟩ hpI
    obtain ⟨hy0, hy1⟩ := hT.bd y (by rw [hsuf]; simp)
    have hpl : pre.length < l.length := by
      have h9 := hT.len
      rw [hsuf, List.length_append, List.length_cons] at h9
      omega
    obtain ⟨k, rfl⟩ : ∃ k : Nat, y = k := ⟨y.toNat, by omega⟩
    obtain ⟨hS2, hS1⟩ := tnS_num l.length pre
    have hst : tnS l.length (pre ++ [(k : Int)]) = ((tnS l.length pre).1.set k ((tnS l.length pre).2 : Int), (tnS l.length pre).2 + 1) := tnS_snoc _ _ _
    rw [hst]
    generalize tnS l.length pre = S at hpI hS2 hS1
    obtain ⟨S1, S2⟩ := S
    have hS2 : S2 = pre.length := hS2
    have hS1 : S1.length = l.length := hS1
    have c9 : W.cell? ⟨b9, 0, none⟩ = some (.slice (some ⟨tb, 0, none⟩) l.length l.length) := hpI.cell 2 rfl rfl
    have hvS : SVL (some ⟨tb, 0, none⟩) l.length S1 := .inr ⟨tb, l.length, by rw [hS1], by rw [hS1]; exact Nat.le_refl _, by unfold maxLen; omega⟩
    have hks : k < S1.length := by omega
    have hkl : k < l.length := by omega
    have hp := Hp.adopt2 (hpI.has 0 _ rfl tb rfl) (hpI.has 1 _ rfl b10 rfl) hd01
    have hp : Hp W [tb, b10] W [ownL eI 3 1 (some ⟨tb, 0, none⟩) l.length S1, blk b10 1 (frOf [.int .i64 (S2 : Int)]) 3] := hp
    (repeat (first | (with_reducible first | apply WP_seq | apply WP_block | apply WP_region) | (apply wlp; ((first | apply pv_move | (apply pf_load; exact rfl) | (apply pf_index; exact rfl)) <;> (first | exact rfl | assumption | exact hp.cell 1 rfl rfl)); (first | exact fI rfl | exact fP rfl | exact fS rfl))))
    (apply wls0; exact st_setL eI _ k (S2 : Int) hp 0 rfl hvS hks rfl rfl (fun _ => rfl) rfl rfl (sizeTy_ok rfl); rintro _ w12 ⟨rfl, hp⟩)
    (repeat (first | (with_reducible first | apply WP_region | apply wpl_nil | apply thenQ_n) | (apply wlp; ((apply pf_load; exact rfl) <;> (first | exact rfl | exact hp.cell 1 rfl rfl)); exact fI rfl)))
    (apply wlp; exact pv_add rfl rfl; exact int_eq (b := ((S2 + 1 : Nat) : Int)) (by rw [i64_in (by omega) (by omega)]; omega))
    (apply wls0; exact sstore1 hp 1 rfl rfl rfl rfl (sizeTy_ok rfl) rfl; rintro _ w13 ⟨rfl, hp⟩)
    have hp := hp.norm 1 [.int .i64 ((S2 + 1 : Nat) : Int)] rfl rfl
    (repeat (with_reducible first | apply wpl_nil | apply inBlk_n))
    exact ⟨rfl, Hp.upd2 hpI hp.keeps (hp.has 0 _ rfl tb rfl) (hp.has 1 _ rfl b10 rfl), hp.keeps⟩
  · intro D W hD hpI hD2
    have hDw : w.heap.size ≤ D := by omega
    have hp := Hp.adoptNew hpI (b := D) (q := fun o => o = .deferred (some [])) hDw hD2 rfl (by
      intro p hpm e
      simp only [stL, List.mem_cons, List.mem_nil_iff, or_false] at hpm
      rcases hpm with rfl | rfl | rfl | rfl | rfl | rfl
      · have : (some tb : Option Nat) = some D := e
        cases this; omega
      · have : (some b10 : Option Nat) = some D := e
        cases this; omega
      · have : (some b9 : Option Nat) = some D := e
        cases this; omega
      · have : (some b4 : Option Nat) = some D := e
        cases this; omega
      · have : (some ob : Option Nat) = some D := e
        cases this; omega
      · have : (some lb : Option Nat) = some D := e
        cases this; omega)
    obtain ⟨TT, hTT⟩ : ∃ TT, TT = (tnS l.length (trn l ord)).1 := ⟨_, rfl⟩
    have hTl : TT.length = l.length := by rw [hTT]; exact (tnS_num _ _).2
    have hvT : SVL (some ⟨tb, 0, none⟩) l.length TT := .inr ⟨tb, l.length, by rw [hTl], by rw [hTl]; exact Nat.le_refl _, by unfold maxLen; omega⟩
    have hp : Hp w [] W [dfE D, ownL eI 3 1 (some ⟨tb, 0, none⟩) l.length TT, blk b9 1 (frOf [.slice (some ⟨tb, 0, none⟩) l.length l.length]) 30, blk b4 13 (frOf (dB nm 2 sP ps.length cP)) 32] := by
      rw [hTT]
      exact hp.picks [0, 1, 3, 4] _ rfl rfl
    have hfin : ∀ {W : World} {L : List Ent}, Hp w [] W L → Keeps [] w (W.putObj D (.deferred none)) := fun h => h.keeps.trans (keeps_put _ _ _) (fun k hk => .inl (by rw [List.mem_singleton.1 hk]; exact hDw))
    refine WPA_done rfl rfl (WPA_of ?_)
    (repeat (first | (with_reducible first | apply WP_seq | apply WP_region) | (apply wlp; ((apply pf_loadb; exact rfl) <;> (first | exact rfl | exact hp.agg_blk 3 rfl rfl)); exact fA13 rfl)))
    (apply wls; exact st_call rfl ent55 rfl (p55 nm 2 ps sP cP _ (hP.keep0 hp.keeps) (by omega)); rintro _ w9 ⟨am, rfl, hpo⟩; have hp := hp.join hpo; clear hpo)
    (repeat (first | (with_reducible first | apply WP_seq | apply WP_region | apply wpl_nil | apply thenQ_n) | (apply wlp; apply pv_assign; exact fM rfl)))
    (apply wls; exact st_makemap kStr hp; rintro _ w10 ⟨hm, rfl, hp⟩)
    (repeat (first | (with_reducible first | apply WP_seq | apply WP_region | apply wpl_nil | apply thenQ_n) | (apply wlp; apply pv_assign; exact fM rfl)))
    (apply wls; exact st_makemap kStr hp; rintro _ w11 ⟨lm, rfl, hp⟩)
    have hp : Hp w [] w11 (stM lm hm am D tb b9 b4 l.length ps.length cP nm sP (laF ((x.zip TT).take 0)) (hoF (x.take 0)) (stO ps) TT) := by
      rw [List.take_zero, List.take_zero]
      unfold stM
      rw [laF_nil, hoF_nil]
      exact hp
    (repeat (first | (with_reducible first | apply WP_seq | apply WP_block | apply WP_region | apply wpl_nil | apply thenQ_n) | (apply wlp; ((first | apply pv_move | apply pv_assign | (apply pf_len; exact rfl)) <;> exact rfl); (first | exact fI rfl | exact fS rfl | exact fM rfl))))
    refine WP_loopS [15, 16, 58, 59, 60, 61, 62, 63, 64, 65, 66, 67, 68, 69, 70, 71, 72, 73, 74, 75, 76, 77, 78, 79] (fun (i : Nat) F => F.put 58 (.int .i64 (i : Int))) (fun i w' => i ≤ x.length ∧ Hp w [] w' (stM lm hm am D tb b9 b4 l.length ps.length cP nm sP (laF ((x.zip TT).take i)) (hoF (x.take i)) (stO ps) TT)) (fun i => x.length - i) 0 (put_self (Same.eq .refl) rfl) ⟨Nat.zero_le _, hp⟩ ?_
    (repeat clear hp)
    rintro u i w12 ⟨hi, hp⟩
    (repeat (first | (with_reducible first | apply WP_seq | apply WP_region | apply wpl_nil | apply thenQ_n) | (apply wlp; (apply pv_lss <;> exact rfl); exact fB rfl)))
    refine WP_cond_d rfl (fun h => ?_) (fun h => ?_)
    · have hlt : i < x.length := by omega
      have hltl : i < l.length := by omega
      have hltT : i < TT.length := by omega
      obtain ⟨b0, o0, hs0, hc0⟩ := hsx.base (by omega)
      have hci := hc0 i _ (List.getElem?_eq_getElem hlt) 0 _ rfl
      have hgt := List.getElem?_eq_getElem hltT
      have hz : (x.zip TT).take (i + 1) = (x.zip TT).take i ++ [(x[i], TT[i])] := by rw [List.take_succ_eq_append_getElem (by simp; omega), List.getElem_zip]
      have hx1 := List.take_succ_eq_append_getElem hlt
      have hh := hoF_snoc (x.take i) x[i]
      rw [← hx1] at hh
      have hla := laF_snoc ((x.zip TT).take i) (x[i], TT[i])
      rw [← hz] at hla
      have hbd := hoF_bd (x.take i)
      have hxt : (x.take i).length ≤ 20 := by rw [List.length_take]; omega
      clear hx1 hz
      generalize x[i] = a at hci hh hla
      generalize TT[i] = t at hgt hla
      generalize hoF (x.take i) = ho at hp hbd hh
      generalize laF ((x.zip TT).take i) = la at hp hla
      generalize (x.take i).length = xl at hbd hxt
      have hci : w.cell? ⟨b0, o0 + i * 1, none⟩ = some (.string a) := hci
      have hbda := hbd a
      (repeat (first | (with_reducible first | apply WP_seq | apply WP_block | apply WP_region | apply wpl_nil | apply thenQ_n | apply WP_skip) | (apply wlp; ((first | apply pv_move | apply pv_assign | (apply pf_load; exact rfl) | (apply pf_index; exact rfl) | (apply pv_sneq; (first | exact rfl | exact ev_sel rfl (by assumption)))) <;> (first | exact rfl | assumption | exact hp.old0 (by assumption))); (first | exact fI rfl | exact fB rfl | exact fP rfl | exact fT rfl))))
      refine WP_cond_nd rfl (fun h2 => ?_) (fun h2 => ?_)
      · have h2 : ¬ a = noN := h2
        (repeat (first | (with_reducible first | apply WP_seq | apply WP_region) | (apply wlp; apply pv_move; (first | exact fT rfl | exact fM rfl))))
        (apply wlp; exact pv_lookup (K := kStr) (a := a) hp 1 rfl rfl rfl mp90.1 mp90.2.1 mp90.2.2; exact mF_look _ _)
        (apply wlp; exact pv_add rfl rfl; exact int_eq (i64_in (by omega) (by omega)))
        (apply wls0; exact st_mapput (K := kStr) (a := a) (v := .int .i64 ((ho a).getD 0 + 1)) hp 1 rfl rfl rfl rfl mp90.1 mp90.2.1; rintro _ w13 ⟨rfl, hp⟩)
        have hp : Hp w [] w13 (stM lm hm am D tb b9 b4 l.length ps.length cP nm sP la (fun y => if y = a then some ((ho a).getD 0 + 1) else ho y) (stO ps) TT) := by
          unfold stM
          rw [← mF_put]
          exact hp
        (repeat (with_reducible first | apply wpl_nil | apply thenQ_n))
        refine WP_drawS mixed (by kernel_rfl) (fun w' => Hp _ _ w' _) hp.drew ?_
        have hp := hp.drew
        (repeat ((apply wdp; exact rfl); (intro w hp; intros; apply pv_move); (intros; (first | exact fT rfl | exact fM rfl))))
        (apply wdp; exact rfl; (intro w hp; exact pv_lookup (K := kStr) (a := a) hp 0 rfl rfl rfl mp90.1 mp90.2.1 mp90.2.2); exact mF_look _ _)
        (repeat ((apply wdp; exact rfl); (intro w hp; intros; ((first | apply pv_move | (apply pf_load; exact rfl) | (apply pf_index; exact rfl)) <;> (first | exact rfl | assumption | exact hp.cell 5 rfl rfl))); (intros; (first | exact fI rfl | exact fP rfl | exact fS rfl))))
        (apply wdp; exact rfl; (intro w hp; exact pf_load rfl rfl (own_elem hp 4 rfl hvT (fun _ => rfl) hgt 0 _ rfl)); exact fI rfl)
        (apply wdp; exact rfl; (intro w hp; exact pv_maxK rfl rfl); exact fI rfl)
        (apply wds0S; exact rfl; exact rfl; exact st_mapput (K := kStr) (a := a) (v := .int .i64 (max ((la a).getD 0) t)) hp 0 rfl rfl rfl rfl mp90.1 mp90.2.1; rintro _ w14 ⟨rfl, hp⟩)
        have hp : Hp w [] w14 (stM lm hm am D tb b9 b4 l.length ps.length cP nm sP (fun y => if y = a then some (max ((la a).getD 0) t) else la y) (fun y => if y = a then some ((ho a).getD 0 + 1) else ho y) (stO ps) TT) := by
          unfold stM
          rw [← mF_put]
          exact hp
        refine wpd_nil ?_
        (repeat (with_reducible first | apply WP_region | apply thenQ_n | apply inBlk_n))
        (apply wlp; (exact pv_add rfl rfl); exact int_eq (b := ((i + 1 : Nat) : Int)) (by rw [i64_in (by omega) (by omega)]; omega))
        (repeat (first | (with_reducible first | apply wpl_nil | apply thenQ_n) | (apply wlp; apply pv_move; exact fI rfl)))
        refine ⟨i + 1, put_self (Same.eq (by repeat (first | exact Same.hav | exact Same.refl | refine Same.put rfl ?_ | refine Same.havs rfl ?_))) rfl, ⟨by omega, ?_⟩, by omega⟩
        rw [hh, hla]
        unfold stepH stepLa
        rw [if_neg h2, if_neg h2]
        exact hp
      · have h2 : a = noN := h2
        (repeat (with_reducible first | apply WP_region | apply thenQ_n | apply inBlk_n | apply WP_skip))
        (apply wlp; (exact pv_add rfl rfl); exact int_eq (b := ((i + 1 : Nat) : Int)) (by rw [i64_in (by omega) (by omega)]; omega))
        (repeat (first | (with_reducible first | apply wpl_nil | apply thenQ_n) | (apply wlp; apply pv_move; exact fI rfl)))
        refine ⟨i + 1, put_self (Same.eq (by repeat (first | exact Same.hav | exact Same.refl | refine Same.put rfl ?_ | refine Same.havs rfl ?_))) rfl, ⟨by omega, ?_⟩, by omega⟩
        rw [hh, hla]
        unfold stepH stepLa
        rw [if_pos h2, if_pos h2]
        exact hp
    have hxt : x.take i = x := List.take_of_length_le (by omega)
    have hzt : (x.zip TT).take i = x.zip TT := List.take_of_length_le (by rw [List.length_zip]; omega)
    rw [hxt, hzt] at hp
    obtain ⟨LA, hLA⟩ : ∃ LA, LA = laF (x.zip TT) := ⟨_, rfl⟩
    rw [← hLA] at hp
    obtain ⟨HO, hHO⟩ : ∃ HO, HO = hoF x := ⟨_, rfl⟩
    rw [← hHO] at hp
    clear hxt hzt
    (repeat (first | (with_reducible first | apply WP_seq | apply WP_region | apply thenQ_n | apply thenQ_exit | apply WP_exit) | ((with_reducible apply inBlk_same); exact rfl) | (apply wlp; apply pv_move; exact fM rfl)))
    (apply wls; exact st_range (K := kStr) hp 1 rfl rfl mp90.1; rintro _ w15 ⟨r, lst, clk, rfl, hlk, hok, hp⟩)
    have hval : ∀ q ∈ lst, ∃ n, HO q.1 = some n ∧ q.2.1 = .int .i64 n := by
      intro q hq
      have h1 := lk_mem hok.keys hq
      rw [hlk] at h1
      unfold mF at h1
      cases h2 : HO q.1 with
      | none => rw [h2] at h1; cases h1
      | some n => rw [h2] at h1; exact ⟨n, rfl, by simpa using h1.symm⟩
    have hp : Hp w [] w15 (iterE r hm clk #[] :: [mapE kStr lm (mF LA), mapX kStr hm lst clk, mapE kStr am (mF (stO ps)), dfE D, ownL eI 3 1 (some ⟨tb, 0, none⟩) l.length TT, blk b9 1 (frOf [.slice (some ⟨tb, 0, none⟩) l.length l.length]) 30, blk b4 13 (frOf (dB nm 2 sP ps.length cP)) 32]) := hp
    (repeat (with_reducible first | apply WP_block | apply wpl_nil | apply thenQ_n))
    refine WP_loopS [8, 17, 18, 82, 83, 84, 85, 86, 87, 88, 89, 90, 91, 92] (fun (_seen : Array Nat) F => F) (fun seen w' => (∀ q ∈ lst, q.2.2 ∈ seen → ∀ n, HO q.1 = some n → n ≤ max ((stO ps q.1).getD 0) 0) ∧ Hp w [] w' (iterE r hm clk seen :: [mapE kStr lm (mF LA), mapX kStr hm lst clk, mapE kStr am (mF (stO ps)), dfE D, ownL eI 3 1 (some ⟨tb, 0, none⟩) l.length TT, blk b9 1 (frOf [.slice (some ⟨tb, 0, none⟩) l.length l.length]) 30, blk b4 13 (frOf (dB nm 2 sP ps.length cP)) 32])) (fun seen => leftN lst seen) #[] (Same.eq .refl) ⟨by simp, hp⟩ ?_
    (repeat clear hp)
    rintro u2 seen w16 ⟨hsn, hp⟩
    (repeat (with_reducible first | apply WP_seq | apply WP_region))
    (apply wls; exact st_next hp 0 2 rfl rfl hok rfl; rintro _ w17 (⟨rfl, hall, hp⟩ | ⟨⟨a, v, bn⟩, hq, hqs, rfl, hp⟩))
    rotate_left
    · obtain ⟨n, hn, hv⟩ := hval _ hq
      have hv : v = .int .i64 n := hv
      subst hv
      (repeat (first | (with_reducible first | apply WP_seq | apply wpl_nil | apply thenQ_n) | (apply wlp; (apply pv_extract <;> exact rfl); exact fB rfl)))
      refine WP_cond_t rfl ?_
      (repeat (with_reducible first | apply WP_seq | apply WP_block | apply WP_region | apply thenQ_n | apply WP_skip))
      (apply wlp; exact pv_entry hp 0 2 rfl rfl hok hq rfl; exact fU rfl)
      (repeat (first | (with_reducible first | apply WP_seq | apply WP_region | apply wpl_nil | apply thenQ_n) | (apply wlp; ((first | apply pv_move | apply pv_assign | apply pv_extract) <;> exact rfl); (first | exact fI rfl | exact fT rfl | exact fM rfl))))
      (apply wlp; exact pv_lookup (K := kStr) (a := a) hp 3 rfl rfl rfl mp90.1 mp90.2.1 mp90.2.2; exact mF_look _ _)
      (apply wlp; exact pv_maxK rfl rfl; exact fI rfl)
      (repeat (first | (with_reducible first | apply wpl_nil | apply thenQ_n) | (apply wlp; (apply pv_gtr <;> exact rfl); exact fB rfl)))
      refine WP_cond_d rfl (fun h2 => ?_) (fun h2 => ?_)
      · (repeat (first | (with_reducible first | apply WP_seq | apply WP_region | apply wpl_nil | apply thenQ_n | apply thenQ_ret | apply inBlk_ret | apply WP_ret) | (apply wlp; apply pv_assign; exact fB rfl)))
        refine ret_mark rfl rfl rfl (Hp.df hp 4 rfl) ⟨_, rfl, ⟨false, rfl, ?_⟩, hfin hp⟩
        constructor
        · intro h0; cases h0
        · intro h0
          have h1 := h0.cap a n (by rw [← hHO]; exact hn)
          omega
      · (repeat (with_reducible first | apply thenQ_n | apply inBlk_n | apply WP_skip))
        refine ⟨seen.push bn, Same.eq (by repeat (first | exact Same.hav | exact Same.refl | refine Same.put rfl ?_ | refine Same.havs rfl ?_)), ⟨?_, hp⟩, leftN_push hq hqs⟩
        intro q' hq' hs' n' hn'
        rw [Array.mem_push] at hs'
        rcases hs' with hs' | hs'
        · exact hsn q' hq' hs' n' hn'
        · have he : q' = (a, .int .i64 n, bn) := nd_inj hok.nd hq' hq hs'
          subst he
          have hn' : HO a = some n' := hn'
          have hn : HO a = some n := hn
          rw [hn] at hn'
          cases hn'
          show n ≤ max ((stO ps a).getD 0) 0
          omega
    have hcap : ∀ a n, hoF x a = some n → n ≤ max ((stO ps a).getD 0) 0 := by
      intro a n hn
      rw [← hHO] at hn
      have h1 : lk lst a = some (.int .i64 n) := by
        rw [hlk]
        unfold mF
        rw [hn]
        rfl
      obtain ⟨q, hq, rfl, _⟩ := lk_ex h1
      exact hsn q hq (hall q hq) n hn
    have hp := hp.weak (i := 2) rfl (mapX_E hlk hok)
    have hp : Hp w [] w17 (stM lm hm am D tb b9 b4 l.length ps.length cP nm sP LA HO (stO ps) TT) := hp.picks [1, 2, 3, 4, 5, 6, 7] _ rfl rfl
    clear hsn hall hval hlk hok
    (repeat (first | (with_reducible first | apply WP_seq | apply wpl_nil | apply thenQ_n) | (apply wlp; (apply pv_extract <;> exact rfl); exact fB rfl)))
    refine WP_cond_f rfl ?_
    (repeat (first | (with_reducible first | apply WP_seq | apply WP_block | apply WP_region | apply wpl_nil | apply thenQ_n | apply thenQ_exit | apply WP_exit) | ((with_reducible apply inBlk_same); exact rfl) | (apply wlp; ((first | apply pv_move | (apply pf_len; exact rfl)) <;> exact rfl); (first | exact fI rfl | exact fS rfl))))
    refine WP_loopS [8, 19, 20, 21, 22, 24, 25, 26, 95, 96, 97, 98, 99, 100, 101, 102, 103, 104, 105, 106, 107, 108, 109, 110, 111, 112, 113, 114, 115, 116, 117, 118, 119, 120, 121, 122, 123, 124, 125, 126, 127, 128, 129, 130, 131, 132, 133, 134, 135, 136, 137, 138, 139, 140, 141, 142, 143, 144, 145, 146, 147, 148, 149, 150] (fun (i : Nat) F => F.put 95 (.int .i64 (i : Int))) (fun i w' => i ≤ l.length ∧ (∀ k, k < i → okE l ps (trn l ord) x k) ∧ Hp w [] w' (stM lm hm am D tb b9 b4 l.length ps.length cP nm sP LA HO (stO ps) TT)) (fun i => l.length - i) 0 (put_self (Same.eq .refl) rfl) ⟨Nat.zero_le _, fun k hk => absurd hk (by omega), hp⟩ ?_
    (repeat clear hp)
    clear hi h
    rintro u3 i w18 ⟨hi, hoks, hp⟩
    (repeat (first | (with_reducible first | apply WP_seq | apply WP_region | apply wpl_nil | apply thenQ_n) | (apply wlp; (apply pv_lss <;> exact rfl); exact fB rfl)))
    refine WP_cond_d rfl (fun h => ?_) (fun h => ?_)
    · have hlt : i < l.length := by omega
      have hltx : i < x.length := by omega
      have hltT : i < TT.length := by omega
      obtain ⟨bE, oE, hsE, hcE⟩ := hE.at_.base (by omega)
      have hcn := hcE i _ (List.getElem?_eq_getElem hlt)
      have hws := hE.ws l[i] (List.getElem_mem hlt)
      have hwl := hE.len l[i] (List.getElem_mem hlt)
      have hwc := hec l[i] (List.getElem_mem hlt)
      have hwsh : wsh l (i : Int) = l[i].wl := by
        unfold wsh
        rw [Int.toNat_natCast, List.getElem?_eq_getElem hlt]
        rfl
      obtain ⟨b0, o0, hs0, hc0⟩ := hsx.base (by omega)
      have hci := hc0 i _ (List.getElem?_eq_getElem hltx) 0 _ rfl
      have hxa : xa x (i : Int) = x[i] := by
        unfold xa
        rw [Int.toNat_natCast, List.getElem?_eq_getElem hltx]
        rfl
      have hgt := List.getElem?_eq_getElem hltT
      generalize l[i] = e at hcn hws hwl hwsh hwc
      generalize x[i] = p at hci hxa
      generalize TT[i] = t at hgt
      have hci : w.cell? ⟨b0, o0 + i * 1, none⟩ = some (.string p) := hci
      have hokE : okE l ps (trn l ord) x i ↔ (prefOk e.wl p = true ∧ ∀ y ∈ bef e.wl p, badW ps HO LA t y = false) := by
        unfold okE
        rw [hwsh, hxa, ← hTT, hgt, ← hHO, ← hLA]
        rfl
      (repeat (first | (with_reducible first | apply WP_seq | apply WP_block | apply WP_region | apply thenQ_n | apply WP_skip) | (apply wlp; ((first | apply pv_move | (apply pf_loadb; exact rfl) | (apply pf_index; exact rfl)) <;> (first | exact rfl | assumption)); (first | exact fI rfl | exact fP rfl))))
      (apply wlp; exact pf_loads (vs := eE e) rfl rfl rfl rfl (fun j v hv => hp.old0 (hcn j v hv)); exact fA6 rfl)
      (apply wls; exact salloc6 hp (zeroTy_ok rfl); rintro _ w19 ⟨pb, rfl, hp⟩)
      (repeat (apply wlp; apply pv_assign; exact fI rfl))
      (apply wls0; exact sstore6 hp 0 rfl rfl rfl rfl (sizeTy_ok rfl) rfl; rintro _ w20 ⟨rfl, hp⟩)
      have hp := hp.norm 0 (eE e) rfl rfl
      have hp : Hp w [] w20 (blk pb 6 (frOf (eE e)) 41 :: stM lm hm am D tb b9 b4 l.length ps.length cP nm sP LA HO (stO ps) TT) := hp
      by_cases hpo : prefOk e.wl p = true
      · (repeat (with_reducible first | apply WP_seq | apply wpl_nil | apply thenQ_n))
        refine WP_draw mixed (by kernel_rfl) (fun w' => Hp _ _ w' _) hp.drew ?_
        have hp := hp.drew
        (repeat ((apply wdp; exact rfl); (intro w hp; intros; ((first | apply pv_move | apply pf_field | (apply pf_load; exact rfl) | (apply pf_index; exact rfl)) <;> (first | exact rfl | assumption | exact hp.cell 0 rfl rfl | exact hp.old0 (by assumption)))); (intros; (first | exact fI rfl | exact fP rfl | exact fS rfl | exact fT rfl))))
        (apply wds; exact rfl; exact st_call rfl ent56 rfl (p56 e.wl p e.ws e.wc _ (hws.keep0 hp.keeps) hwl hwc); rintro _ w21 ⟨hv, hk⟩; rw [if_pos hpo] at hv; subst hv; have hp := hp.call hk; refine ⟨hp, ?_⟩)
        (repeat ((apply wdp; exact rfl); (intro w hp; intros; ((first | apply pv_move | apply pv_assign | apply pv_extract) <;> exact rfl)); (intros; (first | exact fB rfl | exact fS rfl | exact fU rfl))))
        refine wpd_nil ?_
        (repeat (first | (with_reducible first | apply WP_seq | apply WP_region | apply wpl_nil | apply thenQ_n) | (apply wlp; ((first | apply pv_move | apply pv_not) <;> exact rfl); exact fB rfl)))
        refine WP_cond_f rfl ?_
        have hbl := bef_len e.wl p
        have hwb := bef_sl (p := p) hws
        obtain ⟨BB, hBB⟩ : ∃ BB, BB = bef e.wl p := ⟨_, rfl⟩
        rw [← hBB] at hbl hwb hokE
        rw [← hBB]
        (repeat (first | (with_reducible first | apply WP_seq | apply WP_block | apply WP_region | apply wpl_nil | apply thenQ_n | apply WP_skip) | (apply wlp; ((first | apply pv_move | (apply pf_len; exact rfl)) <;> exact rfl); (first | exact fI rfl | exact fS rfl))))
        refine WP_loopS [8, 24, 25, 26, 114, 115, 116, 117, 118, 119, 120, 121, 122, 123, 124, 125, 126, 127, 128, 129, 130, 131, 132, 133, 134, 135, 136, 137, 138, 139, 140, 141, 142, 143, 144, 145, 146, 147, 148, 149] (fun (j : Nat) F => F.put 114 (.int .i64 (j : Int))) (fun j w' => j ≤ BB.length ∧ (∀ y ∈ BB.take j, badW ps HO LA t y = false) ∧ Hp w [] w' (blk pb 6 (frOf (eE e)) 41 :: stM lm hm am D tb b9 b4 l.length ps.length cP nm sP LA HO (stO ps) TT)) (fun j => BB.length - j) 0 (put_self (Same.eq .refl) rfl) ⟨Nat.zero_le _, by simp, hp⟩ ?_
        (repeat clear hp)
        rintro u4 j w22 ⟨hj, hno, hp⟩
        (repeat (first | (with_reducible first | apply WP_seq | apply WP_region | apply wpl_nil | apply thenQ_n) | (apply wlp; (apply pv_lss <;> exact rfl); exact fB rfl)))
        refine WP_cond_d rfl (fun h5 => ?_) (fun h5 => ?_)
        · have hjl : j < BB.length := by omega
          obtain ⟨b1, o1, hs1, hc1⟩ := hwb.base (by omega)
          have hcj := hc1 j _ (List.getElem?_eq_getElem hjl) 0 _ rfl
          have htk := List.take_succ_eq_append_getElem hjl
          have hyb := List.getElem_mem hjl
          generalize BB[j] = y at hcj htk hyb
          have hcj : w.cell? ⟨b1, o1 + j * 1, none⟩ = some (.string y) := hcj
          (repeat (first | (with_reducible first | apply WP_seq | apply WP_block | apply WP_region | apply wpl_nil | apply thenQ_n | apply WP_skip) | (apply wlp; ((first | apply pv_move | apply pv_assign | (apply pf_load; exact rfl) | (apply pf_index; exact rfl)) <;> (first | exact rfl | assumption | exact hp.old0 (by assumption))); (first | exact fP rfl | exact fT rfl | exact fM rfl))))
          (apply wlp; exact pv_lookup_ok (K := kStr) (a := y) hp 3 rfl rfl rfl mp90.1 mp90.2.1 mp90.2.2; exact fU rfl)
          rw [mF_some, mF_look]
          by_cases hkn : (stO ps y).isSome = true
          · rw [hkn]
            by_cases hH : (HO y).getD 0 = max ((stO ps y).getD 0) 0
            · by_cases hH0 : 0 < (HO y).getD 0
              · by_cases hHt : t < (LA y).getD 0
                · have hbad : badW ps HO LA t y = true := by unfold badW; rw [hkn, decide_eq_true hH, decide_eq_true hH0, decide_eq_true hHt]; rfl
                  (repeat (first | (with_reducible first | apply WP_seq | apply wpl_nil | apply thenQ_n) | (apply wlp; ((first | apply pv_move | apply pv_assign | apply pv_extract) <;> exact rfl); (first | exact fI rfl | exact fB rfl | exact fU rfl))))
                  refine WP_draw mixed (by kernel_rfl) (fun w' => Hp _ _ w' _) hp.drew ?_
                  have hp := hp.drew
                  (repeat (first | ((apply wdp; exact rfl); (intro w hp; intros; apply pv_move); (intros; (first | exact fB rfl | exact fT rfl | exact fM rfl))) | ((apply wdpT; exact rfl; exact rfl; exact rfl); (intro w hp; apply pv_move); (intros; (first | exact fB rfl | exact fT rfl | exact fM rfl))) | (apply wdpF; exact rfl; exact rfl; exact rfl; exact rfl) | (apply wdpU; exact rfl; exact rfl; exact rfl)))
                  (apply wdpT; exact rfl; exact rfl; exact rfl; (intro w hp; exact pv_lookup (K := kStr) (a := y) hp 2 rfl rfl rfl mp90.1 mp90.2.1 mp90.2.2); exact mF_look _ _)
                  (repeat (first | ((apply wdpT; exact rfl; exact rfl; exact rfl); (intro w hp; apply pv_move); (intros; exact fI rfl)) | (apply wdpF; exact rfl; exact rfl; exact rfl; exact rfl) | (apply wdpU; exact rfl; exact rfl; exact rfl)))
                  (apply wdpT; exact rfl; exact rfl; exact rfl; (intro w hp; exact pv_maxK rfl rfl); exact fI rfl)
                  (apply wdpT; exact rfl; exact rfl; exact rfl; (intro w hp; exact pv_neq rfl rfl); exact bool_eq (b := false) (by rw [decide_eq_true hH]; rfl))
                  (repeat (first | ((apply wdpT; exact rfl; exact rfl; exact rfl); (intro w hp; apply pv_move); (intros; (first | exact fB rfl | exact fT rfl | exact fM rfl))) | (apply wdpF; exact rfl; exact rfl; exact rfl; exact rfl) | (apply wdpU; exact rfl; exact rfl; exact rfl)))
                  (apply wdpT; exact rfl; exact rfl; exact rfl; (intro w hp; exact pv_lookup (K := kStr) (a := y) hp 2 rfl rfl rfl mp90.1 mp90.2.1 mp90.2.2); exact mF_look _ _)
                  (apply wdpT; exact rfl; exact rfl; exact rfl; (intro w hp; exact pv_gtr rfl rfl); exact bool_eq (b := true) (decide_eq_true hH0))
                  (repeat (first | ((apply wdpT; exact rfl; exact rfl; exact rfl); (intro w hp; apply pv_move); (intros; (first | exact fB rfl | exact fT rfl | exact fM rfl))) | (apply wdpF; exact rfl; exact rfl; exact rfl; exact rfl) | (apply wdpU; exact rfl; exact rfl; exact rfl)))
                  (apply wdpT; exact rfl; exact rfl; exact rfl; (intro w hp; exact pv_lookup (K := kStr) (a := y) hp 1 rfl rfl rfl mp90.1 mp90.2.1 mp90.2.2); exact mF_look _ _)
                  (repeat (first | ((apply wdpT; exact rfl; exact rfl; exact rfl); (intro w hp; ((first | apply pv_move | (apply pf_load; exact rfl) | (apply pf_index; exact rfl)) <;> (first | exact rfl | assumption | exact hp.cell 6 rfl rfl))); (intros; (first | exact fI rfl | exact fP rfl | exact fS rfl))) | (apply wdpF; exact rfl; exact rfl; exact rfl; exact rfl) | (apply wdpU; exact rfl; exact rfl; exact rfl)))
                  (apply wdpT; exact rfl; exact rfl; exact rfl; (intro w hp; exact pf_load rfl rfl (own_elem hp 5 rfl hvT (fun _ => rfl) hgt 0 _ rfl)); exact fI rfl)
                  (apply wdpT; exact rfl; exact rfl; exact rfl; (intro w hp; exact pv_gtr rfl rfl); exact bool_eq (b := true) (decide_eq_true hHt))
                  (repeat (first | ((apply wdp; exact rfl); (intro w hp; intros; (first | exact pv_andT rfl rfl | exact pv_orF rfl rfl)); (intros; exact fB rfl)) | ((apply wdpT; exact rfl; exact rfl; exact rfl); (intro w hp; (first | exact pv_andT rfl rfl | exact pv_orF rfl rfl)); (intros; exact fB rfl)) | (apply wdpF; exact rfl; exact rfl; exact rfl; exact rfl) | (apply wdpU; exact rfl; exact rfl; exact rfl)))
                  refine wpd_nil ?_
                  refine WP_cond_t rfl ?_
                  (repeat (first | (with_reducible first | apply WP_seq | apply WP_region | apply wpl_nil | apply thenQ_n | apply thenQ_ret | apply inBlk_ret | apply WP_ret) | (apply wlp; apply pv_assign; exact fB rfl)))
                  refine ret_mark rfl rfl rfl (Hp.df hp 4 rfl) ⟨_, rfl, ⟨false, rfl, ?_⟩, hfin hp⟩
                  constructor
                  · intro h0; cases h0
                  · intro h0
                    have h1 := (hokE.1 (h0.ok i hlt)).2 y hyb
                    rw [hbad] at h1
                    cases h1
                · have hbad : badW ps HO LA t y = false := by unfold badW; rw [hkn, decide_eq_true hH, decide_eq_true hH0, decide_eq_false hHt]; rfl
                  (repeat (first | (with_reducible first | apply WP_seq | apply wpl_nil | apply thenQ_n) | (apply wlp; ((first | apply pv_move | apply pv_assign | apply pv_extract) <;> exact rfl); (first | exact fI rfl | exact fB rfl | exact fU rfl))))
                  refine WP_draw mixed (by kernel_rfl) (fun w' => Hp _ _ w' _) hp.drew ?_
                  have hp := hp.drew
                  (repeat (first | ((apply wdp; exact rfl); (intro w hp; intros; apply pv_move); (intros; (first | exact fB rfl | exact fT rfl | exact fM rfl))) | ((apply wdpT; exact rfl; exact rfl; exact rfl); (intro w hp; apply pv_move); (intros; (first | exact fB rfl | exact fT rfl | exact fM rfl))) | (apply wdpF; exact rfl; exact rfl; exact rfl; exact rfl) | (apply wdpU; exact rfl; exact rfl; exact rfl)))
                  (apply wdpT; exact rfl; exact rfl; exact rfl; (intro w hp; exact pv_lookup (K := kStr) (a := y) hp 2 rfl rfl rfl mp90.1 mp90.2.1 mp90.2.2); exact mF_look _ _)
                  (repeat (first | ((apply wdpT; exact rfl; exact rfl; exact rfl); (intro w hp; apply pv_move); (intros; exact fI rfl)) | (apply wdpF; exact rfl; exact rfl; exact rfl; exact rfl) | (apply wdpU; exact rfl; exact rfl; exact rfl)))
                  (apply wdpT; exact rfl; exact rfl; exact rfl; (intro w hp; exact pv_maxK rfl rfl); exact fI rfl)
                  (apply wdpT; exact rfl; exact rfl; exact rfl; (intro w hp; exact pv_neq rfl rfl); exact bool_eq (b := false) (by rw [decide_eq_true hH]; rfl))
                  (repeat (first | ((apply wdpT; exact rfl; exact rfl; exact rfl); (intro w hp; apply pv_move); (intros; (first | exact fB rfl | exact fT rfl | exact fM rfl))) | (apply wdpF; exact rfl; exact rfl; exact rfl; exact rfl) | (apply wdpU; exact rfl; exact rfl; exact rfl)))
                  (apply wdpT; exact rfl; exact rfl; exact rfl; (intro w hp; exact pv_lookup (K := kStr) (a := y) hp 2 rfl rfl rfl mp90.1 mp90.2.1 mp90.2.2); exact mF_look _ _)
                  (apply wdpT; exact rfl; exact rfl; exact rfl; (intro w hp; exact pv_gtr rfl rfl); exact bool_eq (b := true) (decide_eq_true hH0))
                  (repeat (first | ((apply wdpT; exact rfl; exact rfl; exact rfl); (intro w hp; apply pv_move); (intros; (first | exact fB rfl | exact fT rfl | exact fM rfl))) | (apply wdpF; exact rfl; exact rfl; exact rfl; exact rfl) | (apply wdpU; exact rfl; exact rfl; exact rfl)))
                  (apply wdpT; exact rfl; exact rfl; exact rfl; (intro w hp; exact pv_lookup (K := kStr) (a := y) hp 1 rfl rfl rfl mp90.1 mp90.2.1 mp90.2.2); exact mF_look _ _)
                  (repeat (first | ((apply wdpT; exact rfl; exact rfl; exact rfl); (intro w hp; ((first | apply pv_move | (apply pf_load; exact rfl) | (apply pf_index; exact rfl)) <;> (first | exact rfl | assumption | exact hp.cell 6 rfl rfl))); (intros; (first | exact fI rfl | exact fP rfl | exact fS rfl))) | (apply wdpF; exact rfl; exact rfl; exact rfl; exact rfl) | (apply wdpU; exact rfl; exact rfl; exact rfl)))
                  (apply wdpT; exact rfl; exact rfl; exact rfl; (intro w hp; exact pf_load rfl rfl (own_elem hp 5 rfl hvT (fun _ => rfl) hgt 0 _ rfl)); exact fI rfl)
                  (apply wdpT; exact rfl; exact rfl; exact rfl; (intro w hp; exact pv_gtr rfl rfl); exact bool_eq (b := false) (decide_eq_false hHt))
                  (repeat (first | ((apply wdp; exact rfl); (intro w hp; intros; (first | exact pv_andT rfl rfl | exact pv_orF rfl rfl)); (intros; exact fB rfl)) | ((apply wdpT; exact rfl; exact rfl; exact rfl); (intro w hp; (first | exact pv_andT rfl rfl | exact pv_orF rfl rfl)); (intros; exact fB rfl)) | (apply wdpF; exact rfl; exact rfl; exact rfl; exact rfl) | (apply wdpU; exact rfl; exact rfl; exact rfl)))
                  refine wpd_nil ?_
                  refine WP_cond_f rfl ?_
                  (repeat (with_reducible first | apply WP_region | apply thenQ_n | apply inBlk_n | apply WP_skip))
                  (apply wlp; (exact pv_add rfl rfl); exact int_eq (b := ((j + 1 : Nat) : Int)) (by rw [i64_in (by omega) (by omega)]; omega))
                  (repeat (first | (with_reducible first | apply wpl_nil | apply thenQ_n) | (apply wlp; apply pv_move; exact fI rfl)))
                  refine ⟨j + 1, put_self (Same.eq (by repeat (first | exact Same.hav | exact Same.refl | refine Same.put rfl ?_ | refine Same.havs rfl ?_))) rfl, ⟨by omega, ?_, hp⟩, by omega⟩
                  intro z hz
                  rw [htk] at hz
                  rcases List.mem_append.1 hz with hz | hz
                  · exact hno z hz
                  · rw [List.mem_singleton.1 hz]
                    exact hbad
              · have hbad : badW ps HO LA t y = false := by unfold badW; rw [hkn, decide_eq_true hH, decide_eq_false hH0]; rfl
                (repeat (first | (with_reducible first | apply WP_seq | apply wpl_nil | apply thenQ_n) | (apply wlp; ((first | apply pv_move | apply pv_assign | apply pv_extract) <;> exact rfl); (first | exact fI rfl | exact fB rfl | exact fU rfl))))
                refine WP_draw mixed (by kernel_rfl) (fun w' => Hp _ _ w' _) hp.drew ?_
                have hp := hp.drew
                (repeat (first | ((apply wdp; exact rfl); (intro w hp; intros; apply pv_move); (intros; (first | exact fB rfl | exact fT rfl | exact fM rfl))) | ((apply wdpT; exact rfl; exact rfl; exact rfl); (intro w hp; apply pv_move); (intros; (first | exact fB rfl | exact fT rfl | exact fM rfl))) | (apply wdpF; exact rfl; exact rfl; exact rfl; exact rfl) | (apply wdpU; exact rfl; exact rfl; exact rfl)))
                (apply wdpT; exact rfl; exact rfl; exact rfl; (intro w hp; exact pv_lookup (K := kStr) (a := y) hp 2 rfl rfl rfl mp90.1 mp90.2.1 mp90.2.2); exact mF_look _ _)
                (repeat (first | ((apply wdpT; exact rfl; exact rfl; exact rfl); (intro w hp; apply pv_move); (intros; exact fI rfl)) | (apply wdpF; exact rfl; exact rfl; exact rfl; exact rfl) | (apply wdpU; exact rfl; exact rfl; exact rfl)))
                (apply wdpT; exact rfl; exact rfl; exact rfl; (intro w hp; exact pv_maxK rfl rfl); exact fI rfl)
                (apply wdpT; exact rfl; exact rfl; exact rfl; (intro w hp; exact pv_neq rfl rfl); exact bool_eq (b := false) (by rw [decide_eq_true hH]; rfl))
                (repeat (first | ((apply wdpT; exact rfl; exact rfl; exact rfl); (intro w hp; apply pv_move); (intros; (first | exact fB rfl | exact fT rfl | exact fM rfl))) | (apply wdpF; exact rfl; exact rfl; exact rfl; exact rfl) | (apply wdpU; exact rfl; exact rfl; exact rfl)))
                (apply wdpT; exact rfl; exact rfl; exact rfl; (intro w hp; exact pv_lookup (K := kStr) (a := y) hp 2 rfl rfl rfl mp90.1 mp90.2.1 mp90.2.2); exact mF_look _ _)
                (apply wdpT; exact rfl; exact rfl; exact rfl; (intro w hp; exact pv_gtr rfl rfl); exact bool_eq (b := false) (decide_eq_false hH0))
                (repeat (first | ((apply wdp; exact rfl); (intro w hp; intros; (first | apply pv_move | exact pv_andF rfl | exact pv_andT rfl rfl | exact pv_orF rfl rfl)); (intros; exact fB rfl)) | ((apply wdpT; exact rfl; exact rfl; exact rfl); (intro w hp; (first | apply pv_move | exact pv_andF rfl | exact pv_andT rfl rfl | exact pv_orF rfl rfl)); (intros; exact fB rfl)) | (apply wdpF; exact rfl; exact rfl; exact rfl; exact rfl) | (apply wdpU; exact rfl; exact rfl; exact rfl)))
                refine wpd_nil ?_
                refine WP_cond_f rfl ?_
                (repeat (with_reducible first | apply WP_region | apply thenQ_n | apply inBlk_n | apply WP_skip))
                (apply wlp; (exact pv_add rfl rfl); exact int_eq (b := ((j + 1 : Nat) : Int)) (by rw [i64_in (by omega) (by omega)]; omega))
                (repeat (first | (with_reducible first | apply wpl_nil | apply thenQ_n) | (apply wlp; apply pv_move; exact fI rfl)))
                refine ⟨j + 1, put_self (Same.eq (by repeat (first | exact Same.hav | exact Same.refl | refine Same.put rfl ?_ | refine Same.havs rfl ?_))) rfl, ⟨by omega, ?_, hp⟩, by omega⟩
                intro z hz
                rw [htk] at hz
                rcases List.mem_append.1 hz with hz | hz
                · exact hno z hz
                · rw [List.mem_singleton.1 hz]
                  exact hbad
            · have hbad : badW ps HO LA t y = true := by unfold badW; rw [hkn, decide_eq_false hH]; rfl
              (repeat (first | (with_reducible first | apply WP_seq | apply wpl_nil | apply thenQ_n) | (apply wlp; ((first | apply pv_move | apply pv_assign | apply pv_extract) <;> exact rfl); (first | exact fI rfl | exact fB rfl | exact fU rfl))))
              refine WP_draw mixed (by kernel_rfl) (fun w' => Hp _ _ w' _) hp.drew ?_
              have hp := hp.drew
              (repeat (first | ((apply wdp; exact rfl); (intro w hp; intros; apply pv_move); (intros; (first | exact fB rfl | exact fT rfl | exact fM rfl))) | ((apply wdpT; exact rfl; exact rfl; exact rfl); (intro w hp; apply pv_move); (intros; (first | exact fB rfl | exact fT rfl | exact fM rfl))) | (apply wdpF; exact rfl; exact rfl; exact rfl; exact rfl) | (apply wdpU; exact rfl; exact rfl; exact rfl)))
              (apply wdpT; exact rfl; exact rfl; exact rfl; (intro w hp; exact pv_lookup (K := kStr) (a := y) hp 2 rfl rfl rfl mp90.1 mp90.2.1 mp90.2.2); exact mF_look _ _)
              (repeat (first | ((apply wdpT; exact rfl; exact rfl; exact rfl); (intro w hp; apply pv_move); (intros; exact fI rfl)) | (apply wdpF; exact rfl; exact rfl; exact rfl; exact rfl) | (apply wdpU; exact rfl; exact rfl; exact rfl)))
              (apply wdpT; exact rfl; exact rfl; exact rfl; (intro w hp; exact pv_maxK rfl rfl); exact fI rfl)
              (apply wdpT; exact rfl; exact rfl; exact rfl; (intro w hp; exact pv_neq rfl rfl); exact bool_eq (b := true) (by rw [decide_eq_false hH]; rfl))
              (repeat (first | ((apply wdp; exact rfl); (intro w hp; intros; (first | apply pv_move | exact pv_orT rfl | exact pv_andT rfl rfl)); (intros; exact fB rfl)) | ((apply wdpT; exact rfl; exact rfl; exact rfl); (intro w hp; (first | apply pv_move | exact pv_orT rfl | exact pv_andT rfl rfl)); (intros; exact fB rfl)) | (apply wdpF; exact rfl; exact rfl; exact rfl; exact rfl) | (apply wdpU; exact rfl; exact rfl; exact rfl)))
              refine wpd_nil ?_
              refine WP_cond_t rfl ?_
              (repeat (first | (with_reducible first | apply WP_seq | apply WP_region | apply wpl_nil | apply thenQ_n | apply thenQ_ret | apply inBlk_ret | apply WP_ret) | (apply wlp; apply pv_assign; exact fB rfl)))
              refine ret_mark rfl rfl rfl (Hp.df hp 4 rfl) ⟨_, rfl, ⟨false, rfl, ?_⟩, hfin hp⟩
              constructor
              · intro h0; cases h0
              · intro h0
                have h1 := (hokE.1 (h0.ok i hlt)).2 y hyb
                rw [hbad] at h1
                cases h1
          · have hkn : (stO ps y).isSome = false := by simpa using hkn
            have hbad : badW ps HO LA t y = false := by unfold badW; rw [hkn]; rfl
            rw [hkn]
            (repeat (first | (with_reducible first | apply WP_seq | apply wpl_nil | apply thenQ_n) | (apply wlp; ((first | apply pv_move | apply pv_assign | apply pv_extract) <;> exact rfl); (first | exact fI rfl | exact fB rfl | exact fU rfl))))
            refine WP_draw mixed (by kernel_rfl) (fun w' => Hp _ _ w' _) hp.drew ?_
            have hp := hp.drew
            (repeat (first | ((apply wdp; exact rfl); (intro w hp; intros; (first | apply pv_move | exact pv_andF rfl)); (intros; exact fB rfl)) | (apply wdpF; exact rfl; exact rfl; exact rfl; exact rfl) | (apply wdpU; exact rfl; exact rfl; exact rfl)))
            refine wpd_nil ?_
            refine WP_cond_f rfl ?_
            (repeat (with_reducible first | apply WP_region | apply thenQ_n | apply inBlk_n | apply WP_skip))
            (apply wlp; (exact pv_add rfl rfl); exact int_eq (b := ((j + 1 : Nat) : Int)) (by rw [i64_in (by omega) (by omega)]; omega))
            (repeat (first | (with_reducible first | apply wpl_nil | apply thenQ_n) | (apply wlp; apply pv_move; exact fI rfl)))
            refine ⟨j + 1, put_self (Same.eq (by repeat (first | exact Same.hav | exact Same.refl | refine Same.put rfl ?_ | refine Same.havs rfl ?_))) rfl, ⟨by omega, ?_, hp⟩, by omega⟩
            intro z hz
            rw [htk] at hz
            rcases List.mem_append.1 hz with hz | hz
            · exact hno z hz
            · rw [List.mem_singleton.1 hz]
              exact hbad
        · rw [List.take_of_length_le (by omega)] at hno
          (repeat (first | (with_reducible first | apply WP_region | apply thenQ_n | apply inBlk_n | apply thenQ_exit | apply WP_exit) | ((with_reducible apply inBlk_same); exact rfl)))
          (apply wlp; (exact pv_add rfl rfl); exact int_eq (b := ((i + 1 : Nat) : Int)) (by rw [i64_in (by omega) (by omega)]; omega))
          (repeat (first | (with_reducible first | apply wpl_nil | apply thenQ_n) | (apply wlp; apply pv_move; exact fI rfl)))
          refine ⟨i + 1, put_self (Same.eq (by repeat (first | exact Same.hav | exact Same.refl | refine Same.put rfl ?_ | refine Same.havs rfl ?_))) rfl, ⟨by omega, ?_, hp.tail⟩, by omega⟩
          intro k hk
          by_cases hki : k = i
          · subst hki
            exact hokE.2 ⟨hpo, hno⟩
          · exact hoks k (by omega)
      · (repeat (with_reducible first | apply WP_seq | apply wpl_nil | apply thenQ_n))
        refine WP_draw mixed (by kernel_rfl) (fun w' => Hp _ _ w' _) hp.drew ?_
        have hp := hp.drew
        (repeat ((apply wdp; exact rfl); (intro w hp; intros; ((first | apply pv_move | apply pf_field | (apply pf_load; exact rfl) | (apply pf_index; exact rfl)) <;> (first | exact rfl | assumption | exact hp.cell 0 rfl rfl | exact hp.old0 (by assumption)))); (intros; (first | exact fI rfl | exact fP rfl | exact fS rfl | exact fT rfl))))
        (apply wds; exact rfl; exact st_call rfl ent56 rfl (p56 e.wl p e.ws e.wc _ (hws.keep0 hp.keeps) hwl hwc); rintro _ w21 ⟨hv, hk⟩; rw [if_neg hpo] at hv; obtain ⟨z, rfl⟩ := hv; have hp := hp.call hk; refine ⟨hp, ?_⟩)
        (repeat ((apply wdp; exact rfl); (intro w hp; intros; ((first | apply pv_move | apply pv_assign | apply pv_extract) <;> exact rfl)); (intros; (first | exact fB rfl | exact fU rfl | exact rfl))))
        refine wpd_nil ?_
        (repeat (first | (with_reducible first | apply WP_seq | apply WP_region | apply wpl_nil | apply thenQ_n) | (apply wlp; ((first | apply pv_move | apply pv_not) <;> exact rfl); exact fB rfl)))
        refine WP_cond_t rfl ?_
        (repeat (first | (with_reducible first | apply WP_seq | apply WP_region | apply wpl_nil | apply thenQ_n | apply thenQ_ret | apply inBlk_ret | apply WP_ret) | (apply wlp; apply pv_assign; exact fB rfl)))
        refine ret_mark rfl rfl rfl (Hp.df hp 4 rfl) ⟨_, rfl, ⟨false, rfl, ?_⟩, hfin hp⟩
        constructor
        · intro h0; cases h0
        · intro h0
          exact absurd (hokE.1 (h0.ok i hlt)).1 hpo
    · have hall : ∀ k, k < l.length → okE l ps (trn l ord) x k := fun k hk => hoks k (by omega)
      (repeat (first | (with_reducible first | apply WP_seq | apply WP_region | apply wpl_nil | apply thenQ_n | apply thenQ_exit | apply WP_ret | apply WP_exit) | ((with_reducible apply inBlk_same); exact rfl) | (apply wlp; apply pv_assign; exact fB rfl)))
      refine ret_mark rfl rfl rfl (Hp.df hp 3 rfl) ⟨_, rfl, ⟨true, rfl, ?_⟩, hfin hp⟩
      constructor
      · intro _; exact ⟨hcap, hall⟩
      · intro _; rfl
end Go.Proofs.YtfjbioghpgmkiaaGreatDoor
/- places: what Stable computes says that the list is the one that is given out; plain. -/
namespace Go.Proofs.YtfjbioghpgmkiaaGreatDoor
open Go.Eng Go.Dig

theorem hoF_noN (x : List ByteArray) : hoF x noN = none := by
  induction x using rev_ind with
  | nil => rfl
  | append_singleton x w ih =>
    rw [hoF_snoc]
    unfold stepH
    split
    · exact ih
    · rename_i h
      show (if noN = w then _ else hoF x noN) = none
      rw [if_neg (fun e => h e.symm)]
      exact ih
theorem cS_snoc (x : List ByteArray) (a w : ByteArray) : cS (x ++ [a]) w = cS x w + if a = w then 1 else 0 := by
  unfold cS
  rw [List.countP_append, List.countP_cons, List.countP_nil]
  by_cases h : a = w <;> simp [h]
theorem hoF_val (x : List ByteArray) {w : ByteArray} (hw : w ≠ noN) : (hoF x w).getD 0 = (cS x w : Int) := by
  induction x using rev_ind with
  | nil => rfl
  | append_singleton x a ih =>
    rw [hoF_snoc, cS_snoc]
    unfold stepH
    split
    · rename_i h
      rw [ih, if_neg (fun e => hw (by rw [← e, h]))]
      omega
    · show (if w = a then some ((hoF x a).getD 0 + 1) else hoF x w).getD 0 = _
      by_cases e : w = a
      · subst e
        rw [if_pos rfl, if_pos rfl, Option.getD_some, ih]
        omega
      · rw [if_neg e, if_neg (fun e2 => e e2.symm), ih]
        omega
theorem laF_lt (q : List (ByteArray × Int)) {w : ByteArray} (hw : w ≠ noN) {t : Int} (ht : 0 ≤ t) : t < (laF q w).getD 0 ↔ ∃ p ∈ q, p.1 = w ∧ t < p.2 := by
  induction q using rev_ind with
  | nil =>
    constructor
    · intro h
      have h : t < 0 := h
      omega
    · rintro ⟨p, hp, _⟩
      cases hp
  | append_singleton q p ih =>
    rw [laF_snoc]
    unfold stepLa
    split
    · rename_i h
      rw [ih]
      constructor
      · rintro ⟨p', h1, h2⟩
        exact ⟨p', List.mem_append_left _ h1, h2⟩
      · rintro ⟨p', h1, h2, h3⟩
        rcases List.mem_append.1 h1 with h1 | h1
        · exact ⟨p', h1, h2, h3⟩
        · rw [List.mem_singleton.1 h1] at h2
          exact absurd (by rw [← h2, h]) hw
    · show t < (if w = p.1 then some (max ((laF q p.1).getD 0) p.2) else laF q w).getD 0 ↔ _
      by_cases e : w = p.1
      · rw [if_pos e, ← e, Option.getD_some]
        constructor
        · intro h
          by_cases h1 : t < (laF q w).getD 0
          · obtain ⟨p', h2, h3⟩ := ih.1 h1
            exact ⟨p', List.mem_append_left _ h2, h3⟩
          · exact ⟨p, by simp, e.symm, by omega⟩
        · rintro ⟨p', h1, h2, h3⟩
          rcases List.mem_append.1 h1 with h1 | h1
          · have := ih.2 ⟨p', h1, h2, h3⟩
            omega
          · rw [List.mem_singleton.1 h1] at h3
            omega
      · rw [if_neg e, ih]
        constructor
        · rintro ⟨p', h1, h2⟩
          exact ⟨p', List.mem_append_left _ h1, h2⟩
        · rintro ⟨p', h1, h2, h3⟩
          rcases List.mem_append.1 h1 with h1 | h1
          · exact ⟨p', h1, h2, h3⟩
          · rw [List.mem_singleton.1 h1] at h2
            exact absurd h2.symm e
theorem tnS_at {n : Nat} {A : List Int} {k : Int} (hk : 0 ≤ k) (hkn : k < n) : ∀ B : List Int, (∀ m ∈ B, 0 ≤ m ∧ m ≠ k) → (tnS n (A ++ k :: B)).1[k.toNat]? = some (A.length : Int) := by
  intro B
  induction B using rev_ind with
  | nil =>
    intro _
    rw [tnS_snoc]
    show ((tnS n A).1.set k.toNat ((tnS n A).2 : Int))[k.toNat]? = _
    rw [List.getElem?_set, if_pos rfl, if_pos (by rw [(tnS_num n A).2]; omega), (tnS_num n A).1]
  | append_singleton B m ih =>
    intro h
    have hm := h m (by simp)
    rw [show A ++ k :: (B ++ [m]) = (A ++ k :: B) ++ [m] from by simp, tnS_snoc]
    show ((tnS n (A ++ k :: B)).1.set m.toNat _)[k.toNat]? = _
    rw [List.getElem?_set, if_neg (by have := hm.1; have := hm.2; omega)]
    exact ih fun z hz => h z (List.mem_append_left _ hz)
theorem tn_pos {n : Nat} {T A B : List Int} {k : Int} (hT : Ord n T) (h : T = A ++ k :: B) : (tnS n T).1[k.toNat]? = some (A.length : Int) := by
  have hb := hT.bd k (by rw [h]; simp)
  have hn := hT.nd
  rw [h, List.nodup_append] at hn
  have hkB := (List.nodup_cons.1 hn.2.1).1
  rw [h]
  exact tnS_at hb.1 hb.2 B fun m hm => ⟨(hT.bd m (by rw [h]; simp [hm])).1, fun e => hkB (e ▸ hm)⟩
theorem tn_after {n : Nat} {T A B : List Int} {k j : Int} (hT : Ord n T) (h : T = A ++ k :: B) (hj : j ∈ T) {t : Int} (ht : (tnS n T).1[j.toNat]? = some t) : (A.length : Int) < t ↔ j ∈ B := by
  constructor
  · intro hlt
    rw [h] at hj
    rcases List.mem_append.1 hj with hj | hj
    · obtain ⟨A1, A2, hA⟩ := List.append_of_mem hj
      have := tn_pos hT (A := A1) (k := j) (B := A2 ++ k :: B) (by rw [h, hA]; simp)
      rw [ht] at this
      have : t = (A1.length : Int) := by simpa using this
      rw [hA, List.length_append, List.length_cons] at hlt
      omega
    · rcases List.mem_cons.1 hj with hj | hj
      · subst hj
        have := tn_pos hT h
        rw [ht] at this
        have : t = (A.length : Int) := by simpa using this
        omega
      · exact hj
  · intro hj
    obtain ⟨B1, B2, hB⟩ := List.append_of_mem hj
    have := tn_pos hT (A := A ++ k :: B1) (k := j) (B := B2) (by rw [h, hB]; simp)
    rw [ht] at this
    have : t = ((A ++ k :: B1).length : Int) := by simpa using this
    rw [this, List.length_append, List.length_cons]
    omega
theorem badW_iff {l : List En} {ps : List (ByteArray × Int)} {T A B : List Int} {x : List ByteArray} {k : Int} (hT : Ord l.length T) (hx : x.length = l.length) (h : T = A ++ k :: B) (w : ByteArray) :
    badW ps (hoF x) (laF (x.zip (tnS l.length T).1)) (A.length : Int) w = false ↔ ((stO ps w).isSome = true → (cS x w : Int) = max ((stO ps w).getD 0) 0 ∧ ∀ j ∈ B, xa x j ≠ w) := by
  unfold badW
  cases hs : (stO ps w).isSome with
  | false => simp
  | true =>
    have hw : w ≠ noN := by
      rintro rfl
      rw [stO_noN] at hs
      cases hs
    rw [hoF_val x hw]
    have htl : (tnS l.length T).1.length = l.length := (tnS_num _ _).2
    have hla := laF_lt (x.zip (tnS l.length T).1) hw (t := (A.length : Int)) (by omega)
    have hB : ((A.length : Int) < (laF (x.zip (tnS l.length T).1) w).getD 0) ↔ ∃ j ∈ B, xa x j = w := by
      rw [hla]
      constructor
      · rintro ⟨p, hp, h1, h2⟩
        obtain ⟨i, hi⟩ := List.getElem?_of_mem hp
        rw [List.getElem?_zip_eq_some] at hi
        have hil : i < x.length := (List.getElem?_eq_some_iff.1 hi.1).1
        have hm : (i : Int) ∈ T := hT.all _ (by omega) (by omega)
        refine ⟨(i : Int), (tn_after hT h hm (t := p.2) (by simpa using hi.2)).1 h2, ?_⟩
        unfold xa
        rw [Int.toNat_natCast, hi.1, Option.getD_some, h1]
      · rintro ⟨j, hj, hjw⟩
        have hm : j ∈ T := by rw [h]; simp [hj]
        have hb := hT.bd j hm
        have hjl : j.toNat < (tnS l.length T).1.length := by omega
        have hjx : j.toNat < x.length := by omega
        refine ⟨(x[j.toNat], (tnS l.length T).1[j.toNat]), ?_, ?_, ?_⟩
        · refine List.mem_of_getElem? (i := j.toNat) ?_
          rw [List.getElem?_zip_eq_some]
          exact ⟨List.getElem?_eq_getElem hjx, List.getElem?_eq_getElem hjl⟩
        · unfold xa at hjw
          rw [List.getElem?_eq_getElem hjx] at hjw
          exact hjw
        · exact (tn_after hT h hm (List.getElem?_eq_getElem hjl)).2 hj
    have hc : (∃ j ∈ B, xa x j = w) → 0 < (cS x w : Int) := by
      rintro ⟨j, hj, hjw⟩
      rw [← hT.count hx w]
      unfold cA
      have : 0 < T.countP fun j => decide (xa x j = w) := List.countP_pos_iff.2 ⟨j, by rw [h]; simp [hj], by simpa using hjw⟩
      omega
    simp only [Bool.true_and, Bool.or_eq_false_iff, Bool.not_eq_false', decide_eq_true_eq, Bool.and_eq_false_iff, decide_eq_false_iff_not, true_implies]
    constructor
    · rintro ⟨h1, h2⟩
      refine ⟨h1, fun j hj hjw => ?_⟩
      have h3 := hB.2 ⟨j, hj, hjw⟩
      have h4 := hc ⟨j, hj, hjw⟩
      rcases h2 with h2 | h2
      · exact h2 h4
      · exact h2 h3
    · rintro ⟨h1, h2⟩
      refine ⟨h1, .inr fun h3 => ?_⟩
      obtain ⟨j, hj, hjw⟩ := hB.1 h3
      exact h2 j hj hjw
theorem stbP_iff {l : List En} {ps : List (ByteArray × Int)} {T : List Int} {x : List ByteArray} (hT : Ord l.length T) (hx : x.length = l.length) : StbP l ps T x ↔ Stb l ps T x := by
  have hpos : ∀ A k B, T = A ++ k :: B → (((tnS l.length T).1[k.toNat]?).getD 0) = (A.length : Int) := fun A k B h => by rw [tn_pos hT h]; rfl
  have hpr : ∀ ws p, prefOk ws p = true ↔ (p ≠ noN → p ∈ ws) := by
    intro ws p
    unfold prefOk
    by_cases h : p = noN <;> simp [h, inB_iff]
  have hck : ∀ k ∈ T, ∃ n : Nat, k = n ∧ n < l.length := fun k hk => ⟨k.toNat, by have := hT.bd k hk; omega, by have := hT.bd k hk; omega⟩
  constructor
  · intro h
    refine ⟨fun k hk hne => ?_, fun w hw => ?_, fun A k B hTe w hw => ?_⟩
    · obtain ⟨n, rfl, hn⟩ := hck k hk
      exact (hpr _ _).1 (h.ok n hn).1 hne
    · rw [← hoF_val x hw]
      cases hs : hoF x w with
      | none => simp; omega
      | some n => exact h.cap w n hs
    · obtain ⟨n, rfl, hn⟩ := hck k (by rw [hTe]; simp)
      have h1 := (h.ok n hn).2 w hw
      have h2 := hpos A n B hTe
      rw [Int.toNat_natCast] at h2
      rw [h2] at h1
      exact (badW_iff hT hx hTe w).1 h1
  · intro h
    refine ⟨fun w n hs => ?_, fun n hn => ⟨?_, fun w hw => ?_⟩⟩
    · have hw : w ≠ noN := by
        rintro rfl
        rw [hoF_noN] at hs
        cases hs
      have := hoF_val x hw
      rw [hs, Option.getD_some] at this
      rw [this]
      exact h.cap w hw
    · exact (hpr _ _).2 (h.mem n (hT.all _ (by omega) (by omega)))
    · obtain ⟨A, B, hTe⟩ := List.append_of_mem (hT.all (n : Int) (by omega) (by omega))
      have h2 := hpos A n B hTe
      rw [Int.toNat_natCast] at h2
      rw [h2]
      exact (badW_iff hT hx hTe w).2 (h.bet A n B hTe w hw)
/-- Stable says whether the list is the one that is given out -/
theorem stbP_asg {l : List En} {ps : List (ByteArray × Int)} {ord : List Int} {x : List ByteArray} (hO : isO l.length ord = true) (hx : x.length = l.length) : StbP l ps (trn l ord) x ↔ x = asg l ps ord :=
  (stbP_iff (Ord.of hO).trn hx).trans (stb_iff hO hx)
end Go.Proofs.YtfjbioghpgmkiaaGreatDoor
/- places.Assign, slices.Reverse, places.advance; conditions: the data lie in memory, the order is the caller's own. -/
namespace Go.Proofs.YtfjbioghpgmkiaaGreatDoor
open Go.Eng Go.Dig

/-- the last place before k from which the list does not fall -/
def fi (l : List Int) : Nat → Option Nat
  | 0 => none
  | k + 1 => if l.getD (k + 1) 0 < l.getD k 0 then fi l k else some k
/-- the last place before k that does not hold less than x -/
def fj (l : List Int) (x : Int) : Nat → Nat
  | 0 => 0
  | k + 1 => if l.getD k 0 < x then fj l x k else k
def swp (l : List Int) (i j : Nat) : List Int := (l.set i (l.getD j 0)).set j (l.getD i 0)
/-- the next order -/
def adv (l : List Int) : Option (List Int) := match fi l (l.length - 1) with
  | none => none
  | some i => some ((swp l i (fj l (l.getD i 0) l.length)).take (i + 1) ++ ((swp l i (fj l (l.getD i 0) l.length)).drop (i + 1)).reverse)
theorem swp_len (l : List Int) (i j : Nat) : (swp l i j).length = l.length := by simp [swp]
theorem fi_some {l : List Int} : ∀ {k i : Nat}, fi l k = some i → i < k ∧ ¬ l.getD (i + 1) 0 < l.getD i 0
  | 0, i, h => by cases h
  | k + 1, i, h => by
    unfold fi at h
    split at h
    · have := fi_some h
      exact ⟨by omega, this.2⟩
    · rename_i h2
      cases h
      exact ⟨by omega, h2⟩
theorem ptr_eq {b o o' : Nat} (h : o = o') : Value.pointer (some ⟨b, o, none⟩) = .pointer (some ⟨b, o', none⟩) := by rw [h]
theorem getD_at {l : List Int} {i : Nat} (h : i < l.length) : l[i]? = some (l.getD i 0) := by
  rw [List.getD_eq_getElem?_getD, List.getElem?_eq_getElem h]
  rfl
def revIn (B z : List Int) (k : Nat) : Prop := z.length = B.length ∧ ∀ q, q < B.length → z[q]? = if q < k ∨ B.length - k ≤ q then B[B.length - 1 - q]? else B[q]?
theorem revIn.start (B : List Int) : revIn B B 0 := ⟨rfl, fun q hq => by rw [if_neg (by omega)]⟩
theorem revIn.step {B z : List Int} {k : Nat} (h : revIn B z k) (hk : k < B.length - 1 - k) {x y : Int} (hx : z[k]? = some x) (hy : z[B.length - 1 - k]? = some y) : revIn B ((z.set k y).set (B.length - 1 - k) x) (k + 1) := by
  obtain ⟨h1, h2⟩ := h
  refine ⟨by simp [h1], fun q hq => ?_⟩
  have e1 := h2 k (by omega)
  rw [if_neg (by omega), hx] at e1
  have e2 := h2 (B.length - 1 - k) (by omega)
  rw [if_neg (by omega), hy] at e2
  rw [List.getElem?_set]
  by_cases hq1 : B.length - 1 - k = q
  · subst hq1
    rw [if_pos rfl, if_pos (by rw [List.length_set]; omega), if_pos (by omega), e1]
    congr 1
    omega
  · rw [if_neg hq1, List.getElem?_set]
    by_cases hq2 : k = q
    · subst hq2
      rw [if_pos rfl, if_pos (by omega), if_pos (by omega), e2]
    · rw [if_neg hq2, h2 q hq]
      by_cases hc : q < k ∨ B.length - k ≤ q
      · rw [if_pos hc, if_pos (by omega)]
      · rw [if_neg hc, if_neg (by omega)]
theorem revIn.done {B z : List Int} {k : Nat} (h : revIn B z k) (hk : B.length - 1 - k ≤ k) (hB : B ≠ []) : z = B.reverse := by
  obtain ⟨h1, h2⟩ := h
  have hpos : 0 < B.length := List.length_pos_iff.2 hB
  apply List.ext_getElem?
  intro q
  by_cases hq : q < B.length
  · rw [h2 q hq, List.getElem?_reverse hq]
    split
    · rfl
    · congr 1
      omega
  · rw [List.getElem?_eq_none (by omega), List.getElem?_eq_none (by rw [List.length_reverse]; omega)]

attribute [local irreducible] PV StepF wpl wpd WP Ret
attribute [local irreducible] Fit srt tl fl seenL stO isO trn

theorem p14 (nm : ByteArray) (ps : List (ByteArray × Int)) (l : List En) (ord : List Int) (s sP so : Option Addr) (c cP co : Nat) (w : World) (hE : EAt w s l) (hP : SlAt w 2 eP sP ps) (hso : SlAt w 1 eI so ord) (h20 : l.length < 20) (hps : ps.length ≤ 12) (hpm : ∀ p ∈ ps, p.2 ≤ 9223372036854775807) (hO : isO l.length ord = true) (hson : so = none → ord = []) :
    Ret Tryz.prog 14 [.agg (dB nm 2 sP ps.length cP).toArray, .slice s l.length c, .slice so ord.length co] w (fun v w' => ∃ gb, v = .tuple #[.slice (some ⟨gb, 0, none⟩) l.length l.length, .bool true] ∧ SVL (some ⟨gb, 0, none⟩) l.length (asg l ps ord) ∧ Hp w [] w' [ownL eS 9 1 (some ⟨gb, 0, none⟩) l.length (asg l ps ord)]) := by
  have hol := (isO_facts hO).1
  refine Ret.of_WP Tryz.func14 rfl Tryz.ntmps14 rfl ?_
  have hp := Hp.start (M := []) (w := w)
  (repeat (with_reducible first | apply WP_seq | apply WP_region))
  (apply wls; exact sbox13 hp rfl; rintro _ w1 ⟨b3, rfl, hp⟩)
  (repeat (first | (with_reducible first | apply WP_seq | apply WP_region | apply wpl_nil | apply thenQ_n) | (apply wlp; ((first | apply pv_move | apply pv_assign | (apply pf_loadb; exact rfl)) <;> (first | exact rfl | exact hp.agg_blk 0 rfl rfl)); (first | exact fB rfl | exact fS rfl | exact fA13 rfl))))
  (apply wls; exact st_call rfl ent38 rfl (p38 nm ps.length l ord s sP so c cP co _ (hso.keep0 hp.keeps) (by omega) hps (by omega)); rintro _ w2 ⟨rfl, hk⟩; rw [hO]; have hp := hp.call hk)
  (repeat (first | (with_reducible first | apply wpl_nil | apply thenQ_n) | (apply wlp; (apply pv_not <;> exact rfl); exact fB rfl)))
  refine WP_cond_f rfl ?_
  (repeat (first | (with_reducible first | apply WP_seq | apply WP_region | apply thenQ_n | apply WP_skip) | (apply wlp; ((first | apply pv_move | (apply pf_loadb; exact rfl)) <;> (first | exact rfl | exact hp.agg_blk 0 rfl rfl)); (first | exact fS rfl | exact fA13 rfl))))
  (apply wls; exact st_call rfl ent39 rfl (p39 nm ps l ord s sP so c cP co _ ⟨hE.at_.keep0 hp.keeps, fun e he => (hE.ws e he).keep0 hp.keeps, hE.len⟩ (hP.keep0 hp.keeps) (hso.keep0 hp.keeps) h20 (by omega) hpm hO hson); rintro _ w3 ⟨gb, rfl, hv, hpo⟩; have hp := hp.join hpo; clear hpo)
  (repeat (first | (with_reducible first | apply wpl_nil | apply thenQ_n | apply WP_ret) | (apply wlp; apply pv_assign; (first | exact fB rfl | exact fS rfl))))
  exact ret_tmp2 rfl rfl rfl ⟨_, rfl, gb, rfl, hv, hp.pick 0 rfl⟩
theorem p72 (A B : List Int) (b c o m c' : Nat) (w : World) (hr : rowAt w b c (A ++ B)) (hc : (A ++ B).length ≤ c) (hcm : c ≤ 1000000) (hB : B ≠ []) (ho : o = A.length) (hm : m = B.length) :
    Ret Tryz.prog 72 [.slice (some ⟨b, o, none⟩) m c'] w (fun _ w' => Keeps [b] w w' ∧ rowAt w' b c (A ++ B.reverse)) := by
  have hpos : 0 < B.length := List.length_pos_iff.2 hB
  rw [List.length_append] at hc
  have hSV : ∀ z : List Int, z.length = B.length → SVL (some ⟨b, 0, none⟩) c (A ++ z) := fun z hz => .inr ⟨b, c, by rw [List.length_append, hz], by rw [List.length_append, hz]; omega, by unfold maxLen; omega⟩
  subst hm
  refine Ret.of_WP Tryz.func72 rfl Tryz.ntmps72 rfl ?_
  have hp := Hp.ofRow hr
  (repeat (first | (with_reducible first | apply WP_seq | apply WP_region) | (apply wlp; ((first | apply pv_move | (apply pf_len; exact rfl)) <;> exact rfl); (first | exact fI rfl | exact fS rfl))))
  (apply wlp; (exact pv_sub rfl rfl); exact int_eq (b := ((B.length - 1 : Nat) : Int)) (by rw [i64_in (by omega) (by omega)]; omega))
  (repeat (first | (with_reducible first | apply WP_block | apply wpl_nil | apply thenQ_n) | (apply wlp; apply pv_assign; exact fI rfl)))
  refine WP_loop2 [2, 3, 7, 8, 9, 10, 11, 12, 13, 14, 15, 16, 17, 18, 19, 20, 21, 22, 23, 24, 25, 26, 27] (fun (k : Nat) (_z : List Int) F => (F.put 2 (.int .i64 (k : Int))).put 3 (.int .i64 ((B.length - 1 - k : Nat) : Int)))
    (fun k z w' => k ≤ B.length - 1 ∧ 2 * k ≤ B.length ∧ revIn B z k ∧ Hp w [b] w' [ownL eI 3 1 (some ⟨b, 0, none⟩) c (A ++ z)]) (fun k _ => B.length - k) 0 B (put_self (put_self (Same.eq .refl) rfl) rfl) ⟨by omega, by omega, .start B, hp⟩ ?_
  (repeat clear hp)
  rintro u k z w1 ⟨hk, hk2, hrv, hp⟩
  have hzl := hrv.1
  have hvz := hSV z hzl
  (repeat (first | (with_reducible first | apply WP_seq | apply WP_region | apply wpl_nil | apply thenQ_n) | (apply wlp; ((first | apply pv_move | apply pv_lss) <;> exact rfl); (first | exact fI rfl | exact fB rfl))))
  refine WP_cond_d rfl (fun h => ?_) (fun h => ?_)
  · have hlt : k < B.length - 1 - k := by omega
    have hl1 : k < B.length := by omega
    have hl2 : B.length - 1 - k < B.length := by omega
    obtain ⟨x, hx⟩ : ∃ x, z[k]? = some x := ⟨_, List.getElem?_eq_getElem (by omega)⟩
    obtain ⟨y, hy⟩ : ∃ y, z[B.length - 1 - k]? = some y := ⟨_, List.getElem?_eq_getElem (by omega)⟩
    have hst := hrv.step hlt hx hy
    have hgx : (A ++ z)[A.length + k]? = some x := by rw [List.getElem?_append_right (by omega), Nat.add_sub_cancel_left]; exact hx
    have hgy : (A ++ z)[A.length + (B.length - 1 - k)]? = some y := by rw [List.getElem?_append_right (by omega), Nat.add_sub_cancel_left]; exact hy
    have hs1 : A.length + k < (A ++ z).length := by rw [List.length_append]; omega
    have hset1 : (A ++ z).set (A.length + k) y = A ++ z.set k y := by rw [List.set_append_right _ _ (by omega), Nat.add_sub_cancel_left]
    have hset2 : (A ++ z.set k y).set (A.length + (B.length - 1 - k)) x = A ++ (z.set k y).set (B.length - 1 - k) x := by rw [List.set_append_right _ _ (by omega), Nat.add_sub_cancel_left]
    have hs2 : A.length + (B.length - 1 - k) < (A ++ z.set k y).length := by rw [List.length_append, List.length_set]; omega
    have hvz2 := hSV (z.set k y) (by rw [List.length_set]; exact hzl)
    (repeat (with_reducible first | apply WP_seq | apply WP_block | apply thenQ_n | apply WP_skip))
    refine WP_drawS mixed (by kernel_rfl) (fun w' => Hp w [b] w' [ownL eI 3 1 (some ⟨b, 0, none⟩) c (A ++ z)]) hp.drew ?_
    have hp := hp.drew
    (repeat (apply wdp; exact rfl; (intro w hp; exact pv_move); exact rfl))
    (apply wdp; exact rfl; (intro w hp; exact pf_index rfl rfl rfl rfl hl2); exact ptr_eq (o' := 0 + (A.length + (B.length - 1 - k)) * 1) (by omega))
    (apply wdp; exact rfl; (intro w hp; exact pf_load rfl rfl (own_elem hp 0 rfl hvz (fun _ => rfl) hgy 0 _ rfl)); exact fI rfl)
    (repeat (apply wdp; exact rfl; (intro w hp; exact pv_move); exact rfl))
    (apply wdp; exact rfl; (intro w hp; exact pf_index rfl rfl rfl rfl hl1); exact ptr_eq (o' := 0 + (A.length + k) * 1) (by omega))
    (apply wdp; exact rfl; (intro w hp; exact pf_load rfl rfl (own_elem hp 0 rfl hvz (fun _ => rfl) hgx 0 _ rfl)); exact fI rfl)
    (apply wdp; exact rfl; (intro w hp; exact pf_index rfl rfl rfl rfl hl1); exact ptr_eq (o' := 0 + (A.length + k) * 1) (by omega))
    (apply wds0S; exact rfl; exact rfl; exact st_setL eI _ (A.length + k) y hp 0 rfl hvz hs1 rfl rfl (fun _ => rfl) rfl rfl (sizeTy_ok rfl); rintro _ w3 ⟨rfl, hp⟩)
    (apply wdp; exact rfl; (intro w hp; exact pf_index rfl rfl rfl rfl hl2); exact ptr_eq (o' := 0 + (A.length + (B.length - 1 - k)) * 1) (by omega))
    rw [hset1] at hp
    (apply wds0S; exact rfl; exact rfl; exact st_setL eI _ (A.length + (B.length - 1 - k)) x hp 0 rfl hvz2 hs2 rfl rfl (fun _ => rfl) rfl rfl (sizeTy_ok rfl); rintro _ w4 ⟨rfl, hp⟩)
    rw [hset2] at hp
    refine wpd_nil ?_
    (repeat (first | (with_reducible first | apply WP_region | apply thenQ_n | apply inBlk_n) | (apply wlp; apply pv_move; exact fI rfl)))
    (apply wlp; (exact pv_add rfl rfl); exact int_eq (b := ((k + 1 : Nat) : Int)) (by rw [i64_in (by omega) (by omega)]; omega))
    (repeat (apply wlp; apply pv_move; exact fI rfl))
    (apply wlp; (exact pv_sub rfl rfl); exact int_eq (b := ((B.length - 1 - (k + 1) : Nat) : Int)) (by rw [i64_in (by omega) (by omega)]; omega))
    (repeat (first | (with_reducible first | apply wpl_nil | apply thenQ_n) | (apply wlp; apply pv_assign; exact fI rfl)))
    exact ⟨k + 1, _, put_self (put_self (Same.eq (by repeat (first | exact Same.hav | exact Same.refl | refine Same.put rfl ?_ | refine Same.havs rfl ?_))) rfl) rfl, ⟨by omega, by omega, hst, hp⟩, by omega⟩
  · have hz := hrv.done (by omega) hB
    subst hz
    (repeat (first | (with_reducible first | apply thenQ_exit | apply WP_exit) | ((with_reducible apply inBlk_same); exact rfl)))
    exact ret_none rfl ⟨_, rfl, hp.keeps, Hp.rowat hp 0 rfl⟩
end Go.Proofs.YtfjbioghpgmkiaaGreatDoor
/- places.advance; conditions: the order lies in a block that the caller owns. -/
namespace Go.Proofs.YtfjbioghpgmkiaaGreatDoor
open Go.Eng Go.Dig

attribute [local irreducible] PV StepF wpl wpd WP Ret
attribute [local irreducible] Fit srt tl fl seenL stO isO trn

set_option maxHeartbeats 2000000 in
theorem p41 (l : List Int) (b c : Nat) (w : World) (hr : rowAt w b c l) (hc : l.length ≤ c) (hcm : c ≤ 1000000) :
    Ret Tryz.prog 41 [.slice (some ⟨b, 0, none⟩) l.length c] w (fun v w' => v = .bool (adv l).isSome ∧ Keeps [b] w w' ∧ rowAt w' b c ((adv l).getD l)) := by
  have hSV : ∀ z : List Int, z.length = l.length → SVL (some ⟨b, 0, none⟩) c z := fun z hz => .inr ⟨b, c, by rw [hz], by omega, by unfold maxLen; omega⟩
  have hvz := hSV l rfl
  have hnone : fi l (l.length - 1) = none → adv l = none := fun h => by unfold adv; rw [h]
  refine Ret.of_WP Tryz.func41 rfl Tryz.ntmps41 rfl ?_
  have hp := Hp.ofRow hr
  (repeat (first | (with_reducible first | apply WP_seq | apply WP_region | apply wpl_nil | apply thenQ_n) | (apply wlp; ((first | apply pv_move | apply pv_assign | (apply pf_len; exact rfl)) <;> exact rfl); (first | exact fI rfl | exact fB rfl | exact fS rfl))))
  by_cases hl : l = []
  · have hn : adv l = none := by rw [hl]; rfl
    have hl0 : l.length = 0 := by rw [hl]; rfl
    (apply wlp; exact pv_sub rfl rfl; exact int_eq (b := -2) (by rw [hl0]; decide))
    (repeat (first | (with_reducible first | apply WP_seq | apply WP_block | apply wpl_nil | apply thenQ_n) | (apply wlp; apply pv_assign; exact fI rfl)))
    refine WP_loopS [3, 8, 9, 10, 11, 12, 13, 14, 15, 16, 17, 18, 19, 20, 21, 22, 23] (fun (_ : Unit) F => F.put 3 (.int .i64 (-2))) (fun _ w' => Hp w [b] w' [ownL eI 3 1 (some ⟨b, 0, none⟩) c l]) (fun _ => 0) () (put_self (Same.eq .refl) rfl) hp ?_
    (repeat clear hp)
    rintro u ⟨⟩ w1 hp
    (repeat with_reducible apply WP_seq)
    refine WP_draw mixed (by kernel_rfl) (fun w' => Hp w [b] w' [ownL eI 3 1 (some ⟨b, 0, none⟩) c l]) hp.drew ?_
    have hp := hp.drew
    (apply wdp; exact rfl; (intro w hp; exact pv_move); exact fI rfl)
    (apply wdp; exact rfl; (intro w hp; exact pv_geq rfl rfl); exact bool_eq (b := false) (decide_eq_false (by omega)))
    (repeat (first | ((apply wdp; exact rfl); (intro w hp; intros; (first | apply pv_move | exact pv_andF rfl)); (intros; exact fB rfl)) | (apply wdpF; exact rfl; exact rfl; exact rfl; exact rfl) | (apply wdpU; exact rfl; exact rfl; exact rfl)))
    refine wpd_nil ?_
    refine WP_cond_f rfl ?_
    (repeat (first | (with_reducible first | apply WP_seq | apply WP_region | apply wpl_nil | apply thenQ_n | apply thenQ_exit | apply WP_exit) | ((with_reducible apply inBlk_same); exact rfl) | (apply wlp; ((first | apply pv_move | apply pv_lss) <;> exact rfl); (first | exact fI rfl | exact fB rfl))))
    refine WP_cond_d rfl (fun _ => ?_) (fun h => absurd (by omega) h)
    (repeat (first | (with_reducible first | apply WP_seq | apply WP_region | apply wpl_nil | apply thenQ_n | apply thenQ_ret | apply WP_ret) | (apply wlp; apply pv_assign; exact fB rfl)))
    exact ret_tmp rfl rfl ⟨_, rfl, by rw [hn]; rfl, hp.keeps, by rw [hn]; exact Hp.rowat hp 0 rfl⟩
  have hpos : 0 < l.length := List.length_pos_iff.2 hl
  (apply wlp; exact pv_sub rfl rfl; exact int_eq (b := ((l.length - 1 : Nat) : Int) - 1) (by rw [i64_in (by omega) (by omega)]; omega))
  (repeat (first | (with_reducible first | apply WP_seq | apply WP_block | apply wpl_nil | apply thenQ_n) | (apply wlp; apply pv_assign; exact fI rfl)))
  refine WP_loopS [3, 8, 9, 10, 11, 12, 13, 14, 15, 16, 17, 18, 19, 20, 21, 22, 23] (fun (k : Nat) F => F.put 3 (.int .i64 ((k : Int) - 1))) (fun k w' => k ≤ l.length - 1 ∧ fi l (l.length - 1) = fi l k ∧ Hp w [b] w' [ownL eI 3 1 (some ⟨b, 0, none⟩) c l]) (fun k => k) (l.length - 1) (put_self (Same.eq .refl) rfl) ⟨Nat.le_refl _, rfl, hp⟩ ?_
  (repeat clear hp)
  rintro u k w1 ⟨hk, hfi, hp⟩
  rcases Nat.eq_zero_or_pos k with h0 | h0
  · subst h0
    have hn := hnone hfi
    (repeat with_reducible apply WP_seq)
    refine WP_draw mixed (by kernel_rfl) (fun w' => Hp w [b] w' [ownL eI 3 1 (some ⟨b, 0, none⟩) c l]) hp.drew ?_
    have hp := hp.drew
    (apply wdp; exact rfl; (intro w hp; exact pv_move); exact fI rfl)
    (apply wdp; exact rfl; (intro w hp; exact pv_geq rfl rfl); exact bool_eq (b := false) (decide_eq_false (by omega)))
    (repeat (first | ((apply wdp; exact rfl); (intro w hp; intros; (first | apply pv_move | exact pv_andF rfl)); (intros; exact fB rfl)) | (apply wdpF; exact rfl; exact rfl; exact rfl; exact rfl) | (apply wdpU; exact rfl; exact rfl; exact rfl)))
    refine wpd_nil ?_
    refine WP_cond_f rfl ?_
    (repeat (first | (with_reducible first | apply WP_seq | apply WP_region | apply wpl_nil | apply thenQ_n | apply thenQ_exit | apply WP_exit) | ((with_reducible apply inBlk_same); exact rfl) | (apply wlp; ((first | apply pv_move | apply pv_lss) <;> exact rfl); (first | exact fI rfl | exact fB rfl))))
    refine WP_cond_d rfl (fun _ => ?_) (fun h => absurd (by omega) h)
    (repeat (first | (with_reducible first | apply WP_seq | apply WP_region | apply wpl_nil | apply thenQ_n | apply thenQ_ret | apply WP_ret) | (apply wlp; apply pv_assign; exact fB rfl)))
    exact ret_tmp rfl rfl ⟨_, rfl, by rw [hn]; rfl, hp.keeps, by rw [hn]; exact Hp.rowat hp 0 rfl⟩
  obtain ⟨i, rfl⟩ : ∃ i, k = i + 1 := ⟨k - 1, by omega⟩
  rw [show ((i + 1 : Nat) : Int) - 1 = (i : Int) from by omega]
  have hil : i < l.length := by omega
  have hil1 : i + 1 < l.length := by omega
  have hgi := getD_at hil
  have hgi1 := getD_at hil1
  (repeat with_reducible apply WP_seq)
  refine WP_draw mixed (by kernel_rfl) (fun w' => Hp w [b] w' [ownL eI 3 1 (some ⟨b, 0, none⟩) c l]) hp.drew ?_
  have hp := hp.drew
  (apply wdp; exact rfl; (intro w hp; exact pv_move); exact fI rfl)
  (apply wdp; exact rfl; (intro w hp; exact pv_geq rfl rfl); exact bool_eq (b := true) (decide_eq_true (by omega)))
  (repeat (first | ((apply wdp; exact rfl); (intro w hp; intros; ((first | apply pv_move | (apply pf_load; exact rfl) | (apply pf_index; exact rfl)) <;> (first | exact rfl | assumption))); (intros; (first | exact fI rfl | exact fB rfl | exact fP rfl | exact fS rfl))) | ((apply wdpT; exact rfl; exact rfl; exact rfl); (intro w hp; ((first | apply pv_move | (apply pf_load; exact rfl) | (apply pf_index; exact rfl)) <;> (first | exact rfl | assumption))); (intros; (first | exact fI rfl | exact fB rfl | exact fP rfl | exact fS rfl))) | (apply wdpF; exact rfl; exact rfl; exact rfl; exact rfl) | (apply wdpU; exact rfl; exact rfl; exact rfl)))
  (apply wdpT; exact rfl; exact rfl; exact rfl; (intro w hp; exact pf_load rfl rfl (own_elem hp 0 rfl hvz (fun _ => rfl) hgi 0 _ rfl)); exact fI rfl)
  (repeat (first | ((apply wdpT; exact rfl; exact rfl; exact rfl); (intro w hp; apply pv_move); (intros; (first | exact fI rfl | exact fS rfl))) | (apply wdpF; exact rfl; exact rfl; exact rfl; exact rfl) | (apply wdpU; exact rfl; exact rfl; exact rfl)))
  (apply wdpT; exact rfl; exact rfl; exact rfl; (intro w hp; exact pv_add rfl rfl); exact int_eq (b := ((i + 1 : Nat) : Int)) (by rw [i64_in (by omega) (by omega)]; omega))
  (repeat (first | ((apply wdpT; exact rfl; exact rfl; exact rfl); (intro w hp; ((first | (apply pf_load; exact rfl) | (apply pf_index; exact rfl)) <;> (first | exact rfl | assumption))); (intros; exact fP rfl)) | (apply wdpF; exact rfl; exact rfl; exact rfl; exact rfl) | (apply wdpU; exact rfl; exact rfl; exact rfl)))
  (apply wdpT; exact rfl; exact rfl; exact rfl; (intro w hp; exact pf_load rfl rfl (own_elem hp 0 rfl hvz (fun _ => rfl) hgi1 0 _ rfl)); exact fI rfl)
  by_cases hlt : l.getD (i + 1) 0 < l.getD i 0
  · (apply wdpT; exact rfl; exact rfl; exact rfl; (intro w hp; exact pv_gtr rfl rfl); exact bool_eq (b := true) (decide_eq_true hlt))
    (repeat (first | ((apply wdp; exact rfl); (intro w hp; intros; exact pv_andT rfl rfl); (intros; exact fB rfl)) | (apply wdpF; exact rfl; exact rfl; exact rfl; exact rfl) | (apply wdpU; exact rfl; exact rfl; exact rfl)))
    refine wpd_nil ?_
    refine WP_cond_t rfl ?_
    (repeat (first | (with_reducible first | apply WP_block | apply WP_region | apply thenQ_n | apply WP_skip) | (apply wlp; apply pv_move; exact fI rfl)))
    (apply wlp; exact pv_sub rfl rfl; exact int_eq (i64_in (by omega) (by omega)))
    (repeat (first | (with_reducible first | apply wpl_nil | apply thenQ_n | apply inBlk_n) | (apply wlp; apply pv_assign; exact fI rfl)))
    refine ⟨i, put_self (Same.eq (by repeat (first | exact Same.hav | exact Same.refl | refine Same.put rfl ?_ | refine Same.havs rfl ?_))) rfl, ⟨by omega, ?_, hp⟩, by omega⟩
    rw [hfi]
    conv => lhs; unfold fi
    rw [if_pos hlt]
  (apply wdpT; exact rfl; exact rfl; exact rfl; (intro w hp; exact pv_gtr rfl rfl); exact bool_eq (b := false) (decide_eq_false hlt))
  (repeat (first | ((apply wdp; exact rfl); (intro w hp; intros; exact pv_andT rfl rfl); (intros; exact fB rfl)) | (apply wdpF; exact rfl; exact rfl; exact rfl; exact rfl) | (apply wdpU; exact rfl; exact rfl; exact rfl)))
  refine wpd_nil ?_
  refine WP_cond_f rfl ?_
  have hfi : fi l (l.length - 1) = some i := by
    rw [hfi]
    unfold fi
    rw [if_neg hlt]
  have hadv : adv l = some ((swp l i (fj l (l.getD i 0) l.length)).take (i + 1) ++ ((swp l i (fj l (l.getD i 0) l.length)).drop (i + 1)).reverse) := by
    unfold adv
    rw [hfi]
  (repeat (first | (with_reducible first | apply WP_seq | apply WP_region | apply wpl_nil | apply thenQ_n | apply thenQ_exit | apply WP_exit) | ((with_reducible apply inBlk_same); exact rfl) | (apply wlp; ((first | apply pv_move | apply pv_lss) <;> exact rfl); (first | exact fI rfl | exact fB rfl))))
  refine WP_cond_d rfl (fun h => absurd h (by omega)) (fun _ => ?_)
  (repeat (first | (with_reducible first | apply WP_seq | apply WP_region | apply thenQ_n | apply WP_skip) | (apply wlp; ((first | apply pv_move | (apply pf_len; exact rfl)) <;> exact rfl); (first | exact fI rfl | exact fS rfl))))
  (apply wlp; (exact pv_sub rfl rfl); exact int_eq (b := ((l.length - 1 : Nat) : Int)) (by rw [i64_in (by omega) (by omega)]; omega))
  (repeat (first | (with_reducible first | apply WP_seq | apply WP_block | apply wpl_nil | apply thenQ_n) | (apply wlp; apply pv_assign; exact fI rfl)))
  refine WP_loopS [4, 29, 30, 31, 32, 33, 34, 35, 36, 37, 38, 39] (fun (m : Nat) F => F.put 4 (.int .i64 (m : Int))) (fun m w' => i + 1 ≤ m ∧ m < l.length ∧ fj l (l.getD i 0) l.length = fj l (l.getD i 0) (m + 1) ∧ Hp w [b] w' [ownL eI 3 1 (some ⟨b, 0, none⟩) c l]) (fun m => m) (l.length - 1) (put_self (Same.eq .refl) rfl) ⟨by omega, by omega, by rw [show l.length - 1 + 1 = l.length from by omega], hp⟩ ?_
  (repeat clear hp)
  rintro u2 m w2 ⟨hm1, hm2, hfj, hp⟩
  have hgm := getD_at hm2
  (repeat with_reducible apply WP_seq)
  refine WP_draw mixed (by kernel_rfl) (fun w' => Hp w [b] w' [ownL eI 3 1 (some ⟨b, 0, none⟩) c l]) hp.drew ?_
  have hp := hp.drew
  (repeat ((apply wdp; exact rfl); (intro w hp; intros; ((first | apply pv_move | (apply pf_load; exact rfl) | (apply pf_index; exact rfl)) <;> (first | exact rfl | assumption))); (intros; (first | exact fI rfl | exact fP rfl | exact fS rfl))))
  (apply wdp; exact rfl; (intro w hp; exact pf_load rfl rfl (own_elem hp 0 rfl hvz (fun _ => rfl) hgm 0 _ rfl)); exact fI rfl)
  (repeat ((apply wdp; exact rfl); (intro w hp; intros; ((first | apply pv_move | (apply pf_load; exact rfl) | (apply pf_index; exact rfl)) <;> (first | exact rfl | assumption))); (intros; (first | exact fI rfl | exact fP rfl | exact fS rfl))))
  (apply wdp; exact rfl; (intro w hp; exact pf_load rfl rfl (own_elem hp 0 rfl hvz (fun _ => rfl) hgi 0 _ rfl)); exact fI rfl)
  by_cases hlm : l.getD m 0 < l.getD i 0
  · (apply wdp; exact rfl; (intro w hp; exact pv_lss rfl rfl); exact bool_eq (b := true) (decide_eq_true hlm))
    refine wpd_nil ?_
    refine WP_cond_t rfl ?_
    have hne : m ≠ i + 1 := by rintro rfl; exact hlt hlm
    (repeat (first | (with_reducible first | apply WP_block | apply WP_region | apply thenQ_n | apply WP_skip) | (apply wlp; apply pv_move; exact fI rfl)))
    (apply wlp; (exact pv_sub rfl rfl); exact int_eq (b := ((m - 1 : Nat) : Int)) (by rw [i64_in (by omega) (by omega)]; omega))
    (repeat (first | (with_reducible first | apply wpl_nil | apply thenQ_n | apply inBlk_n) | (apply wlp; apply pv_assign; exact fI rfl)))
    refine ⟨m - 1, put_self (Same.eq (by repeat (first | exact Same.hav | exact Same.refl | refine Same.put rfl ?_ | refine Same.havs rfl ?_))) rfl, ⟨by omega, by omega, ?_, hp⟩, by omega⟩
    rw [hfj, show m - 1 + 1 = m from by omega]
    conv => lhs; unfold fj
    rw [if_pos hlm]
  (apply wdp; exact rfl; (intro w hp; exact pv_lss rfl rfl); exact bool_eq (b := false) (decide_eq_false hlm))
  refine wpd_nil ?_
  refine WP_cond_f rfl ?_
  have hfj : fj l (l.getD i 0) l.length = m := by
    rw [hfj]
    unfold fj
    rw [if_neg hlm]
  rw [hfj] at hadv
  have hsl : (swp l i m).length = l.length := swp_len l i m
  have hvz2 := hSV (l.set i (l.getD m 0)) (by rw [List.length_set])
  have hs2 : m < (l.set i (l.getD m 0)).length := by rw [List.length_set]; exact hm2
  (repeat (first | (with_reducible first | apply WP_seq | apply thenQ_n | apply thenQ_exit | apply WP_exit) | ((with_reducible apply inBlk_same); exact rfl)))
  refine WP_drawS mixed (by kernel_rfl) (fun w' => Hp w [b] w' [ownL eI 3 1 (some ⟨b, 0, none⟩) c l]) hp.drew ?_
  have hp := hp.drew
  (repeat ((apply wdp; exact rfl); (intro w hp; intros; ((first | apply pv_move | (apply pf_load; exact rfl) | (apply pf_index; exact rfl)) <;> (first | exact rfl | assumption))); (intros; (first | exact fI rfl | exact fP rfl | exact fS rfl))))
  (apply wdp; exact rfl; (intro w hp; exact pf_load rfl rfl (own_elem hp 0 rfl hvz (fun _ => rfl) hgm 0 _ rfl)); exact fI rfl)
  (repeat ((apply wdp; exact rfl); (intro w hp; intros; ((first | apply pv_move | (apply pf_load; exact rfl) | (apply pf_index; exact rfl)) <;> (first | exact rfl | assumption))); (intros; (first | exact fI rfl | exact fP rfl | exact fS rfl))))
  (apply wdp; exact rfl; (intro w hp; exact pf_load rfl rfl (own_elem hp 0 rfl hvz (fun _ => rfl) hgi 0 _ rfl)); exact fI rfl)
  (repeat ((apply wdp; exact rfl); (intro w hp; intros; ((apply pf_index; exact rfl) <;> (first | exact rfl | assumption))); (intros; exact fP rfl)))
  (apply wds0S; exact rfl; exact rfl; exact st_setL eI _ i (l.getD m 0) hp 0 rfl hvz hil rfl rfl (fun _ => rfl) rfl rfl (sizeTy_ok rfl); rintro _ w3 ⟨rfl, hp⟩)
  (apply wdp; exact rfl; (intro w hp; exact pf_index rfl rfl rfl rfl hm2); exact fP rfl)
  (apply wds0S; exact rfl; exact rfl; exact st_setL eI _ m (l.getD i 0) hp 0 rfl hvz2 hs2 rfl rfl (fun _ => rfl) rfl rfl (sizeTy_ok rfl); rintro _ w4 ⟨rfl, hp⟩)
  have hp : Hp w [b] w4 [ownL eI 3 1 (some ⟨b, 0, none⟩) c (swp l i m)] := hp
  refine wpd_nil ?_
  (repeat (first | (with_reducible first | apply WP_seq | apply WP_region | apply thenQ_n) | (apply wlp; apply pv_move; (first | exact fI rfl | exact fS rfl))))
  (apply wlp; (exact pv_add rfl rfl); exact int_eq (b := ((i + 1 : Nat) : Int)) (by rw [i64_in (by omega) (by omega)]; omega))
  (apply wlp; exact pv_sliceLo sl30.1 sl30.2 rfl rfl (by omega) hc; exact fS rfl)
  have hr4 : rowAt w4 b c ((swp l i m).take (i + 1) ++ (swp l i m).drop (i + 1)) := by
    rw [List.take_append_drop]
    exact Hp.rowat hp 0 rfl
  (apply wls; exact st_call rfl ent72 rfl (p72 ((swp l i m).take (i + 1)) ((swp l i m).drop (i + 1)) b c _ _ _ _ hr4 (by rw [List.take_append_drop, hsl]; exact hc) hcm (by intro h0; have := congrArg List.length h0; rw [List.length_drop, hsl] at this; simp at this; omega) (by rw [if_neg (by omega), List.length_take, hsl]; omega) (by rw [List.length_drop, hsl])); rintro _ w5 ⟨hk5, hr5⟩; have hp := Hp.callU hp 0 rfl hk5 hr5)
  (repeat (first | (with_reducible first | apply WP_seq | apply WP_region | apply wpl_nil | apply thenQ_n | apply WP_ret) | (apply wlp; apply pv_assign; exact fB rfl)))
  exact ret_tmp rfl rfl ⟨_, rfl, by rw [hadv]; rfl, hp.keeps, by rw [hadv]; exact hr5⟩
end Go.Proofs.YtfjbioghpgmkiaaGreatDoor
