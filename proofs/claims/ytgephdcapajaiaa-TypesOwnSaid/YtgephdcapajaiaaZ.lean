/- Layer 14: entrants out of numbers are permitted (the plain law behind Entrants); conditions are the hypotheses of each law. -/
import Derived.Test.YtgephdcapajaiaaY
namespace Go.Proofs.Ytgephdcapajaiaa
open Go.Eng

def lotFrom (d : Dr) (l : List Int) (j : Nat) : Int := 1 + nx l j (d.pool - d.pick + 1)
def lotPs (d : Dr) (l : List Int) (j : Nat) : List Int := (List.range d.pick.toNat).map fun q : Nat => lotFrom d l j + q
def lotB (d : Dr) (l : List Int) (j : Nat) : Bool := decide (nx l (j + 1) 2 = 1) && decide (lotFrom d l j + (d.pick - 1) < d.pool)
def lotPicks (d : Dr) (l : List Int) (j : Nat) : List Int := if lotB d l j = true then (lotPs d l j).set (d.pick.toNat - 1) d.pool else lotPs d l j
def plc (d : Dr) (i : Int) : ByteArray := (d.places.getD i.toNat (⟨#[]⟩, 0)).1
def balF (d : Dr) (l : List Int) (j q : Nat) : ByteArray := plc d ((nx l (j + 2) d.places.length + q).tmod d.places.length)
def balW (d : Dr) (l : List Int) (j : Nat) : List ByteArray := (List.range (nx l (j + 3) (d.places.length + 1)).toNat).map (balF d l j)
def bitQ (s : Int) (q : Nat) : Bool := decide (bandI (s.fdiv (2 ^ min ((q : Int).toNat) 64)) 1 = 1)
def panQ (l : List Int) (j k : Nat) : List ByteArray := ((List.range k).filter fun q => bitQ (nx l j 8) q).map fun q : Nat => wordB q
def entE (d : Dr) (l : List Int) (j i : Nat) : En :=
  if d.kind = 1 then ⟨101 + i, 0, 0, lotPicks d l j, [], []⟩
  else if d.kind = 2 then ⟨101 + i, nx l j (d.cls + 1), nx l (j + 1) 4, [], balW d l j, []⟩
  else ⟨101 + i, 0, 0, [], [], panQ l j 3⟩
def entN (d : Dr) : Nat := if d.kind = 1 then 2 else if d.kind = 2 then 4 else 1
def entsOf (d : Dr) (l : List Int) : List En := (List.range (nx l 0 7).toNat).map fun i => entE d l (1 + i * entN d) i

theorem map_range_succ {α : Type} (f : Nat → α) (n : Nat) : (List.range (n + 1)).map f = f 0 :: (List.range n).map fun q => f (q + 1) := by
  rw [List.range_succ_eq_map]
  simp [Function.comp_def]
theorem okPicks_range (pool : Int) : ∀ (n : Nat) (a last : Int), last < a → a + n - 1 ≤ pool → okPicks pool last ((List.range n).map fun q : Nat => a + q) = true
  | 0, _, _, _, _ => rfl
  | n + 1, a, last, h1, h2 => by
    rw [map_range_succ]
    have e : (fun q : Nat => a + ((q + 1 : Nat) : Int)) = fun q : Nat => (a + 1) + (q : Int) := by
      funext q
      omega
    rw [e]
    simp only [okPicks]
    rw [okPicks_range pool n (a + 1) _ (by omega) (by omega)]
    simp
    omega
theorem okPicks_set (pool : Int) : ∀ (n : Nat) (a last : Int), last < a → a + n ≤ pool → okPicks pool last (((List.range (n + 1)).map fun q : Nat => a + q).set n pool) = true
  | 0, a, last, h1, h2 => by
    simp [okPicks]
    omega
  | n + 1, a, last, h1, h2 => by
    rw [map_range_succ, List.set_cons_succ]
    have e : (fun q : Nat => a + ((q + 1 : Nat) : Int)) = fun q : Nat => (a + 1) + (q : Int) := by
      funext q
      omega
    rw [e]
    simp only [okPicks]
    rw [okPicks_set pool n (a + 1) _ (by omega) (by omega)]
    simp
    omega
theorem mod2 {x n : Int} (h0 : 0 ≤ x) (h1 : x < 2 * n) (hn : 0 < n) : x.tmod n = if x < n then x else x - n := by
  rw [Int.tmod_eq_emod_of_nonneg h0]
  split
  · exact Int.emod_eq_of_lt h0 (by omega)
  · rw [show x = (x - n) + n from by omega, Int.add_emod_right]
    rw [Int.emod_eq_of_lt (by omega) (by omega)]
    omega
theorem plc_mem {d : Dr} {i : Int} (h0 : 0 ≤ i) (h1 : i < d.places.length) : plc d i ∈ d.places.map (·.1) := by
  unfold plc
  rw [List.getD_eq_getElem?_getD, List.getElem?_eq_getElem (by omega)]
  exact List.mem_map_of_mem (List.getElem_mem (by omega))
theorem plc_inj {d : Dr} (hn : (d.places.map (·.1)).Nodup) {i j : Int} (h0 : 0 ≤ i) (h1 : i < d.places.length) (h2 : 0 ≤ j) (h3 : j < d.places.length) (h : plc d i = plc d j) : i = j := by
  unfold plc at h
  rw [List.getD_eq_getElem?_getD, List.getD_eq_getElem?_getD, List.getElem?_eq_getElem (show i.toNat < d.places.length by omega), List.getElem?_eq_getElem (show j.toNat < d.places.length by omega)] at h
  have e : (d.places.map (·.1))[i.toNat]'(by simp; omega) = (d.places.map (·.1))[j.toNat]'(by simp; omega) := by simpa using h
  have := (List.getElem_inj hn).1 e
  omega
theorem chk_names {d : Dr} (h : chk d = (⟨#[]⟩, 0)) (hk : d.kind = 2) : (d.places.map (·.1)).Nodup := by
  have : ckPlaces d = 0 := clR_zero (i := 8) (.inr (by rw [hk]; rfl)) (chk2 h 8 (by decide))
  unfold ckPlaces at this
  by_cases h1 : lenBad d.places.length = true
  · rw [if_pos h1] at this; cases this
  rw [if_neg h1] at this
  by_cases h2 : d.places.all (fun p => isWordB p.1) = false
  · rw [if_pos h2] at this; cases this
  rw [if_neg h2] at this
  by_cases h3 : d.places.all placeOk = false
  · rw [if_pos h3] at this; cases this
  rw [if_neg h3] at this
  by_cases h4 : nodupB (d.places.map (·.1)) = false
  · rw [if_pos h4] at this; cases this
  have h5 : nodupB (d.places.map (·.1)) = true := by simpa using h4
  unfold nodupB at h5
  exact of_decide_eq_true h5
theorem chk_cls {d : Dr} (h : chk d = (⟨#[]⟩, 0)) (hk : d.kind = 2) : 0 ≤ d.cls ∧ d.cls ≤ 9 := within_of (clR_zero (i := 9) (.inr (by rw [hk]; rfl)) (chk2 h 9 (by decide)))
theorem mem_range_map {α : Type} {f : Nat → α} {n : Nat} {y : α} (h : y ∈ (List.range n).map f) : ∃ q, q < n ∧ y = f q := by
  rw [List.mem_map] at h
  obtain ⟨q, hq, rfl⟩ := h
  exact ⟨q, by simpa using hq, rfl⟩
theorem range_nodup {α : Type} [DecidableEq α] {f : Nat → α} {n : Nat} (h : ∀ i j, i < n → j < n → f i = f j → i = j) : nodupB ((List.range n).map f) = true := by
  refine nodup_map ?_
  intro i j x y hi hj e
  have hi' := J_len hi
  have hj' := J_len hj
  simp at hi' hj'
  rw [List.getElem?_range hi'] at hi
  rw [List.getElem?_range hj'] at hj
  simp at hi hj
  subst hi hj
  exact h i j hi' hj' e
theorem entC_ent {d : Dr} (h : chk d = (⟨#[]⟩, 0)) (hb : ∀ x ∈ d.barred, x < 101) (l : List Int) (j i : Nat) (hi : i < 7) : entC d (entE d l j i) = 0 := by
  have hkd := chk_kind (d := d) (by rw [h])
  have hid : (entE d l j i).id = 101 + i := by
    unfold entE
    split
    · rfl
    · split <;> rfl
  unfold entC
  rw [if_neg (by rw [h]; simp), if_neg (by rw [hid, within_ok (by omega) (by omega)]; simp), if_neg]
  · rcases hkd with hk | hk | hk
    · obtain ⟨⟨p1, p2⟩, p3, p4, p5⟩ := chk_pick (d := d) (by rw [h]) hk
      have e1 : entE d l j i = ⟨101 + i, 0, 0, lotPicks d l j, [], []⟩ := by unfold entE; rw [if_pos hk]
      rw [if_pos hk, e1, if_neg (by simp [fW, fG])]
      have f0 := nx_nonneg l j (n := d.pool - d.pick + 1) (by omega)
      have f1 := nx_lt l j (n := d.pool - d.pick + 1) (by omega)
      have hlen : ((lotPicks d l j).length : Int) = d.pick := by
        unfold lotPicks lotPs
        split <;> simp <;> omega
      show ckPicks d ⟨101 + i, 0, 0, lotPicks d l j, [], []⟩ = 0
      unfold ckPicks
      rw [if_neg (by simpa using hlen), if_pos]
      show okPicks d.pool 0 (lotPicks d l j) = true
      unfold lotPicks
      split
      · rename_i hB
        unfold lotB at hB
        simp at hB
        unfold lotPs
        obtain ⟨n, hn⟩ : ∃ n, d.pick.toNat = n + 1 := ⟨d.pick.toNat - 1, by omega⟩
        rw [hn, Nat.add_sub_cancel]
        exact okPicks_set _ n _ _ (by unfold lotFrom; omega) (by omega)
      · unfold lotPs
        exact okPicks_range _ _ _ _ (by unfold lotFrom; omega) (by unfold lotFrom; omega)
    · obtain ⟨p1, p2⟩ := chk_places (d := d) (by rw [h]) hk
      have hnm := chk_names h hk
      have hcl := chk_cls h hk
      have e1 : entE d l j i = ⟨101 + i, nx l j (d.cls + 1), nx l (j + 1) 4, [], balW d l j, []⟩ := by unfold entE; rw [if_neg (by omega), if_pos hk]
      rw [if_neg (by omega), if_pos hk, e1, if_neg (by simp [fP', fG])]
      have f0 := nx_nonneg l j (n := d.cls + 1) (by omega)
      have f1 := nx_lt l j (n := d.cls + 1) (by omega)
      have g0 := nx_nonneg l (j + 1) (n := 4) (by omega)
      have g1 := nx_lt l (j + 1) (n := 4) (by omega)
      have a0 := nx_nonneg l (j + 2) (n := d.places.length) (by omega)
      have a1 := nx_lt l (j + 2) (n := d.places.length) (by omega)
      have b0 := nx_nonneg l (j + 3) (n := d.places.length + 1) (by omega)
      have b1 := nx_lt l (j + 3) (n := d.places.length + 1) (by omega)
      have hm : ∀ q : Nat, q < (nx l (j + 3) (d.places.length + 1)).toNat → 0 ≤ (nx l (j + 2) d.places.length + q).tmod d.places.length ∧ (nx l (j + 2) d.places.length + q).tmod d.places.length < d.places.length := by
        intro q hq
        exact ⟨Int.tmod_nonneg _ (by omega), Int.tmod_lt_of_pos _ (by omega)⟩
      unfold ckWishes
      rw [if_neg, if_neg, if_neg, if_neg]
      · show ¬ nodupB (balW d l j) = false
        unfold balW
        rw [range_nodup]
        · simp
        · intro x y hx hy e
          have hxy := plc_inj hnm (hm x hx).1 (hm x hx).2 (hm y hy).1 (hm y hy).2 e
          rw [mod2 (by omega) (by omega) (by omega), mod2 (by omega) (by omega) (by omega)] at hxy
          split at hxy <;> split at hxy <;> omega
      · show ¬ (balW d l j).all (fun x => memD x (d.places.map (·.1))) = false
        simp only [List.all_eq_false, Bool.not_eq_true, not_exists, not_and, Bool.not_eq_false]
        intro y hy
        obtain ⟨q, hq, rfl⟩ := mem_range_map hy
        have hmm : balF d l j q ∈ d.places.map (·.1) := plc_mem (hm q hq).1 (hm q hq).2
        unfold memD
        simpa using hmm
      · show ¬ (d.places.length : Int) < (balW d l j).length
        unfold balW
        simp
        omega
      · simp [badCF]
        omega
    · have e1 : entE d l j i = ⟨101 + i, 0, 0, [], [], panQ l j 3⟩ := by unfold entE; rw [if_neg (by omega), if_neg (by omega)]
      rw [if_neg (by omega), if_neg (by omega), e1, if_neg (by simp [fP', fW])]
      unfold ckGroups
      have hmem : ∀ y ∈ panQ l j 3, ∃ q : Nat, q < 3 ∧ y = wordB q := by
        intro y hy
        unfold panQ at hy
        rw [List.mem_map] at hy
        obtain ⟨q, hq, rfl⟩ := hy
        rw [List.mem_filter] at hq
        exact ⟨q, by simpa using hq.1, rfl⟩
      rw [if_neg, if_neg, if_neg]
      · show ¬ nodupB (panQ l j 3) = false
        have : nodupB (panQ l j 3) = true := by
          unfold panQ
          refine nodup_map ?_
          intro a b x y ha hb e
          have hx := List.mem_of_getElem? ha
          have hy := List.mem_of_getElem? hb
          rw [List.mem_filter] at hx hy
          have h1 := hx.1
          have h2 := hy.1
          simp at h1 h2
          have hxy := wordB_inj (by omega) (by omega) e
          subst hxy
          obtain ⟨ha', ea⟩ := List.getElem?_eq_some_iff.1 ha
          obtain ⟨hb', eb⟩ := List.getElem?_eq_some_iff.1 hb
          exact (List.getElem_inj (List.nodup_range.filter _)).1 (ea.trans eb.symm)
        rw [this]
        simp
      · show ¬ (panQ l j 3).all isWordB = false
        simp only [List.all_eq_false, Bool.not_eq_true, not_exists, not_and, Bool.not_eq_false]
        intro y hy
        obtain ⟨q, _, rfl⟩ := hmem y hy
        exact wordB_word _
      · show ¬ (12 : Int) < (panQ l j 3).length
        have : (panQ l j 3).length ≤ 3 := by
          unfold panQ
          rw [List.length_map]
          exact Nat.le_trans (List.length_filter_le _ _) (by simp)
        omega
  · rw [hid]
    unfold memD
    simp only [decide_eq_true_eq]
    intro hm
    have := hb _ hm
    omega
end Go.Proofs.Ytgephdcapajaiaa
