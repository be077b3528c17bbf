/- Layer 14: rules out of numbers are permitted (the plain law behind Draw); conditions are the hypotheses of each law. -/
import Derived.Test.YtgephdcapajaiaaQ
namespace Go.Proofs.Ytgephdcapajaiaa
open Go.Eng

theorem nodup_of_inj {α : Type} {l : List α} (h : ∀ (i j : Nat) (x : α), l[i]? = some x → l[j]? = some x → i = j) : l.Nodup := by
  rw [List.nodup_iff_pairwise_ne, List.pairwise_iff_getElem]
  intro i j hi hj hij e
  have := h i j l[i] (List.getElem?_eq_getElem hi) (by rw [e]; exact List.getElem?_eq_getElem hj)
  omega
theorem nodup_map {α β : Type} [DecidableEq β] {l : List α} {f : α → β} (h : ∀ (i j : Nat) (x y : α), l[i]? = some x → l[j]? = some y → f x = f y → i = j) : nodupB (l.map f) = true := by
  unfold nodupB
  rw [decide_eq_true_eq]
  refine nodup_of_inj ?_
  intro i j x hi hj
  rw [List.getElem?_map] at hi hj
  cases h1 : l[i]? with
  | none => rw [h1] at hi; cases hi
  | some a =>
    cases h2 : l[j]? with
    | none => rw [h2] at hj; cases hj
    | some b =>
      rw [h1] at hi
      rw [h2] at hj
      simp at hi hj
      exact h i j a b h1 h2 (by rw [hi, hj])
theorem J_snoc {α : Type} {J : Nat → α → Prop} {l : List α} {x : α} (h : ∀ q y, l[q]? = some y → J q y) (hx : J l.length x) : ∀ q y, (l ++ [x])[q]? = some y → J q y := by
  intro q y hy
  rcases Nat.lt_trichotomy q l.length with hq | hq | hq
  · rw [List.getElem?_append_left hq] at hy
    exact h q y hy
  · subst hq
    rw [List.getElem?_append_right (Nat.le_refl _)] at hy
    simp at hy
    subst hy
    exact hx
  · rw [List.getElem?_eq_none (by simp; omega)] at hy
    cases hy
theorem J_nil {α : Type} {J : Nat → α → Prop} : ∀ (q : Nat) (y : α), ([] : List α)[q]? = some y → J q y := by
  intro q y h
  simp at h
theorem J_all {α : Type} {J : Nat → α → Prop} {l : List α} (h : ∀ q y, l[q]? = some y → J q y) {P : α → Prop} (hp : ∀ q y, q < l.length → J q y → P y) : ∀ y ∈ l, P y := by
  intro y hy
  obtain ⟨q, hq, e⟩ := List.getElem_of_mem hy
  exact hp q y hq (h q y (by rw [← e]; exact List.getElem?_eq_getElem hq))
theorem J_len {α : Type} {l : List α} {q : Nat} {y : α} (h : l[q]? = some y) : q < l.length := (List.getElem?_eq_some_iff.1 h).1

abbrev JBar (q : Nat) (x : Int) : Prop := 5 * (q : Int) ≤ x ∧ x < 5 * q + 4
abbrev JTier (pick : Int) (q : Nat) (t : Int × Int) : Prop := t.1 = pick - q ∧ 1 ≤ t.2 ∧ t.2 ≤ 33
abbrev JPlace (q : Nat) (p : ByteArray × Int) : Prop := p.1 = wordB (q : Int) ∧ 1 ≤ p.2 ∧ p.2 ≤ 3
abbrev JQuota (sz : Int) (q : Nat) (p : ByteArray × Int × Int) : Prop := p.1 = wordB (q : Int) ∧ 0 ≤ p.2.1 ∧ p.2.1 ≤ p.2.2 ∧ p.2.2 ≤ sz

theorem bar_ok {d : Dr} (h : ∀ q x, d.barred[q]? = some x → JBar q x) (hl : d.barred.length ≤ 2) : clR d 4 = 0 := by
  show ckBar d = 0
  unfold ckBar
  rw [if_neg (by omega), if_pos ?_]
  have := nodup_map (l := d.barred) (f := fun x => x) (by
    intro i j x y hi hj e
    have h1 := h i x hi
    have h2 := h j y hj
    simp only [JBar] at h1 h2
    omega)
  rwa [List.map_id'] at this
theorem sum_le (l : List (Int × Int)) (h : ∀ t ∈ l, 1 ≤ t.2 ∧ t.2 ≤ 33) : 0 ≤ sum2 l ∧ sum2 l ≤ 33 * l.length := by
  induction l with
  | nil => simp [sum2]
  | cons t l ih =>
    have h1 := h t (by simp)
    have h2 := ih fun t ht => h t (by simp [ht])
    unfold sum2 at *
    simp only [List.map_cons, List.sum_cons, List.length_cons]
    omega
theorem tier_ok {d : Dr} (h : ∀ q x, d.tiers[q]? = some x → JTier d.pick q x) (h1 : 1 ≤ d.tiers.length) (h3 : d.tiers.length ≤ 3) (hp : (d.tiers.length : Int) ≤ d.pick + 1) : clR d 7 = 0 := by
  show ckTiers d = 0
  have hall : ∀ t ∈ d.tiers, 0 ≤ t.1 ∧ t.1 ≤ d.pick ∧ 1 ≤ t.2 ∧ t.2 ≤ 33 := J_all h fun q y hq hy => by
    simp only [JTier] at hy
    omega
  have hs := sum_le d.tiers fun t ht => (hall t ht).2.2
  unfold ckTiers
  rw [if_neg (by simp [lenBad]; omega), if_neg, if_neg, within_ok (by omega) (by omega)]
  · rw [nodup_map (by
      intro i j x y hi hj e
      have h1 := h i x hi
      have h2 := h j y hj
      simp only [JTier] at h1 h2
      omega)]
    simp
  · simp only [List.all_eq_false, Bool.not_eq_true, not_exists, not_and, Bool.not_eq_false]
    intro t ht
    have := hall t ht
    simp [tierOk]
    omega
theorem place_ok {d : Dr} (h : ∀ q x, d.places[q]? = some x → JPlace q x) (h1 : 1 ≤ d.places.length) (h3 : d.places.length ≤ 3) : clR d 8 = 0 := by
  show ckPlaces d = 0
  have hall : ∀ t ∈ d.places, isWordB t.1 = true ∧ 1 ≤ t.2 ∧ t.2 ≤ 3 := J_all h fun q y hq hy => by
    simp only [JPlace] at hy
    rw [hy.1]
    exact ⟨wordB_word _, hy.2⟩
  unfold ckPlaces
  rw [if_neg (by simp [lenBad]; omega), if_neg, if_neg, if_neg]
  · rw [nodup_map (by
      intro i j x y hi hj e
      have h1 := h i x hi
      have h2 := h j y hj
      simp only [JPlace] at h1 h2
      have hi' := J_len hi
      have hj' := J_len hj
      exact wordB_inj (by omega) (by omega) (by rw [← h1.1, ← h2.1, e]))]
    simp
  · simp only [List.all_eq_false, Bool.not_eq_true, not_exists, not_and, Bool.not_eq_false]
    intro t ht
    have := hall t ht
    simp [placeOk]
    omega
  · simp only [List.all_eq_false, Bool.not_eq_true, not_exists, not_and, Bool.not_eq_false]
    intro t ht
    exact (hall t ht).1
theorem quota_ok {d : Dr} (h : ∀ q x, d.quotas[q]? = some x → JQuota d.size q x) (h3 : d.quotas.length ≤ 3) : clR d 11 = 0 := by
  show ckQuotas d = 0
  have hall : ∀ t ∈ d.quotas, isWordB t.1 = true ∧ 0 ≤ t.2.1 ∧ t.2.1 ≤ t.2.2 ∧ t.2.2 ≤ d.size := J_all h fun q y hq hy => by
    simp only [JQuota] at hy
    rw [hy.1]
    exact ⟨wordB_word _, hy.2⟩
  unfold ckQuotas
  rw [if_neg (by omega), if_neg, if_neg, if_neg]
  · rw [nodup_map (by
      intro i j x y hi hj e
      have h1 := h i x hi
      have h2 := h j y hj
      simp only [JQuota] at h1 h2
      have hi' := J_len hi
      have hj' := J_len hj
      exact wordB_inj (by omega) (by omega) (by rw [← h1.1, ← h2.1, e]))]
    simp
  · simp only [List.all_eq_false, Bool.not_eq_true, not_exists, not_and, Bool.not_eq_false]
    intro t ht
    have := hall t ht
    simp [quotaOk]
    omega
  · simp only [List.all_eq_false, Bool.not_eq_true, not_exists, not_and, Bool.not_eq_false]
    intro t ht
    exact (hall t ht).1

/-! the rules that Draw makes -/
def dz : Dr := ⟨⟨#[]⟩, 0, 0, 0, 0, 0, [], false, [], 0, 0, [], []⟩
def az : DrA := ⟨none, 0, none, 0, none, 0, none, 0⟩
def dr0 (x0 x1 x2 x3 : Int) (xs : List Int) : Dr := ⟨⟨#[120]⟩ ++ wordB x0, 1 + x1, 1 + x2, x3, 0, 0, [], false, [], 0, 0, [], xs⟩
def drL (x0 x1 x2 x3 : Int) (xs : List Int) (pool pick : Int) (roll : Bool) (ts : List (Int × Int)) : Dr := ⟨⟨#[120]⟩ ++ wordB x0, 1 + x1, 1 + x2, x3, pool, pick, ts, roll, [], 0, 0, [], xs⟩
def drB (x0 x1 x2 x3 : Int) (xs : List Int) (cls : Int) (ps : List (ByteArray × Int)) : Dr := ⟨⟨#[120]⟩ ++ wordB x0, 1 + x1, 1 + x2, x3, 0, 0, [], false, ps, cls, 0, [], xs⟩
def drP (x0 x1 x2 x3 : Int) (xs : List Int) (size : Int) (qs : List (ByteArray × Int × Int)) : Dr := ⟨⟨#[120]⟩ ++ wordB x0, 1 + x1, 1 + x2, x3, 0, 0, [], false, [], 0, size, qs, xs⟩
theorem name_ok {d : Dr} (h : isWordB d.name = true) : clR d 0 = 0 := by
  show ckName d = 0
  unfold ckName
  rw [if_pos h]
theorem chk_drL {x0 x1 x2 x3 : Int} {xs : List Int} {pool pick : Int} {roll : Bool} {ts : List (Int × Int)} (h1 : x1 = 0) (h2 : 0 ≤ x2 ∧ x2 < 9) (h3 : 0 ≤ x3 ∧ x3 < 9) (hb : ∀ q x, xs[q]? = some x → JBar q x) (hbl : xs.length ≤ 2)
    (hp : 1 ≤ pool ∧ pool ≤ 60) (hk : 1 ≤ pick ∧ pick ≤ 10 ∧ pick ≤ pool) (ht : ∀ q x, ts[q]? = some x → JTier pick q x) (ht1 : 1 ≤ ts.length) (ht3 : ts.length ≤ 3) (htp : (ts.length : Int) ≤ pick + 1) : chk (drL x0 x1 x2 x3 xs pool pick roll ts) = (⟨#[]⟩, 0) := by
  subst h1
  refine chk_mk (name_ok (xword _)) ?_ (within_ok (by show 1 ≤ 1 + x2; omega) (by show 1 + x2 ≤ _; omega)) (within_ok h3.1 (by show x3 ≤ _; omega)) (bar_ok hb hbl) (fun _ => ⟨within_ok hp.1 hp.2, within_ok hk.1 (by show pick ≤ min 10 pool; omega), tier_ok ht ht1 ht3 htp⟩) (fun h => ?_) (fun h => ?_)
  · rfl
  · cases h
  · cases h
theorem chk_drB {x0 x1 x2 x3 : Int} {xs : List Int} {cls : Int} {ps : List (ByteArray × Int)} (h1 : x1 = 1) (h2 : 0 ≤ x2 ∧ x2 < 9) (h3 : 0 ≤ x3 ∧ x3 < 9) (hb : ∀ q x, xs[q]? = some x → JBar q x) (hbl : xs.length ≤ 2)
    (hc : 0 ≤ cls ∧ cls ≤ 9) (ht : ∀ q x, ps[q]? = some x → JPlace q x) (ht1 : 1 ≤ ps.length) (ht3 : ps.length ≤ 3) : chk (drB x0 x1 x2 x3 xs cls ps) = (⟨#[]⟩, 0) := by
  subst h1
  refine chk_mk (name_ok (xword _)) ?_ (within_ok (by show 1 ≤ 1 + x2; omega) (by show 1 + x2 ≤ _; omega)) (within_ok h3.1 (by show x3 ≤ _; omega)) (bar_ok hb hbl) (fun h => ?_) (fun _ => ⟨place_ok ht ht1 ht3, within_ok hc.1 hc.2⟩) (fun h => ?_)
  · rfl
  · cases h
  · cases h
theorem chk_drP {x0 x1 x2 x3 : Int} {xs : List Int} {size : Int} {qs : List (ByteArray × Int × Int)} (h1 : x1 = 2) (h2 : 0 ≤ x2 ∧ x2 < 9) (h3 : 0 ≤ x3 ∧ x3 < 9) (hb : ∀ q x, xs[q]? = some x → JBar q x) (hbl : xs.length ≤ 2)
    (hc : 1 ≤ size ∧ size ≤ 40) (ht : ∀ q x, qs[q]? = some x → JQuota size q x) (ht3 : qs.length ≤ 3) : chk (drP x0 x1 x2 x3 xs size qs) = (⟨#[]⟩, 0) := by
  subst h1
  refine chk_mk (name_ok (xword _)) ?_ (within_ok (by show 1 ≤ 1 + x2; omega) (by show 1 + x2 ≤ _; omega)) (within_ok h3.1 (by show x3 ≤ _; omega)) (bar_ok hb hbl) (fun h => ?_) (fun h => ?_) (fun _ => ⟨within_ok hc.1 hc.2, quota_ok ht ht3⟩)
  · rfl
  · cases h
  · cases h
end Go.Proofs.Ytgephdcapajaiaa
