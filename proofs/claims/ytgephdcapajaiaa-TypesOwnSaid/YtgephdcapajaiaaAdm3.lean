/- Layer 14: what Admit comes to: lengths, beginnings, admission again, all admitted (plain laws); elements of owned lists; conditions are the hypotheses of each law. -/
import Derived.Test.YtgephdcapajaiaaAdm2
namespace Go.Eng
/-- the cells of an element of an owned list -/
theorem own_elem {α : Type} {w0 w : World} {M : List Nat} {L : List Ent} {e k g c q : Nat} {enc : α → List Value} {l : List α} {x : α} (hp : Hp w0 M w L) (i : Nat) (hi : L[i]? = some (ownL enc e k (some ⟨g, 0, none⟩) c l)) (hv : SVL (some ⟨g, 0, none⟩) c l) (hk : ∀ x, (enc x).length = k) (hx : l[q]? = some x) :
    ∀ (j : Nat) (v : Value), (enc x)[j]? = some v → w.cell? ⟨g, 0 + q * k + j, none⟩ = some v := by
  obtain ⟨b, o, hs, hc⟩ := ownL_At hp i hi hv hk q x hx
  cases hs
  exact hc
end Go.Eng
namespace Go.Proofs.Ytgephdcapajaiaa
open Go.Eng
theorem admTo_len {d : Dr} {es : List En} : ∀ k, k ≤ es.length → (admTo d es k).1.length + (admTo d es k).2.length = k
  | 0, _ => by simp [admTo]
  | k + 1, h => by
    have ih := admTo_len (d := d) (es := es) k (by omega)
    rw [admTo_succ (List.getElem?_eq_getElem (by omega))]
    unfold admStep
    split <;> simp <;> omega
theorem admTo_take {d : Dr} {es : List En} {n : Nat} : ∀ k, k ≤ n → k ≤ es.length → admTo d (es.take n) k = admTo d es k
  | 0, _, _ => by simp [admTo]
  | k + 1, h, h2 => by
    have ih := admTo_take (d := d) (es := es) (n := n) k (by omega) (by omega)
    rw [admTo_succ (e := es[k]) (by rw [List.getElem?_take, if_pos (by omega)]; exact List.getElem?_eq_getElem (by omega)), admTo_succ (List.getElem?_eq_getElem (by omega)), ih]
theorem adm_take {d : Dr} {es : List En} {k : Nat} (h : k ≤ es.length) : adm d (es.take k) = admTo d es k := by
  unfold adm
  rw [List.length_take, Nat.min_eq_left h]
  exact admTo_take k (Nat.le_refl _) h
theorem admTo_pre {d : Dr} {es : List En} {k : Nat} : ∀ m, ∃ a b, (admTo d es (k + m)).1 = (admTo d es k).1 ++ a ∧ (admTo d es (k + m)).2 = (admTo d es k).2 ++ b
  | 0 => ⟨[], [], by simp, by simp⟩
  | m + 1 => by
    obtain ⟨a, b, ha, hb⟩ := admTo_pre (d := d) (es := es) (k := k) m
    cases hc : es[k + m]? with
    | none =>
      refine ⟨a, b, ?_, ?_⟩
      · show (admTo d es (k + m + 1)).1 = _
        simp only [admTo, hc]
        exact ha
      · show (admTo d es (k + m + 1)).2 = _
        simp only [admTo, hc]
        exact hb
    | some e =>
      rw [show k + (m + 1) = k + m + 1 from rfl, admTo_succ hc]
      unfold admStep
      split
      · exact ⟨a ++ [e], b, by simp [ha], by simp [hb]⟩
      · exact ⟨a, b ++ [_], by simp [ha], by simp only [hb]; rw [List.append_assoc]⟩
theorem adm_pre {d : Dr} {es : List En} {k : Nat} (h : k ≤ es.length) : (admTo d es k).1.length ≤ (adm d es).1.length ∧ (admTo d es k).1 = (adm d es).1.take (admTo d es k).1.length ∧ (admTo d es k).2.length ≤ (adm d es).2.length ∧ (admTo d es k).2 = (adm d es).2.take (admTo d es k).2.length := by
  obtain ⟨a, b, ha, hb⟩ := admTo_pre (d := d) (es := es) (k := k) (es.length - k)
  rw [show k + (es.length - k) = es.length from by omega] at ha hb
  unfold adm
  rw [ha, hb]
  simp
/-- an entrant was admitted behind those in front of it -/
theorem admTo_ok {d : Dr} {es : List En} : ∀ k, ∀ j e, (admTo d es k).1[j]? = some e → admE d (((admTo d es k).1.take j).map (·.id)) j e = 0
  | 0, j, e, h => by simp [admTo] at h
  | k + 1, j, e, h => by
    have ih := admTo_ok (d := d) (es := es) k
    cases hc : es[k]? with
    | none =>
      simp only [admTo, hc] at h ⊢
      exact ih j e h
    | some x =>
      rw [admTo_succ hc] at h ⊢
      unfold admStep at h ⊢
      split at h
      · rename_i hz
        rw [if_pos hz]
        rcases Nat.lt_trichotomy j (admTo d es k).1.length with hj | hj | hj
        · rw [List.getElem?_append_left hj] at h
          rw [List.take_append_of_le_length (by omega)]
          exact ih j e h
        · subst hj
          rw [List.getElem?_append_right (Nat.le_refl _)] at h
          simp at h
          subst h
          rw [List.take_append_of_le_length (Nat.le_refl _), List.take_length]
          exact hz
        · rw [List.getElem?_eq_none (by simp; omega)] at h
          cases h
      · rename_i hz
        rw [if_neg hz]
        exact ih j e h
theorem adm_again {d : Dr} {A : List En} (h : ∀ j e, A[j]? = some e → admE d ((A.take j).map (·.id)) j e = 0) : ∀ k, k ≤ A.length → admTo d A k = (A.take k, [])
  | 0, _ => by simp [admTo]
  | k + 1, hk => by
    have ih := adm_again h k (by omega)
    have hg := List.getElem?_eq_getElem (l := A) (i := k) (by omega)
    rw [admTo_succ hg, ih]
    unfold admStep
    have h1 := h k _ hg
    simp only [List.length_take, Nat.min_eq_left (show k ≤ A.length by omega)]
    rw [if_pos h1, List.take_add_one, hg]
    rfl
theorem adm_idem {d : Dr} {es : List En} : adm d (adm d es).1 = ((adm d es).1, []) := by
  have := adm_again (d := d) (A := (adm d es).1) (fun j e h => admTo_ok es.length j e h) (adm d es).1.length (Nat.le_refl _)
  rw [List.take_length] at this
  exact this
/-- permitted entrants with different ids are all admitted -/
theorem adm_all {d : Dr} {es : List En} (h : ∀ e ∈ es, entC d e = 0) (hid : (es.map (·.id)).Nodup) (hn : es.length ≤ 40) : adm d es = (es, []) := by
  have := adm_again (d := d) (A := es) (fun j e he => by
    have hm : e ∈ es := List.mem_of_getElem? he
    have hj := J_len he
    have hz := h e hm
    unfold admE
    split
    · rw [if_neg, if_neg (by omega)]
      · exact hz
      · unfold memD
        simp only [decide_eq_true_eq]
        intro hmem
        rw [List.mem_map] at hmem
        obtain ⟨x, hx, hxe⟩ := hmem
        rw [List.mem_take_iff_getElem] at hx
        obtain ⟨i, hi, hix⟩ := hx
        have hi2 : i < es.length := by omega
        have hij : (es.map (·.id))[i]'(by simpa using hi2) = (es.map (·.id))[j]'(by simpa using hj) := by
          obtain ⟨_, e2⟩ := List.getElem?_eq_some_iff.1 he
          simp only [List.getElem_map]
          rw [hix, hxe, e2]
        have := (List.getElem_inj hid).1 hij
        omega
    · exact hz) es.length (Nat.le_refl _)
  rw [List.take_length] at this
  exact this
theorem admTo_mem {d : Dr} {es : List En} : ∀ k e, e ∈ (admTo d es k).1 → e ∈ es
  | 0, e, h => by simp [admTo] at h
  | k + 1, e, h => by
    have ih := admTo_mem (d := d) (es := es) k
    cases hc : es[k]? with
    | none =>
      simp only [admTo, hc] at h
      exact ih e h
    | some x =>
      rw [admTo_succ hc] at h
      unfold admStep at h
      split at h
      · rcases List.mem_append.1 h with h | h
        · exact ih e h
        · have : e = x := by simpa using h
          subst this
          exact List.mem_of_getElem? hc
      · exact ih e h
theorem adm_mem {d : Dr} {es : List En} {e : En} (h : e ∈ (adm d es).1) : e ∈ es := admTo_mem _ _ h
theorem ents_adm {d : Dr} (h : chk d = (⟨#[]⟩, 0)) (hb : ∀ x ∈ d.barred, x < 101) (l : List Int) : adm d (entsOf d l) = (entsOf d l, []) := by
  have m1 := nx_lt l 0 (n := 7) (by decide)
  have m0 := nx_nonneg l 0 (n := 7) (by decide)
  have hid : ∀ j i, (entE d l j i).id = 101 + (i : Int) := by
    intro j i
    unfold entE
    split
    · rfl
    · split <;> rfl
  refine adm_all ?_ ?_ ?_
  · intro e he
    unfold entsOf at he
    obtain ⟨q, hq, rfl⟩ := mem_range_map he
    exact entC_ent h hb _ _ _ (by omega)
  · unfold entsOf
    rw [List.map_map]
    have := range_nodup (f := (fun e : En => e.id) ∘ fun i => entE d l (1 + i * entN d) i) (n := (nx l 0 7).toNat) (by
      intro i j _ _ e
      simp only [Function.comp, hid] at e
      omega)
    unfold nodupB at this
    exact of_decide_eq_true this
  · unfold entsOf
    simp
    omega
end Go.Proofs.Ytgephdcapajaiaa
