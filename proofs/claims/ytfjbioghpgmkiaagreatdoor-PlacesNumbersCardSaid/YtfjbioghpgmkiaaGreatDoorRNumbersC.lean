/- For every input the law PlacesNumbers returns true and its arguments read as before, with the listed tables tied to the program's text; no conditions beyond the given statement's own. -/
import Derived.Test.YtfjbioghpgmkiaaGreatDoorQ5
import Derived.SevenTiedAt
namespace Go.Proofs.YtfjbioghpgmkiaaGreatDoor
open Go.Eng Go.ChangeShapes Go.WideShapes Go.ChangeAt Go.RowKit

set_option maxRecDepth 100000 in
theorem placesNumbers_lifted (os : Os) (started : os.Started) (H : Type) (enc : TypeId × Value → H) :
    ReturnsInHanded {} Tryz.checked os 9 .any (fun w args => (Rows.placesNumbersSpec.pre enc Tryz.prog Tryz.f9 Rows.placesNumbersRow.domain false w args ∧ laidMetH Tryz.prog Rows.placesNumbersRow.laid w) ∧ sizedMet enc Tryz.prog Tryz.f9 (OpenSpec.ofChange Rows.placesNumbersSpec) false w args)
      (Rows.placesNumbersSpec.post enc Tryz.prog Tryz.f9 false true false false) := by
  refine returnsInHanded_of_change_and (C := Tryz.checked) (X := fun w _ => laidMetH Tryz.prog Rows.placesNumbersRow.laid w) (fun _ _ _ hh h => h.of_heap hh) ownK started (by kernel_rfl) Tryz.func9
    (ChangeSpec.witness_at (enc := enc) (C := Tryz.checked) (os := os) (X := fun w _ => laidMetH Tryz.prog Rows.placesNumbersRow.laid w) false (laidWorld os) #[.slice none 0 0, .int .u8 0, .agg #[.int .i64 0, .int .i64 0, .int .i64 0]] 8 rfl (by kernel_rfl) (by kernel_rfl) (by kernel_rfl) (by kernel_rfl) (by kernel_rfl) (laidWorld_met os _)) ?_
  intro W base args ds gs before hval hW _ hsz _ _
  have hW' := hW
  obtain ⟨p, q, hA0, hV, rfl, hfz, hnd⟩ := hW
  have hA : DataW.TrodAll enc Tryz.prog W 0 (fun _ => true) true Tryz.f9.params.toList args.toList ds p := hA0
  rw [Tryz.params9] at hA
  obtain ⟨v0, v1, v2, d0, d1, d2, p0, p1, p2, rfl, rfl, rfl, h0, h1, h2⟩ := trodAll_three hA
  obtain ⟨rfl, rfl⟩ := trodVars_none hV
  have hval' : ∀ (j : Nat) t v, Tryz.f9.params[j]? = some t → (#[v0, v1, v2] : Array Value)[j]? = some v → Value.okWide Tryz.prog W .any base t v := hval
  rw [Tryz.params9] at hval'
  have hsz' : (DataW.weightsEach Tryz.prog (Tryz.f9.params.toList ++ []) ([d0, d1, d2] ++ [])).all (· ≤ reachBytes) = true := hsz
  rw [Tryz.params9, List.append_nil, List.append_nil] at hsz'
  obtain ⟨f0, h0⟩ := h0
  obtain ⟨s, c, l, e0, hlc, hcm, hs, _, hx0⟩ := rd_ints h0
  have hv0 := slice_of_cells Tryz.underlying30 (hval' 0 30 v0 rfl rfl) e0
  have hz0 := sized_list (j := 0) (k := 8) hsz' rfl rfl Tryz.underlying30 (by kernel_rfl) hx0
  obtain ⟨n1, hv1, _, _, hw1⟩ := open_int Tryz.underlying5 (hval' 1 5 v1 rfl rfl) h1
  have m1a : IntKind.u8.min = 0 := by decide
  have m1b : IntKind.u8.max = 255 := by decide
  simp only [Lit.wf, Bool.and_eq_true, decide_eq_true_eq, m1a, m1b] at hw1
  obtain ⟨a1, rfl⟩ : ∃ a : Nat, n1 = a := ⟨n1.toNat, by omega⟩
  obtain ⟨f2, h2⟩ := h2
  obtain ⟨t, e2, ht⟩ := rd_arr3 h2
  have hv2 := agg_of_cells e2 (by show 2 ≤ 3; omega)
  subst hv0 hv1 hv2
  refine Calls.mono (c9 l a1 t.1 t.2.1 t.2.2 s c W hs hlc (by omega) ht) fun e W' ⟨v, he, hv, hk⟩ => ?_
  subst hv
  exact ⟨_, he, post_true hW' rfl (by kernel_rfl) (fun t ht => by
    rw [show Tryz.f9.params.toList = [30, 5, 78] from by rw [Tryz.params9]] at ht
    simp only [List.mem_cons, List.mem_nil_iff, or_false] at ht
    rcases ht with rfl | rfl | rfl
    · exact ⟨by kernel_rfl, of_decide_eq_true (by kernel_rfl)⟩
    · exact ⟨by kernel_rfl, of_decide_eq_true (by kernel_rfl)⟩
    · exact ⟨by kernel_rfl, of_decide_eq_true (by kernel_rfl)⟩) rfl rfl rfl hk⟩

theorem placesNumbers_row : Rows.PlacesNumbersSaid :=
  OpenClaim.holds_of_wide 9 Tryz.f9 rfl rfl rfl rfl rfl rfl rfl ⟨rfl, rfl, rfl, rfl, rfl⟩ rfl rfl rfl rfl rfl (by kernel_rfl) Tryz.func9 (by kernel_rfl)
    (of_decide_eq_true (by kernel_rfl)) (by unfold Func.isWrapper; first | (rw [if_pos (by decide +kernel)]; kernel_rfl) | (rw [if_neg (by decide +kernel)]; exact ⟨rfl, rfl⟩))
    (fun os started H enc _ => placesNumbers_lifted os started H enc)
theorem placesNumbers_proved : Rows.PlacesNumbersCardSaid :=
  Claim7.holds_tied_plain_at .later [] [.data, .pinned] true (true, "35f03f22328a066497a796c1ee267de1d8b5afc0cf1b1893de3f127b458d55f1") false
    placesNumbers_row (fun _ h => by cases h) (by kernel_rfl) (fun _ h => by cases h) placesNumbers_row_tie rfl ⟨rfl, rfl⟩ (by kernel_rfl) rfl
    (fun f fn hf hfn => by
      obtain rfl : f = 9 := Option.some.inj ((show Tryz.prog.funcNamed "sortes/sorteslaw19.PlacesNumbers" = some 9 by kernel_rfl).symm.trans hf) |>.symm
      obtain rfl : fn = Tryz.f9 := (Option.some.inj (Tryz.func9.symm.trans hfn)).symm
      exact ⟨by kernel_rfl, fun j t ht => by
        rw [Tryz.params9] at ht
        rcases j with _ | j
        · obtain rfl : t = 30 := by simpa using ht.symm
          exact (show Tryz.prog.wantsStandIn 30 = false by kernel_rfl)
        · rcases j with _ | j
          · obtain rfl : t = 5 := by simpa using ht.symm
            exact (show Tryz.prog.wantsStandIn 5 = false by kernel_rfl)
          · rcases j with _ | j
            · obtain rfl : t = 78 := by simpa using ht.symm
              exact (show Tryz.prog.wantsStandIn 78 = false by kernel_rfl)
            · simp at ht
      ⟩)
    (by kernel_rfl)
#print axioms placesNumbers_proved
end Go.Proofs.YtfjbioghpgmkiaaGreatDoor
