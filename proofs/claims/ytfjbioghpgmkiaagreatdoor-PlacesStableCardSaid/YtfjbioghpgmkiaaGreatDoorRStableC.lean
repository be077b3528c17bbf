/- For every input the law PlacesStable returns true and its arguments read as before, with the listed tables tied to the program's text; no conditions beyond the given statement's own. -/
import Derived.Test.YtfjbioghpgmkiaaGreatDoorQ5
import Derived.SevenTiedAt
namespace Go.Proofs.YtfjbioghpgmkiaaGreatDoor
open Go.Eng Go.ChangeShapes Go.WideShapes Go.ChangeAt Go.RowKit

set_option maxRecDepth 100000 in
theorem placesStable_lifted (os : Os) (started : os.Started) (H : Type) (enc : TypeId × Value → H) :
    ReturnsInHanded {} Tryz.checked os 10 .any (fun w args => (Rows.placesStableSpec.pre enc Tryz.prog Tryz.f10 Rows.placesStableRow.domain false w args ∧ laidMetH Tryz.prog Rows.placesStableRow.laid w) ∧ sizedMet enc Tryz.prog Tryz.f10 (OpenSpec.ofChange Rows.placesStableSpec) false w args)
      (Rows.placesStableSpec.post enc Tryz.prog Tryz.f10 false true false false) := by
  refine returnsInHanded_of_change_and (C := Tryz.checked) (X := fun w _ => laidMetH Tryz.prog Rows.placesStableRow.laid w) (fun _ _ _ hh h => h.of_heap hh) ownK started (by kernel_rfl) Tryz.func10
    (ChangeSpec.witness_at (enc := enc) (C := Tryz.checked) (os := os) (X := fun w _ => laidMetH Tryz.prog Rows.placesStableRow.laid w) false (laidWorld os) #[.agg #[.slice none 0 0, .slice none 0 0], .int .i64 0, .slice none 0 0] 8 rfl (by kernel_rfl) (by kernel_rfl) (by kernel_rfl) (by kernel_rfl) (by kernel_rfl) (laidWorld_met os _)) ?_
  intro W base args ds gs before hval hW _ hsz _ _
  have hW' := hW
  obtain ⟨p, q, hA0, hV, rfl, hfz, hnd⟩ := hW
  have hA : DataW.TrodAll enc Tryz.prog W 0 (fun _ => true) true Tryz.f10.params.toList args.toList ds p := hA0
  rw [Tryz.params10] at hA
  obtain ⟨v0, v1, v2, d0, d1, d2, p0, p1, p2, rfl, rfl, rfl, h0, h1, h2⟩ := trodAll_three hA
  obtain ⟨rfl, rfl⟩ := trodVars_none hV
  have hval' : ∀ (j : Nat) t v, Tryz.f10.params[j]? = some t → (#[v0, v1, v2] : Array Value)[j]? = some v → Value.okWide Tryz.prog W .any base t v := hval
  rw [Tryz.params10] at hval'
  have hsz' : (DataW.weightsEach Tryz.prog (Tryz.f10.params.toList ++ []) ([d0, d1, d2] ++ [])).all (· ≤ reachBytes) = true := hsz
  rw [Tryz.params10, List.append_nil, List.append_nil] at hsz'
  obtain ⟨f0, h0⟩ := h0
  obtain ⟨sp, cp, lp, se, ce, le, e0, hsp, hpr, hse, hsw⟩ := rd_plan h0
  have hv0 := agg_of_cells e0 (by show 2 ≤ 2; omega)
  obtain ⟨n1, hv1, _, _, hw1⟩ := open_int Tryz.underlying3 (hval' 1 3 v1 rfl rfl) h1
  have m1a : IntKind.i64.min = -9223372036854775808 := by decide
  have m1b : IntKind.i64.max = 9223372036854775807 := by decide
  simp only [Lit.wf, Bool.and_eq_true, decide_eq_true_eq, m1a, m1b] at hw1
  obtain ⟨f2, h2⟩ := h2
  obtain ⟨s, c, l, e2, _, _, hs, _⟩ := rd_list2 h2
  have hv2 := slice_of_cells Tryz.underlying22 (hval' 2 22 v2 rfl rfl) e2
  subst hv0 hv1 hv2
  refine Calls.mono (c10 lp le sp se cp ce n1 l s c W hsp hse hsw hpr hw1.2 hs) fun e W' ⟨v, he, hv, hk⟩ => ?_
  subst hv
  exact ⟨_, he, post_true hW' rfl (by kernel_rfl) (fun t ht => by
    rw [show Tryz.f10.params.toList = [25, 3, 22] from by rw [Tryz.params10]] at ht
    simp only [List.mem_cons, List.mem_nil_iff, or_false] at ht
    rcases ht with rfl | rfl | rfl
    · exact ⟨by kernel_rfl, of_decide_eq_true (by kernel_rfl)⟩
    · exact ⟨by kernel_rfl, of_decide_eq_true (by kernel_rfl)⟩
    · exact ⟨by kernel_rfl, of_decide_eq_true (by kernel_rfl)⟩) rfl rfl rfl hk⟩

theorem placesStable_row : Rows.PlacesStableSaid :=
  OpenClaim.holds_of_wide 10 Tryz.f10 rfl rfl rfl rfl rfl rfl rfl ⟨rfl, rfl, rfl, rfl, rfl⟩ rfl rfl rfl rfl rfl (by kernel_rfl) Tryz.func10 (by kernel_rfl)
    (of_decide_eq_true (by kernel_rfl)) (by unfold Func.isWrapper; first | (rw [if_pos (by decide +kernel)]; kernel_rfl) | (rw [if_neg (by decide +kernel)]; exact ⟨rfl, rfl⟩))
    (fun os started H enc _ => placesStable_lifted os started H enc)
theorem placesStable_proved : Rows.PlacesStableCardSaid :=
  Claim7.holds_tied_plain_at .later [] [.data, .pinned] true (true, "35f03f22328a066497a796c1ee267de1d8b5afc0cf1b1893de3f127b458d55f1") false
    placesStable_row (fun _ h => by cases h) (by kernel_rfl) (fun _ h => by cases h) placesStable_row_tie rfl ⟨rfl, rfl⟩ (by kernel_rfl) rfl
    (fun f fn hf hfn => by
      obtain rfl : f = 10 := Option.some.inj ((show Tryz.prog.funcNamed "sortes/sorteslaw19.PlacesStable" = some 10 by kernel_rfl).symm.trans hf) |>.symm
      obtain rfl : fn = Tryz.f10 := (Option.some.inj (Tryz.func10.symm.trans hfn)).symm
      exact ⟨by kernel_rfl, fun j t ht => by
        rw [Tryz.params10] at ht
        rcases j with _ | j
        · obtain rfl : t = 25 := by simpa using ht.symm
          exact (show Tryz.prog.wantsStandIn 25 = false by kernel_rfl)
        · rcases j with _ | j
          · obtain rfl : t = 3 := by simpa using ht.symm
            exact (show Tryz.prog.wantsStandIn 3 = false by kernel_rfl)
          · rcases j with _ | j
            · obtain rfl : t = 22 := by simpa using ht.symm
              exact (show Tryz.prog.wantsStandIn 22 = false by kernel_rfl)
            · simp at ht
      ⟩)
    (by kernel_rfl)
#print axioms placesStable_proved
end Go.Proofs.YtfjbioghpgmkiaaGreatDoor
