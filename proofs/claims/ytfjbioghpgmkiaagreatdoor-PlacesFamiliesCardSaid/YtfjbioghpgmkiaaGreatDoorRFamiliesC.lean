/- For every input the law PlacesFamilies returns true and its arguments read as before, with the listed tables tied to the program's text; no conditions beyond the given statement's own. -/
import Derived.Test.YtfjbioghpgmkiaaGreatDoorQ5
import Derived.SevenTiedAt
namespace Go.Proofs.YtfjbioghpgmkiaaGreatDoor
open Go.Eng Go.ChangeShapes Go.WideShapes Go.ChangeAt Go.RowKit

set_option maxRecDepth 100000 in
theorem placesFamilies_lifted (os : Os) (started : os.Started) (H : Type) (enc : TypeId × Value → H) :
    ReturnsInHanded {} Tryz.checked os 6 .any (fun w args => (Rows.placesFamiliesSpec.pre enc Tryz.prog Tryz.f6 Rows.placesFamiliesRow.domain false w args ∧ laidMetH Tryz.prog Rows.placesFamiliesRow.laid w) ∧ sizedMet enc Tryz.prog Tryz.f6 (OpenSpec.ofChange Rows.placesFamiliesSpec) false w args)
      (Rows.placesFamiliesSpec.post enc Tryz.prog Tryz.f6 false true false false) := by
  refine returnsInHanded_of_change_and (C := Tryz.checked) (X := fun w _ => laidMetH Tryz.prog Rows.placesFamiliesRow.laid w) (fun _ _ _ hh h => h.of_heap hh) ownK started (by kernel_rfl) Tryz.func6
    (ChangeSpec.witness_at (enc := enc) (C := Tryz.checked) (os := os) (X := fun w _ => laidMetH Tryz.prog Rows.placesFamiliesRow.laid w) false (laidWorld os) #[.slice none 0 0, .int .u8 0, .int .i64 0] 8 rfl (by kernel_rfl) (by kernel_rfl) (by kernel_rfl) (by kernel_rfl) (by kernel_rfl) (laidWorld_met os _)) ?_
  intro W base args ds gs before hval hW _ hsz _ _
  have hW' := hW
  obtain ⟨p, q, hA0, hV, rfl, hfz, hnd⟩ := hW
  have hA : DataW.TrodAll enc Tryz.prog W 0 (fun _ => true) true Tryz.f6.params.toList args.toList ds p := hA0
  rw [Tryz.params6] at hA
  obtain ⟨v0, v1, v2, d0, d1, d2, p0, p1, p2, rfl, rfl, rfl, h0, h1, h2⟩ := trodAll_three hA
  obtain ⟨rfl, rfl⟩ := trodVars_none hV
  have hval' : ∀ (j : Nat) t v, Tryz.f6.params[j]? = some t → (#[v0, v1, v2] : Array Value)[j]? = some v → Value.okWide Tryz.prog W .any base t v := hval
  rw [Tryz.params6] at hval'
  have hsz' : (DataW.weightsEach Tryz.prog (Tryz.f6.params.toList ++ []) ([d0, d1, d2] ++ [])).all (· ≤ reachBytes) = true := hsz
  rw [Tryz.params6, List.append_nil, List.append_nil] at hsz'
  obtain ⟨f0, h0⟩ := h0
  obtain ⟨s, c, l, e0, hlc, hcm, hs, hb, hx0⟩ := rd_bytes h0
  have hv0 := slice_of_cells Tryz.underlying61 (hval' 0 61 v0 rfl rfl) e0
  have hz0 := sized_list (j := 0) (k := 1) hsz' rfl rfl Tryz.underlying61 (by kernel_rfl) hx0
  obtain ⟨n1, hv1, _, _, hw1⟩ := open_int Tryz.underlying5 (hval' 1 5 v1 rfl rfl) h1
  have m1a : IntKind.u8.min = 0 := by decide
  have m1b : IntKind.u8.max = 255 := by decide
  simp only [Lit.wf, Bool.and_eq_true, decide_eq_true_eq, m1a, m1b] at hw1
  obtain ⟨a1, rfl⟩ : ∃ a : Nat, n1 = a := ⟨n1.toNat, by omega⟩
  obtain ⟨n2, hv2, _, _, hw2⟩ := open_int Tryz.underlying3 (hval' 2 3 v2 rfl rfl) h2
  have m2a : IntKind.i64.min = -9223372036854775808 := by decide
  have m2b : IntKind.i64.max = 9223372036854775807 := by decide
  simp only [Lit.wf, Bool.and_eq_true, decide_eq_true_eq, m2a, m2b] at hw2
  subst hv0 hv1 hv2
  refine Calls.mono (c6 l a1 n2 s c W hs (by omega) (by omega) hw2.2) fun e W' ⟨v, he, hv, hk⟩ => ?_
  subst hv
  exact ⟨_, he, post_true hW' rfl (by kernel_rfl) (fun t ht => by
    rw [show Tryz.f6.params.toList = [61, 5, 3] from by rw [Tryz.params6]] at ht
    simp only [List.mem_cons, List.mem_nil_iff, or_false] at ht
    rcases ht with rfl | rfl | rfl
    · exact ⟨by kernel_rfl, of_decide_eq_true (by kernel_rfl)⟩
    · exact ⟨by kernel_rfl, of_decide_eq_true (by kernel_rfl)⟩
    · exact ⟨by kernel_rfl, of_decide_eq_true (by kernel_rfl)⟩) rfl rfl rfl hk⟩

theorem placesFamilies_row : Rows.PlacesFamiliesSaid :=
  OpenClaim.holds_of_wide 6 Tryz.f6 rfl rfl rfl rfl rfl rfl rfl ⟨rfl, rfl, rfl, rfl, rfl⟩ rfl rfl rfl rfl rfl (by kernel_rfl) Tryz.func6 (by kernel_rfl)
    (of_decide_eq_true (by kernel_rfl)) (by unfold Func.isWrapper; first | (rw [if_pos (by decide +kernel)]; kernel_rfl) | (rw [if_neg (by decide +kernel)]; exact ⟨rfl, rfl⟩))
    (fun os started H enc _ => placesFamilies_lifted os started H enc)
theorem placesFamilies_proved : Rows.PlacesFamiliesCardSaid :=
  Claim7.holds_tied_plain_at .later [] [.data, .pinned] true (true, "35f03f22328a066497a796c1ee267de1d8b5afc0cf1b1893de3f127b458d55f1") false
    placesFamilies_row (fun _ h => by cases h) (by kernel_rfl) (fun _ h => by cases h) placesFamilies_row_tie rfl ⟨rfl, rfl⟩ (by kernel_rfl) rfl
    (fun f fn hf hfn => by
      obtain rfl : f = 6 := Option.some.inj ((show Tryz.prog.funcNamed "sortes/sorteslaw19.PlacesFamilies" = some 6 by kernel_rfl).symm.trans hf) |>.symm
      obtain rfl : fn = Tryz.f6 := (Option.some.inj (Tryz.func6.symm.trans hfn)).symm
      exact ⟨by kernel_rfl, fun j t ht => by
        rw [Tryz.params6] at ht
        rcases j with _ | j
        · obtain rfl : t = 61 := by simpa using ht.symm
          exact (show Tryz.prog.wantsStandIn 61 = false by kernel_rfl)
        · rcases j with _ | j
          · obtain rfl : t = 5 := by simpa using ht.symm
            exact (show Tryz.prog.wantsStandIn 5 = false by kernel_rfl)
          · rcases j with _ | j
            · obtain rfl : t = 3 := by simpa using ht.symm
              exact (show Tryz.prog.wantsStandIn 3 = false by kernel_rfl)
            · simp at ht
      ⟩)
    (by kernel_rfl)
#print axioms placesFamilies_proved
end Go.Proofs.YtfjbioghpgmkiaaGreatDoor
