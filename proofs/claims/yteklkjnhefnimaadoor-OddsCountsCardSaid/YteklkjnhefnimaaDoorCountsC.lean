/- For every input the law OddsCounts returns true and its arguments read as before, with the listed tables tied to the program's text; no conditions beyond the given statement's own. -/
import Derived.Test.YteklkjnhefnimaaDoorZa
import Derived.Test.YteklkjnhefnimaaDoorFd
import Derived.SevenTiedAt
namespace Go.Proofs.YteklkjnhefnimaaDoor
open Go.Eng Go.ChangeShapes Go.WideShapes Go.ChangeAt Go.RowKit

set_option maxRecDepth 100000 in
theorem oddsCounts_lifted (os : Os) (started : os.Started) (H : Type) (enc : TypeId × Value → H) :
    ReturnsInHanded {} Tryd.checked os 9 .any (fun w args => (Rows.oddsCountsSpec.pre enc Tryd.prog Tryd.f9 Rows.oddsCountsRow.domain false w args ∧ laidMetH Tryd.prog Rows.oddsCountsRow.laid w) ∧ sizedMet enc Tryd.prog Tryd.f9 (OpenSpec.ofChange Rows.oddsCountsSpec) false w args)
      (Rows.oddsCountsSpec.post enc Tryd.prog Tryd.f9 false true false false) := by
  refine returnsInHanded_of_change_and (C := Tryd.checked) (X := fun w _ => laidMetH Tryd.prog Rows.oddsCountsRow.laid w) (fun _ _ _ hh h => h.of_heap hh) ownK started (by kernel_rfl) Tryd.func9
    (ChangeSpec.witness_at (enc := enc) (C := Tryd.checked) (os := os) (X := fun w _ => laidMetH Tryd.prog Rows.oddsCountsRow.laid w) false (laidWorld os) #[.int .u8 0, .int .u8 0, .int .u16 0] 8 rfl (by kernel_rfl) (by kernel_rfl) (by kernel_rfl) (by kernel_rfl) (by kernel_rfl) (laidWorld_met os _)) ?_
  intro W base args ds gs before hval hW _ hsz _ _
  have hW' := hW
  obtain ⟨p, q, hA0, hV, rfl, hfz, hnd⟩ := hW
  have hA : DataW.TrodAll enc Tryd.prog W 0 (fun _ => true) true Tryd.f9.params.toList args.toList ds p := hA0
  rw [Tryd.params9] at hA
  obtain ⟨v0, v1, v2, d0, d1, d2, p0, p1, p2, rfl, rfl, rfl, h0, h1, h2⟩ := trodAll_three hA
  obtain ⟨rfl, rfl⟩ := trodVars_none hV
  have hval' : ∀ (j : Nat) t v, Tryd.f9.params[j]? = some t → (#[v0, v1, v2] : Array Value)[j]? = some v → Value.okWide Tryd.prog W .any base t v := hval
  rw [Tryd.params9] at hval'
  have hsz' : (DataW.weightsEach Tryd.prog (Tryd.f9.params.toList ++ []) ([d0, d1, d2] ++ [])).all (· ≤ reachBytes) = true := hsz
  rw [Tryd.params9, List.append_nil, List.append_nil] at hsz'
  obtain ⟨n0, hv0, _, _, hw0⟩ := open_int Tryd.underlying5 (hval' 0 5 v0 rfl rfl) h0
  have m0a : IntKind.u8.min = 0 := by decide
  have m0b : IntKind.u8.max = 255 := by decide
  simp only [Lit.wf, Bool.and_eq_true, decide_eq_true_eq, m0a, m0b] at hw0
  obtain ⟨a0, rfl⟩ : ∃ a : Nat, n0 = a := ⟨n0.toNat, by omega⟩
  obtain ⟨n1, hv1, _, _, hw1⟩ := open_int Tryd.underlying5 (hval' 1 5 v1 rfl rfl) h1
  have m1a : IntKind.u8.min = 0 := by decide
  have m1b : IntKind.u8.max = 255 := by decide
  simp only [Lit.wf, Bool.and_eq_true, decide_eq_true_eq, m1a, m1b] at hw1
  obtain ⟨a1, rfl⟩ : ∃ a : Nat, n1 = a := ⟨n1.toNat, by omega⟩
  obtain ⟨n2, hv2, _, _, hw2⟩ := open_int Tryd.underlying59 (hval' 2 59 v2 rfl rfl) h2
  have m2a : IntKind.u16.min = 0 := by decide
  have m2b : IntKind.u16.max = 65535 := by decide
  simp only [Lit.wf, Bool.and_eq_true, decide_eq_true_eq, m2a, m2b] at hw2
  obtain ⟨a2, rfl⟩ : ∃ a : Nat, n2 = a := ⟨n2.toNat, by omega⟩
  subst hv0 hv1 hv2
  refine Calls.mono (c9 a0 a1 a2 W (by omega)) fun e W' ⟨v, he, hv, hk⟩ => ?_
  subst hv
  exact ⟨_, he, post_true hW' rfl (by kernel_rfl) (fun t ht => by
    rw [show Tryd.f9.params.toList = [5, 5, 59] from by rw [Tryd.params9]] at ht
    simp only [List.mem_cons, List.mem_nil_iff, or_false] at ht
    rcases ht with rfl | rfl | rfl
    · exact ⟨by kernel_rfl, of_decide_eq_true (by kernel_rfl)⟩
    · exact ⟨by kernel_rfl, of_decide_eq_true (by kernel_rfl)⟩
    · exact ⟨by kernel_rfl, of_decide_eq_true (by kernel_rfl)⟩) rfl rfl rfl hk⟩

theorem oddsCounts_row : Rows.OddsCountsSaid :=
  OpenClaim.holds_of_wide 9 Tryd.f9 rfl rfl rfl rfl rfl rfl rfl ⟨rfl, rfl, rfl, rfl, rfl⟩ rfl rfl rfl rfl rfl (by kernel_rfl) Tryd.func9 (by kernel_rfl)
    (of_decide_eq_true (by kernel_rfl)) (by unfold Func.isWrapper; first | (rw [if_pos (by decide +kernel)]; kernel_rfl) | (rw [if_neg (by decide +kernel)]; exact ⟨rfl, rfl⟩))
    (fun os started H enc _ => oddsCounts_lifted os started H enc)
theorem oddsCounts_proved : Rows.OddsCountsCardSaid :=
  Claim7.holds_tied_plain_at .later [] [.data, .pinned] true (true, "c3c17c700b3a93366b2e5cf245b0e98cf673a84bbfd0cd9ac426e550fba44681") false
    oddsCounts_row (fun _ h => by cases h) (by kernel_rfl) (fun _ h => by cases h) oddsCounts_row_tie rfl ⟨rfl, rfl⟩ (by kernel_rfl) rfl
    (fun f fn hf hfn => by
      obtain rfl : f = 9 := Option.some.inj ((show Tryd.prog.funcNamed "sortes/sorteslaw18.OddsCounts" = some 9 by kernel_rfl).symm.trans hf) |>.symm
      obtain rfl : fn = Tryd.f9 := (Option.some.inj (Tryd.func9.symm.trans hfn)).symm
      exact ⟨by kernel_rfl, fun j t ht => by
        rw [Tryd.params9] at ht
        rcases j with _ | j
        · obtain rfl : t = 5 := by simpa using ht.symm
          exact (show Tryd.prog.wantsStandIn 5 = false by kernel_rfl)
        · rcases j with _ | j
          · obtain rfl : t = 5 := by simpa using ht.symm
            exact (show Tryd.prog.wantsStandIn 5 = false by kernel_rfl)
          · rcases j with _ | j
            · obtain rfl : t = 59 := by simpa using ht.symm
              exact (show Tryd.prog.wantsStandIn 59 = false by kernel_rfl)
            · simp at ht
      ⟩)
    (by kernel_rfl)
#print axioms oddsCounts_proved
end Go.Proofs.YteklkjnhefnimaaDoor
