/- For every input the law OddsChoose returns true and its arguments read as before, with the listed tables tied to the program's text; no conditions beyond the given statement's own. -/
import Derived.Test.YteklkjnhefnimaaDoorZa
import Derived.Test.YteklkjnhefnimaaDoorIa
import Derived.SevenTiedAt
namespace Go.Proofs.YteklkjnhefnimaaDoor
open Go.Eng Go.ChangeShapes Go.WideShapes Go.ChangeAt Go.RowKit

set_option maxRecDepth 100000 in
theorem oddsChoose_lifted (os : Os) (started : os.Started) (H : Type) (enc : TypeId × Value → H) :
    ReturnsInHanded {} Tryd.checked os 3 .any (fun w args => (Rows.oddsChooseSpec.pre enc Tryd.prog Tryd.f3 Rows.oddsChooseRow.domain false w args ∧ laidMetH Tryd.prog Rows.oddsChooseRow.laid w) ∧ sizedMet enc Tryd.prog Tryd.f3 (OpenSpec.ofChange Rows.oddsChooseSpec) false w args)
      (Rows.oddsChooseSpec.post enc Tryd.prog Tryd.f3 false true false false) := by
  refine returnsInHanded_of_change_and (C := Tryd.checked) (X := fun w _ => laidMetH Tryd.prog Rows.oddsChooseRow.laid w) (fun _ _ _ hh h => h.of_heap hh) ownK started (by kernel_rfl) Tryd.func3
    (ChangeSpec.witness_at (enc := enc) (C := Tryd.checked) (os := os) (X := fun w _ => laidMetH Tryd.prog Rows.oddsChooseRow.laid w) false (laidWorld os) #[.int .i64 0, .int .i64 0] 8 rfl (by kernel_rfl) (by kernel_rfl) (by kernel_rfl) (by kernel_rfl) (by kernel_rfl) (laidWorld_met os _)) ?_
  intro W base args ds gs before hval hW _ hsz _ _
  have hW' := hW
  obtain ⟨p, q, hA0, hV, rfl, hfz, hnd⟩ := hW
  have hA : DataW.TrodAll enc Tryd.prog W 0 (fun _ => true) true Tryd.f3.params.toList args.toList ds p := hA0
  rw [Tryd.params3] at hA
  obtain ⟨v0, v1, d0, d1, p0, p1, rfl, rfl, rfl, h0, h1⟩ := trodAll_two hA
  obtain ⟨rfl, rfl⟩ := trodVars_none hV
  have hval' : ∀ (j : Nat) t v, Tryd.f3.params[j]? = some t → (#[v0, v1] : Array Value)[j]? = some v → Value.okWide Tryd.prog W .any base t v := hval
  rw [Tryd.params3] at hval'
  have hsz' : (DataW.weightsEach Tryd.prog (Tryd.f3.params.toList ++ []) ([d0, d1] ++ [])).all (· ≤ reachBytes) = true := hsz
  rw [Tryd.params3, List.append_nil, List.append_nil] at hsz'
  obtain ⟨n0, hv0, _, _, _⟩ := open_int Tryd.underlying3 (hval' 0 3 v0 rfl rfl) h0
  obtain ⟨n1, hv1, _, _, _⟩ := open_int Tryd.underlying3 (hval' 1 3 v1 rfl rfl) h1
  subst hv0 hv1
  refine Calls.mono (c3 n0 n1 W) fun e W' ⟨v, he, hv, hk⟩ => ?_
  subst hv
  exact ⟨_, he, post_true hW' rfl (by kernel_rfl) (fun t ht => by
    rw [show Tryd.f3.params.toList = [3, 3] from by rw [Tryd.params3]] at ht
    simp only [List.mem_cons, List.mem_nil_iff, or_false] at ht
    rcases ht with rfl | rfl
    · exact ⟨by kernel_rfl, of_decide_eq_true (by kernel_rfl)⟩
    · exact ⟨by kernel_rfl, of_decide_eq_true (by kernel_rfl)⟩) rfl rfl rfl hk⟩

theorem oddsChoose_row : Rows.OddsChooseSaid :=
  OpenClaim.holds_of_wide 3 Tryd.f3 rfl rfl rfl rfl rfl rfl rfl ⟨rfl, rfl, rfl, rfl, rfl⟩ rfl rfl rfl rfl rfl (by kernel_rfl) Tryd.func3 (by kernel_rfl)
    (of_decide_eq_true (by kernel_rfl)) (by unfold Func.isWrapper; first | (rw [if_pos (by decide +kernel)]; kernel_rfl) | (rw [if_neg (by decide +kernel)]; exact ⟨rfl, rfl⟩))
    (fun os started H enc _ => oddsChoose_lifted os started H enc)
theorem oddsChoose_proved : Rows.OddsChooseCardSaid :=
  Claim7.holds_tied_plain_at .later [] [.data, .pinned] true (true, "c3c17c700b3a93366b2e5cf245b0e98cf673a84bbfd0cd9ac426e550fba44681") false
    oddsChoose_row (fun _ h => by cases h) (by kernel_rfl) (fun _ h => by cases h) oddsChoose_row_tie rfl ⟨rfl, rfl⟩ (by kernel_rfl) rfl
    (fun f fn hf hfn => by
      obtain rfl : f = 3 := Option.some.inj ((show Tryd.prog.funcNamed "sortes/sorteslaw18.OddsChoose" = some 3 by kernel_rfl).symm.trans hf) |>.symm
      obtain rfl : fn = Tryd.f3 := (Option.some.inj (Tryd.func3.symm.trans hfn)).symm
      exact ⟨by kernel_rfl, fun j t ht => by
        rw [Tryd.params3] at ht
        rcases j with _ | j
        · obtain rfl : t = 3 := by simpa using ht.symm
          exact (show Tryd.prog.wantsStandIn 3 = false by kernel_rfl)
        · rcases j with _ | j
          · obtain rfl : t = 3 := by simpa using ht.symm
            exact (show Tryd.prog.wantsStandIn 3 = false by kernel_rfl)
          · simp at ht
      ⟩)
    (by kernel_rfl)
#print axioms oddsChoose_proved
end Go.Proofs.YteklkjnhefnimaaDoor
