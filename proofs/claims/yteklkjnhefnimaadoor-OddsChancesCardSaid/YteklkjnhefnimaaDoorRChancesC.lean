/- For every input the law OddsChances returns true and its arguments read as before, with the listed tables tied to the program's text; no conditions beyond the given statement's own. -/
import Derived.Test.YteklkjnhefnimaaDoorQ3
import Derived.SevenTiedAt
namespace Go.Proofs.YteklkjnhefnimaaDoor
open Go.Eng Go.ChangeShapes Go.WideShapes Go.ChangeAt Go.RowKit

set_option maxRecDepth 100000 in
theorem oddsChances_lifted (os : Os) (started : os.Started) (H : Type) (enc : TypeId × Value → H) :
    ReturnsInHanded {} Tryd.checked os 10 .any (fun w args => (Rows.oddsChancesSpec.pre enc Tryd.prog Tryd.f10 Rows.oddsChancesRow.domain false w args ∧ laidMetH Tryd.prog Rows.oddsChancesRow.laid w) ∧ sizedMet enc Tryd.prog Tryd.f10 (OpenSpec.ofChange Rows.oddsChancesSpec) false w args)
      (Rows.oddsChancesSpec.post enc Tryd.prog Tryd.f10 false true false false) := by
  refine returnsInHanded_of_change_and (C := Tryd.checked) (X := fun w _ => laidMetH Tryd.prog Rows.oddsChancesRow.laid w) (fun _ _ _ hh h => h.of_heap hh) ownK started (by kernel_rfl) Tryd.func10
    (ChangeSpec.witness_at (enc := enc) (C := Tryd.checked) (os := os) (X := fun w _ => laidMetH Tryd.prog Rows.oddsChancesRow.laid w) false (laidWorld os) #[.int .i64 0, .int .i64 0, .agg #[.int .i64 0, .int .i64 0]] 8 rfl (by kernel_rfl) (by kernel_rfl) (by kernel_rfl) (by kernel_rfl) (by kernel_rfl) (laidWorld_met os _)) ?_
  intro W base args ds gs before hval hW _ hsz _ _
  have hW' := hW
  obtain ⟨p, q, hA0, hV, rfl, hfz, hnd⟩ := hW
  have hA : DataW.TrodAll enc Tryd.prog W 0 (fun _ => true) true Tryd.f10.params.toList args.toList ds p := hA0
  rw [Tryd.params10] at hA
  obtain ⟨v0, v1, v2, d0, d1, d2, p0, p1, p2, rfl, rfl, rfl, h0, h1, h2⟩ := trodAll_three hA
  obtain ⟨rfl, rfl⟩ := trodVars_none hV
  have hval' : ∀ (j : Nat) t v, Tryd.f10.params[j]? = some t → (#[v0, v1, v2] : Array Value)[j]? = some v → Value.okWide Tryd.prog W .any base t v := hval
  rw [Tryd.params10] at hval'
  have hsz' : (DataW.weightsEach Tryd.prog (Tryd.f10.params.toList ++ []) ([d0, d1, d2] ++ [])).all (· ≤ reachBytes) = true := hsz
  rw [Tryd.params10, List.append_nil, List.append_nil] at hsz'
  obtain ⟨n0, hv0, _, _, _⟩ := open_int Tryd.underlying3 (hval' 0 3 v0 rfl rfl) h0
  obtain ⟨n1, hv1, _, _, _⟩ := open_int Tryd.underlying3 (hval' 1 3 v1 rfl rfl) h1
  obtain ⟨f2, h2⟩ := h2
  obtain ⟨t, e2, _⟩ := rdc_arr2 h2
  have hv2 := agg_of_cells e2 (by show 2 ≤ 2; omega)
  subst hv0 hv1 hv2
  refine Calls.mono (c10 n0 n1 t.1 t.2 W) fun e W' ⟨v, he, hv, hk⟩ => ?_
  subst hv
  exact ⟨_, he, post_true hW' rfl (by kernel_rfl) (fun t ht => by
    rw [show Tryd.f10.params.toList = [3, 3, 68] from by rw [Tryd.params10]] at ht
    simp only [List.mem_cons, List.mem_nil_iff, or_false] at ht
    rcases ht with rfl | rfl | rfl
    · exact ⟨by kernel_rfl, of_decide_eq_true (by kernel_rfl)⟩
    · exact ⟨by kernel_rfl, of_decide_eq_true (by kernel_rfl)⟩
    · exact ⟨by kernel_rfl, of_decide_eq_true (by kernel_rfl)⟩) rfl rfl rfl hk⟩

theorem oddsChances_row : Rows.OddsChancesSaid :=
  OpenClaim.holds_of_wide 10 Tryd.f10 rfl rfl rfl rfl rfl rfl rfl ⟨rfl, rfl, rfl, rfl, rfl⟩ rfl rfl rfl rfl rfl (by kernel_rfl) Tryd.func10 (by kernel_rfl)
    (of_decide_eq_true (by kernel_rfl)) (by unfold Func.isWrapper; first | (rw [if_pos (by decide +kernel)]; kernel_rfl) | (rw [if_neg (by decide +kernel)]; exact ⟨rfl, rfl⟩))
    (fun os started H enc _ => oddsChances_lifted os started H enc)
theorem oddsChances_proved : Rows.OddsChancesCardSaid :=
  Claim7.holds_tied_plain_at .later [] [.data, .pinned] true (true, "c3c17c700b3a93366b2e5cf245b0e98cf673a84bbfd0cd9ac426e550fba44681") false
    oddsChances_row (fun _ h => by cases h) (by kernel_rfl) (fun _ h => by cases h) oddsChances_row_tie rfl ⟨rfl, rfl⟩ (by kernel_rfl) rfl
    (fun f fn hf hfn => by
      obtain rfl : f = 10 := Option.some.inj ((show Tryd.prog.funcNamed "sortes/sorteslaw18.OddsChances" = some 10 by kernel_rfl).symm.trans hf) |>.symm
      obtain rfl : fn = Tryd.f10 := (Option.some.inj (Tryd.func10.symm.trans hfn)).symm
      exact ⟨by kernel_rfl, fun j t ht => by
        rw [Tryd.params10] at ht
        rcases j with _ | j
        · obtain rfl : t = 3 := by simpa using ht.symm
          exact (show Tryd.prog.wantsStandIn 3 = false by kernel_rfl)
        · rcases j with _ | j
          · obtain rfl : t = 3 := by simpa using ht.symm
            exact (show Tryd.prog.wantsStandIn 3 = false by kernel_rfl)
          · rcases j with _ | j
            · obtain rfl : t = 68 := by simpa using ht.symm
              exact (show Tryd.prog.wantsStandIn 68 = false by kernel_rfl)
            · simp at ht
      ⟩)
    (by kernel_rfl)
#print axioms oddsChances_proved
end Go.Proofs.YteklkjnhefnimaaDoor
