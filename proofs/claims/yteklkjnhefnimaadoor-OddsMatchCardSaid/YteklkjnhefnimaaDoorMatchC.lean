/- For every input the law OddsMatch returns true and its arguments read as before, with the listed tables tied to the program's text; no conditions beyond the given statement's own. -/
import Derived.Test.YteklkjnhefnimaaDoorZa
import Derived.Test.YteklkjnhefnimaaDoorFa
import Derived.SevenTiedAt
namespace Go.Proofs.YteklkjnhefnimaaDoor
open Go.Eng Go.ChangeShapes Go.WideShapes Go.ChangeAt Go.RowKit

set_option maxRecDepth 100000 in
theorem oddsMatch_lifted (os : Os) (started : os.Started) (H : Type) (enc : TypeId × Value → H) :
    ReturnsInHanded {} Tryd.checked os 7 .any (fun w args => (Rows.oddsMatchSpec.pre enc Tryd.prog Tryd.f7 Rows.oddsMatchRow.domain false w args ∧ laidMetH Tryd.prog Rows.oddsMatchRow.laid w) ∧ sizedMet enc Tryd.prog Tryd.f7 (OpenSpec.ofChange Rows.oddsMatchSpec) false w args)
      (Rows.oddsMatchSpec.post enc Tryd.prog Tryd.f7 false true false false) := by
  refine returnsInHanded_of_change_and (C := Tryd.checked) (X := fun w _ => laidMetH Tryd.prog Rows.oddsMatchRow.laid w) (fun _ _ _ hh h => h.of_heap hh) ownK started (by kernel_rfl) Tryd.func7
    (ChangeSpec.witness_at (enc := enc) (C := Tryd.checked) (os := os) (X := fun w _ => laidMetH Tryd.prog Rows.oddsMatchRow.laid w) false (laidWorld os) #[.slice none 0 0, .slice none 0 0] 8 rfl (by kernel_rfl) (by kernel_rfl) (by kernel_rfl) (by kernel_rfl) (by kernel_rfl) (laidWorld_met os _)) ?_
  intro W base args ds gs before hval hW _ hsz _ _
  have hW' := hW
  obtain ⟨p, q, hA0, hV, rfl, hfz, hnd⟩ := hW
  have hA : DataW.TrodAll enc Tryd.prog W 0 (fun _ => true) true Tryd.f7.params.toList args.toList ds p := hA0
  rw [Tryd.params7] at hA
  obtain ⟨v0, v1, d0, d1, p0, p1, rfl, rfl, rfl, h0, h1⟩ := trodAll_two hA
  obtain ⟨rfl, rfl⟩ := trodVars_none hV
  have hval' : ∀ (j : Nat) t v, Tryd.f7.params[j]? = some t → (#[v0, v1] : Array Value)[j]? = some v → Value.okWide Tryd.prog W .any base t v := hval
  rw [Tryd.params7] at hval'
  have hsz' : (DataW.weightsEach Tryd.prog (Tryd.f7.params.toList ++ []) ([d0, d1] ++ [])).all (· ≤ reachBytes) = true := hsz
  rw [Tryd.params7, List.append_nil, List.append_nil] at hsz'
  obtain ⟨f0, h0⟩ := h0
  obtain ⟨s, c, l, e0, hlc, hcm, hs, _, hx0⟩ := rd_ints h0
  have hv0 := slice_of_cells Tryd.underlying28 (hval' 0 28 v0 rfl rfl) e0
  obtain ⟨f1, h1⟩ := h1
  obtain ⟨s2, c2, l2, e1, _, _, hs2, _, hx1⟩ := rd_ints h1
  have hv1 := slice_of_cells Tryd.underlying28 (hval' 1 28 v1 rfl rfl) e1
  have hz0 := sized_list (j := 0) (k := 8) hsz' rfl rfl Tryd.underlying28 (by kernel_rfl) hx0
  have hz1 := sized_list (j := 1) (k := 8) hsz' rfl rfl Tryd.underlying28 (by kernel_rfl) hx1
  subst hv0 hv1
  refine Calls.mono (c7 l l2 s s2 c c2 W hs hs2 hz0 hz1 hlc) fun e W' ⟨v, he, hv, hk⟩ => ?_
  subst hv
  exact ⟨_, he, post_true hW' rfl (by kernel_rfl) (fun t ht => by
    rw [show Tryd.f7.params.toList = [28, 28] from by rw [Tryd.params7]] at ht
    simp only [List.mem_cons, List.mem_nil_iff, or_false] at ht
    rcases ht with rfl | rfl
    · exact ⟨by kernel_rfl, of_decide_eq_true (by kernel_rfl)⟩
    · exact ⟨by kernel_rfl, of_decide_eq_true (by kernel_rfl)⟩) rfl rfl rfl hk⟩

theorem oddsMatch_row : Rows.OddsMatchSaid :=
  OpenClaim.holds_of_wide 7 Tryd.f7 rfl rfl rfl rfl rfl rfl rfl ⟨rfl, rfl, rfl, rfl, rfl⟩ rfl rfl rfl rfl rfl (by kernel_rfl) Tryd.func7 (by kernel_rfl)
    (of_decide_eq_true (by kernel_rfl)) (by unfold Func.isWrapper; first | (rw [if_pos (by decide +kernel)]; kernel_rfl) | (rw [if_neg (by decide +kernel)]; exact ⟨rfl, rfl⟩))
    (fun os started H enc _ => oddsMatch_lifted os started H enc)
theorem oddsMatch_proved : Rows.OddsMatchCardSaid :=
  Claim7.holds_tied_plain_at .later [] [.data, .pinned] true (true, "c3c17c700b3a93366b2e5cf245b0e98cf673a84bbfd0cd9ac426e550fba44681") false
    oddsMatch_row (fun _ h => by cases h) (by kernel_rfl) (fun _ h => by cases h) oddsMatch_row_tie rfl ⟨rfl, rfl⟩ (by kernel_rfl) rfl
    (fun f fn hf hfn => by
      obtain rfl : f = 7 := Option.some.inj ((show Tryd.prog.funcNamed "sortes/sorteslaw18.OddsMatch" = some 7 by kernel_rfl).symm.trans hf) |>.symm
      obtain rfl : fn = Tryd.f7 := (Option.some.inj (Tryd.func7.symm.trans hfn)).symm
      exact ⟨by kernel_rfl, fun j t ht => by
        rw [Tryd.params7] at ht
        rcases j with _ | j
        · obtain rfl : t = 28 := by simpa using ht.symm
          exact (show Tryd.prog.wantsStandIn 28 = false by kernel_rfl)
        · rcases j with _ | j
          · obtain rfl : t = 28 := by simpa using ht.symm
            exact (show Tryd.prog.wantsStandIn 28 = false by kernel_rfl)
          · simp at ht
      ⟩)
    (by kernel_rfl)
#print axioms oddsMatch_proved
end Go.Proofs.YteklkjnhefnimaaDoor
