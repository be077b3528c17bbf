/- For every input the law OddsMoney returns true and its arguments read as before, with the listed tables tied to the program's text; no conditions beyond the given statement's own. -/
import Derived.Test.YteklkjnhefnimaaDoorZa
import Derived.Test.YteklkjnhefnimaaDoorFf
import Derived.Test.YteklkjnhefnimaaDoorZb
import Derived.SevenTiedAt
namespace Go.Proofs.YteklkjnhefnimaaDoor
open Go.Eng Go.ChangeShapes Go.WideShapes Go.ChangeAt Go.RowKit

set_option maxRecDepth 100000 in
theorem oddsMoney_lifted (os : Os) (started : os.Started) (H : Type) (enc : TypeId × Value → H) :
    ReturnsInHanded {} Tryd.checked os 8 .any (fun w args => (Rows.oddsMoneySpec.pre enc Tryd.prog Tryd.f8 Rows.oddsMoneyRow.domain false w args ∧ laidMetH Tryd.prog Rows.oddsMoneyRow.laid w) ∧ sizedMet enc Tryd.prog Tryd.f8 (OpenSpec.ofChange Rows.oddsMoneySpec) false w args)
      (Rows.oddsMoneySpec.post enc Tryd.prog Tryd.f8 false true false false) := by
  refine returnsInHanded_of_change_and (C := Tryd.checked) (X := fun w _ => laidMetH Tryd.prog Rows.oddsMoneyRow.laid w) (fun _ _ _ hh h => h.of_heap hh) ownK started (by kernel_rfl) Tryd.func8
    (ChangeSpec.witness_at (enc := enc) (C := Tryd.checked) (os := os) (X := fun w _ => laidMetH Tryd.prog Rows.oddsMoneyRow.laid w) false (laidWorld os) #[.agg #[.int .i64 0, .int .i64 0, .int .i64 0], .slice none 0 0, .slice none 0 0] 8 rfl (by kernel_rfl) (by kernel_rfl) (by kernel_rfl) (by kernel_rfl) (by kernel_rfl) (laidWorld_met os _)) ?_
  intro W base args ds gs before hval hW _ hsz _ _
  have hW' := hW
  obtain ⟨p, q, hA0, hV, rfl, hfz, hnd⟩ := hW
  have hA : DataW.TrodAll enc Tryd.prog W 0 (fun _ => true) true Tryd.f8.params.toList args.toList ds p := hA0
  rw [Tryd.params8] at hA
  obtain ⟨v0, v1, v2, d0, d1, d2, p0, p1, p2, rfl, rfl, rfl, h0, h1, h2⟩ := trodAll_three hA
  obtain ⟨rfl, rfl⟩ := trodVars_none hV
  have hval' : ∀ (j : Nat) t v, Tryd.f8.params[j]? = some t → (#[v0, v1, v2] : Array Value)[j]? = some v → Value.okWide Tryd.prog W .any base t v := hval
  rw [Tryd.params8] at hval'
  have hsz' : (DataW.weightsEach Tryd.prog (Tryd.f8.params.toList ++ []) ([d0, d1, d2] ++ [])).all (· ≤ reachBytes) = true := hsz
  rw [Tryd.params8, List.append_nil, List.append_nil] at hsz'
  obtain ⟨f0, h0⟩ := h0
  obtain ⟨t, e0, _⟩ := rd_arr3 h0
  have hv0 := agg_of_cells e0 (by show 2 ≤ 3; omega)
  obtain ⟨f1, h1⟩ := h1
  obtain ⟨s, c, l, e1, _, _, hs, hx1⟩ := rd_list2 h1
  have hv1 := slice_of_cells Tryd.underlying44 (hval' 1 44 v1 rfl rfl) e1
  obtain ⟨f2, h2⟩ := h2
  obtain ⟨s2, c2, l2, e2, _, _, hs2, hb2, hx2⟩ := rd_bytes h2
  have hv2 := slice_of_cells Tryd.underlying45 (hval' 2 45 v2 rfl rfl) e2
  have hz1 := sized_list (j := 1) (k := 16) hsz' rfl rfl Tryd.underlying44 (by kernel_rfl) hx1
  have hz2 := sized_list (j := 2) (k := 1) hsz' rfl rfl Tryd.underlying45 (by kernel_rfl) hx2
  subst hv0 hv1 hv2
  refine Calls.mono (c8 t.1 t.2.1 t.2.2 l l2 s s2 c c2 W hs hs2 (by omega) (by omega) hb2) fun e W' ⟨v, he, hv, hk⟩ => ?_
  subst hv
  exact ⟨_, he, post_true hW' rfl (by kernel_rfl) (fun t ht => by
    rw [show Tryd.f8.params.toList = [29, 44, 45] from by rw [Tryd.params8]] at ht
    simp only [List.mem_cons, List.mem_nil_iff, or_false] at ht
    rcases ht with rfl | rfl | rfl
    · exact ⟨by kernel_rfl, of_decide_eq_true (by kernel_rfl)⟩
    · exact ⟨by kernel_rfl, of_decide_eq_true (by kernel_rfl)⟩
    · exact ⟨by kernel_rfl, of_decide_eq_true (by kernel_rfl)⟩) rfl rfl rfl hk⟩

theorem oddsMoney_row : Rows.OddsMoneySaid :=
  OpenClaim.holds_of_wide 8 Tryd.f8 rfl rfl rfl rfl rfl rfl rfl ⟨rfl, rfl, rfl, rfl, rfl⟩ rfl rfl rfl rfl rfl (by kernel_rfl) Tryd.func8 (by kernel_rfl)
    (of_decide_eq_true (by kernel_rfl)) (by unfold Func.isWrapper; first | (rw [if_pos (by decide +kernel)]; kernel_rfl) | (rw [if_neg (by decide +kernel)]; exact ⟨rfl, rfl⟩))
    (fun os started H enc _ => oddsMoney_lifted os started H enc)
theorem oddsMoney_proved : Rows.OddsMoneyCardSaid :=
  Claim7.holds_tied_plain_at .later [] [.data, .pinned] true (true, "c3c17c700b3a93366b2e5cf245b0e98cf673a84bbfd0cd9ac426e550fba44681") false
    oddsMoney_row (fun _ h => by cases h) (by kernel_rfl) (fun _ h => by cases h) oddsMoney_row_tie rfl ⟨rfl, rfl⟩ (by kernel_rfl) rfl
    (fun f fn hf hfn => by
      obtain rfl : f = 8 := Option.some.inj ((show Tryd.prog.funcNamed "sortes/sorteslaw18.OddsMoney" = some 8 by kernel_rfl).symm.trans hf) |>.symm
      obtain rfl : fn = Tryd.f8 := (Option.some.inj (Tryd.func8.symm.trans hfn)).symm
      exact ⟨by kernel_rfl, fun j t ht => by
        rw [Tryd.params8] at ht
        rcases j with _ | j
        · obtain rfl : t = 29 := by simpa using ht.symm
          exact (show Tryd.prog.wantsStandIn 29 = false by kernel_rfl)
        · rcases j with _ | j
          · obtain rfl : t = 44 := by simpa using ht.symm
            exact (show Tryd.prog.wantsStandIn 44 = false by kernel_rfl)
          · rcases j with _ | j
            · obtain rfl : t = 45 := by simpa using ht.symm
              exact (show Tryd.prog.wantsStandIn 45 = false by kernel_rfl)
            · simp at ht
      ⟩)
    (by kernel_rfl)
#print axioms oddsMoney_proved
end Go.Proofs.YteklkjnhefnimaaDoor
