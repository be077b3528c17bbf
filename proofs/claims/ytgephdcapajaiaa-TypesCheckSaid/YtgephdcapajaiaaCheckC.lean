/- For every input the law TypesCheck returns true and its arguments read as before; no conditions beyond the given statement's own. -/
import Derived.Test.YtgephdcapajaiaaO
import Derived.Test.YtgephdcapajaiaaX
import Derived.JoinedOf
import Derived.JoinedAt
namespace Go.Proofs.Ytgephdcapajaiaa
open Go.Eng Go.ChangeShapes Go.WideShapes Go.ChangeAt Go.RowKit

set_option maxRecDepth 100000 in
theorem typesCheck_lifted (os : Os) (started : os.Started) (H : Type) (enc : TypeId × Value → H) :
    ReturnsInHanded {} Try.checked os 3 .any (Rows.typesCheckSpec.pre6 enc Try.prog Try.f3 Rows.typesCheckRow.domain false) (Rows.typesCheckSpec.post enc Try.prog Try.f3 false true false false) := by
  refine returnsInHanded_of_change (C := Try.checked) ownK started (by kernel_rfl) Try.func3
    (ChangeSpec.witness6 (enc := enc) (C := Try.checked) false ⟨#[], #[.slice none 0 0, .agg #[.int .i64 0, .int .i64 0, .int .i64 0, .int .i64 0, .int .i64 0, .int .i64 0]], []⟩ 8 (by kernel_rfl) (by kernel_rfl) (by kernel_rfl) (by kernel_rfl)) ?_
  intro W base args ds gs before hval hW _ _
  have hW' := hW
  obtain ⟨p, q, hA0, hV, rfl, hfz, hnd⟩ := hW
  have hA : DataW.TrodAll enc Try.prog W 0 (fun _ => true) true Try.f3.params.toList args.toList ds p := hA0
  rw [Try.params3] at hA
  obtain ⟨v0, v1, d0, d1, p0, p1, rfl, rfl, rfl, h0, h1⟩ := trodAll_two hA
  obtain ⟨rfl, rfl⟩ := trodVars_none hV
  have hval' : ∀ (j : Nat) t v, Try.f3.params[j]? = some t → (#[v0, v1] : Array Value)[j]? = some v → Value.okWide Try.prog W .any base t v := hval
  rw [Try.params3] at hval'
  obtain ⟨f0, h0⟩ := h0
  obtain ⟨s, c, l, e0, hlc, hcm, hs, _⟩ := rd_ints h0
  have hv0 := slice_of_cells Try.underlying22 (hval' 0 22 v0 rfl rfl) e0
  obtain ⟨f1, h1⟩ := h1
  obtain ⟨a, b, e1⟩ := rd_arr23 h1
  have hv1 := agg_of_cells e1 (by show 2 ≤ 6; omega)
  subst hv0 hv1
  refine Calls.mono (c3 l s c a.1 a.2.1 a.2.2 b.1 b.2.1 b.2.2 W hs (by omega)) fun e W' ⟨v, he, hv, hk⟩ => ?_
  subst hv
  exact ⟨_, he, post_true hW' rfl (by kernel_rfl) (fun t ht => by
    rw [show Try.f3.params.toList = [22, 24] from by rw [Try.params3]] at ht
    simp at ht
    rcases ht with rfl | rfl
    · exact ⟨by kernel_rfl, of_decide_eq_true (by kernel_rfl)⟩
    · exact ⟨by kernel_rfl, of_decide_eq_true (by kernel_rfl)⟩) rfl rfl rfl hk⟩

theorem typesCheck_proved : Rows.TypesCheckSaid :=
  OpenClaim.holds_of_wide 3 Try.f3 rfl rfl rfl rfl rfl rfl rfl ⟨rfl, rfl, rfl, rfl, rfl⟩ rfl rfl rfl rfl rfl (by kernel_rfl) Try.func3 (by kernel_rfl)
    (of_decide_eq_true (by kernel_rfl)) (by unfold Func.isWrapper; first | (rw [if_pos (by decide +kernel)]; kernel_rfl) | (rw [if_neg (by decide +kernel)]; exact ⟨rfl, rfl⟩))
    (fun os started H enc _ => typesCheck_lifted os started H enc)
#print axioms typesCheck_proved
end Go.Proofs.Ytgephdcapajaiaa
