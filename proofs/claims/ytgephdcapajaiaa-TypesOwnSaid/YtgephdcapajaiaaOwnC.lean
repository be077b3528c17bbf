/- For every input the law TypesOwn returns true and its arguments read as before; no conditions beyond the given statement's own. -/
import Derived.Test.YtgephdcapajaiaaO
import Derived.Test.YtgephdcapajaiaaOwn
import Derived.JoinedOf
import Derived.JoinedAt
namespace Go.Proofs.Ytgephdcapajaiaa
open Go.Eng Go.ChangeShapes Go.WideShapes Go.ChangeAt Go.RowKit

set_option maxRecDepth 100000 in
theorem typesOwn_lifted (os : Os) (started : os.Started) (H : Type) (enc : TypeId × Value → H) :
    ReturnsInHanded {} Try.checked os 9 .any (Rows.typesOwnSpec.pre6 enc Try.prog Try.f9 Rows.typesOwnRow.domain false) (Rows.typesOwnSpec.post enc Try.prog Try.f9 false true false false) := by
  refine returnsInHanded_of_change (C := Try.checked) ownK started (by kernel_rfl) Try.func9
    (ChangeSpec.witness6 (enc := enc) (C := Try.checked) false ⟨#[], #[.agg #[.slice none 0 0, .slice none 0 0]], []⟩ 8 (by kernel_rfl) (by kernel_rfl) (by kernel_rfl) (by kernel_rfl)) ?_
  intro W base args ds gs before hval hW _ _
  have hW' := hW
  obtain ⟨p, q, hA0, hV, rfl, hfz, hnd⟩ := hW
  have hA : DataW.TrodAll enc Try.prog W 0 (fun _ => true) true Try.f9.params.toList args.toList ds p := hA0
  rw [Try.params9] at hA
  obtain ⟨v0, d0, rfl, rfl, h0⟩ := trodAll_one hA
  obtain ⟨rfl, rfl⟩ := trodVars_none hV
  have hval' : ∀ (j : Nat) t v, Try.f9.params[j]? = some t → (#[v0] : Array Value)[j]? = some v → Value.okWide Try.prog W .any base t v := hval
  rw [Try.params9] at hval'
  obtain ⟨f0, h0⟩ := h0
  obtain ⟨y, z, e0, hy, hz⟩ := rd_ints2 h0
  have hv0 := agg_of_cells e0 (by show 2 ≤ 2; omega)
  subst hv0
  refine Calls.mono (c9 y z W hy hz) fun e W' ⟨v, he, hv, hk⟩ => ?_
  subst hv
  exact ⟨_, he, post_true hW' rfl (by kernel_rfl) (fun t ht => by
    rw [show Try.f9.params.toList = [41] from by rw [Try.params9]] at ht
    simp at ht
    rcases ht with rfl
    · exact ⟨by kernel_rfl, of_decide_eq_true (by kernel_rfl)⟩) rfl rfl rfl hk⟩

theorem typesOwn_proved : Rows.TypesOwnSaid :=
  OpenClaim.holds_of_wide 9 Try.f9 rfl rfl rfl rfl rfl rfl rfl ⟨rfl, rfl, rfl, rfl, rfl⟩ rfl rfl rfl rfl rfl (by kernel_rfl) Try.func9 (by kernel_rfl)
    (of_decide_eq_true (by kernel_rfl)) (by unfold Func.isWrapper; first | (rw [if_pos (by decide +kernel)]; kernel_rfl) | (rw [if_neg (by decide +kernel)]; exact ⟨rfl, rfl⟩))
    (fun os started H enc _ => typesOwn_lifted os started H enc)
#print axioms typesOwn_proved
end Go.Proofs.Ytgephdcapajaiaa
