/- For every input the law TypesAgain returns true and its arguments read as before; no conditions beyond the given statement's own. -/
import Derived.Test.YtgephdcapajaiaaO
import Derived.Test.YtgephdcapajaiaaAdm8
import Derived.JoinedOf
import Derived.JoinedAt
namespace Go.Proofs.Ytgephdcapajaiaa
open Go.Eng Go.ChangeShapes Go.WideShapes Go.ChangeAt Go.RowKit

set_option maxRecDepth 100000 in
theorem typesAgain_lifted (os : Os) (started : os.Started) (H : Type) (enc : TypeId × Value → H) :
    ReturnsInHanded {} Try.checked os 8 .any (Rows.typesAgainSpec.pre6 enc Try.prog Try.f8 Rows.typesAgainRow.domain false) (Rows.typesAgainSpec.post enc Try.prog Try.f8 false true false false) := by
  refine returnsInHanded_of_change (C := Try.checked) ownK started (by kernel_rfl) Try.func8
    (ChangeSpec.witness6 (enc := enc) (C := Try.checked) false ⟨#[], #[.agg #[.slice none 0 0, .slice none 0 0], .slice none 0 0, .int .u8 0], []⟩ 8 (by kernel_rfl) (by kernel_rfl) (by kernel_rfl) (by kernel_rfl)) ?_
  intro W base args ds gs before hval hW _ _
  have hW' := hW
  obtain ⟨p, q, hA0, hV, rfl, hfz, hnd⟩ := hW
  have hA : DataW.TrodAll enc Try.prog W 0 (fun _ => true) true Try.f8.params.toList args.toList ds p := hA0
  rw [Try.params8] at hA
  obtain ⟨v0, v1, v2, d0, d1, d2, p0, p1, p2, rfl, rfl, rfl, h0, h1, h2⟩ := trodAll_three hA
  obtain ⟨rfl, rfl⟩ := trodVars_none hV
  have hval' : ∀ (j : Nat) t v, Try.f8.params[j]? = some t → (#[v0, v1, v2] : Array Value)[j]? = some v → Value.okWide Try.prog W .any base t v := hval
  rw [Try.params8] at hval'
  obtain ⟨f0, h0⟩ := h0
  obtain ⟨y, z, e0, hy, hz⟩ := rd_ints2 h0
  have hv0 := agg_of_cells e0 (by show 2 ≤ 2; omega)
  obtain ⟨f1, h1⟩ := h1
  obtain ⟨s, c, q, e1, hqc, hcm, hs⟩ := rd_list3 h1
  have hv1 := slice_of_cells Try.underlying52 (hval' 1 52 v1 rfl rfl) e1
  obtain ⟨k, hv2, _, _, hw⟩ := open_int Try.underlying5 (hval' 2 5 v2 rfl rfl) h2
  have m1 : IntKind.u8.min = 0 := by decide
  have m2 : IntKind.u8.max = 255 := by decide
  simp only [Lit.wf, Bool.and_eq_true, decide_eq_true_eq, m1, m2] at hw
  subst hv0 hv1 hv2
  refine Calls.mono (c8 y z s c q k W hy hz hs hw) fun e W' ⟨v, he, hv, hk⟩ => ?_
  subst hv
  exact ⟨_, he, post_true hW' rfl (by kernel_rfl) (fun t ht => by
    rw [show Try.f8.params.toList = [41, 52, 5] from by rw [Try.params8]] at ht
    simp at ht
    rcases ht with rfl | rfl | rfl
    · exact ⟨by kernel_rfl, of_decide_eq_true (by kernel_rfl)⟩
    · exact ⟨by kernel_rfl, of_decide_eq_true (by kernel_rfl)⟩
    · exact ⟨by kernel_rfl, of_decide_eq_true (by kernel_rfl)⟩) rfl rfl rfl hk⟩

theorem typesAgain_proved : Rows.TypesAgainSaid :=
  OpenClaim.holds_of_wide 8 Try.f8 rfl rfl rfl rfl rfl rfl rfl ⟨rfl, rfl, rfl, rfl, rfl⟩ rfl rfl rfl rfl rfl (by kernel_rfl) Try.func8 (by kernel_rfl)
    (of_decide_eq_true (by kernel_rfl)) (by unfold Func.isWrapper; first | (rw [if_pos (by decide +kernel)]; kernel_rfl) | (rw [if_neg (by decide +kernel)]; exact ⟨rfl, rfl⟩))
    (fun os started H enc _ => typesAgain_lifted os started H enc)
#print axioms typesAgain_proved
end Go.Proofs.Ytgephdcapajaiaa
