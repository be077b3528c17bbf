/- For every input the law TypesEntrants returns true and its arguments read as before; no conditions beyond the given statement's own. -/
import Derived.Test.YtgephdcapajaiaaO
import Derived.Test.YtgephdcapajaiaaEnt5
import Derived.JoinedOf
import Derived.JoinedAt
namespace Go.Proofs.Ytgephdcapajaiaa
open Go.Eng Go.ChangeShapes Go.WideShapes Go.ChangeAt Go.RowKit

set_option maxRecDepth 100000 in
theorem typesEntrants_lifted (os : Os) (started : os.Started) (H : Type) (enc : TypeId × Value → H) :
    ReturnsInHanded {} Try.checked os 5 .any (Rows.typesEntrantsSpec.pre6 enc Try.prog Try.f5 Rows.typesEntrantsRow.domain false) (Rows.typesEntrantsSpec.post enc Try.prog Try.f5 false true false false) := by
  refine returnsInHanded_of_change (C := Try.checked) ownK started (by kernel_rfl) Try.func5
    (ChangeSpec.witness6 (enc := enc) (C := Try.checked) false ⟨#[], #[.agg #[.slice none 0 0, .slice none 0 0], .agg #[.int .i64 0, .int .i64 0, .int .i64 0, .int .i64 0, .int .i64 0, .int .i64 0], .agg #[.int .i64 0, .int .i64 0, .int .i64 0]], []⟩ 8 (by kernel_rfl) (by kernel_rfl) (by kernel_rfl) (by kernel_rfl)) ?_
  intro W base args ds gs before hval hW _ _
  have hW' := hW
  obtain ⟨p, q, hA0, hV, rfl, hfz, hnd⟩ := hW
  have hA : DataW.TrodAll enc Try.prog W 0 (fun _ => true) true Try.f5.params.toList args.toList ds p := hA0
  rw [Try.params5] at hA
  obtain ⟨v0, v1, v2, d0, d1, d2, p0, p1, p2, rfl, rfl, rfl, h0, h1, h2⟩ := trodAll_three hA
  obtain ⟨rfl, rfl⟩ := trodVars_none hV
  have hval' : ∀ (j : Nat) t v, Try.f5.params[j]? = some t → (#[v0, v1, v2] : Array Value)[j]? = some v → Value.okWide Try.prog W .any base t v := hval
  rw [Try.params5] at hval'
  obtain ⟨f0, h0⟩ := h0
  obtain ⟨y, z, e0, hy, hz⟩ := rd_ints2 h0
  have hv0 := agg_of_cells e0 (by show 2 ≤ 2; omega)
  obtain ⟨f1, h1⟩ := h1
  obtain ⟨a, b, e1⟩ := rd_arr23 h1
  have hv1 := agg_of_cells e1 (by show 2 ≤ 6; omega)
  obtain ⟨f2, h2⟩ := h2
  obtain ⟨t, e2, _⟩ := rd_arr3 h2
  have hv2 := agg_of_cells e2 (by show 2 ≤ 3; omega)
  subst hv0 hv1 hv2
  refine Calls.mono (c5 y z a.1 a.2.1 a.2.2 b.1 b.2.1 b.2.2 t.1 t.2.1 t.2.2 W hy hz) fun e W' ⟨v, he, hv, hk⟩ => ?_
  subst hv
  exact ⟨_, he, post_true hW' rfl (by kernel_rfl) (fun t ht => by
    rw [show Try.f5.params.toList = [41, 24, 23] from by rw [Try.params5]] at ht
    simp at ht
    rcases ht with rfl | rfl | rfl
    · exact ⟨by kernel_rfl, of_decide_eq_true (by kernel_rfl)⟩
    · exact ⟨by kernel_rfl, of_decide_eq_true (by kernel_rfl)⟩
    · exact ⟨by kernel_rfl, of_decide_eq_true (by kernel_rfl)⟩) rfl rfl rfl hk⟩

theorem typesEntrants_proved : Rows.TypesEntrantsSaid :=
  OpenClaim.holds_of_wide 5 Try.f5 rfl rfl rfl rfl rfl rfl rfl ⟨rfl, rfl, rfl, rfl, rfl⟩ rfl rfl rfl rfl rfl (by kernel_rfl) Try.func5 (by kernel_rfl)
    (of_decide_eq_true (by kernel_rfl)) (by unfold Func.isWrapper; first | (rw [if_pos (by decide +kernel)]; kernel_rfl) | (rw [if_neg (by decide +kernel)]; exact ⟨rfl, rfl⟩))
    (fun os started H enc _ => typesEntrants_lifted os started H enc)
#print axioms typesEntrants_proved
end Go.Proofs.Ytgephdcapajaiaa
