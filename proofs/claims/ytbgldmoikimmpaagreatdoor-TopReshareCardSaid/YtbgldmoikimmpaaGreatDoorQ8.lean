/- Merged texts of ours: JfB; conditions are the hypotheses of each law. -/
import Derived.Test.YtbgldmoikimmpaaGreatDoorQ7
import Derived.Test.YtbgldmoikimmpaaGreatDoorTie
import Derived.Test.YtbgldmoikimmpaaGreatDoorCards
import Derived.JoinedOf
import Derived.KernelRfl
namespace Go.Proofs.YtbgldmoikimmpaaGreatDoor
set_option maxRecDepth 100000
theorem qWp:(Rows.topReshareRow.recurses == Tryz.prog.recurses 3) = true:=by kernel_rfl
theorem qWo:(Rows.topReshareRow.named == Tryz.prog.varsNamed 3) = true:=by kernel_rfl
theorem qWn:(Rows.topReshareRow.plainKeys == Tryz.prog.plainKeys) = true:=by kernel_rfl
theorem jf_a20 : Tryz.prog.funcNamed "sortes/sortestop.TopReshare" = some 3 := by kernel_rfl
theorem qWm:Tryz.f3.isInstance Tryz.prog Rows.topReshareRow.origin Rows.topReshareRow.targs:=of_decide_eq_true (by kernel_rfl)
end Go.Proofs.YtbgldmoikimmpaaGreatDoor
