/- Merged texts of ours: JfA; conditions are the hypotheses of each law. -/
import Derived.Test.YtbgldmoikimmpaaGreatDoorQ6
import Derived.Test.YtbgldmoikimmpaaGreatDoorTie
import Derived.Test.YtbgldmoikimmpaaGreatDoorCards
import Derived.JoinedOf
import Derived.KernelRfl
namespace Go.Proofs.YtbgldmoikimmpaaGreatDoor
set_option maxRecDepth 100000
theorem qWw:Rows.topReshareRow.wf (OpenSpec.ofChange Rows.topReshareSpec) = true:=by kernel_rfl
theorem qWv:laidOutB Tryz.prog = true:=by kernel_rfl
theorem qWu:mapsRowed Tryz.prog = true:=by kernel_rfl
theorem qWt:Tryz.f3.params.all (Tryz.prog.readableRec ·) = true:=by kernel_rfl
theorem qWs:namedTie Tryz.prog Rows.topReshareRow.named Rows.topReshareSpec.vars = true:=by kernel_rfl
theorem qWr:(Rows.topReshareRow.inPlace == Tryz.prog.inPlace 3) = true:=by kernel_rfl
theorem qWq:(Rows.topReshareRow.unfollowed == Tryz.prog.unfollowed 3) = true:=by kernel_rfl
end Go.Proofs.YtbgldmoikimmpaaGreatDoor
