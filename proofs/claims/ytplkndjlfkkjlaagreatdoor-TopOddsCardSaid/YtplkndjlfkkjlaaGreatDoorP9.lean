/- Merged texts of ours; conditions are the hypotheses of each law. -/
import Derived.Test.YtplkndjlfkkjlaaGreatDoorTie
import Derived.Test.YtplkndjlfkkjlaaGreatDoorCards
import Derived.JoinedOf
import Derived.KernelRfl
namespace Go.Proofs.YtplkndjlfkkjlaaGreatDoor
set_option maxRecDepth 100000
theorem jPx:Rows.topOddsRow.wf (OpenSpec.ofChange Rows.topOddsSpec)=true:=by kernel_rfl
theorem jPw:laidOutB Tryz.prog=true:=by kernel_rfl
theorem jPv:mapsRowed Tryz.prog=true:=by kernel_rfl
theorem jPu:Tryz.f4.params.all (Tryz.prog.readableRec ·)=true:=by kernel_rfl
theorem jPt:namedTie Tryz.prog Rows.topOddsRow.named Rows.topOddsSpec.vars=true:=by kernel_rfl
theorem jPs:(Rows.topOddsRow.inPlace==Tryz.prog.inPlace 4)=true:=by kernel_rfl
theorem jPr:(Rows.topOddsRow.unfollowed==Tryz.prog.unfollowed 4)=true:=by kernel_rfl
end Go.Proofs.YtplkndjlfkkjlaaGreatDoor
