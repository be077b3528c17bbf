/- Merged texts of ours; conditions are the hypotheses of each law. -/
import Derived.Test.YtplkndjlfkkjlaaGreatDoorTie
import Derived.Test.YtplkndjlfkkjlaaGreatDoorCards
import Derived.JoinedOf
import Derived.KernelRfl
namespace Go.Proofs.YtplkndjlfkkjlaaGreatDoor
set_option maxRecDepth 100000
theorem jPx:Rows.topFairRow.wf (OpenSpec.ofChange Rows.topFairSpec)=true:=by kernel_rfl
theorem jPw:laidOutB Tryz.prog=true:=by kernel_rfl
theorem jPv:mapsRowed Tryz.prog=true:=by kernel_rfl
theorem jPu:Tryz.f3.params.all (Tryz.prog.readableRec ·)=true:=by kernel_rfl
theorem jPt:namedTie Tryz.prog Rows.topFairRow.named Rows.topFairSpec.vars=true:=by kernel_rfl
theorem jPs:(Rows.topFairRow.inPlace==Tryz.prog.inPlace 3)=true:=by kernel_rfl
theorem jPr:(Rows.topFairRow.unfollowed==Tryz.prog.unfollowed 3)=true:=by kernel_rfl
end Go.Proofs.YtplkndjlfkkjlaaGreatDoor
