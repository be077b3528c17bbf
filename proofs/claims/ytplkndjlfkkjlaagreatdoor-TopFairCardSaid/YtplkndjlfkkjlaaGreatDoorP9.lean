/- Merged texts of ours; conditions are the hypotheses of each law. -/
import Derived.Test.YtplkndjlfkkjlaaGreatDoorTie
import Derived.Test.YtplkndjlfkkjlaaGreatDoorCards
import Derived.JoinedOf
import Derived.KernelRfl
namespace Go.Proofs.YtplkndjlfkkjlaaGreatDoor
set_option maxRecDepth 100000
theorem jPq:(Rows.topFairRow.recurses==Tryz.prog.recurses 3)=true:=by kernel_rfl
theorem jPp:(Rows.topFairRow.named==Tryz.prog.varsNamed 3)=true:=by kernel_rfl
theorem jPo:(Rows.topFairRow.plainKeys==Tryz.prog.plainKeys)=true:=by kernel_rfl
theorem jf_a20:Tryz.prog.funcNamed "sortes/sortestop.TopFair"=some 3:=by kernel_rfl
theorem jPn:Tryz.f3.isInstance Tryz.prog Rows.topFairRow.origin Rows.topFairRow.targs:=of_decide_eq_true (by kernel_rfl)
end Go.Proofs.YtplkndjlfkkjlaaGreatDoor
