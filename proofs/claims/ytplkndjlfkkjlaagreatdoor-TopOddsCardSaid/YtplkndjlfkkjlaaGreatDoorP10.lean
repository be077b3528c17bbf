/- Merged texts of ours; conditions are the hypotheses of each law. -/
import Derived.Test.YtplkndjlfkkjlaaGreatDoorTie
import Derived.Test.YtplkndjlfkkjlaaGreatDoorCards
import Derived.JoinedOf
import Derived.KernelRfl
namespace Go.Proofs.YtplkndjlfkkjlaaGreatDoor
set_option maxRecDepth 100000
theorem jPq:(Rows.topOddsRow.recurses==Tryz.prog.recurses 4)=true:=by kernel_rfl
theorem jPp:(Rows.topOddsRow.named==Tryz.prog.varsNamed 4)=true:=by kernel_rfl
theorem jPo:(Rows.topOddsRow.plainKeys==Tryz.prog.plainKeys)=true:=by kernel_rfl
theorem jf_a20:Tryz.prog.funcNamed "sortes/sortestop.TopOdds"=some 4:=by kernel_rfl
theorem jPn:Tryz.f4.isInstance Tryz.prog Rows.topOddsRow.origin Rows.topOddsRow.targs:=of_decide_eq_true (by kernel_rfl)
end Go.Proofs.YtplkndjlfkkjlaaGreatDoor
