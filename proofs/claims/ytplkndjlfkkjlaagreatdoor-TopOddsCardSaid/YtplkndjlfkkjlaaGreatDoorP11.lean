/- Merged texts of ours; conditions are the hypotheses of each law. -/
import Derived.Test.YtplkndjlfkkjlaaGreatDoorTie
import Derived.Test.YtplkndjlfkkjlaaGreatDoorCards
import Derived.JoinedOf
import Derived.KernelRfl
namespace Go.Proofs.YtplkndjlfkkjlaaGreatDoor
set_option maxRecDepth 100000
theorem jPm:Rows.topOddsRow.wfByText (OpenSpec.ofChange Rows.topOddsSpec)=true:=by kernel_rfl
theorem jPl:false=Rows.topOddsRow.goesBy Tryz.prog:=by kernel_rfl
theorem jPk:false=Tryz.prog.looks []:=by kernel_rfl
theorem jPj:Tryz.prog.mainIs=some (true, "e89e871c736305d361c85978f457fe638a313a1ec54ce59abeb776cd9c314d45".toList):=by kernel_rfl
end Go.Proofs.YtplkndjlfkkjlaaGreatDoor
