/- Merged texts of ours: JfC; conditions are the hypotheses of each law. -/
import Derived.Test.YtbgldmoikimmpaaGreatDoorQ8
import Derived.Test.YtbgldmoikimmpaaGreatDoorTie
import Derived.Test.YtbgldmoikimmpaaGreatDoorCards
import Derived.JoinedOf
import Derived.KernelRfl
namespace Go.Proofs.YtbgldmoikimmpaaGreatDoor
set_option maxRecDepth 100000
theorem qWl:Rows.topReshareRow.wfByText (OpenSpec.ofChange Rows.topReshareSpec) = true:=by kernel_rfl
theorem qWk:false = Rows.topReshareRow.goesBy Tryz.prog:=by kernel_rfl
theorem qWj:false = Tryz.prog.looks []:=by kernel_rfl
theorem qWi : Tryz.prog.mainIs = some (true, "78d2b33d4299b13d6ddb0f511c64c1c8b6f7d66faeeaa35cb34eb636de0ec4f6".toList) := by kernel_rfl
end Go.Proofs.YtbgldmoikimmpaaGreatDoor
