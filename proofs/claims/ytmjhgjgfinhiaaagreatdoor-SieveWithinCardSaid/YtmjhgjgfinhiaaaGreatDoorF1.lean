/- What is true of the program alone, told fact by fact. No conditions. -/
import Derived.Test.YtmjhgjgfinhiaaaGreatDoorRows
import Derived.WalkKit
import Derived.ProofKit
import Derived.SevenTiedAt
set_option maxRecDepth 100000
namespace Go.Proofs.YtmjhgjgfinhiaaaGreatDoor
theorem f_and {a b : Bool} (ha : a = true) (hb : b = true) : (a && b) = true := by rw [ha, hb]; rfl
theorem f_laid : laidOutB Tryz.pinned.checked.prog = true := by kernel_rfl
theorem f_maps : mapsRowed Tryz.pinned.checked.prog = true := by kernel_rfl
theorem f_heard : Program.stopsHeard Tryz.pinned.checked.prog = true := by kernel_rfl
theorem f_enter : Program.mayEnter Tryz.pinned.checked.prog = true := by kernel_rfl
theorem f_keys : (Rows.modelRightsRow.plainKeys == Program.plainKeys Tryz.pinned.checked.prog) = true := by kernel_rfl
theorem f_lift : (Rows.modelRightsRow.lifted == Program.liftsFinal Tryz.pinned.checked.prog) = true := by kernel_rfl
theorem f_make : (Program.make Tryz.pinned.checked.prog == some Rows.modelRightsRow.make) = true := by kernel_rfl
end Go.Proofs.YtmjhgjgfinhiaaaGreatDoor
