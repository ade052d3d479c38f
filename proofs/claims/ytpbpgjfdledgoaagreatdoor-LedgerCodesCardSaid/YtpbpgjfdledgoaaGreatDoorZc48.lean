/-
  Closed facts of the program (one each: together they are too much for the kernel). No conditions of their own.
-/
import Derived.Test.YtpbpgjfdledgoaaGreatDoorZc44
import Derived.JoinedCond
namespace Go.Proofs.YtpbpgjfdledgoaaGreatDoor
open Go.ChangeShapes Go.WideShapes Go.ChangeAt Go.RowKit Go.Joins Go.Deep
set_option maxRecDepth 100000
theorem cl_laid : laidOutB Tryz.pinned.checked.prog = true := by kernel_rfl
theorem cl_maps : mapsRowed Tryz.pinned.checked.prog = true := by kernel_rfl
theorem cl_heard : (Tryz.pinned.checked.prog).stopsHeard = true := by kernel_rfl
end Go.Proofs.YtpbpgjfdledgoaaGreatDoor
