/-
  The world of a ledger law's witness: what the row's list lays (one fact each: together they are too much for the kernel). No conditions of their own.
-/
import Derived.Test.YtpbpgjfdledgoaaGreatDoorZb43
namespace Go.Proofs.YtpbpgjfdledgoaaGreatDoor
open Go.ChangeShapes Go.WideShapes Go.ChangeAt Go.RowKit Go.Joins Go.Deep

set_option maxRecDepth 100000
theorem laid_zip (os : Os) (args : Array Value) : ((World.laidAll Tryz.prog os laidWal).forCall (fun _ _ => 0) ⟨#[], args, []⟩).variablesZipB Tryz.prog = true := by kernel_rfl
theorem laid_heap (os : Os) (args : Array Value) : (((World.laidAll Tryz.prog os laidWal).forCall (fun _ _ => 0) ⟨#[], args, []⟩).heap.toList.drop Tryz.prog.globals.size).take ((begin Tryz.prog (fun _ _ => 0) default).world.heap.size - Tryz.prog.globals.size) = (begin Tryz.prog (fun _ _ => 0) default).world.heap.toList.drop Tryz.prog.globals.size := by kernel_rfl
theorem laid_fits (os : Os) : (World.holding Tryz.prog os ⟨#[], #[], []⟩).layFits Tryz.prog laidWal [] = true := by kernel_rfl
theorem laid_ifaces (os : Os) : (World.holding Tryz.prog os ⟨#[], #[], []⟩).layIfaces Tryz.prog laidWal (World.laidAll Tryz.prog os laidWal) = true := by kernel_rfl
end Go.Proofs.YtpbpgjfdledgoaaGreatDoor
