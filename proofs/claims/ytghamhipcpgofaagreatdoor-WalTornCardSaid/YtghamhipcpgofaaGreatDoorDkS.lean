/-
  slices.Sort of strings, at this program. No conditions of its own.
-/
import Derived.Test.YtghamhipcpgofaaGreatDoorShelf
import Derived.Sort.EveryDepth
namespace Go.Proofs.YtghamhipcpgofaaGreatDoor
open Go.RowKit Go.Shelf Go.Sort

theorem sort_some (blk cap : Nat) (ss : List (List UInt8)) (w : World) (hH : Holds encStr w blk 0 ss.toArray) (hblk : blk < w.heap.size) (hsz : ss.length < 4611686018427387904) :
    Calls Tryz.prog 47 #[.slice (some ⟨blk, 0, none⟩) ss.length cap] w fun e w' => e = .returned (.tuple #[]) ∧ ∃ n os, w' = grow (putRow encStr (Sort.ahead w n) blk 0 (ss.mergeSort fun x y => decide (x ≤ y)).toArray) os :=
  Tryz.slices_Sort_string blk 0 cap ss w hH hblk hsz
theorem sort_none (cap : Nat) (w : World) : Calls Tryz.prog 47 #[.slice none 0 cap] w fun e w' => e = .returned (.tuple #[]) ∧ w' = w :=
  Tryz.slices_Sort_string_none none cap w
end Go.Proofs.YtghamhipcpgofaaGreatDoor
