/-
  The leaves of the program: fixed.Clamp, Add, rect.Far, cmp.Compare, cmp.Or, parts.Has. No conditions of their own.
-/
import Derived.Test.YtpbpgjfdledgoaaGreatDoorZc03
import Derived.Test.YtpbpgjfdledgoaaGreatDoorZc04
import Derived.BigQuiet
import Derived.Deep.RegionHeld3
namespace Go.Proofs.YtpbpgjfdledgoaaGreatDoor
open Go.RowKit Go.Joins Go.Deep

def cl (n : Int) : Int := bif decide (n < -1073741824) then -1073741824 else bif decide (1073741824 < n) then 1073741824 else n
theorem cl_lo {n : Int} (h : n < -1073741824) : cl n = -1073741824 := by unfold cl; rw [decide_eq_true h]; rfl
theorem cl_hi {n : Int} (h : 1073741824 < n) : cl n = 1073741824 := by unfold cl; rw [decide_eq_false (by omega), decide_eq_true h]; rfl
theorem cl_in {n : Int} (h : -1073741824 ≤ n) (k : n ≤ 1073741824) : cl n = n := by unfold cl; rw [decide_eq_false (by omega), decide_eq_false (by omega)]; rfl
theorem cl_bnd (n : Int) : -1073741824 ≤ cl n ∧ cl n ≤ 1073741824 := by
  by_cases h : n < -1073741824
  · rw [cl_lo h]; omega
  · by_cases k : 1073741824 < n
    · rw [cl_hi k]; omega
    · rw [cl_in (by omega) (by omega)]; omega
theorem clamp_any (w : World) (n : Int) : Calls Tryz.prog 294 #[.int .i64 n] w fun e w' => e = .returned (.int .i64 (cl n)) ∧ w' = w := by
  by_cases h : n < -1073741824
  · rw [cl_lo h]
    go_enter Tryz.func294, Tryz.ntmps294
    go_wp2
    all_goals go_ret
    all_goals exact ⟨by first | rfl | (simp only [Array.getD_eq_getD_getElem?]; simp; omega), rfl⟩
  · by_cases k : 1073741824 < n
    · rw [cl_hi k]
      go_enter Tryz.func294, Tryz.ntmps294
      go_wp2
      all_goals go_ret
      all_goals exact ⟨by first | rfl | (simp only [Array.getD_eq_getD_getElem?]; simp; omega), rfl⟩
    · rw [cl_in (by omega) (by omega)]
      go_enter Tryz.func294, Tryz.ntmps294
      go_wp2
      all_goals go_ret
      all_goals exact ⟨by first | rfl | (simp only [Array.getD_eq_getD_getElem?]; simp; omega), rfl⟩
theorem max_if (a b : Int) : (if b > a then b else a) = max a b := by
  by_cases h : b > a
  · rw [if_pos h]; omega
  · rw [if_neg h]; omega
@[go_sem] theorem run_max4 {P : Program} (w : World) (ts : Array TypeId) (t : TypeId) (a b c d : Int) : (Builtin.max_ ts t #[.int .i64 a, .int .i64 b, .int .i64 c, .int .i64 d]).run P w = .ok (.int .i64 (max (max (max a b) c) d)) w := by
  rw [← max_if (max (max a b) c), ← max_if (max a b), ← max_if a]
  simp [Builtin.max_, Builtin.max2]
def far (x y u v : Int) : Int := max (max (max (cl x - cl u) (-(cl x - cl u))) (cl y - cl v)) (-(cl y - cl v))
end Go.Proofs.YtpbpgjfdledgoaaGreatDoor
