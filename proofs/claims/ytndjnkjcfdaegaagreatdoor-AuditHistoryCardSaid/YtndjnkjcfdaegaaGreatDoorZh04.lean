/-
  The leaves of the program: fixed.Clamp, Add, rect.Far, cmp.Compare, cmp.Or, parts.Has. No conditions of their own.
-/
import Derived.Test.YtndjnkjcfdaegaaGreatDoorZh02
import Derived.Test.YtndjnkjcfdaegaaGreatDoorZh03
import Derived.BigQuiet
import Derived.Deep.RegionHeld3
set_option linter.all false
namespace Go.Proofs.YtndjnkjcfdaegaaGreatDoor
open Go.RowKit Go.Joins Go.Deep

def cl (n : Int) : Int := bif decide (n < -1073741824) then -1073741824 else bif decide (1073741824 < n) then 1073741824 else n
theorem cl_lo {n : Int} (h : n < -1073741824) : cl n = -1073741824 := by unfold cl; rw [decide_eq_true h]; rfl
theorem cl_hi {n : Int} (h : 1073741824 < n) : cl n = 1073741824 := by unfold cl; rw [decide_eq_false (by omega), decide_eq_true h]; rfl
theorem cl_in {n : Int} (h : -1073741824 ≤ n) (k : n ≤ 1073741824) : cl n = n := by unfold cl; rw [decide_eq_false (by omega), decide_eq_false (by omega)]; rfl
theorem cl_bnd (n : Int) : -1073741824 ≤ cl n ∧ cl n ≤ 1073741824 := by
  by_cases h : n < -1073741824
  · rw [cl_lo h]; omega
  · by_cases k : 1073741824 < n
    · rw [cl_hi k]; omega
    · rw [cl_in (by omega) (by omega)]; omega
theorem clamp_any (w : World) (n : Int) : Calls Tryz.prog 203 #[.int .i64 n] w fun e w' => e = .returned (.int .i64 (cl n)) ∧ w' = w := by
  by_cases h : n < -1073741824
  · rw [cl_lo h]
    go_enter Tryz.func203, Tryz.ntmps203
    go_wp2
    all_goals go_ret
    all_goals exact ⟨by first | rfl | (simp only [Array.getD_eq_getD_getElem?]; simp; omega), rfl⟩
  · by_cases k : 1073741824 < n
    · rw [cl_hi k]
      go_enter Tryz.func203, Tryz.ntmps203
      go_wp2
      all_goals go_ret
      all_goals exact ⟨by first | rfl | (simp only [Array.getD_eq_getD_getElem?]; simp; omega), rfl⟩
    · rw [cl_in (by omega) (by omega)]
      go_enter Tryz.func203, Tryz.ntmps203
      go_wp2
      all_goals go_ret
      all_goals exact ⟨by first | rfl | (simp only [Array.getD_eq_getD_getElem?]; simp; omega), rfl⟩
theorem isNaN_any (w : World) (n : Int) : Calls Tryz.prog 126 #[.int .i64 n] w fun e w' => e = .returned (.bool false) ∧ w' = w := by
  go_enter Tryz.func126, Tryz.ntmps126
  go_wp2
  go_ret
  exact ⟨by simp, rfl⟩
theorem compareI_any (w : World) (a b : Int) : Calls Tryz.prog 79 #[.int .i64 a, .int .i64 b] w fun e w' => e = .returned (.int .i64 (cmpI a b)) ∧ w' = w := by
  rcases Int.lt_trichotomy a b with h | h | h
  · rw [cmpI_lt h]
    go_enter Tryz.func79, Tryz.ntmps79
    go_wp2_with (go_at_call 126; refine (isNaN_any _ _).mono ?_; rintro e w1 ⟨rfl, rfl⟩)
    go_ret
    exact ⟨rfl, rfl⟩
  · subst h
    rw [cmpI_eq]
    go_enter Tryz.func79, Tryz.ntmps79
    go_wp2_with (go_at_call 126; refine (isNaN_any _ _).mono ?_; rintro e w1 ⟨rfl, rfl⟩)
    go_ret
    exact ⟨rfl, rfl⟩
  · rw [cmpI_gt h]
    have h2 : ¬ a < b := by omega
    go_enter Tryz.func79, Tryz.ntmps79
    go_wp2_with (go_at_call 126; refine (isNaN_any _ _).mono ?_; rintro e w1 ⟨rfl, rfl⟩)
    go_ret
    exact ⟨rfl, rfl⟩
theorem or_any (w : World) (g : Nat) (a b c : Int) (hc : cellsAt w g 0 3 = some [.int .i64 a, .int .i64 b, .int .i64 c]) : Calls Tryz.prog 77 #[.slice (some ⟨g, 0, none⟩) 3 3] w fun e w' => e = .returned (.int .i64 (or3 a b c)) ∧ w' = w := by
  have c0 := cellsAt_cell hc 0 _ rfl
  have c1 := cellsAt_cell hc 1 _ rfl
  have c2 := cellsAt_cell hc 2 _ rfl
  simp only [Nat.zero_add, Nat.add_zero] at c0 c1 c2
  clear hc
  go_enter Tryz.func77, Tryz.ntmps77
  go_wp2
  go_loop [8] (fun q => q = .int .i64 0 ∨ (a = 0 ∧ q = .int .i64 1) ∨ (a = 0 ∧ b = 0 ∧ q = .int .i64 2) ∨ (a = 0 ∧ b = 0 ∧ c = 0 ∧ q = .int .i64 3)) (fun q => 3 - (intOf q).toNat)
  case atStart => exact .inl rfl
  case round =>
    rcases hrel with rfl | ⟨rfl, rfl⟩ | ⟨rfl, rfl, rfl⟩ | ⟨rfl, rfl, rfl, rfl⟩
    · by_cases h : a = 0
      · subst h
        go_wp2
        go_round
        case rel => exact .inr (.inl ⟨trivial, by go_num⟩)
        case measure => simp [intOf]
      · have hb : (a == 0) = false := by simpa using h
        go_wp2
        go_ret
        exact ⟨by unfold or3; rw [hb]; rfl, rfl⟩
    · by_cases h : b = 0
      · subst h
        go_wp2
        go_round
        case rel => exact .inr (.inr (.inl ⟨trivial, trivial, by go_num⟩))
        case measure => simp [intOf]
      · have hb : (b == 0) = false := by simpa using h
        go_wp2
        go_ret
        exact ⟨by unfold or3; rw [hb]; rfl, rfl⟩
    · by_cases h : c = 0
      · subst h
        go_wp2
        go_round
        case rel => exact .inr (.inr (.inr ⟨trivial, trivial, trivial, by go_num⟩))
        case measure => simp [intOf]
      · go_wp2
        go_ret
        exact ⟨rfl, rfl⟩
    · go_wp2
      go_ret
      exact ⟨rfl, rfl⟩
theorem max_if (a b : Int) : (if b > a then b else a) = max a b := by
  by_cases h : b > a
  · rw [if_pos h]; omega
  · rw [if_neg h]; omega
@[go_sem] theorem run_max4 {P : Program} (w : World) (ts : Array TypeId) (t : TypeId) (a b c d : Int) : (Builtin.max_ ts t #[.int .i64 a, .int .i64 b, .int .i64 c, .int .i64 d]).run P w = .ok (.int .i64 (max (max (max a b) c) d)) w := by
  rw [← max_if (max (max a b) c), ← max_if (max a b), ← max_if a]
  simp [Builtin.max_, Builtin.max2]
def far (x y u v : Int) : Int := max (max (max (cl x - cl u) (-(cl x - cl u))) (cl y - cl v)) (-(cl y - cl v))
end Go.Proofs.YtndjnkjcfdaegaaGreatDoor
