/-
  The document's into, size. No conditions of their own.
-/
import Derived.Test.YtcjeocibnfoenaaGreatTiU
namespace Go.Proofs.YtcjeocibnfoenaaGreat
open Go.RowKit Go.Joins Go.Deep Go.Sort

set_option maxRecDepth 100000 in
theorem rinto_any (w : World) (x n : Int) (h1 : 1 ≤ n) (h2 : n ≤ 1073741824) : Calls Tryz.prog 102 #[.int .i64 x, .int .i64 n] w fun e w' => e = .returned (.int .i64 (max 0 (min x (n - 1)))) ∧ Grown w w' := by
  obtain ⟨M, hM⟩ : ∃ q, max 0 (min x (n - 1)) = q := ⟨_, rfl⟩
  rw [hM]
  go_enter Tryz.func102, Tryz.ntmps102
  by_cases a1 : x < 0
  · go_wp2
    all_goals go_ret
    all_goals exact ⟨by first | rfl | (simp; omega), Grown.same w⟩
  · by_cases a2 : x ≥ n
    · go_wp2
      all_goals go_ret
      all_goals exact ⟨by first | rfl | (simp; omega), Grown.same w⟩
    · go_wp2
      all_goals go_ret
      all_goals exact ⟨by first | rfl | (simp; omega), Grown.same w⟩
set_option maxRecDepth 100000 in
theorem rsize_any (w : World) (n : Int) (h1 : -2147483648 ≤ n) (h2 : n ≤ 2147483648) : Calls Tryz.prog 116 #[.int .i64 n] w fun e w' => e = .returned (.int .i64 (max n (-n))) ∧ w' = w := by
  obtain ⟨M, hM⟩ : ∃ q, max n (-n) = q := ⟨_, rfl⟩
  rw [hM]
  go_enter Tryz.func116, Tryz.ntmps116
  by_cases a1 : n < 0
  · go_wp2
    all_goals go_ret
    all_goals exact ⟨by first | rfl | (simp; omega), rfl⟩
  · go_wp2
    all_goals go_ret
    all_goals exact ⟨by first | rfl | (simp; omega), rfl⟩
end Go.Proofs.YtcjeocibnfoenaaGreat
