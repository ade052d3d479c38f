/-
  The map of zones: In. No conditions of their own.
-/
import Derived.Test.YtcjeocibnfoenaaGreatTiR
namespace Go.Proofs.YtcjeocibnfoenaaGreat
open Go.RowKit Go.Joins Go.Deep Go.Sort

theorem min_if (a b : Int) : (if b < a then b else a) = min a b := by
  by_cases h : b < a
  · rw [if_pos h]; omega
  · rw [if_neg h]; omega
@[go_sem] theorem run_min2 {P : Program} (w : World) (ts : Array TypeId) (t : TypeId) (a b : Int) : (Builtin.min_ ts t #[.int .i64 a, .int .i64 b]).run P w = .ok (.int .i64 (min a b)) w := by
  rw [← min_if a]
  simp [Builtin.min_, Builtin.min2]
/-- a world's form: columns, rows, side, radius, speed, names, queue -/
structure Zf where
  c : Int
  r : Int
  s : Int
  u : Int
  v : Int
  i : Int
  q : Int
/-- the cells of a map: the form, the world's rectangle -/
abbrev zmC (z : Zf) : List Value := [.int .i64 z.c, .int .i64 z.r, .int .i64 z.s, .int .i64 z.u, .int .i64 z.v, .int .i64 z.i, .int .i64 z.q, .int .i64 0, .int .i64 0, .int .i64 (z.c * z.s), .int .i64 (z.r * z.s)]
set_option maxRecDepth 100000 in
set_option maxHeartbeats 1000000 in
theorem mapIn_any (w : World) (g : Nat) (z : Zf) (h : cellsAt w g 0 11 = some (zmC z)) (x y : Int) (h1 : 1 ≤ z.c * z.s) (h2 : z.c * z.s ≤ 1073741824) (h3 : 1 ≤ z.r * z.s) (h4 : z.r * z.s ≤ 1073741824) :
    Calls Tryz.prog 59 #[.pointer (some ⟨g, 0, none⟩), .int .i64 x, .int .i64 y] w fun e w' => e = .returned (.tuple #[.int .i64 (max 0 (min x (z.c * z.s - 1))), .int .i64 (max 0 (min y (z.r * z.s - 1)))]) ∧ Grown w w' := by
  have e9 := cellsAt_cell h 9 _ rfl
  have e10 := cellsAt_cell h 10 _ rfl
  simp only [Nat.zero_add] at e9 e10
  obtain ⟨X, hX⟩ : ∃ q, q = z.c * z.s := ⟨_, rfl⟩
  obtain ⟨Y, hY⟩ : ∃ q, q = z.r * z.s := ⟨_, rfl⟩
  rw [← hX] at h1 h2 e9 ⊢
  rw [← hY] at h3 h4 e10 ⊢
  have lb : g < w.heap.size := block_lt_of_cell e9
  have l9 : ∀ n os, (grow (w.drewN n) os).cell? ⟨g, 9, none⟩ = some (.int .i64 X) := fun n os => cell_grown lb e9 n os
  have l10 : ∀ n os, (grow (w.drewN n) os).cell? ⟨g, 10, none⟩ = some (.int .i64 Y) := fun n os => cell_grown lb e10 n os
  have wX : IntKind.i64.wrap (X - 1) = X - 1 := by rw [IntKind.wrap_i64]; omega
  have wY : IntKind.i64.wrap (Y - 1) = Y - 1 := by rw [IntKind.wrap_i64]; omega
  obtain ⟨A, hA⟩ : ∃ q, max 0 (min x (X - 1)) = q := ⟨_, rfl⟩
  obtain ⟨B, hB⟩ : ∃ q, max 0 (min y (Y - 1)) = q := ⟨_, rfl⟩
  rw [hA, hB]
  have mx := mixed
  clear h hX hY e9 e10
  go_enter Tryz.func59, Tryz.ntmps59
  go_wp2_with fail
  go_quiet_grown (fail)
  go_wp2
  all_goals refine bodyPost_ret (v := .tuple #[.int .i64 A, .int .i64 B]) ?_ rfl ⟨rfl, ⟨nq, osq, rfl⟩⟩
  all_goals (simp [results, Tryz.results59, go_sem]; try omega)
end Go.Proofs.YtcjeocibnfoenaaGreat
