/-
  The map of zones: Count, Of. No conditions of their own.
-/
import Derived.Test.YtcjeocibnfoenaaGreatTiS
namespace Go.Proofs.YtcjeocibnfoenaaGreat
open Go.RowKit Go.Joins Go.Deep Go.Sort

set_option maxRecDepth 100000 in
set_option maxHeartbeats 1000000 in
theorem mapCount_any (w : World) (g : Nat) (z : Zf) (h : cellsAt w g 0 11 = some (zmC z)) (h1 : 0 ≤ z.c * z.r) (h2 : z.c * z.r ≤ 1073741824) :
    Calls Tryz.prog 21 #[.pointer (some ⟨g, 0, none⟩)] w fun e w' => e = .returned (.int .i64 (z.c * z.r)) ∧ Grown w w' := by
  have e0 := cellsAt_cell h 0 _ rfl
  have e1 := cellsAt_cell h 1 _ rfl
  simp only [Nat.zero_add] at e0 e1
  obtain ⟨C, hC⟩ : ∃ q, q = z.c := ⟨_, rfl⟩
  obtain ⟨R, hR⟩ : ∃ q, q = z.r := ⟨_, rfl⟩
  rw [← hC, ← hR] at h1 h2 ⊢
  rw [← hC] at e0
  rw [← hR] at e1
  have lb : g < w.heap.size := block_lt_of_cell e0
  have l0 : ∀ n os, (grow (w.drewN n) os).cell? ⟨g, 0, none⟩ = some (.int .i64 C) := fun n os => cell_grown lb e0 n os
  have l1 : ∀ n os, (grow (w.drewN n) os).cell? ⟨g, 1, none⟩ = some (.int .i64 R) := fun n os => cell_grown lb e1 n os
  have wC : IntKind.i64.wrap (C * R) = C * R := by rw [IntKind.wrap_i64]; omega
  have mx := mixed
  clear h hC hR e0 e1
  go_enter Tryz.func21, Tryz.ntmps21
  go_wp2_with fail
  go_quiet_grown (fail)
  go_wp2
  go_ret
  exact ⟨rfl, ⟨nq, osq, rfl⟩⟩
end Go.Proofs.YtcjeocibnfoenaaGreat
