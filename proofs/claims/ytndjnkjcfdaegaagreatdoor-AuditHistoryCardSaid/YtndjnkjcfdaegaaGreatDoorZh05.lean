/-
  parts.Compare, parts.Has, and the order that entities are sorted by. No conditions of their own.
-/
import Derived.Test.YtndjnkjcfdaegaaGreatDoorZh04
import Derived.Deep.DeepCutAuto
set_option linter.all false
namespace Go.Proofs.YtndjnkjcfdaegaaGreatDoor
open Go.RowKit Go.Joins Go.Deep Go.Sort

abbrev namV (n : Nam) : Value := .agg #[.int .i64 n.s, .int .i64 n.i, .int .i64 n.g]
abbrev bdV (b : Bd) : Value := .agg #[.int .i64 b.s, .int .i64 b.i, .int .i64 b.g, .int .i64 b.m, .int .i64 b.x, .int .i64 b.y, .int .i64 b.vx, .int .i64 b.vy, .int .i64 b.hp, .int .i64 b.pw, .int .i64 b.lf]
/-- what is new is laid behind -/
def Grown (w w' : World) : Prop := ∃ q os, w' = grow (w.drewN q) os
theorem Grown.keeps {w w' : World} (h : Grown w w') : Keeps No w w' := by
  obtain ⟨q, os, rfl⟩ := h
  exact ⟨rfl, rfl, rfl, by rw [size_grow]; exact Nat.le_add_right _ _, fun k hk _ => heap_grow_old _ os hk⟩
theorem Grown.same (w : World) : Grown w w := ⟨0, #[], by rw [grow_empty]; rfl⟩
theorem Grown.alloc {w w' : World} (h : Grown w w') (o : Obj) : Grown w (w'.alloc o) := by
  obtain ⟨q, os, rfl⟩ := h
  exact ⟨q, os ++ #[o], by rw [alloc_eq_grow, grow_grow]⟩
theorem grow_drewN (w : World) (os : Array Obj) (n : Nat) : (grow w os).drewN n = grow (w.drewN n) os := rfl
theorem Grown.drewN {w w' : World} (h : Grown w w') (n : Nat) : Grown w (w'.drewN n) := by
  obtain ⟨q, os, rfl⟩ := h
  exact ⟨q + n, os, by rw [grow_drewN, World.drewN_drewN]⟩
theorem Grown.drew {w w' : World} (h : Grown w w') : Grown w w'.drew := h.drewN 1
theorem Grown.trans {a b c : World} (h : Grown a b) (k : Grown b c) : Grown a c := by
  obtain ⟨q, os, rfl⟩ := h
  obtain ⟨p, os', rfl⟩ := k
  exact ⟨q + p, os ++ os', by rw [grow_drewN, World.drewN_drewN, grow_grow]⟩

set_option maxRecDepth 100000 in
set_option maxHeartbeats 2000000 in
theorem compare_any (w : World) (a b : Nam) : Calls Tryz.prog 78 #[namV a, namV b] w fun e w' => e = .returned (.int .i64 (ncmp a b)) ∧ Grown w w' := by
  obtain ⟨r1, h1⟩ : ∃ r, r = cmpI a.s b.s := ⟨_, rfl⟩
  obtain ⟨r2, h2⟩ : ∃ r, r = cmpI a.i b.i := ⟨_, rfl⟩
  obtain ⟨r3, h3⟩ : ∃ r, r = cmpI a.g b.g := ⟨_, rfl⟩
  have C1 := Lib.hid (fun W => compareI_any W a.s b.s)
  have C2 := Lib.hid (fun W => compareI_any W a.i b.i)
  have C3 := Lib.hid (fun W => compareI_any W a.g b.g)
  have HR : Hid (ncmp a b = or3 r1 r2 r3) := Lib.hid (by unfold ncmp; rw [h1, h2, h3])
  rw [← h1] at C1
  rw [← h2] at C2
  rw [← h3] at C3
  rw [HR.out]
  clear h1 h2 h3
  go_enter Tryz.func78, Tryz.ntmps78
  go_upto_region 1 with fail
  refine wp_world ?_
  intro W hW
  have cA : cellsAt W w.heap.size 0 3 = some [.int .i64 a.s, .int .i64 a.i, .int .i64 a.g] := by rw [hW]; simp [go_sem]
  have cB : cellsAt W (w.heap.size + 1) 0 3 = some [.int .i64 b.s, .int .i64 b.i, .int .i64 b.g] := by rw [hW]; simp [go_sem]
  have G : Hid (Grown w W) := Lib.hid (by rw [hW]; exact ((Grown.same w).alloc _).alloc _)
  have a0 := cellsAt_cell cA 0 _ rfl
  have a1 := cellsAt_cell cA 1 _ rfl
  have a2 := cellsAt_cell cA 2 _ rfl
  have b0 := cellsAt_cell cB 0 _ rfl
  have b1 := cellsAt_cell cB 1 _ rfl
  have b2 := cellsAt_cell cB 2 _ rfl
  simp only [Nat.zero_add, Nat.add_zero] at a0 a1 a2 b0 b1 b2
  have hlt : w.heap.size < W.heap.size ∧ w.heap.size + 1 < W.heap.size := ⟨block_lt_of_cell a0, block_lt_of_cell b0⟩
  obtain ⟨ga, hga⟩ : ∃ g, g = w.heap.size := ⟨_, rfl⟩
  obtain ⟨gb, hgb⟩ : ∃ g, g = w.heap.size + 1 := ⟨_, rfl⟩
  rw [← hgb]
  rw [← hga]
  rw [← hgb] at hlt
  rw [← hga] at a0 a1 a2 hlt
  rw [← hgb] at b0 b1 b2
  clear hW cA cB hga hgb
  go_region_held3 (fun w' => w'.cell? ⟨ga, 0, none⟩ = some (.int .i64 a.s) ∧ w'.cell? ⟨ga, 1, none⟩ = some (.int .i64 a.i) ∧ w'.cell? ⟨ga, 2, none⟩ = some (.int .i64 a.g) ∧ w'.cell? ⟨gb, 0, none⟩ = some (.int .i64 b.s) ∧ w'.cell? ⟨gb, 1, none⟩ = some (.int .i64 b.i) ∧ w'.cell? ⟨gb, 2, none⟩ = some (.int .i64 b.g))
    (first | exact ⟨a0, a1, a2, b0, b1, b2⟩ | (have k0 := (Keeps.refl (S := No) W).alloc (.cells #[.int .i64 r1, .int .i64 r2, .int .i64 r3] 3); exact ⟨k0.cell a0 (fun h => h), k0.cell a1 (fun h => h), k0.cell a2 (fun h => h), k0.cell b0 (fun h => h), k0.cell b1 (fun h => h), k0.cell b2 (fun h => h)⟩))
    (first
      | (go_at_call 79; have hc := fun W => (C1.out W); with_reducible refine (hc _).mono ?_; rintro e w1 ⟨rfl, hw⟩; clear hc; have hw := hw.symm; subst hw)
      | (go_at_call 79; have hc := fun W => (C2.out W); with_reducible refine (hc _).mono ?_; rintro e w1 ⟨rfl, hw⟩; clear hc; have hw := hw.symm; subst hw)
      | (go_at_call 79; have hc := fun W => (C3.out W); with_reducible refine (hc _).mono ?_; rintro e w1 ⟨rfl, hw⟩; clear hc; have hw := hw.symm; subst hw)
      | (go_at_call 77; refine (or_any _ _ r1 r2 r3 (by simp [go_sem])).mono ?_; rintro e w1 ⟨rfl, hw⟩; have hw := hw.symm; subst hw))
  go_wp2
  go_ret
  exact ⟨rfl, (G.out.alloc _).drew⟩
end Go.Proofs.YtndjnkjcfdaegaaGreatDoor
