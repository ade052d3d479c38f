/-
  parts.Compare, parts.Has, and the order that entities are sorted by. No conditions of their own.
-/
import Derived.Test.YtpbpgjfdledgoaaGreatDoorZc05
import Derived.Sort.Grow
import Derived.Deep.DeepCutAuto
namespace Go.Proofs.YtpbpgjfdledgoaaGreatDoor
open Go.RowKit Go.Joins Go.Deep Go.Sort

abbrev namV (n : Nam) : Value := .agg #[.int .i64 n.s, .int .i64 n.i, .int .i64 n.g]
abbrev bdV (b : Bd) : Value := .agg #[.int .i64 b.s, .int .i64 b.i, .int .i64 b.g, .int .i64 b.m, .int .i64 b.x, .int .i64 b.y, .int .i64 b.vx, .int .i64 b.vy, .int .i64 b.hp, .int .i64 b.pw, .int .i64 b.lf]
/-- what is new is laid behind -/
def Grown (w w' : World) : Prop := ∃ q os, w' = grow (w.drewN q) os
theorem Grown.keeps {w w' : World} (h : Grown w w') : Keeps No w w' := by
  obtain ⟨q, os, rfl⟩ := h
  exact ⟨rfl, rfl, rfl, by rw [size_grow]; exact Nat.le_add_right _ _, fun k hk _ => heap_grow_old _ os hk⟩
theorem Grown.same (w : World) : Grown w w := ⟨0, #[], by rw [grow_empty]; rfl⟩
theorem Grown.alloc {w w' : World} (h : Grown w w') (o : Obj) : Grown w (w'.alloc o) := by
  obtain ⟨q, os, rfl⟩ := h
  exact ⟨q, os ++ #[o], by rw [alloc_eq_grow, grow_grow]⟩
theorem grow_drewN (w : World) (os : Array Obj) (n : Nat) : (grow w os).drewN n = grow (w.drewN n) os := rfl
theorem Grown.drewN {w w' : World} (h : Grown w w') (n : Nat) : Grown w (w'.drewN n) := by
  obtain ⟨q, os, rfl⟩ := h
  exact ⟨q + n, os, by rw [grow_drewN, World.drewN_drewN]⟩
theorem Grown.drew {w w' : World} (h : Grown w w') : Grown w w'.drew := h.drewN 1
theorem Grown.trans {a b c : World} (h : Grown a b) (k : Grown b c) : Grown a c := by
  obtain ⟨q, os, rfl⟩ := h
  obtain ⟨p, os', rfl⟩ := k
  exact ⟨q + p, os ++ os', by rw [grow_drewN, World.drewN_drewN, grow_grow]⟩

end Go.Proofs.YtpbpgjfdledgoaaGreatDoor
