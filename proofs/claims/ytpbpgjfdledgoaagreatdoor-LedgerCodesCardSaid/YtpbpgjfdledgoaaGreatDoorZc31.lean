/-
  Rows of structs of the call's own, beside the disk's texts. Plain lemmas. No conditions of its own.
-/
import Derived.Test.YtpbpgjfdledgoaaGreatDoorZc07
namespace Go.Proofs.YtpbpgjfdledgoaaGreatDoor
open Go.RowKit

theorem litReads {α : Type} (C : Codec α) (w : World) (e : TypeId) (a : α) : Reads (w.alloc (.cells (C.cells a).toArray e)) C.size (.slice (some ⟨w.heap.size, 0, none⟩) 1 1) 1 (C.cells a) := by
  have h := World.ownsRow_lit (e := e) (size := C.size) w (C.cells a).toArray 1 (Nat.zero_le _) (by unfold maxLen; omega) (by simp [C.len])
  exact Reads.ofOwn h (C.one a)
theorem ownApp {α : Type} {C : Codec α} {e : TypeId} {w : World} {base : Nat} {v : Value} {l : List α} {a : α} (h : w.ownsRow base e C.size v (l.length + 1) (rowsOf C l ++ C.cells a)) : OwnOf C e w base v (l ++ [a]) := by
  unfold OwnOf
  rw [rowsOf_append, rowsOf_one, List.length_append]
  exact h
theorem rdOf_of {α : Type} (C : Codec α) {w : World} {a : Addr} {c : Nat} {l : List α} (hc : l.length ≤ c) (hm : c ≤ maxLen)
    (h : ∀ i, (hi : i < l.length) → ∀ j u, (C.cells l[i])[j]? = some u → w.cell? (a.add (i * C.size + j)) = some u) : RdOf C w (.slice (some a) l.length c) l := by
  refine ⟨rowsOf_length C l, rowsOf_ones C l, .inr ⟨a, c, rfl, hc, hm, fun j u hu => ?_⟩⟩
  have hj : j < (rowsOf C l).length := (List.getElem?_eq_some_iff.1 hu).1
  rw [rowsOf_length] at hj
  have hp := C.pos
  have hi : j / C.size < l.length := Nat.div_lt_of_lt_mul (by rw [Nat.mul_comm]; exact hj)
  have hr : j = j / C.size * C.size + j % C.size := by rw [Nat.mul_comm]; exact (Nat.div_add_mod _ _).symm
  have hm := Nat.mod_lt j hp
  rw [hr] at hu ⊢
  rw [rowsOf_at C l _ hi _ hm] at hu
  exact h _ hi _ u hu

theorem OwnOf.base {α : Type} {C : Codec α} {e : TypeId} {w : World} {b b' : Nat} {v : Value} {l : List α} (h : OwnOf C e w b' v l) (hb : b ≤ b') : OwnOf C e w b v l := by
  obtain ⟨h1, h2⟩ := h
  refine ⟨h1, ?_⟩
  rcases h2 with h2 | ⟨g, cap, cur, hv, hg, r⟩
  · exact .inl h2
  · exact .inr ⟨g, cap, cur, hv, Nat.le_trans hb hg, r⟩
end Go.Proofs.YtpbpgjfdledgoaaGreatDoor
