/-
  Rows of structs of the call's own, beside the disk's texts. Plain lemmas. No conditions of its own.
-/
import Derived.Test.YtdckdndjddflfaaRowsOf
namespace Go.Proofs.Ytdckdndjddflfaa
open Go.RowKit

/-- A row of structs of the call's own. -/
abbrev OwnOf {α : Type} (C : Codec α) (e : TypeId) (w : World) (base : Nat) (v : Value) (l : List α) : Prop := w.ownsRow base e C.size v l.length (rowsOf C l)
theorem OwnOf.reads {α : Type} {C : Codec α} {e : TypeId} {w : World} {base : Nat} {v : Value} {l : List α} (h : OwnOf C e w base v l) : RdOf C w v l := Reads.ofOwn h (rowsOf_ones C l)
theorem litReads {α : Type} (C : Codec α) (w : World) (e : TypeId) (a : α) : Reads (w.alloc (.cells (C.cells a).toArray e)) C.size (.slice (some ⟨w.heap.size, 0, none⟩) 1 1) 1 (C.cells a) := by
  have h := World.ownsRow_lit (e := e) (size := C.size) w (C.cells a).toArray 1 (Nat.zero_le _) (by unfold maxLen; omega) (by simp [C.len])
  exact Reads.ofOwn h (C.one a)
theorem ownApp {α : Type} {C : Codec α} {e : TypeId} {w : World} {base : Nat} {v : Value} {l : List α} {a : α} (h : w.ownsRow base e C.size v (l.length + 1) (rowsOf C l ++ C.cells a)) : OwnOf C e w base v (l ++ [a]) := by
  unfold OwnOf
  rw [rowsOf_append, rowsOf_one, List.length_append]
  exact h
theorem rdNil {α : Type} (C : Codec α) (w : World) : RdOf C w (.slice none 0 0) ([] : List α) := Reads.nil w _
theorem rdOf_of {α : Type} (C : Codec α) {w : World} {a : Addr} {c : Nat} {l : List α} (hc : l.length ≤ c) (hm : c ≤ maxLen)
    (h : ∀ i, (hi : i < l.length) → ∀ j u, (C.cells l[i])[j]? = some u → w.cell? (a.add (i * C.size + j)) = some u) : RdOf C w (.slice (some a) l.length c) l := by
  refine ⟨rowsOf_length C l, rowsOf_ones C l, .inr ⟨a, c, rfl, hc, hm, fun j u hu => ?_⟩⟩
  have hj : j < (rowsOf C l).length := (List.getElem?_eq_some_iff.1 hu).1
  rw [rowsOf_length] at hj
  have hp := C.pos
  have hi : j / C.size < l.length := Nat.div_lt_of_lt_mul (by rw [Nat.mul_comm]; exact hj)
  have hr : j = j / C.size * C.size + j % C.size := by rw [Nat.mul_comm]; exact (Nat.div_add_mod _ _).symm
  have hm := Nat.mod_lt j hp
  rw [hr] at hu ⊢
  rw [rowsOf_at C l _ hi _ hm] at hu
  exact h _ hi _ u hu

theorem OwnOf.base {α : Type} {C : Codec α} {e : TypeId} {w : World} {b b' : Nat} {v : Value} {l : List α} (h : OwnOf C e w b' v l) (hb : b ≤ b') : OwnOf C e w b v l := by
  obtain ⟨h1, h2⟩ := h
  refine ⟨h1, ?_⟩
  rcases h2 with h2 | ⟨g, cap, cur, hv, hg, r⟩
  · exact .inl h2
  · exact .inr ⟨g, cap, cur, hv, Nat.le_trans hb hg, r⟩
theorem own_at {α : Type} {C : Codec α} {e : TypeId} {w : World} {base : Nat} {v : Value} {l : List α} (h : OwnOf C e w base v l) (hl : 0 < l.length) : ∃ g cap, v = .slice (some ⟨g, 0, none⟩) l.length cap ∧ l.length ≤ cap ∧ base ≤ g ∧ Open w g ∧ (rowD w g).size = cap * C.size := by
  rcases h.2 with ⟨_, h0⟩ | ⟨g, cap, cur, hv, hg, hh, hc, hm, hs, _⟩
  · omega
  · exact ⟨g, cap, hv, hc, hg, ⟨_, _, hh⟩, by unfold rowD; rw [hh]; exact hs⟩
/-- an element of a row of the call's own is another one -/
theorem own_splice {α : Type} {C : Codec α} {e : TypeId} {w : World} {base g cap : Nat} {l : List α} (h : OwnOf C e w base (.slice (some ⟨g, 0, none⟩) l.length cap) l) (k : Nat) (hk : k < l.length) (a : α) :
    OwnOf C e (w.setRow g (splice (rowD w g) (k * C.size) (C.cells a))) base (.slice (some ⟨g, 0, none⟩) l.length cap) (l.set k a) := by
  obtain ⟨h1, h2⟩ := h
  rcases h2 with ⟨h2, _⟩ | ⟨g', cap', cur, hv, hg, hh, hc, hm, hs, ht⟩
  · cases h2
  · simp only [Value.slice.injEq, Option.some.injEq, Addr.mk.injEq, and_true, true_and] at hv
    obtain ⟨rfl, rfl⟩ := hv
    have hr : rowD w g = cur := by unfold rowD; rw [hh]
    have hlc := C.len a
    have hkc : k * C.size + C.size ≤ l.length * C.size := by rw [← Nat.succ_mul]; exact Nat.mul_le_mul_right _ hk
    have hlcap : l.length * C.size ≤ cap * C.size := Nat.mul_le_mul_right _ hc
    have hcl : cur.toList.length = cap * C.size := by rw [Array.length_toList, hs]
    refine ⟨by rw [rowsOf_length], .inr ⟨g, cap, _, by rw [List.length_set], hg, setRow_heap w g cur _ e _ hh, by rw [List.length_set]; exact hc, hm, ?_, ?_⟩⟩
    · rw [hr]
      unfold splice
      simp only [List.size_toArray, List.length_append, List.length_take, List.length_drop, hcl, hlc]
      omega
    · rw [hr, List.length_set, rowsOf_set C l k hk a, ← ht]
      unfold splice
      have ho : k * C.size + C.size = (k + 1) * C.size := by rw [Nat.succ_mul]
      have h3 : (cur.toList.take (k * C.size) ++ C.cells a).length = (k + 1) * C.size := by rw [List.length_append, List.length_take, hcl, hlc]; omega
      rw [hlc, ho, List.take_append, h3, List.take_of_length_le (by rw [h3]; omega), List.take_take, Nat.min_eq_left (by omega), List.drop_take]

end Go.Proofs.Ytdckdndjddflfaa
