/-
  Rows of the call's own, sorted. No conditions of its own.
-/
import Derived.Test.YtndjnkjcfdaegaaGreatDoorZh38
import Derived.Test.YtndjnkjcfdaegaaGreatDoorZh39
set_option linter.all false
namespace Go.Proofs.YtndjnkjcfdaegaaGreatDoor
open Go.RowKit Go.Joins Go.Deep Go.Sort Go.Shelf

/-! ### a row of the call's own, as the sort's row kit sees it -/
section
variable {α : Type} [Inhabited α] (C : Codec α)
theorem flat_at (d : Array α) (t : Nat) (ht : t < d.size * C.size) : (rowsOf C d.toList)[t]? = some (flatK C.cells C.size d)[t]! := by
  have hp := C.pos
  have h1 : t / C.size < d.toList.length := by
    rw [Array.length_toList]
    exact (Nat.div_lt_iff_lt_mul hp).2 ht
  have h2 : t % C.size < C.size := Nat.mod_lt _ hp
  have h3 : t = t / C.size * C.size + t % C.size := by rw [Nat.mul_comm]; exact (Nat.div_add_mod t C.size).symm
  have h4 := rowsOf_at C d.toList (t / C.size) h1 (t % C.size) h2
  rw [← h3] at h4
  rw [h4, get_flatK _ _ _ _ ht]
  have h5 : d[t / C.size]! = d.toList[t / C.size] := by
    rw [getElem!_pos d _ (by simpa using h1)]
    simp
  rw [h5, getElem!_pos _ _ (by rw [C.len]; exact h2)]
  exact List.getElem?_eq_getElem _
theorem own_holds {e : TypeId} {w : World} {base g cap : Nat} {l : List α} (h : w.ownsRow base e C.size (.slice (some ⟨g, 0, none⟩) l.length cap) l.length (rowsOf C l)) : HoldsK C.cells C.size w g 0 l.toArray := by
  intro j hj
  have hj' : j < l.toArray.size * C.size := by simpa using hj
  have hf := flat_at C l.toArray j hj'
  have hc := h.cells (g := g) rfl j _ (by simpa using hf)
  rw [Addr.add_lit] at hc
  refine ⟨hc, ?_⟩
  rcases h.2 with ⟨h', _⟩ | ⟨g', cap', cur, h', _, hh, _⟩
  · simp at h'
  · simp only [Value.slice.injEq, Option.some.injEq, Addr.mk.injEq, and_true, true_and] at h'
    obtain ⟨rfl, rfl⟩ := h'
    exact frozen_of_row w g _ _ _ hh
theorem own_sorted {e : TypeId} {w : World} {base g cap : Nat} {l : List α} (h : w.ownsRow base e C.size (.slice (some ⟨g, 0, none⟩) l.length cap) l.length (rowsOf C l)) (d : Array α) (hd : d.size = l.length) (n : Nat) (os : Array Obj) :
    (sortWorldK C.cells C.size w g 0 n d os).ownsRow base e C.size (.slice (some ⟨g, 0, none⟩) d.toList.length cap) d.toList.length (rowsOf C d.toList) ∧ Keeps (Own g) w (sortWorldK C.cells C.size w g 0 n d os) := by
  have hdl : d.toList.length = l.length := by rw [Array.length_toList, hd]
  rcases h.2 with ⟨h', _⟩ | ⟨g', cap', cur, h', hb, hh, hnc, hcm, hcs, htake⟩
  · simp at h'
  simp only [Value.slice.injEq, Option.some.injEq, Addr.mk.injEq, and_true, true_and] at h'
  obtain ⟨rfl, rfl⟩ := h'
  have hlt := (Array.getElem?_eq_some_iff.1 hh).1
  have hheap : (sortWorldK C.cells C.size w g 0 n d os).heap[g]? = some (.cells (putCells id 0 (flatK C.cells C.size d) cur) e (0, 0)) := by
    unfold sortWorldK
    rw [heap_grow_old _ _ (by unfold putRowK; rw [size_putRow]; exact hlt)]
    unfold putRowK putRow mapBlock
    show (Array.modify w.heap g _)[g]? = _
    rw [Array.getElem?_modify, if_pos rfl, hh]
    rfl
  refine ⟨⟨rowsOf_length C _, .inr ⟨g, cap, _, rfl, hb, hheap, by rw [hdl]; exact hnc, hcm, by unfold putCells; rw [Array.size_mapIdx]; exact hcs, ?_⟩⟩, ?_⟩
  · apply List.ext_getElem?
    intro t
    rw [List.getElem?_take]
    by_cases ht : t < d.toList.length * C.size
    · rw [if_pos ht]
      have ht' : t < d.size * C.size := by rw [← Array.length_toList]; exact ht
      rw [flat_at C d t ht']
      have hct : t < cur.size := by
        have : l.length * C.size ≤ cap * C.size := Nat.mul_le_mul_right _ hnc
        rw [hdl] at ht
        omega
      rw [Array.getElem?_toList]
      unfold putCells
      rw [Array.getElem?_mapIdx, Array.getElem?_eq_getElem hct, Option.map_some, if_pos ⟨Nat.zero_le _, by rw [size_flatK]; omega⟩]
      try rfl
    · rw [if_neg ht, List.getElem?_eq_none (by rw [rowsOf_length]; omega)]
  · refine ⟨rfl, rfl, rfl, ?_, fun k hk hn => ?_⟩
    · unfold sortWorldK putRowK
      rw [size_grow, size_putRow]
      exact Nat.le_add_right _ _
    · unfold sortWorldK putRowK
      rw [heap_grow_old _ _ (by rw [size_putRow]; exact hk)]
      unfold putRow mapBlock
      show (Array.modify w.heap g _)[k]? = _
      rw [Array.getElem?_modify, if_neg (fun e => hn e.symm)]
      try rfl
end
instance : Inhabited Nam := ⟨⟨0, 0, 0⟩⟩
end Go.Proofs.YtndjnkjcfdaegaaGreatDoor
