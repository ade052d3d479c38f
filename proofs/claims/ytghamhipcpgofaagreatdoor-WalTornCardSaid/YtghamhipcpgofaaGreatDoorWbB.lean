/-
  What stands between two numbers of segments, as plain data. No conditions of its own.
-/
import Derived.Test.YtghamhipcpgofaaGreatDoorWbA
namespace Go.Proofs.YtghamhipcpgofaaGreatDoor
open Go.RowKit

/-- the numbers of the segments, and of the record that comes next -/
def bnds (S : List Sg) (n : Nat) : List Nat := S.map Sg.first ++ [n]
structure SegAt (S : List Sg) (L : List Nm) (i : Nat) (s : Sg) : Prop where
  a : (bnds S L.length)[i]? = some s.first
  b : (bnds S L.length)[i + 1]? = some s.next
  le : s.next ≤ L.length
  recs : ∀ j, j < s.recs.length → L[s.first + j]? = s.recs[j]?
  split : ∃ X Y, S = X ++ s :: Y ∧ X.length = i ∧ s.first = (recsOf X).length
section
variable {nm : ByteArray} {A : List Sg} {z : Sg} {g : Lg} {d : Ds}
theorem seg_at (h : Good nm A z g d) {L : List Nm} (hr : recsOf (A ++ [z]) = L) (h0 : (A ++ [z]).head?.map Sg.first = some 0) (hx : z.next = L.length) (i : Nat) (hi : i < A.length + 1) : ∃ s, SegAt (A ++ [z]) L i s := by
  have hlen : (A ++ [z]).length = A.length + 1 := by simp
  obtain ⟨s, hs⟩ : ∃ s, (A ++ [z])[i]? = some s := ⟨_, List.getElem?_eq_getElem (by omega)⟩
  obtain ⟨hlt, he⟩ := List.getElem?_eq_some_iff.1 hs
  have hsp : A ++ [z] = (A ++ [z]).take i ++ s :: (A ++ [z]).drop (i + 1) := by
    rw [← he, ← List.drop_eq_getElem_cons hlt, List.take_append_drop]
  obtain ⟨X, hX⟩ : ∃ X, X = (A ++ [z]).take i := ⟨_, rfl⟩
  obtain ⟨Y, hY⟩ : ∃ Y, Y = (A ++ [z]).drop (i + 1) := ⟨_, rfl⟩
  have hXl : X.length = i := by rw [hX, List.length_take]; omega
  rw [← hX, ← hY] at hsp
  have hl := h.link
  rw [hsp] at hl h0
  have hf := first_recs X Y s hl h0
  have hL : L = recsOf X ++ (s.recs ++ recsOf Y) := by rw [← hr, hsp]; simp [recsOf]
  have hn : s.next ≤ L.length := by rw [hL]; simp [Sg.next]; omega
  refine ⟨s, ?_, ?_, hn, fun j hj => ?_, X, Y, hsp, hXl, hf⟩
  · unfold bnds
    rw [List.getElem?_append_left (by simp; omega), List.getElem?_map, hs]
    rfl
  · unfold bnds
    cases Y with
    | nil =>
      have hz : s = z := (snoc_inj (show A ++ [z] = X ++ [s] from hsp)).2.symm
      have hi2 : i = A.length := by
        have := congrArg List.length hsp
        simp at this
        omega
      rw [List.getElem?_append_right (by simp; omega), hz, hx, hi2]
      simp
    | cons t Y =>
      have hnx : s.next = t.first := (linked_tail hl).1
      rw [List.getElem?_append_left (by have := congrArg List.length hsp; simp at this ⊢; omega), List.getElem?_map, hsp, List.getElem?_append_right (by omega), hXl, hnx]
      simp
  · rw [hL, hf, List.getElem?_append_right (by omega), List.getElem?_append_left (by omega)]
    congr 1
    omega
theorem seg_here (h : Good nm A z g d) {L : List Nm} (hr : recsOf (A ++ [z]) = L) (h0 : (A ++ [z]).head?.map Sg.first = some 0) (hx : z.next = L.length) (i : Nat) (s : Sg) (hs : (A ++ [z])[i]? = some s) : SegAt (A ++ [z]) L i s := by
  have hi := (List.getElem?_eq_some_iff.1 hs).1
  obtain ⟨s', h'⟩ := seg_at h hr h0 hx i (by simpa using hi)
  obtain ⟨X, Y, hXY, hXl, _⟩ := h'.split
  have he : (A ++ [z])[i]? = some s' := by rw [hXY, List.getElem?_append_right (by omega), hXl]; simp
  rw [hs] at he
  obtain rfl := Option.some.inj he
  exact h'
theorem Good.long (h : Good nm A z g d) : ∀ s ∈ A ++ [z], flen s.recs ≤ 100000 := by
  intro s hs
  rcases List.mem_append.1 hs with hs | hs
  · exact (h.full s hs).2.1
  · rw [List.mem_singleton.1 hs]; exact h.zs
theorem take_short (h : Good nm A z g d) {s : Sg} (hs : s ∈ A ++ [z]) : flen (s.recs.take (s.recs.length - 1)) < 4096 := by
  cases hr : s.recs.reverse with
  | nil =>
    have : s.recs = [] := by simpa using hr
    rw [this]; decide
  | cons t R =>
    have hx : s.recs = R.reverse ++ [t] := by rw [← List.reverse_reverse s.recs, hr]; simp
    have := h.short s hs _ _ hx
    rw [hx]
    simpa using this
end
end Go.Proofs.YtghamhipcpgofaaGreatDoor
