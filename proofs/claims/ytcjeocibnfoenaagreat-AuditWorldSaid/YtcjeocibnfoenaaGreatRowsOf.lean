/-
  Rows of structs, whatever the struct: how a slice of them reads. Plain lemmas, over any program. No conditions of its own.
-/
import Derived.Test.YtcjeocibnfoenaaGreatWhole
namespace Go.Proofs.YtcjeocibnfoenaaGreat
open Go.RowKit

/-- How a struct lies in memory: its cells, one behind the other. -/
structure Codec (α : Type) where
  cells : α → List Value
  size : Nat
  len : ∀ a, (cells a).length = size
  one : ∀ a, ∀ u ∈ cells a, u.oneCell' = true
  pos : 0 < size

section
variable {α : Type} (C : Codec α)
def rowsOf (l : List α) : List Value := l.flatMap C.cells
theorem rowsOf_nil : rowsOf C [] = [] := rfl
theorem rowsOf_cons (a : α) (l : List α) : rowsOf C (a :: l) = C.cells a ++ rowsOf C l := by simp [rowsOf]
theorem rowsOf_append (a b : List α) : rowsOf C (a ++ b) = rowsOf C a ++ rowsOf C b := by simp [rowsOf]
theorem rowsOf_one (a : α) : rowsOf C [a] = C.cells a := by simp [rowsOf]
theorem rowsOf_length (l : List α) : (rowsOf C l).length = l.length * C.size := by
  induction l with
  | nil => simp [rowsOf]
  | cons a l ih => rw [rowsOf_cons, List.length_append, ih, C.len, List.length_cons, Nat.succ_mul]; omega
theorem rowsOf_ones (l : List α) : ∀ u ∈ rowsOf C l, u.oneCell' = true := by
  intro u hu
  simp only [rowsOf, List.mem_flatMap] at hu
  obtain ⟨a, _, ha⟩ := hu
  exact C.one a u ha
theorem rowsOf_take (l : List α) (k : Nat) : (rowsOf C l).take (k * C.size) = rowsOf C (l.take k) := by
  by_cases hk : k ≤ l.length
  · have e : rowsOf C l = rowsOf C (l.take k) ++ rowsOf C (l.drop k) := by rw [← rowsOf_append, List.take_append_drop]
    rw [e, List.take_left' (by rw [rowsOf_length, List.length_take, Nat.min_eq_left hk])]
  · have : l.length * C.size ≤ k * C.size := Nat.mul_le_mul_right _ (by omega)
    rw [List.take_of_length_le (by rw [rowsOf_length]; omega), List.take_of_length_le (by omega)]
theorem rowsOf_drop (l : List α) (k : Nat) : (rowsOf C l).drop (k * C.size) = rowsOf C (l.drop k) := by
  by_cases hk : k ≤ l.length
  · have e : rowsOf C l = rowsOf C (l.take k) ++ rowsOf C (l.drop k) := by rw [← rowsOf_append, List.take_append_drop]
    rw [e, List.drop_left' (by rw [rowsOf_length, List.length_take, Nat.min_eq_left hk])]
  · have : l.length * C.size ≤ k * C.size := Nat.mul_le_mul_right _ (by omega)
    rw [List.drop_of_length_le (by rw [rowsOf_length]; omega), List.drop_of_length_le (by omega)]; rfl
theorem rowsOf_at (l : List α) (i : Nat) (h : i < l.length) (j : Nat) (hj : j < C.size) : (rowsOf C l)[i * C.size + j]? = (C.cells l[i])[j]? := by
  rw [← List.getElem?_drop, rowsOf_drop, List.drop_eq_getElem_cons h, rowsOf_cons, List.getElem?_append_left (by rw [C.len]; exact hj)]
theorem rowsOf_set (l : List α) (i : Nat) (h : i < l.length) (a : α) : rowsOf C (l.set i a) = (rowsOf C l).take (i * C.size) ++ C.cells a ++ (rowsOf C l).drop ((i + 1) * C.size) := by
  rw [rowsOf_take, rowsOf_drop, List.set_eq_take_append_cons_drop, if_pos h, rowsOf_append, rowsOf_cons, List.append_assoc]

/-- A slice's value that reads so. -/
abbrev RdOf (w : World) (v : Value) (l : List α) : Prop := Reads w C.size v l.length (rowsOf C l)
/-- the cells of the element at i -/
theorem RdOf.at {w : World} {b off n c : Nat} {l : List α} (h : Reads w C.size (.slice (some ⟨b, off, none⟩) n c) n (rowsOf C l)) (i : Nat) (hi : i < l.length) : cellsAt w b (off + i * C.size) C.size = some (C.cells l[i]) := by
  have hlt : i * C.size + C.size ≤ l.length * C.size := by rw [← Nat.succ_mul]; exact Nat.mul_le_mul_right _ hi
  have hp := C.pos
  obtain ⟨b', off', c', he, _, _, _, hx⟩ := h.addr (by rw [rowsOf_length]; omega)
  simp only [Value.slice.injEq, Option.some.injEq, Addr.mk.injEq, and_true, true_and] at he
  obtain ⟨⟨rfl, rfl⟩, rfl⟩ := he
  have hl := C.len l[i]
  rw [← hl]
  refine cellsAt_of (fun j v hv => ?_) (by rw [hl]; exact hp)
  have hj : j < C.size := by rw [← hl]; exact (List.getElem?_eq_some_iff.1 hv).1
  rw [hl, Nat.add_assoc]
  exact hx _ _ (by rw [rowsOf_at C l i hi j hj]; exact hv)
/-- where there is an element, the address is known -/
theorem RdOf.addr {w : World} {a : Option Addr} {c : Nat} {l : List α} (h : RdOf C w (.slice a l.length c) l) (hl : 0 < l.length) : ∃ b off, a = some ⟨b, off, none⟩ ∧ l.length ≤ c ∧ c ≤ maxLen ∧ b < w.heap.size := by
  have : 0 < l.length * C.size := Nat.mul_pos hl C.pos
  obtain ⟨b, off, c', he, h1, h2, h3, _⟩ := Reads.addr h (by rw [rowsOf_length]; exact this)
  simp only [Value.slice.injEq, true_and] at he
  obtain ⟨rfl, rfl⟩ := he
  exact ⟨b, off, rfl, h1, h2, h3⟩
theorem RdOf.len {w : World} {v : Value} {l : List α} (h : RdOf C w v l) : l.length ≤ maxLen := by
  rcases h.shape with ⟨_, h0⟩ | ⟨_, c', he, h1, h2, _⟩
  · simp [h0]
  · omega
end

/-- the first place of which pr is true; -1: there is none -/
def firstOf {α : Type} (pr : α → Bool) (l : List α) : Int := match l.findIdx? pr with | some k => k | none => -1
theorem firstOf_at {α : Type} (pr : α → Bool) (l : List α) (k : Nat) (hk : k < l.length) (hno : ∀ j, (h : j < k) → (h2 : j < l.length) → pr l[j] = false) (hp : pr l[k] = true) : firstOf pr l = k := by
  have : l.findIdx? pr = some k := by
    rw [List.findIdx?_eq_some_iff_getElem]
    exact ⟨hk, hp, fun j hj => by simpa using hno j hj (by omega)⟩
  simp [firstOf, this]
theorem firstOf_none {α : Type} (pr : α → Bool) (l : List α) (hno : ∀ j, (h2 : j < l.length) → pr l[j] = false) : firstOf pr l = -1 := by
  have : l.findIdx? pr = none := by
    rw [List.findIdx?_eq_none_iff]
    intro x hx
    obtain ⟨j, hj, rfl⟩ := List.getElem_of_mem hx
    exact hno j hj
  simp [firstOf, this]
/-- either none, or a place -/
theorem firstOf_cases {α : Type} (pr : α → Bool) (l : List α) : (firstOf pr l = -1 ∧ ∀ a ∈ l, pr a = false) ∨ ∃ k : Nat, firstOf pr l = k ∧ ∃ hk : k < l.length, pr l[k] = true ∧ ∀ j, (h : j < k) → (h2 : j < l.length) → pr l[j] = false := by
  cases hf : l.findIdx? pr with
  | none =>
    refine .inl ⟨by simp [firstOf, hf], ?_⟩
    rw [List.findIdx?_eq_none_iff] at hf
    exact hf
  | some k =>
    have h2 := hf
    rw [List.findIdx?_eq_some_iff_getElem] at hf
    obtain ⟨hk, hp, hno⟩ := hf
    exact .inr ⟨k, by simp [firstOf, h2], hk, hp, fun j hj _ => by simpa using hno j hj⟩

/-- A function value that answers pr of each struct, and turns nothing that was there, whatever becomes of S. -/
structure AnswersOf {α : Type} (C : Codec α) (P : Program) (S : Nat → Prop) (w0 : World) (fid : Nat) (first captured : Array Value) (pr : α → Bool) : Prop where
  call : ∀ args w, Sem.run P (callFunc fid args) w = .ok (.enter fid args) w
  ans : ∀ w p, Keeps S w0 w → Calls P fid (first.push (.agg (C.cells p).toArray) ++ captured) w fun e w' => e = .returned (.bool (pr p)) ∧ Keeps No w w'

end Go.Proofs.YtcjeocibnfoenaaGreat
