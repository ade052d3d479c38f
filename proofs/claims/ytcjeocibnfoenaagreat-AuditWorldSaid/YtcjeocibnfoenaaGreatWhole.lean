/-
  A struct's box, stored into as a whole: plain laws for the walk, over any program. No conditions of its own.
-/
import Derived.Test.YtcjeocibnfoenaaGreatBase
import Derived.Test.YtcjeocibnfoenaaGreatProg
namespace Go.Proofs.YtcjeocibnfoenaaGreat
open Go.RowKit

/-- Block b is a row of cells, none of them frozen. -/
def Open (w : World) (b : Nat) : Prop := ∃ (C : Array Value) (t : TypeId), w.heap[b]? = some (.cells C t (0, 0))
/-- The cells of block b. -/
def rowD (w : World) (b : Nat) : Array Value := match w.heap[b]? with | some (.cells C _ _) => C | _ => #[]
/-- Cells, from a place on others. -/
def splice (C : Array Value) (o : Nat) (l : List Value) : Array Value := (C.toList.take o ++ l ++ C.toList.drop (o + l.length)).toArray
/-- More than one cell, stored one behind the other. -/
def storeWhole (a : Addr) (l : List Value) : Sem Unit := storeCells a l 0
theorem storeCells_whole (a : Addr) (x y : Value) (l : List Value) : storeCells a (x :: y :: l) 0 = storeWhole a (x :: y :: l) := rfl

theorem run_storeWhole {P : Program} (w : World) (b o : Nat) (l : List Value) (hf : Open w b) (hN : o + l.length ≤ (rowD w b).size) (h1 : l.all (·.oneCell') = true) :
    (storeWhole ⟨b, o, none⟩ l).run P w = .ok () (w.setRow b (splice (rowD w b) o l)) := by
  obtain ⟨C0, t, h0⟩ := hf
  have hD : rowD w b = C0 := by simp [rowD, h0]
  rw [hD] at hN ⊢
  exact run_storeCells_at (P := P) b o t l 0 C0 w h0 (by omega) (fun v hv => (List.all_eq_true.1 h1) v hv)
/-- the same, where the walk has not shown the conditions -/
def storeElse (P : Program) (a : Addr) (l : List Value) (w : World) : Result Unit := (storeWhole a l).run P w
open Classical in
theorem run_storeWhole_if {P : Program} (w : World) (b o : Nat) (l : List Value) :
    (storeWhole ⟨b, o, none⟩ l).run P w = if Open w b ∧ o + l.length ≤ (rowD w b).size ∧ l.all (·.oneCell') = true then .ok () (w.setRow b (splice (rowD w b) o l)) else storeElse P ⟨b, o, none⟩ l w := by
  by_cases h : Open w b ∧ o + l.length ≤ (rowD w b).size ∧ l.all (·.oneCell') = true
  · rw [if_pos h, run_storeWhole w b o l h.1 h.2.1 h.2.2]
  · rw [if_neg h]
    rfl
theorem splice_all (C : Array Value) (l : List Value) (h : C.size = l.length) : splice C 0 l = l.toArray := by
  apply Array.ext'
  simp [splice, ← h]

theorem setRow_alloc_at (w : World) (c C : Array Value) (t : TypeId) (n : Nat) (hn : n = w.heap.size) : (w.alloc (.cells c t)).setRow n C = w.alloc (.cells C t) := by
  subst hn
  unfold World.setRow World.alloc
  congr 1
  apply Array.ext_getElem?
  intro k
  simp only [Array.getElem?_modify, Array.getElem?_push]
  by_cases hk : k = w.heap.size
  · subst hk
    simp
  · simp [hk, Ne.symm hk]
theorem setRow_alloc_past (w : World) (o : Obj) (C : Array Value) (n : Nat) (hn : n < w.heap.size) : (w.alloc o).setRow n C = (w.setRow n C).alloc o := by
  unfold World.setRow World.alloc
  congr 1
  apply Array.ext_getElem?
  intro k
  simp only [Array.getElem?_modify, Array.getElem?_push, Array.size_modify]
  by_cases hk : k = w.heap.size
  · subst hk
    simp [Nat.ne_of_lt hn]
  · simp [hk]
theorem setRow_drew (w : World) (b : Nat) (C : Array Value) : w.drew.setRow b C = (w.setRow b C).drew := rfl
theorem open_alloc_at (w : World) (c : Array Value) (t : TypeId) (n : Nat) (hn : n = w.heap.size) : Open (w.alloc (.cells c t)) n := by
  subst hn
  unfold Open World.alloc
  simp
theorem open_alloc_past (w : World) (o : Obj) (n : Nat) (hn : n < w.heap.size) : Open (w.alloc o) n ↔ Open w n := by
  unfold Open World.alloc
  rw [Array.getElem?_push]
  simp [Nat.ne_of_lt hn]
theorem open_drew (w : World) (n : Nat) : Open w.drew n ↔ Open w n := Iff.rfl
theorem open_drewN (w : World) (m n : Nat) : Open (w.drewN m) n ↔ Open w n := Iff.rfl
theorem open_modify (w : World) (b n : Nat) (f : Array Value → Array Value) : Open { w with heap := w.heap.modify b fun | .cells c e fr => .cells (f c) e fr | o => o } n ↔ Open w n := by
  unfold Open
  simp only [Array.getElem?_modify]
  by_cases hb : b = n
  · subst hb
    simp only [if_true]
    cases h : w.heap[b]? with
    | none => simp
    | some o =>
      cases o with
      | cells c t fr => simp
      | _ => simp
  · simp [hb]
theorem open_setCell (w : World) (b i : Nat) (v : Value) (n : Nat) : Open (w.setCell ⟨b, i, none⟩ v) n ↔ Open w n :=
  open_modify w b n (fun c => c.setIfInBounds i v)
theorem open_setRow (w : World) (b n : Nat) (C : Array Value) : Open (w.setRow b C) n ↔ Open w n :=
  open_modify w b n (fun _ => C)
theorem cell_setRow_at (w : World) (b i : Nat) (C : Array Value) (hf : Open w b) : (w.setRow b C).cell? ⟨b, i, none⟩ = C[i]? := by
  obtain ⟨C0, t, h0⟩ := hf
  exact cell_setRow_same w b i C0 C t (0, 0) h0
theorem cell_setRow_far (w : World) (b n i : Nat) (C : Array Value) (h : n ≠ b) : (w.setRow b C).cell? ⟨n, i, none⟩ = w.cell? ⟨n, i, none⟩ :=
  cell_setRow_other w b C ⟨n, i, none⟩ h
theorem frozen_setRow (w : World) (b : Nat) (C : Array Value) (a : Addr) : (w.setRow b C).frozen? a = w.frozen? a := by
  unfold World.frozen? World.setRow
  simp only [Array.getElem?_modify]
  by_cases hb : b = a.block
  · subst hb
    simp only [if_true]
    cases h : w.heap[a.block]? with
    | none => simp
    | some o =>
      cases o with
      | cells c t fr => simp
      | _ => simp
  · simp [hb]
theorem rowD_alloc_at (w : World) (c : Array Value) (t : TypeId) (n : Nat) (hn : n = w.heap.size) : rowD (w.alloc (.cells c t)) n = c := by
  subst hn
  unfold rowD World.alloc
  simp
theorem rowD_alloc_past (w : World) (o : Obj) (n : Nat) (hn : n < w.heap.size) : rowD (w.alloc o) n = rowD w n := by
  unfold rowD World.alloc
  rw [Array.getElem?_push]
  simp [Nat.ne_of_lt hn]
theorem rowD_drew (w : World) (n : Nat) : rowD w.drew n = rowD w n := rfl
theorem rowD_setRow_at (w : World) (b : Nat) (C : Array Value) (hf : Open w b) : rowD (w.setRow b C) b = C := by
  obtain ⟨C0, t, h0⟩ := hf
  unfold rowD
  rw [setRow_heap w b C0 C t (0, 0) h0]
theorem rowD_setRow_far (w : World) (b n : Nat) (C : Array Value) (h : n ≠ b) : rowD (w.setRow b C) n = rowD w n := by
  unfold rowD
  rw [setRow_other w b n C h]
theorem rowD_setCell_far (w : World) (b i n : Nat) (v : Value) (h : n ≠ b) : rowD (w.setCell ⟨b, i, none⟩ v) n = rowD w n := by
  unfold rowD World.setCell
  simp only [Array.getElem?_modify]
  rw [if_neg (fun e => h e.symm)]
theorem rowD_setCell_at (w : World) (b i : Nat) (v : Value) : rowD (w.setCell ⟨b, i, none⟩ v) b = (rowD w b).setIfInBounds i v := by
  unfold rowD World.setCell
  simp only [Array.getElem?_modify, if_true]
  cases h : w.heap[b]? with
  | none => simp
  | some o =>
    cases o with
    | cells c t fr => simp
    | _ => simp
/-- n cells of block b, from o on -/
def cellsAt (w : World) (b o n : Nat) : Option (List Value) := match w.heap[b]? with
  | some (.cells C _ _) => if o + n ≤ C.size then some ((C.toList.drop o).take n) else none
  | _ => none
/-- More than one cell, read one behind the other. -/
def loadWhole (a : Addr) (n : Nat) : Sem (Array Value) := loadCellsFrom a 0 n #[]
theorem loadCells_whole (a : Addr) (n : Nat) : loadCellsFrom a 0 n #[] = loadWhole a n := rfl
def loadElse (P : Program) (a : Addr) (n : Nat) (w : World) : Result (Array Value) := (loadWhole a n).run P w
theorem cellsAt_cell {w : World} {b o n : Nat} {l : List Value} (h : cellsAt w b o n = some l) (j : Nat) (v : Value) (hj : l[j]? = some v) : w.cell? ⟨b, o + j, none⟩ = some v := by
  unfold cellsAt at h
  split at h
  · rename_i C t fr hh
    split at h
    · cases h
      simp only [World.cell?, hh]
      rw [List.getElem?_take] at hj
      split at hj
      · simpa using hj
      · cases hj
    · cases h
  · cases h
theorem cellsAt_length {w : World} {b o n : Nat} {l : List Value} (h : cellsAt w b o n = some l) : l.length = n := by
  unfold cellsAt at h
  split at h
  · split at h
    · rename_i C _ _ hh hs
      cases h
      rw [List.length_take, List.length_drop, Array.length_toList]
      omega
    · cases h
  · cases h
/-- out of its cells -/
theorem cellsAt_of {w : World} {b o : Nat} {l : List Value} (h : ∀ (j : Nat) (v : Value), l[j]? = some v → w.cell? ⟨b, o + j, none⟩ = some v) (hl : 0 < l.length) : cellsAt w b o l.length = some l := by
  have h0 := h 0 l[0] (by simp [hl])
  unfold cellsAt
  simp only [World.cell?] at h0
  split at h0
  · rename_i C t fr hh
    have hsz : o + l.length ≤ C.size := by
      have := h (l.length - 1) l[l.length - 1] (by simp)
      simp only [World.cell?, hh] at this
      have := (Array.getElem?_eq_some_iff.1 (by simpa using this)).1
      omega
    rw [hh]
    simp only [hsz, if_true, Option.some.injEq]
    apply List.ext_getElem?
    intro j
    rw [List.getElem?_take]
    by_cases hj : j < l.length
    · rw [if_pos hj, List.getElem?_drop]
      have := h j l[j] (by simp [hj])
      simp only [World.cell?, hh] at this
      rw [List.getElem?_eq_getElem hj]
      simpa using this
    · rw [if_neg hj]
      simp
      omega
  · cases h0
theorem run_loadWhole {P : Program} (w : World) (b o n : Nat) : (loadWhole ⟨b, o, none⟩ n).run P w = match cellsAt w b o n with | some l => .ok l.toArray w | none => loadElse P ⟨b, o, none⟩ n w := by
  split
  · rename_i l h
    have hl := cellsAt_length h
    have := run_loadCells_list (P := P) w ⟨b, o, none⟩ l (fun j v hv => by
      rw [Addr.add_lit]
      exact cellsAt_cell h j v hv)
    rw [hl] at this
    exact this
  · rfl
theorem cellsAt_alloc_at (w : World) (c : Array Value) (t : TypeId) (b o n : Nat) (hn : b = w.heap.size) : cellsAt (w.alloc (.cells c t)) b o n = if o + n ≤ c.size then some ((c.toList.drop o).take n) else none := by
  subst hn
  unfold cellsAt World.alloc
  simp
theorem cellsAt_alloc_past (w : World) (ob : Obj) (b o n : Nat) (hn : b < w.heap.size) : cellsAt (w.alloc ob) b o n = cellsAt w b o n := by
  unfold cellsAt World.alloc
  rw [Array.getElem?_push]
  simp [Nat.ne_of_lt hn]
theorem cellsAt_drew (w : World) (b o n : Nat) : cellsAt w.drew b o n = cellsAt w b o n := rfl
theorem cellsAt_drewN (w : World) (m b o n : Nat) : cellsAt (w.drewN m) b o n = cellsAt w b o n := rfl
theorem cellsAt_setRow_far (w : World) (b k o n : Nat) (C : Array Value) (h : k ≠ b) : cellsAt (w.setRow b C) k o n = cellsAt w k o n := by
  unfold cellsAt
  rw [setRow_other w b k C h]
theorem cellsAt_setRow_at (w : World) (b o n : Nat) (C : Array Value) (hf : Open w b) : cellsAt (w.setRow b C) b o n = if o + n ≤ C.size then some ((C.toList.drop o).take n) else none := by
  obtain ⟨C0, t, h0⟩ := hf
  unfold cellsAt
  rw [setRow_heap w b C0 C t (0, 0) h0]
theorem cellsAt_setCell_far (w : World) (b i k o n : Nat) (v : Value) (h : k ≠ b) : cellsAt (w.setCell ⟨b, i, none⟩ v) k o n = cellsAt w k o n := by
  unfold cellsAt World.setCell
  simp only [Array.getElem?_modify]
  rw [if_neg (fun e => h e.symm)]
theorem cellsAt_setCell_at (w : World) (b i o n : Nat) (v : Value) : cellsAt (w.setCell ⟨b, i, none⟩ v) b o n = (cellsAt w b o n).map fun l => if o ≤ i then l.set (i - o) v else l := by
  unfold cellsAt World.setCell
  simp only [Array.getElem?_modify, if_true]
  cases h : w.heap[b]? with
  | none => simp
  | some ob =>
    cases ob with
    | cells c t fr =>
      simp only [Option.map_some, Option.isSome_none, Bool.false_eq_true, if_false, Array.size_setIfInBounds]
      split
      · rw [Option.map_some]
        congr 1
        rw [Array.toList_setIfInBounds]
        by_cases ho : o ≤ i
        · rw [if_pos ho, List.drop_set, if_neg (by omega), List.take_set]
        · rw [if_neg ho, List.drop_set_of_lt (by omega)]
      · rfl
    | _ => simp
/-- an old block is an old block, however many new ones are laid -/
theorem lt8 {g n : Nat} (h : g < n) : g < n + 1 ∧ g < n + 1 + 1 ∧ g < n + 1 + 1 + 1 ∧ g < n + 1 + 1 + 1 + 1 ∧ g < n + 1 + 1 + 1 + 1 + 1 ∧ g < n + 1 + 1 + 1 + 1 + 1 + 1 ∧ g < n + 1 + 1 + 1 + 1 + 1 + 1 + 1 ∧ g < n + 1 + 1 + 1 + 1 + 1 + 1 + 1 + 1 := by omega
theorem cells_row {w : World} {b k o n : Nat} {C : Array Value} {l : List Value} (h : cellsAt w k o n = some l) (hk : k ≠ b) : cellsAt (w.setRow b C) k o n = some l := (cellsAt_setRow_far w b k o n C hk).trans h
theorem cell_row {w : World} {b k i : Nat} {C : Array Value} {v : Value} (h : w.cell? ⟨k, i, none⟩ = some v) (hk : k ≠ b) : (w.setRow b C).cell? ⟨k, i, none⟩ = some v := (cell_setRow_far w b k i C hk).trans h
/-- the world at hand, under a name -/
theorem wp_world {P : Program} {c : Code} {Q : Exit → Act → World → Prop} {a : Act} {w : World} (h : ∀ W, W = w → c.wp P Q a W) : c.wp P Q a w := h w rfl
theorem Keeps.cellsAt {a w : World} (h : Keeps No a w) {b o n : Nat} {l : List Value} (hc : cellsAt a b o n = some l) : cellsAt w b o n = some l := by
  have hb : b < a.heap.size := by
    unfold Proofs.YtcjeocibnfoenaaGreat.cellsAt at hc
    split at hc
    · rename_i hh
      exact (Array.getElem?_eq_some_iff.1 hh).1
    · cases hc
  unfold Proofs.YtcjeocibnfoenaaGreat.cellsAt at hc ⊢
  rw [h.block b hb (fun h => h)]
  exact hc
theorem Keeps.opened {a w : World} (h : Keeps No a w) {b : Nat} (ho : Open a b) : Open w b := by
  obtain ⟨C, t, hc⟩ := ho
  exact ⟨C, t, h.heap hc (fun h => h)⟩
theorem Open.frozen {w : World} {b : Nat} (h : Open w b) (i : Nat) : w.frozen? ⟨b, i, none⟩ = false := by
  obtain ⟨C, t, hc⟩ := h
  exact frozen_of_row w b i _ _ hc
theorem Keeps.rowSize {a w : World} (h : Keeps No a w) {b n : Nat} (ho : Open a b) (hn : (rowD a b).size = n) : (rowD w b).size = n := by
  obtain ⟨C, t, hc⟩ := ho
  have hw := h.heap hc (fun h => h)
  unfold rowD at hn ⊢
  rw [hc] at hn
  rw [hw]
  exact hn
theorem Keeps.row {a w : World} (h : Keeps No a w) {b : Nat} (hb : a.heap.size ≤ b) (C : Array Value) : Keeps No a (w.setRow b C) :=
  h.setRow (S := No) (fun hlt => absurd hlt (Nat.not_lt.2 hb)) C
theorem one_int (k : IntKind) (n : Int) : Value.oneCell' (.int k n) = true := rfl
theorem one_bool (b : Bool) : Value.oneCell' (.bool b) = true := rfl
theorem one_string (s : ByteArray) : Value.oneCell' (.string s) = true := rfl
theorem one_slice (a : Option Addr) (n c : Nat) : Value.oneCell' (.slice a n c) = true := rfl
theorem one_pointer (a : Option Addr) : Value.oneCell' (.pointer a) = true := rfl

theorem splice_lit (L : List Value) (o : Nat) (l : List Value) : splice L.toArray o l = (L.take o ++ l ++ L.drop (o + l.length)).toArray := rfl

attribute [go_sem 2000] splice_all storeCells_whole loadCells_whole List.getElem?_toArray List.getElem?_cons_succ List.getElem?_cons_zero
attribute [go_sem] run_loadWhole cellsAt_alloc_at cellsAt_alloc_past cellsAt_drew cellsAt_drewN cellsAt_setRow_far cellsAt_setRow_at cellsAt_setCell_far cellsAt_setCell_at run_storeWhole_if splice_lit setRow_alloc_at setRow_alloc_past setRow_drew open_alloc_at open_alloc_past open_drew open_drewN open_setCell open_setRow cell_setRow_at cell_setRow_far frozen_setRow rowD_alloc_at rowD_alloc_past rowD_drew rowD_setRow_at rowD_setRow_far rowD_setCell_at rowD_setCell_far one_int one_bool one_string one_slice one_pointer

end Go.Proofs.YtcjeocibnfoenaaGreat
