/-
  Texts in one: Whole, DkA, WaA, LeA, RowsOf, TiA, DkP, DkB, DkC, DkD. No conditions of their own.
-/
import Derived.Test.YtndjnkjcfdaegaaGreatDoorZh01
import Derived.Test.YtndjnkjcfdaegaaGreatDoorProg
set_option linter.all false

/-
  A struct's box, stored into as a whole: plain laws for the walk, over any program. No conditions of its own.
-/
namespace Go.Proofs.YtndjnkjcfdaegaaGreatDoor
open Go.RowKit

/-- Block b is a row of cells, none of them frozen. -/
def Open (w : World) (b : Nat) : Prop := ∃ (C : Array Value) (t : TypeId), w.heap[b]? = some (.cells C t (0, 0))
/-- The cells of block b. -/
def rowD (w : World) (b : Nat) : Array Value := match w.heap[b]? with | some (.cells C _ _) => C | _ => #[]
/-- Cells, from a place on others. -/
def splice (C : Array Value) (o : Nat) (l : List Value) : Array Value := (C.toList.take o ++ l ++ C.toList.drop (o + l.length)).toArray
/-- More than one cell, stored one behind the other. -/
def storeWhole (a : Addr) (l : List Value) : Sem Unit := storeCells a l 0
theorem storeCells_whole (a : Addr) (x y : Value) (l : List Value) : storeCells a (x :: y :: l) 0 = storeWhole a (x :: y :: l) := rfl

theorem run_storeWhole {P : Program} (w : World) (b o : Nat) (l : List Value) (hf : Open w b) (hN : o + l.length ≤ (rowD w b).size) (h1 : l.all (·.oneCell') = true) :
    (storeWhole ⟨b, o, none⟩ l).run P w = .ok () (w.setRow b (splice (rowD w b) o l)) := by
  obtain ⟨C0, t, h0⟩ := hf
  have hD : rowD w b = C0 := by simp [rowD, h0]
  rw [hD] at hN ⊢
  exact run_storeCells_at (P := P) b o t l 0 C0 w h0 (by omega) (fun v hv => (List.all_eq_true.1 h1) v hv)
/-- the same, where the walk has not shown the conditions -/
def storeElse (P : Program) (a : Addr) (l : List Value) (w : World) : Result Unit := (storeWhole a l).run P w
open Classical in
theorem run_storeWhole_if {P : Program} (w : World) (b o : Nat) (l : List Value) :
    (storeWhole ⟨b, o, none⟩ l).run P w = if Open w b ∧ o + l.length ≤ (rowD w b).size ∧ l.all (·.oneCell') = true then .ok () (w.setRow b (splice (rowD w b) o l)) else storeElse P ⟨b, o, none⟩ l w := by
  by_cases h : Open w b ∧ o + l.length ≤ (rowD w b).size ∧ l.all (·.oneCell') = true
  · rw [if_pos h, run_storeWhole w b o l h.1 h.2.1 h.2.2]
  · rw [if_neg h]
    rfl
theorem splice_all (C : Array Value) (l : List Value) (h : C.size = l.length) : splice C 0 l = l.toArray := by
  apply Array.ext'
  simp [splice, ← h]

theorem setRow_alloc_at (w : World) (c C : Array Value) (t : TypeId) (n : Nat) (hn : n = w.heap.size) : (w.alloc (.cells c t)).setRow n C = w.alloc (.cells C t) := by
  subst hn
  unfold World.setRow World.alloc
  congr 1
  apply Array.ext_getElem?
  intro k
  simp only [Array.getElem?_modify, Array.getElem?_push]
  by_cases hk : k = w.heap.size
  · subst hk
    simp
  · simp [hk, Ne.symm hk]
theorem setRow_alloc_past (w : World) (o : Obj) (C : Array Value) (n : Nat) (hn : n < w.heap.size) : (w.alloc o).setRow n C = (w.setRow n C).alloc o := by
  unfold World.setRow World.alloc
  congr 1
  apply Array.ext_getElem?
  intro k
  simp only [Array.getElem?_modify, Array.getElem?_push, Array.size_modify]
  by_cases hk : k = w.heap.size
  · subst hk
    simp [Nat.ne_of_lt hn]
  · simp [hk]
theorem setRow_drew (w : World) (b : Nat) (C : Array Value) : w.drew.setRow b C = (w.setRow b C).drew := rfl
theorem open_alloc_at (w : World) (c : Array Value) (t : TypeId) (n : Nat) (hn : n = w.heap.size) : Open (w.alloc (.cells c t)) n := by
  subst hn
  unfold Open World.alloc
  simp
theorem open_alloc_past (w : World) (o : Obj) (n : Nat) (hn : n < w.heap.size) : Open (w.alloc o) n ↔ Open w n := by
  unfold Open World.alloc
  rw [Array.getElem?_push]
  simp [Nat.ne_of_lt hn]
theorem open_drew (w : World) (n : Nat) : Open w.drew n ↔ Open w n := Iff.rfl
theorem open_drewN (w : World) (m n : Nat) : Open (w.drewN m) n ↔ Open w n := Iff.rfl
theorem open_modify (w : World) (b n : Nat) (f : Array Value → Array Value) : Open { w with heap := w.heap.modify b fun | .cells c e fr => .cells (f c) e fr | o => o } n ↔ Open w n := by
  unfold Open
  simp only [Array.getElem?_modify]
  by_cases hb : b = n
  · subst hb
    simp only [if_true]
    cases h : w.heap[b]? with
    | none => simp
    | some o =>
      cases o with
      | cells c t fr => simp
      | _ => simp
  · simp [hb]
theorem open_setCell (w : World) (b i : Nat) (v : Value) (n : Nat) : Open (w.setCell ⟨b, i, none⟩ v) n ↔ Open w n :=
  open_modify w b n (fun c => c.setIfInBounds i v)
theorem open_setRow (w : World) (b n : Nat) (C : Array Value) : Open (w.setRow b C) n ↔ Open w n :=
  open_modify w b n (fun _ => C)
theorem cell_setRow_at (w : World) (b i : Nat) (C : Array Value) (hf : Open w b) : (w.setRow b C).cell? ⟨b, i, none⟩ = C[i]? := by
  obtain ⟨C0, t, h0⟩ := hf
  exact cell_setRow_same w b i C0 C t (0, 0) h0
theorem cell_setRow_far (w : World) (b n i : Nat) (C : Array Value) (h : n ≠ b) : (w.setRow b C).cell? ⟨n, i, none⟩ = w.cell? ⟨n, i, none⟩ :=
  cell_setRow_other w b C ⟨n, i, none⟩ h
theorem frozen_setRow (w : World) (b : Nat) (C : Array Value) (a : Addr) : (w.setRow b C).frozen? a = w.frozen? a := by
  unfold World.frozen? World.setRow
  simp only [Array.getElem?_modify]
  by_cases hb : b = a.block
  · subst hb
    simp only [if_true]
    cases h : w.heap[a.block]? with
    | none => simp
    | some o =>
      cases o with
      | cells c t fr => simp
      | _ => simp
  · simp [hb]
theorem rowD_alloc_at (w : World) (c : Array Value) (t : TypeId) (n : Nat) (hn : n = w.heap.size) : rowD (w.alloc (.cells c t)) n = c := by
  subst hn
  unfold rowD World.alloc
  simp
theorem rowD_alloc_past (w : World) (o : Obj) (n : Nat) (hn : n < w.heap.size) : rowD (w.alloc o) n = rowD w n := by
  unfold rowD World.alloc
  rw [Array.getElem?_push]
  simp [Nat.ne_of_lt hn]
theorem rowD_drew (w : World) (n : Nat) : rowD w.drew n = rowD w n := rfl
theorem rowD_setRow_at (w : World) (b : Nat) (C : Array Value) (hf : Open w b) : rowD (w.setRow b C) b = C := by
  obtain ⟨C0, t, h0⟩ := hf
  unfold rowD
  rw [setRow_heap w b C0 C t (0, 0) h0]
theorem rowD_setRow_far (w : World) (b n : Nat) (C : Array Value) (h : n ≠ b) : rowD (w.setRow b C) n = rowD w n := by
  unfold rowD
  rw [setRow_other w b n C h]
theorem rowD_setCell_far (w : World) (b i n : Nat) (v : Value) (h : n ≠ b) : rowD (w.setCell ⟨b, i, none⟩ v) n = rowD w n := by
  unfold rowD World.setCell
  simp only [Array.getElem?_modify]
  rw [if_neg (fun e => h e.symm)]
theorem rowD_setCell_at (w : World) (b i : Nat) (v : Value) : rowD (w.setCell ⟨b, i, none⟩ v) b = (rowD w b).setIfInBounds i v := by
  unfold rowD World.setCell
  simp only [Array.getElem?_modify, if_true]
  cases h : w.heap[b]? with
  | none => simp
  | some o =>
    cases o with
    | cells c t fr => simp
    | _ => simp
/-- n cells of block b, from o on -/
def cellsAt (w : World) (b o n : Nat) : Option (List Value) := match w.heap[b]? with
  | some (.cells C _ _) => if o + n ≤ C.size then some ((C.toList.drop o).take n) else none
  | _ => none
/-- More than one cell, read one behind the other. -/
def loadWhole (a : Addr) (n : Nat) : Sem (Array Value) := loadCellsFrom a 0 n #[]
theorem loadCells_whole (a : Addr) (n : Nat) : loadCellsFrom a 0 n #[] = loadWhole a n := rfl
def loadElse (P : Program) (a : Addr) (n : Nat) (w : World) : Result (Array Value) := (loadWhole a n).run P w
theorem cellsAt_cell {w : World} {b o n : Nat} {l : List Value} (h : cellsAt w b o n = some l) (j : Nat) (v : Value) (hj : l[j]? = some v) : w.cell? ⟨b, o + j, none⟩ = some v := by
  unfold cellsAt at h
  split at h
  · rename_i C t fr hh
    split at h
    · cases h
      simp only [World.cell?, hh]
      rw [List.getElem?_take] at hj
      split at hj
      · simpa using hj
      · cases hj
    · cases h
  · cases h
theorem cellsAt_length {w : World} {b o n : Nat} {l : List Value} (h : cellsAt w b o n = some l) : l.length = n := by
  unfold cellsAt at h
  split at h
  · split at h
    · rename_i C _ _ hh hs
      cases h
      rw [List.length_take, List.length_drop, Array.length_toList]
      omega
    · cases h
  · cases h
/-- out of its cells -/
theorem cellsAt_of {w : World} {b o : Nat} {l : List Value} (h : ∀ (j : Nat) (v : Value), l[j]? = some v → w.cell? ⟨b, o + j, none⟩ = some v) (hl : 0 < l.length) : cellsAt w b o l.length = some l := by
  have h0 := h 0 l[0] (by simp [hl])
  unfold cellsAt
  simp only [World.cell?] at h0
  split at h0
  · rename_i C t fr hh
    have hsz : o + l.length ≤ C.size := by
      have := h (l.length - 1) l[l.length - 1] (by simp)
      simp only [World.cell?, hh] at this
      have := (Array.getElem?_eq_some_iff.1 (by simpa using this)).1
      omega
    rw [hh]
    simp only [hsz, if_true, Option.some.injEq]
    apply List.ext_getElem?
    intro j
    rw [List.getElem?_take]
    by_cases hj : j < l.length
    · rw [if_pos hj, List.getElem?_drop]
      have := h j l[j] (by simp [hj])
      simp only [World.cell?, hh] at this
      rw [List.getElem?_eq_getElem hj]
      simpa using this
    · rw [if_neg hj]
      simp
      omega
  · cases h0
theorem run_loadWhole {P : Program} (w : World) (b o n : Nat) : (loadWhole ⟨b, o, none⟩ n).run P w = match cellsAt w b o n with | some l => .ok l.toArray w | none => loadElse P ⟨b, o, none⟩ n w := by
  split
  · rename_i l h
    have hl := cellsAt_length h
    have := run_loadCells_list (P := P) w ⟨b, o, none⟩ l (fun j v hv => by
      rw [Addr.add_lit]
      exact cellsAt_cell h j v hv)
    rw [hl] at this
    exact this
  · rfl
theorem cellsAt_alloc_at (w : World) (c : Array Value) (t : TypeId) (b o n : Nat) (hn : b = w.heap.size) : cellsAt (w.alloc (.cells c t)) b o n = if o + n ≤ c.size then some ((c.toList.drop o).take n) else none := by
  subst hn
  unfold cellsAt World.alloc
  simp
theorem cellsAt_alloc_past (w : World) (ob : Obj) (b o n : Nat) (hn : b < w.heap.size) : cellsAt (w.alloc ob) b o n = cellsAt w b o n := by
  unfold cellsAt World.alloc
  rw [Array.getElem?_push]
  simp [Nat.ne_of_lt hn]
theorem cellsAt_drew (w : World) (b o n : Nat) : cellsAt w.drew b o n = cellsAt w b o n := rfl
theorem cellsAt_drewN (w : World) (m b o n : Nat) : cellsAt (w.drewN m) b o n = cellsAt w b o n := rfl
theorem cellsAt_setRow_far (w : World) (b k o n : Nat) (C : Array Value) (h : k ≠ b) : cellsAt (w.setRow b C) k o n = cellsAt w k o n := by
  unfold cellsAt
  rw [setRow_other w b k C h]
theorem cellsAt_setRow_at (w : World) (b o n : Nat) (C : Array Value) (hf : Open w b) : cellsAt (w.setRow b C) b o n = if o + n ≤ C.size then some ((C.toList.drop o).take n) else none := by
  obtain ⟨C0, t, h0⟩ := hf
  unfold cellsAt
  rw [setRow_heap w b C0 C t (0, 0) h0]
theorem cellsAt_setCell_far (w : World) (b i k o n : Nat) (v : Value) (h : k ≠ b) : cellsAt (w.setCell ⟨b, i, none⟩ v) k o n = cellsAt w k o n := by
  unfold cellsAt World.setCell
  simp only [Array.getElem?_modify]
  rw [if_neg (fun e => h e.symm)]
theorem cellsAt_setCell_at (w : World) (b i o n : Nat) (v : Value) : cellsAt (w.setCell ⟨b, i, none⟩ v) b o n = (cellsAt w b o n).map fun l => if o ≤ i then l.set (i - o) v else l := by
  unfold cellsAt World.setCell
  simp only [Array.getElem?_modify, if_true]
  cases h : w.heap[b]? with
  | none => simp
  | some ob =>
    cases ob with
    | cells c t fr =>
      simp only [Option.map_some, Option.isSome_none, Bool.false_eq_true, if_false, Array.size_setIfInBounds]
      split
      · rw [Option.map_some]
        congr 1
        rw [Array.toList_setIfInBounds]
        by_cases ho : o ≤ i
        · rw [if_pos ho, List.drop_set, if_neg (by omega), List.take_set]
        · rw [if_neg ho, List.drop_set_of_lt (by omega)]
      · rfl
    | _ => simp
/-- an old block is an old block, however many new ones are laid -/
theorem lt8 {g n : Nat} (h : g < n) : g < n + 1 ∧ g < n + 1 + 1 ∧ g < n + 1 + 1 + 1 ∧ g < n + 1 + 1 + 1 + 1 ∧ g < n + 1 + 1 + 1 + 1 + 1 ∧ g < n + 1 + 1 + 1 + 1 + 1 + 1 ∧ g < n + 1 + 1 + 1 + 1 + 1 + 1 + 1 ∧ g < n + 1 + 1 + 1 + 1 + 1 + 1 + 1 + 1 := by omega
/-- the world at hand, under a name -/
theorem wp_world {P : Program} {c : Code} {Q : Exit → Act → World → Prop} {a : Act} {w : World} (h : ∀ W, W = w → c.wp P Q a W) : c.wp P Q a w := h w rfl
theorem Keeps.cellsAt {a w : World} (h : Keeps No a w) {b o n : Nat} {l : List Value} (hc : cellsAt a b o n = some l) : cellsAt w b o n = some l := by
  have hb : b < a.heap.size := by
    unfold Proofs.YtndjnkjcfdaegaaGreatDoor.cellsAt at hc
    split at hc
    · rename_i hh
      exact (Array.getElem?_eq_some_iff.1 hh).1
    · cases hc
  unfold Proofs.YtndjnkjcfdaegaaGreatDoor.cellsAt at hc ⊢
  rw [h.block b hb (fun h => h)]
  exact hc
theorem Keeps.opened {a w : World} (h : Keeps No a w) {b : Nat} (ho : Open a b) : Open w b := by
  obtain ⟨C, t, hc⟩ := ho
  exact ⟨C, t, h.heap hc (fun h => h)⟩
theorem Open.frozen {w : World} {b : Nat} (h : Open w b) (i : Nat) : w.frozen? ⟨b, i, none⟩ = false := by
  obtain ⟨C, t, hc⟩ := h
  exact frozen_of_row w b i _ _ hc
theorem Keeps.rowSize {a w : World} (h : Keeps No a w) {b n : Nat} (ho : Open a b) (hn : (rowD a b).size = n) : (rowD w b).size = n := by
  obtain ⟨C, t, hc⟩ := ho
  have hw := h.heap hc (fun h => h)
  unfold rowD at hn ⊢
  rw [hc] at hn
  rw [hw]
  exact hn
theorem Keeps.row {a w : World} (h : Keeps No a w) {b : Nat} (hb : a.heap.size ≤ b) (C : Array Value) : Keeps No a (w.setRow b C) :=
  h.setRow (S := No) (fun hlt => absurd hlt (Nat.not_lt.2 hb)) C
theorem one_int (k : IntKind) (n : Int) : Value.oneCell' (.int k n) = true := rfl
theorem one_bool (b : Bool) : Value.oneCell' (.bool b) = true := rfl
theorem one_string (s : ByteArray) : Value.oneCell' (.string s) = true := rfl
theorem one_slice (a : Option Addr) (n c : Nat) : Value.oneCell' (.slice a n c) = true := rfl
theorem one_pointer (a : Option Addr) : Value.oneCell' (.pointer a) = true := rfl

theorem splice_lit (L : List Value) (o : Nat) (l : List Value) : splice L.toArray o l = (L.take o ++ l ++ L.drop (o + l.length)).toArray := rfl

attribute [go_sem 2000] splice_all storeCells_whole loadCells_whole List.getElem?_toArray List.getElem?_cons_succ List.getElem?_cons_zero
attribute [go_sem] run_loadWhole cellsAt_alloc_at cellsAt_alloc_past cellsAt_drew cellsAt_drewN cellsAt_setRow_far cellsAt_setRow_at cellsAt_setCell_far cellsAt_setCell_at run_storeWhole_if splice_lit setRow_alloc_at setRow_alloc_past setRow_drew open_alloc_at open_alloc_past open_drew open_drewN open_setCell open_setRow cell_setRow_at cell_setRow_far frozen_setRow rowD_alloc_at rowD_alloc_past rowD_drew rowD_setRow_at rowD_setRow_far rowD_setCell_at rowD_setCell_far one_int one_bool one_string one_slice one_pointer

end Go.Proofs.YtndjnkjcfdaegaaGreatDoor

/-
  A disk's files as a list, and how they lie in the disk's map. Plain lemmas and laws at the operation. No conditions of its own.
-/
namespace Go.Proofs.YtndjnkjcfdaegaaGreatDoor
open Go.RowKit

/-- a file: its bytes, and how many of them are sure -/
structure Fi where
  s : ByteArray
  k : Nat
/-- as a value -/
abbrev fV (f : Fi) : Value := .agg #[.string f.s, .int .i64 f.k]
/-- as a datum -/
def fD (f : Fi) : DataW Unit := .agg [.lit (.string f.s.data.toList), .lit (.int .i64 f.k)]
/-- how a file reads -/
def fileElem (v : Value) : Option (DataW Unit × List MemPlace) :=
  match v with
  | .agg cs => match cs.toList with
    | [.string s, .int .i64 n] => some (.agg [.lit (.string s.data.toList), .lit (.int .i64 n)], [])
    | _ => none
  | _ => none
theorem fileElem_mk (f : Fi) : fileElem (fV f) = some (fD f, []) := rfl
theorem fileElem_shape {v : Value} {y : DataW Unit × List MemPlace} (h : fileElem v = some y) : ∃ (s : ByteArray) (n : Int), v = .agg #[.string s, .int .i64 n] ∧ y = (.agg [.lit (.string s.data.toList), .lit (.int .i64 n)], []) := by
  unfold fileElem at h
  split at h
  · rename_i cs
    split at h
    · rename_i s n hv
      refine ⟨s, n, ?_, (Option.some.inj h).symm⟩
      rw [← Array.toArray_toList (xs := cs), hv]
    · cases h
  · cases h
theorem bytes_of {s t : ByteArray} (h : s.data.toList = t.data.toList) : s = t := by
  cases s
  cases t
  simp at h
  rw [h]
theorem fileElem_inv {v : Value} {f : Fi} {ps : List MemPlace} (h : fileElem v = some (fD f, ps)) : v = fV f := by
  obtain ⟨s, n, rfl, hy⟩ := fileElem_shape h
  have h1 : f.s.data.toList = s.data.toList ∧ (f.k : Int) = n := by
    have h2 := congrArg Prod.fst hy
    unfold fD at h2
    injection h2 with h2
    injection h2 with h3 h4
    injection h4 with h4 _
    injection h3 with h3
    injection h4 with h4
    injection h3 with h3
    injection h4 with _ h4
    exact ⟨h3, h4⟩
  rw [← bytes_of h1.1, ← h1.2]

abbrev Nm := List UInt8
abbrev Fs := List (Nm × Fi)
def dOf (fs : Fs) : DataW Unit := .map (fs.map fun p => (.string p.1, fD p.2))
def isNm (n : Nm) (p : Nm × Fi) : Bool := p.1 == n
def getF (fs : Fs) (n : Nm) : Option Fi := (fs.find? (isNm n)).map (·.2)
def delF (fs : Fs) (n : Nm) : Fs := fs.filter fun p => !isNm n p
def insF (x : Nm × Fi) : Fs → Fs
  | [] => [x]
  | y :: r => if bytesBefore x.1 y.1 then x :: y :: r else y :: insF x r
def putF (fs : Fs) (n : Nm) (f : Fi) : Fs := insF (n, f) (delF fs n)
/-- files in the order of their names -/
def Rising (fs : Fs) : Prop := fs.Pairwise fun p q => bytesBefore p.1 q.1 = true

theorem map_insF (x : Nm × Fi) : ∀ fs : Fs, (insF x fs).map (fun p => ((.string p.1 : Lit), fD p.2)) = DataW.insert (.string x.1, fD x.2) (fs.map fun p => (.string p.1, fD p.2))
  | [] => rfl
  | y :: r => by
    unfold insF
    rw [List.map_cons]
    unfold DataW.insert
    show _ = if bytesBefore x.1 y.1 = true then _ else _
    split
    · rfl
    · rw [List.map_cons, map_insF x r]
theorem map_delF (n : Nm) (fs : Fs) : (delF fs n).map (fun p => ((.string p.1 : Lit), fD p.2)) = (fs.map fun p => ((.string p.1 : Lit), fD p.2)).filter fun p => !p.1.sameKey (.string n) := by
  unfold delF
  rw [List.filter_map]
  rfl
theorem dOf_put (fs : Fs) (n : Nm) (f : Fi) : (dOf fs).put (.string n) (fD f) = dOf (putF fs n f) := by
  unfold dOf DataW.put putF
  rw [map_insF, map_delF]
theorem dOf_del (fs : Fs) (n : Nm) : (dOf fs).del (.string n) = dOf (delF fs n) := by
  unfold dOf DataW.del
  rw [map_delF]
theorem dOf_size (fs : Fs) : Maps.size (dOf fs) = fs.length := by simp [dOf, Maps.size]
theorem find_map (n : Nm) (fs : Fs) : (fs.map fun p => ((.string p.1 : Lit), fD p.2)).find? (fun p => p.1.sameKey (.string n)) = (fs.find? (isNm n)).map fun p => ((.string p.1 : Lit), fD p.2) := by
  rw [List.find?_map]
  rfl
theorem dOf_at {fs : Fs} {n : Nm} {f : Fi} (h : getF fs n = some f) (zd : DataW Unit) : (dOf fs).atKey (.string n) zd = fD f := by
  unfold dOf DataW.atKey
  simp only [find_map]
  unfold getF at h
  cases hf : fs.find? (isNm n) with
  | none => rw [hf] at h; cases h
  | some p =>
    rw [hf] at h
    simp at h
    simp [h]
theorem dOf_has {fs : Fs} {n : Nm} {f : Fi} (h : getF fs n = some f) : Maps.has (dOf fs) (.string n) = true := Maps.has_true_of_atKey (dOf_at h)
theorem dOf_at_none {fs : Fs} {n : Nm} (h : getF fs n = none) (zd : DataW Unit) : (dOf fs).atKey (.string n) zd = zd := by
  unfold dOf DataW.atKey
  simp only [find_map]
  unfold getF at h
  cases hf : fs.find? (isNm n) with
  | none => simp
  | some p => rw [hf] at h; cases h
theorem dOf_has_none {fs : Fs} {n : Nm} (h : getF fs n = none) : Maps.has (dOf fs) (.string n) = false := Maps.has_false_of_atKey (dOf_at_none h)

theorem insF_length (x : Nm × Fi) : ∀ fs : Fs, (insF x fs).length = fs.length + 1
  | [] => rfl
  | y :: r => by
    unfold insF
    split
    · rfl
    · simp [insF_length x r]
theorem mem_insF {x p : Nm × Fi} : ∀ {fs : Fs}, p ∈ insF x fs ↔ p = x ∨ p ∈ fs
  | [] => by simp [insF]
  | y :: r => by
    unfold insF
    split
    · simp
    · simp only [List.mem_cons, mem_insF (fs := r)]
      constructor
      · rintro (h | h | h)
        · exact .inr (.inl h)
        · exact .inl h
        · exact .inr (.inr h)
      · rintro (h | h | h)
        · exact .inr (.inl h)
        · exact .inl h
        · exact .inr (.inr h)
theorem mem_putF {fs : Fs} {n : Nm} {f : Fi} {p : Nm × Fi} (h : p ∈ putF fs n f) : p = (n, f) ∨ p ∈ fs := by
  rcases mem_insF.1 h with h | h
  · exact .inl h
  · exact .inr (List.mem_filter.1 h).1
theorem mem_getF {fs : Fs} {n : Nm} {f : Fi} (h : getF fs n = some f) : (n, f) ∈ fs := by
  unfold getF at h
  cases hf : fs.find? (isNm n) with
  | none => rw [hf] at h; cases h
  | some p =>
    rw [hf] at h
    simp at h
    have h1 := List.find?_some hf
    have h2 := List.mem_of_find?_eq_some hf
    have h3 : p.1 = n := by simpa [isNm] using h1
    have h4 : p = (n, f) := by rw [← h3, ← h]
    rw [← h4]
    exact h2
theorem delF_le (fs : Fs) (n : Nm) : (delF fs n).length ≤ fs.length := List.length_filter_le _ _
theorem delF_lt {fs : Fs} {n : Nm} {f : Fi} (h : getF fs n = some f) : (delF fs n).length < fs.length := by
  unfold delF
  rw [List.length_filter_lt_length_iff_exists]
  exact ⟨(n, f), mem_getF h, by simp [isNm]⟩
theorem putF_length_le (fs : Fs) (n : Nm) (f : Fi) : (putF fs n f).length ≤ fs.length + 1 := by
  unfold putF
  rw [insF_length]
  have := delF_le fs n
  omega
theorem putF_length_some {fs : Fs} {n : Nm} {f g : Fi} (h : getF fs n = some g) : (putF fs n f).length ≤ fs.length := by
  unfold putF
  rw [insF_length]
  exact delF_lt h
theorem delF_none {fs : Fs} {n : Nm} (h : getF fs n = none) : delF fs n = fs := by
  unfold delF
  rw [List.filter_eq_self]
  intro p hp
  unfold getF at h
  simp at h
  cases hq : isNm n p
  · rfl
  · exact absurd hq (by simpa using h p.1 p.2 hp)

/-- what a file may have -/
def FileOk (f : Fi) : Prop := f.s.size ≤ 4194304 ∧ f.k ≤ f.s.size
/-- THE DISK AT p, ITS MAP AT b. -/
structure DiskAt (w : World) (p b : Nat) (fs : Fs) (room : Int) (dead : Bool) : Prop where
  cells : w.heap[p]? = some (.cells #[.map (some b), .int .i64 room, .bool dead] 56 (0, 0))
  own : w.ownsMap Tryz.prog 9 fileElem b fs.length (dOf fs)
  few : fs.length ≤ 64
  ok : ∀ x ∈ fs, FileOk x.2
  nm : ∀ x ∈ fs, x.1.length ≤ 32
  r0 : 0 ≤ room
  r1 : room ≤ 9223372036854775807

theorem own_kept {S : Nat → Prop} {w w' : World} {b n : Nat} {D : DataW Unit} (h : w.ownsMap Tryz.prog 9 fileElem b n D) (k : Keeps S w w') (hb : ¬ S b) : w'.ownsMap Tryz.prog 9 fileElem b n D := by
  obtain ⟨es, clock, hh, r⟩ := h
  exact ⟨es, clock, k.heap hh hb, r⟩
theorem own_tight {w : World} {b n : Nat} {fs : Fs} (h : w.ownsMap Tryz.prog 9 fileElem b n (dOf fs)) : w.ownsMap Tryz.prog 9 fileElem b fs.length (dOf fs) := by
  obtain ⟨es, clock, hh, F, _, hD⟩ := h
  refine ⟨es, clock, hh, F, ?_, hD⟩
  have h1 := congrArg Maps.size hD
  rw [dOf_size] at h1
  rw [h1]
  simp [Maps.size, length_sorted]
theorem DiskAt.kept {S : Nat → Prop} {w w' : World} {p b : Nat} {fs : Fs} {room : Int} {dead : Bool} (h : DiskAt w p b fs room dead) (k : Keeps S w w') (hp : ¬ S p) (hb : ¬ S b) : DiskAt w' p b fs room dead :=
  ⟨k.heap h.cells hp, own_kept h.own k hb, h.few, h.ok, h.nm, h.r0, h.r1⟩
theorem DiskAt.drew {w : World} {p b : Nat} {fs : Fs} {room : Int} {dead : Bool} (h : DiskAt w p b fs room dead) : DiskAt w.drew p b fs room dead := h.kept (Keeps.refl (S := No) w).drew (fun h => h) (fun h => h)
theorem DiskAt.ne {w : World} {p b : Nat} {fs : Fs} {room : Int} {dead : Bool} (h : DiskAt w p b fs room dead) : p ≠ b := by
  obtain ⟨es, clock, hh, _⟩ := h.own
  rintro rfl
  rw [h.cells] at hh
  cases hh
theorem DiskAt.lt {w : World} {p b : Nat} {fs : Fs} {room : Int} {dead : Bool} (h : DiskAt w p b fs room dead) : p < w.heap.size ∧ b < w.heap.size :=
  ⟨(Array.getElem?_eq_some_iff.1 h.cells).1, h.own.lt⟩
theorem DiskAt.get_ok {w : World} {p b : Nat} {fs : Fs} {room : Int} {dead : Bool} (h : DiskAt w p b fs room dead) {n : Nm} {f : Fi} (hg : getF fs n = some f) : FileOk f := h.ok _ (mem_getF hg)
theorem DiskAt.cell0 {w : World} {p b : Nat} {fs : Fs} {room : Int} {dead : Bool} (h : DiskAt w p b fs room dead) : w.cell? ⟨p, 0, none⟩ = some (.map (some b)) := by simp [World.cell?, h.cells]
theorem DiskAt.cell1 {w : World} {p b : Nat} {fs : Fs} {room : Int} {dead : Bool} (h : DiskAt w p b fs room dead) : w.cell? ⟨p, 1, none⟩ = some (.int .i64 room) := by simp [World.cell?, h.cells]
theorem DiskAt.cell2 {w : World} {p b : Nat} {fs : Fs} {room : Int} {dead : Bool} (h : DiskAt w p b fs room dead) : w.cell? ⟨p, 2, none⟩ = some (.bool dead) := by simp [World.cell?, h.cells]
theorem DiskAt.opened {w : World} {p b : Nat} {fs : Fs} {room : Int} {dead : Bool} (h : DiskAt w p b fs room dead) : Open w p := ⟨_, _, h.cells⟩

/-- the files stand in the order of their names -/
theorem DiskAt.rising {w : World} {p b : Nat} {fs : Fs} {room : Int} {dead : Bool} (h : DiskAt w p b fs room dead) : Rising fs := by
  obtain ⟨es, clock, _, F, _, hD⟩ := h.own
  have K : Maps.Keyed Tryz.prog 9 := Maps.string_keyed Tryz.underlying9
  have hap := Maps.fit_apart K F
  have hk : ChangeMaps.StrKeys (es.toList.map (WideElems.rg Tryz.prog 9 fileElem)) := by
    intro q hq
    have hq' : q ∈ ((es.toList.map (WideElems.rg Tryz.prog 9 fileElem)).foldr DataW.insert []) := mem_sorted.2 hq
    unfold dOf at hD
    injection hD with hD
    rw [← hD] at hq'
    obtain ⟨x, _, rfl⟩ := List.mem_map.1 hq'
    exact ⟨_, rfl⟩
  have hs := ChangeMaps.sorted_sorted _ hk hap
  unfold dOf at hD
  injection hD with hD
  rw [← hD, List.pairwise_map] at hs
  exact hs

/-! ### at the operation -/
theorem Tryz.keyed : Maps.Keyed Tryz.prog 9 := Maps.string_keyed Tryz.underlying9
theorem Tryz.zeroFile (w : World) : (zeroValue 85).run Tryz.prog w = .ok (.agg #[.string ⟨#[]⟩, .int .i64 0]) w := by kernel_rfl
abbrev Fi.none : Fi := ⟨⟨#[]⟩, 0⟩

/-- 'm[k]' without ok, whatever the elements -/
theorem wpList_lookup_own_one {H : Type} {P : Program} {w : World} {ops : Array Oper} {rest : List Oper} {o : Oper} {a : Act} {Q : Exit → Act → World → Prop}
    (hg : o.guard = none) (m x : Operand) (t : TypeId) (hop : o.op = Op.lookup t m x false)
    (k e : TypeId) (K : Maps.Keyed P k) (ht : P.underlying t = some (.map k e)) (R : Value → Option (DataW H × List MemPlace)) {z : Value} (hz : (zeroValue e).run P w = .ok z w) (zd : DataW H) (zp : List MemPlace) (hzd : R z = some (zd, zp)) (b n : Nat) (D : DataW H)
    (hm : a.eval m = .map (some b)) (hown : w.ownsMap P k R b n D) (key : Value) (kl : Lit) (hx : a.eval x = key) (hkey : keyOf P k key = some kl)
    (hK : ∀ v ps, R v = some (D.atKey kl zd, ps) → wpList P ops Q rest (a.put o.dst v) w) :
    wpList P ops Q (o :: rest) a w := by
  refine wpList_plain hg fun K' hK' => ?_
  obtain ⟨v, ps, hrun, hv⟩ := hown.lookup K ht hz hzd hkey
  unfold Oper.wp
  simp [execOp, hop, hm, hx, hrun, Result.andThen]
  exact hK' _ _ (hK v ps hv)

section
variable {w : World} {ops : Array Oper} {rest : List Oper} {o : Oper} {a : Act} {Q : Exit → Act → World → Prop} {b : Nat} {fs : Fs}

theorem wpList_files_some (hg : o.guard = none) (m x : Operand) (hop : o.op = Op.lookup 54 m x true) (hown : w.ownsMap Tryz.prog 9 fileElem b fs.length (dOf fs)) (hm : a.eval m = .map (some b))
    (n : ByteArray) (hx : a.eval x = .string n) (hn : n.size ≤ maxLen) (f : Fi) (hf : getF fs n.data.toList = some f) (hK : wpList Tryz.prog ops Q rest (a.put o.dst (.tuple #[fV f, .bool true])) w) : wpList Tryz.prog ops Q (o :: rest) a w := by
  refine wpList_lookup_own_ok w hg m x _ hop _ _ Tryz.keyed Tryz.underlying54 fileElem (Tryz.zeroFile w) (fD Fi.none) [] (fileElem_mk Fi.none) b _ _ hm hown _ _ hx (WideMaps.keyOf_string_mk Tryz.underlying9 hn) ?_
  intro v ps hv
  rw [dOf_at hf] at hv
  rw [dOf_has hf, fileElem_inv hv]
  exact hK
theorem wpList_files_none (hg : o.guard = none) (m x : Operand) (hop : o.op = Op.lookup 54 m x true) (hown : w.ownsMap Tryz.prog 9 fileElem b fs.length (dOf fs)) (hm : a.eval m = .map (some b))
    (n : ByteArray) (hx : a.eval x = .string n) (hn : n.size ≤ maxLen) (hf : getF fs n.data.toList = none) (hK : wpList Tryz.prog ops Q rest (a.put o.dst (.tuple #[fV Fi.none, .bool false])) w) : wpList Tryz.prog ops Q (o :: rest) a w := by
  refine wpList_lookup_own_ok w hg m x _ hop _ _ Tryz.keyed Tryz.underlying54 fileElem (Tryz.zeroFile w) (fD Fi.none) [] (fileElem_mk Fi.none) b _ _ hm hown _ _ hx (WideMaps.keyOf_string_mk Tryz.underlying9 hn) ?_
  intro v ps hv
  rw [dOf_at_none hf] at hv
  rw [dOf_has_none hf, fileElem_inv hv]
  exact hK
/-- without ok -/
theorem wpList_files_one (hg : o.guard = none) (m x : Operand) (hop : o.op = Op.lookup 54 m x false) (hown : w.ownsMap Tryz.prog 9 fileElem b fs.length (dOf fs)) (hm : a.eval m = .map (some b))
    (n : ByteArray) (hx : a.eval x = .string n) (hn : n.size ≤ maxLen) (f : Fi) (hf : getF fs n.data.toList = some f) (hK : wpList Tryz.prog ops Q rest (a.put o.dst (fV f)) w) : wpList Tryz.prog ops Q (o :: rest) a w := by
  refine wpList_lookup_own_one hg m x _ hop _ _ Tryz.keyed Tryz.underlying54 fileElem (Tryz.zeroFile w) (fD Fi.none) [] (fileElem_mk Fi.none) b _ _ hm hown _ _ hx (WideMaps.keyOf_string_mk Tryz.underlying9 hn) ?_
  intro v ps hv
  rw [dOf_at hf] at hv
  rw [fileElem_inv hv]
  exact hK
/-- a store into the disk's map -/
theorem wpList_files_put (hg : o.guard = none) (m x v : Operand) (hop : o.op = Op.mapUpdate 54 m x v) (hown : w.ownsMap Tryz.prog 9 fileElem b fs.length (dOf fs)) (h64 : fs.length ≤ 64) (hm : a.eval m = .map (some b))
    (n : ByteArray) (hx : a.eval x = .string n) (hn : n.size ≤ maxLen) (f : Fi) (hv : a.eval v = fV f)
    (hK : ∀ w', w'.ownsMap Tryz.prog 9 fileElem b (putF fs n.data.toList f).length (dOf (putF fs n.data.toList f)) → Keeps (Own b) w w' → wpList Tryz.prog ops Q rest (a.put o.dst undef) w') : wpList Tryz.prog ops Q (o :: rest) a w := by
  refine wpList_mapUpdate_own w hg m x v _ hop _ _ Tryz.keyed Tryz.underlying54 fileElem b _ _ hm hown (Nat.lt_of_le_of_lt h64 (by unfold maxLen; omega)) _ _ _ hx hv (WideMaps.keyOf_string_mk Tryz.underlying9 hn) (fD f) [] (fileElem_mk f) ?_
  intro w' h1 h2
  rw [dOf_put] at h1
  exact hK w' (own_tight h1) ((Keeps.refl w).grown h2 (fun k hk _ => by cases hk; rfl))
/-- a file is taken out of the disk's map -/
theorem wpList_files_del (hg : o.guard = none) (m x : Operand) (hop : o.op = Op.call { callee := Callee.builtin Builtin.delete, args := #[m, x], argTypes := #[54, 9] }) (hown : w.ownsMap Tryz.prog 9 fileElem b fs.length (dOf fs)) (hm : a.eval m = .map (some b))
    (n : ByteArray) (hx : a.eval x = .string n) (hn : n.size ≤ maxLen)
    (hK : ∀ w', w'.ownsMap Tryz.prog 9 fileElem b (delF fs n.data.toList).length (dOf (delF fs n.data.toList)) → Keeps (Own b) w w' → wpList Tryz.prog ops Q rest (a.put o.dst (.tuple #[])) w') : wpList Tryz.prog ops Q (o :: rest) a w := by
  refine wpList_delete_own w hg m x _ _ hop _ Tryz.keyed Tryz.underlying54 fileElem b _ _ hm hown _ _ hx (WideMaps.keyOf_string_mk Tryz.underlying9 hn) ?_
  intro w' h1 h2
  rw [dOf_del] at h1
  exact hK w' (own_tight h1) ((Keeps.refl w).grown h2.grown (fun k hk _ => by cases hk; rfl))
end

end Go.Proofs.YtndjnkjcfdaegaaGreatDoor

/-
  Frames as data: the register of the sum, frames, and what is read of bytes. Plain Lean. No conditions of its own.
-/
namespace Go.Proofs.YtndjnkjcfdaegaaGreatDoor

/-! ### the register -/
def nibL : List Nat := [0, 498536548, 997073096, 651767980, 1994146192, 1802195444, 1303535960, 1342533948, 3988292384, 4027552580, 3604390888, 3412177804, 2607071920, 2262029012, 2685067896, 3183342108]
def nib (k : Nat) : Nat := nibL.getD k 0
def nibStep (c : Nat) : Nat := c / 16 ^^^ nib (c % 16)
def byteStep (c x : Nat) : Nat := nibStep (nibStep (c ^^^ x))
def reg (l : Nm) (c : Nat) : Nat := l.foldl (fun c x => byteStep c x.toNat) c
def sumB (l : Nm) : Nat := 4294967295 - reg l 4294967295
theorem nib_lt (k : Nat) : nib k < 2 ^ 32 := by
  by_cases h : k < 16
  · have : ∀ k : Fin 16, nib k.1 < 2 ^ 32 := by decide
    exact this ⟨k, h⟩
  · have : nib k = 0 := by
      unfold nib
      rw [List.getD_eq_getElem?_getD, List.getElem?_eq_none (by simp [nibL]; omega)]
      rfl
    omega
theorem nibStep_lt {c : Nat} (h : c < 2 ^ 32) : nibStep c < 2 ^ 32 := Nat.xor_lt_two_pow (by omega) (nib_lt _)
theorem byteStep_lt {c x : Nat} (h : c < 2 ^ 32) (hx : x < 256) : byteStep c x < 2 ^ 32 := nibStep_lt (nibStep_lt (Nat.xor_lt_two_pow h (by omega)))
theorem reg_lt : ∀ (l : Nm) {c : Nat}, c < 2 ^ 32 → reg l c < 2 ^ 32
  | [], _, h => h
  | x :: l, _, h => reg_lt l (byteStep_lt h x.toNat_lt)
theorem reg_append (a b : Nm) (c : Nat) : reg (a ++ b) c = reg b (reg a c) := List.foldl_append ..
theorem reg_snoc (a : Nm) (x : UInt8) (c : Nat) : reg (a ++ [x]) c = byteStep (reg a c) x.toNat := reg_append a [x] c

theorem sumB_lt (l : Nm) : sumB l < 2 ^ 32 := by unfold sumB; omega

/-! ### frames -/
def be3 (n : Nat) : Nm := [UInt8.ofNat (n / 65536), UInt8.ofNat (n / 256), UInt8.ofNat n]
def be4 (n : Nat) : Nm := [UInt8.ofNat (n / 16777216), UInt8.ofNat (n / 65536), UInt8.ofNat (n / 256), UInt8.ofNat n]
def frameL (t : Nm) : Nm := be3 t.length ++ t ++ be4 (sumB (be3 t.length ++ t))
def n3 (s : Nm) : Nat := (s.getD 0 0).toNat * 65536 + (s.getD 1 0).toNat * 256 + (s.getD 2 0).toNat
/-- the text of the frame with which bytes begin -/
def firstF (s : Nm) : Option Nm :=
  if s.length < 3 then none else if 65536 < n3 s then none else if s.length < 7 + n3 s then none else
    if be4 (sumB (s.take (3 + n3 s))) = (s.drop (3 + n3 s)).take 4 then some ((s.drop 3).take (n3 s)) else none
def allF : Nat → Nm → List Nm
  | 0, _ => []
  | k + 1, s => match firstF s with
    | none => []
    | some t => t :: allF k (s.drop (t.length + 7))
/-- all frames with which bytes begin -/
def parse (s : Nm) : List Nm := allF s.length s
def frames (ts : List Nm) : Nm := ts.flatMap frameL
def flen (ts : List Nm) : Nat := (ts.map (·.length + 7)).sum

theorem be3_length (n : Nat) : (be3 n).length = 3 := rfl
theorem be4_length (n : Nat) : (be4 n).length = 4 := rfl
theorem frameL_length (t : Nm) : (frameL t).length = t.length + 7 := by simp [frameL, be3_length, be4_length]; omega
theorem frames_nil : frames [] = [] := rfl
theorem frames_cons (t : Nm) (ts : List Nm) : frames (t :: ts) = frameL t ++ frames ts := by simp [frames]
theorem frames_append (a b : List Nm) : frames (a ++ b) = frames a ++ frames b := by simp [frames]
theorem frames_one (t : Nm) : frames [t] = frameL t := by simp [frames]
theorem frames_length (ts : List Nm) : (frames ts).length = flen ts := by
  induction ts with
  | nil => rfl
  | cons t ts ih => rw [frames_cons, List.length_append, frameL_length, ih]; simp [flen]
theorem flen_append (a b : List Nm) : flen (a ++ b) = flen a + flen b := by simp [flen]
theorem n3_be3 {n : Nat} (h : n < 16777216) (r : Nm) : n3 (be3 n ++ r) = n := by
  simp [n3, be3]
  omega
theorem be3_n3 (s : Nm) (h : 3 ≤ s.length) : be3 (n3 s) = s.take 3 := by
  match s, h with
  | a :: b :: c :: r, _ =>
    simp only [n3, be3, List.getD_cons_zero, List.getD_cons_succ, List.take_succ_cons, List.take_zero, List.cons.injEq, and_true]
    have ha := a.toNat_lt
    have hb := b.toNat_lt
    have hc := c.toNat_lt
    refine ⟨?_, ?_, ?_⟩
    · apply UInt8.toNat_inj.1
      rw [UInt8.toNat_ofNat']
      omega
    · apply UInt8.toNat_inj.1
      rw [UInt8.toNat_ofNat']
      omega
    · apply UInt8.toNat_inj.1
      rw [UInt8.toNat_ofNat']
      omega
theorem firstF_frame (t r : Nm) (h : t.length ≤ 65536) : firstF (frameL t ++ r) = some t := by
  have hn : n3 (frameL t ++ r) = t.length := by
    unfold frameL
    rw [List.append_assoc, List.append_assoc]
    exact n3_be3 (by omega) _
  have hl : (frameL t ++ r).length = t.length + 7 + r.length := by rw [List.length_append, frameL_length]
  unfold firstF
  rw [hn, hl, if_neg (by omega), if_neg (by omega), if_neg (by omega)]
  have h1 : (frameL t ++ r).take (3 + t.length) = be3 t.length ++ t := by
    unfold frameL
    rw [List.append_assoc, List.take_left' (by simp [be3_length])]
  have h2 : (frameL t ++ r).drop (3 + t.length) = be4 (sumB (be3 t.length ++ t)) ++ r := by
    unfold frameL
    rw [List.append_assoc, List.drop_left' (by simp [be3_length])]
  have h3 : ((frameL t ++ r).drop 3).take t.length = t := by
    unfold frameL
    rw [List.append_assoc, List.append_assoc, List.drop_left' (be3_length _), List.take_left' rfl]
  rw [h1, h2, h3, List.take_left' (be4_length _), if_pos rfl]
theorem firstF_some {s t : Nm} (h : firstF s = some t) : t.length ≤ 65536 ∧ ∃ r, s = frameL t ++ r := by
  unfold firstF at h
  split at h
  · cases h
  rename_i h1
  split at h
  · cases h
  rename_i h2
  split at h
  · cases h
  rename_i h3
  split at h
  · rename_i h4
    simp only [Option.some.injEq] at h
    have hl : t.length = n3 s := by rw [← h, List.length_take, List.length_drop]; omega
    refine ⟨by omega, s.drop (7 + n3 s), ?_⟩
    have ht : be3 t.length ++ t = s.take (3 + n3 s) := by
      rw [hl, be3_n3 s (by omega), ← h, List.take_add]
    unfold frameL
    rw [ht, h4, List.append_assoc]
    have e : (s.drop (3 + n3 s)).take 4 ++ s.drop (7 + n3 s) = s.drop (3 + n3 s) := by
      have : s.drop (7 + n3 s) = (s.drop (3 + n3 s)).drop 4 := by rw [List.drop_drop]; congr 1; omega
      rw [this, List.take_append_drop]
    rw [e, List.take_append_drop]
  · cases h
theorem allF_enough : ∀ (k m : Nat) (s : Nm), s.length ≤ k → s.length ≤ m → allF k s = allF m s
  | 0, 0, _, _, _ => rfl
  | 0, m + 1, s, h, _ => by
    have : s = [] := List.eq_nil_of_length_eq_zero (by omega)
    subst this
    rfl
  | k + 1, 0, s, _, h => by
    have : s = [] := List.eq_nil_of_length_eq_zero (by omega)
    subst this
    rfl
  | k + 1, m + 1, s, h1, h2 => by
    unfold allF
    cases hf : firstF s with
    | none => rfl
    | some t =>
      obtain ⟨_, r, hr⟩ := firstF_some hf
      have hs : s.length = t.length + 7 + r.length := by rw [hr, List.length_append, frameL_length]
      dsimp only
      rw [allF_enough k m (s.drop (t.length + 7)) (by rw [List.length_drop]; omega) (by rw [List.length_drop]; omega)]
theorem parse_none {s : Nm} (h : firstF s = none) : parse s = [] := by
  unfold parse
  cases hs : s.length with
  | zero => rfl
  | succ k => unfold allF; rw [h]
theorem parse_some {s t : Nm} (h : firstF s = some t) : parse s = t :: parse (s.drop (t.length + 7)) := by
  obtain ⟨_, r, hr⟩ := firstF_some h
  have hs : s.length = t.length + 7 + r.length := by rw [hr, List.length_append, frameL_length]
  unfold parse
  cases hl : s.length with
  | zero => omega
  | succ k =>
    rw [allF, h]
    dsimp only
    rw [allF_enough k (s.drop (t.length + 7)).length (s.drop (t.length + 7)) (by rw [List.length_drop]; omega) (Nat.le_refl _)]
theorem parse_cons (t r : Nm) (h : t.length ≤ 65536) : parse (frameL t ++ r) = t :: parse r := by
  rw [parse_some (firstF_frame t r h), List.drop_left' (frameL_length t)]
theorem parse_frames : ∀ (ts : List Nm) (r : Nm), (∀ t ∈ ts, t.length ≤ 65536) → parse (frames ts ++ r) = ts ++ parse r
  | [], _, _ => rfl
  | t :: ts, r, h => by
    rw [frames_cons, List.append_assoc, parse_cons _ _ (h t (by simp)), parse_frames ts r (fun x hx => h x (by simp [hx]))]
    rfl
theorem parse_all (ts : List Nm) (h : ∀ t ∈ ts, t.length ≤ 65536) : parse (frames ts) = ts := by
  have := parse_frames ts [] h
  rw [List.append_nil] at this
  rw [this, parse_none (by rfl), List.append_nil]
/-- what is read: frames, and what comes behind them begins with none -/
theorem parse_parts (s : Nm) : ∃ r, s = frames (parse s) ++ r ∧ firstF r = none ∧ ∀ t ∈ parse s, t.length ≤ 65536 := by
  suffices h : ∀ (k : Nat) (s : Nm), s.length ≤ k → ∃ r, s = frames (parse s) ++ r ∧ firstF r = none ∧ ∀ t ∈ parse s, t.length ≤ 65536 from h s.length s (Nat.le_refl _)
  intro k
  induction k with
  | zero =>
    intro s hs
    have : s = [] := List.eq_nil_of_length_eq_zero (by omega)
    subst this
    exact ⟨[], rfl, rfl, fun t ht => absurd ht List.not_mem_nil⟩
  | succ k ih =>
    intro s hs
    cases hf : firstF s with
    | none => exact ⟨s, by rw [parse_none hf]; rfl, hf, by rw [parse_none hf]; exact fun t ht => absurd ht List.not_mem_nil⟩
    | some t =>
      obtain ⟨ht, r, hr⟩ := firstF_some hf
      have hl : s.length = t.length + 7 + r.length := by rw [hr, List.length_append, frameL_length]
      obtain ⟨r', h1, h2, h3⟩ := ih r (by omega)
      have hp : parse s = t :: parse r := by rw [hr]; exact parse_cons t r ht
      refine ⟨r', by rw [hp, frames_cons, List.append_assoc, ← h1, hr], h2, ?_⟩
      rw [hp]
      intro x hx
      rcases List.mem_cons.1 hx with rfl | hx
      · exact ht
      · exact h3 x hx
theorem parse_flen (s : Nm) : flen (parse s) ≤ s.length := by
  obtain ⟨r, h, _⟩ := parse_parts s
  rw [← frames_length]
  conv => rhs; rw [h]
  rw [List.length_append]
  omega
theorem parse_take (s : Nm) : s.take (flen (parse s)) = frames (parse s) := by
  obtain ⟨r, h, _⟩ := parse_parts s
  conv => lhs; rw [h]
  rw [← frames_length]
  have : (frames (parse (frames (parse s) ++ r))) = frames (parse s) := by rw [← h]
  rw [this, List.take_left' rfl]
/-- a frame that is torn is none -/
theorem firstF_torn {s : Nm} {t : Nm} (h : s <+: frameL t) (hl : s.length < t.length + 7) (ht : t.length ≤ 65536) : firstF s = none := by
  obtain ⟨r, hr⟩ := h
  cases hf : firstF s with
  | none => rfl
  | some u =>
    obtain ⟨hu, r', hr'⟩ := firstF_some hf
    have h1 : firstF (frameL t ++ []) = some t := firstF_frame t [] ht
    have h2 : firstF (frameL u ++ (r' ++ r)) = some u := firstF_frame u _ hu
    rw [List.append_nil, ← hr, hr', List.append_assoc, h2] at h1
    simp only [Option.some.injEq] at h1
    rw [hr', List.length_append, frameL_length, h1] at hl
    omega
end Go.Proofs.YtndjnkjcfdaegaaGreatDoor

/-
  Numbers as bytes, plain: how they are laid, and read. No conditions of its own.
-/
namespace Go.Proofs.YtndjnkjcfdaegaaGreatDoor

/-- in how many bytes a number below 256^k can be written -/
def oszF : Nat → Nat → Nat
  | 0, _ => 0
  | k + 1, m => bif m == 0 then 0 else oszF k (m / 256) + 1
def osz (m : Nat) : Nat := oszF 8 m
/-- a number's lowest k bytes, the highest one first -/
def ohigh (m : Nat) : Nat → Nm
  | 0 => []
  | k + 1 => ohigh (m / 256) k ++ [UInt8.ofNat (m % 256)]
/-- a number without its sign -/
def mag (n : Int) : Nat := bif decide (n < 0) then (-(n + 1)).toNat else n.toNat
/-- a number's bytes -/
def layI (n : Int) : Nm := UInt8.ofNat ((bif decide (n < 0) then 128 else 0) + osz (mag n)) :: ohigh (mag n) (osz (mag n))
/-- what bytes say, the highest one first -/
def onum (s : Nm) : Nat := s.foldl (fun n x => 256 * n + x.toNat) 0
/-- do bytes begin with no number? -/
def headBad (h : UInt8) (t : Nm) : Bool := decide (8 < h.toNat % 128) || (decide (t.length < h.toNat % 128) || ((decide (0 < h.toNat % 128) && ((t.getD 0 0).toNat == 0)) || (decide (h.toNat % 128 = 8) && decide (127 < (t.getD 0 0).toNat))))
def headVal (h : UInt8) (t : Nm) : Int := bif decide (127 < h.toNat) then -(onum (t.take (h.toNat % 128)) : Int) - 1 else (onum (t.take (h.toNat % 128)) : Int)
/-- the number with which bytes begin, and how many bytes it has -/
def headI : Nm → Option (Int × Nat)
  | [] => none
  | h :: t => bif headBad h t then none else some (headVal h t, 1 + h.toNat % 128)

theorem ohigh_length : ∀ (k m : Nat), (ohigh m k).length = k
  | 0, _ => rfl
  | k + 1, m => by simp [ohigh, ohigh_length k]
theorem onum_append (s : Nm) (x : UInt8) : onum (s ++ [x]) = 256 * onum s + x.toNat := by simp [onum]
theorem onum_ohigh : ∀ (k m : Nat), m < 256 ^ k → onum (ohigh m k) = m
  | 0, m, h => by
    have : m = 0 := by simpa using h
    subst this
    rfl
  | k + 1, m, h => by
    have h2 : m / 256 < 256 ^ k := by rw [Nat.div_lt_iff_lt_mul (by omega)]; rw [Nat.pow_succ] at h; exact h
    have h3 : (UInt8.ofNat (m % 256)).toNat = m % 256 := by simp
    rw [ohigh, onum_append, onum_ohigh k _ h2, h3]
    omega
theorem snocInd {α : Type} {P : List α → Prop} (h0 : P []) (h1 : ∀ s x, P s → P (s ++ [x])) (s : List α) : P s := by
  have : ∀ t : List α, P t.reverse := by
    intro t
    induction t with
    | nil => exact h0
    | cons x t ih => rw [List.reverse_cons]; exact h1 _ _ ih
  have h := this s.reverse
  rwa [List.reverse_reverse] at h
theorem onum_lt (s : Nm) : onum s < 256 ^ s.length := by
  induction s using snocInd with
  | h0 => simp [onum]
  | h1 s x ih =>
    have hx := x.toNat_lt
    rw [onum_append, List.length_append, List.length_singleton, Nat.pow_succ]
    omega
theorem oszF_le : ∀ (k m : Nat), oszF k m ≤ k
  | 0, _ => Nat.le_refl _
  | k + 1, m => by
    unfold oszF
    cases m == 0
    · have := oszF_le k (m / 256); simp only [cond_false]; omega
    · simp
theorem osz_le (m : Nat) : osz m ≤ 8 := oszF_le 8 m
theorem lt_oszF : ∀ (k m : Nat), m < 256 ^ k → m < 256 ^ oszF k m
  | 0, m, h => h
  | k + 1, m, h => by
    unfold oszF
    by_cases h0 : m = 0
    · subst h0; simp
    · have hb : (m == 0) = false := by simpa using h0
      have h2 : m / 256 < 256 ^ k := by rw [Nat.div_lt_iff_lt_mul (by omega)]; rw [Nat.pow_succ] at h; exact h
      have := lt_oszF k _ h2
      rw [hb, cond_false, Nat.pow_succ]
      omega
theorem pow8 : (256 : Nat) ^ 8 = 18446744073709551616 := by decide
theorem lt_osz {m : Nat} (h : m < 18446744073709551616) : m < 256 ^ osz m := lt_oszF 8 m (by rw [pow8]; exact h)
theorem oszF_lo : ∀ (k m : Nat), 0 < oszF k m → 256 ^ (oszF k m - 1) ≤ m
  | 0, m, h => absurd h (Nat.lt_irrefl _)
  | k + 1, m, h => by
    unfold oszF at h ⊢
    by_cases h0 : m = 0
    · subst h0; simp at h
    · have hb : (m == 0) = false := by simpa using h0
      rw [hb, cond_false] at h ⊢
      rw [Nat.add_sub_cancel]
      by_cases h1 : oszF k (m / 256) = 0
      · rw [h1]; simp; omega
      · have := oszF_lo k (m / 256) (by omega)
        have e : oszF k (m / 256) = oszF k (m / 256) - 1 + 1 := by omega
        rw [e, Nat.pow_succ]
        omega
theorem oszF_step (k m : Nat) (h : m ≠ 0) : oszF (k + 1) m = oszF k (m / 256) + 1 := by
  have hb : (m == 0) = false := by simpa using h
  rw [oszF, hb, cond_false]
theorem mag_nonneg {n : Int} (h : ¬ n < 0) : mag n = n.toNat := by unfold mag; rw [decide_eq_false h]; rfl
theorem mag_neg {n : Int} (h : n < 0) : mag n = (-(n + 1)).toNat := by unfold mag; rw [decide_eq_true h]; rfl
theorem mag_lt {n : Int} (h1 : -9223372036854775808 ≤ n) (h2 : n ≤ 9223372036854775807) : mag n < 9223372036854775808 := by
  by_cases h : n < 0
  · rw [mag_neg h]; omega
  · rw [mag_nonneg h]; omega
theorem layI_length (n : Int) : (layI n).length = 1 + osz (mag n) := by unfold layI; rw [List.length_cons, ohigh_length]; omega
theorem layI_le (n : Int) : (layI n).length ≤ 9 := by have := osz_le (mag n); rw [layI_length]; omega
theorem getD_ohigh (m k : Nat) (hk : 0 < k) (hm : m < 256 ^ k) : ((ohigh m k).getD 0 0).toNat = m / 256 ^ (k - 1) := by
  induction k generalizing m with
  | zero => omega
  | succ k ih =>
    rw [Nat.add_sub_cancel]
    cases k with
    | zero =>
      simp only [ohigh, List.nil_append, List.getD_cons_zero]
      simp at hm ⊢
      omega
    | succ k =>
      have h2 : m / 256 < 256 ^ (k + 1) := by rw [Nat.div_lt_iff_lt_mul (by omega)]; rw [Nat.pow_succ] at hm; exact hm
      have e := ih (m / 256) (by omega) h2
      rw [ohigh]
      have hl : (ohigh (m / 256) (k + 1)).length = k + 1 := ohigh_length _ _
      rw [List.getD_eq_getElem?_getD, List.getElem?_append_left (by omega), ← List.getD_eq_getElem?_getD, e, Nat.add_sub_cancel, Nat.div_div_eq_div_mul, Nat.pow_succ, Nat.mul_comm]
theorem headI_lay (n : Int) (h1 : -9223372036854775808 ≤ n) (h2 : n ≤ 9223372036854775807) (r : Nm) : headI (layI n ++ r) = some (n, (layI n).length) := by
  have hm := mag_lt h1 h2
  have hm2 : mag n < 18446744073709551616 := by omega
  have hs := osz_le (mag n)
  obtain ⟨M, hM⟩ : ∃ M, M = mag n := ⟨_, rfl⟩
  obtain ⟨S, hS⟩ : ∃ S, S = osz (mag n) := ⟨_, rfl⟩
  have hhi : (UInt8.ofNat ((bif decide (n < 0) then 128 else 0) + S)).toNat = (bif decide (n < 0) then 128 else 0) + S := by
    rw [← hS] at hs
    cases decide (n < 0)
    · simp only [cond_false]; rw [UInt8.toNat_ofNat']; omega
    · simp only [cond_true]; rw [UInt8.toNat_ofNat']; omega
  have hk : ((bif decide (n < 0) then 128 else 0) + S) % 128 = S := by
    rw [← hS] at hs
    cases decide (n < 0)
    · simp only [cond_false]; omega
    · simp only [cond_true]; omega
  have hlen := layI_length n
  unfold layI at hlen ⊢
  rw [← hS, ← hM] at hlen ⊢
  rw [List.cons_append, headI]
  have hlo : M < 256 ^ S := by rw [hM, hS]; exact lt_osz hm2
  have hol : (ohigh M S).length = S := ohigh_length S M
  have hbad : headBad (UInt8.ofNat ((bif decide (n < 0) then 128 else 0) + S)) (ohigh M S ++ r) = false := by
    unfold headBad
    rw [hhi, hk, decide_eq_false (by omega), Bool.false_or, decide_eq_false (by rw [List.length_append, hol]; omega), Bool.false_or]
    by_cases h0 : S = 0
    · rw [decide_eq_false (by omega), decide_eq_false (by omega)]; rfl
    · have hg : ((ohigh M S ++ r).getD 0 0).toNat = M / 256 ^ (S - 1) := by
        rw [List.getD_eq_getElem?_getD, List.getElem?_append_left (by omega), ← List.getD_eq_getElem?_getD]
        exact getD_ohigh M S (by omega) hlo
      rw [hg]
      have hge : 256 ^ (S - 1) ≤ M := by
        have := oszF_lo 8 (mag n) (by have := hS; unfold osz at this; omega)
        rw [hM, hS]
        exact this
      have hpos : 0 < 256 ^ (S - 1) := Nat.pow_pos (by omega)
      have h1 : 0 < M / 256 ^ (S - 1) := Nat.div_pos hge hpos
      have hn0 : (M / 256 ^ (S - 1) == 0) = false := by
        rw [beq_eq_false_iff_ne]; omega
      rw [hn0, Bool.and_false, Bool.false_or]
      by_cases h8 : S = 8
      · rw [h8]
        have : M / 256 ^ (8 - 1) ≤ 127 := by
          have e : (256 : Nat) ^ (8 - 1) = 72057594037927936 := by decide
          rw [e]
          omega
        rw [decide_eq_false (by omega : ¬ 127 < M / 256 ^ (8 - 1)), Bool.and_false]
      · rw [decide_eq_false h8, Bool.false_and]
  rw [hbad, cond_false]
  have hval : headVal (UInt8.ofNat ((bif decide (n < 0) then 128 else 0) + S)) (ohigh M S ++ r) = n := by
    unfold headVal
    rw [hhi, hk, List.take_left' hol, onum_ohigh S M hlo, hM]
    by_cases hn : n < 0
    · rw [decide_eq_true hn, mag_neg hn]
      simp only [cond_true]
      rw [decide_eq_true (by omega), cond_true]
      omega
    · rw [decide_eq_false hn, mag_nonneg hn]
      simp only [cond_false]
      rw [decide_eq_false (by omega), cond_false]
      omega
  rw [hval, hhi, hk, hlen]
/-- what is read is a number of the machine's, and has at most nine bytes -/
theorem headI_ok {s : Nm} {n : Int} {k : Nat} (h : headI s = some (n, k)) : -9223372036854775808 ≤ n ∧ n ≤ 9223372036854775807 ∧ 1 ≤ k ∧ k ≤ s.length ∧ k ≤ 9 := by
  cases s with
  | nil => cases h
  | cons x t =>
    rw [headI] at h
    cases hb : headBad x t with
    | true => rw [hb] at h; cases h
    | false =>
      rw [hb, cond_false] at h
      simp only [Option.some.injEq, Prod.mk.injEq] at h
      obtain ⟨rfl, rfl⟩ := h
      unfold headBad at hb
      rw [Bool.or_eq_false_iff, Bool.or_eq_false_iff, Bool.or_eq_false_iff] at hb
      obtain ⟨h8, hl, h0, h127⟩ := hb
      simp only [decide_eq_false_iff_not, Nat.not_lt] at h8 hl
      obtain ⟨K, hK⟩ : ∃ K, K = x.toNat % 128 := ⟨_, rfl⟩
      rw [← hK] at h8 hl h0 h127 ⊢
      have hlt : onum (t.take K) < 9223372036854775808 := by
        by_cases hk8 : K = 8
        · rw [decide_eq_true hk8, Bool.true_and, decide_eq_false_iff_not] at h127
          subst hk8
          match t, hl with
          | [a, b, c, d, e, f, g, i], _ | a :: b :: c :: d :: e :: f :: g :: i :: _ :: _, _ =>
            have := a.toNat_lt; have := b.toNat_lt; have := c.toNat_lt; have := d.toNat_lt; have := e.toNat_lt; have := f.toNat_lt; have := g.toNat_lt; have := i.toNat_lt
            simp only [List.getD_cons_zero, Nat.not_lt] at h127
            simp only [onum, List.take_succ_cons, List.take_zero, List.foldl_cons, List.foldl_nil]
            omega
        · have := onum_lt (t.take K)
          have hl2 : (t.take K).length = K := by rw [List.length_take]; omega
          rw [hl2] at this
          have h7 : 256 ^ K ≤ 256 ^ 7 := Nat.pow_le_pow_right (by omega) (by omega)
          have e7 : (256 : Nat) ^ 7 = 72057594037927936 := by decide
          omega
      unfold headVal
      rw [← hK, List.length_cons]
      cases decide (127 < x.toNat)
      · simp only [cond_false]; omega
      · simp only [cond_true]; omega
end Go.Proofs.YtndjnkjcfdaegaaGreatDoor

/-
  Rows of structs, whatever the struct: how a slice of them reads. Plain lemmas, over any program. No conditions of its own.
-/
namespace Go.Proofs.YtndjnkjcfdaegaaGreatDoor
open Go.RowKit

/-- How a struct lies in memory: its cells, one behind the other. -/
structure Codec (α : Type) where
  cells : α → List Value
  size : Nat
  len : ∀ a, (cells a).length = size
  one : ∀ a, ∀ u ∈ cells a, u.oneCell' = true
  pos : 0 < size

section
variable {α : Type} (C : Codec α)
def rowsOf (l : List α) : List Value := l.flatMap C.cells
theorem rowsOf_cons (a : α) (l : List α) : rowsOf C (a :: l) = C.cells a ++ rowsOf C l := by simp [rowsOf]
theorem rowsOf_append (a b : List α) : rowsOf C (a ++ b) = rowsOf C a ++ rowsOf C b := by simp [rowsOf]
theorem rowsOf_one (a : α) : rowsOf C [a] = C.cells a := by simp [rowsOf]
theorem rowsOf_length (l : List α) : (rowsOf C l).length = l.length * C.size := by
  induction l with
  | nil => simp [rowsOf]
  | cons a l ih => rw [rowsOf_cons, List.length_append, ih, C.len, List.length_cons, Nat.succ_mul]; omega
theorem rowsOf_ones (l : List α) : ∀ u ∈ rowsOf C l, u.oneCell' = true := by
  intro u hu
  simp only [rowsOf, List.mem_flatMap] at hu
  obtain ⟨a, _, ha⟩ := hu
  exact C.one a u ha
theorem rowsOf_take (l : List α) (k : Nat) : (rowsOf C l).take (k * C.size) = rowsOf C (l.take k) := by
  by_cases hk : k ≤ l.length
  · have e : rowsOf C l = rowsOf C (l.take k) ++ rowsOf C (l.drop k) := by rw [← rowsOf_append, List.take_append_drop]
    rw [e, List.take_left' (by rw [rowsOf_length, List.length_take, Nat.min_eq_left hk])]
  · have : l.length * C.size ≤ k * C.size := Nat.mul_le_mul_right _ (by omega)
    rw [List.take_of_length_le (by rw [rowsOf_length]; omega), List.take_of_length_le (by omega)]
theorem rowsOf_drop (l : List α) (k : Nat) : (rowsOf C l).drop (k * C.size) = rowsOf C (l.drop k) := by
  by_cases hk : k ≤ l.length
  · have e : rowsOf C l = rowsOf C (l.take k) ++ rowsOf C (l.drop k) := by rw [← rowsOf_append, List.take_append_drop]
    rw [e, List.drop_left' (by rw [rowsOf_length, List.length_take, Nat.min_eq_left hk])]
  · have : l.length * C.size ≤ k * C.size := Nat.mul_le_mul_right _ (by omega)
    rw [List.drop_of_length_le (by rw [rowsOf_length]; omega), List.drop_of_length_le (by omega)]; rfl
theorem rowsOf_at (l : List α) (i : Nat) (h : i < l.length) (j : Nat) (hj : j < C.size) : (rowsOf C l)[i * C.size + j]? = (C.cells l[i])[j]? := by
  rw [← List.getElem?_drop, rowsOf_drop, List.drop_eq_getElem_cons h, rowsOf_cons, List.getElem?_append_left (by rw [C.len]; exact hj)]
theorem rowsOf_set (l : List α) (i : Nat) (h : i < l.length) (a : α) : rowsOf C (l.set i a) = (rowsOf C l).take (i * C.size) ++ C.cells a ++ (rowsOf C l).drop ((i + 1) * C.size) := by
  rw [rowsOf_take, rowsOf_drop, List.set_eq_take_append_cons_drop, if_pos h, rowsOf_append, rowsOf_cons, List.append_assoc]

/-- A slice's value that reads so. -/
abbrev RdOf (w : World) (v : Value) (l : List α) : Prop := Reads w C.size v l.length (rowsOf C l)
/-- the cells of the element at i -/
theorem RdOf.at {w : World} {b off n c : Nat} {l : List α} (h : Reads w C.size (.slice (some ⟨b, off, none⟩) n c) n (rowsOf C l)) (i : Nat) (hi : i < l.length) : cellsAt w b (off + i * C.size) C.size = some (C.cells l[i]) := by
  have hlt : i * C.size + C.size ≤ l.length * C.size := by rw [← Nat.succ_mul]; exact Nat.mul_le_mul_right _ hi
  have hp := C.pos
  obtain ⟨b', off', c', he, _, _, _, hx⟩ := h.addr (by rw [rowsOf_length]; omega)
  simp only [Value.slice.injEq, Option.some.injEq, Addr.mk.injEq, and_true, true_and] at he
  obtain ⟨⟨rfl, rfl⟩, rfl⟩ := he
  have hl := C.len l[i]
  rw [← hl]
  refine cellsAt_of (fun j v hv => ?_) (by rw [hl]; exact hp)
  have hj : j < C.size := by rw [← hl]; exact (List.getElem?_eq_some_iff.1 hv).1
  rw [hl, Nat.add_assoc]
  exact hx _ _ (by rw [rowsOf_at C l i hi j hj]; exact hv)
/-- where there is an element, the address is known -/
theorem RdOf.addr {w : World} {a : Option Addr} {c : Nat} {l : List α} (h : RdOf C w (.slice a l.length c) l) (hl : 0 < l.length) : ∃ b off, a = some ⟨b, off, none⟩ ∧ l.length ≤ c ∧ c ≤ maxLen ∧ b < w.heap.size := by
  have : 0 < l.length * C.size := Nat.mul_pos hl C.pos
  obtain ⟨b, off, c', he, h1, h2, h3, _⟩ := Reads.addr h (by rw [rowsOf_length]; exact this)
  simp only [Value.slice.injEq, true_and] at he
  obtain ⟨rfl, rfl⟩ := he
  exact ⟨b, off, rfl, h1, h2, h3⟩
theorem RdOf.len {w : World} {v : Value} {l : List α} (h : RdOf C w v l) : l.length ≤ maxLen := by
  rcases h.shape with ⟨_, h0⟩ | ⟨_, c', he, h1, h2, _⟩
  · simp [h0]
  · omega
end

/-- the first place of which pr is true; -1: there is none -/
def firstOf {α : Type} (pr : α → Bool) (l : List α) : Int := match l.findIdx? pr with | some k => k | none => -1
theorem firstOf_at {α : Type} (pr : α → Bool) (l : List α) (k : Nat) (hk : k < l.length) (hno : ∀ j, (h : j < k) → (h2 : j < l.length) → pr l[j] = false) (hp : pr l[k] = true) : firstOf pr l = k := by
  have : l.findIdx? pr = some k := by
    rw [List.findIdx?_eq_some_iff_getElem]
    exact ⟨hk, hp, fun j hj => by simpa using hno j hj (by omega)⟩
  simp [firstOf, this]
theorem firstOf_none {α : Type} (pr : α → Bool) (l : List α) (hno : ∀ j, (h2 : j < l.length) → pr l[j] = false) : firstOf pr l = -1 := by
  have : l.findIdx? pr = none := by
    rw [List.findIdx?_eq_none_iff]
    intro x hx
    obtain ⟨j, hj, rfl⟩ := List.getElem_of_mem hx
    exact hno j hj
  simp [firstOf, this]
/-- either none, or a place -/
theorem firstOf_cases {α : Type} (pr : α → Bool) (l : List α) : (firstOf pr l = -1 ∧ ∀ a ∈ l, pr a = false) ∨ ∃ k : Nat, firstOf pr l = k ∧ ∃ hk : k < l.length, pr l[k] = true ∧ ∀ j, (h : j < k) → (h2 : j < l.length) → pr l[j] = false := by
  cases hf : l.findIdx? pr with
  | none =>
    refine .inl ⟨by simp [firstOf, hf], ?_⟩
    rw [List.findIdx?_eq_none_iff] at hf
    exact hf
  | some k =>
    have h2 := hf
    rw [List.findIdx?_eq_some_iff_getElem] at hf
    obtain ⟨hk, hp, hno⟩ := hf
    exact .inr ⟨k, by simp [firstOf, h2], hk, hp, fun j hj _ => by simpa using hno j hj⟩

/-- A function value that answers pr of each struct, and turns nothing that was there, whatever becomes of S. -/
structure AnswersOf {α : Type} (C : Codec α) (P : Program) (S : Nat → Prop) (w0 : World) (fid : Nat) (first captured : Array Value) (pr : α → Bool) : Prop where
  call : ∀ args w, Sem.run P (callFunc fid args) w = .ok (.enter fid args) w
  ans : ∀ w p, Keeps S w0 w → Calls P fid (first.push (.agg (C.cells p).toArray) ++ captured) w fun e w' => e = .returned (.bool (pr p)) ∧ Keeps No w w'

end Go.Proofs.YtndjnkjcfdaegaaGreatDoor

/-
  Entities, commands and worlds as plain data; their masks. Plain Lean. No conditions of its own.
-/
namespace Go.Proofs.YtndjnkjcfdaegaaGreatDoor
open Go.RowKit

/-- An entity: its name, and its components. -/
structure Bd where
  s : Int
  i : Int
  g : Int
  m : Int
  x : Int
  y : Int
  vx : Int
  vy : Int
  hp : Int
  pw : Int
  lf : Int
def Bd.zero : Bd := ⟨0, 0, 0, 0, 0, 0, 0, 0, 0, 0, 0⟩
/-- A name. -/
structure Nam where
  s : Int
  i : Int
  g : Int
def Bd.id (b : Bd) : Nam := ⟨b.s, b.i, b.g⟩
/-- A command. -/
structure Cm where
  k : Int
  s : Int
  i : Int
  g : Int
  b : Bd
  m : Int
def Cm.id (c : Cm) : Nam := ⟨c.s, c.i, c.g⟩
/-- What an entity takes. -/
structure Ht where
  s : Int
  i : Int
  g : Int
  n : Int
def Ht.id (h : Ht) : Nam := ⟨h.s, h.i, h.g⟩
abbrev bdC (b : Bd) : List Value := [.int .i64 b.s, .int .i64 b.i, .int .i64 b.g, .int .i64 b.m, .int .i64 b.x, .int .i64 b.y, .int .i64 b.vx, .int .i64 b.vy, .int .i64 b.hp, .int .i64 b.pw, .int .i64 b.lf]
abbrev namC (b : Nam) : List Value := [.int .i64 b.s, .int .i64 b.i, .int .i64 b.g]
abbrev cmC (c : Cm) : List Value := [.int .i64 c.k, .int .i64 c.s, .int .i64 c.i, .int .i64 c.g, .int .i64 c.b.s, .int .i64 c.b.i, .int .i64 c.b.g, .int .i64 c.b.m, .int .i64 c.b.x, .int .i64 c.b.y, .int .i64 c.b.vx, .int .i64 c.b.vy, .int .i64 c.b.hp, .int .i64 c.b.pw, .int .i64 c.b.lf, .int .i64 c.m]
def cBd : Codec Bd := ⟨bdC, 11, fun _ => rfl, fun a u h => by simp [bdC] at h; rcases h with rfl | rfl | rfl | rfl | rfl | rfl | rfl | rfl | rfl | rfl | rfl <;> rfl, by decide⟩
def cNam : Codec Nam := ⟨namC, 3, fun _ => rfl, fun a u h => by simp [namC] at h; rcases h with rfl | rfl | rfl <;> rfl, by decide⟩
def cCm : Codec Cm := ⟨cmC, 16, fun _ => rfl, fun a u h => by simp [cmC] at h; rcases h with rfl | rfl | rfl | rfl | rfl | rfl | rfl | rfl | rfl | rfl | rfl | rfl | rfl | rfl | rfl | rfl <;> rfl, by decide⟩
/-- a number as the machine has it -/
def i64 (n : Int) : Prop := -9223372036854775808 ≤ n ∧ n ≤ 9223372036854775807
structure Bd.ok (b : Bd) : Prop where
  s : i64 b.s
  i : i64 b.i
  g : i64 b.g
  m : i64 b.m
  x : i64 b.x
  y : i64 b.y
  vx : i64 b.vx
  vy : i64 b.vy
  hp : i64 b.hp
  pw : i64 b.pw
  lf : i64 b.lf
structure Cm.ok (c : Cm) : Prop where
  k : i64 c.k
  s : i64 c.s
  i : i64 c.i
  g : i64 c.g
  b : c.b.ok
  m : i64 c.m

/-! ### names -/
def nlt (a b : Nam) : Bool := decide (a.s < b.s) || (decide (a.s = b.s) && (decide (a.i < b.i) || (decide (a.i = b.i) && decide (a.g < b.g))))
def neq (a b : Nam) : Bool := decide (a.s = b.s) && (decide (a.i = b.i) && decide (a.g = b.g))
def cmpI (a b : Int) : Int := bif decide (a < b) then -1 else bif decide (b < a) then 1 else 0
/-- as cmp.Or does it -/
def or3 (a b c : Int) : Int := bif a == 0 then (bif b == 0 then c else b) else a
def ncmp (a b : Nam) : Int := or3 (cmpI a.s b.s) (cmpI a.i b.i) (cmpI a.g b.g)
theorem cmpI_lt {a b : Int} (h : a < b) : cmpI a b = -1 := by unfold cmpI; rw [decide_eq_true h]; rfl
theorem cmpI_gt {a b : Int} (h : b < a) : cmpI a b = 1 := by unfold cmpI; rw [decide_eq_false (by omega), decide_eq_true h]; rfl
theorem cmpI_eq (a : Int) : cmpI a a = 0 := by unfold cmpI; rw [decide_eq_false (by omega)]; rfl
theorem ncmp_lt (a b : Nam) : decide (ncmp a b < 0) = nlt a b := by
  unfold ncmp nlt
  rcases Int.lt_trichotomy a.s b.s with h | h | h
  · rw [cmpI_lt h, decide_eq_true h]; rfl
  · rw [h, cmpI_eq, decide_eq_false (by omega : ¬ b.s < b.s), decide_eq_true rfl]
    rcases Int.lt_trichotomy a.i b.i with h | h | h
    · rw [cmpI_lt h, decide_eq_true h]; rfl
    · rw [h, cmpI_eq, decide_eq_false (by omega : ¬ b.i < b.i), decide_eq_true rfl]
      rcases Int.lt_trichotomy a.g b.g with h | h | h
      · rw [cmpI_lt h, decide_eq_true h]; rfl
      · rw [h, cmpI_eq, decide_eq_false (by omega : ¬ b.g < b.g)]; rfl
      · rw [cmpI_gt h, decide_eq_false (by omega : ¬ a.g < b.g)]; rfl
    · rw [cmpI_gt h, decide_eq_false (by omega : ¬ a.i < b.i), decide_eq_false (by omega : ¬ a.i = b.i)]; rfl
  · rw [cmpI_gt h, decide_eq_false (by omega : ¬ a.s < b.s), decide_eq_false (by omega : ¬ a.s = b.s)]; rfl
theorem ncmp_eq (a b : Nam) : decide (ncmp a b = 0) = neq a b := by
  unfold ncmp neq
  rcases Int.lt_trichotomy a.s b.s with h | h | h
  · rw [cmpI_lt h, decide_eq_false (by omega : ¬ a.s = b.s)]; rfl
  · rw [h, cmpI_eq, decide_eq_true rfl]
    rcases Int.lt_trichotomy a.i b.i with h | h | h
    · rw [cmpI_lt h, decide_eq_false (by omega : ¬ a.i = b.i)]; rfl
    · rw [h, cmpI_eq, decide_eq_true rfl]
      rcases Int.lt_trichotomy a.g b.g with h | h | h
      · rw [cmpI_lt h, decide_eq_false (by omega : ¬ a.g = b.g)]; rfl
      · rw [h, cmpI_eq, decide_eq_true rfl]; rfl
      · rw [cmpI_gt h, decide_eq_false (by omega : ¬ a.g = b.g)]; rfl
    · rw [cmpI_gt h, decide_eq_false (by omega : ¬ a.i = b.i)]; rfl
  · rw [cmpI_gt h, decide_eq_false (by omega : ¬ a.s = b.s)]; rfl
theorem neq_iff (a b : Nam) : neq a b = true ↔ a = b := by
  unfold neq
  obtain ⟨s, i, g⟩ := a
  obtain ⟨s', i', g'⟩ := b
  simp
theorem nlt_iff (a b : Nam) : nlt a b = true ↔ a.s < b.s ∨ a.s = b.s ∧ (a.i < b.i ∨ a.i = b.i ∧ a.g < b.g) := by
  unfold nlt
  simp
theorem nlt_irrefl (a : Nam) : nlt a a = false := by
  rw [Bool.eq_false_iff]; intro h; rw [nlt_iff] at h; omega
theorem nlt_trans {a b c : Nam} (h : nlt a b = true) (k : nlt b c = true) : nlt a c = true := by
  rw [nlt_iff] at *; omega
theorem nlt_asymm {a b : Nam} (h : nlt a b = true) : nlt b a = false := by
  rw [Bool.eq_false_iff]; intro k; rw [nlt_iff] at *; omega
theorem nlt_or {a b : Nam} (h : nlt a b = false) : nlt b a = true ∨ a = b := by
  obtain ⟨s, i, g⟩ := a
  obtain ⟨s', i', g'⟩ := b
  rw [Bool.eq_false_iff, Ne, nlt_iff] at h
  rw [nlt_iff]
  simp only [Nam.mk.injEq] at *
  omega

/-! ### masks -/
def hasB (m c : Int) : Bool := decide (m / c % 2 = 1)
theorem toNat_ofInt64 (m : Int) : (BitVec.ofInt 64 m).toNat = (m % 18446744073709551616).toNat := by simp [BitVec.toNat_ofInt]
theorem and_pow (M k : Nat) : M &&& 2 ^ k = bif M.testBit k then 2 ^ k else 0 := by
  apply Nat.eq_of_testBit_eq
  intro i
  rw [Nat.testBit_and, Nat.testBit_two_pow]
  by_cases h : k = i
  · subst h
    cases M.testBit k <;> simp
  · rw [decide_eq_false h, Bool.and_false]
    cases M.testBit k
    · simp
    · simp [h]
theorem and_bit (m : Int) (k : Nat) (c : Int) (hc : c = ((2 ^ k : Nat) : Int)) (hc0 : 0 ≤ c) (hc1 : c < 9223372036854775808) : bits .and .i64 m c = bif (m % 18446744073709551616).toNat.testBit k then c else 0 := by
  have h2 : (BitVec.ofInt 64 c).toNat = 2 ^ k := by
    rw [toNat_ofInt64]; omega
  show IntKind.i64.wrap ((BitVec.ofInt 64 m &&& BitVec.ofInt 64 c).toNat : Int) = _
  rw [BitVec.toNat_and, h2, toNat_ofInt64, and_pow]
  cases ((m % 18446744073709551616).toNat.testBit k)
  · simp [IntKind.wrap_i64]
  · simp only [cond_true]; rw [IntKind.wrap_i64, ← hc]; omega
theorem bit_is (m : Int) (k : Nat) (c : Int) (hd : (m % 18446744073709551616).toNat / 2 ^ k % 2 = (m / c % 2).toNat) : (m % 18446744073709551616).toNat.testBit k = hasB m c := by
  unfold hasB
  rw [Nat.testBit_eq_decide_div_mod_eq, hd]
  have h : m / c % 2 = 0 ∨ m / c % 2 = 1 := by omega
  rcases h with h | h <;> rw [h] <;> rfl
/-- an entity has a component -/
theorem has_spelled (m : Int) : bits .and .i64 m 1 = (bif hasB m 1 then 1 else 0) ∧ bits .and .i64 m 2 = (bif hasB m 2 then 2 else 0) ∧ bits .and .i64 m 4 = (bif hasB m 4 then 4 else 0) ∧ bits .and .i64 m 8 = (bif hasB m 8 then 8 else 0) ∧ bits .and .i64 m 16 = (bif hasB m 16 then 16 else 0) := by
  have go : ∀ (k : Nat) (c : Int), c = ((2 ^ k : Nat) : Int) → 0 ≤ c → c < 9223372036854775808 → (m % 18446744073709551616).toNat / 2 ^ k % 2 = (m / c % 2).toNat → bits .and .i64 m c = (bif hasB m c then c else 0) := by
    intro k c hc h0 h1 hd
    rw [and_bit m k c hc h0 h1, bit_is m k c hd]
  exact ⟨go 0 1 (by decide) (by omega) (by omega) (by omega), go 1 2 (by decide) (by omega) (by omega) (by omega), go 2 4 (by decide) (by omega) (by omega) (by omega), go 3 8 (by decide) (by omega) (by omega) (by omega), go 4 16 (by decide) (by omega) (by omega) (by omega)⟩
end Go.Proofs.YtndjnkjcfdaegaaGreatDoor

/-
  Files in the order of their names, as plain lists. No conditions of its own.
-/
namespace Go.Proofs.YtndjnkjcfdaegaaGreatDoor
open Go.WideAt Go.WideShapes

theorem rising_mid {A B : Fs} {x : Nm × Fi} (h : Rising (A ++ x :: B)) : (∀ a ∈ A, bytesBefore a.1 x.1 = true) ∧ (∀ c ∈ B, bytesBefore x.1 c.1 = true) := by
  unfold Rising at h
  rw [List.pairwise_append] at h
  obtain ⟨_, h2, h3⟩ := h
  rw [List.pairwise_cons] at h2
  exact ⟨fun a ha => h3 a ha x (by simp), fun c hc => h2.1 c hc⟩
theorem before_ne {a b : Nm} (h : bytesBefore a b = true) : a ≠ b := by
  rintro rfl
  rw [bytes_irrefl] at h
  cases h
theorem before_asymm {a b : Nm} (h : bytesBefore a b = true) : bytesBefore b a = false := by
  cases hb : bytesBefore b a
  · rfl
  · have := bytes_trans _ _ _ h hb
    rw [bytes_irrefl] at this
    cases this
theorem getF_mid {A B : Fs} {n : Nm} {f : Fi} (h : Rising (A ++ (n, f) :: B)) : getF (A ++ (n, f) :: B) n = some f := by
  obtain ⟨h1, _⟩ := rising_mid h
  unfold getF
  rw [List.find?_append]
  have : A.find? (isNm n) = none := by
    rw [List.find?_eq_none]
    intro a ha
    simpa [isNm] using before_ne (h1 a ha)
  rw [this]
  simp [isNm]
theorem delF_mid {A B : Fs} {n : Nm} {f : Fi} (h : Rising (A ++ (n, f) :: B)) : delF (A ++ (n, f) :: B) n = A ++ B := by
  obtain ⟨h1, h2⟩ := rising_mid h
  unfold delF
  rw [List.filter_append, List.filter_cons]
  have e1 : A.filter (fun p => !isNm n p) = A := by
    rw [List.filter_eq_self]
    intro a ha
    simpa [isNm] using before_ne (h1 a ha)
  have e2 : B.filter (fun p => !isNm n p) = B := by
    rw [List.filter_eq_self]
    intro a ha
    have := before_ne (h2 a ha)
    simpa [isNm] using fun e => this e.symm
  rw [e1, e2]
  simp [isNm]
theorem insF_mid {n : Nm} {f : Fi} {B : Fs} (h2 : ∀ c ∈ B, bytesBefore n c.1 = true) : ∀ {A : Fs}, (∀ a ∈ A, bytesBefore a.1 n = true) → insF (n, f) (A ++ B) = A ++ (n, f) :: B
  | [], _ => by
    cases B with
    | nil => rfl
    | cons c B =>
      have := h2 c (by simp)
      simp [insF, this]
  | a :: A, h1 => by
    have h := before_asymm (h1 a (by simp))
    have ih := insF_mid (f := f) h2 (A := A) (fun x hx => h1 x (by simp [hx]))
    simp only [List.cons_append, insF, h, Bool.false_eq_true, if_false, ih]
theorem putF_mid {A B : Fs} {n : Nm} {f g : Fi} (h : Rising (A ++ (n, f) :: B)) : putF (A ++ (n, f) :: B) n g = A ++ (n, g) :: B := by
  obtain ⟨h1, h2⟩ := rising_mid h
  unfold putF
  rw [delF_mid h]
  exact insF_mid h2 h1
theorem putF_new {A B : Fs} {n : Nm} {f : Fi} (h1 : ∀ a ∈ A, bytesBefore a.1 n = true) (h2 : ∀ c ∈ B, bytesBefore n c.1 = true) : putF (A ++ B) n f = A ++ (n, f) :: B := by
  have hg : getF (A ++ B) n = none := by
    unfold getF
    simp
    refine ⟨fun a x hx => ?_, fun a x hx => ?_⟩
    · simpa [isNm] using before_ne (h1 _ hx)
    · have := before_ne (h2 _ hx)
      simpa [isNm] using fun e => this e.symm
  unfold putF
  rw [delF_none hg]
  exact insF_mid h2 h1

/-- a file behind a crash -/
def crashK (keep : Int) (f : Fi) : Nat := f.k + (max 0 (min keep ((f.s.size : Int) - f.k))).toNat
def crashF (keep : Int) (f : Fi) : Fi := ⟨f.s.extract 0 (crashK keep f), crashK keep f⟩
def crashP (keep : Int) (p : Nm × Fi) : Nm × Fi := (p.1, crashF keep p.2)
theorem crashK_le (keep : Int) {f : Fi} (h : f.k ≤ f.s.size) : crashK keep f ≤ f.s.size := by unfold crashK; omega
theorem crashF_ok (keep : Int) {f : Fi} (h : FileOk f) : FileOk (crashF keep f) := by
  have h2 := crashK_le keep h.2
  have h3 : (crashF keep f).s.size = crashK keep f := by simp [crashF]; omega
  refine ⟨?_, ?_⟩
  · rw [h3]; exact Nat.le_trans h2 h.1
  · rw [h3]; exact Nat.le_refl _
theorem crash_length (keep : Int) (fs : Fs) (k : Nat) (hk : k ≤ fs.length) : ((fs.take k).map (crashP keep) ++ fs.drop k).length = fs.length := by simp; omega
theorem crash_names (keep : Int) (fs : Fs) (k : Nat) : ((fs.take k).map (crashP keep) ++ fs.drop k).map (·.1) = fs.map (·.1) := by
  rw [List.map_append, List.map_map]
  have : ((fun x : Nm × Fi => x.1) ∘ crashP keep) = fun x => x.1 := rfl
  rw [this, ← List.map_append, List.take_append_drop]
theorem rising_names {fs gs : Fs} (h : fs.map (·.1) = gs.map (·.1)) (hr : Rising fs) : Rising gs := by
  have h1 : (fs.map (·.1)).Pairwise (fun a b => bytesBefore a b = true) := by rw [List.pairwise_map]; exact hr
  rw [h, List.pairwise_map] at h1
  exact h1
/-- one step of a crash -/
theorem crash_step (keep : Int) {fs : Fs} (hr : Rising fs) (k : Nat) (hk : k < fs.length) :
    getF ((fs.take k).map (crashP keep) ++ fs.drop k) fs[k].1 = some fs[k].2 ∧ putF ((fs.take k).map (crashP keep) ++ fs.drop k) fs[k].1 (crashF keep fs[k].2) = (fs.take (k + 1)).map (crashP keep) ++ fs.drop (k + 1) := by
  have hR : Rising ((fs.take k).map (crashP keep) ++ fs.drop k) := rising_names (crash_names keep fs k).symm hr
  have e : (fs.take k).map (crashP keep) ++ fs.drop k = (fs.take k).map (crashP keep) ++ (fs[k].1, fs[k].2) :: fs.drop (k + 1) := by rw [List.drop_eq_getElem_cons hk]
  rw [e] at hR ⊢
  refine ⟨getF_mid hR, ?_⟩
  rw [putF_mid hR, List.take_succ_eq_append_getElem hk, List.map_append, List.append_assoc]
  rfl

end Go.Proofs.YtndjnkjcfdaegaaGreatDoor

/-
  disk.New, find, open, Cut, Dead, Read, Size. No conditions of their own.
-/
namespace Go.Proofs.YtndjnkjcfdaegaaGreatDoor
open Go.RowKit

/-- what find finds: the file, and the error -/
def findE (fs : Fs) (n : ByteArray) : Fi × Int :=
  bif decide ((n.size : Int) < 1) then (Fi.none, 1) else bif decide ((32 : Int) < (n.size : Int)) then (Fi.none, 1) else
    match getF fs n.data.toList with
    | some f => (f, 0)
    | none => (Fi.none, 6)
/-- what open finds -/
def openE (fs : Fs) (dead : Bool) (n : ByteArray) : Fi × Int := bif (findE fs n).2 != 1 && dead then (Fi.none, 12) else findE fs n
theorem findE_cases (fs : Fs) (n : ByteArray) : (findE fs n = (Fi.none, 1)) ∨ (findE fs n = (Fi.none, 6) ∧ getF fs n.data.toList = none ∧ 1 ≤ n.size ∧ n.size ≤ 32) ∨ ∃ f, findE fs n = (f, 0) ∧ getF fs n.data.toList = some f ∧ 1 ≤ n.size ∧ n.size ≤ 32 := by
  unfold findE
  cases h1 : decide ((n.size : Int) < 1)
  · cases h2 : decide ((32 : Int) < (n.size : Int))
    · have e1 := of_decide_eq_false h1
      have e2 := of_decide_eq_false h2
      cases hg : getF fs n.data.toList with
      | none => exact .inr (.inl ⟨rfl, rfl, by omega, by omega⟩)
      | some f => exact .inr (.inr ⟨f, rfl, rfl, by omega, by omega⟩)
    · exact .inl rfl
  · exact .inl rfl

abbrev dP (p : Nat) : Value := .pointer (some ⟨p, 0, none⟩)

section
variable {w : World} {p b : Nat} {fs : Fs} {room : Int} {dead : Bool}

theorem new_any (w : World) : Calls Tryz.prog 5 #[] w fun e w' => e = .returned (dP (w.heap.size + 1)) ∧ DiskAt w' (w.heap.size + 1) w.heap.size [] 4611686018427387904 false ∧ Keeps No w w' := by
  have hmm := @run_makeMap Tryz.prog
  go_enter Tryz.func5, Tryz.ntmps5
  go_wp2
  go_ret
  refine ⟨rfl, ⟨?_, ?_, by simp, by simp, by simp, by omega, by omega⟩, ((Keeps.refl (S := No) w).alloc _).alloc _⟩
  · have := heap_alloc_new (w.alloc (.map #[] 0)) (.cells #[.map (some w.heap.size), .int .i64 4611686018427387904, .bool false] 56)
    simpa using this
  · exact own_kept (S := No) (World.ownsMap_made (H := Unit) w Tryz.prog 9 fileElem) ((Keeps.refl _).alloc _) (fun h => h)

set_option maxRecDepth 100000 in
set_option maxHeartbeats 1000000 in
theorem find_any (hd : DiskAt w p b fs room dead) (n : ByteArray) (fx : Fi) (ec : Int) (hE : findE fs n = (fx, ec)) : Calls Tryz.prog 87 #[dP p, .string n] w fun e w' => e = .returned (.tuple #[fV fx, .int .i64 ec]) ∧ Keeps No w w' := by
  have c0 := hd.cell0
  have lp := hd.lt.1
  have Hown := Lib.hid hd.own
  unfold findE at hE
  cases h1 : decide ((n.size : Int) < 1)
  · cases h2 : decide ((32 : Int) < (n.size : Int))
    · have hn : n.size ≤ maxLen := by
        have := of_decide_eq_false h2
        unfold maxLen
        omega
      have Hn := Lib.hid hn
      clear hn
      rw [h1, h2, cond_false, cond_false] at hE
      cases hg : getF fs n.data.toList with
      | none =>
        rw [hg] at hE
        simp only [Prod.mk.injEq] at hE
        have Hg := Lib.hid hg
        clear hg
        obtain ⟨rfl, rfl⟩ := hE
        go_enter Tryz.func87, Tryz.ntmps87
        go_wp2_with (at_lookup; refine wpList_files_none rfl _ _ rfl (own_kept Hown.out ((Keeps.refl (S := No) w).alloc _) (fun h => h)) rfl n rfl Hn.out Hg.out ?_)
        go_wp2
        refine bodyPost_ret (v := .tuple #[fV Fi.none, .int .i64 6]) ?_ rfl ⟨rfl, ((Keeps.refl (S := No) w).alloc _).alloc _⟩
        simp [results, Tryz.results87, go_sem, *]
      | some f =>
        rw [hg] at hE
        simp only [Prod.mk.injEq] at hE
        have Hg := Lib.hid hg
        clear hg
        obtain ⟨rfl, rfl⟩ := hE
        go_enter Tryz.func87, Tryz.ntmps87
        go_wp2_with (at_lookup; refine wpList_files_some rfl _ _ rfl (own_kept Hown.out ((Keeps.refl (S := No) w).alloc _) (fun h => h)) rfl n rfl Hn.out f Hg.out ?_)
        go_wp2
        refine bodyPost_ret (v := .tuple #[fV f, .int .i64 0]) ?_ rfl ⟨rfl, ((Keeps.refl (S := No) w).alloc _).alloc _⟩
        simp [results, Tryz.results87, go_sem, *]
    · rw [h1, h2, cond_false, cond_true] at hE
      simp only [Prod.mk.injEq] at hE
      obtain ⟨rfl, rfl⟩ := hE
      go_enter Tryz.func87, Tryz.ntmps87
      go_wp2
      refine bodyPost_ret (v := .tuple #[fV Fi.none, .int .i64 1]) ?_ rfl ⟨rfl, (Keeps.refl (S := No) w).alloc _⟩
      simp [results, Tryz.results87, go_sem, *]
  · rw [h1, cond_true] at hE
    simp only [Prod.mk.injEq] at hE
    obtain ⟨rfl, rfl⟩ := hE
    go_enter Tryz.func87, Tryz.ntmps87
    go_wp2
    refine bodyPost_ret (v := .tuple #[fV Fi.none, .int .i64 1]) ?_ rfl ⟨rfl, (Keeps.refl (S := No) w).alloc _⟩
    simp [results, Tryz.results87, go_sem, *]

/-- of no disk -/
theorem find_nil (w : World) (n : ByteArray) : Calls Tryz.prog 87 #[.pointer none, .string n] w fun e w' => e = .returned (.tuple #[fV Fi.none, .int .i64 1]) ∧ Keeps No w w' := by
  go_enter Tryz.func87, Tryz.ntmps87
  go_wp2
  refine bodyPost_ret (v := .tuple #[fV Fi.none, .int .i64 1]) ?_ rfl ⟨rfl, (Keeps.refl (S := No) w).alloc _⟩
  simp [results, Tryz.results87, go_sem, *]

set_option maxRecDepth 100000 in
set_option maxHeartbeats 1000000 in
theorem open_any (hd : DiskAt w p b fs room dead) (n : ByteArray) (fx : Fi) (ec : Int) (hE : openE fs dead n = (fx, ec)) : Calls Tryz.prog 84 #[dP p, .string n] w fun e w' => e = .returned (.tuple #[fV fx, .int .i64 ec]) ∧ Keeps No w w' := by
  obtain ⟨⟨f1, e1⟩, h1⟩ : ∃ x, findE fs n = x := ⟨_, rfl⟩
  unfold openE at hE
  rw [h1] at hE
  have Hf := Lib.hid h1
  have Hd := Lib.hid hd
  clear hd h1
  cases ha : (e1 != 1)
  · rw [ha, Bool.false_and, cond_false] at hE
    simp only [Prod.mk.injEq] at hE
    obtain ⟨rfl, rfl⟩ := hE
    go_enter Tryz.func84, Tryz.ntmps84
    go_wp2_with fail
    refine (find_any (Hd.out.kept ((Keeps.refl (S := No) w).alloc _) (fun h => h) (fun h => h)) n _ _ Hf.out).mono ?_
    rintro e w1 ⟨rfl, hk1⟩
    have p1 : cellsAt w1 w.heap.size 0 2 = some [.string ⟨#[]⟩, .int .i64 0] := hk1.cellsAt (by simp [go_sem])
    have o1 : Open w1 w.heap.size := hk1.opened (by simp [go_sem])
    have n1 : (rowD w1 w.heap.size).size = 2 := hk1.rowSize (by simp [go_sem]) (by simp [go_sem])
    have l1 : w.heap.size < w1.heap.size := by have := hk1.size; simp at this; omega
    have K1 := Lib.hid hk1
    clear hk1
    go_wp2
    refine bodyPost_ret (v := .tuple #[fV f1, .int .i64 e1]) ?_ rfl ⟨rfl, (((((Keeps.refl (S := No) w).alloc _).trans K1.out (fun _ _ h => h)).row (Nat.le_refl _) _).alloc _)⟩
    simp [results, Tryz.results84, go_sem, *]
  · rw [ha, Bool.true_and] at hE
    cases dead
    · rw [cond_false] at hE
      simp only [Prod.mk.injEq] at hE
      obtain ⟨rfl, rfl⟩ := hE
      go_enter Tryz.func84, Tryz.ntmps84
      go_wp2_with fail
      refine (find_any (Hd.out.kept ((Keeps.refl (S := No) w).alloc _) (fun h => h) (fun h => h)) n _ _ Hf.out).mono ?_
      rintro e w1 ⟨rfl, hk1⟩
      have o1 : Open w1 w.heap.size := hk1.opened (by simp [go_sem])
      have n1 : (rowD w1 w.heap.size).size = 2 := hk1.rowSize (by simp [go_sem]) (by simp [go_sem])
      have l1 : w.heap.size < w1.heap.size := by have := hk1.size; simp at this; omega
      have d1 := (Hd.out.kept (((Keeps.refl (S := No) w).alloc _).trans hk1 (fun _ _ h => h)) (fun h => h) (fun h => h))
      have c2 := d1.cell2
      have l2 := d1.lt.1
      have K1 := Lib.hid hk1
      clear hk1 d1
      go_wp2
      refine bodyPost_ret (v := .tuple #[fV f1, .int .i64 e1]) ?_ rfl ⟨rfl, (((((Keeps.refl (S := No) w).alloc _).trans K1.out (fun _ _ h => h)).row (Nat.le_refl _) _).alloc _)⟩
      simp [results, Tryz.results84, go_sem, *]
    · rw [cond_true] at hE
      simp only [Prod.mk.injEq] at hE
      obtain ⟨rfl, rfl⟩ := hE
      go_enter Tryz.func84, Tryz.ntmps84
      go_wp2_with fail
      refine (find_any (Hd.out.kept ((Keeps.refl (S := No) w).alloc _) (fun h => h) (fun h => h)) n _ _ Hf.out).mono ?_
      rintro e w1 ⟨rfl, hk1⟩
      have o1 : Open w1 w.heap.size := hk1.opened (by simp [go_sem])
      have n1 : (rowD w1 w.heap.size).size = 2 := hk1.rowSize (by simp [go_sem]) (by simp [go_sem])
      have l1 : w.heap.size < w1.heap.size := by have := hk1.size; simp at this; omega
      have d1 := (Hd.out.kept (((Keeps.refl (S := No) w).alloc _).trans hk1 (fun _ _ h => h)) (fun h => h) (fun h => h))
      have c2 := d1.cell2
      have l2 := d1.lt.1
      have K1 := Lib.hid hk1
      clear hk1 d1
      go_wp2
      refine bodyPost_ret (v := .tuple #[fV Fi.none, .int .i64 12]) ?_ rfl ⟨rfl, (((((Keeps.refl (S := No) w).alloc _).trans K1.out (fun _ _ h => h)).row (Nat.le_refl _) _).alloc _)⟩
      simp [results, Tryz.results84, go_sem, *]
theorem open_nil (w : World) (n : ByteArray) : Calls Tryz.prog 84 #[.pointer none, .string n] w fun e w' => e = .returned (.tuple #[fV Fi.none, .int .i64 1]) ∧ Keeps No w w' := by
  go_enter Tryz.func84, Tryz.ntmps84
  go_wp2_with fail
  refine (find_nil _ n).mono ?_
  rintro e w1 ⟨rfl, hk1⟩
  have o1 : Open w1 w.heap.size := hk1.opened (by simp [go_sem])
  have n1 : (rowD w1 w.heap.size).size = 2 := hk1.rowSize (by simp [go_sem]) (by simp [go_sem])
  have l1 : w.heap.size < w1.heap.size := by have := hk1.size; simp at this; omega
  have K1 := Lib.hid hk1
  clear hk1
  go_wp2
  refine bodyPost_ret (v := .tuple #[fV Fi.none, .int .i64 1]) ?_ rfl ⟨rfl, (((((Keeps.refl (S := No) w).alloc _).trans K1.out (fun _ _ h => h)).row (Nat.le_refl _) _).alloc _)⟩
  simp [results, Tryz.results84, go_sem, *]

theorem dead_any (hd : DiskAt w p b fs room dead) : Calls Tryz.prog 7 #[dP p] w fun e w' => e = .returned (.bool dead) ∧ w' = w := by
  have c2 := hd.cell2
  go_enter Tryz.func7, Tryz.ntmps7
  go_wp2
  go_ret
  exact ⟨rfl, rfl⟩
set_option maxRecDepth 100000 in
set_option maxHeartbeats 1000000 in
theorem read_any (hd : DiskAt w p b fs room dead) (n : ByteArray) (fx : Fi) (ec : Int) (hE : findE fs n = (fx, ec)) : Calls Tryz.prog 40 #[dP p, .string n] w fun e w' => e = .returned (.tuple #[.string fx.s, .int .i64 ec]) ∧ Keeps No w w' := by
  have Hd := Lib.hid hd
  clear hd
  go_enter Tryz.func40, Tryz.ntmps40
  go_wp2_with fail
  refine (find_any Hd.out n _ _ hE).mono ?_
  rintro e w1 ⟨rfl, hk1⟩
  have K1 := Lib.hid hk1
  clear hk1
  go_wp2
  refine bodyPost_ret (v := .tuple #[.string fx.s, .int .i64 ec]) ?_ rfl ⟨rfl, K1.out.alloc _⟩
  simp [results, Tryz.results40, go_sem, *]
set_option maxRecDepth 100000 in
set_option maxHeartbeats 1000000 in
theorem size_any (hd : DiskAt w p b fs room dead) (n : ByteArray) (fx : Fi) (ec : Int) (hE : findE fs n = (fx, ec)) : Calls Tryz.prog 157 #[dP p, .string n] w fun e w' => e = .returned (.tuple #[.int .i64 fx.s.size, .int .i64 fx.k, .int .i64 ec]) ∧ Keeps No w w' := by
  have Hd := Lib.hid hd
  clear hd
  go_enter Tryz.func157, Tryz.ntmps157
  go_wp2_with fail
  refine (find_any Hd.out n _ _ hE).mono ?_
  rintro e w1 ⟨rfl, hk1⟩
  have K1 := Lib.hid hk1
  clear hk1
  go_wp2_with fail
  go_region
  all_goals
    go_wp2
    refine bodyPost_ret (v := .tuple #[.int .i64 fx.s.size, .int .i64 fx.k, .int .i64 ec]) ?_ rfl ⟨rfl, (K1.out.alloc _).drew⟩
    simp [results, Tryz.results157, go_sem, *]
end
end Go.Proofs.YtndjnkjcfdaegaaGreatDoor

/-
  disk.Append, Sync, Truncate, Rename, Remove, Cut. No conditions of their own.
-/
namespace Go.Proofs.YtndjnkjcfdaegaaGreatDoor
open Go.RowKit

/-- the disk's two blocks -/
def Two (p b : Nat) : Nat → Prop := fun i => i = p ∨ i = b
abbrev withS (f : Fi) (s : ByteArray) : Fi := ⟨f.s ++ s, f.k⟩

section
variable {w : World} {p b : Nat} {fs : Fs} {room : Int} {dead : Bool}

theorem openE_cases (fs : Fs) (dead : Bool) (n : ByteArray) : openE fs dead n = (Fi.none, 1) ∨ (dead = true ∧ openE fs dead n = (Fi.none, 12) ∧ 1 ≤ n.size ∧ n.size ≤ 32) ∨ (dead = false ∧ openE fs dead n = (Fi.none, 6) ∧ getF fs n.data.toList = none ∧ 1 ≤ n.size ∧ n.size ≤ 32) ∨ ∃ f, dead = false ∧ openE fs dead n = (f, 0) ∧ getF fs n.data.toList = some f ∧ 1 ≤ n.size ∧ n.size ≤ 32 := by
  unfold openE
  rcases findE_cases fs n with h | ⟨h, hg, h1, h2⟩ | ⟨f, h, hg, h1, h2⟩
  · rw [h]
    exact .inl rfl
  · rw [h]
    cases dead
    · exact .inr (.inr (.inl ⟨rfl, rfl, hg, h1, h2⟩))
    · exact .inr (.inl ⟨rfl, rfl, h1, h2⟩)
  · rw [h]
    cases dead
    · exact .inr (.inr (.inr ⟨f, rfl, rfl, hg, h1, h2⟩))
    · exact .inr (.inl ⟨rfl, rfl, h1, h2⟩)

/-- the disk's map is another one -/
theorem DiskAt.turned {w' : World} {fs' : Fs} (h : DiskAt w p b fs room dead) (hk : Keeps (Own b) w w') (ho : w'.ownsMap Tryz.prog 9 fileElem b fs'.length (dOf fs')) (h64 : fs'.length ≤ 64) (hok : ∀ x ∈ fs', FileOk x.2) (hnm : ∀ x ∈ fs', x.1.length ≤ 32) : DiskAt w' p b fs' room dead :=
  ⟨hk.heap h.cells (fun e => h.ne e), ho, h64, hok, hnm, h.r0, h.r1⟩
theorem DiskAt.putF_ok (h : DiskAt w p b fs room dead) {n : ByteArray} {f : Fi} (hn : n.size ≤ 32) (hf : FileOk f) : (∀ x ∈ putF fs n.data.toList f, FileOk x.2) ∧ ∀ x ∈ putF fs n.data.toList f, x.1.length ≤ 32 := by
  refine ⟨fun x hx => ?_, fun x hx => ?_⟩
  · rcases mem_putF hx with rfl | hx
    · exact hf
    · exact h.ok x hx
  · rcases mem_putF hx with rfl | hx
    · simpa using hn
    · exact h.nm x hx
theorem DiskAt.delF_ok (h : DiskAt w p b fs room dead) (n : Nm) : (∀ x ∈ delF fs n, FileOk x.2) ∧ ∀ x ∈ delF fs n, x.1.length ≤ 32 :=
  ⟨fun x hx => h.ok x (List.mem_filter.1 hx).1, fun x hx => h.nm x (List.mem_filter.1 hx).1⟩

set_option maxRecDepth 100000 in
set_option maxHeartbeats 1000000 in
/-- Sync of what cannot be synced -/
theorem sync_err (hd : DiskAt w p b fs room dead) (n : ByteArray) (fx : Fi) (ec : Int) (hE : openE fs dead n = (fx, ec)) (he : (ec == 0) = false) : Calls Tryz.prog 45 #[dP p, .string n] w fun e w' => e = .returned (.int .i64 ec) ∧ Keeps No w w' := by
  have Hd := Lib.hid hd
  clear hd
  go_enter Tryz.func45, Tryz.ntmps45
  go_wp2_with fail
  refine (open_any Hd.out n _ _ hE).mono ?_
  rintro e w1 ⟨rfl, hk1⟩
  have K1 := Lib.hid hk1
  clear hk1
  go_wp2
  go_ret
  exact ⟨rfl, K1.out.alloc _⟩

set_option maxRecDepth 100000 in
set_option maxHeartbeats 1000000 in
theorem sync_ok (hd : DiskAt w p b fs room dead) (n : ByteArray) (f : Fi) (hE : openE fs dead n = (f, 0)) (hg : getF fs n.data.toList = some f) (hn : n.size ≤ 32) : Calls Tryz.prog 45 #[dP p, .string n] w fun e w' => e = .returned (.int .i64 0) ∧ DiskAt w' p b (putF fs n.data.toList ⟨f.s, f.s.size⟩) room dead ∧ Keeps (Own b) w w' := by
  have Hd := Lib.hid hd
  have Hn := Lib.hid hn
  have Hok := Lib.hid (hd.putF_ok hn (f := ⟨f.s, f.s.size⟩) ⟨(hd.get_ok hg).1, Nat.le_refl _⟩)
  have Hlen := Lib.hid (putF_length_some (f := ⟨f.s, f.s.size⟩) hg)
  clear hd hn hg
  go_enter Tryz.func45, Tryz.ntmps45
  go_wp2_with fail
  refine (open_any Hd.out n _ _ hE).mono ?_
  rintro e w1 ⟨rfl, hk1⟩
  have D1 := Lib.hid (Hd.out.kept hk1 (fun h => h) (fun h => h))
  have c0 := D1.out.cell0
  have l1 := D1.out.lt.1
  have K1 := Lib.hid hk1
  clear hk1
  go_wp2
  refine wp_world ?_
  intro W hW
  have KW : Hid (Keeps No w1 W) := by rw [hW]; exact (Keeps.refl (S := No) w1).alloc _
  have DW : Hid (DiskAt W p b fs room dead) := D1.out.kept KW.out (fun h => h) (fun h => h)
  have cW : cellsAt W w1.heap.size 0 2 = some [.string f.s, .int .i64 f.s.size] := by rw [hW]; simp [go_sem]
  have c0W := DW.out.cell0
  clear hW c0 l1
  go_still_tail 6, (by kernel_rfl)
  change wpList _ _ _ _ _ (World.drew _)
  refine wpList_files_put rfl (.tmp 22) (.tmp 23) (.tmp 24) rfl DW.out.drew.own DW.out.few rfl n rfl (Nat.le_trans Hn.out (by unfold maxLen; omega)) ⟨f.s, f.s.size⟩ rfl ?_
  intro w2 ho2 hk2
  have D2 := Lib.hid (DW.out.drew.turned hk2 ho2 (Nat.le_trans Hlen.out DW.out.few) Hok.out.1 Hok.out.2)
  have K2 := Lib.hid ((((K1.out.trans KW.out (fun _ _ h => h)).mono (T := Own b) (fun _ _ h => h.elim)).drew).trans hk2 (fun _ _ h => h))
  clear ho2 hk2
  go_wp2
  go_ret
  exact ⟨rfl, D2.out, K2.out⟩


theorem len_run (h : DiskAt w p b fs room dead) : (Builtin.len_ #[54] 3 #[.map (some b)]).run Tryz.prog w = .ok (.int .i64 fs.length) w := by
  have := h.own.len Tryz.underlying54 3
  rw [dOf_size] at this
  exact this
theorem heap_setCell_at {w : World} {p i : Nat} {cs : Array Value} {t : TypeId} (h : w.heap[p]? = some (.cells cs t (0, 0))) (v : Value) : (w.setCell ⟨p, i, none⟩ v).heap[p]? = some (.cells (cs.setIfInBounds i v) t (0, 0)) := by
  have hp := (Array.getElem?_eq_some_iff.1 h).1
  simp [World.setCell, Array.getElem?_modify, h]
theorem DiskAt.setRoom (h : DiskAt w p b fs room dead) (r : Int) (h0 : 0 ≤ r) (h1 : r ≤ 9223372036854775807) : DiskAt (w.setCell ⟨p, 1, none⟩ (.int .i64 r)) p b fs r dead :=
  ⟨heap_setCell_at h.cells _, own_kept h.own ((Keeps.refl (S := Own p) w).setCell (p := ⟨p, 1, none⟩) (fun _ => (rfl : p = p)) _) (fun e => h.ne (Eq.symm e)), h.few, h.ok, h.nm, h0, h1⟩
theorem DiskAt.setDead (h : DiskAt w p b fs room dead) (d : Bool) : DiskAt (w.setCell ⟨p, 2, none⟩ (.bool d)) p b fs room d :=
  ⟨heap_setCell_at h.cells _, own_kept h.own ((Keeps.refl (S := Own p) w).setCell (p := ⟨p, 2, none⟩) (fun _ => (rfl : p = p)) _) (fun e => h.ne (Eq.symm e)), h.few, h.ok, h.nm, h.r0, h.r1⟩

set_option maxRecDepth 100000 in
set_option maxHeartbeats 1000000 in
theorem append_all (hd : DiskAt w p b fs room false) (n s : ByteArray) (f : Fi) (ec : Int) (hE : openE fs false n = (f, ec)) (hec : ec = 0 ∨ ec = 6 ∧ fs.length < 64) (hn : n.size ≤ 32) (hf : FileOk f) (hroom : (f.s.size : Int) + s.size ≤ 4194304) (hM : (s.size : Int) ≤ room)
    (h64 : (putF fs n.data.toList (withS f s)).length ≤ 64) :
    Calls Tryz.prog 38 #[dP p, .string n, .string s] w fun e w' => e = .returned (.int .i64 0) ∧ DiskAt w' p b (putF fs n.data.toList (withS f s)) (room - s.size) false ∧ Keeps (Two p b) w w' := by
  have Hd := Lib.hid hd
  have Hn := Lib.hid hn
  have hf1 := hf.1
  have hr0 := hd.r0
  have hr1 := hd.r1
  have hw : IntKind.i64.wrap (4194304 - (f.s.size : Int)) = 4194304 - (f.s.size : Int) := by rw [IntKind.wrap_i64]; omega
  have hw2 : IntKind.i64.wrap (room - (s.size : Int)) = room - (s.size : Int) := by rw [IntKind.wrap_i64]; omega
  have hg : decide (4194304 - (f.s.size : Int) < (s.size : Int)) = false := decide_eq_false (by omega)
  have hz : (f.s ++ s).size = f.s.size + s.size := by simp
  have Hok := Lib.hid (hd.putF_ok hn (f := withS f s) ⟨by show (f.s ++ s).size ≤ _; omega, by have := hf.2; show f.k ≤ (f.s ++ s).size; omega⟩)
  have Hrr : Hid (0 ≤ room - (s.size : Int) ∧ room - (s.size : Int) ≤ 9223372036854775807) := by constructor <;> omega
  have H64 := Lib.hid h64
  have hs0 : (0 : Int) ≤ (s.size : Int) := by omega
  have hex : s.extract 0 s.size = s := by simp
  have hcat : ∀ W : World, (Op.stringOp .add f.s s).run Tryz.prog W = .ok (.string (f.s ++ s)) W := fun W => run_string_add_sum W _ _ (by omega)
  have hlast : decide ((s.size : Int) < (s.size : Int)) = false := decide_eq_false (by omega)
  clear hd hn hf1 hr0 hr1 hf h64
  rcases hec with rfl | ⟨rfl, hlen⟩
  all_goals
    try have hln : decide ((64 : Int) ≤ (fs.length : Int)) = false := decide_eq_false (by omega)
    try clear hlen
    go_enter Tryz.func38, Tryz.ntmps38
    go_wp2_with fail
    refine (open_any Hd.out n _ _ hE).mono ?_
    rintro e w1 ⟨rfl, hk1⟩
    have D1 := Lib.hid (Hd.out.kept hk1 (fun h => h) (fun h => h))
    have c0 := D1.out.cell0
    have c1 := D1.out.cell1
    have l1 := D1.out.lt.1
    have K1 := Lib.hid hk1
    clear hk1
    have hl := fun ob => len_run (D1.out.kept ((Keeps.refl (S := No) w1).alloc ob) (fun h => h) (fun h => h))
    go_wp2
    refine wp_world ?_
    intro W hW
    have KW : Hid (Keeps No w1 W) := by rw [hW]; exact (Keeps.refl (S := No) w1).alloc _
    have DW : Hid (DiskAt W p b fs room false) := D1.out.kept KW.out (fun h => h) (fun h => h)
    have cW : W.heap[w1.heap.size]? = some (.cells #[.string f.s, .int .i64 f.k] 85 (0, 0)) := by rw [hW]; exact heap_alloc_new _ _
    have cA : W.cell? ⟨w1.heap.size, 0, none⟩ = some (.string f.s) := by simp [World.cell?, cW]
    have fA : W.frozen? ⟨w1.heap.size, 0, none⟩ = false := frozen_of_row W w1.heap.size 0 _ _ cW
    clear hW c0 l1 c1 hl
    go_still_tail 7, (by kernel_rfl)
    change wpList _ _ _ _ _ (World.drew _)
    go_wp2
    refine wp_world ?_
    intro W2 hW2
    have K2 : Hid (Keeps No w1 W2) := by rw [hW2]; exact (KW.out.drew).setCell (p := ⟨w1.heap.size, 0, none⟩) (fun h => absurd h (Nat.lt_irrefl _)) _
    have D2 : Hid (DiskAt W2 p b fs room false) := D1.out.kept K2.out (fun h => h) (fun h => h)
    have cW2 : cellsAt W2 w1.heap.size 0 2 = some [.string (f.s ++ s), .int .i64 f.k] := by
      have h : W2.heap[w1.heap.size]? = some (.cells #[.string (f.s ++ s), .int .i64 f.k] 85 (0, 0)) := by rw [hW2]; exact heap_setCell_at (w := W) (i := 0) cW (.string (f.s ++ s))
      unfold cellsAt
      rw [h]
      rfl
    have c0W := D2.out.cell0
    clear hW2 cW cA fA KW DW
    go_still_tail 6, (by kernel_rfl)
    change wpList _ _ _ _ _ (World.drew _)
    refine wpList_files_put rfl (.tmp 57) (.tmp 58) (.tmp 59) rfl D2.out.drew.own D2.out.few rfl n rfl (Nat.le_trans Hn.out (by unfold maxLen; omega)) (withS f (s)) rfl ?_
    intro w3 ho3 hk3
    have D3 := Lib.hid (D2.out.drew.turned hk3 ho3 H64.out Hok.out.1 Hok.out.2)
    have K3 : Hid (Keeps (Two p b) w w3) := (((K1.out.trans K2.out (fun _ _ h => h)).mono (T := Two p b) (fun _ _ h => h.elim)).drew).trans hk3 (fun _ _ h => .inr h)
    have c1 := D3.out.cell1
    have f1 := D3.out.opened.frozen 1
    have f2 := D3.out.opened.frozen 2
    have c2 := D3.out.cell2
    clear ho3 hk3 cW2 c0W
    go_wp2
    go_ret
    exact ⟨rfl, D3.out.setRoom _ Hrr.out.1 Hrr.out.2, K3.out.setCell (p := ⟨p, 1, none⟩) (fun _ => .inl rfl) _⟩

set_option maxRecDepth 100000 in
set_option maxHeartbeats 1000000 in
theorem append_part {M : Nat} (hd : DiskAt w p b fs M false) (n s : ByteArray) (f : Fi) (ec : Int) (hE : openE fs false n = (f, ec)) (hec : ec = 0 ∨ ec = 6 ∧ fs.length < 64) (hn : n.size ≤ 32) (hf : FileOk f) (hroom : (f.s.size : Int) + s.size ≤ 4194304) (hM : (M : Int) < (s.size : Int))
    (h64 : (putF fs n.data.toList (withS f (s.extract 0 M))).length ≤ 64) :
    Calls Tryz.prog 38 #[dP p, .string n, .string s] w fun e w' => e = .returned (.int .i64 12) ∧ DiskAt w' p b (putF fs n.data.toList (withS f (s.extract 0 M))) 0 true ∧ Keeps (Two p b) w w' := by
  have Hd := Lib.hid hd
  have Hn := Lib.hid hn
  have hf1 := hf.1
  have hw : IntKind.i64.wrap (4194304 - (f.s.size : Int)) = 4194304 - (f.s.size : Int) := by rw [IntKind.wrap_i64]; omega
  have hw2 : IntKind.i64.wrap ((M : Int) - (M : Int)) = 0 := by rw [Int.sub_self]; rfl
  have hg : decide (4194304 - (f.s.size : Int) < (s.size : Int)) = false := decide_eq_false (by omega)
  have hzx : (s.extract 0 M).size = M := by simp; omega
  have hz : (f.s ++ s.extract 0 M).size = f.s.size + M := by rw [ByteArray.size_append, hzx]
  have Hok := Lib.hid (hd.putF_ok hn (f := withS f (s.extract 0 M)) ⟨by show (f.s ++ s.extract 0 M).size ≤ _; omega, by have := hf.2; show f.k ≤ (f.s ++ s.extract 0 M).size; omega⟩)
  have H64 := Lib.hid h64
  have hs0 : (0 : Int) ≤ (M : Int) := by omega
  have hs1 : (M : Int) ≤ (s.size : Int) := by omega
  have hcat : ∀ W : World, (Op.stringOp .add f.s (s.extract 0 M)).run Tryz.prog W = .ok (.string (f.s ++ s.extract 0 M)) W := fun W => run_string_add_sum W _ _ (by omega)
  have hlast : decide ((M : Int) < (s.size : Int)) = true := decide_eq_true hM
  clear hd hn hf1 hf h64 hz hzx
  rcases hec with rfl | ⟨rfl, hlen⟩
  all_goals
    try have hln : decide ((64 : Int) ≤ (fs.length : Int)) = false := decide_eq_false (by omega)
    try clear hlen
    go_enter Tryz.func38, Tryz.ntmps38
    go_wp2_with fail
    refine (open_any Hd.out n _ _ hE).mono ?_
    rintro e w1 ⟨rfl, hk1⟩
    have D1 := Lib.hid (Hd.out.kept hk1 (fun h => h) (fun h => h))
    have c0 := D1.out.cell0
    have c1 := D1.out.cell1
    have l1 := D1.out.lt.1
    have K1 := Lib.hid hk1
    clear hk1
    have hl := fun ob => len_run (D1.out.kept ((Keeps.refl (S := No) w1).alloc ob) (fun h => h) (fun h => h))
    go_wp2
    refine wp_world ?_
    intro W hW
    have KW : Hid (Keeps No w1 W) := by rw [hW]; exact (Keeps.refl (S := No) w1).alloc _
    have DW : Hid (DiskAt W p b fs M false) := D1.out.kept KW.out (fun h => h) (fun h => h)
    have cW : W.heap[w1.heap.size]? = some (.cells #[.string f.s, .int .i64 f.k] 85 (0, 0)) := by rw [hW]; exact heap_alloc_new _ _
    have cA : W.cell? ⟨w1.heap.size, 0, none⟩ = some (.string f.s) := by simp [World.cell?, cW]
    have fA : W.frozen? ⟨w1.heap.size, 0, none⟩ = false := frozen_of_row W w1.heap.size 0 _ _ cW
    clear hW c0 l1 c1 hl
    go_still_tail 7, (by kernel_rfl)
    change wpList _ _ _ _ _ (World.drew _)
    go_wp2
    refine wp_world ?_
    intro W2 hW2
    have K2 : Hid (Keeps No w1 W2) := by rw [hW2]; exact (KW.out.drew).setCell (p := ⟨w1.heap.size, 0, none⟩) (fun h => absurd h (Nat.lt_irrefl _)) _
    have D2 : Hid (DiskAt W2 p b fs M false) := D1.out.kept K2.out (fun h => h) (fun h => h)
    have cW2 : cellsAt W2 w1.heap.size 0 2 = some [.string (f.s ++ s.extract 0 M), .int .i64 f.k] := by
      have h : W2.heap[w1.heap.size]? = some (.cells #[.string (f.s ++ s.extract 0 M), .int .i64 f.k] 85 (0, 0)) := by rw [hW2]; exact heap_setCell_at (w := W) (i := 0) cW (.string (f.s ++ s.extract 0 M))
      unfold cellsAt
      rw [h]
      rfl
    have c0W := D2.out.cell0
    clear hW2 cW cA fA KW DW
    go_still_tail 6, (by kernel_rfl)
    change wpList _ _ _ _ _ (World.drew _)
    refine wpList_files_put rfl (.tmp 57) (.tmp 58) (.tmp 59) rfl D2.out.drew.own D2.out.few rfl n rfl (Nat.le_trans Hn.out (by unfold maxLen; omega)) (withS f (s.extract 0 M)) rfl ?_
    intro w3 ho3 hk3
    have D3 := Lib.hid (D2.out.drew.turned hk3 ho3 H64.out Hok.out.1 Hok.out.2)
    have K3 : Hid (Keeps (Two p b) w w3) := (((K1.out.trans K2.out (fun _ _ h => h)).mono (T := Two p b) (fun _ _ h => h.elim)).drew).trans hk3 (fun _ _ h => .inr h)
    have c1 := D3.out.cell1
    have f1 := D3.out.opened.frozen 1
    have f2 := D3.out.opened.frozen 2
    have c2 := D3.out.cell2
    clear ho3 hk3 cW2 c0W
    go_wp2
    go_ret
    exact ⟨rfl, (D3.out.setRoom 0 (by omega) (by omega)).setDead true, (K3.out.setCell (p := ⟨p, 1, none⟩) (fun _ => .inl rfl) _).setCell (p := ⟨p, 2, none⟩) (fun _ => .inl rfl) _⟩
end
end Go.Proofs.YtndjnkjcfdaegaaGreatDoor

/-
  disk.Append where it refuses, Truncate, Rename, Remove, Cut; all of them of no disk. No conditions of their own.
-/
namespace Go.Proofs.YtndjnkjcfdaegaaGreatDoor
open Go.RowKit

section
variable {w : World} {p b : Nat} {fs : Fs} {room : Int} {dead : Bool}

theorem append_nil (w : World) (n : ByteArray) (s : ByteArray) : Calls Tryz.prog 38 #[.pointer none, .string n, .string s] w fun e w' => e = .returned (.int .i64 1) ∧ Keeps No w w' := by
  go_enter Tryz.func38, Tryz.ntmps38
  go_wp2_with fail
  refine (open_nil w n).mono ?_
  rintro e w1 ⟨rfl, hk1⟩
  have K1 := Lib.hid hk1
  clear hk1
  go_wp2
  go_ret
  exact ⟨rfl, K1.out.alloc _⟩

set_option maxRecDepth 100000 in
set_option maxHeartbeats 1000000 in
theorem append_err (hd : DiskAt w p b fs room dead) (n : ByteArray) (s : ByteArray) (fx : Fi) (ec : Int) (hE : openE fs dead n = (fx, ec)) (he : ec = 1 ∨ ec = 12) : Calls Tryz.prog 38 #[dP p, .string n, .string s] w fun e w' => e = .returned (.int .i64 ec) ∧ Keeps No w w' := by
  have Hd := Lib.hid hd
  clear hd
  rcases he with rfl | rfl
  all_goals
    go_enter Tryz.func38, Tryz.ntmps38
    go_wp2_with fail
    refine (open_any Hd.out n _ _ hE).mono ?_
    rintro e w1 ⟨rfl, hk1⟩
    have K1 := Lib.hid hk1
    clear hk1
    go_wp2
    go_ret
    exact ⟨rfl, K1.out.alloc _⟩

set_option maxRecDepth 100000 in
set_option maxHeartbeats 1000000 in
theorem append_full1 (hd : DiskAt w p b fs room dead) (n : ByteArray) (s : ByteArray) (fx : Fi) (ec : Int) (hE : openE fs dead n = (fx, ec)) (he : ec = 6) (h64 : 64 ≤ fs.length) : Calls Tryz.prog 38 #[dP p, .string n, .string s] w fun e w' => e = .returned (.int .i64 8) ∧ Keeps No w w' := by
  have Hd := Lib.hid hd
  clear hd
  subst he
  have hln : decide ((64 : Int) ≤ (fs.length : Int)) = true := decide_eq_true (by omega)
  clear h64
  go_enter Tryz.func38, Tryz.ntmps38
  go_wp2_with fail
  refine (open_any Hd.out n _ _ hE).mono ?_
  rintro e w1 ⟨rfl, hk1⟩
  have D1 := Hd.out.kept hk1 (fun h => h) (fun h => h)
  have hl := fun ob => len_run (D1.kept ((Keeps.refl (S := No) w1).alloc ob) (fun h => h) (fun h => h))
  have c0 := D1.cell0
  have l1 := D1.lt.1
  clear D1
  have K1 := Lib.hid hk1
  clear hk1
  go_wp2
  go_ret
  exact ⟨rfl, K1.out.alloc _⟩

set_option maxRecDepth 100000 in
set_option maxHeartbeats 1000000 in
theorem append_full2 (hd : DiskAt w p b fs room dead) (n : ByteArray) (s : ByteArray) (fx : Fi) (ec : Int) (hE : openE fs dead n = (fx, ec)) (hec : ec = 0 ∨ ec = 6 ∧ fs.length < 64) (hf : fx.s.size ≤ 4194304) (hbig : 4194304 < (fx.s.size : Int) + s.size) : Calls Tryz.prog 38 #[dP p, .string n, .string s] w fun e w' => e = .returned (.int .i64 8) ∧ Keeps No w w' := by
  have Hd := Lib.hid hd
  clear hd
  have hw : IntKind.i64.wrap (4194304 - (fx.s.size : Int)) = 4194304 - (fx.s.size : Int) := by rw [IntKind.wrap_i64]; omega
  have hg : decide (4194304 - (fx.s.size : Int) < (s.size : Int)) = true := decide_eq_true (by omega)
  clear hf hbig
  rcases hec with rfl | ⟨rfl, hlen⟩
  all_goals
    try have hln : decide ((64 : Int) ≤ (fs.length : Int)) = false := decide_eq_false (by omega)
    try clear hlen
    go_enter Tryz.func38, Tryz.ntmps38
    go_wp2_with fail
    refine (open_any Hd.out n _ _ hE).mono ?_
    rintro e w1 ⟨rfl, hk1⟩
    have D1 := Hd.out.kept hk1 (fun h => h) (fun h => h)
    have hl := fun ob => len_run (D1.kept ((Keeps.refl (S := No) w1).alloc ob) (fun h => h) (fun h => h))
    have c0 := D1.cell0
    have l1 := D1.lt.1
    clear D1
    have K1 := Lib.hid hk1
    clear hk1
    go_wp2
    go_ret
    exact ⟨rfl, K1.out.alloc _⟩

set_option maxRecDepth 100000 in
set_option maxHeartbeats 1000000 in
theorem truncate_err (hd : DiskAt w p b fs room dead) (n : ByteArray) (k : Int) (fx : Fi) (ec : Int) (hE : openE fs dead n = (fx, ec)) (he : (ec != 0) = true) : Calls Tryz.prog 42 #[dP p, .string n, .int .i64 k] w fun e w' => e = .returned (.int .i64 ec) ∧ Keeps No w w' := by
  have Hd := Lib.hid hd
  clear hd
  go_enter Tryz.func42, Tryz.ntmps42
  go_wp2_with fail
  refine (open_any Hd.out n _ _ hE).mono ?_
  rintro e w1 ⟨rfl, hk1⟩
  have K1 := Lib.hid hk1
  clear hk1
  go_wp2
  go_ret
  exact ⟨rfl, K1.out.alloc _⟩

set_option maxRecDepth 100000 in
set_option maxHeartbeats 1000000 in
theorem truncate_range (hd : DiskAt w p b fs room dead) (n : ByteArray) (k : Int) (fx : Fi) (ec : Int) (hE : openE fs dead n = (fx, ec)) (he : ec = 0) (hk : k < 0 ∨ (fx.s.size : Int) < k) : Calls Tryz.prog 42 #[dP p, .string n, .int .i64 k] w fun e w' => e = .returned (.int .i64 5) ∧ Keeps No w w' := by
  have Hd := Lib.hid hd
  clear hd
  subst he
  rcases hk with hk | hk
  · have h1 : decide (k < 0) = true := decide_eq_true hk
    clear hk
    go_enter Tryz.func42, Tryz.ntmps42
    go_wp2_with fail
    refine (open_any Hd.out n _ _ hE).mono ?_
    rintro e w1 ⟨rfl, hk1⟩
    have K1 := Lib.hid hk1
    clear hk1
    go_wp2
    go_ret
    exact ⟨rfl, K1.out.alloc _⟩
  · have h1 : decide (k < 0) = false := decide_eq_false (by omega)
    have h2 : decide ((fx.s.size : Int) < k) = true := decide_eq_true hk
    clear hk
    go_enter Tryz.func42, Tryz.ntmps42
    go_wp2_with fail
    refine (open_any Hd.out n _ _ hE).mono ?_
    rintro e w1 ⟨rfl, hk1⟩
    have K1 := Lib.hid hk1
    clear hk1
    go_wp2
    go_ret
    exact ⟨rfl, K1.out.alloc _⟩

set_option maxRecDepth 100000 in
set_option maxHeartbeats 1000000 in
theorem truncate_ok (hd : DiskAt w p b fs room dead) (n : ByteArray) (f : Fi) (hE : openE fs dead n = (f, 0)) (hg : getF fs n.data.toList = some f) (hn : n.size ≤ 32) (K : Nat) (hK : K ≤ f.s.size) : Calls Tryz.prog 42 #[dP p, .string n, .int .i64 K] w fun e w' => e = .returned (.int .i64 0) ∧ DiskAt w' p b (putF fs n.data.toList ⟨f.s.extract 0 K, min f.k K⟩) room dead ∧ Keeps (Own b) w w' := by
  have Hd := Lib.hid hd
  have Hn := Lib.hid hn
  have hxs : (f.s.extract 0 K).size = K := by simp; omega
  have Hok := Lib.hid (hd.putF_ok hn (f := ⟨f.s.extract 0 K, min f.k K⟩) ⟨by show (f.s.extract 0 K).size ≤ _; have := (hd.get_ok hg).1; omega, by show min f.k K ≤ (f.s.extract 0 K).size; omega⟩)
  have Hlen := Lib.hid (putF_length_some (f := ⟨f.s.extract 0 K, min f.k K⟩) hg)
  have h1 : decide ((K : Int) < 0) = false := decide_eq_false (by omega)
  have h2 : decide ((f.s.size : Int) < (K : Int)) = false := decide_eq_false (by omega)
  have h3 : (0 : Int) ≤ (K : Int) := by omega
  have h4 : (K : Int) ≤ (f.s.size : Int) := by omega
  clear hd hn hg hxs
  obtain ⟨J, hJ⟩ : ∃ J, J = min f.k K := ⟨_, rfl⟩
  rw [← hJ] at Hok Hlen ⊢
  have hcase : (¬ K < f.k ∧ J = f.k) ∨ (K < f.k ∧ J = K) := by omega
  clear hJ hK
  rcases hcase with ⟨hc, rfl⟩ | ⟨hc, rfl⟩
  all_goals
    go_enter Tryz.func42, Tryz.ntmps42
    go_wp2_with fail
    refine (open_any Hd.out n _ _ hE).mono ?_
    rintro e w1 ⟨rfl, hk1⟩
    have D1 := Lib.hid (Hd.out.kept hk1 (fun h => h) (fun h => h))
    have c0 := D1.out.cell0
    have l1 := D1.out.lt.1
    have K1 := Lib.hid hk1
    clear hk1
    go_wp2
    refine wp_world ?_
    intro W hW
    have KW : Hid (Keeps No w1 W) := by rw [hW]; exact (Keeps.refl (S := No) w1).alloc _
    have DW : Hid (DiskAt W p b fs room dead) := D1.out.kept KW.out (fun h => h) (fun h => h)
    have cW : W.heap[w1.heap.size]? = some (.cells #[.string f.s, .int .i64 f.k] 85 (0, 0)) := by rw [hW]; exact heap_alloc_new _ _
    have cC : cellsAt W w1.heap.size 0 2 = some [.string f.s, .int .i64 f.k] := by unfold cellsAt; rw [cW]; rfl
    have cA : W.cell? ⟨w1.heap.size, 0, none⟩ = some (.string f.s) := by simp [World.cell?, cW]
    have cB : W.cell? ⟨w1.heap.size, 1, none⟩ = some (.int .i64 f.k) := by simp [World.cell?, cW]
    have c0W := DW.out.cell0
    clear hW cW c0 l1
    go_still_tail 14, (by kernel_rfl)
    change wpList _ _ _ _ _ (World.drew _)
    refine wpList_files_put rfl (.tmp 30) (.tmp 31) (.tmp 40) rfl DW.out.drew.own DW.out.few rfl n rfl (Nat.le_trans Hn.out (by unfold maxLen; omega)) ⟨f.s.extract 0 _, _⟩ rfl ?_
    intro w2 ho2 hk2
    have D2 := Lib.hid (DW.out.drew.turned hk2 ho2 (Nat.le_trans Hlen.out DW.out.few) Hok.out.1 Hok.out.2)
    have K2 := Lib.hid ((((K1.out.trans KW.out (fun _ _ h => h)).mono (T := Own b) (fun _ _ h => h.elim)).drew).trans hk2 (fun _ _ h => h))
    clear ho2 hk2
    go_wp2
    go_ret
    exact ⟨rfl, D2.out, K2.out⟩

set_option maxRecDepth 100000 in
set_option maxHeartbeats 1000000 in
theorem remove_err (hd : DiskAt w p b fs room dead) (n : ByteArray) (fx : Fi) (ec : Int) (hE : openE fs dead n = (fx, ec)) (he : (ec == 0) = false) : Calls Tryz.prog 44 #[dP p, .string n] w fun e w' => e = .returned (.int .i64 ec) ∧ Keeps No w w' := by
  have Hd := Lib.hid hd
  clear hd
  go_enter Tryz.func44, Tryz.ntmps44
  go_wp2_with fail
  refine (open_any Hd.out n _ _ hE).mono ?_
  rintro e w1 ⟨rfl, hk1⟩
  have K1 := Lib.hid hk1
  clear hk1
  go_wp2
  go_ret
  exact ⟨rfl, K1.out.alloc _⟩

set_option maxRecDepth 100000 in
set_option maxHeartbeats 1000000 in
theorem remove_ok (hd : DiskAt w p b fs room dead) (n : ByteArray) (f : Fi) (hE : openE fs dead n = (f, 0)) (hn : n.size ≤ 32) : Calls Tryz.prog 44 #[dP p, .string n] w fun e w' => e = .returned (.int .i64 0) ∧ DiskAt w' p b (delF fs n.data.toList) room dead ∧ Keeps (Own b) w w' := by
  have Hd := Lib.hid hd
  have Hn := Lib.hid hn
  have Hok := Lib.hid (hd.delF_ok n.data.toList)
  have Hlen := Lib.hid (delF_le fs n.data.toList)
  clear hd hn
  go_enter Tryz.func44, Tryz.ntmps44
  go_wp2_with fail
  refine (open_any Hd.out n _ _ hE).mono ?_
  rintro e w1 ⟨rfl, hk1⟩
  have D1 := Lib.hid (Hd.out.kept hk1 (fun h => h) (fun h => h))
  have c0 := D1.out.cell0
  have l1 := D1.out.lt.1
  have K1 := Lib.hid hk1
  clear hk1
  go_wp2_with (at_delete; refine wpList_files_del rfl _ _ rfl (D1.out.kept ((Keeps.refl (S := No) w1).alloc _) (fun h => h) (fun h => h)).own rfl n rfl (Nat.le_trans Hn.out (by unfold maxLen; omega)) ?_; intro w2 ho2 hk2)
  have D2 := Lib.hid ((D1.out.kept ((Keeps.refl (S := No) w1).alloc _) (fun h => h) (fun h => h)).turned hk2 ho2 (Nat.le_trans Hlen.out D1.out.few) Hok.out.1 Hok.out.2)
  have K2 := Lib.hid (((K1.out.mono (T := Own b) (fun _ _ h => h.elim)).alloc _).trans hk2 (fun _ _ h => h))
  clear ho2 hk2
  go_wp2
  go_ret
  exact ⟨rfl, D2.out, K2.out⟩

set_option maxRecDepth 100000 in
set_option maxHeartbeats 1000000 in
theorem cut_any (hd : DiskAt w p b fs room dead) (k : Int) (hk : k ≤ 9223372036854775807) : Calls Tryz.prog 12 #[dP p, .int .i64 k] w fun e w' => e = .returned (.tuple #[]) ∧ DiskAt w' p b fs (bif dead then room else max 0 k) dead ∧ Keeps (Own p) w w' := by
  have Hd := Lib.hid hd
  have c2 := hd.cell2
  have c1 := hd.cell1
  have f1 := hd.opened.frozen 1
  have Hk := Lib.hid hk
  clear hd hk
  cases dead
  · rcases Int.lt_or_le k 0 with h0 | h0
    all_goals
      go_enter Tryz.func12, Tryz.ntmps12
      go_wp2
    all_goals
      refine bodyPost_end (results_none rfl _ _ _) rfl ⟨rfl, ?_, (Keeps.refl (S := Own p) w).setCell (p := ⟨p, 1, none⟩) (fun _ => (rfl : p = p)) _⟩
      show DiskAt _ p b fs (max 0 k) false
      have hk := Hk.out
      first
        | (rw [show max 0 k = 0 by omega]; exact Hd.out.setRoom 0 (by omega) (by omega))
        | (rw [show max 0 k = k by omega]; exact Hd.out.setRoom k (by omega) hk)
  · go_enter Tryz.func12, Tryz.ntmps12
    go_wp2
    refine bodyPost_end (results_none rfl _ _ _) rfl ?_
    exact ⟨rfl, Hd.out, Keeps.refl w⟩
end
end Go.Proofs.YtndjnkjcfdaegaaGreatDoor

