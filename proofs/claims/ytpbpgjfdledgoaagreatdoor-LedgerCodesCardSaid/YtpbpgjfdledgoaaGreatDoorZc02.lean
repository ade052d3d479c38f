/-
  Texts in one: Whole, DkA, WaA, LeA. No conditions of their own.
-/
import Derived.Test.YtpbpgjfdledgoaaGreatDoorZc01
import Derived.Test.YtpbpgjfdledgoaaGreatDoorProg
import Derived.Maps.OwnSet
import Derived.Maps.RangeWalk
import Derived.WideShapes
import Derived.StringKeys

/-
  A struct's box, stored into as a whole: plain laws for the walk, over any program. No conditions of its own.
-/
namespace Go.Proofs.YtpbpgjfdledgoaaGreatDoor
open Go.RowKit

/-- Block b is a row of cells, none of them frozen. -/
def Open (w : World) (b : Nat) : Prop := ∃ (C : Array Value) (t : TypeId), w.heap[b]? = some (.cells C t (0, 0))
/-- The cells of block b. -/
def rowD (w : World) (b : Nat) : Array Value := match w.heap[b]? with | some (.cells C _ _) => C | _ => #[]
/-- Cells, from a place on others. -/
def splice (C : Array Value) (o : Nat) (l : List Value) : Array Value := (C.toList.take o ++ l ++ C.toList.drop (o + l.length)).toArray
/-- More than one cell, stored one behind the other. -/
def storeWhole (a : Addr) (l : List Value) : Sem Unit := storeCells a l 0
theorem storeCells_whole (a : Addr) (x y : Value) (l : List Value) : storeCells a (x :: y :: l) 0 = storeWhole a (x :: y :: l) := rfl

theorem run_storeWhole {P : Program} (w : World) (b o : Nat) (l : List Value) (hf : Open w b) (hN : o + l.length ≤ (rowD w b).size) (h1 : l.all (·.oneCell') = true) :
    (storeWhole ⟨b, o, none⟩ l).run P w = .ok () (w.setRow b (splice (rowD w b) o l)) := by
  obtain ⟨C0, t, h0⟩ := hf
  have hD : rowD w b = C0 := by simp [rowD, h0]
  rw [hD] at hN ⊢
  exact run_storeCells_at (P := P) b o t l 0 C0 w h0 (by omega) (fun v hv => (List.all_eq_true.1 h1) v hv)
/-- the same, where the walk has not shown the conditions -/
def storeElse (P : Program) (a : Addr) (l : List Value) (w : World) : Result Unit := (storeWhole a l).run P w
open Classical in
theorem run_storeWhole_if {P : Program} (w : World) (b o : Nat) (l : List Value) :
    (storeWhole ⟨b, o, none⟩ l).run P w = if Open w b ∧ o + l.length ≤ (rowD w b).size ∧ l.all (·.oneCell') = true then .ok () (w.setRow b (splice (rowD w b) o l)) else storeElse P ⟨b, o, none⟩ l w := by
  by_cases h : Open w b ∧ o + l.length ≤ (rowD w b).size ∧ l.all (·.oneCell') = true
  · rw [if_pos h, run_storeWhole w b o l h.1 h.2.1 h.2.2]
  · rw [if_neg h]
    rfl
theorem splice_all (C : Array Value) (l : List Value) (h : C.size = l.length) : splice C 0 l = l.toArray := by
  apply Array.ext'
  simp [splice, ← h]

theorem setRow_alloc_at (w : World) (c C : Array Value) (t : TypeId) (n : Nat) (hn : n = w.heap.size) : (w.alloc (.cells c t)).setRow n C = w.alloc (.cells C t) := by
  subst hn
  unfold World.setRow World.alloc
  congr 1
  apply Array.ext_getElem?
  intro k
  simp only [Array.getElem?_modify, Array.getElem?_push]
  by_cases hk : k = w.heap.size
  · subst hk
    simp
  · simp [hk, Ne.symm hk]
theorem setRow_alloc_past (w : World) (o : Obj) (C : Array Value) (n : Nat) (hn : n < w.heap.size) : (w.alloc o).setRow n C = (w.setRow n C).alloc o := by
  unfold World.setRow World.alloc
  congr 1
  apply Array.ext_getElem?
  intro k
  simp only [Array.getElem?_modify, Array.getElem?_push, Array.size_modify]
  by_cases hk : k = w.heap.size
  · subst hk
    simp [Nat.ne_of_lt hn]
  · simp [hk]
theorem setRow_drew (w : World) (b : Nat) (C : Array Value) : w.drew.setRow b C = (w.setRow b C).drew := rfl
theorem open_alloc_at (w : World) (c : Array Value) (t : TypeId) (n : Nat) (hn : n = w.heap.size) : Open (w.alloc (.cells c t)) n := by
  subst hn
  unfold Open World.alloc
  simp
theorem open_alloc_past (w : World) (o : Obj) (n : Nat) (hn : n < w.heap.size) : Open (w.alloc o) n ↔ Open w n := by
  unfold Open World.alloc
  rw [Array.getElem?_push]
  simp [Nat.ne_of_lt hn]
theorem open_drew (w : World) (n : Nat) : Open w.drew n ↔ Open w n := Iff.rfl
theorem open_drewN (w : World) (m n : Nat) : Open (w.drewN m) n ↔ Open w n := Iff.rfl
theorem open_modify (w : World) (b n : Nat) (f : Array Value → Array Value) : Open { w with heap := w.heap.modify b fun | .cells c e fr => .cells (f c) e fr | o => o } n ↔ Open w n := by
  unfold Open
  simp only [Array.getElem?_modify]
  by_cases hb : b = n
  · subst hb
    simp only [if_true]
    cases h : w.heap[b]? with
    | none => simp
    | some o =>
      cases o with
      | cells c t fr => simp
      | _ => simp
  · simp [hb]
theorem open_setCell (w : World) (b i : Nat) (v : Value) (n : Nat) : Open (w.setCell ⟨b, i, none⟩ v) n ↔ Open w n :=
  open_modify w b n (fun c => c.setIfInBounds i v)
theorem open_setRow (w : World) (b n : Nat) (C : Array Value) : Open (w.setRow b C) n ↔ Open w n :=
  open_modify w b n (fun _ => C)
theorem cell_setRow_at (w : World) (b i : Nat) (C : Array Value) (hf : Open w b) : (w.setRow b C).cell? ⟨b, i, none⟩ = C[i]? := by
  obtain ⟨C0, t, h0⟩ := hf
  exact cell_setRow_same w b i C0 C t (0, 0) h0
theorem cell_setRow_far (w : World) (b n i : Nat) (C : Array Value) (h : n ≠ b) : (w.setRow b C).cell? ⟨n, i, none⟩ = w.cell? ⟨n, i, none⟩ :=
  cell_setRow_other w b C ⟨n, i, none⟩ h
theorem frozen_setRow (w : World) (b : Nat) (C : Array Value) (a : Addr) : (w.setRow b C).frozen? a = w.frozen? a := by
  unfold World.frozen? World.setRow
  simp only [Array.getElem?_modify]
  by_cases hb : b = a.block
  · subst hb
    simp only [if_true]
    cases h : w.heap[a.block]? with
    | none => simp
    | some o =>
      cases o with
      | cells c t fr => simp
      | _ => simp
  · simp [hb]
theorem rowD_alloc_at (w : World) (c : Array Value) (t : TypeId) (n : Nat) (hn : n = w.heap.size) : rowD (w.alloc (.cells c t)) n = c := by
  subst hn
  unfold rowD World.alloc
  simp
theorem rowD_alloc_past (w : World) (o : Obj) (n : Nat) (hn : n < w.heap.size) : rowD (w.alloc o) n = rowD w n := by
  unfold rowD World.alloc
  rw [Array.getElem?_push]
  simp [Nat.ne_of_lt hn]
theorem rowD_drew (w : World) (n : Nat) : rowD w.drew n = rowD w n := rfl
theorem rowD_setRow_at (w : World) (b : Nat) (C : Array Value) (hf : Open w b) : rowD (w.setRow b C) b = C := by
  obtain ⟨C0, t, h0⟩ := hf
  unfold rowD
  rw [setRow_heap w b C0 C t (0, 0) h0]
theorem rowD_setRow_far (w : World) (b n : Nat) (C : Array Value) (h : n ≠ b) : rowD (w.setRow b C) n = rowD w n := by
  unfold rowD
  rw [setRow_other w b n C h]
theorem rowD_setCell_far (w : World) (b i n : Nat) (v : Value) (h : n ≠ b) : rowD (w.setCell ⟨b, i, none⟩ v) n = rowD w n := by
  unfold rowD World.setCell
  simp only [Array.getElem?_modify]
  rw [if_neg (fun e => h e.symm)]
theorem rowD_setCell_at (w : World) (b i : Nat) (v : Value) : rowD (w.setCell ⟨b, i, none⟩ v) b = (rowD w b).setIfInBounds i v := by
  unfold rowD World.setCell
  simp only [Array.getElem?_modify, if_true]
  cases h : w.heap[b]? with
  | none => simp
  | some o =>
    cases o with
    | cells c t fr => simp
    | _ => simp
/-- n cells of block b, from o on -/
def cellsAt (w : World) (b o n : Nat) : Option (List Value) := match w.heap[b]? with
  | some (.cells C _ _) => if o + n ≤ C.size then some ((C.toList.drop o).take n) else none
  | _ => none
/-- More than one cell, read one behind the other. -/
def loadWhole (a : Addr) (n : Nat) : Sem (Array Value) := loadCellsFrom a 0 n #[]
theorem loadCells_whole (a : Addr) (n : Nat) : loadCellsFrom a 0 n #[] = loadWhole a n := rfl
def loadElse (P : Program) (a : Addr) (n : Nat) (w : World) : Result (Array Value) := (loadWhole a n).run P w
theorem cellsAt_cell {w : World} {b o n : Nat} {l : List Value} (h : cellsAt w b o n = some l) (j : Nat) (v : Value) (hj : l[j]? = some v) : w.cell? ⟨b, o + j, none⟩ = some v := by
  unfold cellsAt at h
  split at h
  · rename_i C t fr hh
    split at h
    · cases h
      simp only [World.cell?, hh]
      rw [List.getElem?_take] at hj
      split at hj
      · simpa using hj
      · cases hj
    · cases h
  · cases h
theorem cellsAt_length {w : World} {b o n : Nat} {l : List Value} (h : cellsAt w b o n = some l) : l.length = n := by
  unfold cellsAt at h
  split at h
  · split at h
    · rename_i C _ _ hh hs
      cases h
      rw [List.length_take, List.length_drop, Array.length_toList]
      omega
    · cases h
  · cases h
/-- out of its cells -/
theorem cellsAt_of {w : World} {b o : Nat} {l : List Value} (h : ∀ (j : Nat) (v : Value), l[j]? = some v → w.cell? ⟨b, o + j, none⟩ = some v) (hl : 0 < l.length) : cellsAt w b o l.length = some l := by
  have h0 := h 0 l[0] (by simp [hl])
  unfold cellsAt
  simp only [World.cell?] at h0
  split at h0
  · rename_i C t fr hh
    have hsz : o + l.length ≤ C.size := by
      have := h (l.length - 1) l[l.length - 1] (by simp)
      simp only [World.cell?, hh] at this
      have := (Array.getElem?_eq_some_iff.1 (by simpa using this)).1
      omega
    rw [hh]
    simp only [hsz, if_true, Option.some.injEq]
    apply List.ext_getElem?
    intro j
    rw [List.getElem?_take]
    by_cases hj : j < l.length
    · rw [if_pos hj, List.getElem?_drop]
      have := h j l[j] (by simp [hj])
      simp only [World.cell?, hh] at this
      rw [List.getElem?_eq_getElem hj]
      simpa using this
    · rw [if_neg hj]
      simp
      omega
  · cases h0
theorem run_loadWhole {P : Program} (w : World) (b o n : Nat) : (loadWhole ⟨b, o, none⟩ n).run P w = match cellsAt w b o n with | some l => .ok l.toArray w | none => loadElse P ⟨b, o, none⟩ n w := by
  split
  · rename_i l h
    have hl := cellsAt_length h
    have := run_loadCells_list (P := P) w ⟨b, o, none⟩ l (fun j v hv => by
      rw [Addr.add_lit]
      exact cellsAt_cell h j v hv)
    rw [hl] at this
    exact this
  · rfl
theorem cellsAt_alloc_at (w : World) (c : Array Value) (t : TypeId) (b o n : Nat) (hn : b = w.heap.size) : cellsAt (w.alloc (.cells c t)) b o n = if o + n ≤ c.size then some ((c.toList.drop o).take n) else none := by
  subst hn
  unfold cellsAt World.alloc
  simp
theorem cellsAt_alloc_past (w : World) (ob : Obj) (b o n : Nat) (hn : b < w.heap.size) : cellsAt (w.alloc ob) b o n = cellsAt w b o n := by
  unfold cellsAt World.alloc
  rw [Array.getElem?_push]
  simp [Nat.ne_of_lt hn]
theorem cellsAt_drew (w : World) (b o n : Nat) : cellsAt w.drew b o n = cellsAt w b o n := rfl
theorem cellsAt_drewN (w : World) (m b o n : Nat) : cellsAt (w.drewN m) b o n = cellsAt w b o n := rfl
theorem cellsAt_setRow_far (w : World) (b k o n : Nat) (C : Array Value) (h : k ≠ b) : cellsAt (w.setRow b C) k o n = cellsAt w k o n := by
  unfold cellsAt
  rw [setRow_other w b k C h]
theorem cellsAt_setRow_at (w : World) (b o n : Nat) (C : Array Value) (hf : Open w b) : cellsAt (w.setRow b C) b o n = if o + n ≤ C.size then some ((C.toList.drop o).take n) else none := by
  obtain ⟨C0, t, h0⟩ := hf
  unfold cellsAt
  rw [setRow_heap w b C0 C t (0, 0) h0]
theorem cellsAt_setCell_far (w : World) (b i k o n : Nat) (v : Value) (h : k ≠ b) : cellsAt (w.setCell ⟨b, i, none⟩ v) k o n = cellsAt w k o n := by
  unfold cellsAt World.setCell
  simp only [Array.getElem?_modify]
  rw [if_neg (fun e => h e.symm)]
theorem cellsAt_setCell_at (w : World) (b i o n : Nat) (v : Value) : cellsAt (w.setCell ⟨b, i, none⟩ v) b o n = (cellsAt w b o n).map fun l => if o ≤ i then l.set (i - o) v else l := by
  unfold cellsAt World.setCell
  simp only [Array.getElem?_modify, if_true]
  cases h : w.heap[b]? with
  | none => simp
  | some ob =>
    cases ob with
    | cells c t fr =>
      simp only [Option.map_some, Option.isSome_none, Bool.false_eq_true, if_false, Array.size_setIfInBounds]
      split
      · rw [Option.map_some]
        congr 1
        rw [Array.toList_setIfInBounds]
        by_cases ho : o ≤ i
        · rw [if_pos ho, List.drop_set, if_neg (by omega), List.take_set]
        · rw [if_neg ho, List.drop_set_of_lt (by omega)]
      · rfl
    | _ => simp
/-- the world at hand, under a name -/
theorem wp_world {P : Program} {c : Code} {Q : Exit → Act → World → Prop} {a : Act} {w : World} (h : ∀ W, W = w → c.wp P Q a W) : c.wp P Q a w := h w rfl
theorem Keeps.cellsAt {a w : World} (h : Keeps No a w) {b o n : Nat} {l : List Value} (hc : cellsAt a b o n = some l) : cellsAt w b o n = some l := by
  have hb : b < a.heap.size := by
    unfold Proofs.YtpbpgjfdledgoaaGreatDoor.cellsAt at hc
    split at hc
    · rename_i hh
      exact (Array.getElem?_eq_some_iff.1 hh).1
    · cases hc
  unfold Proofs.YtpbpgjfdledgoaaGreatDoor.cellsAt at hc ⊢
  rw [h.block b hb (fun h => h)]
  exact hc
theorem Keeps.opened {a w : World} (h : Keeps No a w) {b : Nat} (ho : Open a b) : Open w b := by
  obtain ⟨C, t, hc⟩ := ho
  exact ⟨C, t, h.heap hc (fun h => h)⟩
theorem Open.frozen {w : World} {b : Nat} (h : Open w b) (i : Nat) : w.frozen? ⟨b, i, none⟩ = false := by
  obtain ⟨C, t, hc⟩ := h
  exact frozen_of_row w b i _ _ hc
theorem Keeps.rowSize {a w : World} (h : Keeps No a w) {b n : Nat} (ho : Open a b) (hn : (rowD a b).size = n) : (rowD w b).size = n := by
  obtain ⟨C, t, hc⟩ := ho
  have hw := h.heap hc (fun h => h)
  unfold rowD at hn ⊢
  rw [hc] at hn
  rw [hw]
  exact hn
theorem Keeps.row {a w : World} (h : Keeps No a w) {b : Nat} (hb : a.heap.size ≤ b) (C : Array Value) : Keeps No a (w.setRow b C) :=
  h.setRow (S := No) (fun hlt => absurd hlt (Nat.not_lt.2 hb)) C
theorem one_int (k : IntKind) (n : Int) : Value.oneCell' (.int k n) = true := rfl
theorem one_bool (b : Bool) : Value.oneCell' (.bool b) = true := rfl
theorem one_string (s : ByteArray) : Value.oneCell' (.string s) = true := rfl
theorem one_slice (a : Option Addr) (n c : Nat) : Value.oneCell' (.slice a n c) = true := rfl
theorem one_pointer (a : Option Addr) : Value.oneCell' (.pointer a) = true := rfl

theorem splice_lit (L : List Value) (o : Nat) (l : List Value) : splice L.toArray o l = (L.take o ++ l ++ L.drop (o + l.length)).toArray := rfl

attribute [go_sem 2000] splice_all storeCells_whole loadCells_whole List.getElem?_toArray List.getElem?_cons_succ List.getElem?_cons_zero
attribute [go_sem] run_loadWhole cellsAt_alloc_at cellsAt_alloc_past cellsAt_drew cellsAt_drewN cellsAt_setRow_far cellsAt_setRow_at cellsAt_setCell_far cellsAt_setCell_at run_storeWhole_if splice_lit setRow_alloc_at setRow_alloc_past setRow_drew open_alloc_at open_alloc_past open_drew open_drewN open_setCell open_setRow cell_setRow_at cell_setRow_far frozen_setRow rowD_alloc_at rowD_alloc_past rowD_drew rowD_setRow_at rowD_setRow_far rowD_setCell_at rowD_setCell_far one_int one_bool one_string one_slice one_pointer

end Go.Proofs.YtpbpgjfdledgoaaGreatDoor

/-
  A disk's files as a list, and how they lie in the disk's map. Plain lemmas and laws at the operation. No conditions of its own.
-/
namespace Go.Proofs.YtpbpgjfdledgoaaGreatDoor
open Go.RowKit

/-- a file: its bytes, and how many of them are sure -/
structure Fi where
  s : ByteArray
  k : Nat
/-- as a value -/
abbrev fV (f : Fi) : Value := .agg #[.string f.s, .int .i64 f.k]
/-- as a datum -/
def fD (f : Fi) : DataW Unit := .agg [.lit (.string f.s.data.toList), .lit (.int .i64 f.k)]
/-- how a file reads -/
def fileElem (v : Value) : Option (DataW Unit × List MemPlace) :=
  match v with
  | .agg cs => match cs.toList with
    | [.string s, .int .i64 n] => some (.agg [.lit (.string s.data.toList), .lit (.int .i64 n)], [])
    | _ => none
  | _ => none
theorem fileElem_mk (f : Fi) : fileElem (fV f) = some (fD f, []) := rfl
theorem fileElem_shape {v : Value} {y : DataW Unit × List MemPlace} (h : fileElem v = some y) : ∃ (s : ByteArray) (n : Int), v = .agg #[.string s, .int .i64 n] ∧ y = (.agg [.lit (.string s.data.toList), .lit (.int .i64 n)], []) := by
  unfold fileElem at h
  split at h
  · rename_i cs
    split at h
    · rename_i s n hv
      refine ⟨s, n, ?_, (Option.some.inj h).symm⟩
      rw [← Array.toArray_toList (xs := cs), hv]
    · cases h
  · cases h
theorem bytes_of {s t : ByteArray} (h : s.data.toList = t.data.toList) : s = t := by
  cases s
  cases t
  simp at h
  rw [h]
theorem fileElem_inv {v : Value} {f : Fi} {ps : List MemPlace} (h : fileElem v = some (fD f, ps)) : v = fV f := by
  obtain ⟨s, n, rfl, hy⟩ := fileElem_shape h
  have h1 : f.s.data.toList = s.data.toList ∧ (f.k : Int) = n := by
    have h2 := congrArg Prod.fst hy
    unfold fD at h2
    injection h2 with h2
    injection h2 with h3 h4
    injection h4 with h4 _
    injection h3 with h3
    injection h4 with h4
    injection h3 with h3
    injection h4 with _ h4
    exact ⟨h3, h4⟩
  rw [← bytes_of h1.1, ← h1.2]

abbrev Nm := List UInt8
abbrev Fs := List (Nm × Fi)
def dOf (fs : Fs) : DataW Unit := .map (fs.map fun p => (.string p.1, fD p.2))
def isNm (n : Nm) (p : Nm × Fi) : Bool := p.1 == n
def getF (fs : Fs) (n : Nm) : Option Fi := (fs.find? (isNm n)).map (·.2)
def delF (fs : Fs) (n : Nm) : Fs := fs.filter fun p => !isNm n p
def insF (x : Nm × Fi) : Fs → Fs
  | [] => [x]
  | y :: r => if bytesBefore x.1 y.1 then x :: y :: r else y :: insF x r
def putF (fs : Fs) (n : Nm) (f : Fi) : Fs := insF (n, f) (delF fs n)
/-- files in the order of their names -/
def Rising (fs : Fs) : Prop := fs.Pairwise fun p q => bytesBefore p.1 q.1 = true

theorem map_insF (x : Nm × Fi) : ∀ fs : Fs, (insF x fs).map (fun p => ((.string p.1 : Lit), fD p.2)) = DataW.insert (.string x.1, fD x.2) (fs.map fun p => (.string p.1, fD p.2))
  | [] => rfl
  | y :: r => by
    unfold insF
    rw [List.map_cons]
    unfold DataW.insert
    show _ = if bytesBefore x.1 y.1 = true then _ else _
    split
    · rfl
    · rw [List.map_cons, map_insF x r]
theorem map_delF (n : Nm) (fs : Fs) : (delF fs n).map (fun p => ((.string p.1 : Lit), fD p.2)) = (fs.map fun p => ((.string p.1 : Lit), fD p.2)).filter fun p => !p.1.sameKey (.string n) := by
  unfold delF
  rw [List.filter_map]
  rfl
theorem dOf_put (fs : Fs) (n : Nm) (f : Fi) : (dOf fs).put (.string n) (fD f) = dOf (putF fs n f) := by
  unfold dOf DataW.put putF
  rw [map_insF, map_delF]
theorem dOf_del (fs : Fs) (n : Nm) : (dOf fs).del (.string n) = dOf (delF fs n) := by
  unfold dOf DataW.del
  rw [map_delF]
theorem dOf_size (fs : Fs) : Maps.size (dOf fs) = fs.length := by simp [dOf, Maps.size]
theorem find_map (n : Nm) (fs : Fs) : (fs.map fun p => ((.string p.1 : Lit), fD p.2)).find? (fun p => p.1.sameKey (.string n)) = (fs.find? (isNm n)).map fun p => ((.string p.1 : Lit), fD p.2) := by
  rw [List.find?_map]
  rfl
theorem dOf_at {fs : Fs} {n : Nm} {f : Fi} (h : getF fs n = some f) (zd : DataW Unit) : (dOf fs).atKey (.string n) zd = fD f := by
  unfold dOf DataW.atKey
  simp only [find_map]
  unfold getF at h
  cases hf : fs.find? (isNm n) with
  | none => rw [hf] at h; cases h
  | some p =>
    rw [hf] at h
    simp at h
    simp [h]
theorem dOf_has {fs : Fs} {n : Nm} {f : Fi} (h : getF fs n = some f) : Maps.has (dOf fs) (.string n) = true := Maps.has_true_of_atKey (dOf_at h)
theorem dOf_at_none {fs : Fs} {n : Nm} (h : getF fs n = none) (zd : DataW Unit) : (dOf fs).atKey (.string n) zd = zd := by
  unfold dOf DataW.atKey
  simp only [find_map]
  unfold getF at h
  cases hf : fs.find? (isNm n) with
  | none => simp
  | some p => rw [hf] at h; cases h
theorem dOf_has_none {fs : Fs} {n : Nm} (h : getF fs n = none) : Maps.has (dOf fs) (.string n) = false := Maps.has_false_of_atKey (dOf_at_none h)

theorem insF_length (x : Nm × Fi) : ∀ fs : Fs, (insF x fs).length = fs.length + 1
  | [] => rfl
  | y :: r => by
    unfold insF
    split
    · rfl
    · simp [insF_length x r]
theorem mem_insF {x p : Nm × Fi} : ∀ {fs : Fs}, p ∈ insF x fs ↔ p = x ∨ p ∈ fs
  | [] => by simp [insF]
  | y :: r => by
    unfold insF
    split
    · simp
    · simp only [List.mem_cons, mem_insF (fs := r)]
      constructor
      · rintro (h | h | h)
        · exact .inr (.inl h)
        · exact .inl h
        · exact .inr (.inr h)
      · rintro (h | h | h)
        · exact .inr (.inl h)
        · exact .inl h
        · exact .inr (.inr h)
theorem mem_putF {fs : Fs} {n : Nm} {f : Fi} {p : Nm × Fi} (h : p ∈ putF fs n f) : p = (n, f) ∨ p ∈ fs := by
  rcases mem_insF.1 h with h | h
  · exact .inl h
  · exact .inr (List.mem_filter.1 h).1
theorem mem_getF {fs : Fs} {n : Nm} {f : Fi} (h : getF fs n = some f) : (n, f) ∈ fs := by
  unfold getF at h
  cases hf : fs.find? (isNm n) with
  | none => rw [hf] at h; cases h
  | some p =>
    rw [hf] at h
    simp at h
    have h1 := List.find?_some hf
    have h2 := List.mem_of_find?_eq_some hf
    have h3 : p.1 = n := by simpa [isNm] using h1
    have h4 : p = (n, f) := by rw [← h3, ← h]
    rw [← h4]
    exact h2
theorem delF_le (fs : Fs) (n : Nm) : (delF fs n).length ≤ fs.length := List.length_filter_le _ _
theorem delF_lt {fs : Fs} {n : Nm} {f : Fi} (h : getF fs n = some f) : (delF fs n).length < fs.length := by
  unfold delF
  rw [List.length_filter_lt_length_iff_exists]
  exact ⟨(n, f), mem_getF h, by simp [isNm]⟩
theorem putF_length_le (fs : Fs) (n : Nm) (f : Fi) : (putF fs n f).length ≤ fs.length + 1 := by
  unfold putF
  rw [insF_length]
  have := delF_le fs n
  omega
theorem putF_length_some {fs : Fs} {n : Nm} {f g : Fi} (h : getF fs n = some g) : (putF fs n f).length ≤ fs.length := by
  unfold putF
  rw [insF_length]
  exact delF_lt h
/-- what a file may have -/
def FileOk (f : Fi) : Prop := f.s.size ≤ 4194304 ∧ f.k ≤ f.s.size
/-- THE DISK AT p, ITS MAP AT b. -/
structure DiskAt (w : World) (p b : Nat) (fs : Fs) (room : Int) (dead : Bool) : Prop where
  cells : w.heap[p]? = some (.cells #[.map (some b), .int .i64 room, .bool dead] 121 (0, 0))
  own : w.ownsMap Tryz.prog 9 fileElem b fs.length (dOf fs)
  few : fs.length ≤ 64
  ok : ∀ x ∈ fs, FileOk x.2
  nm : ∀ x ∈ fs, x.1.length ≤ 32
  r0 : 0 ≤ room
  r1 : room ≤ 9223372036854775807

theorem own_kept {S : Nat → Prop} {w w' : World} {b n : Nat} {D : DataW Unit} (h : w.ownsMap Tryz.prog 9 fileElem b n D) (k : Keeps S w w') (hb : ¬ S b) : w'.ownsMap Tryz.prog 9 fileElem b n D := by
  obtain ⟨es, clock, hh, r⟩ := h
  exact ⟨es, clock, k.heap hh hb, r⟩
theorem own_tight {w : World} {b n : Nat} {fs : Fs} (h : w.ownsMap Tryz.prog 9 fileElem b n (dOf fs)) : w.ownsMap Tryz.prog 9 fileElem b fs.length (dOf fs) := by
  obtain ⟨es, clock, hh, F, _, hD⟩ := h
  refine ⟨es, clock, hh, F, ?_, hD⟩
  have h1 := congrArg Maps.size hD
  rw [dOf_size] at h1
  rw [h1]
  simp [Maps.size, length_sorted]
theorem DiskAt.kept {S : Nat → Prop} {w w' : World} {p b : Nat} {fs : Fs} {room : Int} {dead : Bool} (h : DiskAt w p b fs room dead) (k : Keeps S w w') (hp : ¬ S p) (hb : ¬ S b) : DiskAt w' p b fs room dead :=
  ⟨k.heap h.cells hp, own_kept h.own k hb, h.few, h.ok, h.nm, h.r0, h.r1⟩
theorem DiskAt.drew {w : World} {p b : Nat} {fs : Fs} {room : Int} {dead : Bool} (h : DiskAt w p b fs room dead) : DiskAt w.drew p b fs room dead := h.kept (Keeps.refl (S := No) w).drew (fun h => h) (fun h => h)
theorem DiskAt.ne {w : World} {p b : Nat} {fs : Fs} {room : Int} {dead : Bool} (h : DiskAt w p b fs room dead) : p ≠ b := by
  obtain ⟨es, clock, hh, _⟩ := h.own
  rintro rfl
  rw [h.cells] at hh
  cases hh
theorem DiskAt.lt {w : World} {p b : Nat} {fs : Fs} {room : Int} {dead : Bool} (h : DiskAt w p b fs room dead) : p < w.heap.size ∧ b < w.heap.size :=
  ⟨(Array.getElem?_eq_some_iff.1 h.cells).1, h.own.lt⟩
theorem DiskAt.get_ok {w : World} {p b : Nat} {fs : Fs} {room : Int} {dead : Bool} (h : DiskAt w p b fs room dead) {n : Nm} {f : Fi} (hg : getF fs n = some f) : FileOk f := h.ok _ (mem_getF hg)
theorem DiskAt.cell0 {w : World} {p b : Nat} {fs : Fs} {room : Int} {dead : Bool} (h : DiskAt w p b fs room dead) : w.cell? ⟨p, 0, none⟩ = some (.map (some b)) := by simp [World.cell?, h.cells]
theorem DiskAt.cell1 {w : World} {p b : Nat} {fs : Fs} {room : Int} {dead : Bool} (h : DiskAt w p b fs room dead) : w.cell? ⟨p, 1, none⟩ = some (.int .i64 room) := by simp [World.cell?, h.cells]
theorem DiskAt.cell2 {w : World} {p b : Nat} {fs : Fs} {room : Int} {dead : Bool} (h : DiskAt w p b fs room dead) : w.cell? ⟨p, 2, none⟩ = some (.bool dead) := by simp [World.cell?, h.cells]
theorem DiskAt.opened {w : World} {p b : Nat} {fs : Fs} {room : Int} {dead : Bool} (h : DiskAt w p b fs room dead) : Open w p := ⟨_, _, h.cells⟩

/-- the files stand in the order of their names -/
theorem DiskAt.rising {w : World} {p b : Nat} {fs : Fs} {room : Int} {dead : Bool} (h : DiskAt w p b fs room dead) : Rising fs := by
  obtain ⟨es, clock, _, F, _, hD⟩ := h.own
  have K : Maps.Keyed Tryz.prog 9 := Maps.string_keyed Tryz.underlying9
  have hap := Maps.fit_apart K F
  have hk : ChangeMaps.StrKeys (es.toList.map (WideElems.rg Tryz.prog 9 fileElem)) := by
    intro q hq
    have hq' : q ∈ ((es.toList.map (WideElems.rg Tryz.prog 9 fileElem)).foldr DataW.insert []) := mem_sorted.2 hq
    unfold dOf at hD
    injection hD with hD
    rw [← hD] at hq'
    obtain ⟨x, _, rfl⟩ := List.mem_map.1 hq'
    exact ⟨_, rfl⟩
  have hs := ChangeMaps.sorted_sorted _ hk hap
  unfold dOf at hD
  injection hD with hD
  rw [← hD, List.pairwise_map] at hs
  exact hs

/-! ### at the operation -/
theorem Tryz.keyed : Maps.Keyed Tryz.prog 9 := Maps.string_keyed Tryz.underlying9
theorem Tryz.zeroFile (w : World) : (zeroValue 133).run Tryz.prog w = .ok (.agg #[.string ⟨#[]⟩, .int .i64 0]) w := by kernel_rfl
abbrev Fi.none : Fi := ⟨⟨#[]⟩, 0⟩

/-- 'm[k]' without ok, whatever the elements -/
theorem wpList_lookup_own_one {H : Type} {P : Program} {w : World} {ops : Array Oper} {rest : List Oper} {o : Oper} {a : Act} {Q : Exit → Act → World → Prop}
    (hg : o.guard = none) (m x : Operand) (t : TypeId) (hop : o.op = Op.lookup t m x false)
    (k e : TypeId) (K : Maps.Keyed P k) (ht : P.underlying t = some (.map k e)) (R : Value → Option (DataW H × List MemPlace)) {z : Value} (hz : (zeroValue e).run P w = .ok z w) (zd : DataW H) (zp : List MemPlace) (hzd : R z = some (zd, zp)) (b n : Nat) (D : DataW H)
    (hm : a.eval m = .map (some b)) (hown : w.ownsMap P k R b n D) (key : Value) (kl : Lit) (hx : a.eval x = key) (hkey : keyOf P k key = some kl)
    (hK : ∀ v ps, R v = some (D.atKey kl zd, ps) → wpList P ops Q rest (a.put o.dst v) w) :
    wpList P ops Q (o :: rest) a w := by
  refine wpList_plain hg fun K' hK' => ?_
  obtain ⟨v, ps, hrun, hv⟩ := hown.lookup K ht hz hzd hkey
  unfold Oper.wp
  simp [execOp, hop, hm, hx, hrun, Result.andThen]
  exact hK' _ _ (hK v ps hv)

section
variable {w : World} {ops : Array Oper} {rest : List Oper} {o : Oper} {a : Act} {Q : Exit → Act → World → Prop} {b : Nat} {fs : Fs}

theorem wpList_files_some (hg : o.guard = none) (m x : Operand) (hop : o.op = Op.lookup 119 m x true) (hown : w.ownsMap Tryz.prog 9 fileElem b fs.length (dOf fs)) (hm : a.eval m = .map (some b))
    (n : ByteArray) (hx : a.eval x = .string n) (hn : n.size ≤ maxLen) (f : Fi) (hf : getF fs n.data.toList = some f) (hK : wpList Tryz.prog ops Q rest (a.put o.dst (.tuple #[fV f, .bool true])) w) : wpList Tryz.prog ops Q (o :: rest) a w := by
  refine wpList_lookup_own_ok w hg m x _ hop _ _ Tryz.keyed Tryz.underlying119 fileElem (Tryz.zeroFile w) (fD Fi.none) [] (fileElem_mk Fi.none) b _ _ hm hown _ _ hx (WideMaps.keyOf_string_mk Tryz.underlying9 hn) ?_
  intro v ps hv
  rw [dOf_at hf] at hv
  rw [dOf_has hf, fileElem_inv hv]
  exact hK
theorem wpList_files_none (hg : o.guard = none) (m x : Operand) (hop : o.op = Op.lookup 119 m x true) (hown : w.ownsMap Tryz.prog 9 fileElem b fs.length (dOf fs)) (hm : a.eval m = .map (some b))
    (n : ByteArray) (hx : a.eval x = .string n) (hn : n.size ≤ maxLen) (hf : getF fs n.data.toList = none) (hK : wpList Tryz.prog ops Q rest (a.put o.dst (.tuple #[fV Fi.none, .bool false])) w) : wpList Tryz.prog ops Q (o :: rest) a w := by
  refine wpList_lookup_own_ok w hg m x _ hop _ _ Tryz.keyed Tryz.underlying119 fileElem (Tryz.zeroFile w) (fD Fi.none) [] (fileElem_mk Fi.none) b _ _ hm hown _ _ hx (WideMaps.keyOf_string_mk Tryz.underlying9 hn) ?_
  intro v ps hv
  rw [dOf_at_none hf] at hv
  rw [dOf_has_none hf, fileElem_inv hv]
  exact hK
/-- without ok -/
theorem wpList_files_one (hg : o.guard = none) (m x : Operand) (hop : o.op = Op.lookup 119 m x false) (hown : w.ownsMap Tryz.prog 9 fileElem b fs.length (dOf fs)) (hm : a.eval m = .map (some b))
    (n : ByteArray) (hx : a.eval x = .string n) (hn : n.size ≤ maxLen) (f : Fi) (hf : getF fs n.data.toList = some f) (hK : wpList Tryz.prog ops Q rest (a.put o.dst (fV f)) w) : wpList Tryz.prog ops Q (o :: rest) a w := by
  refine wpList_lookup_own_one hg m x _ hop _ _ Tryz.keyed Tryz.underlying119 fileElem (Tryz.zeroFile w) (fD Fi.none) [] (fileElem_mk Fi.none) b _ _ hm hown _ _ hx (WideMaps.keyOf_string_mk Tryz.underlying9 hn) ?_
  intro v ps hv
  rw [dOf_at hf] at hv
  rw [fileElem_inv hv]
  exact hK
/-- a store into the disk's map -/
theorem wpList_files_put (hg : o.guard = none) (m x v : Operand) (hop : o.op = Op.mapUpdate 119 m x v) (hown : w.ownsMap Tryz.prog 9 fileElem b fs.length (dOf fs)) (h64 : fs.length ≤ 64) (hm : a.eval m = .map (some b))
    (n : ByteArray) (hx : a.eval x = .string n) (hn : n.size ≤ maxLen) (f : Fi) (hv : a.eval v = fV f)
    (hK : ∀ w', w'.ownsMap Tryz.prog 9 fileElem b (putF fs n.data.toList f).length (dOf (putF fs n.data.toList f)) → Keeps (Own b) w w' → wpList Tryz.prog ops Q rest (a.put o.dst undef) w') : wpList Tryz.prog ops Q (o :: rest) a w := by
  refine wpList_mapUpdate_own w hg m x v _ hop _ _ Tryz.keyed Tryz.underlying119 fileElem b _ _ hm hown (Nat.lt_of_le_of_lt h64 (by unfold maxLen; omega)) _ _ _ hx hv (WideMaps.keyOf_string_mk Tryz.underlying9 hn) (fD f) [] (fileElem_mk f) ?_
  intro w' h1 h2
  rw [dOf_put] at h1
  exact hK w' (own_tight h1) ((Keeps.refl w).grown h2 (fun k hk _ => by cases hk; rfl))
/-- a file is taken out of the disk's map -/
theorem wpList_files_del (hg : o.guard = none) (m x : Operand) (hop : o.op = Op.call { callee := Callee.builtin Builtin.delete, args := #[m, x], argTypes := #[119, 9] }) (hown : w.ownsMap Tryz.prog 9 fileElem b fs.length (dOf fs)) (hm : a.eval m = .map (some b))
    (n : ByteArray) (hx : a.eval x = .string n) (hn : n.size ≤ maxLen)
    (hK : ∀ w', w'.ownsMap Tryz.prog 9 fileElem b (delF fs n.data.toList).length (dOf (delF fs n.data.toList)) → Keeps (Own b) w w' → wpList Tryz.prog ops Q rest (a.put o.dst (.tuple #[])) w') : wpList Tryz.prog ops Q (o :: rest) a w := by
  refine wpList_delete_own w hg m x _ _ hop _ Tryz.keyed Tryz.underlying119 fileElem b _ _ hm hown _ _ hx (WideMaps.keyOf_string_mk Tryz.underlying9 hn) ?_
  intro w' h1 h2
  rw [dOf_del] at h1
  exact hK w' (own_tight h1) ((Keeps.refl w).grown h2.grown (fun k hk _ => by cases hk; rfl))
end

end Go.Proofs.YtpbpgjfdledgoaaGreatDoor

/-
  Frames as data: the register of the sum, frames, and what is read of bytes. Plain Lean. No conditions of its own.
-/
namespace Go.Proofs.YtpbpgjfdledgoaaGreatDoor

/-! ### the register -/
def nibL : List Nat := [0, 498536548, 997073096, 651767980, 1994146192, 1802195444, 1303535960, 1342533948, 3988292384, 4027552580, 3604390888, 3412177804, 2607071920, 2262029012, 2685067896, 3183342108]
def nib (k : Nat) : Nat := nibL.getD k 0
def nibStep (c : Nat) : Nat := c / 16 ^^^ nib (c % 16)
def byteStep (c x : Nat) : Nat := nibStep (nibStep (c ^^^ x))
def reg (l : Nm) (c : Nat) : Nat := l.foldl (fun c x => byteStep c x.toNat) c
def sumB (l : Nm) : Nat := 4294967295 - reg l 4294967295
theorem nib_lt (k : Nat) : nib k < 2 ^ 32 := by
  by_cases h : k < 16
  · have : ∀ k : Fin 16, nib k.1 < 2 ^ 32 := by decide
    exact this ⟨k, h⟩
  · have : nib k = 0 := by
      unfold nib
      rw [List.getD_eq_getElem?_getD, List.getElem?_eq_none (by simp [nibL]; omega)]
      rfl
    omega
theorem nibStep_lt {c : Nat} (h : c < 2 ^ 32) : nibStep c < 2 ^ 32 := Nat.xor_lt_two_pow (by omega) (nib_lt _)
theorem byteStep_lt {c x : Nat} (h : c < 2 ^ 32) (hx : x < 256) : byteStep c x < 2 ^ 32 := nibStep_lt (nibStep_lt (Nat.xor_lt_two_pow h (by omega)))
theorem reg_lt : ∀ (l : Nm) {c : Nat}, c < 2 ^ 32 → reg l c < 2 ^ 32
  | [], _, h => h
  | x :: l, _, h => reg_lt l (byteStep_lt h x.toNat_lt)
theorem reg_append (a b : Nm) (c : Nat) : reg (a ++ b) c = reg b (reg a c) := List.foldl_append ..
theorem reg_snoc (a : Nm) (x : UInt8) (c : Nat) : reg (a ++ [x]) c = byteStep (reg a c) x.toNat := reg_append a [x] c

theorem sumB_lt (l : Nm) : sumB l < 2 ^ 32 := by unfold sumB; omega

/-! ### frames -/
def be3 (n : Nat) : Nm := [UInt8.ofNat (n / 65536), UInt8.ofNat (n / 256), UInt8.ofNat n]
def be4 (n : Nat) : Nm := [UInt8.ofNat (n / 16777216), UInt8.ofNat (n / 65536), UInt8.ofNat (n / 256), UInt8.ofNat n]
def frameL (t : Nm) : Nm := be3 t.length ++ t ++ be4 (sumB (be3 t.length ++ t))
def n3 (s : Nm) : Nat := (s.getD 0 0).toNat * 65536 + (s.getD 1 0).toNat * 256 + (s.getD 2 0).toNat
/-- the text of the frame with which bytes begin -/
def firstF (s : Nm) : Option Nm :=
  if s.length < 3 then none else if 65536 < n3 s then none else if s.length < 7 + n3 s then none else
    if be4 (sumB (s.take (3 + n3 s))) = (s.drop (3 + n3 s)).take 4 then some ((s.drop 3).take (n3 s)) else none
def allF : Nat → Nm → List Nm
  | 0, _ => []
  | k + 1, s => match firstF s with
    | none => []
    | some t => t :: allF k (s.drop (t.length + 7))
/-- all frames with which bytes begin -/
def parse (s : Nm) : List Nm := allF s.length s
def frames (ts : List Nm) : Nm := ts.flatMap frameL
def flen (ts : List Nm) : Nat := (ts.map (·.length + 7)).sum

theorem be3_length (n : Nat) : (be3 n).length = 3 := rfl
theorem be4_length (n : Nat) : (be4 n).length = 4 := rfl
theorem frameL_length (t : Nm) : (frameL t).length = t.length + 7 := by simp [frameL, be3_length, be4_length]; omega
theorem frames_cons (t : Nm) (ts : List Nm) : frames (t :: ts) = frameL t ++ frames ts := by simp [frames]
theorem frames_append (a b : List Nm) : frames (a ++ b) = frames a ++ frames b := by simp [frames]
theorem frames_length (ts : List Nm) : (frames ts).length = flen ts := by
  induction ts with
  | nil => rfl
  | cons t ts ih => rw [frames_cons, List.length_append, frameL_length, ih]; simp [flen]
theorem flen_append (a b : List Nm) : flen (a ++ b) = flen a + flen b := by simp [flen]
theorem n3_be3 {n : Nat} (h : n < 16777216) (r : Nm) : n3 (be3 n ++ r) = n := by
  simp [n3, be3]
  omega
theorem be3_n3 (s : Nm) (h : 3 ≤ s.length) : be3 (n3 s) = s.take 3 := by
  match s, h with
  | a :: b :: c :: r, _ =>
    simp only [n3, be3, List.getD_cons_zero, List.getD_cons_succ, List.take_succ_cons, List.take_zero, List.cons.injEq, and_true]
    have ha := a.toNat_lt
    have hb := b.toNat_lt
    have hc := c.toNat_lt
    refine ⟨?_, ?_, ?_⟩
    · apply UInt8.toNat_inj.1
      rw [UInt8.toNat_ofNat']
      omega
    · apply UInt8.toNat_inj.1
      rw [UInt8.toNat_ofNat']
      omega
    · apply UInt8.toNat_inj.1
      rw [UInt8.toNat_ofNat']
      omega
theorem firstF_frame (t r : Nm) (h : t.length ≤ 65536) : firstF (frameL t ++ r) = some t := by
  have hn : n3 (frameL t ++ r) = t.length := by
    unfold frameL
    rw [List.append_assoc, List.append_assoc]
    exact n3_be3 (by omega) _
  have hl : (frameL t ++ r).length = t.length + 7 + r.length := by rw [List.length_append, frameL_length]
  unfold firstF
  rw [hn, hl, if_neg (by omega), if_neg (by omega), if_neg (by omega)]
  have h1 : (frameL t ++ r).take (3 + t.length) = be3 t.length ++ t := by
    unfold frameL
    rw [List.append_assoc, List.take_left' (by simp [be3_length])]
  have h2 : (frameL t ++ r).drop (3 + t.length) = be4 (sumB (be3 t.length ++ t)) ++ r := by
    unfold frameL
    rw [List.append_assoc, List.drop_left' (by simp [be3_length])]
  have h3 : ((frameL t ++ r).drop 3).take t.length = t := by
    unfold frameL
    rw [List.append_assoc, List.append_assoc, List.drop_left' (be3_length _), List.take_left' rfl]
  rw [h1, h2, h3, List.take_left' (be4_length _), if_pos rfl]
theorem firstF_some {s t : Nm} (h : firstF s = some t) : t.length ≤ 65536 ∧ ∃ r, s = frameL t ++ r := by
  unfold firstF at h
  split at h
  · cases h
  rename_i h1
  split at h
  · cases h
  rename_i h2
  split at h
  · cases h
  rename_i h3
  split at h
  · rename_i h4
    simp only [Option.some.injEq] at h
    have hl : t.length = n3 s := by rw [← h, List.length_take, List.length_drop]; omega
    refine ⟨by omega, s.drop (7 + n3 s), ?_⟩
    have ht : be3 t.length ++ t = s.take (3 + n3 s) := by
      rw [hl, be3_n3 s (by omega), ← h, List.take_add]
    unfold frameL
    rw [ht, h4, List.append_assoc]
    have e : (s.drop (3 + n3 s)).take 4 ++ s.drop (7 + n3 s) = s.drop (3 + n3 s) := by
      have : s.drop (7 + n3 s) = (s.drop (3 + n3 s)).drop 4 := by rw [List.drop_drop]; congr 1; omega
      rw [this, List.take_append_drop]
    rw [e, List.take_append_drop]
  · cases h
theorem allF_enough : ∀ (k m : Nat) (s : Nm), s.length ≤ k → s.length ≤ m → allF k s = allF m s
  | 0, 0, _, _, _ => rfl
  | 0, m + 1, s, h, _ => by
    have : s = [] := List.eq_nil_of_length_eq_zero (by omega)
    subst this
    rfl
  | k + 1, 0, s, _, h => by
    have : s = [] := List.eq_nil_of_length_eq_zero (by omega)
    subst this
    rfl
  | k + 1, m + 1, s, h1, h2 => by
    unfold allF
    cases hf : firstF s with
    | none => rfl
    | some t =>
      obtain ⟨_, r, hr⟩ := firstF_some hf
      have hs : s.length = t.length + 7 + r.length := by rw [hr, List.length_append, frameL_length]
      dsimp only
      rw [allF_enough k m (s.drop (t.length + 7)) (by rw [List.length_drop]; omega) (by rw [List.length_drop]; omega)]
theorem parse_none {s : Nm} (h : firstF s = none) : parse s = [] := by
  unfold parse
  cases hs : s.length with
  | zero => rfl
  | succ k => unfold allF; rw [h]
theorem parse_some {s t : Nm} (h : firstF s = some t) : parse s = t :: parse (s.drop (t.length + 7)) := by
  obtain ⟨_, r, hr⟩ := firstF_some h
  have hs : s.length = t.length + 7 + r.length := by rw [hr, List.length_append, frameL_length]
  unfold parse
  cases hl : s.length with
  | zero => omega
  | succ k =>
    rw [allF, h]
    dsimp only
    rw [allF_enough k (s.drop (t.length + 7)).length (s.drop (t.length + 7)) (by rw [List.length_drop]; omega) (Nat.le_refl _)]
theorem parse_cons (t r : Nm) (h : t.length ≤ 65536) : parse (frameL t ++ r) = t :: parse r := by
  rw [parse_some (firstF_frame t r h), List.drop_left' (frameL_length t)]
/-- what is read: frames, and what comes behind them begins with none -/
theorem parse_parts (s : Nm) : ∃ r, s = frames (parse s) ++ r ∧ firstF r = none ∧ ∀ t ∈ parse s, t.length ≤ 65536 := by
  suffices h : ∀ (k : Nat) (s : Nm), s.length ≤ k → ∃ r, s = frames (parse s) ++ r ∧ firstF r = none ∧ ∀ t ∈ parse s, t.length ≤ 65536 from h s.length s (Nat.le_refl _)
  intro k
  induction k with
  | zero =>
    intro s hs
    have : s = [] := List.eq_nil_of_length_eq_zero (by omega)
    subst this
    exact ⟨[], rfl, rfl, fun t ht => absurd ht List.not_mem_nil⟩
  | succ k ih =>
    intro s hs
    cases hf : firstF s with
    | none => exact ⟨s, by rw [parse_none hf]; rfl, hf, by rw [parse_none hf]; exact fun t ht => absurd ht List.not_mem_nil⟩
    | some t =>
      obtain ⟨ht, r, hr⟩ := firstF_some hf
      have hl : s.length = t.length + 7 + r.length := by rw [hr, List.length_append, frameL_length]
      obtain ⟨r', h1, h2, h3⟩ := ih r (by omega)
      have hp : parse s = t :: parse r := by rw [hr]; exact parse_cons t r ht
      refine ⟨r', by rw [hp, frames_cons, List.append_assoc, ← h1, hr], h2, ?_⟩
      rw [hp]
      intro x hx
      rcases List.mem_cons.1 hx with rfl | hx
      · exact ht
      · exact h3 x hx
theorem parse_flen (s : Nm) : flen (parse s) ≤ s.length := by
  obtain ⟨r, h, _⟩ := parse_parts s
  rw [← frames_length]
  conv => rhs; rw [h]
  rw [List.length_append]
  omega
end Go.Proofs.YtpbpgjfdledgoaaGreatDoor

/-
  Numbers as bytes, plain: how they are laid, and read. No conditions of its own.
-/
namespace Go.Proofs.YtpbpgjfdledgoaaGreatDoor

/-- in how many bytes a number below 256^k can be written -/
def oszF : Nat → Nat → Nat
  | 0, _ => 0
  | k + 1, m => bif m == 0 then 0 else oszF k (m / 256) + 1
def osz (m : Nat) : Nat := oszF 8 m
/-- a number's lowest k bytes, the highest one first -/
def ohigh (m : Nat) : Nat → Nm
  | 0 => []
  | k + 1 => ohigh (m / 256) k ++ [UInt8.ofNat (m % 256)]
/-- a number without its sign -/
def mag (n : Int) : Nat := bif decide (n < 0) then (-(n + 1)).toNat else n.toNat
/-- a number's bytes -/
def layI (n : Int) : Nm := UInt8.ofNat ((bif decide (n < 0) then 128 else 0) + osz (mag n)) :: ohigh (mag n) (osz (mag n))
/-- what bytes say, the highest one first -/
def onum (s : Nm) : Nat := s.foldl (fun n x => 256 * n + x.toNat) 0
/-- do bytes begin with no number? -/
def headBad (h : UInt8) (t : Nm) : Bool := decide (8 < h.toNat % 128) || (decide (t.length < h.toNat % 128) || ((decide (0 < h.toNat % 128) && ((t.getD 0 0).toNat == 0)) || (decide (h.toNat % 128 = 8) && decide (127 < (t.getD 0 0).toNat))))
def headVal (h : UInt8) (t : Nm) : Int := bif decide (127 < h.toNat) then -(onum (t.take (h.toNat % 128)) : Int) - 1 else (onum (t.take (h.toNat % 128)) : Int)
/-- the number with which bytes begin, and how many bytes it has -/
def headI : Nm → Option (Int × Nat)
  | [] => none
  | h :: t => bif headBad h t then none else some (headVal h t, 1 + h.toNat % 128)

theorem ohigh_length : ∀ (k m : Nat), (ohigh m k).length = k
  | 0, _ => rfl
  | k + 1, m => by simp [ohigh, ohigh_length k]
theorem onum_append (s : Nm) (x : UInt8) : onum (s ++ [x]) = 256 * onum s + x.toNat := by simp [onum]
theorem onum_ohigh : ∀ (k m : Nat), m < 256 ^ k → onum (ohigh m k) = m
  | 0, m, h => by
    have : m = 0 := by simpa using h
    subst this
    rfl
  | k + 1, m, h => by
    have h2 : m / 256 < 256 ^ k := by rw [Nat.div_lt_iff_lt_mul (by omega)]; rw [Nat.pow_succ] at h; exact h
    have h3 : (UInt8.ofNat (m % 256)).toNat = m % 256 := by simp
    rw [ohigh, onum_append, onum_ohigh k _ h2, h3]
    omega
theorem snocInd {α : Type} {P : List α → Prop} (h0 : P []) (h1 : ∀ s x, P s → P (s ++ [x])) (s : List α) : P s := by
  have : ∀ t : List α, P t.reverse := by
    intro t
    induction t with
    | nil => exact h0
    | cons x t ih => rw [List.reverse_cons]; exact h1 _ _ ih
  have h := this s.reverse
  rwa [List.reverse_reverse] at h
theorem onum_lt (s : Nm) : onum s < 256 ^ s.length := by
  induction s using snocInd with
  | h0 => simp [onum]
  | h1 s x ih =>
    have hx := x.toNat_lt
    rw [onum_append, List.length_append, List.length_singleton, Nat.pow_succ]
    omega
theorem oszF_le : ∀ (k m : Nat), oszF k m ≤ k
  | 0, _ => Nat.le_refl _
  | k + 1, m => by
    unfold oszF
    cases m == 0
    · have := oszF_le k (m / 256); simp only [cond_false]; omega
    · simp
theorem osz_le (m : Nat) : osz m ≤ 8 := oszF_le 8 m
theorem lt_oszF : ∀ (k m : Nat), m < 256 ^ k → m < 256 ^ oszF k m
  | 0, m, h => h
  | k + 1, m, h => by
    unfold oszF
    by_cases h0 : m = 0
    · subst h0; simp
    · have hb : (m == 0) = false := by simpa using h0
      have h2 : m / 256 < 256 ^ k := by rw [Nat.div_lt_iff_lt_mul (by omega)]; rw [Nat.pow_succ] at h; exact h
      have := lt_oszF k _ h2
      rw [hb, cond_false, Nat.pow_succ]
      omega
theorem pow8 : (256 : Nat) ^ 8 = 18446744073709551616 := by decide
theorem lt_osz {m : Nat} (h : m < 18446744073709551616) : m < 256 ^ osz m := lt_oszF 8 m (by rw [pow8]; exact h)
theorem oszF_lo : ∀ (k m : Nat), 0 < oszF k m → 256 ^ (oszF k m - 1) ≤ m
  | 0, m, h => absurd h (Nat.lt_irrefl _)
  | k + 1, m, h => by
    unfold oszF at h ⊢
    by_cases h0 : m = 0
    · subst h0; simp at h
    · have hb : (m == 0) = false := by simpa using h0
      rw [hb, cond_false] at h ⊢
      rw [Nat.add_sub_cancel]
      by_cases h1 : oszF k (m / 256) = 0
      · rw [h1]; simp; omega
      · have := oszF_lo k (m / 256) (by omega)
        have e : oszF k (m / 256) = oszF k (m / 256) - 1 + 1 := by omega
        rw [e, Nat.pow_succ]
        omega
theorem oszF_step (k m : Nat) (h : m ≠ 0) : oszF (k + 1) m = oszF k (m / 256) + 1 := by
  have hb : (m == 0) = false := by simpa using h
  rw [oszF, hb, cond_false]
theorem mag_nonneg {n : Int} (h : ¬ n < 0) : mag n = n.toNat := by unfold mag; rw [decide_eq_false h]; rfl
theorem mag_neg {n : Int} (h : n < 0) : mag n = (-(n + 1)).toNat := by unfold mag; rw [decide_eq_true h]; rfl
theorem mag_lt {n : Int} (h1 : -9223372036854775808 ≤ n) (h2 : n ≤ 9223372036854775807) : mag n < 9223372036854775808 := by
  by_cases h : n < 0
  · rw [mag_neg h]; omega
  · rw [mag_nonneg h]; omega
theorem layI_length (n : Int) : (layI n).length = 1 + osz (mag n) := by unfold layI; rw [List.length_cons, ohigh_length]; omega
theorem layI_le (n : Int) : (layI n).length ≤ 9 := by have := osz_le (mag n); rw [layI_length]; omega
theorem getD_ohigh (m k : Nat) (hk : 0 < k) (hm : m < 256 ^ k) : ((ohigh m k).getD 0 0).toNat = m / 256 ^ (k - 1) := by
  induction k generalizing m with
  | zero => omega
  | succ k ih =>
    rw [Nat.add_sub_cancel]
    cases k with
    | zero =>
      simp only [ohigh, List.nil_append, List.getD_cons_zero]
      simp at hm ⊢
      omega
    | succ k =>
      have h2 : m / 256 < 256 ^ (k + 1) := by rw [Nat.div_lt_iff_lt_mul (by omega)]; rw [Nat.pow_succ] at hm; exact hm
      have e := ih (m / 256) (by omega) h2
      rw [ohigh]
      have hl : (ohigh (m / 256) (k + 1)).length = k + 1 := ohigh_length _ _
      rw [List.getD_eq_getElem?_getD, List.getElem?_append_left (by omega), ← List.getD_eq_getElem?_getD, e, Nat.add_sub_cancel, Nat.div_div_eq_div_mul, Nat.pow_succ, Nat.mul_comm]
theorem headI_lay (n : Int) (h1 : -9223372036854775808 ≤ n) (h2 : n ≤ 9223372036854775807) (r : Nm) : headI (layI n ++ r) = some (n, (layI n).length) := by
  have hm := mag_lt h1 h2
  have hm2 : mag n < 18446744073709551616 := by omega
  have hs := osz_le (mag n)
  obtain ⟨M, hM⟩ : ∃ M, M = mag n := ⟨_, rfl⟩
  obtain ⟨S, hS⟩ : ∃ S, S = osz (mag n) := ⟨_, rfl⟩
  have hhi : (UInt8.ofNat ((bif decide (n < 0) then 128 else 0) + S)).toNat = (bif decide (n < 0) then 128 else 0) + S := by
    rw [← hS] at hs
    cases decide (n < 0)
    · simp only [cond_false]; rw [UInt8.toNat_ofNat']; omega
    · simp only [cond_true]; rw [UInt8.toNat_ofNat']; omega
  have hk : ((bif decide (n < 0) then 128 else 0) + S) % 128 = S := by
    rw [← hS] at hs
    cases decide (n < 0)
    · simp only [cond_false]; omega
    · simp only [cond_true]; omega
  have hlen := layI_length n
  unfold layI at hlen ⊢
  rw [← hS, ← hM] at hlen ⊢
  rw [List.cons_append, headI]
  have hlo : M < 256 ^ S := by rw [hM, hS]; exact lt_osz hm2
  have hol : (ohigh M S).length = S := ohigh_length S M
  have hbad : headBad (UInt8.ofNat ((bif decide (n < 0) then 128 else 0) + S)) (ohigh M S ++ r) = false := by
    unfold headBad
    rw [hhi, hk, decide_eq_false (by omega), Bool.false_or, decide_eq_false (by rw [List.length_append, hol]; omega), Bool.false_or]
    by_cases h0 : S = 0
    · rw [decide_eq_false (by omega), decide_eq_false (by omega)]; rfl
    · have hg : ((ohigh M S ++ r).getD 0 0).toNat = M / 256 ^ (S - 1) := by
        rw [List.getD_eq_getElem?_getD, List.getElem?_append_left (by omega), ← List.getD_eq_getElem?_getD]
        exact getD_ohigh M S (by omega) hlo
      rw [hg]
      have hge : 256 ^ (S - 1) ≤ M := by
        have := oszF_lo 8 (mag n) (by have := hS; unfold osz at this; omega)
        rw [hM, hS]
        exact this
      have hpos : 0 < 256 ^ (S - 1) := Nat.pow_pos (by omega)
      have h1 : 0 < M / 256 ^ (S - 1) := Nat.div_pos hge hpos
      have hn0 : (M / 256 ^ (S - 1) == 0) = false := by
        rw [beq_eq_false_iff_ne]; omega
      rw [hn0, Bool.and_false, Bool.false_or]
      by_cases h8 : S = 8
      · rw [h8]
        have : M / 256 ^ (8 - 1) ≤ 127 := by
          have e : (256 : Nat) ^ (8 - 1) = 72057594037927936 := by decide
          rw [e]
          omega
        rw [decide_eq_false (by omega : ¬ 127 < M / 256 ^ (8 - 1)), Bool.and_false]
      · rw [decide_eq_false h8, Bool.false_and]
  rw [hbad, cond_false]
  have hval : headVal (UInt8.ofNat ((bif decide (n < 0) then 128 else 0) + S)) (ohigh M S ++ r) = n := by
    unfold headVal
    rw [hhi, hk, List.take_left' hol, onum_ohigh S M hlo, hM]
    by_cases hn : n < 0
    · rw [decide_eq_true hn, mag_neg hn]
      simp only [cond_true]
      rw [decide_eq_true (by omega), cond_true]
      omega
    · rw [decide_eq_false hn, mag_nonneg hn]
      simp only [cond_false]
      rw [decide_eq_false (by omega), cond_false]
      omega
  rw [hval, hhi, hk, hlen]
/-- what is read is a number of the machine's, and has at most nine bytes -/
theorem headI_ok {s : Nm} {n : Int} {k : Nat} (h : headI s = some (n, k)) : -9223372036854775808 ≤ n ∧ n ≤ 9223372036854775807 ∧ 1 ≤ k ∧ k ≤ s.length ∧ k ≤ 9 := by
  cases s with
  | nil => cases h
  | cons x t =>
    rw [headI] at h
    cases hb : headBad x t with
    | true => rw [hb] at h; cases h
    | false =>
      rw [hb, cond_false] at h
      simp only [Option.some.injEq, Prod.mk.injEq] at h
      obtain ⟨rfl, rfl⟩ := h
      unfold headBad at hb
      rw [Bool.or_eq_false_iff, Bool.or_eq_false_iff, Bool.or_eq_false_iff] at hb
      obtain ⟨h8, hl, h0, h127⟩ := hb
      simp only [decide_eq_false_iff_not, Nat.not_lt] at h8 hl
      obtain ⟨K, hK⟩ : ∃ K, K = x.toNat % 128 := ⟨_, rfl⟩
      rw [← hK] at h8 hl h0 h127 ⊢
      have hlt : onum (t.take K) < 9223372036854775808 := by
        by_cases hk8 : K = 8
        · rw [decide_eq_true hk8, Bool.true_and, decide_eq_false_iff_not] at h127
          subst hk8
          match t, hl with
          | [a, b, c, d, e, f, g, i], _ | a :: b :: c :: d :: e :: f :: g :: i :: _ :: _, _ =>
            have := a.toNat_lt; have := b.toNat_lt; have := c.toNat_lt; have := d.toNat_lt; have := e.toNat_lt; have := f.toNat_lt; have := g.toNat_lt; have := i.toNat_lt
            simp only [List.getD_cons_zero, Nat.not_lt] at h127
            simp only [onum, List.take_succ_cons, List.take_zero, List.foldl_cons, List.foldl_nil]
            omega
        · have := onum_lt (t.take K)
          have hl2 : (t.take K).length = K := by rw [List.length_take]; omega
          rw [hl2] at this
          have h7 : 256 ^ K ≤ 256 ^ 7 := Nat.pow_le_pow_right (by omega) (by omega)
          have e7 : (256 : Nat) ^ 7 = 72057594037927936 := by decide
          omega
      unfold headVal
      rw [← hK, List.length_cons]
      cases decide (127 < x.toNat)
      · simp only [cond_false]; omega
      · simp only [cond_true]; omega
end Go.Proofs.YtpbpgjfdledgoaaGreatDoor

