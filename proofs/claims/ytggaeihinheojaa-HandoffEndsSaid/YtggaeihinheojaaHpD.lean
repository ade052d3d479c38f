/-
  A world of three shards in memory. No conditions of its own.
-/
import Derived.Test.YtggaeihinheojaaHpC
import Derived.Test.YtggaeihinheojaaHoAD
import Derived.Test.YtggaeihinheojaaHoAB
import Derived.Test.YtggaeihinheojaaHoAC
namespace Go.Proofs.Ytggaeihinheojaa
open Go.RowKit

/-- where the shards' rows lie, and those of the ways -/
structure Vs where
  o : Nat → Value
  u : Nat → Value
  i : Nat → Value
  w : Nat → Nat → Value
abbrev nilV : Value := .slice none 0 0
abbrev shC (o u i : Value) (nx : Nat) : List Value := [.int .i64 0, .int .i64 0, o, nilV, u, i, nilV, .int .i64 nx]
/-- the blocks that the law turns -/
def Mut (g : Nat) (V : Vs) (i : Nat) : Prop := i = g ∨ ∃ a b, a < 3 ∧ b < 3 ∧ (V.w a b).ownBlock = some i
/-- what reads here lies elsewhere -/
def FarL {α : Type} (g : Nat) (V : Vs) (v : Value) (l : List α) : Prop := l ≠ [] → ∀ i, v.ownBlock = some i → ¬ Mut g V i
abbrev mV (m : Ms) : Value := .slice m.a m.bs.length m.c

/-- an empty row reads anywhere -/
theorem rd_kept {α : Type} {C : Codec α} {S : Nat → Prop} {w w' : World} {v : Value} {l : List α} (h : RdOf C w v l) (k : Keeps S w w') (hf : l ≠ [] → ∀ i, v.ownBlock = some i → ¬ S i) : RdOf C w' v l := by
  by_cases hl : l = []
  · subst hl
    refine ⟨Reads.len h, h.one, ?_⟩
    rcases h.shape with h0 | ⟨a, c, h1, h2, h3, _⟩
    · exact .inl h0
    · exact .inr ⟨a, c, h1, h2, h3, fun j u hu => by cases hu⟩
  · exact h.kept k (hf hl)
theorem rd_lt {α : Type} {C : Codec α} {w : World} {v : Value} {l : List α} (h : RdOf C w v l) (hl : l ≠ []) {i : Nat} (hi : v.ownBlock = some i) : i < w.heap.size := by
  refine reads_lt h ?_ hi
  rw [rowsOf_length]
  have := C.pos
  have : 0 < l.length := by cases l with
    | nil => exact absurd rfl hl
    | cons => simp
  exact Nat.mul_pos this C.pos

/-- THE WORLD'S BOX AT g -/
structure WAt (w : World) (g base : Nat) (V : Vs) (ms : Nat → Nat → List Ms) (W : Wd) : Prop where
  box : Open w g
  size : (rowD w g).size = 34
  st : ∀ k, k < 3 → cellsAt w g (k * 8) 8 = some (shC (V.o k) (V.u k) (V.i k) (W.s k).nx)
  wy : ∀ a b, a < 3 → b < 3 → w.cell? ⟨g, 24 + a * 3 + b, none⟩ = some (V.w a b)
  n : w.cell? ⟨g, 33, none⟩ = some (.int .i64 W.n)
  own : ∀ k, k < 3 → RdOf cBd w (V.o k) (W.s k).own ∧ FarL g V (V.o k) (W.s k).own
  outs : ∀ k, k < 3 → RdOf cOu w (V.u k) (W.s k).outs ∧ FarL g V (V.u k) (W.s k).outs
  ins : ∀ k, k < 3 → RdOf cIn w (V.i k) (W.s k).ins ∧ FarL g V (V.i k) (W.s k).ins
  row : ∀ a b, a < 3 → b < 3 → OwnOf cMs 31 w base (V.w a b) (ms a b)
  said : ∀ a b, a < 3 → b < 3 → (ms a b).map mcOf = W.way a b
  lists : ∀ a b, a < 3 → b < 3 → ∀ m ∈ ms a b, RdOf cBd w (mV m) m.bs ∧ FarL g V (mV m) m.bs
  apart : ∀ a b c d i, a < 3 → b < 3 → c < 3 → d < 3 → (V.w a b).ownBlock = some i → (V.w c d).ownBlock = some i → a = c ∧ b = d
  gb : g < base

section
variable {w w' : World} {g base : Nat} {V : Vs} {ms : Nat → Nat → List Ms} {W : Wd}

theorem WAt.glt (h : WAt w g base V ms W) : g < w.heap.size := by
  obtain ⟨C, t, hh⟩ := h.box
  exact (Array.getElem?_eq_some_iff.1 hh).1
theorem WAt.mut_lt (h : WAt w g base V ms W) {i : Nat} (hi : Mut g V i) : i < w.heap.size := by
  rcases hi with rfl | ⟨a, b, ha, hb, hi⟩
  · exact h.glt
  · exact ((h.row a b ha hb).lt i hi).2
theorem fresh_far {α : Type} (h : WAt w g base V ms W) {v : Value} (hf : Fresh w v) (l : List α) : FarL g V v l := fun _ i hi hm => by
  have := h.mut_lt hm
  have := hf i hi
  omega
/-- what the callees do does not touch it -/
theorem WAt.no (h : WAt w g base V ms W) (k : Keeps No w w') : WAt w' g base V ms W :=
  ⟨k.opened h.box, k.rowSize h.box h.size, fun i hi => k.cellsAt (h.st i hi), fun a b ha hb => k.cell (h.wy a b ha hb) (fun h => h), k.cell h.n (fun h => h),
    fun i hi => ⟨(h.own i hi).1.kept k (fun _ _ h => h), (h.own i hi).2⟩, fun i hi => ⟨(h.outs i hi).1.kept k (fun _ _ h => h), (h.outs i hi).2⟩, fun i hi => ⟨(h.ins i hi).1.kept k (fun _ _ h => h), (h.ins i hi).2⟩,
    fun a b ha hb => k.owns (h.row a b ha hb) (fun _ _ h => h), h.said, fun a b ha hb m hm => ⟨(h.lists a b ha hb m hm).1.kept k (fun _ _ h => h), (h.lists a b ha hb m hm).2⟩, h.apart, h.gb⟩

/-- the box alone is turned: what is behind it stays -/
theorem rd_box {α : Type} {C : Codec α} {v : Value} {l : List α} (h : RdOf C w v l) (hf : FarL g V v l) (k : Keeps (Own g) w w') : RdOf C w' v l := rd_kept h k (fun hl i hi e => hf hl i hi (.inl e))
theorem own_box {a b : Nat} (h : WAt w g base V ms W) (ha : a < 3) (hb : b < 3) (k : Keeps (Own g) w w') : OwnOf cMs 31 w' base (V.w a b) (ms a b) :=
  k.owns (h.row a b ha hb) (fun i hi e => by have h1 := ((h.row a b ha hb).lt i hi).1; have h2 := h.gb; have : i = g := e; omega)

def Vs.setS (V : Vs) (k : Nat) (o u i : Value) : Vs := ⟨upd V.o k o, upd V.u k u, upd V.i k i, V.w⟩
/-- A SHARD'S STATE IS ANOTHER ONE: as one store of its eight cells -/
theorem WAt.setS (h : WAt w g base V ms W) {k : Nat} (hk : k < 3) {x : Sh} {o u i : Value} (hbox : Open w' g) (hsz : (rowD w' g).size = 34) (hst : cellsAt w' g (k * 8) 8 = some (shC o u i x.nx))
    (hoth : ∀ j, j < 3 → j ≠ k → cellsAt w' g (j * 8) 8 = cellsAt w g (j * 8) 8) (hwy : ∀ j, 24 ≤ j → w'.cell? ⟨g, j, none⟩ = w.cell? ⟨g, j, none⟩) (hk' : Keeps (Own g) w w')
    (ho : RdOf cBd w o x.own ∧ FarL g V o x.own) (hu : RdOf cOu w u x.outs ∧ FarL g V u x.outs) (hi : RdOf cIn w i x.ins ∧ FarL g V i x.ins) : WAt w' g base (V.setS k o u i) ms (W.setS k x) := by
  refine ⟨hbox, hsz, ?_, fun a b ha hb => (hwy _ (by omega)).trans (h.wy a b ha hb), (hwy 33 (by omega)).trans h.n, ?_, ?_, ?_, fun a b ha hb => (show OwnOf cMs 31 w' base (V.w a b) (ms a b) from own_box h ha hb hk'), h.said,
    fun a b ha hb m hm => ⟨rd_box (h.lists a b ha hb m hm).1 (h.lists a b ha hb m hm).2 hk', (h.lists a b ha hb m hm).2⟩, h.apart, h.gb⟩
  · intro j hj
    show cellsAt w' g (j * 8) 8 = some (shC (upd V.o k o j) (upd V.u k u j) (upd V.i k i j) (upd W.s k x j).nx)
    by_cases e : j = k
    · subst e
      rw [upd_at, upd_at, upd_at, upd_at]
      exact hst
    · rw [upd_ne _ _ e, upd_ne _ _ e, upd_ne _ _ e, upd_ne _ _ e, hoth j hj e]
      exact h.st j hj
  · intro j hj
    show RdOf cBd w' (upd V.o k o j) (upd W.s k x j).own ∧ FarL g V (upd V.o k o j) (upd W.s k x j).own
    by_cases e : j = k
    · subst e
      rw [upd_at, upd_at]
      exact ⟨rd_box ho.1 ho.2 hk', ho.2⟩
    · rw [upd_ne _ _ e, upd_ne _ _ e]
      exact ⟨rd_box (h.own j hj).1 (h.own j hj).2 hk', (h.own j hj).2⟩
  · intro j hj
    show RdOf cOu w' (upd V.u k u j) (upd W.s k x j).outs ∧ FarL g V (upd V.u k u j) (upd W.s k x j).outs
    by_cases e : j = k
    · subst e
      rw [upd_at, upd_at]
      exact ⟨rd_box hu.1 hu.2 hk', hu.2⟩
    · rw [upd_ne _ _ e, upd_ne _ _ e]
      exact ⟨rd_box (h.outs j hj).1 (h.outs j hj).2 hk', (h.outs j hj).2⟩
  · intro j hj
    show RdOf cIn w' (upd V.i k i j) (upd W.s k x j).ins ∧ FarL g V (upd V.i k i j) (upd W.s k x j).ins
    by_cases e : j = k
    · subst e
      rw [upd_at, upd_at]
      exact ⟨rd_box hi.1 hi.2 hk', hi.2⟩
    · rw [upd_ne _ _ e, upd_ne _ _ e]
      exact ⟨rd_box (h.ins j hj).1 (h.ins j hj).2 hk', (h.ins j hj).2⟩

theorem splice_size (C : Array Value) (o : Nat) (l : List Value) (h : o + l.length ≤ C.size) : (splice C o l).size = C.size := by
  unfold splice
  simp only [List.size_toArray, List.length_append, List.length_take, List.length_drop, Array.length_toList]
  omega
theorem splice_get (C : Array Value) (o : Nat) (l : List Value) (h : o + l.length ≤ C.size) (j : Nat) (hj : j < o ∨ o + l.length ≤ j) : (splice C o l)[j]? = C[j]? := by
  unfold splice
  have hc : C.toList.length = C.size := Array.length_toList
  have e : C[j]? = C.toList[j]? := Array.getElem?_toList.symm
  rw [List.getElem?_toArray, e]
  rcases hj with hj | hj
  · rw [List.append_assoc, List.getElem?_append_left (by rw [List.length_take, hc]; omega), List.getElem?_take, if_pos hj]
  · rw [List.getElem?_append_right (by rw [List.length_append, List.length_take, hc]; omega), List.getElem?_drop]
    congr 1
    rw [List.length_append, List.length_take, hc]
    omega
/-- all eight cells at once -/
theorem WAt.put8 (h : WAt w g base V ms W) {k : Nat} (hk : k < 3) (x : Sh) {o u i : Value} (ho : RdOf cBd w o x.own ∧ FarL g V o x.own) (hu : RdOf cOu w u x.outs ∧ FarL g V u x.outs) (hi : RdOf cIn w i x.ins ∧ FarL g V i x.ins) :
    WAt (w.setRow g (splice (rowD w g) (k * 8) (shC o u i x.nx))) g base (V.setS k o u i) ms (W.setS k x) ∧ Keeps (Own g) w (w.setRow g (splice (rowD w g) (k * 8) (shC o u i x.nx))) := by
  have hl : (shC o u i x.nx).length = 8 := rfl
  have hfit : k * 8 + (shC o u i x.nx).length ≤ (rowD w g).size := by rw [h.size, hl]; omega
  have hss := splice_size (rowD w g) (k * 8) (shC o u i x.nx) hfit
  have hk' : Keeps (Own g) w (w.setRow g (splice (rowD w g) (k * 8) (shC o u i x.nx))) := (Keeps.refl w).setRow (S := Own g) (fun _ => rfl) _
  have hat : ∀ j n, cellsAt (w.setRow g (splice (rowD w g) (k * 8) (shC o u i x.nx))) g j n = if j + n ≤ 34 then some (((splice (rowD w g) (k * 8) (shC o u i x.nx)).toList.drop j).take n) else none := by
    intro j n
    rw [cellsAt_setRow_at _ _ _ _ _ h.box, hss, h.size]
  have hcell : ∀ j, (w.setRow g (splice (rowD w g) (k * 8) (shC o u i x.nx))).cell? ⟨g, j, none⟩ = (splice (rowD w g) (k * 8) (shC o u i x.nx))[j]? := fun j => cell_setRow_at w g j _ h.box
  have hcell0 : ∀ j, w.cell? ⟨g, j, none⟩ = (rowD w g)[j]? := by
    intro j
    obtain ⟨C, t, hh⟩ := h.box
    have : rowD w g = C := by unfold rowD; rw [hh]
    rw [this]
    simp [World.cell?, hh]
  refine ⟨h.setS hk ((open_setRow w g g _).2 h.box) (by rw [rowD_setRow_at w g _ h.box, hss, h.size]) ?_ ?_ ?_ hk' ho hu hi, hk'⟩
  · rw [hat, if_pos (by omega)]
    congr 1
    unfold splice
    have h1 : ((rowD w g).toList.take (k * 8)).length = k * 8 := by rw [List.length_take, Array.length_toList, h.size]; omega
    show (((rowD w g).toList.take (k * 8) ++ shC o u i x.nx ++ _).drop (k * 8)).take 8 = _
    rw [List.append_assoc, List.drop_left' h1, List.take_left' hl]
  · intro j hj hne
    have h0 := cellsAt_length (h.st j hj)
    rw [hat, if_pos (by omega)]
    have e : cellsAt w g (j * 8) 8 = some (((rowD w g).toList.drop (j * 8)).take 8) := by
      obtain ⟨C, t, hh⟩ := h.box
      have hr : rowD w g = C := by unfold rowD; rw [hh]
      have hs := h.size
      rw [hr] at hs ⊢
      unfold cellsAt
      rw [hh]
      show (if j * 8 + 8 ≤ C.size then _ else _) = _
      rw [if_pos (by omega)]
    rw [e]
    congr 1
    refine List.ext_getElem? fun m => ?_
    by_cases hm : m < 8
    · rw [List.getElem?_take, List.getElem?_take, if_pos hm, if_pos hm, List.getElem?_drop, List.getElem?_drop, Array.getElem?_toList, Array.getElem?_toList]
      exact splice_get _ _ _ hfit _ (by rw [hl]; omega)
    · rw [List.getElem?_take, List.getElem?_take, if_neg hm, if_neg hm]
  · intro j hj
    rw [hcell, hcell0]
    exact splice_get _ _ _ hfit _ (.inr (by rw [hl]; omega))
end
end Go.Proofs.Ytggaeihinheojaa
