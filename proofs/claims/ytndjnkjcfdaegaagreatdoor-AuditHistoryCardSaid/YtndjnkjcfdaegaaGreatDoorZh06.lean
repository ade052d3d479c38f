/-
  Texts in one: TiD, TiF, TiG, TiH, TiI, TiJ, DkO. No conditions of their own.
-/
import Derived.Test.YtndjnkjcfdaegaaGreatDoorZh05
import Derived.Shelf.SlSortCmp.QuietGrown
set_option linter.all false

/-
  The order that entities are sorted by, and insertion sort over a row that is sorted. No conditions of their own.
-/
namespace Go.Proofs.YtndjnkjcfdaegaaGreatDoor
open Go.RowKit Go.Joins Go.Deep Go.Sort

theorem mixed : Tryz.prog.follows .mixedOrders = true := by kernel_rfl
/-- no one stands behind one that it comes ahead of -/
def SortedN (l : List Nam) : Prop := l.Pairwise fun a b => nlt b a = false
abbrev SortedB (l : List Bd) : Prop := SortedN (l.map Bd.id)
theorem SortedB.at {l : List Bd} (h : SortedB l) {i j : Nat} (hij : i < j) (hj : j < l.length) : nlt l[j].id (l[i]'(by omega)).id = false := by
  have := List.pairwise_iff_getElem.1 h i j (by simp; omega) (by simpa using hj) hij
  simpa using this
section
variable {w : World} {blk off cap : Nat} {l : List Bd}
end
end Go.Proofs.YtndjnkjcfdaegaaGreatDoor

/-
  slices.Clone, SortStableFunc, parts.Sorted over entities that are sorted, parts.Has. No conditions of their own.
-/
namespace Go.Proofs.YtndjnkjcfdaegaaGreatDoor
open Go.RowKit Go.Joins Go.Deep Go.Sort

/-- a row of the call's own that holds l -/
abbrev OwnOf {α : Type} (C : Codec α) (e : TypeId) (w : World) (base : Nat) (v : Value) (l : List α) : Prop := w.ownsRow base e C.size v l.length (rowsOf C l)
theorem OwnOf.reads {α : Type} {C : Codec α} {e : TypeId} {w : World} {base : Nat} {v : Value} {l : List α} (h : OwnOf C e w base v l) : RdOf C w v l := Reads.ofOwn h (rowsOf_ones C l)
theorem RdOf.slice {α : Type} {C : Codec α} {w : World} {v : Value} {l : List α} (h : RdOf C w v l) : ∃ a c, v = .slice a l.length c := Reads.slice h

set_option maxRecDepth 100000 in
theorem hasG_any (w : World) (b : Bd) (c : Int) (h : bits .and .i64 b.m c = (bif hasB b.m c then c else 0)) (h0 : ¬ c = 0) : Calls Tryz.prog 158 #[bdV b, .int .i64 c] w fun e w' => e = .returned (.bool (hasB b.m c)) ∧ Grown w w' := by
  cases hb : hasB b.m c with
  | true =>
    rw [hb, cond_true] at h
    clear hb
    go_enter Tryz.func158, Tryz.ntmps158
    go_wp2
    go_ret
    exact ⟨by simp, (Grown.same w).alloc _⟩
  | false =>
    rw [hb, cond_false] at h
    have h1 : ((0 : Int) == c) = false := by rw [beq_eq_false_iff_ne]; omega
    clear hb
    go_enter Tryz.func158, Tryz.ntmps158
    go_wp2
    go_ret
    exact ⟨by simp, (Grown.same w).alloc _⟩
theorem has1 (w : World) (b : Bd) : Calls Tryz.prog 158 #[bdV b, .int .i64 1] w fun e w' => e = .returned (.bool (hasB b.m 1)) ∧ Grown w w' := hasG_any w b 1 (has_spelled b.m).1 (by decide)
theorem has2 (w : World) (b : Bd) : Calls Tryz.prog 158 #[bdV b, .int .i64 2] w fun e w' => e = .returned (.bool (hasB b.m 2)) ∧ Grown w w' := hasG_any w b 2 (has_spelled b.m).2.1 (by decide)
theorem has4 (w : World) (b : Bd) : Calls Tryz.prog 158 #[bdV b, .int .i64 4] w fun e w' => e = .returned (.bool (hasB b.m 4)) ∧ Grown w w' := hasG_any w b 4 (has_spelled b.m).2.2.1 (by decide)
theorem has8 (w : World) (b : Bd) : Calls Tryz.prog 158 #[bdV b, .int .i64 8] w fun e w' => e = .returned (.bool (hasB b.m 8)) ∧ Grown w w' := hasG_any w b 8 (has_spelled b.m).2.2.2.1 (by decide)
theorem has16 (w : World) (b : Bd) : Calls Tryz.prog 158 #[bdV b, .int .i64 16] w fun e w' => e = .returned (.bool (hasB b.m 16)) ∧ Grown w w' := hasG_any w b 16 (has_spelled b.m).2.2.2.2 (by decide)
end Go.Proofs.YtndjnkjcfdaegaaGreatDoor

/-
  systems.Hurt, Age, parts.With, Without. No conditions of their own.
-/
namespace Go.Proofs.YtndjnkjcfdaegaaGreatDoor
open Go.RowKit Go.Joins Go.Deep Go.Sort

theorem Keeps.cellNew {a w : World} (h : Keeps No a w) {g i : Nat} (hb : a.heap.size ≤ g) (v : Value) : Keeps No a (w.setCell ⟨g, i, none⟩ v) := h.setCell (fun hlt => by simp only at hlt; omega) v
/-- an entity's box, and one for a result -/
structure Boxed (w W : World) (gb gr : Nat) (b : Bd) : Prop where
  b : cellsAt W gb 0 11 = some (bdC b)
  ob : Open W gb
  sb : (rowD W gb).size = 11
  or : Open W gr
  sr : (rowD W gr).size = 11
  nb : w.heap.size ≤ gb
  nr : w.heap.size ≤ gr
  ne : gb ≠ gr
  lb : gb < W.heap.size
  lr : gr < W.heap.size
  k : Keeps No w W
theorem Boxed.next {w W W' : World} {gb gr : Nat} {b : Bd} (h : Boxed w W gb gr b) (k : Keeps No W W') : Boxed w W' gb gr b :=
  ⟨k.cellsAt h.b, k.opened h.ob, k.rowSize h.ob h.sb, k.opened h.or, k.rowSize h.or h.sr, h.nb, h.nr, h.ne, Nat.lt_of_lt_of_le h.lb k.size, Nat.lt_of_lt_of_le h.lr k.size, h.k.trans k (fun _ _ h => h)⟩
end Go.Proofs.YtndjnkjcfdaegaaGreatDoor

/-
  parts.With, Without. No conditions of their own.
-/
namespace Go.Proofs.YtndjnkjcfdaegaaGreatDoor
open Go.RowKit Go.Joins Go.Deep Go.Sort

theorem cells_set {W : World} {g : Nat} {l l2 : List Value} (i : Nat) (v : Value) (h : cellsAt W g 0 11 = some l) (hl : l.set i v = l2) : cellsAt (W.setCell ⟨g, i, none⟩ v) g 0 11 = some l2 := by
  rw [cellsAt_setCell_at, h, Option.map_some]
  simp [← hl]
theorem Boxed.set {w W : World} {gb gr : Nat} {b b2 : Bd} (h : Boxed w W gb gr b) (i : Nat) (v : Value) (hl : (bdC b).set i v = bdC b2) : Boxed w (W.setCell ⟨gb, i, none⟩ v) gb gr b2 :=
  ⟨cells_set i v h.b hl, by rw [open_setCell]; exact h.ob, by rw [rowD_setCell_at]; simpa using h.sb, by rw [open_setCell]; exact h.or, by rw [rowD_setCell_far _ _ _ _ _ h.ne.symm]; exact h.sr, h.nb, h.nr, h.ne, by simpa using h.lb, by simpa using h.lr, h.k.cellNew h.nb _⟩
/-- two entities' boxes, and one for a result -/
structure BoxW (w W : World) (gb gc gr : Nat) (b c : Bd) : Prop where
  x : Boxed w W gb gr b
  c : cellsAt W gc 0 11 = some (bdC c)
  oc : Open W gc
  ne : gb ≠ gc
theorem BoxW.next {w W W' : World} {gb gc gr : Nat} {b c : Bd} (h : BoxW w W gb gc gr b c) (k : Keeps No W W') : BoxW w W' gb gc gr b c := ⟨h.x.next k, k.cellsAt h.c, k.opened h.oc, h.ne⟩
theorem BoxW.set {w W : World} {gb gc gr : Nat} {b b2 c : Bd} (h : BoxW w W gb gc gr b c) (i : Nat) (v : Value) (hl : (bdC b).set i v = bdC b2) : BoxW w (W.setCell ⟨gb, i, none⟩ v) gb gc gr b2 c :=
  ⟨h.x.set i v hl, by rw [cellsAt_setCell_far _ _ _ _ _ _ _ h.ne.symm]; exact h.c, by rw [open_setCell]; exact h.oc, h.ne⟩
def wM (b c : Bd) : Bd := ⟨b.s, b.i, b.g, bits .or .i64 b.m c.m, b.x, b.y, b.vx, b.vy, b.hp, b.pw, b.lf⟩
def wX (c b : Bd) : Bd := bif hasB c.m 1 then ⟨b.s, b.i, b.g, b.m, c.x, c.y, b.vx, b.vy, b.hp, b.pw, b.lf⟩ else b
def wP (c b : Bd) : Bd := bif hasB c.m 8 then ⟨b.s, b.i, b.g, b.m, b.x, b.y, b.vx, b.vy, b.hp, c.pw, b.lf⟩ else b
def wL (c b : Bd) : Bd := bif hasB c.m 16 then ⟨b.s, b.i, b.g, b.m, b.x, b.y, b.vx, b.vy, b.hp, b.pw, c.lf⟩ else b
end Go.Proofs.YtndjnkjcfdaegaaGreatDoor

/-
  parts.Without, systems.Obey. No conditions of their own.
-/
namespace Go.Proofs.YtndjnkjcfdaegaaGreatDoor
open Go.RowKit Go.Joins Go.Deep Go.Sort

set_option maxRecDepth 100000 in
theorem run_neqID (x1 x2 x3 y1 y2 y3 : Int) (w : World) : (binOp .neq 36 (.agg #[.int .i64 x1, .int .i64 x2, .int .i64 x3]) (.agg #[.int .i64 y1, .int .i64 y2, .int .i64 y3])).run Tryz.prog w = .ok (.bool (!neq ⟨x1, x2, x3⟩ ⟨y1, y2, y3⟩)) w := by
  unfold neq
  by_cases h1 : x1 = y1 <;> by_cases h2 : x2 = y2 <;> by_cases h3 : x3 = y3 <;> simp [go_sem, h1, h2, h3]

abbrev cmV (c : Cm) : Value := .agg #[.int .i64 c.k, .int .i64 c.s, .int .i64 c.i, .int .i64 c.g, .int .i64 c.b.s, .int .i64 c.b.i, .int .i64 c.b.g, .int .i64 c.b.m, .int .i64 c.b.x, .int .i64 c.b.y, .int .i64 c.b.vx, .int .i64 c.b.vy, .int .i64 c.b.hp, .int .i64 c.b.pw, .int .i64 c.b.lf, .int .i64 c.m]
end Go.Proofs.YtndjnkjcfdaegaaGreatDoor

/-
  parts.Find, hedgerowref09.Before, Find. No conditions of their own.
-/
namespace Go.Proofs.YtndjnkjcfdaegaaGreatDoor
open Go.RowKit Go.Joins Go.Deep Go.Sort

theorem cellsAt_part {w : World} {b o n : Nat} {l : List Value} (h : cellsAt w b o n = some l) (a : Nat) (m : List Value) (hm : m = (l.drop a).take m.length) (h0 : 0 < m.length) : cellsAt w b (o + a) m.length = some m := by
  refine cellsAt_of (fun j v hv => ?_) h0
  have hj := (List.getElem?_eq_some_iff.1 hv).1
  rw [Nat.add_assoc]
  refine cellsAt_cell h (a + j) v ?_
  rw [hm, List.getElem?_take_of_lt hj, List.getElem?_drop] at hv
  exact hv

end Go.Proofs.YtndjnkjcfdaegaaGreatDoor

/-
  Rows of structs of the call's own, beside the disk's texts. Plain lemmas. No conditions of its own.
-/
namespace Go.Proofs.YtndjnkjcfdaegaaGreatDoor
open Go.RowKit

theorem litReads {α : Type} (C : Codec α) (w : World) (e : TypeId) (a : α) : Reads (w.alloc (.cells (C.cells a).toArray e)) C.size (.slice (some ⟨w.heap.size, 0, none⟩) 1 1) 1 (C.cells a) := by
  have h := World.ownsRow_lit (e := e) (size := C.size) w (C.cells a).toArray 1 (Nat.zero_le _) (by unfold maxLen; omega) (by simp [C.len])
  exact Reads.ofOwn h (C.one a)
theorem ownApp {α : Type} {C : Codec α} {e : TypeId} {w : World} {base : Nat} {v : Value} {l : List α} {a : α} (h : w.ownsRow base e C.size v (l.length + 1) (rowsOf C l ++ C.cells a)) : OwnOf C e w base v (l ++ [a]) := by
  unfold OwnOf
  rw [rowsOf_append, rowsOf_one, List.length_append]
  exact h
theorem rdNil {α : Type} (C : Codec α) (w : World) : RdOf C w (.slice none 0 0) ([] : List α) := Reads.nil w _
theorem rdOf_of {α : Type} (C : Codec α) {w : World} {a : Addr} {c : Nat} {l : List α} (hc : l.length ≤ c) (hm : c ≤ maxLen)
    (h : ∀ i, (hi : i < l.length) → ∀ j u, (C.cells l[i])[j]? = some u → w.cell? (a.add (i * C.size + j)) = some u) : RdOf C w (.slice (some a) l.length c) l := by
  refine ⟨rowsOf_length C l, rowsOf_ones C l, .inr ⟨a, c, rfl, hc, hm, fun j u hu => ?_⟩⟩
  have hj : j < (rowsOf C l).length := (List.getElem?_eq_some_iff.1 hu).1
  rw [rowsOf_length] at hj
  have hp := C.pos
  have hi : j / C.size < l.length := Nat.div_lt_of_lt_mul (by rw [Nat.mul_comm]; exact hj)
  have hr : j = j / C.size * C.size + j % C.size := by rw [Nat.mul_comm]; exact (Nat.div_add_mod _ _).symm
  have hm := Nat.mod_lt j hp
  rw [hr] at hu ⊢
  rw [rowsOf_at C l _ hi _ hm] at hu
  exact h _ hi _ u hu

theorem OwnOf.base {α : Type} {C : Codec α} {e : TypeId} {w : World} {b b' : Nat} {v : Value} {l : List α} (h : OwnOf C e w b' v l) (hb : b ≤ b') : OwnOf C e w b v l := by
  obtain ⟨h1, h2⟩ := h
  refine ⟨h1, ?_⟩
  rcases h2 with h2 | ⟨g, cap, cur, hv, hg, r⟩
  · exact .inl h2
  · exact .inr ⟨g, cap, cur, hv, Nat.le_trans hb hg, r⟩
end Go.Proofs.YtndjnkjcfdaegaaGreatDoor

