/-
  Texts in one: LgC, LgD, LgE, LgF, LgG. No conditions of their own.
-/
import Derived.Test.YtndjnkjcfdaegaaGreatDoorZh11
import Derived.Test.YtndjnkjcfdaegaaGreatDoorZh17
set_option linter.all false

/-
  A pool of names, in memory. Plain lemmas. No conditions of its own.
-/
namespace Go.Proofs.YtndjnkjcfdaegaaGreatDoor
open Go.RowKit

abbrev ixC (x : Ix) : List Value := [.int .i64 x.g, .int .i64 x.b, .bool x.a]
def cIx : Codec Ix := ⟨ixC, 3, fun _ => rfl, fun a u h => by simp [ixC] at h; rcases h with rfl | rfl | rfl <;> rfl, by decide⟩
/-- a shard's place in memory: the row of its indices, the row of those that are free, how many it can hold -/
structure Rp where
  a : Nat
  f : Nat
  c : Nat
abbrev Rp.av (r : Rp) (s : Sh) : Value := .slice (some ⟨r.a, 0, none⟩) s.all.length s.all.length
abbrev Rp.fv (r : Rp) (s : Sh) : Value := .slice (some ⟨r.f, 0, none⟩) s.free.length r.c
abbrev shC (x : Rp × Sh) : List Value := [x.1.av x.2, x.1.fv x.2]
def cSh : Codec (Rp × Sh) := ⟨shC, 2, fun _ => rfl, fun a u h => by simp [shC] at h; rcases h with rfl | rfl <;> rfl, by decide⟩
abbrev poolT : TypeId := 159
abbrev shT : TypeId := 162
abbrev ixT : TypeId := 200
abbrev intT : TypeId := 3
/-- one shard, in memory -/
structure ShAt (w : World) (base : Nat) (r : Rp) (s : Sh) : Prop where
  all : w.heap[r.a]? = some (.cells (rowsOf cIx s.all).toArray ixT (0, 0))
  free : OwnInts w base (r.fv s) s.free
  ba : base ≤ r.a
/-- the blocks of a shard -/
def shS (r : Rp) : Nat → Prop := fun i => i = r.a ∨ i = r.f
/-- THE POOL AT p: its row of shards at g, each in its place. -/
structure PoolAt (w : World) (base p g : Nat) (R : List Rp) (pl : Pl) : Prop where
  box : w.heap[p]? = some (.cells #[.slice (some ⟨g, 0, none⟩) pl.length pl.length] poolT (0, 0))
  row : w.heap[g]? = some (.cells (rowsOf cSh (R.zip pl)).toArray shT (0, 0))
  len : R.length = pl.length
  sh : ∀ (k : Nat) (r : Rp) (s : Sh), R[k]? = some r → pl[k]? = some s → ShAt w base r s
  apart : ∀ (j k : Nat) (r s : Rp), R[j]? = some r → R[k]? = some s → j ≠ k → r.a ≠ s.a ∧ r.f ≠ s.f
  bp : base ≤ p
  bg : base ≤ g
  ok : plOk pl
/-- the blocks of a pool -/
def PoolS (p g : Nat) (R : List Rp) : Nat → Prop := fun i => i = p ∨ i = g ∨ ∃ r ∈ R, shS r i
theorem heap_types {w : World} {i j : Nat} {C D : Array Value} {t u : TypeId} (hi : w.heap[i]? = some (.cells C t (0, 0))) (hj : w.heap[j]? = some (.cells D u (0, 0))) (h : t ≠ u) : i ≠ j := by
  rintro rfl
  rw [hi] at hj
  simp only [Option.some.injEq, Obj.cells.injEq] at hj
  exact h hj.2.1
theorem cellsAt_heap {w : World} {b : Nat} {l : List Value} {t : TypeId} (h : w.heap[b]? = some (.cells l.toArray t (0, 0))) (o n : Nat) (hn : o + n ≤ l.length) : cellsAt w b o n = some ((l.drop o).take n) := by
  unfold cellsAt
  rw [h]
  simp [hn]
theorem rowsOf_cells {α : Type} (C : Codec α) (l : List α) (i : Nat) (a : α) (h : l[i]? = some a) : ((rowsOf C l).drop (i * C.size)).take C.size = C.cells a := by
  obtain ⟨hi, rfl⟩ := List.getElem?_eq_some_iff.1 h
  rw [rowsOf_drop, List.drop_eq_getElem_cons hi, rowsOf_cons, List.take_append_of_le_length (by rw [C.len]; exact Nat.le_refl _), List.take_of_length_le (by rw [C.len]; exact Nat.le_refl _)]
/-- the cells of an element of a row -/
theorem rowCells {α : Type} (C : Codec α) {w : World} {b : Nat} {l : List α} {t : TypeId} (h : w.heap[b]? = some (.cells (rowsOf C l).toArray t (0, 0))) (i : Nat) (a : α) (hi : l[i]? = some a) : cellsAt w b (i * C.size) C.size = some (C.cells a) := by
  have hlt := (List.getElem?_eq_some_iff.1 hi).1
  rw [cellsAt_heap h _ _ (by rw [rowsOf_length, ← Nat.succ_mul]; exact Nat.mul_le_mul_right _ hlt), rowsOf_cells C l i a hi]
theorem rowCell {α : Type} (C : Codec α) {w : World} {b : Nat} {l : List α} {t : TypeId} (h : w.heap[b]? = some (.cells (rowsOf C l).toArray t (0, 0))) (i : Nat) (a : α) (hi : l[i]? = some a) (j : Nat) (v : Value) (hv : (C.cells a)[j]? = some v) : w.cell? ⟨b, i * C.size + j, none⟩ = some v :=
  cellsAt_cell (rowCells C h i a hi) j v hv
/-- one cell of an element is another one -/
theorem rowsOf_cell {α : Type} (C : Codec α) (l : List α) (i j : Nat) (a b : α) (v : Value) (hi : l[i]? = some a) (hj : j < C.size) (hb : C.cells b = (C.cells a).set j v) : (rowsOf C l).set (i * C.size + j) v = rowsOf C (l.set i b) := by
  obtain ⟨hlt, rfl⟩ := List.getElem?_eq_some_iff.1 hi
  have h0 : i * C.size ≤ (rowsOf C l).length := by rw [rowsOf_length]; exact Nat.mul_le_mul_right _ (Nat.le_of_lt hlt)
  have hl : ((rowsOf C l).take (i * C.size)).length = i * C.size := by rw [List.length_take]; omega
  have e : rowsOf C l = (rowsOf C l).take (i * C.size) ++ (C.cells l[i] ++ (rowsOf C l).drop ((i + 1) * C.size)) := by
    rw [rowsOf_take, rowsOf_drop, ← rowsOf_cons, ← rowsOf_append, ← List.drop_eq_getElem_cons hlt, List.take_append_drop]
  rw [rowsOf_set C l i hlt, hb]
  conv => lhs; rw [e]
  rw [List.set_append, if_neg (by omega), hl, List.append_assoc]
  congr 1
  rw [show i * C.size + j - i * C.size = j by omega, List.set_append, if_pos (by rw [C.len]; exact hj)]
theorem heap_row_cell {α : Type} (C : Codec α) {w : World} {g : Nat} {l : List α} {t : TypeId} (h : w.heap[g]? = some (.cells (rowsOf C l).toArray t (0, 0))) (i j : Nat) (a b : α) (v : Value) (hi : l[i]? = some a) (hj : j < C.size) (hb : C.cells b = (C.cells a).set j v) :
    (w.setCell ⟨g, i * C.size + j, none⟩ v).heap[g]? = some (.cells (rowsOf C (l.set i b)).toArray t (0, 0)) := by
  rw [heap_setCell_at h, List.setIfInBounds_toArray, rowsOf_cell C l i j a b v hi hj hb]
section
variable {w w' : World} {base p g : Nat} {R : List Rp} {pl : Pl} {S : Nat → Prop}
theorem ShAt.kept {r : Rp} {s : Sh} (h : ShAt w base r s) (k : Keeps S w w') (ha : ¬ S r.a) (hf : ¬ S r.f) : ShAt w' base r s :=
  ⟨k.heap h.all ha, k.owns h.free (fun i hi => by simp only [Value.ownBlock, Option.some.injEq] at hi; subst hi; exact hf), h.ba⟩
theorem OwnInts.block {f n c : Nat} {l : List Nat} (h : OwnInts w base (.slice (some ⟨f, 0, none⟩) n c) l) : ∃ cur : Array Value, w.heap[f]? = some (.cells cur intT (0, 0)) ∧ base ≤ f ∧ n = l.length := by
  rcases h.2 with ⟨e, _⟩ | ⟨g, cap, cur, e, hb, hh, _⟩
  · simp at e
  · simp only [Value.slice.injEq, Option.some.injEq, Addr.mk.injEq, and_true] at e
    obtain ⟨rfl, hn, rfl⟩ := e
    exact ⟨cur, hh, hb, hn⟩
theorem ShAt.fblock {r : Rp} {s : Sh} (h : ShAt w base r s) : ∃ cur : Array Value, w.heap[r.f]? = some (.cells cur intT (0, 0)) ∧ base ≤ r.f := by
  obtain ⟨cur, h1, h2, _⟩ := OwnInts.block h.free
  exact ⟨cur, h1, h2⟩
theorem PoolAt.place (h : PoolAt w base p g R pl) {k : Nat} {s : Sh} (hs : pl[k]? = some s) : ∃ r, R[k]? = some r ∧ ShAt w base r s ∧ (R.zip pl)[k]? = some (r, s) := by
  have hlt := (List.getElem?_eq_some_iff.1 hs).1
  have hr : R[k]? = some (R[k]'(by have := h.len; omega)) := List.getElem?_eq_getElem _
  exact ⟨_, hr, h.sh k _ s hr hs, by rw [List.getElem?_zip_eq_some]; exact ⟨hr, hs⟩⟩
theorem PoolAt.placed (h : PoolAt w base p g R pl) {r : Rp} (hr : r ∈ R) : ∃ (k : Nat) (s : Sh), R[k]? = some r ∧ pl[k]? = some s ∧ ShAt w base r s := by
  obtain ⟨k, hk, rfl⟩ := List.getElem_of_mem hr
  have hp : k < pl.length := by have := h.len; omega
  exact ⟨k, pl[k], List.getElem?_eq_getElem hk, List.getElem?_eq_getElem hp, h.sh k _ _ (List.getElem?_eq_getElem hk) (List.getElem?_eq_getElem hp)⟩
theorem PoolAt.kept (h : PoolAt w base p g R pl) (k : Keeps S w w') (hS : ∀ i, PoolS p g R i → ¬ S i) : PoolAt w' base p g R pl :=
  ⟨k.heap h.box (hS p (.inl rfl)), k.heap h.row (hS g (.inr (.inl rfl))), h.len, fun j r s hr hs => (h.sh j r s hr hs).kept k (hS _ (.inr (.inr ⟨r, List.mem_of_getElem? hr, .inl rfl⟩))) (hS _ (.inr (.inr ⟨r, List.mem_of_getElem? hr, .inr rfl⟩))), h.apart, h.bp, h.bg, h.ok⟩
theorem PoolAt.no (h : PoolAt w base p g R pl) (k : Keeps No w w') : PoolAt w' base p g R pl := h.kept k (fun _ _ h => h)
theorem PoolAt.lt (h : PoolAt w base p g R pl) {i : Nat} (hi : PoolS p g R i) : i < w.heap.size := by
  rcases hi with rfl | rfl | ⟨r, hr, hi⟩
  · exact (Array.getElem?_eq_some_iff.1 h.box).1
  · exact (Array.getElem?_eq_some_iff.1 h.row).1
  · obtain ⟨k, s, _, _, hs⟩ := h.placed hr
    rcases hi with rfl | rfl
    · exact (Array.getElem?_eq_some_iff.1 hs.all).1
    · obtain ⟨cur, hc, _⟩ := hs.fblock
      exact (Array.getElem?_eq_some_iff.1 hc).1
theorem PoolAt.le (h : PoolAt w base p g R pl) {i : Nat} (hi : PoolS p g R i) : base ≤ i := by
  rcases hi with rfl | rfl | ⟨r, hr, hi⟩
  · exact h.bp
  · exact h.bg
  · obtain ⟨k, s, _, _, hs⟩ := h.placed hr
    rcases hi with rfl | rfl
    · exact hs.ba
    · obtain ⟨cur, _, hc⟩ := hs.fblock
      exact hc
/-- where the box, the row, a shard's own rows lie: four blocks -/
theorem PoolAt.four (h : PoolAt w base p g R pl) {k : Nat} {r : Rp} (hr : R[k]? = some r) : p ≠ g ∧ p ≠ r.a ∧ p ≠ r.f ∧ g ≠ r.a ∧ g ≠ r.f ∧ r.a ≠ r.f := by
  obtain ⟨j, s, _, _, hs⟩ := h.placed (List.mem_of_getElem? hr)
  obtain ⟨cur, hf, _⟩ := hs.fblock
  exact ⟨heap_types h.box h.row (by decide), heap_types h.box hs.all (by decide), heap_types h.box hf (by decide), heap_types h.row hs.all (by decide), heap_types h.row hf (by decide), heap_types hs.all hf (by decide)⟩
/-- another shard's rows lie elsewhere -/
theorem PoolAt.others (h : PoolAt w base p g R pl) {j k : Nat} {r s : Rp} (hr : R[j]? = some r) (hs : R[k]? = some s) (hjk : j ≠ k) : ∀ i, shS r i → ¬ shS s i := by
  obtain ⟨h1, h2⟩ := h.apart j k r s hr hs hjk
  obtain ⟨_, _, _, _, hx⟩ := h.placed (List.mem_of_getElem? hr)
  obtain ⟨_, _, _, _, hy⟩ := h.placed (List.mem_of_getElem? hs)
  obtain ⟨_, fx, _⟩ := hx.fblock
  obtain ⟨_, fy, _⟩ := hy.fblock
  rintro i (rfl | rfl) (e | e)
  · exact h1 e
  · exact heap_types hx.all fy (by decide) e
  · exact heap_types hy.all fx (by decide) e.symm
  · exact h2 e
/-- one shard is another one, in its place -/
theorem PoolAt.put (h : PoolAt w base p g R pl) {k : Nat} {r : Rp} {s t : Sh} (hr : R[k]? = some r) (hs : pl[k]? = some s) (hk : Keeps (PoolS p g [r]) w w') (hbox : w'.heap[p]? = w.heap[p]?)
    (r' : Rp) (hrow : w'.heap[g]? = some (.cells (rowsOf cSh ((R.zip pl).set k (r', t))).toArray shT (0, 0))) (ht : ShAt w' base r' t) (ha : r'.a = r.a) (hf : r'.f = r.f ∨ w.heap.size ≤ r'.f) (ok : t.ok) : PoolAt w' base p g (R.set k r') (plPut pl k t) := by
  have hkR := (List.getElem?_eq_some_iff.1 hr).1
  have hkP := (List.getElem?_eq_some_iff.1 hs).1
  refine ⟨by rw [hbox, h.box, plPut, List.length_set], ?_, by rw [List.length_set, plPut, List.length_set]; exact h.len, fun j q u hq hu => ?_, fun i j q u hq hu hij => ?_, h.bp, h.bg, h.ok.put k ok⟩
  · rw [hrow, plPut]
    congr 4
    apply List.ext_getElem?
    intro i
    rw [List.getElem?_set]
    by_cases hki : k = i
    · subst hki
      have hz : k < (R.zip pl).length := by rw [List.length_zip]; omega
      rw [if_pos rfl, if_pos hz, eq_comm, List.getElem?_zip_eq_some]
      exact ⟨by simp [hkR], by simp [hkP]⟩
    · rw [if_neg hki]
      simp only [List.zip_eq_zipWith, List.getElem?_zipWith, List.getElem?_set_ne hki]
  · by_cases hkj : k = j
    · subst hkj
      rw [List.getElem?_set_self hkR] at hq
      rw [plPut, List.getElem?_set_self hkP] at hu
      cases hq
      cases hu
      exact ht
    · rw [List.getElem?_set_ne hkj] at hq
      rw [plPut, List.getElem?_set_ne hkj] at hu
      have hno := h.others hq hr (Ne.symm hkj)
      obtain ⟨f1, f2, f3, f4, f5, f6⟩ := h.four hq
      refine (h.sh j q u hq hu).kept hk ?_ ?_
      · rintro (e | e | ⟨x, hx, e⟩)
        · exact f2 e.symm
        · exact f4 e.symm
        · simp only [List.mem_singleton] at hx
          subst hx
          exact hno _ (.inl rfl) e
      · rintro (e | e | ⟨x, hx, e⟩)
        · exact f3 e.symm
        · exact f5 e.symm
        · simp only [List.mem_singleton] at hx
          subst hx
          exact hno _ (.inr rfl) e
  · have key : ∀ (j : Nat) (q : Rp), j ≠ k → R[j]? = some q → q.a ≠ r'.a ∧ q.f ≠ r'.f := fun j q hj hq => by
      obtain ⟨h1, h2⟩ := h.apart j k q r hq hr hj
      refine ⟨by rw [ha]; exact h1, ?_⟩
      rcases hf with e | e
      · rw [e]; exact h2
      · have := h.lt (i := q.f) (.inr (.inr ⟨q, List.mem_of_getElem? hq, .inr rfl⟩))
        omega
    by_cases hki : k = i
    · subst hki
      rw [List.getElem?_set_self hkR] at hq
      cases hq
      rw [List.getElem?_set_ne hij] at hu
      obtain ⟨h1, h2⟩ := key j u (Ne.symm hij) hu
      exact ⟨Ne.symm h1, Ne.symm h2⟩
    · rw [List.getElem?_set_ne hki] at hq
      by_cases hkj : k = j
      · subst hkj
        rw [List.getElem?_set_self hkR] at hu
        cases hu
        exact key i q (Ne.symm hki) hq
      · rw [List.getElem?_set_ne hkj] at hu
        exact h.apart i j q u hq hu hij
end
end Go.Proofs.YtndjnkjcfdaegaaGreatDoor

/-
  The pool's methods that only look, and Reserve. No conditions of their own.
-/
namespace Go.Proofs.YtndjnkjcfdaegaaGreatDoor
open Go.RowKit Go.Shelf Go.Sort Go.Joins Go.Deep

section
variable {w : World} {base p g : Nat} {R : List Rp} {pl : Pl}
/-- the cells that a look at a shard reads -/
theorem PoolAt.boxCell (h : PoolAt w base p g R pl) : w.cell? ⟨p, 0, none⟩ = some (.slice (some ⟨g, 0, none⟩) pl.length pl.length) := by rw [cell_of_row _ _ _ _ _ _ h.box]; rfl
theorem PoolAt.shCells (h : PoolAt w base p g R pl) {k : Nat} {r : Rp} {s : Sh} (hr : R[k]? = some r) (hs : pl[k]? = some s) : w.cell? ⟨g, k * 2, none⟩ = some (r.av s) ∧ w.cell? ⟨g, k * 2 + 1, none⟩ = some (r.fv s) := by
  have hz : (R.zip pl)[k]? = some (r, s) := by rw [List.getElem?_zip_eq_some]; exact ⟨hr, hs⟩
  exact ⟨rowCell cSh h.row k (r, s) hz 0 _ rfl, rowCell cSh h.row k (r, s) hz 1 _ rfl⟩
theorem ShAt.ixCells {r : Rp} {s : Sh} (h : ShAt w base r s) {i : Nat} {x : Ix} (hx : s.all[i]? = some x) : w.cell? ⟨r.a, i * 3, none⟩ = some (.int .i64 x.g) ∧ w.cell? ⟨r.a, i * 3 + 1, none⟩ = some (.int .i64 x.b) ∧ w.cell? ⟨r.a, i * 3 + 2, none⟩ = some (.bool x.a) ∧ cellsAt w r.a (i * 3) 3 = some (ixC x) :=
  ⟨rowCell cIx h.all i x hx 0 _ rfl, rowCell cIx h.all i x hx 1 _ rfl, rowCell cIx h.all i x hx 2 _ rfl, rowCells cIx h.all i x hx⟩
abbrev shP (g k : Nat) : Value := .pointer (some ⟨g, k * 2, none⟩)
abbrev ixP (a i : Nat) : Value := .pointer (some ⟨a, i * 3, none⟩)
set_option maxRecDepth 100000 in
theorem poolOf_yes (h : PoolAt w base p g R pl) {k : Nat} {s : Sh} (hs : pl[k]? = some s) : Calls Tryz.prog 116 #[dP p, .int .i64 k] w fun e w' => e = .returned (shP g k) ∧ w = w' := by
  have c0 := h.boxCell
  have hk := (List.getElem?_eq_some_iff.1 hs).1
  have h16 := h.ok.1
  have hk0 : (0 : Int) ≤ (k : Int) := by omega
  have hk1 : (k : Int) < (pl.length : Int) := by omega
  have hk2 : (pl.length : Int) ≤ 16 := by omega
  clear h hs h16 hk
  go_enter Tryz.func116, Tryz.ntmps116
  go_wp2
  go_ret
  exact ⟨rfl, rfl⟩
set_option maxRecDepth 100000 in
theorem poolOf_no (h : PoolAt w base p g R pl) {k : Int} (hs : shAt pl k = none) : Calls Tryz.prog 116 #[dP p, .int .i64 k] w fun e w' => e = .returned (.pointer none) ∧ w = w' := by
  have c0 := h.boxCell
  have hk := shAt_none hs
  have h16 := h.ok.1
  have hk2 : (pl.length : Int) ≤ 16 := by omega
  clear h hs h16
  by_cases h1 : k < 0
  · clear hk
    go_enter Tryz.func116, Tryz.ntmps116
    go_wp2
    go_ret
    exact ⟨rfl, rfl⟩
  · have hk1 : (pl.length : Int) ≤ k := by omega
    clear hk
    go_enter Tryz.func116, Tryz.ntmps116
    go_wp2
    go_ret
    exact ⟨rfl, rfl⟩
set_option maxRecDepth 100000 in
theorem poolAt_yes (h : PoolAt w base p g R pl) {k i : Nat} {r : Rp} {s : Sh} {x : Ix} (hr : R[k]? = some r) (hs : pl[k]? = some s) (hx : s.all[i]? = some x) : Calls Tryz.prog 113 #[dP p, .int .i64 k, .int .i64 i] w fun e w' => e = .returned (.tuple #[shP g k, ixP r.a i]) ∧ Keeps No w w' := by
  have C := Lib.hid (poolOf_yes h hs)
  obtain ⟨c0, _⟩ := h.shCells hr hs
  have hi := (List.getElem?_eq_some_iff.1 hx).1
  have h16 := (h.ok.sh hs).n1
  have hi0 : (0 : Int) ≤ (i : Int) := by omega
  have hi1 : (i : Int) < (s.all.length : Int) := by omega
  have hi2 : (s.all.length : Int) ≤ 16 := by omega
  clear h hr hs hx h16 hi
  go_enter Tryz.func113, Tryz.ntmps113
  go_wp2_with fail
  (with_reducible refine C.out.mono ?_)
  rintro e w1 ⟨rfl, rfl⟩
  go_wp2_with fail
  go_region
  all_goals go_wp2
  all_goals go_ret2
  all_goals exact ⟨rfl, (Keeps.refl _).drew⟩
set_option maxRecDepth 100000 in
theorem poolAt_no (h : PoolAt w base p g R pl) {k i : Int} (hx : ixAt pl k i = none) : Calls Tryz.prog 113 #[dP p, .int .i64 k, .int .i64 i] w fun e w' => e = .returned (.tuple #[.pointer none, .pointer none]) ∧ Keeps No w w' := by
  unfold ixAt at hx
  cases hs : shAt pl k with
  | none =>
    have C := Lib.hid (poolOf_no h hs)
    clear h hx hs
    go_enter Tryz.func113, Tryz.ntmps113
    go_wp2_with fail
    (with_reducible refine C.out.mono ?_)
    rintro e w1 ⟨rfl, rfl⟩
    go_wp2
    go_ret2
    exact ⟨rfl, Keeps.refl _⟩
  | some s =>
    rw [hs] at hx
    obtain ⟨m, rfl, hm⟩ := shAt_some hs
    have C := Lib.hid (poolOf_yes h hm)
    obtain ⟨r, hr, _, _⟩ := h.place hm
    obtain ⟨c0, _⟩ := h.shCells hr hm
    have hi := ixIn_none hx
    have h16 := (h.ok.sh hm).n1
    have hi2 : (s.all.length : Int) ≤ 16 := by omega
    clear h hr hs hx h16 hm
    by_cases h1 : i < 0
    · clear hi
      go_enter Tryz.func113, Tryz.ntmps113
      go_wp2_with fail
      (with_reducible refine C.out.mono ?_)
      rintro e w1 ⟨rfl, rfl⟩
      go_wp2
      go_ret2
      exact ⟨rfl, Keeps.refl _⟩
    · have hi1 : (s.all.length : Int) ≤ i := by omega
      clear hi
      go_enter Tryz.func113, Tryz.ntmps113
      go_wp2_with fail
      (with_reducible refine C.out.mono ?_)
      rintro e w1 ⟨rfl, rfl⟩
      go_wp2
      go_ret2
      exact ⟨rfl, Keeps.refl _⟩
set_option maxRecDepth 100000 in
theorem poolGen_any (h : PoolAt w base p g R pl) (k i : Int) : Calls Tryz.prog 66 #[dP p, .int .i64 k, .int .i64 i] w fun e w' => e = .returned (.int .i64 (genP pl k i)) ∧ Keeps No w w' := by
  unfold genP
  cases hx : ixAt pl k i with
  | none =>
    have C := Lib.hid (poolAt_no h hx)
    clear h hx
    go_enter Tryz.func66, Tryz.ntmps66
    go_wp2_with fail
    (with_reducible refine C.out.mono ?_)
    rintro e w1 ⟨rfl, hk⟩
    have K := Lib.hid hk
    clear hk
    go_wp2
    go_ret
    exact ⟨rfl, K.out⟩
  | some x =>
    unfold ixAt at hx
    cases hs : shAt pl k with
    | none => rw [hs] at hx; cases hx
    | some s =>
      rw [hs] at hx
      obtain ⟨m, rfl, hm⟩ := shAt_some hs
      obtain ⟨n, rfl, hn⟩ := ixIn_some hx
      obtain ⟨r, hr, hsh, _⟩ := h.place hm
      have C := Lib.hid (poolAt_yes h hr hm hn)
      obtain ⟨c0, _, _, _⟩ := hsh.ixCells hn
      clear h hr hs hx hm hn hsh
      go_enter Tryz.func66, Tryz.ntmps66
      go_wp2_with fail
      (with_reducible refine C.out.mono ?_)
      rintro e w1 ⟨rfl, hk⟩
      have K := Lib.hid hk
      replace c0 := hk.cell c0 (fun h => h)
      clear hk
      go_wp2
      go_ret
      exact ⟨rfl, K.out⟩
end
end Go.Proofs.YtndjnkjcfdaegaaGreatDoor

/-
  The pool's Head, Alive, Reserve. No conditions of their own.
-/
namespace Go.Proofs.YtndjnkjcfdaegaaGreatDoor
open Go.RowKit Go.Shelf Go.Sort Go.Joins Go.Deep

section
variable {w : World} {base p g : Nat} {R : List Rp} {pl : Pl}
theorem ShAt.freeCell {r : Rp} {s : Sh} (h : ShAt w base r s) {j i : Nat} (hj : s.free[j]? = some i) : w.cell? ⟨r.f, j, none⟩ = some (.int .i64 i) := by
  have hr := Reads.ofOwn h.free (intsV_one · _)
  rcases hr.shape with ⟨he, _⟩ | ⟨a, c, he, _, _, hx⟩
  · simp at he
  · simp only [Value.slice.injEq, Option.some.injEq, true_and] at he
    obtain ⟨rfl, rfl⟩ := he
    have := hx j (.int .i64 i) (by simp [intsV, hj])
    rwa [Addr.add_lit, Nat.zero_add] at this
set_option maxRecDepth 100000 in
set_option maxHeartbeats 1000000 in
theorem poolHead_any (h : PoolAt w base p g R pl) (k : Int) : Calls Tryz.prog 65 #[dP p, .int .i64 k] w fun e w' => e = .returned (.tuple #[.int .i64 (headP pl k).1, .bool (headP pl k).2.1, .int .i64 (headP pl k).2.2]) ∧ Keeps No w w' := by
  obtain ⟨E, hE⟩ : ∃ x, x = headP pl k := ⟨_, rfl⟩
  rw [← hE]
  unfold headP at hE
  cases hs : shAt pl k with
  | none =>
    rw [hs] at hE
    have C := Lib.hid (poolOf_no h hs)
    subst hE
    clear h hs
    go_enter Tryz.func65, Tryz.ntmps65
    go_wp2_with fail
    (with_reducible refine C.out.mono ?_)
    rintro e w1 ⟨rfl, rfl⟩
    go_wp2
    go_ret3
    exact ⟨rfl, Keeps.refl _⟩
  | some s =>
    rw [hs] at hE
    obtain ⟨m, rfl, hm⟩ := shAt_some hs
    have C := Lib.hid (poolOf_yes h hm)
    obtain ⟨r, hr, hsh, _⟩ := h.place hm
    obtain ⟨c0, c1⟩ := h.shCells hr hm
    have ok := h.ok.sh hm
    have h16 := ok.n1
    have hf16 := ok.few
    simp only at hE
    unfold headS at hE
    cases hf : s.free with
    | nil =>
      rw [hf] at hE
      simp only [Rp.fv, hf, List.length_nil] at c1
      subst hE
      clear h hs hm hr hsh ok h16 hf16 c0 hf
      go_enter Tryz.func65, Tryz.ntmps65
      go_wp2_with fail
      (with_reducible refine C.out.mono ?_)
      rintro e w1 ⟨rfl, rfl⟩
      go_wp2
      go_ret3
      exact ⟨rfl, Keeps.refl _⟩
    | cons i rest =>
      obtain ⟨x, hx, _, _⟩ := ok.fr i (by rw [hf]; exact List.mem_cons_self ..)
      rw [hf] at hE
      simp only [hx] at hE
      have ci := hsh.freeCell (j := 0) (i := i) (by rw [hf]; rfl)
      obtain ⟨_, _, _, cx⟩ := hsh.ixCells hx
      have hi := (List.getElem?_eq_some_iff.1 hx).1
      have hi0 : (0 : Int) ≤ (i : Int) := by omega
      have hi1 : (i : Int) < (s.all.length : Int) := by omega
      have hi2 : (s.all.length : Int) ≤ 16 := by omega
      obtain ⟨n, hn⟩ : ∃ n, n = s.free.length := ⟨_, rfl⟩
      have hn1 : (0 : Int) < (n : Int) := by rw [hn, hf]; simp
      have hn2 : (n : Int) ≤ 16 := by omega
      simp only [Rp.fv, ← hn] at c1
      have la : r.a < w.heap.size := h.lt (.inr (.inr ⟨r, List.mem_of_getElem? hr, .inl rfl⟩))
      have lf : r.f < w.heap.size := h.lt (.inr (.inr ⟨r, List.mem_of_getElem? hr, .inr rfl⟩))
      have lg : g < w.heap.size := h.lt (.inr (.inl rfl))
      have HE := Lib.hid hE
      clear h hs hm hr hsh ok h16 hf16 hx hf hn hE hi
      go_enter Tryz.func65, Tryz.ntmps65
      go_wp2_with fail
      (with_reducible refine C.out.mono ?_)
      rintro e w1 ⟨rfl, rfl⟩
      go_wp2_with fail
      go_region
      all_goals go_wp2_with fail
      all_goals go_region
      all_goals go_wp2
      all_goals go_ret3
      all_goals exact ⟨by rw [HE.out]; rfl, ((Keeps.refl w).alloc _).drew.drew⟩
set_option maxRecDepth 100000 in
set_option maxHeartbeats 1000000 in
theorem poolAlive_any (h : PoolAt w base p g R pl) (a : Nam) : Calls Tryz.prog 63 #[dP p, namV a] w fun e w' => e = .returned (.bool (aliveP pl a)) ∧ Keeps No w w' := by
  obtain ⟨E, hE⟩ : ∃ x, x = aliveP pl a := ⟨_, rfl⟩
  rw [← hE]
  unfold aliveP at hE
  cases hx : ixAt pl a.s a.i with
  | none =>
    rw [hx] at hE
    have C := Lib.hid (fun W (k : Keeps No w W) => poolAt_no (h.no k) hx)
    subst hE
    clear h hx
    go_enter Tryz.func63, Tryz.ntmps63
    go_wp2_with fail
    (with_reducible refine (C.out _ ((Keeps.refl w).alloc _)).mono ?_)
    rintro e w1 ⟨rfl, hk⟩
    have K := Lib.hid (((Keeps.refl w).alloc _).trans hk (fun _ _ h => h))
    clear hk C
    go_wp2_with fail
    go_region
    all_goals go_wp2
    all_goals go_ret
    all_goals exact ⟨rfl, K.out.drew⟩
  | some x =>
    rw [hx] at hE
    unfold ixAt at hx
    cases hs : shAt pl a.s with
    | none => rw [hs] at hx; cases hx
    | some s =>
      rw [hs] at hx
      obtain ⟨k, hk, hm⟩ := shAt_some hs
      obtain ⟨i, hi, hn⟩ := ixIn_some hx
      obtain ⟨r, hr, hsh, _⟩ := h.place hm
      have C := Lib.hid (fun W (q : Keeps No w W) => poolAt_yes (h.no q) hr hm hn)
      rw [← hk, ← hi] at C
      obtain ⟨c0, _, c2, _⟩ := hsh.ixCells hn
      unfold aliveI at hE
      have HE := Lib.hid hE
      clear h hr hs hx hm hn hsh hE hk hi
      have CB : Hid (cellsAt (w.alloc (.cells (namC a).toArray 36)) w.heap.size 0 3 = some (namC a)) := Lib.hid (by simp [go_sem])
      go_enter Tryz.func63, Tryz.ntmps63
      go_wp2_with fail
      (with_reducible refine (C.out _ ((Keeps.refl w).alloc _)).mono ?_)
      rintro e w1 ⟨rfl, hk⟩
      have K := Lib.hid (((Keeps.refl w).alloc _).trans hk (fun _ _ h => h))
      have m2 := cellsAt_cell (hk.cellsAt CB.out) 2 _ rfl
      simp only [Nat.zero_add] at m2
      replace c0 := K.out.cell c0 (fun h => h)
      replace c2 := K.out.cell c2 (fun h => h)
      clear hk C CB
      obtain ⟨A, hA⟩ : ∃ b, b = x.a := ⟨_, rfl⟩
      rw [← hA] at c2 HE
      clear hA
      cases A
      all_goals
        go_wp2_with fail
        go_region
        all_goals go_wp2
        all_goals go_ret
        all_goals exact ⟨by rw [HE.out]; rfl, K.out.drew⟩
theorem rowsOf_set_same {α : Type} (C : Codec α) (l : List α) (k : Nat) (a b : α) (h : l[k]? = some a) (hc : C.cells b = C.cells a) : rowsOf C (l.set k b) = rowsOf C l := by
  have e : ∀ m : List α, rowsOf C m = (m.map C.cells).flatten := fun m => by simp [rowsOf, List.flatMap_def]
  obtain ⟨hk, rfl⟩ := List.getElem?_eq_some_iff.1 h
  rw [e, e, List.map_set, hc]
  congr 1
  rw [← List.getElem_map C.cells (h := by simpa using hk), List.set_getElem_self]
theorem set_same {α : Type} {l : List α} {k : Nat} {a : α} (h : l[k]? = some a) : l.set k a = l := by
  obtain ⟨hk, rfl⟩ := List.getElem?_eq_some_iff.1 h
  exact List.set_getElem_self hk
/-- one index is another one -/
theorem PoolAt.turned (h : PoolAt w base p g R pl) {k : Nat} {r : Rp} {s : Sh} (hr : R[k]? = some r) (hs : pl[k]? = some s) {i : Nat} (x' : Ix) (ok : (s.put i x').ok) {w' : World} (hk : Keeps (Own r.a) w w')
    (ha : w'.heap[r.a]? = some (.cells (rowsOf cIx (s.all.set i x')).toArray ixT (0, 0))) : PoolAt w' base p g R (plPut pl k (s.put i x')) ∧ Keeps (PoolS p g R) w w' := by
  obtain ⟨f1, f2, f3, f4, f5, f6⟩ := h.four hr
  have hsh := h.sh k r s hr hs
  have hz : (R.zip pl)[k]? = some (r, s) := by rw [List.getElem?_zip_eq_some]; exact ⟨hr, hs⟩
  have hK : Keeps (PoolS p g [r]) w w' := hk.mono (fun j _ e => .inr (.inr ⟨r, by simp, .inl e⟩))
  have hp := h.put (r' := r) (t := s.put i x') hr hs hK (hk.block p (h.lt (.inl rfl)) f2)
    (by rw [rowsOf_set_same cSh _ k (r, s) _ hz (by simp [cSh, Sh.put])]; exact hk.heap h.row f4)
    ⟨ha, hk.owns hsh.free (fun j hj e => f6 (by simp only [Value.ownBlock, Option.some.injEq] at hj; exact e.symm.trans hj.symm)), hsh.ba⟩ rfl (.inl rfl) ok
  rw [set_same hr] at hp
  exact ⟨hp, hk.mono (fun j _ e => .inr (.inr ⟨r, List.mem_of_getElem? hr, .inl e⟩))⟩
set_option maxRecDepth 100000 in
set_option maxHeartbeats 1000000 in
theorem poolReserve_any (h : PoolAt w base p g R pl) (k i : Int) : Calls Tryz.prog 99 #[dP p, .int .i64 k, .int .i64 i] w fun e w' => e = .returned (.int .i64 (reserveP pl k i).1) ∧ PoolAt w' base p g R (reserveP pl k i).2 ∧ Keeps (PoolS p g R) w w' := by
  obtain ⟨E, hE⟩ : ∃ x, x = reserveP pl k i := ⟨_, rfl⟩
  rw [← hE]
  have H := Lib.hid h
  unfold reserveP at hE
  cases hx : ixAt pl k i with
  | none =>
    have hE2 : E = (1, pl) := by
      rw [hE]
      unfold ixAt at hx
      cases hs : shAt pl k with
      | none => rfl
      | some s =>
        rw [hs] at hx
        simp only [hx]
    have C := Lib.hid (poolAt_no h hx)
    have HE := Lib.hid hE2
    clear h hx hE hE2
    go_enter Tryz.func99, Tryz.ntmps99
    go_wp2_with fail
    (with_reducible refine C.out.mono ?_)
    rintro e w1 ⟨rfl, hk⟩
    have K := Lib.hid hk
    clear hk
    go_wp2
    go_ret
    exact ⟨by rw [HE.out]; rfl, by rw [HE.out]; exact H.out.no K.out, K.out.mono (fun _ _ h => h.elim)⟩
  | some x =>
    unfold ixAt at hx
    cases hs : shAt pl k with
    | none => rw [hs] at hx; cases hx
    | some s =>
      rw [hs] at hx hE
      simp only [hx] at hE
      obtain ⟨m, rfl, hm⟩ := shAt_some hs
      obtain ⟨n, rfl, hn⟩ := ixIn_some hx
      obtain ⟨r, hr, hsh, _⟩ := h.place hm
      have C := Lib.hid (poolAt_yes h hr hm hn)
      obtain ⟨_, c1, _, _⟩ := hsh.ixCells hn
      have hok := (h.ok.sh hm).at hn
      have b0 := hok.b0
      have b1 := hok.b1
      have la : r.a < w.heap.size := h.lt (.inr (.inr ⟨r, List.mem_of_getElem? hr, .inl rfl⟩))
      have HA := Lib.hid hsh.all
      have HOK : Hid ((s.put n ⟨x.g, min (x.b + 8) 1048576, x.a⟩).ok) := Lib.hid ((h.ok.sh hm).put n ⟨hok.g0, hok.g1, by simp only; omega, by simp only; omega, hok.al⟩ hn rfl rfl)
      have HR := Lib.hid (And.intro hr (And.intro hm hn))
      simp only [Int.toNat_natCast] at hE
      have HE := Lib.hid hE
      clear h hr hs hx hm hn hsh hE hok
      go_enter Tryz.func99, Tryz.ntmps99
      go_wp2_with fail
      (with_reducible refine C.out.mono ?_)
      rintro e w1 ⟨rfl, hk⟩
      have K := Lib.hid hk
      have A1 := Lib.hid (hk.heap HA.out (fun h => h))
      have f1 : w1.frozen? ⟨r.a, n * 3 + 1, none⟩ = false := frozen_of_row _ _ _ _ _ A1.out
      replace c1 := hk.cell c1 (fun h => h)
      replace la : r.a < w1.heap.size := Nat.lt_of_lt_of_le la hk.size
      clear hk
      by_cases hb : x.b = 1048576
      · have HE2 : Hid (E = (5, pl)) := Lib.hid (by rw [HE.out, decide_eq_true hb]; rfl)
        rw [hb] at c1
        go_wp2
        go_ret
        exact ⟨by rw [HE2.out]; rfl, by rw [HE2.out]; exact H.out.no K.out, K.out.mono (fun _ _ h => h.elim)⟩
      · have HE2 : Hid (E = (0, plPut pl m (s.put n ⟨x.g, min (x.b + 8) 1048576, x.a⟩))) := Lib.hid (by rw [HE.out, decide_eq_false hb]; rfl)
        go_wp2
        all_goals go_ret
        obtain ⟨hr, hm, hn⟩ := HR.out
        obtain ⟨hp, hk2⟩ := (H.out.no K.out).turned (w' := w1.setCell ⟨r.a, n * 3 + 1, none⟩ (.int .i64 (min (x.b + 8) 1048576))) hr hm ⟨x.g, min (x.b + 8) 1048576, x.a⟩ HOK.out ((Keeps.refl (S := Own r.a) w1).setCell (p := ⟨r.a, n * 3 + 1, none⟩) (fun _ => (rfl : r.a = r.a)) _)
          (heap_row_cell cIx A1.out n 1 x _ _ hn (by decide) rfl)
        exact ⟨by rw [HE2.out]; rfl, by rw [HE2.out]; exact hp, (K.out.mono (fun _ _ h => h.elim)).trans hk2 (fun _ _ h => h)⟩
end
end Go.Proofs.YtndjnkjcfdaegaaGreatDoor

/-
  Rows of numbers: whether one is among them; those of whom something is true are struck (slices.Contains, slices.DeleteFunc). No conditions of their own.
-/
namespace Go.Proofs.YtndjnkjcfdaegaaGreatDoor
open Go.RowKit Go.Shelf Go.Sort Go.Joins Go.Deep

theorem keepsCell (w : World) (b i : Nat) (v : Value) : Keeps (Own b) w (w.setCell ⟨b, i, none⟩ v) := (Keeps.refl (S := Own b) w).setCell (p := ⟨b, i, none⟩) (fun _ => (rfl : b = b)) v
section
variable {w : World} {base f c : Nat} {l : List Nat}
theorem OwnInts.at (h : OwnInts w base (.slice (some ⟨f, 0, none⟩) l.length c) l) {j i : Nat} (hj : l[j]? = some i) : w.cell? ⟨f, j, none⟩ = some (.int .i64 i) := by
  have hr := Reads.ofOwn h (intsV_one · _)
  rcases hr.shape with ⟨he, _⟩ | ⟨a, c, he, _, _, hx⟩
  · simp at he
  · simp only [Value.slice.injEq, Option.some.injEq, true_and] at he
    obtain ⟨rfl, rfl⟩ := he
    have := hx j (.int .i64 i) (by simp [intsV, hj])
    rwa [Addr.add_lit, Nat.zero_add] at this
theorem containsInts (h : OwnInts w base (.slice (some ⟨f, 0, none⟩) l.length c) l) (hl : l.length ≤ 1000000) (i : Int) : Calls Tryz.prog 150 #[.slice (some ⟨f, 0, none⟩) l.length c, .int .i64 i] w fun e w' => e = .returned (.bool (l.any (fun k => decide ((k : Int) = i)))) ∧ w' = w := by
  refine (Tryz.slices_Contains_int f 0 l.length c (l.map fun n : Nat => (n : Int)) i w (by simp) (by omega) (fun j hj => ?_)).mono ?_
  · have hj' : j < l.length := by simpa using hj
    rw [Nat.zero_add, h.at (List.getElem?_eq_getElem hj')]
    simp [List.getD_eq_getElem?_getD, hj']
  · rintro e w' ⟨rfl, rfl⟩
    refine ⟨?_, rfl⟩
    congr 2
    rw [List.take_of_length_le (by simp)]
    rw [Bool.eq_iff_iff]
    simp
/-- what is written over a row -/
theorem putRow_own (h : OwnInts w base (.slice (some ⟨f, 0, none⟩) l.length c) l) {α : Type} [Inhabited α] (enc : α → Value) (d : Array α) (m : List Nat) (q : Nat) (hd : (d.toList.map enc).take m.length = intsV m) (hl : m.length ≤ l.length) (hdl : d.size = l.length) :
    OwnInts (putRow enc (Sort.ahead w q) f 0 d) base (.slice (some ⟨f, 0, none⟩) m.length c) m ∧ Keeps (Own f) w (putRow enc (Sort.ahead w q) f 0 d) := by
  rcases h.2 with ⟨e, _⟩ | ⟨g, cap, cur, e, hb, hh, hnc, hcm, hcs, htk⟩
  · simp at e
  · simp only [Value.slice.injEq, Option.some.injEq, Addr.mk.injEq, and_true, true_and] at e
    obtain ⟨rfl, rfl⟩ := e
    have hnew : (putRow enc (Sort.ahead w q) f 0 d).heap[f]? = some (.cells (putCells enc 0 d cur) 3 (0, 0)) := by
      unfold putRow mapBlock
      simp only [Array.getElem?_modify, if_true]
      show Option.map _ w.heap[f]? = _
      rw [hh]
      rfl
    refine ⟨⟨by rw [intsV_length, Nat.mul_one], .inr ⟨f, c, _, rfl, hb, hnew, by omega, hcm, by simp [putCells, hcs], ?_⟩⟩, rfl, rfl, rfl, ?_, fun k hk hn => ?_⟩
    · rw [← hd, Nat.mul_one]
      apply List.ext_getElem?
      intro j
      rw [List.getElem?_take, List.getElem?_take]
      by_cases hj : j < m.length
      · rw [if_pos hj, if_pos hj, List.getElem?_map]
        have hjd : j < d.size := by omega
        have hjc : j < cur.size := by omega
        unfold putCells
        rw [Array.getElem?_toList, Array.getElem?_mapIdx, Array.getElem?_eq_getElem hjc, Option.map_some, Array.getElem?_toList, Array.getElem?_eq_getElem hjd, Option.map_some]
        rw [if_pos ⟨Nat.zero_le _, by omega⟩]
        simp [hjd]
      · rw [if_neg hj, if_neg hj]
    · simp [Sort.ahead]
    · unfold putRow mapBlock
      simp only [Array.getElem?_modify]
      rw [if_neg (fun e => hn (show k = f from e.symm))]
      rfl
end
theorem zeroInt (w : World) : (zeroValue 3).run Tryz.prog w = .ok (.int .i64 0) w := by kernel_rfl
abbrev Bel (B : Nat) : Type := { i : Nat // i < B }
def encBel (B : Nat) (x : Bel B) : Value := .int .i64 x.1
def toBel (B : Nat) (hB : 0 < B) (i : Nat) : Bel B := if h : i < B then ⟨i, h⟩ else ⟨0, hB⟩
theorem toBel_lt {B : Nat} (hB : 0 < B) {i : Nat} (h : i < B) : (toBel B hB i).1 = i := by unfold toBel; rw [dif_pos h]
theorem toBel_enc {B : Nat} (hB : 0 < B) : ∀ {l : List Nat}, (∀ i ∈ l, i < B) → (l.map (toBel B hB)).map (encBel B) = intsV l
  | [], _ => rfl
  | i :: l, h => by
    rw [List.map_cons, List.map_cons, toBel_enc hB (fun j hj => h j (List.mem_cons_of_mem _ hj))]
    show encBel B (toBel B hB i) :: _ = _
    unfold encBel
    rw [toBel_lt hB (h i (List.mem_cons_self ..))]
    rfl
theorem toBel_filter {B : Nat} (hB : 0 < B) (pr : Nat → Bool) : ∀ {l : List Nat}, (∀ i ∈ l, i < B) → (l.map (toBel B hB)).filter (fun x => !pr x.1) = (l.filter (fun i => !pr i)).map (toBel B hB)
  | [], _ => rfl
  | i :: l, h => by
    rw [List.map_cons, List.filter_cons, List.filter_cons, toBel_lt hB (h i (List.mem_cons_self ..)), toBel_filter hB pr (fun j hj => h j (List.mem_cons_of_mem _ hj))]
    cases !pr i <;> rfl
/-- those of whom pr is true are struck -/
theorem delInts {w : World} {base f c : Nat} {l : List Nat} (h : OwnInts w base (.slice (some ⟨f, 0, none⟩) l.length c) l) (hl : l.length ≤ 1000000) {B : Nat} (hB : 0 < B) (hlt : ∀ i ∈ l, i < B) (pr : Nat → Bool) (g : Nat) (lb : Array Value)
    (eg : ∀ args w, (callFunc g args).run Tryz.prog w = .ok (.enter g args) w)
    (hp : ∀ (W : World) (i : Nat), i < B → (∀ k, k < w.heap.size → k ≠ f → W.heap[k]? = w.heap[k]?) → FnGives Tryz.prog g lb #[.int .i64 i] (.bool (pr i)) W) :
    Calls Tryz.prog 148 #[.slice (some ⟨f, 0, none⟩) l.length c, .func (.func g) #[] lb] w fun e w' =>
      e = .returned (.slice (some ⟨f, 0, none⟩) (l.filter (fun i => !pr i)).length c) ∧ OwnInts w' base (.slice (some ⟨f, 0, none⟩) (l.filter (fun i => !pr i)).length c) (l.filter (fun i => !pr i)) ∧ Keeps (Own f) w w' := by
  obtain ⟨cur, hh, hb, _⟩ := OwnInts.block h
  have hcap : l.length ≤ c := by
    rcases h.2 with ⟨e, _⟩ | ⟨g, cap, cur, e, _, _, hnc, _⟩
    · simp at e
    · simp only [Value.slice.injEq, true_and] at e
      omega
  letI : Inhabited (Bel B) := ⟨⟨0, hB⟩⟩
  obtain ⟨d, hd⟩ : ∃ d : Array (Bel B), d = (l.map (toBel B hB)).toArray := ⟨_, rfl⟩
  have hds : d.size = l.length := by rw [hd]; simp
  have hdl : d.toList = l.map (toBel B hB) := by rw [hd]
  have hfil : (d.toList.filter fun x => !pr x.1) = (l.filter (fun i => !pr i)).map (toBel B hB) := by rw [hdl]; exact toBel_filter hB pr hlt
  have hcon := Tryz.slices_DeleteFunc (encBel B) (fun _ => rfl) (fun x => pr x.1) g lb eg ⟨0, hB⟩ (fun w => zeroInt w) f 0 c d w
    (fun W x hbl => hp W x.1 x.2 (fun k hk _ => hbl.block k hk))
    (fun n os dk x _ => hp _ x.1 x.2 (fun k hk hn => by
      unfold sortWorld
      rw [Sort.heap_grow_old _ _ (by show k < (putRow _ _ _ _ _).heap.size; rw [size_putRow]; exact hk)]
      show (putRow _ _ _ _ _).heap[k]? = _
      unfold putRow mapBlock
      simp only [Array.getElem?_modify]
      rw [if_neg (fun e => hn e.symm)]
      rfl))
    (fun j hj => by
      have hjl : j < l.length := by omega
      have hbj : (toBel B hB l[j]).1 = l[j] := toBel_lt hB (hlt _ (List.getElem_mem hjl))
      refine ⟨?_, frozen_of_row _ _ _ _ _ hh⟩
      rw [Nat.zero_add, h.at (List.getElem?_eq_getElem hjl), getElem!_pos d j hj]
      unfold encBel
      have : d[j] = toBel B hB l[j] := by
        have h1 : d.toList[j]? = some (toBel B hB l[j]) := by rw [hdl, List.getElem?_map, List.getElem?_eq_getElem hjl]; rfl
        rw [Array.getElem?_toList, Array.getElem?_eq_getElem hj] at h1
        simpa using h1
      rw [this, hbj]) (by omega) (by omega)
  rw [hds] at hcon
  refine hcon.mono ?_
  rintro e w' ⟨rfl, q, rfl⟩
  obtain ⟨m, hm⟩ : ∃ m, m = l.filter (fun i => !pr i) := ⟨_, rfl⟩
  rw [hfil, ← hm, List.length_map]
  have hml : m.length ≤ l.length := by rw [hm]; exact List.length_filter_le _ _
  have hmlt : ∀ i ∈ m, i < B := fun i hi => hlt i (by rw [hm] at hi; exact (List.mem_filter.1 hi).1)
  obtain ⟨h1, h2⟩ := putRow_own h (encBel B) ((m.map (toBel B hB)) ++ List.replicate (l.length - m.length) (⟨0, hB⟩ : Bel B)).toArray m q (by
    simp only [List.map_append]
    rw [List.take_left' (by simp), toBel_enc hB hmlt]) hml (by simp; omega)
  exact ⟨rfl, h1, h2⟩
end Go.Proofs.YtndjnkjcfdaegaaGreatDoor

/-
  The pool's Take. No conditions of its own.
-/
namespace Go.Proofs.YtndjnkjcfdaegaaGreatDoor
open Go.RowKit Go.Shelf Go.Sort Go.Joins Go.Deep

theorem takeClos_any (W : World) (B : Nat) (ai i : Int) (hc : W.cell? ⟨B, 1, none⟩ = some (.int .i64 ai)) : FnGives Tryz.prog 151 #[.pointer (some ⟨B, 0, none⟩)] #[.int .i64 i] (.bool (decide (i = ai))) W := by
  show Calls Tryz.prog 151 #[.int .i64 i, .pointer (some ⟨B, 0, none⟩)] W _
  go_enter Tryz.func151, Tryz.ntmps151
  go_wp2
  go_ret
  refine ⟨?_, 0, rfl⟩
  rfl
theorem takeClos_eg : ∀ args w, (callFunc 151 args).run Tryz.prog w = .ok (.enter 151 args) w := enters_of Tryz.func151 (by kernel_rfl) rfl
section
variable {w : World} {base p g : Nat} {R : List Rp} {pl : Pl}
theorem takeP_none {a : Nam} (hx : ixAt pl a.s a.i = none) : takeP pl a = (1, pl) := by
  unfold takeP
  unfold ixAt at hx
  cases hs : shAt pl a.s with
  | none => rfl
  | some s =>
    rw [hs] at hx
    simp only [hx]
theorem takeP_some {a : Nam} {k i : Nat} {s : Sh} {x : Ix} (hk : a.s = k) (hi : a.i = i) (hs : pl[k]? = some s) (hx : s.all[i]? = some x) : takeP pl a = ((takeS' s x a.i a.g).1, plPut pl k (takeS' s x a.i a.g).2) := by
  unfold takeP
  rw [hk, shAt_nat hs]
  simp only [hi, ixIn_nat hx, Int.toNat_natCast]
theorem plPut_id {p : Pl} {k : Nat} {s : Sh} (hs : p[k]? = some s) : plPut p k s = p := by
  obtain ⟨hk, rfl⟩ := List.getElem?_eq_some_iff.1 hs
  unfold plPut
  simp
set_option maxRecDepth 100000 in
set_option maxHeartbeats 2000000 in
theorem poolTake_any (h : PoolAt w base p g R pl) (a : Nam) : Calls Tryz.prog 100 #[dP p, namV a] w fun e w' => e = .returned (.int .i64 (takeP pl a).1) ∧ PoolAt w' base p g R (takeP pl a).2 ∧ Keeps (PoolS p g R) w w' := by
  obtain ⟨E, hE⟩ : ∃ x, x = takeP pl a := ⟨_, rfl⟩
  rw [← hE]
  have H := Lib.hid h
  have HTP := Lib.hid hE
  cases hx : ixAt pl a.s a.i with
  | none =>
    rw [takeP_none hx] at hE
    have C := Lib.hid (fun W (k : Keeps No w W) => poolAt_no (h.no k) hx)
    have HE := Lib.hid hE
    clear h hx hE
    go_enter Tryz.func100, Tryz.ntmps100
    go_wp2_with fail
    (with_reducible refine (C.out _ ((Keeps.refl w).alloc _)).mono ?_)
    rintro e w1 ⟨rfl, hk⟩
    have K := Lib.hid (((Keeps.refl w).alloc _).trans hk (fun _ _ h => h))
    clear hk C
    go_wp2
    go_ret
    exact ⟨by rw [HE.out]; rfl, by rw [HE.out]; exact H.out.no K.out, K.out.mono (fun _ _ h => h.elim)⟩
  | some x =>
    obtain ⟨k, i, s, hks, hii, hm, hn⟩ : ∃ (k i : Nat) (s : Sh), a.s = k ∧ a.i = i ∧ pl[k]? = some s ∧ s.all[i]? = some x := by
      unfold ixAt at hx
      cases hs : shAt pl a.s with
      | none => rw [hs] at hx; cases hx
      | some s =>
        rw [hs] at hx
        obtain ⟨m, hm0, hm⟩ := shAt_some hs
        obtain ⟨n, hn0, hn⟩ := ixIn_some hx
        exact ⟨m, n, s, hm0, hn0, hm, hn⟩
    obtain ⟨r, hr, hsh, _⟩ := h.place hm
    have C := Lib.hid (fun W (q : Keeps No w W) => poolAt_yes (h.no q) hr hm hn)
    rw [← hks, ← hii] at C
    obtain ⟨c0, c1, _, _⟩ := hsh.ixCells hn
    obtain ⟨_, d1⟩ := h.shCells hr hm
    rw [takeP_some hks hii hm hn] at hE
    unfold takeS' at hE
    have HE := Lib.hid hE
    have ok := h.ok.sh hm
    have HF := Lib.hid ok.few
    have CB : Hid (cellsAt (w.alloc (.cells (namC a).toArray 36)) w.heap.size 0 3 = some (namC a)) := Lib.hid (by simp [go_sem])
    have HR := Lib.hid (And.intro hr (And.intro hm hn))
    have HKI := Lib.hid (And.intro hks hii)
    have HPS := Lib.hid (plPut_id hm)
    clear h hr hx hm hn hE hks hii ok
    go_enter Tryz.func100, Tryz.ntmps100
    go_wp2_with fail
    (with_reducible refine (C.out _ ((Keeps.refl w).alloc _)).mono ?_)
    rintro e W ⟨rfl, hk⟩
    have K := Lib.hid (((Keeps.refl w).alloc _).trans hk (fun _ _ h => h))
    have cW := hk.cellsAt CB.out
    have m1 := cellsAt_cell cW 1 _ rfl
    have m2 := cellsAt_cell cW 2 _ rfl
    simp only [Nat.zero_add] at m1 m2
    replace c0 := K.out.cell c0 (fun h => h)
    replace c1 := K.out.cell c1 (fun h => h)
    replace d1 := K.out.cell d1 (fun h => h)
    have P := Lib.hid (H.out.no K.out)
    have hB : Hid (w.heap.size < W.heap.size) := Lib.hid (block_lt_of_cell m1)
    clear hk C CB cW hsh
    by_cases t1 : a.g < 0
    · have HE2 : Hid (E = (1, pl)) := Lib.hid (by rw [HE.out, decide_eq_true t1]; simp only [cond_true]; rw [HPS.out])
      go_wp2
      go_ret
      exact ⟨by rw [HE2.out]; rfl, by rw [HE2.out]; exact P.out, K.out.mono (fun _ _ h => h.elim)⟩
    rw [decide_eq_false t1, cond_false] at HE
    have CC := Lib.hid (fun n : Nat => containsInts (w := W.drewN n) (((Keeps.refl (S := No) W).drewN n).owns (P.out.sh k r s HR.out.1 HR.out.2.1).free (fun _ _ h => h)) (by have := HF.out; omega) a.i)
    obtain ⟨T, hT⟩ : ∃ T, T = freeHas s a.i := ⟨_, rfl⟩
    have hT2 := hT
    unfold freeHas at hT2
    rw [← hT2] at CC
    rw [← hT] at HE
    have HT := Lib.hid hT
    clear hT hT2
    go_upto_region 4 with fail
    go_quiet (first | (go_at_call 150; with_reducible exact Calls.quiet_of_same (CC.out _)))
    cases T
    case false =>
      have HE2 : Hid (E = (14, pl)) := Lib.hid (by rw [HE.out]; simp only [Bool.not_false, cond_true]; rw [HPS.out])
      go_wp2
      go_ret
      exact ⟨by rw [HE2.out]; rfl, by rw [HE2.out]; exact P.out.no ((Keeps.refl W).drewN _), (K.out.drewN _).mono (fun _ _ h => h.elim)⟩
    simp only [Bool.not_true, cond_false] at HE
    go_upto_region 6 with fail
    refine wp_world ?_
    intro W6 hW6
    have K6 : Hid (Keeps No w W6) := Lib.hid (by rw [hW6]; exact K.out.drewN _)
    replace c0 : W6.cell? ⟨r.a, i * 3, none⟩ = some (.int .i64 x.g) := by rw [hW6]; exact c0
    replace c1 : W6.cell? ⟨r.a, i * 3 + 1, none⟩ = some (.int .i64 x.b) := by rw [hW6]; exact c1
    replace d1 : W6.cell? ⟨g, k * 2 + 1, none⟩ = some (r.fv s) := by rw [hW6]; exact d1
    replace m1 : W6.cell? ⟨w.heap.size, 1, none⟩ = some (.int .i64 a.i) := by rw [hW6]; exact m1
    replace m2 : W6.cell? ⟨w.heap.size, 2, none⟩ = some (.int .i64 a.g) := by rw [hW6]; exact m2
    have P6 := Lib.hid (P.out.no (w' := W6) (by rw [hW6]; exact (Keeps.refl W).drewN _))
    have B6 : Hid (w.heap.size < W6.heap.size) := Lib.hid (by rw [hW6]; exact hB.out)
    clear hW6 K P hB CC HT
    obtain ⟨t2, ht2⟩ : ∃ b, b = decide (a.g < x.g) := ⟨_, rfl⟩
    obtain ⟨t3, ht3⟩ : ∃ b, b = decide (x.b ≤ a.g) := ⟨_, rfl⟩
    rw [← ht2, ← ht3] at HE
    cases t2
    case true =>
      have HE2 : Hid (E = (9, pl)) := Lib.hid (by rw [HE.out]; simp only [Bool.true_or, cond_true]; rw [HPS.out])
      have t2 : a.g < x.g := by simpa using ht2.symm
      clear ht2 ht3
      go_region
      all_goals go_wp2
      all_goals go_ret
      all_goals exact ⟨by rw [HE2.out]; rfl, by rw [HE2.out]; exact P6.out.no (Keeps.refl W6).drew, K6.out.drew.mono (fun _ _ h => h.elim)⟩
    have t2 : ¬ a.g < x.g := by simpa using ht2.symm
    cases t3
    case true =>
      have HE2 : Hid (E = (9, pl)) := Lib.hid (by rw [HE.out]; simp only [Bool.or_true, cond_true]; rw [HPS.out])
      have t3 : x.b ≤ a.g := by simpa using ht3.symm
      clear ht2 ht3
      go_region
      all_goals go_wp2
      all_goals go_ret
      all_goals exact ⟨by rw [HE2.out]; rfl, by rw [HE2.out]; exact P6.out.no (Keeps.refl W6).drew, K6.out.drew.mono (fun _ _ h => h.elim)⟩
    have t3 : ¬ x.b ≤ a.g := by simpa using ht3.symm
    clear ht2 ht3
    simp only [Bool.or_self, cond_false] at HE
    have K8 : Hid (Keeps No w W6.drew) := Lib.hid K6.out.drew
    have P8 := Lib.hid (P6.out.no (Keeps.refl W6).drew)
    have hs8 := P8.out.sh k r s HR.out.1 HR.out.2.1
    have hB8 : r.f < w.heap.size := H.out.lt (.inr (.inr ⟨r, List.mem_of_getElem? HR.out.1, .inr rfl⟩))
    have ok := H.out.ok.sh HR.out.2.1
    have CD := Lib.hid (delInts hs8.free (by have := HF.out; omega) (B := s.all.length) (by have := ok.n0; omega) (fun j hj => by obtain ⟨y, hy, _⟩ := ok.fr j hj; exact (List.getElem?_eq_some_iff.1 hy).1) (fun j => decide ((j : Int) = a.i)) 151 #[.pointer (some ⟨w.heap.size, 0, none⟩)] takeClos_eg
      (fun W' j _ hk => takeClos_any W' w.heap.size a.i j ((World.cell?_of_block (w := W6.drew) (hk w.heap.size B6.out (by omega))).trans m1)))
    obtain ⟨F', hF'⟩ : ∃ F', F' = s.free.filter (fun j : Nat => !decide ((j : Int) = a.i)) := ⟨_, rfl⟩
    rw [← hF'] at CD
    have HF' : Hid (freeNot s a.i = F') := Lib.hid hF'.symm
    clear hF' hs8 hB8 ok
    go_region
    go_wp2_with fail
    (with_reducible refine CD.out.mono ?_)
    rintro e w9 ⟨rfl, ho9, hk9⟩
    have K9 := Lib.hid hk9
    have O9 := Lib.hid ho9
    have ng : ¬ Own r.f g := (H.out.four HR.out.1).2.2.2.2.1
    have na : ¬ Own r.f r.a := (H.out.four HR.out.1).2.2.2.2.2
    have nw : ¬ Own r.f w.heap.size := fun e => by
      have : r.f < w.heap.size := H.out.lt (.inr (.inr ⟨r, List.mem_of_getElem? HR.out.1, .inr rfl⟩))
      have e : w.heap.size = r.f := e
      omega
    have G9 := Lib.hid (hk9.heap P8.out.row ng)
    have A9 := Lib.hid (hk9.heap (P8.out.sh k r s HR.out.1 HR.out.2.1).all na)
    replace m2 : w9.cell? ⟨w.heap.size, 2, none⟩ = some (.int .i64 a.g) := hk9.cell (a := W6.drew) m2 nw
    replace c0 : w9.cell? ⟨r.a, i * 3, none⟩ = some (.int .i64 x.g) := hk9.cell (a := W6.drew) c0 na
    replace d1 : w9.cell? ⟨g, k * 2 + 1, none⟩ = some (r.fv s) := hk9.cell (a := W6.drew) d1 ng
    have fg : w9.frozen? ⟨g, k * 2 + 1, none⟩ = false := frozen_of_row _ _ _ _ _ G9.out
    have fa0 : w9.frozen? ⟨r.a, i * 3, none⟩ = false := frozen_of_row _ _ _ _ _ A9.out
    have fa2 : w9.frozen? ⟨r.a, i * 3 + 2, none⟩ = false := frozen_of_row _ _ _ _ _ A9.out
    have c2 : w9.cell? ⟨r.a, i * 3 + 2, none⟩ = some (.bool x.a) := rowCell cIx A9.out i x HR.out.2.2 2 _ rfl
    have nga : ¬ g = r.a := (H.out.four HR.out.1).2.2.2.1
    have nag : ¬ r.a = g := fun e => nga e.symm
    have nwg : ¬ w.heap.size = g := fun e => by have := H.out.lt (i := g) (.inr (.inl rfl)); omega
    have nwa : ¬ w.heap.size = r.a := fun e => by have := H.out.lt (i := r.a) (.inr (.inr ⟨r, List.mem_of_getElem? HR.out.1, .inl rfl⟩)); omega
    clear ho9 hk9 na ng nw CD
    go_wp2
    go_ret
    obtain ⟨hr, hm, hn⟩ := HR.out
    have hii : a.i.toNat = i := by have := HKI.out.2; omega
    obtain ⟨t, ht⟩ : ∃ t : Sh, t = ⟨s.all.set i ⟨a.g, x.b, true⟩, F'⟩ := ⟨_, rfl⟩
    have HE2 : E = (0, plPut pl k t) := by rw [HE.out, HF'.out, hii, ht]
    have hz : (R.zip pl)[k]? = some (r, s) := by rw [List.getElem?_zip_eq_some]; exact ⟨hr, hm⟩
    have q1 := heap_row_cell cSh G9.out k 1 (r, s) (r, t) (.slice (some ⟨r.f, 0, none⟩) F'.length r.c) hz (by decide) (by rw [ht]; simp [cSh])
    obtain ⟨X1, hX1⟩ : ∃ X, X = w9.setCell ⟨g, k * 2 + 1, none⟩ (.slice (some ⟨r.f, 0, none⟩) F'.length r.c) := ⟨_, rfl⟩
    have y1 : Keeps (Own g) w9 X1 := by rw [hX1]; exact keepsCell _ _ _ _
    have q1 : X1.heap[g]? = some (.cells (rowsOf cSh ((R.zip pl).set k (r, t))).toArray shT (0, 0)) := by rw [hX1]; exact q1
    rw [← hX1]
    have y2 : Keeps (Own r.a) X1 (X1.setCell ⟨r.a, i * 3, none⟩ (.int .i64 a.g)) := keepsCell _ _ _ _
    have z1 := y1.heap A9.out nag
    have z2 := heap_row_cell cIx z1 i 0 x ⟨a.g, x.b, x.a⟩ (.int .i64 a.g) hn (by decide) rfl
    rw [Nat.add_zero] at z2
    have z3 := heap_row_cell cIx z2 i 2 ⟨a.g, x.b, x.a⟩ ⟨a.g, x.b, true⟩ (.bool true) (by rw [List.getElem?_set_self (List.getElem?_eq_some_iff.1 hn).1]) (by decide) rfl
    rw [List.set_set] at z3
    have y3 := y2.trans (keepsCell (X1.setCell ⟨r.a, i * 3, none⟩ (.int .i64 a.g)) r.a (i * 3 + 2) (.bool true)) (fun _ _ h => h)
    obtain ⟨X3, hX3⟩ : ∃ X, X = (X1.setCell ⟨r.a, i * 3, none⟩ (.int .i64 a.g)).setCell ⟨r.a, i * 3 + 2, none⟩ (.bool true) := ⟨_, rfl⟩
    have z3 : X3.heap[r.a]? = some (.cells (rowsOf cIx (s.all.set i ⟨a.g, x.b, true⟩)).toArray ixT (0, 0)) := by rw [hX3]; exact z3
    rw [← hX3] at y3 ⊢
    have kF : Keeps (PoolS p g [r]) W6.drew X3 := ((K9.out.mono (T := PoolS p g [r]) (fun j _ e => .inr (.inr ⟨r, by simp, .inr e⟩))).trans y1 (fun j _ e => .inr (.inl e))).trans y3 (fun j _ e => .inr (.inr ⟨r, by simp, .inl e⟩))
    obtain ⟨f1, f2, f3, f4, f5, f6⟩ := H.out.four hr
    have hbx : X3.heap[p]? = W6.drew.heap[p]? := by
      have hpl : p < W6.drew.heap.size := P8.out.lt (.inl rfl)
      rw [y3.block p (by have := y1.size; have := K9.out.size; omega) f2, y1.block p (by have := K9.out.size; omega) f1, K9.out.block p hpl f3]
    have hp := P8.out.put (r' := r) (t := t) hr hm kF hbx (y3.heap q1 f4)
      ⟨by rw [ht]; exact z3, by rw [ht]; exact y3.owns (y1.owns O9.out (fun j hj e => f5 (by simp only [Value.ownBlock, Option.some.injEq] at hj; exact e.symm.trans hj.symm))) (fun j hj e => f6 (by simp only [Value.ownBlock, Option.some.injEq] at hj; exact e.symm.trans hj.symm)), (P8.out.sh k r s hr hm).ba⟩ rfl (.inl rfl)
      (by
        have h9 := P8.out.ok.take a
        rw [← HTP.out, HE2] at h9
        exact h9.sh (n := k) (List.getElem?_set_self (List.getElem?_eq_some_iff.1 hm).1))
    rw [set_same hr] at hp
    refine ⟨by rw [HE2]; rfl, by rw [HE2]; exact hp, (K8.out.mono (fun _ _ h => h.elim)).trans kF (fun j _ e => ?_)⟩
    rcases e with e | e | ⟨q, hq, e⟩
    · exact .inl e
    · exact .inr (.inl e)
    · simp only [List.mem_singleton] at hq
      subst hq
      exact .inr (.inr ⟨q, List.mem_of_getElem? hr, e⟩)
end
end Go.Proofs.YtndjnkjcfdaegaaGreatDoor

