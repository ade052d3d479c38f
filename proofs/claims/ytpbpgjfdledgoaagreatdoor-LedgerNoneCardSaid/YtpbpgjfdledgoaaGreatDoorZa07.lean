/-
  Texts in one: TiD, TiE, TiF, TiG, TiH, TiI, TiJ, TiL, TiM, TiN. No conditions of their own.
-/
import Derived.Test.YtpbpgjfdledgoaaGreatDoorZa06
import Derived.Shelf.SlSortCmp.QuietGrown
import Derived.Lib.SmallJoins

/-
  The order that entities are sorted by, and insertion sort over a row that is sorted. No conditions of their own.
-/
namespace Go.Proofs.YtpbpgjfdledgoaaGreatDoor
open Go.RowKit Go.Joins Go.Deep Go.Sort

theorem mixed : Tryz.prog.follows .mixedOrders = true := by kernel_rfl
/-- no one stands behind one that it comes ahead of -/
def SortedN (l : List Nam) : Prop := l.Pairwise fun a b => nlt b a = false
abbrev SortedB (l : List Bd) : Prop := SortedN (l.map Bd.id)
theorem SortedB.at {l : List Bd} (h : SortedB l) {i j : Nat} (hij : i < j) (hj : j < l.length) : nlt l[j].id (l[i]'(by omega)).id = false := by
  have := List.pairwise_iff_getElem.1 h i j (by simp; omega) (by simpa using hj) hij
  simpa using this
section
variable {w : World} {blk off cap : Nat} {l : List Bd}
end
end Go.Proofs.YtpbpgjfdledgoaaGreatDoor

/-
  slices.SortStableFunc, Clone, parts.Sorted over entities that are sorted. No conditions of their own.
-/
namespace Go.Proofs.YtpbpgjfdledgoaaGreatDoor
open Go.RowKit Go.Joins Go.Deep Go.Sort

section
variable {w : World} {blk off cap : Nat} {l : List Bd}
end
end Go.Proofs.YtpbpgjfdledgoaaGreatDoor

/-
  slices.Clone, SortStableFunc, parts.Sorted over entities that are sorted, parts.Has. No conditions of their own.
-/
namespace Go.Proofs.YtpbpgjfdledgoaaGreatDoor
open Go.RowKit Go.Joins Go.Deep Go.Sort

theorem Tryz.infoBd : (Tryz.prog.info? 25).map (fun i => (i.zero, i.size, i.bytes)) = some (some (.agg (bdC Bd.zero).toArray), 11, 88) := by kernel_rfl
/-- a row of the call's own that holds l -/
abbrev OwnOf {α : Type} (C : Codec α) (e : TypeId) (w : World) (base : Nat) (v : Value) (l : List α) : Prop := w.ownsRow base e C.size v l.length (rowsOf C l)
theorem OwnOf.reads {α : Type} {C : Codec α} {e : TypeId} {w : World} {base : Nat} {v : Value} {l : List α} (h : OwnOf C e w base v l) : RdOf C w v l := Reads.ofOwn h (rowsOf_ones C l)
theorem RdOf.slice {α : Type} {C : Codec α} {w : World} {v : Value} {l : List α} (h : RdOf C w v l) : ∃ a c, v = .slice a l.length c := Reads.slice h

set_option maxRecDepth 100000 in
theorem hasG_any (w : World) (b : Bd) (c : Int) (h : bits .and .i64 b.m c = (bif hasB b.m c then c else 0)) (h0 : ¬ c = 0) : Calls Tryz.prog 199 #[bdV b, .int .i64 c] w fun e w' => e = .returned (.bool (hasB b.m c)) ∧ Grown w w' := by
  cases hb : hasB b.m c with
  | true =>
    rw [hb, cond_true] at h
    clear hb
    go_enter Tryz.func199, Tryz.ntmps199
    go_wp2
    go_ret
    exact ⟨by simp, (Grown.same w).alloc _⟩
  | false =>
    rw [hb, cond_false] at h
    have h1 : ((0 : Int) == c) = false := by rw [beq_eq_false_iff_ne]; omega
    clear hb
    go_enter Tryz.func199, Tryz.ntmps199
    go_wp2
    go_ret
    exact ⟨by simp, (Grown.same w).alloc _⟩
theorem has1 (w : World) (b : Bd) : Calls Tryz.prog 199 #[bdV b, .int .i64 1] w fun e w' => e = .returned (.bool (hasB b.m 1)) ∧ Grown w w' := hasG_any w b 1 (has_spelled b.m).1 (by decide)
theorem has2 (w : World) (b : Bd) : Calls Tryz.prog 199 #[bdV b, .int .i64 2] w fun e w' => e = .returned (.bool (hasB b.m 2)) ∧ Grown w w' := hasG_any w b 2 (has_spelled b.m).2.1 (by decide)
theorem has4 (w : World) (b : Bd) : Calls Tryz.prog 199 #[bdV b, .int .i64 4] w fun e w' => e = .returned (.bool (hasB b.m 4)) ∧ Grown w w' := hasG_any w b 4 (has_spelled b.m).2.2.1 (by decide)
theorem has8 (w : World) (b : Bd) : Calls Tryz.prog 199 #[bdV b, .int .i64 8] w fun e w' => e = .returned (.bool (hasB b.m 8)) ∧ Grown w w' := hasG_any w b 8 (has_spelled b.m).2.2.2.1 (by decide)
theorem has16 (w : World) (b : Bd) : Calls Tryz.prog 199 #[bdV b, .int .i64 16] w fun e w' => e = .returned (.bool (hasB b.m 16)) ∧ Grown w w' := hasG_any w b 16 (has_spelled b.m).2.2.2.2 (by decide)
end Go.Proofs.YtpbpgjfdledgoaaGreatDoor

/-
  systems.Hurt, Age, parts.With, Without. No conditions of their own.
-/
namespace Go.Proofs.YtpbpgjfdledgoaaGreatDoor
open Go.RowKit Go.Joins Go.Deep Go.Sort

theorem Keeps.cellNew {a w : World} (h : Keeps No a w) {g i : Nat} (hb : a.heap.size ≤ g) (v : Value) : Keeps No a (w.setCell ⟨g, i, none⟩ v) := h.setCell (fun hlt => by simp only at hlt; omega) v
/-- an entity's box, and one for a result -/
structure Boxed (w W : World) (gb gr : Nat) (b : Bd) : Prop where
  b : cellsAt W gb 0 11 = some (bdC b)
  ob : Open W gb
  sb : (rowD W gb).size = 11
  or : Open W gr
  sr : (rowD W gr).size = 11
  nb : w.heap.size ≤ gb
  nr : w.heap.size ≤ gr
  ne : gb ≠ gr
  lb : gb < W.heap.size
  lr : gr < W.heap.size
  k : Keeps No w W
theorem Boxed.next {w W W' : World} {gb gr : Nat} {b : Bd} (h : Boxed w W gb gr b) (k : Keeps No W W') : Boxed w W' gb gr b :=
  ⟨k.cellsAt h.b, k.opened h.ob, k.rowSize h.ob h.sb, k.opened h.or, k.rowSize h.or h.sr, h.nb, h.nr, h.ne, Nat.lt_of_lt_of_le h.lb k.size, Nat.lt_of_lt_of_le h.lr k.size, h.k.trans k (fun _ _ h => h)⟩
theorem boxed_new (w : World) (b : Bd) (z : Array Value) (hz : z.size = 11) (t : TypeId) : Boxed w ((w.alloc (.cells (bdC b).toArray t)).alloc (.cells z t)) w.heap.size (w.heap.size + 1) b := by
  refine ⟨by simp [go_sem], by simp [go_sem], by simp [go_sem], by simp [go_sem], by simp [go_sem, hz], Nat.le_refl _, Nat.le_succ _, by omega, by simp; omega, by simp, ((Keeps.refl w).alloc _).alloc _⟩

def hurtB (b : Bd) (n : Int) : Bd × Bool := bif !hasB b.m 4 || decide (n ≤ 0) then (b, true) else bif decide (b.hp ≤ n) then (Bd.zero, false) else (⟨b.s, b.i, b.g, b.m, b.x, b.y, b.vx, b.vy, b.hp - n, b.pw, b.lf⟩, true)
def ageB (b : Bd) : Bd × Bool := bif !hasB b.m 16 then (b, true) else bif decide (b.lf ≤ 1) then (Bd.zero, false) else (⟨b.s, b.i, b.g, b.m, b.x, b.y, b.vx, b.vy, b.hp, b.pw, b.lf - 1⟩, true)
end Go.Proofs.YtpbpgjfdledgoaaGreatDoor

/-
  parts.With, Without. No conditions of their own.
-/
namespace Go.Proofs.YtpbpgjfdledgoaaGreatDoor
open Go.RowKit Go.Joins Go.Deep Go.Sort

theorem cells_set {W : World} {g : Nat} {l l2 : List Value} (i : Nat) (v : Value) (h : cellsAt W g 0 11 = some l) (hl : l.set i v = l2) : cellsAt (W.setCell ⟨g, i, none⟩ v) g 0 11 = some l2 := by
  rw [cellsAt_setCell_at, h, Option.map_some]
  simp [← hl]
theorem Boxed.set {w W : World} {gb gr : Nat} {b b2 : Bd} (h : Boxed w W gb gr b) (i : Nat) (v : Value) (hl : (bdC b).set i v = bdC b2) : Boxed w (W.setCell ⟨gb, i, none⟩ v) gb gr b2 :=
  ⟨cells_set i v h.b hl, by rw [open_setCell]; exact h.ob, by rw [rowD_setCell_at]; simpa using h.sb, by rw [open_setCell]; exact h.or, by rw [rowD_setCell_far _ _ _ _ _ h.ne.symm]; exact h.sr, h.nb, h.nr, h.ne, by simpa using h.lb, by simpa using h.lr, h.k.cellNew h.nb _⟩
/-- two entities' boxes, and one for a result -/
structure BoxW (w W : World) (gb gc gr : Nat) (b c : Bd) : Prop where
  x : Boxed w W gb gr b
  c : cellsAt W gc 0 11 = some (bdC c)
  oc : Open W gc
  ne : gb ≠ gc
theorem BoxW.next {w W W' : World} {gb gc gr : Nat} {b c : Bd} (h : BoxW w W gb gc gr b c) (k : Keeps No W W') : BoxW w W' gb gc gr b c := ⟨h.x.next k, k.cellsAt h.c, k.opened h.oc, h.ne⟩
theorem BoxW.set {w W : World} {gb gc gr : Nat} {b b2 c : Bd} (h : BoxW w W gb gc gr b c) (i : Nat) (v : Value) (hl : (bdC b).set i v = bdC b2) : BoxW w (W.setCell ⟨gb, i, none⟩ v) gb gc gr b2 c :=
  ⟨h.x.set i v hl, by rw [cellsAt_setCell_far _ _ _ _ _ _ _ h.ne.symm]; exact h.c, by rw [open_setCell]; exact h.oc, h.ne⟩
def wM (b c : Bd) : Bd := ⟨b.s, b.i, b.g, bits .or .i64 b.m c.m, b.x, b.y, b.vx, b.vy, b.hp, b.pw, b.lf⟩
def wX (c b : Bd) : Bd := bif hasB c.m 1 then ⟨b.s, b.i, b.g, b.m, c.x, c.y, b.vx, b.vy, b.hp, b.pw, b.lf⟩ else b
def wV (c b : Bd) : Bd := bif hasB c.m 2 then ⟨b.s, b.i, b.g, b.m, b.x, b.y, c.vx, c.vy, b.hp, b.pw, b.lf⟩ else b
def wH (c b : Bd) : Bd := bif hasB c.m 4 then ⟨b.s, b.i, b.g, b.m, b.x, b.y, b.vx, b.vy, c.hp, b.pw, b.lf⟩ else b
def wP (c b : Bd) : Bd := bif hasB c.m 8 then ⟨b.s, b.i, b.g, b.m, b.x, b.y, b.vx, b.vy, b.hp, c.pw, b.lf⟩ else b
def wL (c b : Bd) : Bd := bif hasB c.m 16 then ⟨b.s, b.i, b.g, b.m, b.x, b.y, b.vx, b.vy, b.hp, b.pw, c.lf⟩ else b
def withB (b c : Bd) : Bd := wL c (wP c (wH c (wV c (wX c (wM b c)))))

end Go.Proofs.YtpbpgjfdledgoaaGreatDoor

/-
  parts.Without, systems.Obey. No conditions of their own.
-/
namespace Go.Proofs.YtpbpgjfdledgoaaGreatDoor
open Go.RowKit Go.Joins Go.Deep Go.Sort

set_option maxRecDepth 100000 in
theorem run_eqlID (x1 x2 x3 y1 y2 y3 : Int) (w : World) : (binOp .eql 23 (.agg #[.int .i64 x1, .int .i64 x2, .int .i64 x3]) (.agg #[.int .i64 y1, .int .i64 y2, .int .i64 y3])).run Tryz.prog w = .ok (.bool (neq ⟨x1, x2, x3⟩ ⟨y1, y2, y3⟩)) w := by
  unfold neq
  by_cases h1 : x1 = y1 <;> by_cases h2 : x2 = y2 <;> by_cases h3 : x3 = y3 <;> simp [go_sem, h1, h2, h3]
set_option maxRecDepth 100000 in
theorem run_neqID (x1 x2 x3 y1 y2 y3 : Int) (w : World) : (binOp .neq 23 (.agg #[.int .i64 x1, .int .i64 x2, .int .i64 x3]) (.agg #[.int .i64 y1, .int .i64 y2, .int .i64 y3])).run Tryz.prog w = .ok (.bool (!neq ⟨x1, x2, x3⟩ ⟨y1, y2, y3⟩)) w := by
  unfold neq
  by_cases h1 : x1 = y1 <;> by_cases h2 : x2 = y2 <;> by_cases h3 : x3 = y3 <;> simp [go_sem, h1, h2, h3]

def onlyM (k : Int) : Bd := ⟨0, 0, 0, k, 0, 0, 0, 0, 0, 0, 0⟩
def noM (b : Bd) (k : Int) : Bd := ⟨b.s, b.i, b.g, bits .andNot .i64 b.m k, b.x, b.y, b.vx, b.vy, b.hp, b.pw, b.lf⟩
def withoutB (b : Bd) (k : Int) : Bd := noM (withB b (onlyM k)) k
abbrev cmV (c : Cm) : Value := .agg #[.int .i64 c.k, .int .i64 c.s, .int .i64 c.i, .int .i64 c.g, .int .i64 c.b.s, .int .i64 c.b.i, .int .i64 c.b.g, .int .i64 c.b.m, .int .i64 c.b.x, .int .i64 c.b.y, .int .i64 c.b.vx, .int .i64 c.b.vy, .int .i64 c.b.hp, .int .i64 c.b.pw, .int .i64 c.b.lf, .int .i64 c.m]
def obeyB (b : Bd) (c : Cm) : Bd × Bool := bif !neq c.id b.id then (b, true) else bif c.k == 2 then (Bd.zero, false) else bif c.k == 3 then (withB b c.b, true) else bif c.k == 4 then (withoutB b c.m, true) else (b, true)
end Go.Proofs.YtpbpgjfdledgoaaGreatDoor

/-
  parts.Find, hedgerowref09.Before, Find. No conditions of their own.
-/
namespace Go.Proofs.YtpbpgjfdledgoaaGreatDoor
open Go.RowKit Go.Joins Go.Deep Go.Sort

def cmpN (a : Bd) (s i g : Int) : Int := ncmp a.id ⟨s, i, g⟩
theorem cmpN_lt (a : Bd) (s i g : Int) : cmpN a s i g < 0 ↔ a.s < s ∨ (a.s = s ∧ (a.i < i ∨ (a.i = i ∧ a.g < g))) := by
  have h := ncmp_lt a.id ⟨s, i, g⟩
  have h2 := nlt_iff a.id ⟨s, i, g⟩
  rw [← h, decide_eq_true_iff] at h2
  exact h2
theorem cmpN_eq (a : Bd) (s i g : Int) : cmpN a s i g = 0 ↔ a.s = s ∧ a.i = i ∧ a.g = g := by
  have h := ncmp_eq a.id ⟨s, i, g⟩
  have h2 := neq_iff a.id ⟨s, i, g⟩
  rw [← h, decide_eq_true_iff] at h2
  unfold cmpN
  rw [h2]
  simp [Bd.id]
theorem cellsAt_part {w : World} {b o n : Nat} {l : List Value} (h : cellsAt w b o n = some l) (a : Nat) (m : List Value) (hm : m = (l.drop a).take m.length) (h0 : 0 < m.length) : cellsAt w b (o + a) m.length = some m := by
  refine cellsAt_of (fun j v hv => ?_) h0
  have hj := (List.getElem?_eq_some_iff.1 hv).1
  rw [Nat.add_assoc]
  refine cellsAt_cell h (a + j) v ?_
  rw [hm, List.getElem?_take_of_lt hj, List.getElem?_drop] at hv
  exact hv

theorem run_eqlID' (x1 x2 x3 y1 y2 y3 : Int) (w : World) : (binOp .eql 23 (.agg #[.int .i64 x1, .int .i64 x2, .int .i64 x3]) (.agg #[.int .i64 y1, .int .i64 y2, .int .i64 y3])).run Tryz.prog w = .ok (.bool (x1 == y1 && (x2 == y2 && x3 == y3))) w := run_eqlID x1 x2 x3 y1 y2 y3 w
/-- is a name not ahead of this one? -/
def geN (s i g : Int) (b : Bd) : Bool := decide (0 ≤ cmpN b s i g)
/-- where a name is, or would be -/
def findAt (s i g : Int) (l : List Bd) : Nat := l.findIdx (geN s i g)
def findIs (s i g : Int) (l : List Bd) : Bool := match l[findAt s i g l]? with | some b => cmpN b s i g == 0 | none => false
theorem findAt_le (s i g : Int) (l : List Bd) : findAt s i g l ≤ l.length := List.findIdx_le_length
theorem find_at (s i g : Int) (l : List Bd) (k : Nat) (hk : k < l.length) (hno : ∀ j, (h : j < k) → (h2 : j < l.length) → geN s i g l[j] = false) (hp : geN s i g l[k] = true) : findAt s i g l = k ∧ findIs s i g l = (cmpN l[k] s i g == 0) := by
  have h1 : findAt s i g l = k := by
    unfold findAt
    rw [List.findIdx_eq hk]
    exact ⟨hp, fun j hj => by simpa using hno j hj (by omega)⟩
  refine ⟨h1, ?_⟩
  unfold findIs
  rw [h1, List.getElem?_eq_getElem hk]
theorem find_none (s i g : Int) (l : List Bd) (hno : ∀ j, (h2 : j < l.length) → geN s i g l[j] = false) : findAt s i g l = l.length ∧ findIs s i g l = false := by
  have h1 : findAt s i g l = l.length := by
    unfold findAt
    rw [List.findIdx_eq_length]
    intro x hx
    obtain ⟨j, hj, rfl⟩ := List.getElem_of_mem hx
    exact hno j hj
  refine ⟨h1, ?_⟩
  unfold findIs
  rw [h1, List.getElem?_eq_none (Nat.le_refl _)]

theorem cmp_id (a : Bd) (s i g : Int) : (cmpN a s i g == 0) = (a.s == s && (a.i == i && a.g == g)) := by
  rw [Bool.eq_iff_iff]
  simp [cmpN_eq]

end Go.Proofs.YtpbpgjfdledgoaaGreatDoor

/-
  The leaves of the document's program: Clamp, half, Bit, Far, near, into. No conditions of their own.
-/
namespace Go.Proofs.YtpbpgjfdledgoaaGreatDoor
open Go.RowKit Go.Joins Go.Deep Go.Sort

theorem rclamp_any (w : World) (n : Int) : Calls Tryz.prog 306 #[.int .i64 n] w fun e w' => e = .returned (.int .i64 (cl n)) ∧ w' = w := by
  by_cases h : n < -1073741824
  · rw [cl_lo h]
    have h2 : ¬ 1073741824 < n := by omega
    go_enter Tryz.func306, Tryz.ntmps306
    go_wp2
    go_ret
    exact ⟨rfl, rfl⟩
  · by_cases k : 1073741824 < n
    · rw [cl_hi k]
      go_enter Tryz.func306, Tryz.ntmps306
      go_wp2
      go_ret
      exact ⟨rfl, rfl⟩
    · rw [cl_in (by omega) (by omega)]
      go_enter Tryz.func306, Tryz.ntmps306
      go_wp2
      go_ret
      exact ⟨rfl, rfl⟩
theorem half_any (w : World) (n : Int) (hn : i64 n) : Calls Tryz.prog 257 #[.int .i64 n] w fun e w' => e = .returned (.int .i64 (n / 2)) ∧ w' = w := by
  obtain ⟨h1, h2⟩ := hn
  by_cases h : n < 0
  · have hd : decide (n < 0) = true := decide_eq_true h
    by_cases ho : n % 2 = 0
    · have hm : n.tmod 2 = 0 := by rw [Int.tmod_eq_emod]; split <;> omega
      have hq : n.tdiv 2 = n / 2 := by rw [Int.tdiv_eq_ediv]; split <;> omega
      obtain ⟨q, hq2⟩ : ∃ q, q = n / 2 := ⟨_, rfl⟩
      rw [← hq2] at hq ⊢
      have hq3 : -9223372036854775808 ≤ q := by omega
      have hq4 : q ≤ 9223372036854775807 := by omega
      clear hq2 ho
      go_enter Tryz.func257, Tryz.ntmps257
      go_wp2
      go_ret
      exact ⟨rfl, rfl⟩
    · have hm : n.tmod 2 = -1 := by rw [Int.tmod_eq_emod]; split <;> omega
      have hq : (n - 1).tdiv 2 = n / 2 := by rw [Int.tdiv_eq_ediv]; split <;> omega
      obtain ⟨q, hq2⟩ : ∃ q, q = n / 2 := ⟨_, rfl⟩
      rw [← hq2] at hq ⊢
      have hq3 : -9223372036854775808 ≤ q := by omega
      have hq4 : q ≤ 9223372036854775807 := by omega
      have hn1 : -9223372036854775807 ≤ n := by omega
      clear hq2 ho
      go_enter Tryz.func257, Tryz.ntmps257
      go_wp2
      go_ret
      exact ⟨rfl, rfl⟩
  · have hd : decide (n < 0) = false := decide_eq_false h
    have h0 : 0 ≤ n := by omega
    have hq : n.tdiv 2 = n / 2 := Int.tdiv_eq_ediv_of_nonneg h0
    obtain ⟨q, hq2⟩ : ∃ q, n / 2 = q := ⟨_, rfl⟩
    rw [hq2] at hq ⊢
    have hq3 : 0 ≤ q := by omega
    have hq4 : q ≤ 9223372036854775807 := by omega
    go_enter Tryz.func257, Tryz.ntmps257
    go_wp2
    go_ret
    exact ⟨rfl, rfl⟩
theorem half_ok {n : Int} (h : i64 n) : i64 (n / 2) := by unfold i64 at *; omega
def bitC (c : Int) : Prop := c = 1 ∨ c = 2 ∨ c = 4 ∨ c = 8 ∨ c = 16
set_option maxHeartbeats 1000000 in
theorem bit_any (w : World) (m c : Int) (hm : i64 m) (hc : bitC c) : Calls Tryz.prog 197 #[.int .i64 m, .int .i64 c] w fun e w' => e = .returned (.bool (hasB m c)) ∧ w' = w := by
  have HM := Lib.hid hm
  have HC := Lib.hid hc
  clear hm hc
  go_enter Tryz.func197, Tryz.ntmps197
  go_wp2_with fail
  go_loopw [0, 1] (fun s0 s1 wr => ∃ x d : Int, s0 = .int .i64 x ∧ s1 = .int .i64 d ∧ i64 x ∧ bitC d ∧ hasB x d = hasB m c ∧ w = wr) (fun _ s1 _ => (intOf s1).toNat)
  case atStart => exact ⟨m, c, rfl, rfl, HM.out, HC.out, rfl, rfl⟩
  case round =>
    obtain ⟨x, d, rfl, rfl, hx, hd, hh, rfl⟩ := hrel
    have HX := Lib.hid hx
    have HH := Lib.hid hh
    have HF := Lib.hid (half_any w x hx)
    have HK := Lib.hid (half_ok hx)
    obtain ⟨hx1, hx2⟩ := hx
    clear hh
    obtain ⟨q, hq⟩ : ∃ q, q = x / 2 := ⟨_, rfl⟩
    have HQ := Lib.hid hq
    rw [← hq] at HF HK
    clear hq
    rcases hd with rfl | rfl | rfl | rfl | rfl
    · by_cases ho : x % 2 = 0
      · have e1 : Hid (hasB m c = false) := Lib.hid (by rw [← HH.out]; unfold hasB; rw [Int.ediv_one]; exact decide_eq_false (by omega))
        have hmm : x.tmod 2 = 0 := by rw [Int.tmod_eq_emod]; split <;> omega
        clear ho
        go_wp2
        go_ret
        exact ⟨by rw [e1.out]; rfl, rfl⟩
      · have e1 : Hid (hasB m c = true) := Lib.hid (by rw [← HH.out]; unfold hasB; rw [Int.ediv_one]; exact decide_eq_true (by omega))
        have hmm : x.tmod 2 = 1 ∨ x.tmod 2 = -1 := by rw [Int.tmod_eq_emod]; split <;> omega
        clear ho
        rcases hmm with hmm | hmm
        · go_wp2
          go_ret
          exact ⟨by rw [e1.out]; rfl, rfl⟩
        · go_wp2
          go_ret
          exact ⟨by rw [e1.out]; rfl, rfl⟩
    all_goals
      go_wp2_with fail
      refine HF.out.mono ?_
      rintro e w1 ⟨rfl, h1⟩
      have h1 := h1.symm
      subst h1
      go_wp2
      go_roundw
      case measure => simp [intOf]
    case rel => exact ⟨q, 1, rfl, rfl, HK.out, .inl rfl, by rw [← HH.out, HQ.out]; unfold hasB; congr 1; apply propext; omega, by first | rfl | trivial⟩
    case rel => exact ⟨q, 2, rfl, rfl, HK.out, .inr (.inl rfl), by rw [← HH.out, HQ.out]; unfold hasB; congr 1; apply propext; omega, by first | rfl | trivial⟩
    case rel => exact ⟨q, 4, rfl, rfl, HK.out, .inr (.inr (.inl rfl)), by rw [← HH.out, HQ.out]; unfold hasB; congr 1; apply propext; omega, by first | rfl | trivial⟩
    case rel => exact ⟨q, 8, rfl, rfl, HK.out, .inr (.inr (.inr (.inl rfl))), by rw [← HH.out, HQ.out]; unfold hasB; congr 1; apply propext; omega, by first | rfl | trivial⟩
end Go.Proofs.YtpbpgjfdledgoaaGreatDoor

/-
  The document's With, Without. No conditions of their own.
-/
namespace Go.Proofs.YtpbpgjfdledgoaaGreatDoor
open Go.RowKit Go.Joins Go.Deep Go.Sort

theorem wM_X (b c : Bd) : wM (wX c b) c = wX c (wM b c) := by unfold wX; cases hasB c.m 1 <;> rfl
theorem wM_V (b c : Bd) : wM (wV c b) c = wV c (wM b c) := by unfold wV; cases hasB c.m 2 <;> rfl
theorem wM_H (b c : Bd) : wM (wH c b) c = wH c (wM b c) := by unfold wH; cases hasB c.m 4 <;> rfl
theorem wM_P (b c : Bd) : wM (wP c b) c = wP c (wM b c) := by unfold wP; cases hasB c.m 8 <;> rfl
theorem wM_L (b c : Bd) : wM (wL c b) c = wL c (wM b c) := by unfold wL; cases hasB c.m 16 <;> rfl
theorem with_late (b c : Bd) : wM (wL c (wP c (wH c (wV c (wX c b))))) c = withB b c := by
  rw [wM_L, wM_P, wM_H, wM_V, wM_X]
  rfl
def vM (b : Bd) (k : Int) : Bd := ⟨b.s, b.i, b.g, wrap64 (b.m - bits .and .i64 b.m k), b.x, b.y, b.vx, b.vy, b.hp, b.pw, b.lf⟩
def vX (k : Int) (b : Bd) : Bd := bif hasB k 1 then ⟨b.s, b.i, b.g, b.m, 0, 0, b.vx, b.vy, b.hp, b.pw, b.lf⟩ else b
def vV (k : Int) (b : Bd) : Bd := bif hasB k 2 then ⟨b.s, b.i, b.g, b.m, b.x, b.y, 0, 0, b.hp, b.pw, b.lf⟩ else b
def vH (k : Int) (b : Bd) : Bd := bif hasB k 4 then ⟨b.s, b.i, b.g, b.m, b.x, b.y, b.vx, b.vy, 0, b.pw, b.lf⟩ else b
def vP (k : Int) (b : Bd) : Bd := bif hasB k 8 then ⟨b.s, b.i, b.g, b.m, b.x, b.y, b.vx, b.vy, b.hp, 0, b.lf⟩ else b
def vL (k : Int) (b : Bd) : Bd := bif hasB k 16 then ⟨b.s, b.i, b.g, b.m, b.x, b.y, b.vx, b.vy, b.hp, b.pw, 0⟩ else b
def rwithoutB (b : Bd) (k : Int) : Bd := vM (vL k (vP k (vH k (vV k (vX k b))))) k
end Go.Proofs.YtpbpgjfdledgoaaGreatDoor

/-
  Without, as both programs do it, is one; the document's Hurt, Age, Obey. No conditions of their own.
-/
namespace Go.Proofs.YtpbpgjfdledgoaaGreatDoor
open Go.RowKit Go.Joins Go.Deep Go.Sort

theorem bv_andnot (x y : BitVec 64) : (x ||| y) &&& ~~~y = x - (x &&& y) := by
  have h1 : (x ||| y) &&& ~~~y = x &&& ~~~y := by
    apply BitVec.eq_of_getLsbD_eq
    intro i hi
    simp only [BitVec.getLsbD_and, BitVec.getLsbD_or, BitVec.getLsbD_not, hi, decide_true, Bool.true_and]
    cases x.getLsbD i <;> cases y.getLsbD i <;> rfl
  have h2 : (x &&& y) &&& (x &&& ~~~y) = 0#64 := by
    apply BitVec.eq_of_getLsbD_eq
    intro i hi
    simp only [BitVec.getLsbD_and, BitVec.getLsbD_not, hi, decide_true, Bool.true_and, BitVec.getLsbD_zero]
    cases x.getLsbD i <;> cases y.getLsbD i <;> rfl
  have h3 : (x &&& y) ||| (x &&& ~~~y) = x := by
    apply BitVec.eq_of_getLsbD_eq
    intro i hi
    simp only [BitVec.getLsbD_and, BitVec.getLsbD_or, BitVec.getLsbD_not, hi, decide_true, Bool.true_and]
    cases x.getLsbD i <;> cases y.getLsbD i <;> rfl
  have h4 : (x &&& y) + (x &&& ~~~y) = x := by rw [BitVec.add_eq_or_of_and_eq_zero _ _ h2, h3]
  rw [h1]
  conv => rhs; rw [show x - (x &&& y) = ((x &&& y) + (x &&& ~~~y)) - (x &&& y) by rw [h4]]
  rw [BitVec.add_comm, BitVec.add_sub_cancel]
theorem ofInt_wrap (x : BitVec 64) : BitVec.ofInt 64 (IntKind.i64.wrap (x.toNat : Int)) = x := by
  apply BitVec.eq_of_toNat_eq
  rw [toNat_ofInt64, IntKind.wrap_i64]
  have := x.isLt
  omega
theorem ofInt_sub64 (a b : Int) : BitVec.ofInt 64 (a - b) = BitVec.ofInt 64 a - BitVec.ofInt 64 b := by
  apply BitVec.eq_of_toNat_eq
  rw [BitVec.toNat_sub, toNat_ofInt64, toNat_ofInt64, toNat_ofInt64]
  omega
theorem wrap_of (a : Int) : wrap64 a = IntKind.i64.wrap ((BitVec.ofInt 64 a).toNat : Int) := by
  rw [toNat_ofInt64, IntKind.wrap_i64]
  unfold wrap64
  omega
theorem andnot_or (a m : Int) : bits .andNot .i64 (bits .or .i64 a m) m = wrap64 (a - bits .and .i64 a m) := by
  show IntKind.i64.wrap ((BitVec.ofInt 64 (IntKind.i64.wrap ((BitVec.ofInt 64 a ||| BitVec.ofInt 64 m).toNat : Int)) &&& ~~~(BitVec.ofInt 64 m)).toNat : Int) = wrap64 (a - IntKind.i64.wrap ((BitVec.ofInt 64 a &&& BitVec.ofInt 64 m).toNat : Int))
  rw [wrap_of, ofInt_sub64, ofInt_wrap, ofInt_wrap, bv_andnot]
theorem noM_X (b : Bd) (k : Int) : noM (wX (onlyM k) b) k = vX k (noM b k) := by unfold wX vX; show noM (bif hasB k 1 then _ else b) k = _; cases hasB k 1 <;> rfl
theorem noM_V (b : Bd) (k : Int) : noM (wV (onlyM k) b) k = vV k (noM b k) := by unfold wV vV; show noM (bif hasB k 2 then _ else b) k = _; cases hasB k 2 <;> rfl
theorem noM_H (b : Bd) (k : Int) : noM (wH (onlyM k) b) k = vH k (noM b k) := by unfold wH vH; show noM (bif hasB k 4 then _ else b) k = _; cases hasB k 4 <;> rfl
theorem noM_P (b : Bd) (k : Int) : noM (wP (onlyM k) b) k = vP k (noM b k) := by unfold wP vP; show noM (bif hasB k 8 then _ else b) k = _; cases hasB k 8 <;> rfl
theorem noM_L (b : Bd) (k : Int) : noM (wL (onlyM k) b) k = vL k (noM b k) := by unfold wL vL; show noM (bif hasB k 16 then _ else b) k = _; cases hasB k 16 <;> rfl
theorem vM_X (b : Bd) (k : Int) : vM (vX k b) k = vX k (vM b k) := by unfold vX; cases hasB k 1 <;> rfl
theorem vM_V (b : Bd) (k : Int) : vM (vV k b) k = vV k (vM b k) := by unfold vV; cases hasB k 2 <;> rfl
theorem vM_H (b : Bd) (k : Int) : vM (vH k b) k = vH k (vM b k) := by unfold vH; cases hasB k 4 <;> rfl
theorem vM_P (b : Bd) (k : Int) : vM (vP k b) k = vP k (vM b k) := by unfold vP; cases hasB k 8 <;> rfl
theorem vM_L (b : Bd) (k : Int) : vM (vL k b) k = vL k (vM b k) := by unfold vL; cases hasB k 16 <;> rfl
theorem noM_M (b : Bd) (k : Int) : noM (wM b (onlyM k)) k = vM b k := by
  show (⟨b.s, b.i, b.g, bits .andNot .i64 (bits .or .i64 b.m k) k, b.x, b.y, b.vx, b.vy, b.hp, b.pw, b.lf⟩ : Bd) = ⟨b.s, b.i, b.g, wrap64 (b.m - bits .and .i64 b.m k), b.x, b.y, b.vx, b.vy, b.hp, b.pw, b.lf⟩
  rw [andnot_or]
theorem without_same (b : Bd) (k : Int) : rwithoutB b k = withoutB b k := by
  unfold rwithoutB withoutB withB
  rw [noM_L, noM_P, noM_H, noM_V, noM_X, noM_M, vM_L, vM_P, vM_H, vM_V, vM_X]

end Go.Proofs.YtpbpgjfdledgoaaGreatDoor

