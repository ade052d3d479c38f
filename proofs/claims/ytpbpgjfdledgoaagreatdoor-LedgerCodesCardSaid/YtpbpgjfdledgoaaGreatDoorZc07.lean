/-
  Texts in one: TiD, TiF, TiG, TiH, TiI, TiJ, TiL. No conditions of their own.
-/
import Derived.Test.YtpbpgjfdledgoaaGreatDoorZc06
import Derived.Shelf.SlSortCmp.QuietGrown
import Derived.Lib.SmallJoins

/-
  The order that entities are sorted by, and insertion sort over a row that is sorted. No conditions of their own.
-/
namespace Go.Proofs.YtpbpgjfdledgoaaGreatDoor
open Go.RowKit Go.Joins Go.Deep Go.Sort

theorem mixed : Tryz.prog.follows .mixedOrders = true := by kernel_rfl
/-- no one stands behind one that it comes ahead of -/
def SortedN (l : List Nam) : Prop := l.Pairwise fun a b => nlt b a = false
abbrev SortedB (l : List Bd) : Prop := SortedN (l.map Bd.id)
theorem SortedB.at {l : List Bd} (h : SortedB l) {i j : Nat} (hij : i < j) (hj : j < l.length) : nlt l[j].id (l[i]'(by omega)).id = false := by
  have := List.pairwise_iff_getElem.1 h i j (by simp; omega) (by simpa using hj) hij
  simpa using this
section
variable {w : World} {blk off cap : Nat} {l : List Bd}
end
end Go.Proofs.YtpbpgjfdledgoaaGreatDoor

/-
  slices.Clone, SortStableFunc, parts.Sorted over entities that are sorted, parts.Has. No conditions of their own.
-/
namespace Go.Proofs.YtpbpgjfdledgoaaGreatDoor
open Go.RowKit Go.Joins Go.Deep Go.Sort

/-- a row of the call's own that holds l -/
abbrev OwnOf {α : Type} (C : Codec α) (e : TypeId) (w : World) (base : Nat) (v : Value) (l : List α) : Prop := w.ownsRow base e C.size v l.length (rowsOf C l)
theorem OwnOf.reads {α : Type} {C : Codec α} {e : TypeId} {w : World} {base : Nat} {v : Value} {l : List α} (h : OwnOf C e w base v l) : RdOf C w v l := Reads.ofOwn h (rowsOf_ones C l)
theorem RdOf.slice {α : Type} {C : Codec α} {w : World} {v : Value} {l : List α} (h : RdOf C w v l) : ∃ a c, v = .slice a l.length c := Reads.slice h

set_option maxRecDepth 100000 in
theorem hasG_any (w : World) (b : Bd) (c : Int) (h : bits .and .i64 b.m c = (bif hasB b.m c then c else 0)) (h0 : ¬ c = 0) : Calls Tryz.prog 199 #[bdV b, .int .i64 c] w fun e w' => e = .returned (.bool (hasB b.m c)) ∧ Grown w w' := by
  cases hb : hasB b.m c with
  | true =>
    rw [hb, cond_true] at h
    clear hb
    go_enter Tryz.func199, Tryz.ntmps199
    go_wp2
    go_ret
    exact ⟨by simp, (Grown.same w).alloc _⟩
  | false =>
    rw [hb, cond_false] at h
    have h1 : ((0 : Int) == c) = false := by rw [beq_eq_false_iff_ne]; omega
    clear hb
    go_enter Tryz.func199, Tryz.ntmps199
    go_wp2
    go_ret
    exact ⟨by simp, (Grown.same w).alloc _⟩
theorem has1 (w : World) (b : Bd) : Calls Tryz.prog 199 #[bdV b, .int .i64 1] w fun e w' => e = .returned (.bool (hasB b.m 1)) ∧ Grown w w' := hasG_any w b 1 (has_spelled b.m).1 (by decide)
theorem has2 (w : World) (b : Bd) : Calls Tryz.prog 199 #[bdV b, .int .i64 2] w fun e w' => e = .returned (.bool (hasB b.m 2)) ∧ Grown w w' := hasG_any w b 2 (has_spelled b.m).2.1 (by decide)
theorem has4 (w : World) (b : Bd) : Calls Tryz.prog 199 #[bdV b, .int .i64 4] w fun e w' => e = .returned (.bool (hasB b.m 4)) ∧ Grown w w' := hasG_any w b 4 (has_spelled b.m).2.2.1 (by decide)
theorem has8 (w : World) (b : Bd) : Calls Tryz.prog 199 #[bdV b, .int .i64 8] w fun e w' => e = .returned (.bool (hasB b.m 8)) ∧ Grown w w' := hasG_any w b 8 (has_spelled b.m).2.2.2.1 (by decide)
theorem has16 (w : World) (b : Bd) : Calls Tryz.prog 199 #[bdV b, .int .i64 16] w fun e w' => e = .returned (.bool (hasB b.m 16)) ∧ Grown w w' := hasG_any w b 16 (has_spelled b.m).2.2.2.2 (by decide)
end Go.Proofs.YtpbpgjfdledgoaaGreatDoor

/-
  systems.Hurt, Age, parts.With, Without. No conditions of their own.
-/
namespace Go.Proofs.YtpbpgjfdledgoaaGreatDoor
open Go.RowKit Go.Joins Go.Deep Go.Sort

theorem Keeps.cellNew {a w : World} (h : Keeps No a w) {g i : Nat} (hb : a.heap.size ≤ g) (v : Value) : Keeps No a (w.setCell ⟨g, i, none⟩ v) := h.setCell (fun hlt => by simp only at hlt; omega) v
/-- an entity's box, and one for a result -/
structure Boxed (w W : World) (gb gr : Nat) (b : Bd) : Prop where
  b : cellsAt W gb 0 11 = some (bdC b)
  ob : Open W gb
  sb : (rowD W gb).size = 11
  or : Open W gr
  sr : (rowD W gr).size = 11
  nb : w.heap.size ≤ gb
  nr : w.heap.size ≤ gr
  ne : gb ≠ gr
  lb : gb < W.heap.size
  lr : gr < W.heap.size
  k : Keeps No w W
theorem Boxed.next {w W W' : World} {gb gr : Nat} {b : Bd} (h : Boxed w W gb gr b) (k : Keeps No W W') : Boxed w W' gb gr b :=
  ⟨k.cellsAt h.b, k.opened h.ob, k.rowSize h.ob h.sb, k.opened h.or, k.rowSize h.or h.sr, h.nb, h.nr, h.ne, Nat.lt_of_lt_of_le h.lb k.size, Nat.lt_of_lt_of_le h.lr k.size, h.k.trans k (fun _ _ h => h)⟩
end Go.Proofs.YtpbpgjfdledgoaaGreatDoor

/-
  parts.With, Without. No conditions of their own.
-/
namespace Go.Proofs.YtpbpgjfdledgoaaGreatDoor
open Go.RowKit Go.Joins Go.Deep Go.Sort

theorem cells_set {W : World} {g : Nat} {l l2 : List Value} (i : Nat) (v : Value) (h : cellsAt W g 0 11 = some l) (hl : l.set i v = l2) : cellsAt (W.setCell ⟨g, i, none⟩ v) g 0 11 = some l2 := by
  rw [cellsAt_setCell_at, h, Option.map_some]
  simp [← hl]
theorem Boxed.set {w W : World} {gb gr : Nat} {b b2 : Bd} (h : Boxed w W gb gr b) (i : Nat) (v : Value) (hl : (bdC b).set i v = bdC b2) : Boxed w (W.setCell ⟨gb, i, none⟩ v) gb gr b2 :=
  ⟨cells_set i v h.b hl, by rw [open_setCell]; exact h.ob, by rw [rowD_setCell_at]; simpa using h.sb, by rw [open_setCell]; exact h.or, by rw [rowD_setCell_far _ _ _ _ _ h.ne.symm]; exact h.sr, h.nb, h.nr, h.ne, by simpa using h.lb, by simpa using h.lr, h.k.cellNew h.nb _⟩
/-- two entities' boxes, and one for a result -/
structure BoxW (w W : World) (gb gc gr : Nat) (b c : Bd) : Prop where
  x : Boxed w W gb gr b
  c : cellsAt W gc 0 11 = some (bdC c)
  oc : Open W gc
  ne : gb ≠ gc
theorem BoxW.next {w W W' : World} {gb gc gr : Nat} {b c : Bd} (h : BoxW w W gb gc gr b c) (k : Keeps No W W') : BoxW w W' gb gc gr b c := ⟨h.x.next k, k.cellsAt h.c, k.opened h.oc, h.ne⟩
theorem BoxW.set {w W : World} {gb gc gr : Nat} {b b2 c : Bd} (h : BoxW w W gb gc gr b c) (i : Nat) (v : Value) (hl : (bdC b).set i v = bdC b2) : BoxW w (W.setCell ⟨gb, i, none⟩ v) gb gc gr b2 c :=
  ⟨h.x.set i v hl, by rw [cellsAt_setCell_far _ _ _ _ _ _ _ h.ne.symm]; exact h.c, by rw [open_setCell]; exact h.oc, h.ne⟩
def wM (b c : Bd) : Bd := ⟨b.s, b.i, b.g, bits .or .i64 b.m c.m, b.x, b.y, b.vx, b.vy, b.hp, b.pw, b.lf⟩
def wX (c b : Bd) : Bd := bif hasB c.m 1 then ⟨b.s, b.i, b.g, b.m, c.x, c.y, b.vx, b.vy, b.hp, b.pw, b.lf⟩ else b
def wP (c b : Bd) : Bd := bif hasB c.m 8 then ⟨b.s, b.i, b.g, b.m, b.x, b.y, b.vx, b.vy, b.hp, c.pw, b.lf⟩ else b
def wL (c b : Bd) : Bd := bif hasB c.m 16 then ⟨b.s, b.i, b.g, b.m, b.x, b.y, b.vx, b.vy, b.hp, b.pw, c.lf⟩ else b
end Go.Proofs.YtpbpgjfdledgoaaGreatDoor

/-
  parts.Without, systems.Obey. No conditions of their own.
-/
namespace Go.Proofs.YtpbpgjfdledgoaaGreatDoor
open Go.RowKit Go.Joins Go.Deep Go.Sort

set_option maxRecDepth 100000 in
theorem run_neqID (x1 x2 x3 y1 y2 y3 : Int) (w : World) : (binOp .neq 23 (.agg #[.int .i64 x1, .int .i64 x2, .int .i64 x3]) (.agg #[.int .i64 y1, .int .i64 y2, .int .i64 y3])).run Tryz.prog w = .ok (.bool (!neq ⟨x1, x2, x3⟩ ⟨y1, y2, y3⟩)) w := by
  unfold neq
  by_cases h1 : x1 = y1 <;> by_cases h2 : x2 = y2 <;> by_cases h3 : x3 = y3 <;> simp [go_sem, h1, h2, h3]

abbrev cmV (c : Cm) : Value := .agg #[.int .i64 c.k, .int .i64 c.s, .int .i64 c.i, .int .i64 c.g, .int .i64 c.b.s, .int .i64 c.b.i, .int .i64 c.b.g, .int .i64 c.b.m, .int .i64 c.b.x, .int .i64 c.b.y, .int .i64 c.b.vx, .int .i64 c.b.vy, .int .i64 c.b.hp, .int .i64 c.b.pw, .int .i64 c.b.lf, .int .i64 c.m]
end Go.Proofs.YtpbpgjfdledgoaaGreatDoor

/-
  parts.Find, hedgerowref09.Before, Find. No conditions of their own.
-/
namespace Go.Proofs.YtpbpgjfdledgoaaGreatDoor
open Go.RowKit Go.Joins Go.Deep Go.Sort

theorem cellsAt_part {w : World} {b o n : Nat} {l : List Value} (h : cellsAt w b o n = some l) (a : Nat) (m : List Value) (hm : m = (l.drop a).take m.length) (h0 : 0 < m.length) : cellsAt w b (o + a) m.length = some m := by
  refine cellsAt_of (fun j v hv => ?_) h0
  have hj := (List.getElem?_eq_some_iff.1 hv).1
  rw [Nat.add_assoc]
  refine cellsAt_cell h (a + j) v ?_
  rw [hm, List.getElem?_take_of_lt hj, List.getElem?_drop] at hv
  exact hv

end Go.Proofs.YtpbpgjfdledgoaaGreatDoor

/-
  The leaves of the document's program: Clamp, half, Bit, Far, near, into. No conditions of their own.
-/
namespace Go.Proofs.YtpbpgjfdledgoaaGreatDoor
open Go.RowKit Go.Joins Go.Deep Go.Sort

theorem half_any (w : World) (n : Int) (hn : i64 n) : Calls Tryz.prog 257 #[.int .i64 n] w fun e w' => e = .returned (.int .i64 (n / 2)) ∧ w' = w := by
  obtain ⟨h1, h2⟩ := hn
  by_cases h : n < 0
  · have hd : decide (n < 0) = true := decide_eq_true h
    by_cases ho : n % 2 = 0
    · have hm : n.tmod 2 = 0 := by rw [Int.tmod_eq_emod]; split <;> omega
      have hq : n.tdiv 2 = n / 2 := by rw [Int.tdiv_eq_ediv]; split <;> omega
      obtain ⟨q, hq2⟩ : ∃ q, q = n / 2 := ⟨_, rfl⟩
      rw [← hq2] at hq ⊢
      have hq3 : -9223372036854775808 ≤ q := by omega
      have hq4 : q ≤ 9223372036854775807 := by omega
      clear hq2 ho
      go_enter Tryz.func257, Tryz.ntmps257
      go_wp2
      go_ret
      exact ⟨rfl, rfl⟩
    · have hm : n.tmod 2 = -1 := by rw [Int.tmod_eq_emod]; split <;> omega
      have hq : (n - 1).tdiv 2 = n / 2 := by rw [Int.tdiv_eq_ediv]; split <;> omega
      obtain ⟨q, hq2⟩ : ∃ q, q = n / 2 := ⟨_, rfl⟩
      rw [← hq2] at hq ⊢
      have hq3 : -9223372036854775808 ≤ q := by omega
      have hq4 : q ≤ 9223372036854775807 := by omega
      have hn1 : -9223372036854775807 ≤ n := by omega
      clear hq2 ho
      go_enter Tryz.func257, Tryz.ntmps257
      go_wp2
      go_ret
      exact ⟨rfl, rfl⟩
  · have hd : decide (n < 0) = false := decide_eq_false h
    have h0 : 0 ≤ n := by omega
    have hq : n.tdiv 2 = n / 2 := Int.tdiv_eq_ediv_of_nonneg h0
    obtain ⟨q, hq2⟩ : ∃ q, n / 2 = q := ⟨_, rfl⟩
    rw [hq2] at hq ⊢
    have hq3 : 0 ≤ q := by omega
    have hq4 : q ≤ 9223372036854775807 := by omega
    go_enter Tryz.func257, Tryz.ntmps257
    go_wp2
    go_ret
    exact ⟨rfl, rfl⟩
theorem half_ok {n : Int} (h : i64 n) : i64 (n / 2) := by unfold i64 at *; omega
def bitC (c : Int) : Prop := c = 1 ∨ c = 2 ∨ c = 4 ∨ c = 8 ∨ c = 16
set_option maxHeartbeats 1000000 in
theorem bit_any (w : World) (m c : Int) (hm : i64 m) (hc : bitC c) : Calls Tryz.prog 197 #[.int .i64 m, .int .i64 c] w fun e w' => e = .returned (.bool (hasB m c)) ∧ w' = w := by
  have HM := Lib.hid hm
  have HC := Lib.hid hc
  clear hm hc
  go_enter Tryz.func197, Tryz.ntmps197
  go_wp2_with fail
  go_loopw [0, 1] (fun s0 s1 wr => ∃ x d : Int, s0 = .int .i64 x ∧ s1 = .int .i64 d ∧ i64 x ∧ bitC d ∧ hasB x d = hasB m c ∧ w = wr) (fun _ s1 _ => (intOf s1).toNat)
  case atStart => exact ⟨m, c, rfl, rfl, HM.out, HC.out, rfl, rfl⟩
  case round =>
    obtain ⟨x, d, rfl, rfl, hx, hd, hh, rfl⟩ := hrel
    have HX := Lib.hid hx
    have HH := Lib.hid hh
    have HF := Lib.hid (half_any w x hx)
    have HK := Lib.hid (half_ok hx)
    obtain ⟨hx1, hx2⟩ := hx
    clear hh
    obtain ⟨q, hq⟩ : ∃ q, q = x / 2 := ⟨_, rfl⟩
    have HQ := Lib.hid hq
    rw [← hq] at HF HK
    clear hq
    rcases hd with rfl | rfl | rfl | rfl | rfl
    · by_cases ho : x % 2 = 0
      · have e1 : Hid (hasB m c = false) := Lib.hid (by rw [← HH.out]; unfold hasB; rw [Int.ediv_one]; exact decide_eq_false (by omega))
        have hmm : x.tmod 2 = 0 := by rw [Int.tmod_eq_emod]; split <;> omega
        clear ho
        go_wp2
        go_ret
        exact ⟨by rw [e1.out]; rfl, rfl⟩
      · have e1 : Hid (hasB m c = true) := Lib.hid (by rw [← HH.out]; unfold hasB; rw [Int.ediv_one]; exact decide_eq_true (by omega))
        have hmm : x.tmod 2 = 1 ∨ x.tmod 2 = -1 := by rw [Int.tmod_eq_emod]; split <;> omega
        clear ho
        rcases hmm with hmm | hmm
        · go_wp2
          go_ret
          exact ⟨by rw [e1.out]; rfl, rfl⟩
        · go_wp2
          go_ret
          exact ⟨by rw [e1.out]; rfl, rfl⟩
    all_goals
      go_wp2_with fail
      refine HF.out.mono ?_
      rintro e w1 ⟨rfl, h1⟩
      have h1 := h1.symm
      subst h1
      go_wp2
      go_roundw
      case measure => simp [intOf]
    case rel => exact ⟨q, 1, rfl, rfl, HK.out, .inl rfl, by rw [← HH.out, HQ.out]; unfold hasB; congr 1; apply propext; omega, by first | rfl | trivial⟩
    case rel => exact ⟨q, 2, rfl, rfl, HK.out, .inr (.inl rfl), by rw [← HH.out, HQ.out]; unfold hasB; congr 1; apply propext; omega, by first | rfl | trivial⟩
    case rel => exact ⟨q, 4, rfl, rfl, HK.out, .inr (.inr (.inl rfl)), by rw [← HH.out, HQ.out]; unfold hasB; congr 1; apply propext; omega, by first | rfl | trivial⟩
    case rel => exact ⟨q, 8, rfl, rfl, HK.out, .inr (.inr (.inr (.inl rfl))), by rw [← HH.out, HQ.out]; unfold hasB; congr 1; apply propext; omega, by first | rfl | trivial⟩
end Go.Proofs.YtpbpgjfdledgoaaGreatDoor

