/-
  systems.Hurt, Age, parts.With, Without. No conditions of their own.
-/
import Derived.Test.YtcjeocibnfoenaaGreatTiF
namespace Go.Proofs.YtcjeocibnfoenaaGreat
open Go.RowKit Go.Joins Go.Deep Go.Sort

theorem Keeps.cellNew {a w : World} (h : Keeps No a w) {g i : Nat} (hb : a.heap.size ≤ g) (v : Value) : Keeps No a (w.setCell ⟨g, i, none⟩ v) := h.setCell (fun hlt => by simp only at hlt; omega) v
/-- an entity's box, and one for a result -/
structure Boxed (w W : World) (gb gr : Nat) (b : Bd) : Prop where
  b : cellsAt W gb 0 11 = some (bdC b)
  ob : Open W gb
  sb : (rowD W gb).size = 11
  or : Open W gr
  sr : (rowD W gr).size = 11
  nb : w.heap.size ≤ gb
  nr : w.heap.size ≤ gr
  ne : gb ≠ gr
  lb : gb < W.heap.size
  lr : gr < W.heap.size
  k : Keeps No w W
theorem Boxed.next {w W W' : World} {gb gr : Nat} {b : Bd} (h : Boxed w W gb gr b) (k : Keeps No W W') : Boxed w W' gb gr b :=
  ⟨k.cellsAt h.b, k.opened h.ob, k.rowSize h.ob h.sb, k.opened h.or, k.rowSize h.or h.sr, h.nb, h.nr, h.ne, Nat.lt_of_lt_of_le h.lb k.size, Nat.lt_of_lt_of_le h.lr k.size, h.k.trans k (fun _ _ h => h)⟩
theorem boxed_new (w : World) (b : Bd) (z : Array Value) (hz : z.size = 11) (t : TypeId) : Boxed w ((w.alloc (.cells (bdC b).toArray t)).alloc (.cells z t)) w.heap.size (w.heap.size + 1) b := by
  refine ⟨by simp [go_sem], by simp [go_sem], by simp [go_sem], by simp [go_sem], by simp [go_sem, hz], Nat.le_refl _, Nat.le_succ _, by omega, by simp; omega, by simp, ((Keeps.refl w).alloc _).alloc _⟩

def hurtB (b : Bd) (n : Int) : Bd × Bool := bif !hasB b.m 4 || decide (n ≤ 0) then (b, true) else bif decide (b.hp ≤ n) then (Bd.zero, false) else (⟨b.s, b.i, b.g, b.m, b.x, b.y, b.vx, b.vy, b.hp - n, b.pw, b.lf⟩, true)
set_option maxRecDepth 100000 in
set_option maxHeartbeats 2000000 in
theorem hurt_any (w : World) (b : Bd) (hb : i64 b.hp) (n : Int) : Calls Tryz.prog 26 #[bdV b, .int .i64 n] w fun e w' => e = .returned (.tuple #[bdV (hurtB b n).1, .bool (hurtB b n).2]) ∧ Keeps No w w' := by
  obtain ⟨hb1, hb2⟩ := hb
  obtain ⟨R, hR⟩ : ∃ R, R = hurtB b n := ⟨_, rfl⟩
  rw [← hR]
  have HR := Lib.hid hR
  clear hR
  have HH := Lib.hid (fun W => has4 W b)
  have HB : Hid (hurtB b n = bif !hasB b.m 4 || decide (n ≤ 0) then (b, true) else bif decide (b.hp ≤ n) then (Bd.zero, false) else (⟨b.s, b.i, b.g, b.m, b.x, b.y, b.vx, b.vy, b.hp - n, b.pw, b.lf⟩, true)) := Lib.hid rfl
  obtain ⟨h4, hh4⟩ : ∃ h, h = hasB b.m 4 := ⟨_, rfl⟩
  rw [← hh4] at HH HB
  clear hh4
  go_enter Tryz.func26, Tryz.ntmps26
  go_upto_region 1 with fail
  refine wp_world ?_
  intro W hW
  have X0 : Hid (Boxed w W w.heap.size (w.heap.size + 1) b) := Lib.hid (by rw [hW]; exact boxed_new w b _ rfl _)
  obtain ⟨gb, hgb⟩ : ∃ g, g = w.heap.size := ⟨_, rfl⟩
  obtain ⟨gr, hgr⟩ : ∃ g, g = w.heap.size + 1 := ⟨_, rfl⟩
  rw [← hgr]
  rw [← hgb]
  rw [← hgr] at X0
  rw [← hgb] at X0
  have c0 := X0.out.b
  clear hW hgb hgr
  go_wp2_with fail
  refine (HH.out W).mono ?_
  rintro e w1 ⟨rfl, hg⟩
  have X := Lib.hid (X0.out.next hg.keeps)
  have cb := X.out.b
  have ob := X.out.ob
  have sb := X.out.sb
  have or := X.out.or
  have sr := X.out.sr
  have ne := X.out.ne
  have ne2 := X.out.ne.symm
  have c6 := cellsAt_cell cb 6 _ rfl
  have c8 := cellsAt_cell cb 8 _ rfl
  simp only [Nat.zero_add] at c6 c8
  clear hg c0 X0 HH
  have hz : (Bd.zero : Bd) = ⟨0, 0, 0, 0, 0, 0, 0, 0, 0, 0, 0⟩ := rfl
  have lr := X.out.lr
  cases h4 with
  | false =>
    have hr2 : R = (b, true) := by rw [HR.out, HB.out]; rfl
    subst hr2
    clear HR HB hz
    go_wp2
    exact bodyPost_ret (v := .tuple #[bdV b, .bool true]) (by simp [results, Tryz.results26, go_sem, *]) rfl ⟨rfl, X.out.k.row X.out.nr _⟩
  | true =>
    by_cases hn : n ≤ 0
    · have hr2 : R = (b, true) := by rw [HR.out, HB.out, decide_eq_true hn]; rfl
      subst hr2
      clear HR HB hz
      go_wp2
      exact bodyPost_ret (v := .tuple #[bdV b, .bool true]) (by simp [results, Tryz.results26, go_sem, *]) rfl ⟨rfl, X.out.k.row X.out.nr _⟩
    · by_cases hp : b.hp ≤ n
      · have hr2 : R = (Bd.zero, false) := by rw [HR.out, HB.out, decide_eq_false hn, decide_eq_true hp]; rfl
        subst hr2
        clear HR HB
        have hnd : decide (n ≤ 0) = false := decide_eq_false hn
        go_wp2
        exact bodyPost_ret (v := .tuple #[bdV Bd.zero, .bool false]) (by simp [results, Tryz.results26, go_sem, *]) rfl ⟨rfl, X.out.k.row X.out.nr _⟩
      · obtain ⟨B, hB⟩ : ∃ B : Bd, B = ⟨b.s, b.i, b.g, b.m, b.x, b.y, b.vx, b.vy, b.hp - n, b.pw, b.lf⟩ := ⟨_, rfl⟩
        have hr2 : R = (B, true) := by rw [HR.out, HB.out, decide_eq_false hn, decide_eq_false hp, hB]; rfl
        subst hr2
        have hnd : decide (n ≤ 0) = false := decide_eq_false hn
        have hpd : decide (b.hp ≤ n) = false := decide_eq_false hp
        have hp1 : (0 : Int) < n := by omega
        have hp2 : n < b.hp := by omega
        have hsub : wrap64 (b.hp - n) = b.hp - n := by unfold wrap64; omega
        have HBB := Lib.hid hB
        have f8 := ob.frozen 8
        clear HR HB hB hz
        go_wp2
        rw [HBB.out]
        exact bodyPost_ret (v := .tuple #[bdV ⟨b.s, b.i, b.g, b.m, b.x, b.y, b.vx, b.vy, b.hp - n, b.pw, b.lf⟩, .bool true]) (by simp [results, Tryz.results26, go_sem, *]) rfl ⟨rfl, (X.out.k.cellNew X.out.nb _).row X.out.nr _⟩
def ageB (b : Bd) : Bd × Bool := bif !hasB b.m 16 then (b, true) else bif decide (b.lf ≤ 1) then (Bd.zero, false) else (⟨b.s, b.i, b.g, b.m, b.x, b.y, b.vx, b.vy, b.hp, b.pw, b.lf - 1⟩, true)
set_option maxRecDepth 100000 in
set_option maxHeartbeats 2000000 in
theorem age_any (w : World) (b : Bd) (hb : i64 b.lf) : Calls Tryz.prog 29 #[bdV b] w fun e w' => e = .returned (.tuple #[bdV (ageB b).1, .bool (ageB b).2]) ∧ Keeps No w w' := by
  obtain ⟨hb1, hb2⟩ := hb
  obtain ⟨R, hR⟩ : ∃ R, R = ageB b := ⟨_, rfl⟩
  rw [← hR]
  have HR := Lib.hid hR
  clear hR
  have HH := Lib.hid (fun W => has16 W b)
  have HB : Hid (ageB b = bif !hasB b.m 16 then (b, true) else bif decide (b.lf ≤ 1) then (Bd.zero, false) else (⟨b.s, b.i, b.g, b.m, b.x, b.y, b.vx, b.vy, b.hp, b.pw, b.lf - 1⟩, true)) := Lib.hid rfl
  obtain ⟨h4, hh4⟩ : ∃ h, h = hasB b.m 16 := ⟨_, rfl⟩
  rw [← hh4] at HH HB
  clear hh4
  go_enter Tryz.func29, Tryz.ntmps29
  go_upto_region 1 with fail
  refine wp_world ?_
  intro W hW
  have X0 : Hid (Boxed w W w.heap.size (w.heap.size + 1) b) := Lib.hid (by rw [hW]; exact boxed_new w b _ rfl _)
  obtain ⟨gb, hgb⟩ : ∃ g, g = w.heap.size := ⟨_, rfl⟩
  obtain ⟨gr, hgr⟩ : ∃ g, g = w.heap.size + 1 := ⟨_, rfl⟩
  rw [← hgr]
  rw [← hgb]
  rw [← hgr] at X0
  rw [← hgb] at X0
  have c0 := X0.out.b
  clear hW hgb hgr
  go_wp2_with fail
  refine (HH.out W).mono ?_
  rintro e w1 ⟨rfl, hg⟩
  have X := Lib.hid (X0.out.next hg.keeps)
  have cb := X.out.b
  have ob := X.out.ob
  have sb := X.out.sb
  have or := X.out.or
  have sr := X.out.sr
  have ne := X.out.ne
  have ne2 := X.out.ne.symm
  have c6 := cellsAt_cell cb 6 _ rfl
  have c10 := cellsAt_cell cb 10 _ rfl
  simp only [Nat.zero_add] at c6 c10
  clear hg c0 X0 HH
  have hz : (Bd.zero : Bd) = ⟨0, 0, 0, 0, 0, 0, 0, 0, 0, 0, 0⟩ := rfl
  have lr := X.out.lr
  cases h4 with
  | false =>
    have hr2 : R = (b, true) := by rw [HR.out, HB.out]; rfl
    subst hr2
    clear HR HB hz
    go_wp2
    exact bodyPost_ret (v := .tuple #[bdV b, .bool true]) (by simp [results, Tryz.results29, go_sem, *]) rfl ⟨rfl, X.out.k.row X.out.nr _⟩
  | true =>
    by_cases hp : b.lf ≤ 1
    · have hr2 : R = (Bd.zero, false) := by rw [HR.out, HB.out, decide_eq_true hp]; rfl
      subst hr2
      clear HR HB
      go_wp2
      exact bodyPost_ret (v := .tuple #[bdV Bd.zero, .bool false]) (by simp [results, Tryz.results29, go_sem, *]) rfl ⟨rfl, X.out.k.row X.out.nr _⟩
    · obtain ⟨B, hB⟩ : ∃ B : Bd, B = ⟨b.s, b.i, b.g, b.m, b.x, b.y, b.vx, b.vy, b.hp, b.pw, b.lf - 1⟩ := ⟨_, rfl⟩
      have hr2 : R = (B, true) := by rw [HR.out, HB.out, decide_eq_false hp, hB]; rfl
      subst hr2
      have hpd : decide (b.lf ≤ 1) = false := decide_eq_false hp
      have hp2 : 1 < b.lf := by omega
      have hsub : wrap64 (b.lf - 1) = b.lf - 1 := by unfold wrap64; omega
      have HBB := Lib.hid hB
      have f10 := ob.frozen 10
      clear HR HB hB hz
      go_wp2
      rw [HBB.out]
      exact bodyPost_ret (v := .tuple #[bdV ⟨b.s, b.i, b.g, b.m, b.x, b.y, b.vx, b.vy, b.hp, b.pw, b.lf - 1⟩, .bool true]) (by simp [results, Tryz.results29, go_sem, *]) rfl ⟨rfl, (X.out.k.cellNew X.out.nb _).row X.out.nr _⟩
end Go.Proofs.YtcjeocibnfoenaaGreat
