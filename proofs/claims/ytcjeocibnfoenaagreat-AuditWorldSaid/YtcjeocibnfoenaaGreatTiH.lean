/-
  parts.With, Without. No conditions of their own.
-/
import Derived.Test.YtcjeocibnfoenaaGreatTiG
namespace Go.Proofs.YtcjeocibnfoenaaGreat
open Go.RowKit Go.Joins Go.Deep Go.Sort

theorem cells_set {W : World} {g : Nat} {l l2 : List Value} (i : Nat) (v : Value) (h : cellsAt W g 0 11 = some l) (hl : l.set i v = l2) : cellsAt (W.setCell ⟨g, i, none⟩ v) g 0 11 = some l2 := by
  rw [cellsAt_setCell_at, h, Option.map_some]
  simp [← hl]
theorem Boxed.set {w W : World} {gb gr : Nat} {b b2 : Bd} (h : Boxed w W gb gr b) (i : Nat) (v : Value) (hl : (bdC b).set i v = bdC b2) : Boxed w (W.setCell ⟨gb, i, none⟩ v) gb gr b2 :=
  ⟨cells_set i v h.b hl, by rw [open_setCell]; exact h.ob, by rw [rowD_setCell_at]; simpa using h.sb, by rw [open_setCell]; exact h.or, by rw [rowD_setCell_far _ _ _ _ _ h.ne.symm]; exact h.sr, h.nb, h.nr, h.ne, by simpa using h.lb, by simpa using h.lr, h.k.cellNew h.nb _⟩
/-- two entities' boxes, and one for a result -/
structure BoxW (w W : World) (gb gc gr : Nat) (b c : Bd) : Prop where
  x : Boxed w W gb gr b
  c : cellsAt W gc 0 11 = some (bdC c)
  oc : Open W gc
  ne : gb ≠ gc
theorem BoxW.next {w W W' : World} {gb gc gr : Nat} {b c : Bd} (h : BoxW w W gb gc gr b c) (k : Keeps No W W') : BoxW w W' gb gc gr b c := ⟨h.x.next k, k.cellsAt h.c, k.opened h.oc, h.ne⟩
theorem BoxW.set {w W : World} {gb gc gr : Nat} {b b2 c : Bd} (h : BoxW w W gb gc gr b c) (i : Nat) (v : Value) (hl : (bdC b).set i v = bdC b2) : BoxW w (W.setCell ⟨gb, i, none⟩ v) gb gc gr b2 c :=
  ⟨h.x.set i v hl, by rw [cellsAt_setCell_far _ _ _ _ _ _ _ h.ne.symm]; exact h.c, by rw [open_setCell]; exact h.oc, h.ne⟩
def wM (b c : Bd) : Bd := ⟨b.s, b.i, b.g, bits .or .i64 b.m c.m, b.x, b.y, b.vx, b.vy, b.hp, b.pw, b.lf⟩
def wX (c b : Bd) : Bd := bif hasB c.m 1 then ⟨b.s, b.i, b.g, b.m, c.x, c.y, b.vx, b.vy, b.hp, b.pw, b.lf⟩ else b
def wV (c b : Bd) : Bd := bif hasB c.m 2 then ⟨b.s, b.i, b.g, b.m, b.x, b.y, c.vx, c.vy, b.hp, b.pw, b.lf⟩ else b
def wH (c b : Bd) : Bd := bif hasB c.m 4 then ⟨b.s, b.i, b.g, b.m, b.x, b.y, b.vx, b.vy, c.hp, b.pw, b.lf⟩ else b
def wP (c b : Bd) : Bd := bif hasB c.m 8 then ⟨b.s, b.i, b.g, b.m, b.x, b.y, b.vx, b.vy, b.hp, c.pw, b.lf⟩ else b
def wL (c b : Bd) : Bd := bif hasB c.m 16 then ⟨b.s, b.i, b.g, b.m, b.x, b.y, b.vx, b.vy, b.hp, b.pw, c.lf⟩ else b
def withB (b c : Bd) : Bd := wL c (wP c (wH c (wV c (wX c (wM b c)))))

set_option maxRecDepth 100000 in
set_option maxHeartbeats 4000000 in
theorem with_any (w : World) (b c : Bd) : Calls Tryz.prog 85 #[bdV b, bdV c] w fun e w' => e = .returned (bdV (withB b c)) ∧ Keeps No w w' := by
  obtain ⟨R, hR⟩ : ∃ R, R = withB b c := ⟨_, rfl⟩
  rw [← hR]
  have HR := Lib.hid hR
  clear hR
  go_enter Tryz.func85, Tryz.ntmps85
  go_upto_region 1 with fail
  refine wp_world ?_
  intro W hW
  have X0 : Hid (BoxW w W w.heap.size (w.heap.size + 1) (w.heap.size + 2) b c) := Lib.hid (by
    rw [hW]
    refine ⟨⟨by simp [go_sem], by simp [go_sem], by simp [go_sem], by simp [go_sem], by simp [go_sem], Nat.le_refl _, by omega, by omega, by simp; omega, by simp, (((Keeps.refl w).alloc _).alloc _).alloc _⟩, by simp [go_sem], by simp [go_sem], by omega⟩)
  obtain ⟨gb, hgb⟩ : ∃ g, g = w.heap.size := ⟨_, rfl⟩
  obtain ⟨gc, hgc⟩ : ∃ g, g = w.heap.size + 1 := ⟨_, rfl⟩
  obtain ⟨gr, hgr⟩ : ∃ g, g = w.heap.size + 2 := ⟨_, rfl⟩
  have hgr' : w.heap.size + 1 + 1 = gr := hgr.symm
  try rw [hgr']
  try rw [← hgr]
  rw [← hgc]
  rw [← hgb]
  rw [← hgr] at X0
  rw [← hgc] at X0
  rw [← hgb] at X0
  clear hW hgb hgc hgr hgr'
  have cb := X0.out.x.b
  have cc := X0.out.c
  have f3 := X0.out.x.ob.frozen 3
  have c3 := cellsAt_cell cb 3 _ rfl
  have d3 := cellsAt_cell cc 3 _ rfl
  simp only [Nat.zero_add] at c3 d3
  obtain ⟨b0, hb0⟩ : ∃ b0, b0 = wM b c := ⟨_, rfl⟩
  have HB0 := Lib.hid hb0
  have X1 : Hid (BoxW w (W.setCell ⟨gb, 3, none⟩ (.int .i64 (bits .or .i64 b.m c.m))) gb gc gr b0 c) := Lib.hid (X0.out.set 3 _ (by rw [hb0]; rfl))
  clear hb0
  have cc1 := X1.out.c
  go_wp2_with fail
  refine (has1 _ c).mono ?_
  rintro e w1 ⟨rfl, hg⟩
  have Y1 := Lib.hid (X1.out.next hg.keeps)
  clear hg cc1 cb f3 c3 d3
  obtain ⟨b1, hb1⟩ : ∃ q, q = wX c b0 := ⟨_, rfl⟩
  have Hb1 := Lib.hid hb1
  clear hb1
  obtain ⟨k1, hk1⟩ : ∃ q, q = hasB c.m 1 := ⟨_, rfl⟩
  have HK1 := Lib.hid hk1
  rw [← hk1]
  clear hk1
  go_upto_if 12 with fail
  go_cut [4] (fun s4 wx => s4 = .pointer (some ⟨gr, 0, none⟩) ∧ BoxW w wx gb gc gr b1 c)
  case first =>
    cases k1 with
    | true =>
      have he : b1 = ⟨b0.s, b0.i, b0.g, b0.m, c.x, c.y, b0.vx, b0.vy, b0.hp, b0.pw, b0.lf⟩ := by rw [Hb1.out]; unfold wX; rw [← HK1.out]; rfl
      have e4 := cellsAt_cell Y1.out.c 4 _ rfl
      have f4 := Y1.out.x.ob.frozen 4
      have z4 := cellsAt_cell Y1.out.x.b 4 _ rfl
      have e5 := cellsAt_cell Y1.out.c 5 _ rfl
      have f5 := Y1.out.x.ob.frozen 5
      have z5 := cellsAt_cell Y1.out.x.b 5 _ rfl
      simp only [Nat.zero_add] at e4 z4 e5 z5
      go_wp2_with fail
      go_region
      all_goals go_wp2_with fail
      all_goals go_meet
      all_goals
        refine ⟨rfl, ?_⟩
        have hk := Y1.out.next ((Keeps.refl (S := No) w1).drew)
        have hs1 := hk.set 4 (.int .i64 c.x) (b2 := ⟨b0.s, b0.i, b0.g, b0.m, c.x, b0.y, b0.vx, b0.vy, b0.hp, b0.pw, b0.lf⟩) rfl
        have hs2 := hs1.set 5 (.int .i64 c.y) (b2 := ⟨b0.s, b0.i, b0.g, b0.m, c.x, c.y, b0.vx, b0.vy, b0.hp, b0.pw, b0.lf⟩) rfl
        rw [he]
        exact hs2
    | false =>
      have he : b1 = b0 := by rw [Hb1.out]; unfold wX; rw [← HK1.out]; rfl
      go_wp2_with fail
      go_meet
      exact ⟨rfl, by rw [he]; exact Y1.out⟩
  case rest =>
  obtain ⟨rfl, hX⟩ := hcut
  obtain ⟨v1, hv⟩ : ∃ x : World, x = wc := ⟨_, rfl⟩
  subst hv
  have X2 := Lib.hid hX
  have cc1 := hX.c
  clear hX Y1
  go_wp2_with fail
  refine (has2 _ c).mono ?_
  rintro e w2 ⟨rfl, hg⟩
  have Y2 := Lib.hid (X2.out.next hg.keeps)
  clear hg cc1
  obtain ⟨b2, hb2⟩ : ∃ q, q = wV c b1 := ⟨_, rfl⟩
  have Hb2 := Lib.hid hb2
  clear hb2
  obtain ⟨k2, hk2⟩ : ∃ q, q = hasB c.m 2 := ⟨_, rfl⟩
  have HK2 := Lib.hid hk2
  rw [← hk2]
  clear hk2
  go_upto_if 20 with fail
  go_cut [4] (fun s4 wx => s4 = .pointer (some ⟨gr, 0, none⟩) ∧ BoxW w wx gb gc gr b2 c)
  case first =>
    cases k2 with
    | true =>
      have he : b2 = ⟨b1.s, b1.i, b1.g, b1.m, b1.x, b1.y, c.vx, c.vy, b1.hp, b1.pw, b1.lf⟩ := by rw [Hb2.out]; unfold wV; rw [← HK2.out]; rfl
      have e6 := cellsAt_cell Y2.out.c 6 _ rfl
      have f6 := Y2.out.x.ob.frozen 6
      have z6 := cellsAt_cell Y2.out.x.b 6 _ rfl
      have e7 := cellsAt_cell Y2.out.c 7 _ rfl
      have f7 := Y2.out.x.ob.frozen 7
      have z7 := cellsAt_cell Y2.out.x.b 7 _ rfl
      simp only [Nat.zero_add] at e6 z6 e7 z7
      go_wp2_with fail
      go_region
      all_goals go_wp2_with fail
      all_goals go_meet
      all_goals
        refine ⟨rfl, ?_⟩
        have hk := Y2.out.next ((Keeps.refl (S := No) w2).drew)
        have hs1 := hk.set 6 (.int .i64 c.vx) (b2 := ⟨b1.s, b1.i, b1.g, b1.m, b1.x, b1.y, c.vx, b1.vy, b1.hp, b1.pw, b1.lf⟩) rfl
        have hs2 := hs1.set 7 (.int .i64 c.vy) (b2 := ⟨b1.s, b1.i, b1.g, b1.m, b1.x, b1.y, c.vx, c.vy, b1.hp, b1.pw, b1.lf⟩) rfl
        rw [he]
        exact hs2
    | false =>
      have he : b2 = b1 := by rw [Hb2.out]; unfold wV; rw [← HK2.out]; rfl
      go_wp2_with fail
      go_meet
      exact ⟨rfl, by rw [he]; exact Y2.out⟩
  case rest =>
  obtain ⟨rfl, hX⟩ := hcut
  obtain ⟨v2, hv⟩ : ∃ x : World, x = wc := ⟨_, rfl⟩
  subst hv
  have X3 := Lib.hid hX
  have cc1 := hX.c
  clear hX Y2
  go_wp2_with fail
  refine (has4 _ c).mono ?_
  rintro e w3 ⟨rfl, hg⟩
  have Y3 := Lib.hid (X3.out.next hg.keeps)
  clear hg cc1
  obtain ⟨b3, hb3⟩ : ∃ q, q = wH c b2 := ⟨_, rfl⟩
  have Hb3 := Lib.hid hb3
  clear hb3
  obtain ⟨k3, hk3⟩ : ∃ q, q = hasB c.m 4 := ⟨_, rfl⟩
  have HK3 := Lib.hid hk3
  rw [← hk3]
  clear hk3
  go_upto_if 28 with fail
  go_cut [4] (fun s4 wx => s4 = .pointer (some ⟨gr, 0, none⟩) ∧ BoxW w wx gb gc gr b3 c)
  case first =>
    cases k3 with
    | true =>
      have he : b3 = ⟨b2.s, b2.i, b2.g, b2.m, b2.x, b2.y, b2.vx, b2.vy, c.hp, b2.pw, b2.lf⟩ := by rw [Hb3.out]; unfold wH; rw [← HK3.out]; rfl
      have e8 := cellsAt_cell Y3.out.c 8 _ rfl
      have f8 := Y3.out.x.ob.frozen 8
      have z8 := cellsAt_cell Y3.out.x.b 8 _ rfl
      simp only [Nat.zero_add] at e8 z8
      go_wp2_with fail
      go_meet
      refine ⟨rfl, ?_⟩
      have hs1 := Y3.out.set 8 (.int .i64 c.hp) (b2 := ⟨b2.s, b2.i, b2.g, b2.m, b2.x, b2.y, b2.vx, b2.vy, c.hp, b2.pw, b2.lf⟩) rfl
      rw [he]
      exact hs1
    | false =>
      have he : b3 = b2 := by rw [Hb3.out]; unfold wH; rw [← HK3.out]; rfl
      go_wp2_with fail
      go_meet
      exact ⟨rfl, by rw [he]; exact Y3.out⟩
  case rest =>
  obtain ⟨rfl, hX⟩ := hcut
  obtain ⟨v3, hv⟩ : ∃ x : World, x = wc := ⟨_, rfl⟩
  subst hv
  have X4 := Lib.hid hX
  have cc1 := hX.c
  clear hX Y3
  go_wp2_with fail
  refine (has8 _ c).mono ?_
  rintro e w4 ⟨rfl, hg⟩
  have Y4 := Lib.hid (X4.out.next hg.keeps)
  clear hg cc1
  obtain ⟨b4, hb4⟩ : ∃ q, q = wP c b3 := ⟨_, rfl⟩
  have Hb4 := Lib.hid hb4
  clear hb4
  obtain ⟨k4, hk4⟩ : ∃ q, q = hasB c.m 8 := ⟨_, rfl⟩
  have HK4 := Lib.hid hk4
  rw [← hk4]
  clear hk4
  go_upto_if 33 with fail
  go_cut [4] (fun s4 wx => s4 = .pointer (some ⟨gr, 0, none⟩) ∧ BoxW w wx gb gc gr b4 c)
  case first =>
    cases k4 with
    | true =>
      have he : b4 = ⟨b3.s, b3.i, b3.g, b3.m, b3.x, b3.y, b3.vx, b3.vy, b3.hp, c.pw, b3.lf⟩ := by rw [Hb4.out]; unfold wP; rw [← HK4.out]; rfl
      have e9 := cellsAt_cell Y4.out.c 9 _ rfl
      have f9 := Y4.out.x.ob.frozen 9
      have z9 := cellsAt_cell Y4.out.x.b 9 _ rfl
      simp only [Nat.zero_add] at e9 z9
      go_wp2_with fail
      go_meet
      refine ⟨rfl, ?_⟩
      have hs1 := Y4.out.set 9 (.int .i64 c.pw) (b2 := ⟨b3.s, b3.i, b3.g, b3.m, b3.x, b3.y, b3.vx, b3.vy, b3.hp, c.pw, b3.lf⟩) rfl
      rw [he]
      exact hs1
    | false =>
      have he : b4 = b3 := by rw [Hb4.out]; unfold wP; rw [← HK4.out]; rfl
      go_wp2_with fail
      go_meet
      exact ⟨rfl, by rw [he]; exact Y4.out⟩
  case rest =>
  obtain ⟨rfl, hX⟩ := hcut
  obtain ⟨v4, hv⟩ : ∃ x : World, x = wc := ⟨_, rfl⟩
  subst hv
  have X5 := Lib.hid hX
  have cc1 := hX.c
  clear hX Y4
  go_wp2_with fail
  refine (has16 _ c).mono ?_
  rintro e w5 ⟨rfl, hg⟩
  have Y5 := Lib.hid (X5.out.next hg.keeps)
  clear hg cc1
  obtain ⟨b5, hb5⟩ : ∃ q, q = wL c b4 := ⟨_, rfl⟩
  have Hb5 := Lib.hid hb5
  clear hb5
  obtain ⟨k5, hk5⟩ : ∃ q, q = hasB c.m 16 := ⟨_, rfl⟩
  have HK5 := Lib.hid hk5
  rw [← hk5]
  clear hk5
  go_upto_if 38 with fail
  go_cut [4] (fun s4 wx => s4 = .pointer (some ⟨gr, 0, none⟩) ∧ BoxW w wx gb gc gr b5 c)
  case first =>
    cases k5 with
    | true =>
      have he : b5 = ⟨b4.s, b4.i, b4.g, b4.m, b4.x, b4.y, b4.vx, b4.vy, b4.hp, b4.pw, c.lf⟩ := by rw [Hb5.out]; unfold wL; rw [← HK5.out]; rfl
      have e10 := cellsAt_cell Y5.out.c 10 _ rfl
      have f10 := Y5.out.x.ob.frozen 10
      have z10 := cellsAt_cell Y5.out.x.b 10 _ rfl
      simp only [Nat.zero_add] at e10 z10
      go_wp2_with fail
      go_meet
      refine ⟨rfl, ?_⟩
      have hs1 := Y5.out.set 10 (.int .i64 c.lf) (b2 := ⟨b4.s, b4.i, b4.g, b4.m, b4.x, b4.y, b4.vx, b4.vy, b4.hp, b4.pw, c.lf⟩) rfl
      rw [he]
      exact hs1
    | false =>
      have he : b5 = b4 := by rw [Hb5.out]; unfold wL; rw [← HK5.out]; rfl
      go_wp2_with fail
      go_meet
      exact ⟨rfl, by rw [he]; exact Y5.out⟩
  case rest =>
  obtain ⟨rfl, hX⟩ := hcut
  obtain ⟨v5, hv⟩ : ∃ x : World, x = wc := ⟨_, rfl⟩
  subst hv
  have X6 := Lib.hid hX
  have cc1 := hX.c
  clear hX Y5
  have cb := X6.out.x.b
  have or := X6.out.x.or
  have sr := X6.out.x.sr
  have lr := X6.out.x.lr
  have ne := X6.out.x.ne
  have ne2 := X6.out.x.ne.symm
  have he : R = b5 := by rw [HR.out]; unfold withB; rw [Hb5.out, Hb4.out, Hb3.out, Hb2.out, Hb1.out, HB0.out]
  subst he
  go_wp2
  exact bodyPost_ret (v := bdV R) (by simp [results, Tryz.results85, go_sem, *]) rfl ⟨rfl, X6.out.x.k.row X6.out.x.nr _⟩
end Go.Proofs.YtcjeocibnfoenaaGreat
