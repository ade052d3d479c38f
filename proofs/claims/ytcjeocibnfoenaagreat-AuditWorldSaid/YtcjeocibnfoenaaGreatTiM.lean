/-
  The document's With, Without. No conditions of their own.
-/
import Derived.Test.YtcjeocibnfoenaaGreatTiL
namespace Go.Proofs.YtcjeocibnfoenaaGreat
open Go.RowKit Go.Joins Go.Deep Go.Sort

theorem wM_X (b c : Bd) : wM (wX c b) c = wX c (wM b c) := by unfold wX; cases hasB c.m 1 <;> rfl
theorem wM_V (b c : Bd) : wM (wV c b) c = wV c (wM b c) := by unfold wV; cases hasB c.m 2 <;> rfl
theorem wM_H (b c : Bd) : wM (wH c b) c = wH c (wM b c) := by unfold wH; cases hasB c.m 4 <;> rfl
theorem wM_P (b c : Bd) : wM (wP c b) c = wP c (wM b c) := by unfold wP; cases hasB c.m 8 <;> rfl
theorem wM_L (b c : Bd) : wM (wL c b) c = wL c (wM b c) := by unfold wL; cases hasB c.m 16 <;> rfl
theorem with_late (b c : Bd) : wM (wL c (wP c (wH c (wV c (wX c b))))) c = withB b c := by
  rw [wM_L, wM_P, wM_H, wM_V, wM_X]
  rfl
set_option maxRecDepth 100000 in
set_option maxHeartbeats 4000000 in
theorem rwith_any (w : World) (b c : Bd) (hm : i64 c.m) : Calls Tryz.prog 100 #[bdV b, bdV c] w fun e w' => e = .returned (bdV (withB b c)) ∧ Keeps No w w' := by
  have HM := Lib.hid hm
  obtain ⟨R, hR⟩ : ∃ R, R = withB b c := ⟨_, rfl⟩
  rw [← hR]
  have HR := Lib.hid hR
  clear hR hm
  go_enter Tryz.func100, Tryz.ntmps100
  go_upto_region 1 with fail
  refine wp_world ?_
  intro W hW
  have X0 : Hid (BoxW w W w.heap.size (w.heap.size + 1) (w.heap.size + 2) b c) := Lib.hid (by
    rw [hW]
    refine ⟨⟨by simp [go_sem], by simp [go_sem], by simp [go_sem], by simp [go_sem], by simp [go_sem], Nat.le_refl _, by omega, by omega, by simp; omega, by simp, (((Keeps.refl w).alloc _).alloc _).alloc _⟩, by simp [go_sem], by simp [go_sem], by omega⟩)
  obtain ⟨gb, hgb⟩ : ∃ g, g = w.heap.size := ⟨_, rfl⟩
  obtain ⟨gc, hgc⟩ : ∃ g, g = w.heap.size + 1 := ⟨_, rfl⟩
  obtain ⟨gr, hgr⟩ : ∃ g, g = w.heap.size + 2 := ⟨_, rfl⟩
  have hgr' : w.heap.size + 1 + 1 = gr := hgr.symm
  try rw [hgr']
  try rw [← hgr]
  rw [← hgc]
  rw [← hgb]
  rw [← hgr] at X0
  rw [← hgc] at X0
  rw [← hgb] at X0
  clear hW hgb hgc hgr hgr'
  have d3 := cellsAt_cell X0.out.c 3 _ rfl
  simp only [Nat.zero_add] at d3
  go_wp2_with fail
  refine (bit_any _ c.m 1 HM.out (.inl rfl)).mono ?_
  rintro e w1 ⟨rfl, hw⟩
  have hw := hw.symm
  subst hw
  clear d3
  obtain ⟨b1, hb1⟩ : ∃ q, q = wX c b := ⟨_, rfl⟩
  have Hb1 := Lib.hid hb1
  clear hb1
  obtain ⟨k1, hk1⟩ : ∃ q, q = hasB c.m 1 := ⟨_, rfl⟩
  have HK1 := Lib.hid hk1
  rw [← hk1]
  clear hk1
  go_upto_if 7 with fail
  go_cut [4] (fun s4 wx => s4 = .pointer (some ⟨gr, 0, none⟩) ∧ BoxW w wx gb gc gr b1 c)
  case first =>
    cases k1 with
    | true =>
      have he : b1 = ⟨b.s, b.i, b.g, b.m, c.x, c.y, b.vx, b.vy, b.hp, b.pw, b.lf⟩ := by rw [Hb1.out]; unfold wX; rw [← HK1.out]; rfl
      have e4 := cellsAt_cell X0.out.c 4 _ rfl
      have f4 := X0.out.x.ob.frozen 4
      have z4 := cellsAt_cell X0.out.x.b 4 _ rfl
      have e5 := cellsAt_cell X0.out.c 5 _ rfl
      have f5 := X0.out.x.ob.frozen 5
      have z5 := cellsAt_cell X0.out.x.b 5 _ rfl
      simp only [Nat.zero_add] at e4 z4 e5 z5
      go_wp2_with fail
      go_meet
      refine ⟨rfl, ?_⟩
      have hs4 := X0.out.set 4 (.int .i64 c.x) (b2 := ⟨b.s, b.i, b.g, b.m, c.x, b.y, b.vx, b.vy, b.hp, b.pw, b.lf⟩) rfl
      have hs5 := hs4.set 5 (.int .i64 c.y) (b2 := ⟨b.s, b.i, b.g, b.m, c.x, c.y, b.vx, b.vy, b.hp, b.pw, b.lf⟩) rfl
      rw [he]
      exact hs5
    | false =>
      have he : b1 = b := by rw [Hb1.out]; unfold wX; rw [← HK1.out]; rfl
      go_wp2_with fail
      go_meet
      exact ⟨rfl, by rw [he]; exact X0.out⟩
  case rest =>
  obtain ⟨rfl, hX⟩ := hcut
  obtain ⟨u1, hv⟩ : ∃ x : World, x = wc := ⟨_, rfl⟩
  subst hv
  have X1 := Lib.hid hX
  clear hX X0
  have d3 := cellsAt_cell X1.out.c 3 _ rfl
  simp only [Nat.zero_add] at d3
  go_wp2_with fail
  refine (bit_any _ c.m 2 HM.out (.inr (.inl rfl))).mono ?_
  rintro e w2 ⟨rfl, hw⟩
  have hw := hw.symm
  subst hw
  clear d3
  obtain ⟨b2, hb2⟩ : ∃ q, q = wV c b1 := ⟨_, rfl⟩
  have Hb2 := Lib.hid hb2
  clear hb2
  obtain ⟨k2, hk2⟩ : ∃ q, q = hasB c.m 2 := ⟨_, rfl⟩
  have HK2 := Lib.hid hk2
  rw [← hk2]
  clear hk2
  go_upto_if 16 with fail
  go_cut [4] (fun s4 wx => s4 = .pointer (some ⟨gr, 0, none⟩) ∧ BoxW w wx gb gc gr b2 c)
  case first =>
    cases k2 with
    | true =>
      have he : b2 = ⟨b1.s, b1.i, b1.g, b1.m, b1.x, b1.y, c.vx, c.vy, b1.hp, b1.pw, b1.lf⟩ := by rw [Hb2.out]; unfold wV; rw [← HK2.out]; rfl
      have e6 := cellsAt_cell X1.out.c 6 _ rfl
      have f6 := X1.out.x.ob.frozen 6
      have z6 := cellsAt_cell X1.out.x.b 6 _ rfl
      have e7 := cellsAt_cell X1.out.c 7 _ rfl
      have f7 := X1.out.x.ob.frozen 7
      have z7 := cellsAt_cell X1.out.x.b 7 _ rfl
      simp only [Nat.zero_add] at e6 z6 e7 z7
      go_wp2_with fail
      go_meet
      refine ⟨rfl, ?_⟩
      have hs6 := X1.out.set 6 (.int .i64 c.vx) (b2 := ⟨b1.s, b1.i, b1.g, b1.m, b1.x, b1.y, c.vx, b1.vy, b1.hp, b1.pw, b1.lf⟩) rfl
      have hs7 := hs6.set 7 (.int .i64 c.vy) (b2 := ⟨b1.s, b1.i, b1.g, b1.m, b1.x, b1.y, c.vx, c.vy, b1.hp, b1.pw, b1.lf⟩) rfl
      rw [he]
      exact hs7
    | false =>
      have he : b2 = b1 := by rw [Hb2.out]; unfold wV; rw [← HK2.out]; rfl
      go_wp2_with fail
      go_meet
      exact ⟨rfl, by rw [he]; exact X1.out⟩
  case rest =>
  obtain ⟨rfl, hX⟩ := hcut
  obtain ⟨u2, hv⟩ : ∃ x : World, x = wc := ⟨_, rfl⟩
  subst hv
  have X2 := Lib.hid hX
  clear hX X1
  have d3 := cellsAt_cell X2.out.c 3 _ rfl
  simp only [Nat.zero_add] at d3
  go_wp2_with fail
  refine (bit_any _ c.m 4 HM.out (.inr (.inr (.inl rfl)))).mono ?_
  rintro e w3 ⟨rfl, hw⟩
  have hw := hw.symm
  subst hw
  clear d3
  obtain ⟨b3, hb3⟩ : ∃ q, q = wH c b2 := ⟨_, rfl⟩
  have Hb3 := Lib.hid hb3
  clear hb3
  obtain ⟨k3, hk3⟩ : ∃ q, q = hasB c.m 4 := ⟨_, rfl⟩
  have HK3 := Lib.hid hk3
  rw [← hk3]
  clear hk3
  go_upto_if 25 with fail
  go_cut [4] (fun s4 wx => s4 = .pointer (some ⟨gr, 0, none⟩) ∧ BoxW w wx gb gc gr b3 c)
  case first =>
    cases k3 with
    | true =>
      have he : b3 = ⟨b2.s, b2.i, b2.g, b2.m, b2.x, b2.y, b2.vx, b2.vy, c.hp, b2.pw, b2.lf⟩ := by rw [Hb3.out]; unfold wH; rw [← HK3.out]; rfl
      have e8 := cellsAt_cell X2.out.c 8 _ rfl
      have f8 := X2.out.x.ob.frozen 8
      have z8 := cellsAt_cell X2.out.x.b 8 _ rfl
      simp only [Nat.zero_add] at e8 z8
      go_wp2_with fail
      go_meet
      refine ⟨rfl, ?_⟩
      have hs8 := X2.out.set 8 (.int .i64 c.hp) (b2 := ⟨b2.s, b2.i, b2.g, b2.m, b2.x, b2.y, b2.vx, b2.vy, c.hp, b2.pw, b2.lf⟩) rfl
      rw [he]
      exact hs8
    | false =>
      have he : b3 = b2 := by rw [Hb3.out]; unfold wH; rw [← HK3.out]; rfl
      go_wp2_with fail
      go_meet
      exact ⟨rfl, by rw [he]; exact X2.out⟩
  case rest =>
  obtain ⟨rfl, hX⟩ := hcut
  obtain ⟨u3, hv⟩ : ∃ x : World, x = wc := ⟨_, rfl⟩
  subst hv
  have X3 := Lib.hid hX
  clear hX X2
  have d3 := cellsAt_cell X3.out.c 3 _ rfl
  simp only [Nat.zero_add] at d3
  go_wp2_with fail
  refine (bit_any _ c.m 8 HM.out (.inr (.inr (.inr (.inl rfl))))).mono ?_
  rintro e w4 ⟨rfl, hw⟩
  have hw := hw.symm
  subst hw
  clear d3
  obtain ⟨b4, hb4⟩ : ∃ q, q = wP c b3 := ⟨_, rfl⟩
  have Hb4 := Lib.hid hb4
  clear hb4
  obtain ⟨k4, hk4⟩ : ∃ q, q = hasB c.m 8 := ⟨_, rfl⟩
  have HK4 := Lib.hid hk4
  rw [← hk4]
  clear hk4
  go_upto_if 31 with fail
  go_cut [4] (fun s4 wx => s4 = .pointer (some ⟨gr, 0, none⟩) ∧ BoxW w wx gb gc gr b4 c)
  case first =>
    cases k4 with
    | true =>
      have he : b4 = ⟨b3.s, b3.i, b3.g, b3.m, b3.x, b3.y, b3.vx, b3.vy, b3.hp, c.pw, b3.lf⟩ := by rw [Hb4.out]; unfold wP; rw [← HK4.out]; rfl
      have e9 := cellsAt_cell X3.out.c 9 _ rfl
      have f9 := X3.out.x.ob.frozen 9
      have z9 := cellsAt_cell X3.out.x.b 9 _ rfl
      simp only [Nat.zero_add] at e9 z9
      go_wp2_with fail
      go_meet
      refine ⟨rfl, ?_⟩
      have hs9 := X3.out.set 9 (.int .i64 c.pw) (b2 := ⟨b3.s, b3.i, b3.g, b3.m, b3.x, b3.y, b3.vx, b3.vy, b3.hp, c.pw, b3.lf⟩) rfl
      rw [he]
      exact hs9
    | false =>
      have he : b4 = b3 := by rw [Hb4.out]; unfold wP; rw [← HK4.out]; rfl
      go_wp2_with fail
      go_meet
      exact ⟨rfl, by rw [he]; exact X3.out⟩
  case rest =>
  obtain ⟨rfl, hX⟩ := hcut
  obtain ⟨u4, hv⟩ : ∃ x : World, x = wc := ⟨_, rfl⟩
  subst hv
  have X4 := Lib.hid hX
  clear hX X3
  have d3 := cellsAt_cell X4.out.c 3 _ rfl
  simp only [Nat.zero_add] at d3
  go_wp2_with fail
  refine (bit_any _ c.m 16 HM.out (.inr (.inr (.inr (.inr rfl))))).mono ?_
  rintro e w5 ⟨rfl, hw⟩
  have hw := hw.symm
  subst hw
  clear d3
  obtain ⟨b5, hb5⟩ : ∃ q, q = wL c b4 := ⟨_, rfl⟩
  have Hb5 := Lib.hid hb5
  clear hb5
  obtain ⟨k5, hk5⟩ : ∃ q, q = hasB c.m 16 := ⟨_, rfl⟩
  have HK5 := Lib.hid hk5
  rw [← hk5]
  clear hk5
  go_upto_if 37 with fail
  go_cut [4] (fun s4 wx => s4 = .pointer (some ⟨gr, 0, none⟩) ∧ BoxW w wx gb gc gr b5 c)
  case first =>
    cases k5 with
    | true =>
      have he : b5 = ⟨b4.s, b4.i, b4.g, b4.m, b4.x, b4.y, b4.vx, b4.vy, b4.hp, b4.pw, c.lf⟩ := by rw [Hb5.out]; unfold wL; rw [← HK5.out]; rfl
      have e10 := cellsAt_cell X4.out.c 10 _ rfl
      have f10 := X4.out.x.ob.frozen 10
      have z10 := cellsAt_cell X4.out.x.b 10 _ rfl
      simp only [Nat.zero_add] at e10 z10
      go_wp2_with fail
      go_meet
      refine ⟨rfl, ?_⟩
      have hs10 := X4.out.set 10 (.int .i64 c.lf) (b2 := ⟨b4.s, b4.i, b4.g, b4.m, b4.x, b4.y, b4.vx, b4.vy, b4.hp, b4.pw, c.lf⟩) rfl
      rw [he]
      exact hs10
    | false =>
      have he : b5 = b4 := by rw [Hb5.out]; unfold wL; rw [← HK5.out]; rfl
      go_wp2_with fail
      go_meet
      exact ⟨rfl, by rw [he]; exact X4.out⟩
  case rest =>
  obtain ⟨rfl, hX⟩ := hcut
  obtain ⟨u5, hv⟩ : ∃ x : World, x = wc := ⟨_, rfl⟩
  subst hv
  have X5 := Lib.hid hX
  clear hX X4
  have cb := X5.out.x.b
  have c3 := cellsAt_cell cb 3 _ rfl
  have f3 := X5.out.x.ob.frozen 3
  have d3 := cellsAt_cell X5.out.c 3 _ rfl
  simp only [Nat.zero_add] at c3 d3
  obtain ⟨b6, hb6⟩ : ∃ q, q = wM b5 c := ⟨_, rfl⟩
  have hm6 : bits .or .i64 b5.m c.m = b6.m := by rw [hb6]; rfl
  have X6 : Hid (BoxW w (u5.setCell ⟨gb, 3, none⟩ (.int .i64 b6.m)) gb gc gr b6 c) := Lib.hid (X5.out.set 3 _ (by rw [hb6]; rfl))
  have HB6 := Lib.hid hb6
  have cb6 := X6.out.x.b
  have or := X6.out.x.or
  have sr := X6.out.x.sr
  have lr := X6.out.x.lr
  have ne := X6.out.x.ne
  have ne2 := X6.out.x.ne.symm
  have or5 := X5.out.x.or
  have sr5 := X5.out.x.sr
  have lr5 := X5.out.x.lr
  clear cb hb6
  have he : R = b6 := by rw [HR.out]; rw [← with_late, HB6.out, Hb5.out, Hb4.out, Hb3.out, Hb2.out, Hb1.out]
  subst he
  go_wp2
  exact bodyPost_ret (v := bdV R) (by simp [results, Tryz.results100, go_sem, *]) rfl ⟨rfl, X6.out.x.k.row X6.out.x.nr _⟩
def vM (b : Bd) (k : Int) : Bd := ⟨b.s, b.i, b.g, wrap64 (b.m - bits .and .i64 b.m k), b.x, b.y, b.vx, b.vy, b.hp, b.pw, b.lf⟩
def vX (k : Int) (b : Bd) : Bd := bif hasB k 1 then ⟨b.s, b.i, b.g, b.m, 0, 0, b.vx, b.vy, b.hp, b.pw, b.lf⟩ else b
def vV (k : Int) (b : Bd) : Bd := bif hasB k 2 then ⟨b.s, b.i, b.g, b.m, b.x, b.y, 0, 0, b.hp, b.pw, b.lf⟩ else b
def vH (k : Int) (b : Bd) : Bd := bif hasB k 4 then ⟨b.s, b.i, b.g, b.m, b.x, b.y, b.vx, b.vy, 0, b.pw, b.lf⟩ else b
def vP (k : Int) (b : Bd) : Bd := bif hasB k 8 then ⟨b.s, b.i, b.g, b.m, b.x, b.y, b.vx, b.vy, b.hp, 0, b.lf⟩ else b
def vL (k : Int) (b : Bd) : Bd := bif hasB k 16 then ⟨b.s, b.i, b.g, b.m, b.x, b.y, b.vx, b.vy, b.hp, b.pw, 0⟩ else b
def rwithoutB (b : Bd) (k : Int) : Bd := vM (vL k (vP k (vH k (vV k (vX k b))))) k
set_option maxRecDepth 100000 in
set_option maxHeartbeats 4000000 in
theorem rwithout_any (w : World) (b : Bd) (k : Int) (hm : i64 k) : Calls Tryz.prog 101 #[bdV b, .int .i64 k] w fun e w' => e = .returned (bdV (rwithoutB b k)) ∧ Keeps No w w' := by
  have HM := Lib.hid hm
  obtain ⟨R, hR⟩ : ∃ R, R = rwithoutB b k := ⟨_, rfl⟩
  rw [← hR]
  have HR := Lib.hid hR
  clear hR hm
  go_enter Tryz.func101, Tryz.ntmps101
  go_upto_region 1 with fail
  refine wp_world ?_
  intro W hW
  have X0 : Hid (Boxed w W w.heap.size (w.heap.size + 1) b) := Lib.hid (by rw [hW]; exact boxed_new w b _ rfl _)
  obtain ⟨gb, hgb⟩ : ∃ g, g = w.heap.size := ⟨_, rfl⟩
  obtain ⟨gr, hgr⟩ : ∃ g, g = w.heap.size + 1 := ⟨_, rfl⟩
  rw [← hgr]
  rw [← hgb]
  rw [← hgr] at X0
  rw [← hgb] at X0
  clear hW hgb hgr
  go_wp2_with fail
  refine (bit_any _ k 1 HM.out (.inl rfl)).mono ?_
  rintro e w1 ⟨rfl, hw⟩
  have hw := hw.symm
  subst hw
  obtain ⟨b1, hb1⟩ : ∃ q, q = vX k b := ⟨_, rfl⟩
  have Hb1 := Lib.hid hb1
  clear hb1
  obtain ⟨k1, hk1⟩ : ∃ q, q = hasB k 1 := ⟨_, rfl⟩
  have HK1 := Lib.hid hk1
  rw [← hk1]
  clear hk1
  go_upto_if 6 with fail
  go_cut [4] (fun s4 wx => s4 = .pointer (some ⟨gr, 0, none⟩) ∧ Boxed w wx gb gr b1)
  case first =>
    cases k1 with
    | true =>
      have he : b1 = ⟨b.s, b.i, b.g, b.m, 0, 0, b.vx, b.vy, b.hp, b.pw, b.lf⟩ := by rw [Hb1.out]; unfold vX; rw [← HK1.out]; rfl
      have f4 := X0.out.ob.frozen 4
      have z4 := cellsAt_cell X0.out.b 4 _ rfl
      have f5 := X0.out.ob.frozen 5
      have z5 := cellsAt_cell X0.out.b 5 _ rfl
      simp only [Nat.zero_add] at z4 z5
      go_wp2_with fail
      go_meet
      refine ⟨rfl, ?_⟩
      have hs4 := X0.out.set 4 (.int .i64 0) (b2 := ⟨b.s, b.i, b.g, b.m, 0, b.y, b.vx, b.vy, b.hp, b.pw, b.lf⟩) rfl
      have hs5 := hs4.set 5 (.int .i64 0) (b2 := ⟨b.s, b.i, b.g, b.m, 0, 0, b.vx, b.vy, b.hp, b.pw, b.lf⟩) rfl
      rw [he]
      exact hs5
    | false =>
      have he : b1 = b := by rw [Hb1.out]; unfold vX; rw [← HK1.out]; rfl
      go_wp2_with fail
      go_meet
      exact ⟨rfl, by rw [he]; exact X0.out⟩
  case rest =>
  obtain ⟨rfl, hX⟩ := hcut
  obtain ⟨u1, hv⟩ : ∃ x : World, x = wc := ⟨_, rfl⟩
  subst hv
  have X1 := Lib.hid hX
  clear hX X0
  go_wp2_with fail
  refine (bit_any _ k 2 HM.out (.inr (.inl rfl))).mono ?_
  rintro e w2 ⟨rfl, hw⟩
  have hw := hw.symm
  subst hw
  obtain ⟨b2, hb2⟩ : ∃ q, q = vV k b1 := ⟨_, rfl⟩
  have Hb2 := Lib.hid hb2
  clear hb2
  obtain ⟨k2, hk2⟩ : ∃ q, q = hasB k 2 := ⟨_, rfl⟩
  have HK2 := Lib.hid hk2
  rw [← hk2]
  clear hk2
  go_upto_if 10 with fail
  go_cut [4] (fun s4 wx => s4 = .pointer (some ⟨gr, 0, none⟩) ∧ Boxed w wx gb gr b2)
  case first =>
    cases k2 with
    | true =>
      have he : b2 = ⟨b1.s, b1.i, b1.g, b1.m, b1.x, b1.y, 0, 0, b1.hp, b1.pw, b1.lf⟩ := by rw [Hb2.out]; unfold vV; rw [← HK2.out]; rfl
      have f6 := X1.out.ob.frozen 6
      have z6 := cellsAt_cell X1.out.b 6 _ rfl
      have f7 := X1.out.ob.frozen 7
      have z7 := cellsAt_cell X1.out.b 7 _ rfl
      simp only [Nat.zero_add] at z6 z7
      go_wp2_with fail
      go_meet
      refine ⟨rfl, ?_⟩
      have hs6 := X1.out.set 6 (.int .i64 0) (b2 := ⟨b1.s, b1.i, b1.g, b1.m, b1.x, b1.y, 0, b1.vy, b1.hp, b1.pw, b1.lf⟩) rfl
      have hs7 := hs6.set 7 (.int .i64 0) (b2 := ⟨b1.s, b1.i, b1.g, b1.m, b1.x, b1.y, 0, 0, b1.hp, b1.pw, b1.lf⟩) rfl
      rw [he]
      exact hs7
    | false =>
      have he : b2 = b1 := by rw [Hb2.out]; unfold vV; rw [← HK2.out]; rfl
      go_wp2_with fail
      go_meet
      exact ⟨rfl, by rw [he]; exact X1.out⟩
  case rest =>
  obtain ⟨rfl, hX⟩ := hcut
  obtain ⟨u2, hv⟩ : ∃ x : World, x = wc := ⟨_, rfl⟩
  subst hv
  have X2 := Lib.hid hX
  clear hX X1
  go_wp2_with fail
  refine (bit_any _ k 4 HM.out (.inr (.inr (.inl rfl)))).mono ?_
  rintro e w3 ⟨rfl, hw⟩
  have hw := hw.symm
  subst hw
  obtain ⟨b3, hb3⟩ : ∃ q, q = vH k b2 := ⟨_, rfl⟩
  have Hb3 := Lib.hid hb3
  clear hb3
  obtain ⟨k3, hk3⟩ : ∃ q, q = hasB k 4 := ⟨_, rfl⟩
  have HK3 := Lib.hid hk3
  rw [← hk3]
  clear hk3
  go_upto_if 14 with fail
  go_cut [4] (fun s4 wx => s4 = .pointer (some ⟨gr, 0, none⟩) ∧ Boxed w wx gb gr b3)
  case first =>
    cases k3 with
    | true =>
      have he : b3 = ⟨b2.s, b2.i, b2.g, b2.m, b2.x, b2.y, b2.vx, b2.vy, 0, b2.pw, b2.lf⟩ := by rw [Hb3.out]; unfold vH; rw [← HK3.out]; rfl
      have f8 := X2.out.ob.frozen 8
      have z8 := cellsAt_cell X2.out.b 8 _ rfl
      simp only [Nat.zero_add] at z8
      go_wp2_with fail
      go_meet
      refine ⟨rfl, ?_⟩
      have hs8 := X2.out.set 8 (.int .i64 0) (b2 := ⟨b2.s, b2.i, b2.g, b2.m, b2.x, b2.y, b2.vx, b2.vy, 0, b2.pw, b2.lf⟩) rfl
      rw [he]
      exact hs8
    | false =>
      have he : b3 = b2 := by rw [Hb3.out]; unfold vH; rw [← HK3.out]; rfl
      go_wp2_with fail
      go_meet
      exact ⟨rfl, by rw [he]; exact X2.out⟩
  case rest =>
  obtain ⟨rfl, hX⟩ := hcut
  obtain ⟨u3, hv⟩ : ∃ x : World, x = wc := ⟨_, rfl⟩
  subst hv
  have X3 := Lib.hid hX
  clear hX X2
  go_wp2_with fail
  refine (bit_any _ k 8 HM.out (.inr (.inr (.inr (.inl rfl))))).mono ?_
  rintro e w4 ⟨rfl, hw⟩
  have hw := hw.symm
  subst hw
  obtain ⟨b4, hb4⟩ : ∃ q, q = vP k b3 := ⟨_, rfl⟩
  have Hb4 := Lib.hid hb4
  clear hb4
  obtain ⟨k4, hk4⟩ : ∃ q, q = hasB k 8 := ⟨_, rfl⟩
  have HK4 := Lib.hid hk4
  rw [← hk4]
  clear hk4
  go_upto_if 17 with fail
  go_cut [4] (fun s4 wx => s4 = .pointer (some ⟨gr, 0, none⟩) ∧ Boxed w wx gb gr b4)
  case first =>
    cases k4 with
    | true =>
      have he : b4 = ⟨b3.s, b3.i, b3.g, b3.m, b3.x, b3.y, b3.vx, b3.vy, b3.hp, 0, b3.lf⟩ := by rw [Hb4.out]; unfold vP; rw [← HK4.out]; rfl
      have f9 := X3.out.ob.frozen 9
      have z9 := cellsAt_cell X3.out.b 9 _ rfl
      simp only [Nat.zero_add] at z9
      go_wp2_with fail
      go_meet
      refine ⟨rfl, ?_⟩
      have hs9 := X3.out.set 9 (.int .i64 0) (b2 := ⟨b3.s, b3.i, b3.g, b3.m, b3.x, b3.y, b3.vx, b3.vy, b3.hp, 0, b3.lf⟩) rfl
      rw [he]
      exact hs9
    | false =>
      have he : b4 = b3 := by rw [Hb4.out]; unfold vP; rw [← HK4.out]; rfl
      go_wp2_with fail
      go_meet
      exact ⟨rfl, by rw [he]; exact X3.out⟩
  case rest =>
  obtain ⟨rfl, hX⟩ := hcut
  obtain ⟨u4, hv⟩ : ∃ x : World, x = wc := ⟨_, rfl⟩
  subst hv
  have X4 := Lib.hid hX
  clear hX X3
  go_wp2_with fail
  refine (bit_any _ k 16 HM.out (.inr (.inr (.inr (.inr rfl))))).mono ?_
  rintro e w5 ⟨rfl, hw⟩
  have hw := hw.symm
  subst hw
  obtain ⟨b5, hb5⟩ : ∃ q, q = vL k b4 := ⟨_, rfl⟩
  have Hb5 := Lib.hid hb5
  clear hb5
  obtain ⟨k5, hk5⟩ : ∃ q, q = hasB k 16 := ⟨_, rfl⟩
  have HK5 := Lib.hid hk5
  rw [← hk5]
  clear hk5
  go_upto_if 20 with fail
  go_cut [4] (fun s4 wx => s4 = .pointer (some ⟨gr, 0, none⟩) ∧ Boxed w wx gb gr b5)
  case first =>
    cases k5 with
    | true =>
      have he : b5 = ⟨b4.s, b4.i, b4.g, b4.m, b4.x, b4.y, b4.vx, b4.vy, b4.hp, b4.pw, 0⟩ := by rw [Hb5.out]; unfold vL; rw [← HK5.out]; rfl
      have f10 := X4.out.ob.frozen 10
      have z10 := cellsAt_cell X4.out.b 10 _ rfl
      simp only [Nat.zero_add] at z10
      go_wp2_with fail
      go_meet
      refine ⟨rfl, ?_⟩
      have hs10 := X4.out.set 10 (.int .i64 0) (b2 := ⟨b4.s, b4.i, b4.g, b4.m, b4.x, b4.y, b4.vx, b4.vy, b4.hp, b4.pw, 0⟩) rfl
      rw [he]
      exact hs10
    | false =>
      have he : b5 = b4 := by rw [Hb5.out]; unfold vL; rw [← HK5.out]; rfl
      go_wp2_with fail
      go_meet
      exact ⟨rfl, by rw [he]; exact X4.out⟩
  case rest =>
  obtain ⟨rfl, hX⟩ := hcut
  obtain ⟨u5, hv⟩ : ∃ x : World, x = wc := ⟨_, rfl⟩
  subst hv
  have X5 := Lib.hid hX
  clear hX X4
  have cb := X5.out.b
  have c3 := cellsAt_cell cb 3 _ rfl
  have f3 := X5.out.ob.frozen 3
  simp only [Nat.zero_add] at c3
  obtain ⟨b6, hb6⟩ : ∃ q, q = vM b5 k := ⟨_, rfl⟩
  have hm6 : wrap64 (b5.m - bits .and .i64 b5.m k) = b6.m := by rw [hb6]; rfl
  have X6 : Hid (Boxed w (u5.setCell ⟨gb, 3, none⟩ (.int .i64 b6.m)) gb gr b6) := Lib.hid (X5.out.set 3 _ (by rw [hb6]; rfl))
  have HB6 := Lib.hid hb6
  have cb6 := X6.out.b
  have or := X6.out.or
  have sr := X6.out.sr
  have lr := X6.out.lr
  have ne := X6.out.ne
  have ne2 := X6.out.ne.symm
  have or5 := X5.out.or
  have sr5 := X5.out.sr
  have lr5 := X5.out.lr
  clear cb hb6
  have he : R = b6 := by rw [HR.out]; unfold rwithoutB; rw [HB6.out, Hb5.out, Hb4.out, Hb3.out, Hb2.out, Hb1.out]
  subst he
  go_wp2
  exact bodyPost_ret (v := bdV R) (by simp [results, Tryz.results101, go_sem, *]) rfl ⟨rfl, X6.out.k.row X6.out.nr _⟩
end Go.Proofs.YtcjeocibnfoenaaGreat
