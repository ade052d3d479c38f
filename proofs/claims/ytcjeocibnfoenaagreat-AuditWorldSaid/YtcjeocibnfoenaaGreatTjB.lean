/-
  The document's near, In, Move. No conditions of their own.
-/
import Derived.Test.YtcjeocibnfoenaaGreatTjA
namespace Go.Proofs.YtcjeocibnfoenaaGreat
open Go.RowKit Go.Joins Go.Deep Go.Sort

set_option maxRecDepth 100000 in
theorem rnear_any (w : World) (d v : Int) (h1 : 0 ≤ v) (h2 : v ≤ 1048576) : Calls Tryz.prog 68 #[.int .i64 d, .int .i64 v] w fun e w' => e = .returned (.int .i64 (max (-v) (min v d))) ∧ Grown w w' := by
  obtain ⟨M, hM⟩ : ∃ q, max (-v) (min v d) = q := ⟨_, rfl⟩
  rw [hM]
  go_enter Tryz.func68, Tryz.ntmps68
  by_cases a1 : v < d
  · go_wp2
    all_goals go_ret
    all_goals exact ⟨by first | rfl | (simp; omega), Grown.same w⟩
  · by_cases a2 : d < -v
    · go_wp2
      all_goals go_ret
      all_goals exact ⟨by first | rfl | (simp; omega), Grown.same w⟩
    · go_wp2
      all_goals go_ret
      all_goals exact ⟨by first | rfl | (simp; omega), Grown.same w⟩
abbrev zfC (z : Zf) : List Value := [.int .i64 z.c, .int .i64 z.r, .int .i64 z.s, .int .i64 z.u, .int .i64 z.v, .int .i64 z.i, .int .i64 z.q]
abbrev zfV (z : Zf) : Value := .agg #[.int .i64 z.c, .int .i64 z.r, .int .i64 z.s, .int .i64 z.u, .int .i64 z.v, .int .i64 z.i, .int .i64 z.q]
set_option maxRecDepth 100000 in
set_option maxHeartbeats 1000000 in
theorem rIn_any (w : World) (z : Zf) (hz : z.ok) (x y : Int) :
    Calls Tryz.prog 69 #[zfV z, .int .i64 x, .int .i64 y] w fun e w' => e = .returned (.tuple #[.int .i64 (max 0 (min x (z.c * z.s - 1))), .int .i64 (max 0 (min y (z.r * z.s - 1)))]) ∧ Grown w w' := by
  obtain ⟨x1, x2⟩ := hz.cs
  obtain ⟨y1, y2⟩ := hz.rs
  obtain ⟨X, hX⟩ : ∃ q, z.c * z.s = q := ⟨_, rfl⟩
  obtain ⟨Y, hY⟩ : ∃ q, z.r * z.s = q := ⟨_, rfl⟩
  rw [hX] at x1 x2
  rw [hY] at y1 y2
  have IX := Lib.hid (fun W => rinto_any W x X x1 (by omega))
  have IY := Lib.hid (fun W => rinto_any W y Y y1 (by omega))
  rw [hX, hY]
  have wX : IntKind.i64.wrap (z.c * z.s) = X := by rw [hX, IntKind.wrap_i64]; omega
  have wY : IntKind.i64.wrap (z.r * z.s) = Y := by rw [hY, IntKind.wrap_i64]; omega
  obtain ⟨A, hA⟩ : ∃ q, max 0 (min x (X - 1)) = q := ⟨_, rfl⟩
  obtain ⟨B, hB⟩ : ∃ q, max 0 (min y (Y - 1)) = q := ⟨_, rfl⟩
  rw [hA] at IX ⊢
  rw [hB] at IY ⊢
  have mx := mixed
  clear hX hY hA hB hz x1 x2 y1 y2
  go_enter Tryz.func69, Tryz.ntmps69
  go_upto_region 1 with fail
  refine wp_world ?_
  intro W hW
  have G : Hid (Grown w W) := Lib.hid (by rw [hW]; exact (Grown.same w).alloc _)
  have cb : cellsAt W w.heap.size 0 7 = some (zfC z) := by rw [hW]; simp [go_sem]
  obtain ⟨gb, hgb⟩ : ∃ g, g = w.heap.size := ⟨_, rfl⟩
  rw [← hgb]
  rw [← hgb] at cb
  clear hW hgb
  have d0 := cellsAt_cell cb 0 _ rfl
  have d1 := cellsAt_cell cb 1 _ rfl
  have d2 := cellsAt_cell cb 2 _ rfl
  simp only [Nat.zero_add] at d0 d1 d2
  have lb : gb < W.heap.size := block_lt_of_cell d0
  have l0 : ∀ n os, (grow (W.drewN n) os).cell? ⟨gb, 0, none⟩ = some (.int .i64 z.c) := fun n os => cell_grown lb d0 n os
  have l1 : ∀ n os, (grow (W.drewN n) os).cell? ⟨gb, 1, none⟩ = some (.int .i64 z.r) := fun n os => cell_grown lb d1 n os
  have l2 : ∀ n os, (grow (W.drewN n) os).cell? ⟨gb, 2, none⟩ = some (.int .i64 z.s) := fun n os => cell_grown lb d2 n os
  clear d0 d1 d2 cb
  go_quiet_grown (first
    | (go_at_call 102; have hc := IX.out; with_reducible refine Calls.grown_of (hc _))
    | (go_at_call 102; have hc := IY.out; with_reducible refine Calls.grown_of (hc _)))
  have G2 : Hid (Grown w (grow (W.drewN nq) osq)) := Lib.hid (G.out.trans ⟨nq, osq, rfl⟩)
  go_wp2
  exact bodyPost_ret (v := .tuple #[.int .i64 A, .int .i64 B]) (by simp [results, Tryz.results69, go_sem]) rfl ⟨rfl, G2.out⟩
theorem rclamp_g (w : World) (n : Int) : Calls Tryz.prog 67 #[.int .i64 n] w fun e w' => e = .returned (.int .i64 (cl n)) ∧ Grown w w' :=
  (rclamp_any w n).mono fun _ _ h => ⟨h.1, h.2 ▸ Grown.same w⟩

set_option maxRecDepth 100000 in
set_option maxHeartbeats 4000000 in
theorem rmove_any (w : World) (z : Zf) (hz : z.ok) (b : Bd) (hbm : i64 b.m) :
    Calls Tryz.prog 41 #[zfV z, bdV b] w fun e w' => e = .returned (bdV (moveB z b)) ∧ Keeps No w w' := by
  have V1 := Lib.hid hz.v1
  have V2 : Hid (z.v ≤ 1048576) := Lib.hid (Int.le_trans hz.v2 hz.s2)
  have HIN := Lib.hid (fun W x y => rIn_any W z hz x y)
  obtain ⟨R, hR⟩ : ∃ R, R = moveB z b := ⟨_, rfl⟩
  rw [← hR]
  have HR := Lib.hid hR
  obtain ⟨h2, hh2⟩ : ∃ h, h = hasB b.m 2 := ⟨_, rfl⟩
  have HH2 := Lib.hid hh2
  have HH := Lib.hid (fun W => bit_any W b.m 2 hbm (.inr (.inl rfl)))
  rw [← hh2] at HH
  clear hR hh2 hz hbm
  go_enter Tryz.func41, Tryz.ntmps41
  go_upto_region 1 with fail
  refine wp_world ?_
  intro W hW
  have X : Hid (Boxed w W (w.heap.size + 1) (w.heap.size + 2) b) := Lib.hid (by
    rw [hW]
    exact ⟨by simp [go_sem], by simp [go_sem], by simp [go_sem], by simp [go_sem], by simp [go_sem], by omega, by omega, by omega, by first | (simp; done) | (simp; omega), by first | (simp; done) | (simp; omega), (((Keeps.refl w).alloc _).alloc _).alloc _⟩)
  have cc : Hid (cellsAt W w.heap.size 0 7 = some (zfC z) ∧ w.heap.size < W.heap.size) := Lib.hid (by rw [hW]; exact ⟨by simp [go_sem], by first | (simp; done) | (simp; omega)⟩)
  obtain ⟨gc, hgc⟩ : ∃ g, g = w.heap.size := ⟨_, rfl⟩
  obtain ⟨gb, hgb⟩ : ∃ g, g = w.heap.size + 1 := ⟨_, rfl⟩
  obtain ⟨gr, hgr⟩ : ∃ g, g = w.heap.size + 2 := ⟨_, rfl⟩
  have hgr' : w.heap.size + 1 + 1 = gr := hgr.symm
  have NE : Hid (gc ≠ gb ∧ gc ≠ gr) := Lib.hid ⟨by omega, by omega⟩
  try rw [hgr']
  try rw [← hgr]
  rw [← hgb]
  rw [← hgc]
  rw [← hgr] at X
  rw [← hgb] at X
  rw [← hgc] at cc
  clear hW hgb hgr hgr' hgc
  have c3 := cellsAt_cell X.out.b 3 _ rfl
  simp only [Nat.zero_add] at c3
  go_wp2_with fail
  refine (HH.out _).mono ?_
  rintro e w1 ⟨rfl, hw⟩
  have hw := hw.symm
  subst hw
  obtain ⟨b2, hb2⟩ : ∃ q, q = velB z.v b := ⟨_, rfl⟩
  have HB2 := Lib.hid hb2
  clear HH hb2 c3
  go_upto_if 9 with fail
  go_cut [4] (fun s4 wx => s4 = .pointer (some ⟨gr, 0, none⟩) ∧ Boxed w wx gb gr b2 ∧ cellsAt wx gc 0 7 = some (zfC z))
  case first =>
    cases h2 with
    | true =>
      have he : b2 = velY z.v (velX z.v b) := by rw [HB2.out]; unfold velB; rw [← HH2.out]; rfl
      go_wp2_with fail
      have k4 := cellsAt_cell X.out.b 4 _ rfl
      have k6 := cellsAt_cell X.out.b 6 _ rfl
      have kv := cellsAt_cell cc.out.1 4 _ rfl
      simp only [Nat.zero_add] at k4 k6 kv
      have lb := X.out.lb
      have lc : gc < W.heap.size := block_lt_of_cell kv
      have l4 : ∀ n os, (grow (W.drewN n) os).cell? ⟨gb, 4, none⟩ = some (.int .i64 b.x) := fun n os => cell_grown lb k4 n os
      have l6 : ∀ n os, (grow (W.drewN n) os).cell? ⟨gb, 6, none⟩ = some (.int .i64 b.vx) := fun n os => cell_grown lb k6 n os
      have lv : ∀ n os, (grow (W.drewN n) os).cell? ⟨gc, 4, none⟩ = some (.int .i64 z.v) := fun n os => cell_grown lc kv n os
      obtain ⟨M, hM⟩ : ∃ q, q = max (-z.v) (min z.v b.vx) := ⟨_, rfl⟩
      obtain ⟨C, hC⟩ : ∃ q, q = cl b.x := ⟨_, rfl⟩
      have C1 := Lib.hid (fun W => rclamp_g W b.x)
      have C2 := Lib.hid (fun W => rnear_any W b.vx z.v V1.out V2.out)
      have C3 := Lib.hid (fun W => rclamp_g W (C + M))
      have hS : cl (C + M) = stI z.v b.x b.vx := by rw [hC, hM]; rfl
      rw [hS] at C3
      rw [← hC] at C1
      rw [← hM] at C2
      have wC : IntKind.i64.wrap (C + M) = C + M := by
        have h1 := cl_bnd b.x
        have h2 := V1.out
        have h3 := V2.out
        rw [IntKind.wrap_i64]
        omega
      have mx := mixed
      clear hM hC hS kv k4 k6
      refine Go.Tail.wp_region_tail_grown (n := 11) (l' := ?_) (by assumption) (by rfl) rfl (by simp only [List.set]; exact rfl) rfl rfl (by kernel_rfl) (by kernel_rfl) (by kernel_rfl) ?_
      repeat (quiet_step (first
        | (go_at_call 67; have hc := C1.out; with_reducible refine Calls.grown_of (hc _))
        | (go_at_call 68; have hc := C2.out; with_reducible refine Calls.grown_of (hc _))
        | (go_at_call 67; have hc := C3.out; with_reducible refine Calls.grown_of (hc _))))
      refine wpQuiet_nil ?_
      intro nq osq
      have hG2 : Grown W (grow (W.drewN nq) osq) := ⟨nq, osq, rfl⟩
      have XN := Lib.hid (X.out.next hG2.keeps)
      have ccN := Lib.hid (hG2.keeps.cellsAt cc.out.1)
      obtain ⟨W2, hW2⟩ : ∃ x, x = grow (W.drewN nq) osq := ⟨_, rfl⟩
      rw [← hW2] at XN ccN ⊢
      clear hW2 hG2 l4 l6 lv C1 C2 C3 wC lb lc
      have g4 := XN.out.ob.frozen 4
      have p4 := XN.out.lb
      have q4 := cellsAt_cell XN.out.b 4 _ rfl
      simp only [Nat.zero_add] at q4
      have X2 : Hid (Boxed w (W2.setCell ⟨gb, 4, none⟩ (.int .i64 (stI z.v b.x b.vx))) gb gr (velX z.v b)) := Lib.hid (XN.out.set 4 _ rfl)
      have cc2 : Hid (cellsAt (W2.setCell ⟨gb, 4, none⟩ (.int .i64 (stI z.v b.x b.vx))) gc 0 7 = some (zfC z)) := Lib.hid (by rw [cellsAt_setCell_far _ _ _ _ _ _ _ NE.out.1]; exact ccN.out)
      go_wp2_with fail
      refine wp_world ?_
      intro u1 hu1
      rw [← hu1] at cc2
      rw [← hu1] at X2
      obtain ⟨b1, hb1⟩ : ∃ q, q = velX z.v b := ⟨_, rfl⟩
      rw [← hb1] at X2 he
      clear hu1 hb1 XN g4 p4 q4 X
      have k4 := cellsAt_cell X2.out.b 5 _ rfl
      have k6 := cellsAt_cell X2.out.b 7 _ rfl
      have kv := cellsAt_cell cc2.out 4 _ rfl
      simp only [Nat.zero_add] at k4 k6 kv
      have lb := X2.out.lb
      have lc : gc < u1.heap.size := block_lt_of_cell kv
      have l4 : ∀ n os, (grow (u1.drewN n) os).cell? ⟨gb, 5, none⟩ = some (.int .i64 b1.y) := fun n os => cell_grown lb k4 n os
      have l6 : ∀ n os, (grow (u1.drewN n) os).cell? ⟨gb, 7, none⟩ = some (.int .i64 b1.vy) := fun n os => cell_grown lb k6 n os
      have lv : ∀ n os, (grow (u1.drewN n) os).cell? ⟨gc, 4, none⟩ = some (.int .i64 z.v) := fun n os => cell_grown lc kv n os
      obtain ⟨M, hM⟩ : ∃ q, q = max (-z.v) (min z.v b1.vy) := ⟨_, rfl⟩
      obtain ⟨C, hC⟩ : ∃ q, q = cl b1.y := ⟨_, rfl⟩
      have C1 := Lib.hid (fun W => rclamp_g W b1.y)
      have C2 := Lib.hid (fun W => rnear_any W b1.vy z.v V1.out V2.out)
      have C3 := Lib.hid (fun W => rclamp_g W (C + M))
      have hS : cl (C + M) = stI z.v b1.y b1.vy := by rw [hC, hM]; rfl
      rw [hS] at C3
      rw [← hC] at C1
      rw [← hM] at C2
      have wC : IntKind.i64.wrap (C + M) = C + M := by
        have h1 := cl_bnd b1.y
        have h2 := V1.out
        have h3 := V2.out
        rw [IntKind.wrap_i64]
        omega
      have mx := mixed
      clear hM hC hS kv k4 k6
      refine Go.Tail.wp_region_tail_grown (n := 11) (l' := ?_) (by assumption) (by rfl) rfl (by simp only [List.set]; exact rfl) rfl rfl (by kernel_rfl) (by kernel_rfl) (by kernel_rfl) ?_
      repeat (quiet_step (first
        | (go_at_call 67; have hc := C1.out; with_reducible refine Calls.grown_of (hc _))
        | (go_at_call 68; have hc := C2.out; with_reducible refine Calls.grown_of (hc _))
        | (go_at_call 67; have hc := C3.out; with_reducible refine Calls.grown_of (hc _))))
      refine wpQuiet_nil ?_
      intro nq osq
      have hG2 : Grown u1 (grow (u1.drewN nq) osq) := ⟨nq, osq, rfl⟩
      have XN := Lib.hid (X2.out.next hG2.keeps)
      have ccN := Lib.hid (hG2.keeps.cellsAt cc2.out)
      obtain ⟨W2, hW2⟩ : ∃ x, x = grow (u1.drewN nq) osq := ⟨_, rfl⟩
      rw [← hW2] at XN ccN ⊢
      clear hW2 hG2 l4 l6 lv C1 C2 C3 wC lb lc
      have g4 := XN.out.ob.frozen 5
      have p4 := XN.out.lb
      have q4 := cellsAt_cell XN.out.b 5 _ rfl
      simp only [Nat.zero_add] at q4
      have X3 : Hid (Boxed w (W2.setCell ⟨gb, 5, none⟩ (.int .i64 (stI z.v b1.y b1.vy))) gb gr (velY z.v b1)) := Lib.hid (XN.out.set 5 _ rfl)
      rw [← he] at X3
      have cc3 : Hid (cellsAt (W2.setCell ⟨gb, 5, none⟩ (.int .i64 (stI z.v b1.y b1.vy))) gc 0 7 = some (zfC z)) := Lib.hid (by rw [cellsAt_setCell_far _ _ _ _ _ _ _ NE.out.1]; exact ccN.out)
      go_wp2_with fail
      go_meet
      exact ⟨rfl, X3.out, cc3.out⟩
    | false =>
      have he : b2 = b := by rw [HB2.out]; unfold velB; rw [← HH2.out]; rfl
      go_wp2_with fail
      go_meet
      exact ⟨rfl, by rw [he]; exact X.out, cc.out.1⟩
  case rest =>
  obtain ⟨rfl, hX, hc⟩ := hcut
  obtain ⟨u3, hv3⟩ : ∃ x : World, x = wc := ⟨_, rfl⟩
  subst hv3
  have X3 := Lib.hid hX
  have h4 := cellsAt_cell hX.b 4 _ rfl
  have h5 := cellsAt_cell hX.b 5 _ rfl
  simp only [Nat.zero_add] at h4 h5
  clear hX
  go_wp2_with fail
  refine (HIN.out u3 b2.x b2.y).mono ?_
  rintro e w6 ⟨rfl, hg⟩
  obtain ⟨b3, hb3⟩ : ∃ q, q = inX (z.c * z.s) b2 := ⟨_, rfl⟩
  have e3 : max 0 (min b2.x (z.c * z.s - 1)) = b3.x := by rw [hb3]; rfl
  have e3y : b3.y = b2.y := by rw [hb3]; rfl
  have X6 := Lib.hid (X3.out.next hg.keeps)
  have X7 : Hid (Boxed w (w6.setCell ⟨gb, 4, none⟩ (.int .i64 b3.x)) gb gr b3) := Lib.hid (X6.out.set 4 _ (by rw [hb3]; rfl))
  have eR : R = inY (z.r * z.s) b3 := by rw [HR.out, hb3, HB2.out]; rfl
  have eY : max 0 (min b2.y (z.r * z.s - 1)) = R.y := by rw [eR, ← e3y]; rfl
  have X8 : Hid (Boxed w ((w6.setCell ⟨gb, 4, none⟩ (.int .i64 b3.x)).setCell ⟨gb, 5, none⟩ (.int .i64 R.y)) gb gr R) := Lib.hid (X7.out.set 5 _ (by rw [eR]; rfl))
  rw [e3, eY]
  have f4 := X6.out.ob.frozen 4
  have f5 := X6.out.ob.frozen 5
  have z4 := cellsAt_cell X6.out.b 4 _ rfl
  have z5 := cellsAt_cell X6.out.b 5 _ rfl
  simp only [Nat.zero_add] at z4 z5
  clear hg e3 e3y eR eY hb3 X7 h4 h5 X3
  have cb8 := X8.out.b
  have or := X8.out.or
  have sr := X8.out.sr
  have lr := X8.out.lr
  have ne := X8.out.ne
  have ne2 := X8.out.ne.symm
  have or6 := X6.out.or
  have sr6 := X6.out.sr
  have lr6 := X6.out.lr
  go_wp2
  exact bodyPost_ret (v := bdV R) (by simp [results, Tryz.results41, go_sem, *]) rfl ⟨rfl, X8.out.k.row X8.out.nr _⟩
end Go.Proofs.YtcjeocibnfoenaaGreat
