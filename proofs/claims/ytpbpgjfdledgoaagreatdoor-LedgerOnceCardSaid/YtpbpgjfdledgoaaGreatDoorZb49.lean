/-
  hedgerowlaw04.mod and May: any world's form made one that may be. No conditions of its own.
-/
import Derived.Test.YtpbpgjfdledgoaaGreatDoorZb47
import Derived.Deep.DeepCutAuto
namespace Go.Proofs.YtpbpgjfdledgoaaGreatDoor
open Go.RowKit Go.Joins Go.Deep

theorem neg_lt_tmod (k : Int) {n : Int} (h : 0 < n) : -n < Int.tmod k n := by
  have := Int.tmod_lt_of_pos (-k) h
  rw [Int.neg_tmod] at this
  omega
def modI (k n : Int) : Int := Int.tmod (Int.tmod k n + n) n
theorem modI_in (k n : Int) (h : 1 ≤ n) : 0 ≤ modI k n ∧ modI k n < n := by
  have h1 : -n < Int.tmod k n := neg_lt_tmod k (by omega)
  unfold modI
  exact ⟨Int.tmod_nonneg n (by omega), Int.tmod_lt_of_pos _ (by omega)⟩
set_option maxRecDepth 100000 in
theorem mod_any (w : World) (k n : Int) (h0 : 1 ≤ n) (h1 : n ≤ 2000000) : Calls Tryz.prog 70 #[.int .i64 k, .int .i64 n] w fun e w' => e = .returned (.int .i64 (modI k n)) ∧ w' = w := by
  have h2 : -n < Int.tmod k n := neg_lt_tmod k (by omega)
  have h3 : Int.tmod k n < n := Int.tmod_lt_of_pos k (by omega)
  have hn : ¬ n = 0 := by omega
  obtain ⟨M, hM⟩ : ∃ x, x = modI k n := ⟨_, rfl⟩
  rw [← hM]
  unfold modI at hM
  obtain ⟨T, hT⟩ : ∃ x, x = Int.tmod k n := ⟨_, rfl⟩
  rw [← hT] at h2 h3 hM
  have hw : IntKind.i64.wrap (T + n) = T + n := by rw [IntKind.wrap_i64]; omega
  have hT' := hT.symm
  have hM' := hM.symm
  clear hT hM h0 h1
  go_enter Tryz.func70, Tryz.ntmps70
  go_wp2
  go_ret
  exact ⟨rfl, rfl⟩
def mayZ (z : Zf) : Zf := ⟨1 + modI z.c 4, 1 + modI z.r 4, 256 + modI z.s 5000, modI z.u (256 + modI z.s 5000 + 1), modI z.v (256 + modI z.s 5000 + 1), 1 + modI z.i 16, 1 + modI z.q 64⟩
theorem mayZ_ok (z : Zf) : zfOk (mayZ z) = true := by
  have h1 := modI_in z.c 4 (by decide)
  have h2 := modI_in z.r 4 (by decide)
  have h3 := modI_in z.s 5000 (by decide)
  have h4 := modI_in z.u (256 + modI z.s 5000 + 1) (by omega)
  have h5 := modI_in z.v (256 + modI z.s 5000 + 1) (by omega)
  have h6 := modI_in z.i 16 (by decide)
  have h7 := modI_in z.q 64 (by decide)
  unfold zfOk okI mayZ
  simp only [Bool.and_eq_true, decide_eq_true_eq]
  omega
def MayAt (w : World) (gb gr gd : Nat) (z d : Zf) (o : Value) (wc : World) : Prop := o = .pointer (some ⟨gd, 0, none⟩) ∧ cellsAt wc gb 0 7 = some (zfC z) ∧ cellsAt wc gd 0 7 = some (zfC d) ∧ Open wc gd ∧ (rowD wc gd).size = 7 ∧ Open wc gr ∧ (rowD wc gr).size = 7 ∧ Keeps No w wc
set_option maxRecDepth 100000 in
set_option maxHeartbeats 4000000 in
theorem may_any (w : World) (z : Zf) : Calls Tryz.prog 16 #[zfV z] w fun e w' => e = .returned (zfV (mayZ z)) ∧ Keeps No w w' := by
  have C1 := Lib.hid (fun W => mod_any W z.c 4 (by decide) (by decide))
  have C2 := Lib.hid (fun W => mod_any W z.r 4 (by decide) (by decide))
  have C3 := Lib.hid (fun W => mod_any W z.s 5000 (by decide) (by decide))
  have h3 := modI_in z.s 5000 (by decide)
  have C4 := Lib.hid (fun W => mod_any W z.u (256 + modI z.s 5000 + 1) (by omega) (by omega))
  have C5 := Lib.hid (fun W => mod_any W z.v (256 + modI z.s 5000 + 1) (by omega) (by omega))
  have C6 := Lib.hid (fun W => mod_any W z.i 16 (by decide) (by decide))
  have C7 := Lib.hid (fun W => mod_any W z.q 64 (by decide) (by decide))
  have h1 := modI_in z.c 4 (by decide)
  have h2 := modI_in z.r 4 (by decide)
  have h6 := modI_in z.i 16 (by decide)
  have h7 := modI_in z.q 64 (by decide)
  obtain ⟨R, hR⟩ : ∃ x, x = mayZ z := ⟨_, rfl⟩
  rw [← hR]
  unfold mayZ at hR
  obtain ⟨m1, e1⟩ : ∃ x, x = modI z.c 4 := ⟨_, rfl⟩
  obtain ⟨m2, e2⟩ : ∃ x, x = modI z.r 4 := ⟨_, rfl⟩
  obtain ⟨m3, e3⟩ : ∃ x, x = modI z.s 5000 := ⟨_, rfl⟩
  obtain ⟨m6, e6⟩ : ∃ x, x = modI z.i 16 := ⟨_, rfl⟩
  obtain ⟨m7, e7⟩ : ∃ x, x = modI z.q 64 := ⟨_, rfl⟩
  rw [← e1] at C1 h1 hR
  rw [← e2] at C2 h2 hR
  rw [← e3] at C3 C4 C5 h3 hR
  rw [← e6] at C6 h6 hR
  rw [← e7] at C7 h7 hR
  obtain ⟨a1, f1⟩ : ∃ x, x = 1 + m1 := ⟨_, rfl⟩
  obtain ⟨a2, f2⟩ : ∃ x, x = 1 + m2 := ⟨_, rfl⟩
  obtain ⟨a3, f3⟩ : ∃ x, x = 256 + m3 := ⟨_, rfl⟩
  obtain ⟨a6, f6⟩ : ∃ x, x = 1 + m6 := ⟨_, rfl⟩
  obtain ⟨a7, f7⟩ : ∃ x, x = 1 + m7 := ⟨_, rfl⟩
  have w1 : IntKind.i64.wrap (1 + m1) = a1 := by rw [IntKind.wrap_i64]; omega
  have w2 : IntKind.i64.wrap (1 + m2) = a2 := by rw [IntKind.wrap_i64]; omega
  have w3 : IntKind.i64.wrap (256 + m3) = a3 := by rw [IntKind.wrap_i64]; omega
  have w6 : IntKind.i64.wrap (1 + m6) = a6 := by rw [IntKind.wrap_i64]; omega
  have w7 : IntKind.i64.wrap (1 + m7) = a7 := by rw [IntKind.wrap_i64]; omega
  have w8 : IntKind.i64.wrap (a3 + 1) = a3 + 1 := by rw [IntKind.wrap_i64]; omega
  rw [← f1, ← f2, ← f3, ← f6, ← f7] at hR
  rw [← f3] at C4 C5
  obtain ⟨m4, e4⟩ : ∃ x, x = modI z.u (a3 + 1) := ⟨_, rfl⟩
  obtain ⟨m5, e5⟩ : ∃ x, x = modI z.v (a3 + 1) := ⟨_, rfl⟩
  rw [← e4] at C4 hR
  rw [← e5] at C5 hR
  have HR := Lib.hid hR
  clear hR e1 e2 e3 e4 e5 e6 e7 f1 f2 f3 f6 f7 h1 h2 h3 h6 h7
  go_enter Tryz.func16, Tryz.ntmps16
  go_upto_region 1 with fail
  refine wp_world ?_
  intro W hW
  have cb : cellsAt W w.heap.size 0 7 = some (zfC z) := by rw [hW]; simp [go_sem]
  have oR : Open W (w.heap.size + 1) := by rw [hW]; simp [go_sem]
  have sR : (rowD W (w.heap.size + 1)).size = 7 := by rw [hW]; simp [go_sem]
  have KW : Hid (Keeps No w W) := Lib.hid (by rw [hW]; exact ((Keeps.refl w).alloc _).alloc _)
  have CBW := Lib.hid cb
  have ORW := Lib.hid (And.intro oR sR)
  obtain ⟨gb, hgb⟩ : ∃ g, g = w.heap.size := ⟨_, rfl⟩
  obtain ⟨gr, hgr⟩ : ∃ g, g = w.heap.size + 1 := ⟨_, rfl⟩
  have HGR : Hid (w.heap.size ≤ gr ∧ gb ≠ gr) := Lib.hid ⟨by omega, by omega⟩
  have HBW := cellsAt_block cb
  have HRW : gr < W.heap.size := by rw [hW, hgr]; simp
  rw [← hgr] at ORW ⊢
  rw [← hgb] at CBW cb HBW ⊢
  clear oR sR hgb hgr hW
  have x0 := cellsAt_cell cb 0 _ rfl
  simp only [Nat.zero_add] at x0
  have L0 : ∀ w', Keeps No W w' → w'.cell? ⟨gb, 0, none⟩ = some (.int .i64 z.c) := fun w' k => k.cell x0 (fun h => h)
  clear x0
  have x1 := cellsAt_cell cb 1 _ rfl
  simp only [Nat.zero_add] at x1
  have L1 : ∀ w', Keeps No W w' → w'.cell? ⟨gb, 1, none⟩ = some (.int .i64 z.r) := fun w' k => k.cell x1 (fun h => h)
  clear x1
  have x2 := cellsAt_cell cb 2 _ rfl
  simp only [Nat.zero_add] at x2
  have L2 : ∀ w', Keeps No W w' → w'.cell? ⟨gb, 2, none⟩ = some (.int .i64 z.s) := fun w' k => k.cell x2 (fun h => h)
  clear x2
  have x5 := cellsAt_cell cb 5 _ rfl
  simp only [Nat.zero_add] at x5
  have L5 : ∀ w', Keeps No W w' → w'.cell? ⟨gb, 5, none⟩ = some (.int .i64 z.i) := fun w' k => k.cell x5 (fun h => h)
  clear x5
  have x6 := cellsAt_cell cb 6 _ rfl
  simp only [Nat.zero_add] at x6
  have L6 : ∀ w', Keeps No W w' → w'.cell? ⟨gb, 6, none⟩ = some (.int .i64 z.q) := fun w' k => k.cell x6 (fun h => h)
  clear x6
  clear cb
  go_cut [3] (MayAt w gb gr W.heap.size z ⟨a1, a2, a3, 0, 0, a6, a7⟩)
  case first =>
    go_region_held3 (fun w' => Keeps No W w')
      (first | assumption | (repeat (first | exact Keeps.refl W | refine Keeps.drew ?_ | refine Keeps.alloc ?_ _ | refine Keeps.row ?_ (by simp) _)))
      (first
        | (go_at_call 70
           have hc := C1.out
           with_reducible refine (hc _).mono ?_
           clear hc
           rintro e w5 ⟨rfl, rfl⟩)
        | (go_at_call 70
           have hc := C2.out
           with_reducible refine (hc _).mono ?_
           clear hc
           rintro e w6 ⟨rfl, rfl⟩)
        | (go_at_call 70
           have hc := C3.out
           with_reducible refine (hc _).mono ?_
           clear hc
           rintro e w7 ⟨rfl, rfl⟩)
        | (go_at_call 70
           have hc := C6.out
           with_reducible refine (hc _).mono ?_
           clear hc
           rintro e w8 ⟨rfl, rfl⟩)
        | (go_at_call 70
           have hc := C7.out
           with_reducible refine (hc _).mono ?_
           clear hc
           rintro e w9 ⟨rfl, rfl⟩))
    all_goals go_wp2_with fail
    all_goals go_meet
    all_goals
      have kk : Keeps No W (W.alloc (.cells (zfC ⟨a1, a2, a3, 0, 0, a6, a7⟩).toArray 45)) := (Keeps.refl W).alloc _
      refine ⟨rfl, kk.cellsAt CBW.out, by simp [go_sem], by simp [go_sem], by simp [go_sem], kk.opened ORW.out.1, kk.rowSize ORW.out.1 ORW.out.2, KW.out.trans kk.drew (fun _ _ h => h)⟩
  case rest =>
    obtain ⟨gd, hgd⟩ : ∃ g, g = W.heap.size := ⟨_, rfl⟩
    rw [← hgd] at hcut
    have HGD : Hid (w.heap.size ≤ gd) := Lib.hid (by have := KW.out.size; omega)
    have n1 : gb ≠ gd := by omega
    have n2 : gr ≠ gd := by omega
    clear L0 L1 L2 L5 L6 hgd
    obtain ⟨W1, hw1⟩ : ∃ x : World, x = wc := ⟨_, rfl⟩
    subst hw1
    obtain ⟨rfl, cz, cd, od, sd, or1, sr1, kw⟩ := hcut
    have KW1 := Lib.hid kw
    have CZ := Lib.hid cz
    have CD := Lib.hid cd
    have x3 := cellsAt_cell cz 3 _ rfl
    have y2 := cellsAt_cell cd 2 _ rfl
    have y3 := cellsAt_cell cd 3 _ rfl
    have fd := od.frozen 3
    simp only [Nat.zero_add] at x3 y2 y3
    clear kw cz cd
    go_wp2_with fail
    (with_reducible refine (C4.out _).mono ?_)
    rintro e w5 ⟨rfl, rfl⟩
    go_upto_region 3 with fail
    refine wp_world ?_
    intro W2 hW2
    have KW2 : Hid (Keeps No w W2) := Lib.hid (by rw [hW2]; exact KW1.out.setCell (p := ⟨gd, 3, none⟩) (fun h => absurd h (Nat.not_lt.2 HGD.out)) _)
    have CZ2 : Hid (cellsAt W2 gb 0 7 = some (zfC z)) := Lib.hid (by rw [hW2, cellsAt_setCell_far _ _ _ _ _ _ _ n1]; exact CZ.out)
    have CD2 : Hid (cellsAt W2 gd 0 7 = some (zfC ⟨a1, a2, a3, m4, 0, a6, a7⟩)) := Lib.hid (by rw [hW2, cellsAt_setCell_at, CD.out]; rfl)
    have od2 : Open W2 gd := by rw [hW2]; exact (open_setCell _ _ _ _ _).2 od
    have or2 : Open W2 gr := by rw [hW2]; exact (open_setCell _ _ _ _ _).2 or1
    have sr2 : (rowD W2 gr).size = 7 := by rw [hW2, rowD_setCell_far _ _ _ _ _ n2]; exact sr1
    have x4 := cellsAt_cell CZ2.out 4 _ rfl
    have y2' := cellsAt_cell CD2.out 2 _ rfl
    have y4 := cellsAt_cell CD2.out 4 _ rfl
    have fd2 := od2.frozen 4
    simp only [Nat.zero_add] at x4 y2' y4
    clear hW2 x3 y2 y3 fd od or1 sr1 sd CZ CD KW1
    go_wp2_with fail
    (with_reducible refine (C5.out _).mono ?_)
    rintro e w6 ⟨rfl, rfl⟩
    go_upto_region 4 with fail
    refine wp_world ?_
    intro W3 hW3
    have KW3 : Hid (Keeps No w W3) := Lib.hid (by rw [hW3]; exact KW2.out.setCell (p := ⟨gd, 4, none⟩) (fun h => absurd h (Nat.not_lt.2 HGD.out)) _)
    have CD3 : cellsAt W3 gd 0 7 = some [.int .i64 a1, .int .i64 a2, .int .i64 a3, .int .i64 m4, .int .i64 m5, .int .i64 a6, .int .i64 a7] := by rw [hW3, cellsAt_setCell_at, CD2.out]; rfl
    have or3 : Open W3 gr := by rw [hW3]; exact (open_setCell _ _ _ _ _).2 or2
    have sr3 : (rowD W3 gr).size = 7 := by rw [hW3, rowD_setCell_far _ _ _ _ _ n2]; exact sr2
    clear hW3 x4 y2' y4 fd2 od2 or2 sr2 CZ2 CD2 KW2
    go_wp2_with fail
    have hcr : cellsAt (W3.setRow gr #[.int .i64 a1, .int .i64 a2, .int .i64 a3, .int .i64 m4, .int .i64 m5, .int .i64 a6, .int .i64 a7]) gr 0 7 = some (zfC R) := by rw [cellsAt_setRow_at _ _ _ _ _ or3, HR.out]; rfl
    refine bodyPost_ret (v := zfV R) ?_ rfl ⟨rfl, KW3.out.row HGR.out.1 _⟩
    clear or3 sr3 CD3 HR
    simp [results, Tryz.results16, go_sem, hcr]
end Go.Proofs.YtpbpgjfdledgoaaGreatDoor
