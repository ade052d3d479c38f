/-
  Texts in one: LeZ, LfA, LfB, LfC, LfD, LfE, LfF, LfG, LfH, LfI, LfJ, LfK, LfL. No conditions of their own.
-/
import Derived.Test.YtpbpgjfdledgoaaGreatDoorZc28
import Derived.Test.YtpbpgjfdledgoaaGreatDoorZc29
import Derived.Test.YtpbpgjfdledgoaaGreatDoorZc07
import Derived.BigQuiet
import Derived.Deep.CutBlock

/-
  The document's Bad, Count. No conditions of its own.
-/
namespace Go.Proofs.YtpbpgjfdledgoaaGreatDoor
open Go.RowKit Go.Shelf Go.Sort Go.Joins Go.Deep

set_option maxRecDepth 100000 in
theorem rbad_any {w : World} {g : Nat} {r : Rdr} (h : RrAt w g r) : Calls Tryz.prog 139 #[dP g] w fun e w' => e = .returned (.tuple #[]) ∧ RrAt w' g none ∧ Keeps (Own g) w w' := by
  obtain ⟨x, y, hb⟩ := h.cells
  have HB := Lib.hid hb
  have hlt := h.lt
  have d0 : w.cell? ⟨g, 0, none⟩ = some x := by rw [cell_of_row _ _ _ _ _ _ hb]; rfl
  have d1 : w.cell? ⟨g, 1, none⟩ = some y := by rw [cell_of_row _ _ _ _ _ _ hb]; rfl
  have f0 : w.frozen? ⟨g, 0, none⟩ = false := frozen_of_row _ _ _ _ _ hb
  have f1 : w.frozen? ⟨g, 1, none⟩ = false := frozen_of_row _ _ _ _ _ hb
  clear h hb
  go_enter Tryz.func139, Tryz.ntmps139
  go_wp2
  refine bodyPost_end (results_none rfl _ _ _) rfl ?_
  refine ⟨rfl, ⟨heap_setCell_two' HB.out _ _, fun s h => by cases h⟩, ?_⟩
  exact (((Keeps.refl (S := Own g) w).setCell (p := ⟨g, 1, none⟩) (fun _ => (rfl : g = g)) _).setCell (p := ⟨g, 0, none⟩) (fun _ => (rfl : g = g)) _)
set_option maxRecDepth 100000 in
theorem rcount_any {w : World} {g : Nat} {r : Rdr} (h : RrAt w g r) (m : Int) : Calls Tryz.prog 140 #[dP g, .int .i64 m] w fun e w' => e = .returned (.int .i64 (rdCount m r).1) ∧ RrAt w' g (rdCount m r).2 ∧ Keeps (Own g) w w' := by
  obtain ⟨p, hp⟩ : ∃ p, p = rdI r := ⟨_, rfl⟩
  have C := Lib.hid (rrd_any h)
  have HR : Hid (rdCount m r = bif decide (p.1 < 0) || decide (m < p.1) then (0, none) else p) := Lib.hid (by rw [hp]; rfl)
  rw [← hp] at C
  obtain ⟨R, hR⟩ : ∃ R, R = rdCount m r := ⟨_, rfl⟩
  rw [← hR] at HR ⊢
  clear hp hR h
  go_enter Tryz.func140, Tryz.ntmps140
  go_wp2_with fail
  (with_reducible refine C.out.mono ?_)
  rintro e w1 ⟨rfl, hr, hk⟩
  have RD := Lib.hid hr
  have K1 := Lib.hid hk
  clear hr hk
  by_cases h0 : p.1 < 0
  · have HF : Hid (R = (0, none)) := Lib.hid (by rw [HR.out, decide_eq_true h0]; rfl)
    go_wp2_with fail
    (with_reducible refine (rbad_any RD.out).mono ?_)
    rintro e w2 ⟨rfl, hr2, hk2⟩
    have RD2 := Lib.hid hr2
    have K2 := Lib.hid (K1.out.trans hk2 (fun _ _ h => h))
    clear hr2 hk2
    go_wp2
    go_ret
    exact ⟨by rw [HF.out]; rfl, by rw [HF.out]; exact RD2.out, K2.out⟩
  · by_cases h1 : m < p.1
    · have HF : Hid (R = (0, none)) := Lib.hid (by rw [HR.out, decide_eq_false h0, decide_eq_true h1]; rfl)
      go_wp2_with fail
      (with_reducible refine (rbad_any RD.out).mono ?_)
      rintro e w2 ⟨rfl, hr2, hk2⟩
      have RD2 := Lib.hid hr2
      have K2 := Lib.hid (K1.out.trans hk2 (fun _ _ h => h))
      clear hr2 hk2
      go_wp2
      go_ret
      exact ⟨by rw [HF.out]; rfl, by rw [HF.out]; exact RD2.out, K2.out⟩
    · have HF : Hid (R = p) := Lib.hid (by rw [HR.out, decide_eq_false h0, decide_eq_false h1]; rfl)
      go_wp2
      go_ret
      exact ⟨by rw [HF.out]; rfl, by rw [HF.out]; exact RD.out, K1.out⟩
/-! ### may be -/
set_option maxRecDepth 100000 in
set_option maxHeartbeats 1000000 in
theorem rightID_any (w : World) (a : Nam) : Calls Tryz.prog 121 #[namV a] w fun e w' => e = .returned (.bool (idOk a)) ∧ Keeps No w w' := by
  obtain ⟨E, hE⟩ : ∃ x, x = idOk a := ⟨_, rfl⟩
  rw [← hE]
  have HE : Hid (E = ((decide (0 ≤ a.s) && decide (a.s ≤ 15)) && ((decide (0 ≤ a.i) && decide (a.i ≤ 15)) && (decide (0 ≤ a.g) && decide (a.g ≤ 1048575))))) := Lib.hid (by rw [hE]; rfl)
  clear hE
  by_cases h0 : 0 ≤ a.s
  case neg =>
    have HF : Hid (E = false) := Lib.hid (by rw [HE.out, decide_eq_false (show ¬ (0 ≤ a.s) by omega)]; simp)
    clear HE
    go_enter Tryz.func121, Tryz.ntmps121
    go_wp2
    go_ret
    exact ⟨by rw [HF.out]; rfl, (Keeps.refl w).alloc _⟩
  by_cases h1 : a.s ≤ 15
  case neg =>
    have HF : Hid (E = false) := Lib.hid (by rw [HE.out, decide_eq_false (show ¬ (a.s ≤ 15) by omega)]; simp)
    clear HE
    go_enter Tryz.func121, Tryz.ntmps121
    go_wp2
    go_ret
    exact ⟨by rw [HF.out]; rfl, (Keeps.refl w).alloc _⟩
  by_cases h2 : 0 ≤ a.i
  case neg =>
    have HF : Hid (E = false) := Lib.hid (by rw [HE.out, decide_eq_false (show ¬ (0 ≤ a.i) by omega)]; simp)
    clear HE
    go_enter Tryz.func121, Tryz.ntmps121
    go_wp2
    go_ret
    exact ⟨by rw [HF.out]; rfl, (Keeps.refl w).alloc _⟩
  by_cases h3 : a.i ≤ 15
  case neg =>
    have HF : Hid (E = false) := Lib.hid (by rw [HE.out, decide_eq_false (show ¬ (a.i ≤ 15) by omega)]; simp)
    clear HE
    go_enter Tryz.func121, Tryz.ntmps121
    go_wp2
    go_ret
    exact ⟨by rw [HF.out]; rfl, (Keeps.refl w).alloc _⟩
  by_cases h4 : 0 ≤ a.g
  case neg =>
    have HF : Hid (E = false) := Lib.hid (by rw [HE.out, decide_eq_false (show ¬ (0 ≤ a.g) by omega)]; simp)
    clear HE
    go_enter Tryz.func121, Tryz.ntmps121
    go_wp2
    go_ret
    exact ⟨by rw [HF.out]; rfl, (Keeps.refl w).alloc _⟩
  by_cases h5 : a.g < 1048576
  case neg =>
    have HF : Hid (E = false) := Lib.hid (by rw [HE.out, decide_eq_false (show ¬ (a.g ≤ 1048575) by omega)]; simp)
    clear HE
    go_enter Tryz.func121, Tryz.ntmps121
    go_wp2
    go_ret
    exact ⟨by rw [HF.out]; rfl, (Keeps.refl w).alloc _⟩
  have HF : Hid (E = true) := Lib.hid (by rw [HE.out, decide_eq_true (show 0 ≤ a.s by omega), decide_eq_true (show a.s ≤ 15 by omega), decide_eq_true (show 0 ≤ a.i by omega), decide_eq_true (show a.i ≤ 15 by omega), decide_eq_true (show 0 ≤ a.g by omega), decide_eq_true (show a.g ≤ 1048575 by omega)]; rfl)
  clear HE
  go_enter Tryz.func121, Tryz.ntmps121
  go_wp2
  go_ret
  exact ⟨by rw [HF.out]; rfl, (Keeps.refl w).alloc _⟩
set_option maxRecDepth 100000 in
theorem inR_any (w : World) (n lo hi : Int) (h : Bool) : Calls Tryz.prog 256 #[.int .i64 n, .int .i64 lo, .int .i64 hi, .bool h] w fun e w' => e = .returned (.bool (inB h n lo hi)) ∧ w' = w := by
  obtain ⟨E, hE⟩ : ∃ x, x = inB h n lo hi := ⟨_, rfl⟩
  rw [← hE]
  cases h
  · have HE : Hid (E = decide (n = 0)) := Lib.hid hE
    clear hE
    go_enter Tryz.func256, Tryz.ntmps256
    go_wp2
    go_ret
    exact ⟨by rw [HE.out]; rfl, rfl⟩
  · have HE : Hid (E = (decide (lo ≤ n) && decide (n ≤ hi))) := Lib.hid hE
    clear hE
    by_cases h0 : lo ≤ n
    · have HF : Hid (E = decide (n ≤ hi)) := Lib.hid (by rw [HE.out, decide_eq_true h0, Bool.true_and])
      clear HE
      go_enter Tryz.func256, Tryz.ntmps256
      go_wp2
      go_ret
      exact ⟨by rw [HF.out]; rfl, rfl⟩
    · have HF : Hid (E = false) := Lib.hid (by rw [HE.out, decide_eq_false h0, Bool.false_and])
      clear HE
      go_enter Tryz.func256, Tryz.ntmps256
      go_wp2
      go_ret
      exact ⟨by rw [HF.out]; rfl, rfl⟩
end Go.Proofs.YtpbpgjfdledgoaaGreatDoor

/-
  The document's takes, Right: may an entity's parts be? No conditions of its own.
-/
namespace Go.Proofs.YtpbpgjfdledgoaaGreatDoor
open Go.RowKit Go.Shelf Go.Sort Go.Joins Go.Deep

set_option maxRecDepth 100000 in
theorem takesR_any (w : World) (m : Int) : Calls Tryz.prog 195 #[.int .i64 m] w fun e w' => e = .returned (.bool (takesM m)) ∧ w' = w := by
  obtain ⟨E, hE⟩ : ∃ x, x = takesM m := ⟨_, rfl⟩
  rw [← hE]
  by_cases h1 : 1 ≤ m
  case neg =>
    have HF : Hid (E = false) := Lib.hid (by rw [hE]; unfold takesM okI; rw [decide_eq_false h1]; rfl)
    clear hE
    go_enter Tryz.func195, Tryz.ntmps195
    go_wp2
    go_ret
    exact ⟨by rw [HF.out]; rfl, rfl⟩
  by_cases h2 : m ≤ 31
  case neg =>
    have HF : Hid (E = false) := Lib.hid (by rw [hE]; unfold takesM okI; rw [decide_eq_false h2, Bool.and_false]; rfl)
    clear hE
    go_enter Tryz.func195, Tryz.ntmps195
    go_wp2
    go_ret
    exact ⟨by rw [HF.out]; rfl, rfl⟩
  have hmod : Int.tmod m 2 = m % 2 := Int.tmod_eq_emod_of_nonneg (by omega)
  have HF : Hid (E = (m % 2 == 0)) := Lib.hid (by
    rw [hE]; unfold takesM okI hasB
    rw [decide_eq_true h1, decide_eq_true h2, Int.ediv_one]
    rcases Int.emod_two_eq m with h | h <;> rw [h] <;> rfl)
  clear hE
  go_enter Tryz.func195, Tryz.ntmps195
  go_wp2
  go_ret
  exact ⟨by rw [HF.out]; rfl, rfl⟩
set_option maxRecDepth 100000 in
set_option maxHeartbeats 4000000 in
theorem rightR_any (w : World) (b : Bd) : Calls Tryz.prog 196 #[bdV b] w fun e w' => e = .returned (.bool (rightBd b)) ∧ Keeps No w w' := by
  obtain ⟨E, hE⟩ : ∃ x, x = rightBd b := ⟨_, rfl⟩
  rw [← hE]
  by_cases h0 : 0 ≤ b.m
  case neg =>
    have HF : Hid (E = false) := Lib.hid (by rw [hE]; unfold rightBd okI; rw [decide_eq_false h0]; rfl)
    clear hE
    go_enter Tryz.func196, Tryz.ntmps196
    go_wp2
    go_ret
    exact ⟨by rw [HF.out]; rfl, (Keeps.refl w).alloc _⟩
  by_cases h31 : b.m ≤ 31
  case neg =>
    have HF : Hid (E = false) := Lib.hid (by rw [hE]; unfold rightBd okI; rw [decide_eq_false h31, Bool.and_false]; rfl)
    clear hE
    go_enter Tryz.func196, Tryz.ntmps196
    go_wp2
    go_ret
    exact ⟨by rw [HF.out]; rfl, (Keeps.refl w).alloc _⟩
  have hm : i64 b.m := ⟨by omega, by omega⟩
  have B1 := Lib.hid (fun W => bit_any W b.m 1 hm (by unfold bitC; omega))
  have B2 := Lib.hid (fun W => bit_any W b.m 2 hm (by unfold bitC; omega))
  have B4 := Lib.hid (fun W => bit_any W b.m 4 hm (by unfold bitC; omega))
  have B8 := Lib.hid (fun W => bit_any W b.m 8 hm (by unfold bitC; omega))
  have B16 := Lib.hid (fun W => bit_any W b.m 16 hm (by unfold bitC; omega))
  have C_x := Lib.hid (fun W => inR_any W b.x (-1073741824) 1073741824 (hasB b.m 1))
  have C_y := Lib.hid (fun W => inR_any W b.y (-1073741824) 1073741824 (hasB b.m 1))
  have C_vx := Lib.hid (fun W => inR_any W b.vx (-1073741824) 1073741824 (hasB b.m 2))
  have C_vy := Lib.hid (fun W => inR_any W b.vy (-1073741824) 1073741824 (hasB b.m 2))
  have C_hp := Lib.hid (fun W => inR_any W b.hp (1) 1048576 (hasB b.m 4))
  have C_pw := Lib.hid (fun W => inR_any W b.pw (0) 1024 (hasB b.m 8))
  have C_lf := Lib.hid (fun W => inR_any W b.lf (1) 1048576 (hasB b.m 16))
  have hEE : E = (inB (hasB b.m 1) b.x (-1073741824) 1073741824 && (inB (hasB b.m 1) b.y (-1073741824) 1073741824 && (inB (hasB b.m 2) b.vx (-1073741824) 1073741824 && (inB (hasB b.m 2) b.vy (-1073741824) 1073741824 && (inB (hasB b.m 4) b.hp (1) 1048576 && (inB (hasB b.m 8) b.pw (0) 1024 && (inB (hasB b.m 16) b.lf (1) 1048576))))))) := by rw [hE]; unfold rightBd okI; rw [decide_eq_true h0, decide_eq_true h31]; rfl
  obtain ⟨t_x, ht_x⟩ : ∃ x, x = inB (hasB b.m 1) b.x (-1073741824) 1073741824 := ⟨_, rfl⟩
  rw [← ht_x] at C_x hEE
  obtain ⟨t_y, ht_y⟩ : ∃ x, x = inB (hasB b.m 1) b.y (-1073741824) 1073741824 := ⟨_, rfl⟩
  rw [← ht_y] at C_y hEE
  obtain ⟨t_vx, ht_vx⟩ : ∃ x, x = inB (hasB b.m 2) b.vx (-1073741824) 1073741824 := ⟨_, rfl⟩
  rw [← ht_vx] at C_vx hEE
  obtain ⟨t_vy, ht_vy⟩ : ∃ x, x = inB (hasB b.m 2) b.vy (-1073741824) 1073741824 := ⟨_, rfl⟩
  rw [← ht_vy] at C_vy hEE
  obtain ⟨t_hp, ht_hp⟩ : ∃ x, x = inB (hasB b.m 4) b.hp (1) 1048576 := ⟨_, rfl⟩
  rw [← ht_hp] at C_hp hEE
  obtain ⟨t_pw, ht_pw⟩ : ∃ x, x = inB (hasB b.m 8) b.pw (0) 1024 := ⟨_, rfl⟩
  rw [← ht_pw] at C_pw hEE
  obtain ⟨t_lf, ht_lf⟩ : ∃ x, x = inB (hasB b.m 16) b.lf (1) 1048576 := ⟨_, rfl⟩
  rw [← ht_lf] at C_lf hEE
  obtain ⟨g1, hg1⟩ : ∃ x, x = hasB b.m 1 := ⟨_, rfl⟩
  rw [← hg1] at B1 C_x C_y
  obtain ⟨g2, hg2⟩ : ∃ x, x = hasB b.m 2 := ⟨_, rfl⟩
  rw [← hg2] at B2 C_vx C_vy
  obtain ⟨g4, hg4⟩ : ∃ x, x = hasB b.m 4 := ⟨_, rfl⟩
  rw [← hg4] at B4 C_hp
  obtain ⟨g8, hg8⟩ : ∃ x, x = hasB b.m 8 := ⟨_, rfl⟩
  rw [← hg8] at B8 C_pw
  obtain ⟨g16, hg16⟩ : ∃ x, x = hasB b.m 16 := ⟨_, rfl⟩
  rw [← hg16] at B16 C_lf
  have HE := Lib.hid hEE
  clear hE hEE hm ht_x ht_y ht_vx ht_vy ht_hp ht_pw ht_lf hg1 hg2 hg4 hg8 hg16
  go_enter Tryz.func196, Tryz.ntmps196
  go_upto_region 3 with fail
  refine wp_world ?_
  intro W hW
  have KW : Hid (Keeps No w W) := Lib.hid (by rw [hW]; exact (Keeps.refl w).alloc _)
  have cb : cellsAt W w.heap.size 0 11 = some (bdC b) := by rw [hW]; simp [go_sem]
  have c3 := cellsAt_cell cb 3 _ rfl
  have c4 := cellsAt_cell cb 4 _ rfl
  have c5 := cellsAt_cell cb 5 _ rfl
  have c6 := cellsAt_cell cb 6 _ rfl
  have c7 := cellsAt_cell cb 7 _ rfl
  have c8 := cellsAt_cell cb 8 _ rfl
  have c9 := cellsAt_cell cb 9 _ rfl
  have c10 := cellsAt_cell cb 10 _ rfl
  simp only [Nat.zero_add] at c3 c4 c5 c6 c7 c8 c9 c10
  clear hW cb h0 h31
  cases t_x
  case false =>
    go_quiet (first | (go_at_call 197; with_reducible exact Calls.quiet_of_same (B1.out _)) | (go_at_call 256; first | (with_reducible exact Calls.quiet_of_same (C_x.out _)) | (with_reducible exact Calls.quiet_of_same (C_y.out _))))
    go_wp2
    go_ret
    exact ⟨by rw [HE.out]; simp, KW.out.drewN _⟩
  cases t_y
  case false =>
    go_quiet (first | (go_at_call 197; with_reducible exact Calls.quiet_of_same (B1.out _)) | (go_at_call 256; first | (with_reducible exact Calls.quiet_of_same (C_x.out _)) | (with_reducible exact Calls.quiet_of_same (C_y.out _))))
    go_wp2
    go_ret
    exact ⟨by rw [HE.out]; simp, KW.out.drewN _⟩
  go_quiet (first | (go_at_call 197; with_reducible exact Calls.quiet_of_same (B1.out _)) | (go_at_call 256; first | (with_reducible exact Calls.quiet_of_same (C_x.out _)) | (with_reducible exact Calls.quiet_of_same (C_y.out _))))
  rename_i n1
  go_upto_region 5 with fail
  refine wp_world ?_
  intro W5 hW5
  have K5 : Hid (Keeps No w W5) := Lib.hid (by rw [hW5]; exact KW.out.drewN _)
  replace c3 : W5.cell? ⟨w.heap.size, 3, none⟩ = some (.int .i64 b.m) := by rw [hW5]; exact c3
  replace c4 : W5.cell? ⟨w.heap.size, 4, none⟩ = some (.int .i64 b.x) := by rw [hW5]; exact c4
  replace c5 : W5.cell? ⟨w.heap.size, 5, none⟩ = some (.int .i64 b.y) := by rw [hW5]; exact c5
  replace c6 : W5.cell? ⟨w.heap.size, 6, none⟩ = some (.int .i64 b.vx) := by rw [hW5]; exact c6
  replace c7 : W5.cell? ⟨w.heap.size, 7, none⟩ = some (.int .i64 b.vy) := by rw [hW5]; exact c7
  replace c8 : W5.cell? ⟨w.heap.size, 8, none⟩ = some (.int .i64 b.hp) := by rw [hW5]; exact c8
  replace c9 : W5.cell? ⟨w.heap.size, 9, none⟩ = some (.int .i64 b.pw) := by rw [hW5]; exact c9
  replace c10 : W5.cell? ⟨w.heap.size, 10, none⟩ = some (.int .i64 b.lf) := by rw [hW5]; exact c10
  clear hW5
  cases t_vx
  case false =>
    go_quiet (first | (go_at_call 197; with_reducible exact Calls.quiet_of_same (B2.out _)) | (go_at_call 256; first | (with_reducible exact Calls.quiet_of_same (C_vx.out _)) | (with_reducible exact Calls.quiet_of_same (C_vy.out _))))
    go_wp2
    go_ret
    exact ⟨by rw [HE.out]; simp, K5.out.drewN _⟩
  cases t_vy
  case false =>
    go_quiet (first | (go_at_call 197; with_reducible exact Calls.quiet_of_same (B2.out _)) | (go_at_call 256; first | (with_reducible exact Calls.quiet_of_same (C_vx.out _)) | (with_reducible exact Calls.quiet_of_same (C_vy.out _))))
    go_wp2
    go_ret
    exact ⟨by rw [HE.out]; simp, K5.out.drewN _⟩
  go_quiet (first | (go_at_call 197; with_reducible exact Calls.quiet_of_same (B2.out _)) | (go_at_call 256; first | (with_reducible exact Calls.quiet_of_same (C_vx.out _)) | (with_reducible exact Calls.quiet_of_same (C_vy.out _))))
  rename_i n2
  go_upto_region 7 with fail
  refine wp_world ?_
  intro W7 hW7
  have K7 : Hid (Keeps No w W7) := Lib.hid (by rw [hW7]; exact K5.out.drewN _)
  replace c3 : W7.cell? ⟨w.heap.size, 3, none⟩ = some (.int .i64 b.m) := by rw [hW7]; exact c3
  replace c4 : W7.cell? ⟨w.heap.size, 4, none⟩ = some (.int .i64 b.x) := by rw [hW7]; exact c4
  replace c5 : W7.cell? ⟨w.heap.size, 5, none⟩ = some (.int .i64 b.y) := by rw [hW7]; exact c5
  replace c6 : W7.cell? ⟨w.heap.size, 6, none⟩ = some (.int .i64 b.vx) := by rw [hW7]; exact c6
  replace c7 : W7.cell? ⟨w.heap.size, 7, none⟩ = some (.int .i64 b.vy) := by rw [hW7]; exact c7
  replace c8 : W7.cell? ⟨w.heap.size, 8, none⟩ = some (.int .i64 b.hp) := by rw [hW7]; exact c8
  replace c9 : W7.cell? ⟨w.heap.size, 9, none⟩ = some (.int .i64 b.pw) := by rw [hW7]; exact c9
  replace c10 : W7.cell? ⟨w.heap.size, 10, none⟩ = some (.int .i64 b.lf) := by rw [hW7]; exact c10
  clear hW7
  cases t_hp
  case false =>
    go_quiet (first | (go_at_call 197; first | (with_reducible exact Calls.quiet_of_same (B4.out _)) | (with_reducible exact Calls.quiet_of_same (B8.out _)) | (with_reducible exact Calls.quiet_of_same (B16.out _))) | (go_at_call 256; first | (with_reducible exact Calls.quiet_of_same (C_hp.out _)) | (with_reducible exact Calls.quiet_of_same (C_pw.out _)) | (with_reducible exact Calls.quiet_of_same (C_lf.out _))))
    go_wp2
    go_ret
    exact ⟨by rw [HE.out]; simp, K7.out.drewN _⟩
  cases t_pw
  case false =>
    go_quiet (first | (go_at_call 197; first | (with_reducible exact Calls.quiet_of_same (B4.out _)) | (with_reducible exact Calls.quiet_of_same (B8.out _)) | (with_reducible exact Calls.quiet_of_same (B16.out _))) | (go_at_call 256; first | (with_reducible exact Calls.quiet_of_same (C_hp.out _)) | (with_reducible exact Calls.quiet_of_same (C_pw.out _)) | (with_reducible exact Calls.quiet_of_same (C_lf.out _))))
    go_wp2
    go_ret
    exact ⟨by rw [HE.out]; simp, K7.out.drewN _⟩
  go_quiet (first | (go_at_call 197; first | (with_reducible exact Calls.quiet_of_same (B4.out _)) | (with_reducible exact Calls.quiet_of_same (B8.out _)) | (with_reducible exact Calls.quiet_of_same (B16.out _))) | (go_at_call 256; first | (with_reducible exact Calls.quiet_of_same (C_hp.out _)) | (with_reducible exact Calls.quiet_of_same (C_pw.out _)) | (with_reducible exact Calls.quiet_of_same (C_lf.out _))))
  go_wp2
  go_ret
  exact ⟨by rw [HE.out]; simp, K7.out.drewN _⟩
end Go.Proofs.YtpbpgjfdledgoaaGreatDoor

/-
  The document's May. No conditions of its own.
-/
namespace Go.Proofs.YtpbpgjfdledgoaaGreatDoor
open Go.RowKit Go.Shelf Go.Sort Go.Joins Go.Deep

theorem right_m {b : Bd} (h : rightBd b = true) : i64 b.m := by
  unfold rightBd at h
  rw [Bool.and_eq_true] at h
  exact okI_i64 h.1
set_option maxRecDepth 100000 in
set_option maxHeartbeats 2000000 in
theorem mayR_any (w : World) (b : Bd) : Calls Tryz.prog 194 #[bdV b] w fun e w' => e = .returned (.bool (bdOk b)) ∧ Keeps No w w' := by
  obtain ⟨E, hE⟩ : ∃ x, x = bdOk b := ⟨_, rfl⟩
  rw [← hE]
  have CI := Lib.hid (fun W => rightID_any W b.id)
  have CR := Lib.hid (fun W => rightR_any W b)
  have hm := @right_m b
  unfold bdOk at hE
  obtain ⟨t1, ht1⟩ : ∃ x, x = idOk b.id := ⟨_, rfl⟩
  obtain ⟨t2, ht2⟩ : ∃ x, x = rightBd b := ⟨_, rfl⟩
  rw [← ht1] at CI hE
  rw [← ht2] at CR hE hm
  have HE := Lib.hid hE
  clear hE ht1 ht2
  have cb : cellsAt (w.alloc (.cells (bdC b).toArray 25)) w.heap.size 0 11 = some (bdC b) := by simp [go_sem]
  have CB := Lib.hid cb
  clear cb
  go_enter Tryz.func194, Tryz.ntmps194
  go_upto_region 1 with fail
  refine wp_world ?_
  intro W hW
  have KW : Hid (Keeps No w W) := Lib.hid (by rw [hW]; exact (Keeps.refl w).alloc _)
  have cW : cellsAt W w.heap.size 0 11 = some (bdC b) := by rw [hW]; exact CB.out
  have CW := Lib.hid cW
  have i0 : cellsAt W w.heap.size 0 3 = some (namC b.id) := cellsAt_part cW 0 (namC b.id) rfl (by simp)
  clear hW cW CB
  go_wp2_with fail
  (with_reducible refine (CI.out _).mono ?_)
  rintro e w1 ⟨rfl, hk1⟩
  have K1 := Lib.hid (KW.out.trans hk1 (fun _ _ h => h))
  have C1 := hk1.cellsAt CW.out
  clear hk1 i0
  cases t1
  · go_wp2
    go_ret
    exact ⟨by rw [HE.out]; simp, K1.out⟩
  go_wp2_with fail
  (with_reducible refine (CR.out _).mono ?_)
  rintro e w2 ⟨rfl, hk2⟩
  have K2 := Lib.hid (K1.out.trans hk2 (fun _ _ h => h))
  have C2 := hk2.cellsAt C1
  have c3 := cellsAt_cell C2 3 _ rfl
  simp only [Nat.zero_add] at c3
  clear hk2 C1 C2
  cases t2
  · go_wp2
    go_ret
    exact ⟨by rw [HE.out]; simp, K2.out⟩
  have B1 := Lib.hid (bit_any w2 b.m 1 (hm rfl) (by unfold bitC; omega))
  obtain ⟨g1, hg1⟩ : ∃ x, x = hasB b.m 1 := ⟨_, rfl⟩
  rw [← hg1] at B1 HE
  clear hg1 hm
  go_wp2_with fail
  (with_reducible refine B1.out.mono ?_)
  rintro e w3 ⟨rfl, rfl⟩
  go_wp2
  go_ret
  exact ⟨by rw [HE.out]; simp, K2.out⟩
end Go.Proofs.YtpbpgjfdledgoaaGreatDoor

/-
  The document's MayCmd. No conditions of its own.
-/
namespace Go.Proofs.YtpbpgjfdledgoaaGreatDoor
open Go.RowKit Go.Shelf Go.Sort Go.Joins Go.Deep

theorem eqlNam_run (W : World) (a : Nam) : (binOp .eql 23 (namV a) (.agg #[.int .i64 0, .int .i64 0, .int .i64 0])).run Tryz.prog W = .ok (.bool (neq a Nam.zero)) W := by
  obtain ⟨a0, a1, a2⟩ := a
  simp only [neq, Nam.zero]
  simp [go_sem]
  simp only [ite_ok, Bool.and_true]
  rfl
theorem eqlBd_run (W : World) (b : Bd) : (binOp .eql 25 (bdV b) (.agg #[.int .i64 0, .int .i64 0, .int .i64 0, .int .i64 0, .int .i64 0, .int .i64 0, .int .i64 0, .int .i64 0, .int .i64 0, .int .i64 0, .int .i64 0])).run Tryz.prog W = .ok (.bool (bdEq b Bd.zero)) W := run_eqlBd b Bd.zero W
set_option maxRecDepth 100000 in
set_option maxHeartbeats 4000000 in
theorem mayCmdR_any (w : World) (c : Cm) : Calls Tryz.prog 120 #[cmV c] w fun e w' => e = .returned (.bool (cmdOk c)) ∧ Keeps No w w' := by
  obtain ⟨E, hE⟩ : ∃ x, x = cmdOk c := ⟨_, rfl⟩
  rw [← hE]
  have HE := Lib.hid hE
  clear hE
  have CI := Lib.hid (fun W => rightID_any W c.id)
  have CM := Lib.hid (fun W => mayR_any W c.b)
  have CR := Lib.hid (fun W => rightR_any W c.b)
  have CT1 := Lib.hid (fun W => takesR_any W c.b.m)
  have CT2 := Lib.hid (fun W => takesR_any W c.m)
  have e1 := fun W => eqlNam_run W c.id
  have e2 := fun W => eqlBd_run W c.b
  have e3 := fun W => eqlNam_run W c.b.id
  obtain ⟨t1, ht1⟩ : ∃ x, x = idOk c.id := ⟨_, rfl⟩
  obtain ⟨t2, ht2⟩ : ∃ x, x = bdOk c.b := ⟨_, rfl⟩
  obtain ⟨t3, ht3⟩ : ∃ x, x = rightBd c.b := ⟨_, rfl⟩
  obtain ⟨t4, ht4⟩ : ∃ x, x = takesM c.b.m := ⟨_, rfl⟩
  obtain ⟨t5, ht5⟩ : ∃ x, x = takesM c.m := ⟨_, rfl⟩
  obtain ⟨N, hN⟩ : ∃ x, x = neq c.id Nam.zero := ⟨_, rfl⟩
  obtain ⟨Z, hZ⟩ : ∃ x, x = bdEq c.b Bd.zero := ⟨_, rfl⟩
  obtain ⟨M, hM⟩ : ∃ x, x = neq c.b.id Nam.zero := ⟨_, rfl⟩
  have HEE : Hid (E = bif c.k == 1 then N && (decide (c.m = 0) && t2) else
    bif c.k == 2 then t1 && (decide (c.m = 0) && Z) else
    bif c.k == 3 then t1 && (decide (c.m = 0) && (M && (t4 && t3))) else
    bif c.k == 4 then t1 && (Z && t5) else false) := Lib.hid (by rw [HE.out, ht1, ht2, ht3, ht4, ht5, hN, hZ, hM]; rfl)
  rw [← ht1] at CI
  rw [← ht2] at CM
  rw [← ht3] at CR
  rw [← ht4] at CT1
  rw [← ht5] at CT2
  rw [← hN] at e1
  rw [← hZ] at e2
  rw [← hM] at e3
  clear ht1 ht2 ht3 ht4 ht5 hN hZ hM HE
  have cb : cellsAt (w.alloc (.cells (cmC c).toArray 27)) w.heap.size 0 16 = some (cmC c) := by simp [go_sem]
  have CB := Lib.hid cb
  clear cb
  go_enter Tryz.func120, Tryz.ntmps120
  go_upto_region 1 with fail
  refine wp_world ?_
  intro W hW
  have KW : Hid (Keeps No w W) := Lib.hid (by rw [hW]; exact (Keeps.refl w).alloc _)
  have CW : Hid (cellsAt W w.heap.size 0 16 = some (cmC c)) := Lib.hid (by rw [hW]; exact CB.out)
  have i0 : cellsAt W w.heap.size 1 3 = some (namC c.id) := cellsAt_part CW.out 1 (namC c.id) rfl (by simp)
  have i4 : cellsAt W w.heap.size 4 11 = some (bdC c.b) := cellsAt_part CW.out 4 (bdC c.b) rfl (by simp)
  have i5 : cellsAt W w.heap.size 4 3 = some (namC c.b.id) := cellsAt_part CW.out 4 (namC c.b.id) rfl (by simp)
  have k0 := cellsAt_cell CW.out 0 _ rfl
  have k7 := cellsAt_cell CW.out 7 _ rfl
  have k15 := cellsAt_cell CW.out 15 _ rfl
  simp only [Nat.zero_add] at k0 k7 k15
  clear hW CB
  go_upto_region 3 with fail
  by_cases h : c.k = 1
  case pos =>
    have b1 : (c.k == 1) = true := by rw [h]; rfl
    have b2 : (c.k == 2) = false := by rw [h]; rfl
    have b3 : (c.k == 3) = false := by rw [h]; rfl
    have b4 : (c.k == 4) = false := by rw [h]; rfl
    have HF : Hid (E = (N && (decide (c.m = 0) && t2))) := Lib.hid (by rw [HEE.out, b1]; rfl)
    clear HEE h
    cases N
    case false =>
      go_wp2
      go_ret
      exact ⟨by rw [HF.out]; simp, KW.out⟩
    by_cases hm : c.m = 0
    case neg =>
      have hmb : (c.m == 0) = false := beq_eq_false_iff_ne.2 hm
      rw [decide_eq_false hm] at HF
      clear hm
      go_wp2
      go_ret
      exact ⟨by rw [HF.out]; simp, KW.out⟩
    have hmb : (c.m == 0) = true := beq_iff_eq.2 hm
    rw [decide_eq_true hm] at HF
    clear hm
    go_wp2_with fail
    (with_reducible refine (CM.out _).mono ?_)
    rintro e w1 ⟨rfl, hk⟩
    have K1 := Lib.hid (KW.out.trans hk (fun _ _ h => h))
    replace CW := Lib.hid (hk.cellsAt CW.out)
    clear i0 i4 i5 k0 k7 k15 hk
    have i4 : cellsAt w1 w.heap.size 4 11 = some (bdC c.b) := cellsAt_part CW.out 4 (bdC c.b) rfl (by simp)
    have i5 : cellsAt w1 w.heap.size 4 3 = some (namC c.b.id) := cellsAt_part CW.out 4 (namC c.b.id) rfl (by simp)
    have k7 := cellsAt_cell CW.out 7 _ rfl
    have k15 := cellsAt_cell CW.out 15 _ rfl
    simp only [Nat.zero_add] at k7 k15
    have i0 := i5
    have k0 := k7
    go_wp2
    go_ret
    exact ⟨by rw [HF.out]; simp, K1.out⟩
  by_cases h : c.k = 2
  case pos =>
    have b1 : (c.k == 1) = false := by rw [h]; rfl
    have b2 : (c.k == 2) = true := by rw [h]; rfl
    have b3 : (c.k == 3) = false := by rw [h]; rfl
    have b4 : (c.k == 4) = false := by rw [h]; rfl
    have HF : Hid (E = (t1 && (decide (c.m = 0) && Z))) := Lib.hid (by rw [HEE.out, b1, b2]; rfl)
    clear HEE h
    go_wp2_with fail
    (with_reducible refine (CI.out _).mono ?_)
    rintro e w1 ⟨rfl, hk⟩
    have K1 := Lib.hid (KW.out.trans hk (fun _ _ h => h))
    replace CW := Lib.hid (hk.cellsAt CW.out)
    clear i0 i4 i5 k0 k7 k15 hk
    have i4 : cellsAt w1 w.heap.size 4 11 = some (bdC c.b) := cellsAt_part CW.out 4 (bdC c.b) rfl (by simp)
    have i5 : cellsAt w1 w.heap.size 4 3 = some (namC c.b.id) := cellsAt_part CW.out 4 (namC c.b.id) rfl (by simp)
    have k7 := cellsAt_cell CW.out 7 _ rfl
    have k15 := cellsAt_cell CW.out 15 _ rfl
    simp only [Nat.zero_add] at k7 k15
    have i0 := i5
    have k0 := k7
    cases t1
    case false =>
      go_wp2
      go_ret
      exact ⟨by rw [HF.out]; simp, K1.out⟩
    by_cases hm : c.m = 0
    case neg =>
      have hmb : (c.m == 0) = false := beq_eq_false_iff_ne.2 hm
      rw [decide_eq_false hm] at HF
      clear hm
      go_wp2
      go_ret
      exact ⟨by rw [HF.out]; simp, K1.out⟩
    have hmb : (c.m == 0) = true := beq_iff_eq.2 hm
    rw [decide_eq_true hm] at HF
    clear hm
    go_wp2
    go_ret
    exact ⟨by rw [HF.out]; simp, K1.out⟩
  by_cases h : c.k = 3
  case pos =>
    have b1 : (c.k == 1) = false := by rw [h]; rfl
    have b2 : (c.k == 2) = false := by rw [h]; rfl
    have b3 : (c.k == 3) = true := by rw [h]; rfl
    have b4 : (c.k == 4) = false := by rw [h]; rfl
    have HF : Hid (E = (t1 && (decide (c.m = 0) && (M && (t4 && t3))))) := Lib.hid (by rw [HEE.out, b1, b2, b3]; rfl)
    clear HEE h
    go_wp2_with fail
    (with_reducible refine (CI.out _).mono ?_)
    rintro e w1 ⟨rfl, hk⟩
    have K1 := Lib.hid (KW.out.trans hk (fun _ _ h => h))
    replace CW := Lib.hid (hk.cellsAt CW.out)
    clear i0 i4 i5 k0 k7 k15 hk
    have i4 : cellsAt w1 w.heap.size 4 11 = some (bdC c.b) := cellsAt_part CW.out 4 (bdC c.b) rfl (by simp)
    have i5 : cellsAt w1 w.heap.size 4 3 = some (namC c.b.id) := cellsAt_part CW.out 4 (namC c.b.id) rfl (by simp)
    have k7 := cellsAt_cell CW.out 7 _ rfl
    have k15 := cellsAt_cell CW.out 15 _ rfl
    simp only [Nat.zero_add] at k7 k15
    have i0 := i5
    have k0 := k7
    cases t1
    case false =>
      go_wp2
      go_ret
      exact ⟨by rw [HF.out]; simp, K1.out⟩
    by_cases hm : c.m = 0
    case neg =>
      have hmb : (c.m == 0) = false := beq_eq_false_iff_ne.2 hm
      rw [decide_eq_false hm] at HF
      clear hm
      go_wp2
      go_ret
      exact ⟨by rw [HF.out]; simp, K1.out⟩
    have hmb : (c.m == 0) = true := beq_iff_eq.2 hm
    rw [decide_eq_true hm] at HF
    clear hm
    cases M
    case false =>
      go_wp2
      go_ret
      exact ⟨by rw [HF.out]; simp, K1.out⟩
    have k7b : w1.cell? ⟨w.heap.size, 7, none⟩ = some (.int .i64 c.b.m) := k7
    go_wp2_with fail
    (with_reducible refine (CT1.out _).mono ?_)
    rintro e w2 ⟨rfl, rfl⟩
    cases t4
    case false =>
      go_wp2
      go_ret
      exact ⟨by rw [HF.out]; simp, K1.out⟩
    go_wp2_with fail
    (with_reducible refine (CR.out _).mono ?_)
    rintro e w3 ⟨rfl, hk⟩
    have K3 := Lib.hid (K1.out.trans hk (fun _ _ h => h))
    replace CW := Lib.hid (hk.cellsAt CW.out)
    clear i0 i4 i5 k0 k7 k15 hk
    have i4 : cellsAt w3 w.heap.size 4 11 = some (bdC c.b) := cellsAt_part CW.out 4 (bdC c.b) rfl (by simp)
    have i5 : cellsAt w3 w.heap.size 4 3 = some (namC c.b.id) := cellsAt_part CW.out 4 (namC c.b.id) rfl (by simp)
    have k7 := cellsAt_cell CW.out 7 _ rfl
    have k15 := cellsAt_cell CW.out 15 _ rfl
    simp only [Nat.zero_add] at k7 k15
    have i0 := i5
    have k0 := k7
    go_wp2
    go_ret
    exact ⟨by rw [HF.out]; simp, K3.out⟩
  by_cases h : c.k = 4
  case pos =>
    have b1 : (c.k == 1) = false := by rw [h]; rfl
    have b2 : (c.k == 2) = false := by rw [h]; rfl
    have b3 : (c.k == 3) = false := by rw [h]; rfl
    have b4 : (c.k == 4) = true := by rw [h]; rfl
    have HF : Hid (E = (t1 && (Z && t5))) := Lib.hid (by rw [HEE.out, b1, b2, b3, b4]; rfl)
    clear HEE h
    go_wp2_with fail
    (with_reducible refine (CI.out _).mono ?_)
    rintro e w1 ⟨rfl, hk⟩
    have K1 := Lib.hid (KW.out.trans hk (fun _ _ h => h))
    replace CW := Lib.hid (hk.cellsAt CW.out)
    clear i0 i4 i5 k0 k7 k15 hk
    have i4 : cellsAt w1 w.heap.size 4 11 = some (bdC c.b) := cellsAt_part CW.out 4 (bdC c.b) rfl (by simp)
    have i5 : cellsAt w1 w.heap.size 4 3 = some (namC c.b.id) := cellsAt_part CW.out 4 (namC c.b.id) rfl (by simp)
    have k7 := cellsAt_cell CW.out 7 _ rfl
    have k15 := cellsAt_cell CW.out 15 _ rfl
    simp only [Nat.zero_add] at k7 k15
    have i0 := i5
    have k0 := k7
    cases t1
    case false =>
      go_wp2
      go_ret
      exact ⟨by rw [HF.out]; simp, K1.out⟩
    cases Z
    case false =>
      go_wp2
      go_ret
      exact ⟨by rw [HF.out]; simp, K1.out⟩
    go_wp2_with fail
    (with_reducible refine (CT2.out _).mono ?_)
    rintro e w2 ⟨rfl, rfl⟩
    go_wp2
    go_ret
    exact ⟨by rw [HF.out]; simp, K1.out⟩
  rename_i q1 q2 q3
  have b1 : (c.k == 1) = false := beq_eq_false_iff_ne.2 q1
  have b2 : (c.k == 2) = false := beq_eq_false_iff_ne.2 q2
  have b3 : (c.k == 3) = false := beq_eq_false_iff_ne.2 q3
  have b4 : (c.k == 4) = false := beq_eq_false_iff_ne.2 h
  have HF : Hid (E = false) := Lib.hid (by rw [HEE.out, b1, b2, b3, b4]; rfl)
  clear q1 q2 q3 h HEE
  go_wp2
  go_ret
  exact ⟨by rw [HF.out]; simp, KW.out⟩
end Go.Proofs.YtpbpgjfdledgoaaGreatDoor

/-
  The document's ID: a name's bytes. No conditions of its own.
-/
namespace Go.Proofs.YtpbpgjfdledgoaaGreatDoor
open Go.RowKit Go.Shelf Go.Sort Go.Joins Go.Deep

set_option maxRecDepth 100000 in
set_option maxHeartbeats 2000000 in
theorem rputNam_no (w : World) (a : Nam) (hb : idOk a = false) : Calls Tryz.prog 125 #[namV a] w fun e w' => e = .returned (strB (putNam a)) ∧ Keeps No w w' := by
  have CI := Lib.hid (fun W => rightID_any W a)
  have hP : putNam a = [] := by unfold putNam; rw [hb]; rfl
  rw [hP]
  rw [hb] at CI
  clear hb hP
  go_enter Tryz.func125, Tryz.ntmps125
  go_wp2_with fail
  (with_reducible refine (CI.out _).mono ?_)
  rintro e w1 ⟨rfl, hk⟩
  have K1 : Hid (Keeps No w w1) := Lib.hid (((Keeps.refl w).alloc _).trans hk (fun _ _ h => h))
  clear hk
  go_wp2
  go_ret
  exact ⟨rfl, K1.out⟩
set_option maxRecDepth 100000 in
set_option maxHeartbeats 4000000 in
theorem rputNam_ok (w : World) (a : Nam) (hb : idOk a = true) : Calls Tryz.prog 125 #[namV a] w fun e w' => e = .returned (strB (putNam a)) ∧ Keeps No w w' := by
  have CI := Lib.hid (fun W => rightID_any W a)
  have hP : putNam a = layI a.s ++ layI a.i ++ layI a.g := by unfold putNam; rw [hb]; rfl
  obtain ⟨R, hR⟩ : ∃ x, x = strB (putNam a) := ⟨_, rfl⟩
  rw [← hR]
  rw [hP] at hR
  rw [hb] at CI
  have hb2 := hb
  unfold idOk at hb2
  simp only [Bool.and_eq_true] at hb2
  obtain ⟨X0, hX0⟩ : ∃ x, x = toB (layI a.s) := ⟨_, rfl⟩
  obtain ⟨X1, hX1⟩ : ∃ x, x = toB (layI a.i) := ⟨_, rfl⟩
  obtain ⟨X2, hX2⟩ : ∃ x, x = toB (layI a.g) := ⟨_, rfl⟩
  obtain ⟨X3, hX3⟩ : ∃ x, x = toB (layI a.s ++ layI a.i) := ⟨_, rfl⟩
  obtain ⟨X4, hX4⟩ : ∃ x, x = toB (layI a.s ++ layI a.i ++ layI a.g) := ⟨_, rfl⟩
  have HR : Hid (R = .string X4) := Lib.hid (by rw [hR, hX4]; rfl)
  have C0 := Lib.hid (fun W => calls_str hX0 (rint_any W a.s (okI_i64 hb2.1)))
  have C1 := Lib.hid (fun W => calls_str hX1 (rint_any W a.i (okI_i64 hb2.2.1)))
  have C2 := Lib.hid (fun W => calls_str hX2 (rint_any W a.g (okI_i64 hb2.2.2)))
  have hcat := fun W' : World => cat_run W' (layI a.s) (layI a.i) (by have := layI_le a.s; omega) (by have := layI_le a.i; omega)
  rw [← hX0, ← hX1, ← hX3] at hcat
  have hcat2 := fun W' : World => cat_run W' (layI a.s ++ layI a.i) (layI a.g) (by have := layI_le a.s; have := layI_le a.i; rw [List.length_append]; omega) (by have := layI_le a.g; omega)
  rw [← hX2, ← hX3, ← hX4] at hcat2
  have CB : Hid (cellsAt (w.alloc (.cells (namC a).toArray 23)) w.heap.size 0 3 = some (namC a)) := Lib.hid (by simp [go_sem])
  clear hb hb2 hP hR hX0 hX1 hX2 hX3 hX4
  go_enter Tryz.func125, Tryz.ntmps125
  go_wp2_with fail
  (with_reducible refine (CI.out _).mono ?_)
  rintro e W ⟨rfl, hk⟩
  have KW : Hid (Keeps No w W) := Lib.hid (((Keeps.refl w).alloc _).trans hk (fun _ _ h => h))
  have cW := hk.cellsAt CB.out
  have m0 := cellsAt_cell cW 0 _ rfl
  have m1 := cellsAt_cell cW 1 _ rfl
  have m2 := cellsAt_cell cW 2 _ rfl
  simp only [Nat.zero_add] at m0 m1 m2
  have L0 : ∀ w', Keeps No W w' → w'.cell? ⟨w.heap.size, 0, none⟩ = some (.int .i64 a.s) := fun w' k => k.cell m0 (fun h => h)
  have L1 : ∀ w', Keeps No W w' → w'.cell? ⟨w.heap.size, 1, none⟩ = some (.int .i64 a.i) := fun w' k => k.cell m1 (fun h => h)
  have L2 : ∀ w', Keeps No W w' → w'.cell? ⟨w.heap.size, 2, none⟩ = some (.int .i64 a.g) := fun w' k => k.cell m2 (fun h => h)
  clear hk CB cW m0 m1 m2 CI
  go_upto_region 3 with fail
  go_region_held3 (fun w' => Keeps No W w')
    (first | assumption | exact (Keeps.refl W).drew | exact Keeps.refl W)
    (first
      | (go_at_call 53
         have hc := C0.out
         with_reducible refine (hc _).mono ?_
         clear hc
         rintro e w5 ⟨rfl, hk⟩
         have hS1 : Keeps No W w5 := Keeps.trans (by first | assumption | exact (Keeps.refl W).drew | exact Keeps.refl W) hk (fun _ _ h => h))
      | (go_at_call 53
         have hc := C1.out
         with_reducible refine (hc _).mono ?_
         clear hc
         rintro e w6 ⟨rfl, hk⟩
         have hS2 : Keeps No W w6 := Keeps.trans (by first | assumption | exact (Keeps.refl W).drew | exact Keeps.refl W) hk (fun _ _ h => h))
      | (go_at_call 53
         have hc := C2.out
         with_reducible refine (hc _).mono ?_
         clear hc
         rintro e w7 ⟨rfl, hk⟩
         have hS3 : Keeps No W w7 := Keeps.trans (by first | assumption | exact (Keeps.refl W).drew | exact Keeps.refl W) hk (fun _ _ h => h)))
  all_goals go_wp2
  all_goals go_ret
  all_goals exact ⟨by rw [HR.out]; rfl, KW.out.trans hS3 (fun _ _ h => h)⟩
theorem rputNam_any (w : World) (a : Nam) : Calls Tryz.prog 125 #[namV a] w fun e w' => e = .returned (strB (putNam a)) ∧ Keeps No w w' := by
  cases hb : idOk a with
  | false => exact rputNam_no w a hb
  | true => exact rputNam_ok w a hb
end Go.Proofs.YtpbpgjfdledgoaaGreatDoor

/-
  The document's IDs: a list of names, its bytes. No conditions of its own.
-/
namespace Go.Proofs.YtpbpgjfdledgoaaGreatDoor
open Go.RowKit Go.Shelf Go.Sort Go.Joins Go.Deep

set_option maxRecDepth 100000 in
set_option maxHeartbeats 4000000 in
theorem rids_any (w : World) (v : Value) (l : List Nam) (hv : RdOf cNam w v l) (hl : l.length ≤ 1024) : Calls Tryz.prog 55 #[v] w fun e w' => e = .returned (strB (putL putNam l)) ∧ Keeps No w w' := by
  obtain ⟨va, vc, rfl⟩ := hv.slice
  have HV := Lib.hid hv
  have hl1 : (l.length : Int) ≤ 1024 := by omega
  obtain ⟨R, hR⟩ : ∃ x, x = strB (putL putNam l) := ⟨_, rfl⟩
  rw [← hR]
  have HR : Hid (R = .string (toB (accL l.length l))) := Lib.hid hR
  obtain ⟨X0, hX0⟩ : ∃ x, x = toB (layI (l.length : Int)) := ⟨_, rfl⟩
  have C0 := Lib.hid (calls_str hX0 (rint_any w (l.length : Int) ⟨by omega, by omega⟩))
  have HX0 : Hid (X0 = toB (accL l.length (l.take 0))) := Lib.hid (by rw [hX0]; simp [accL])
  have HL := Lib.hid hl
  clear hv hR hX0 hl
  go_enter Tryz.func55, Tryz.ntmps55
  go_wp2_with fail
  (with_reducible refine C0.out.mono ?_)
  rintro e w1 ⟨rfl, hk1⟩
  have K1 := Lib.hid hk1
  clear hk1
  go_wp2
  go_loopw [3, 4] (fun s q wr => ∃ k : Nat, k ≤ l.length ∧ q = .int .i64 k ∧ s = .string (toB (accL l.length (l.take k))) ∧ Keeps No w wr) (fun _ q _ => l.length - (intOf q).toNat)
  case atStart => exact ⟨0, Nat.zero_le _, rfl, by rw [HX0.out], K1.out⟩
  case round =>
    obtain ⟨k, hk, rfl, rfl, hK⟩ := hrel
    have KJ := Lib.hid hK
    have hk0 : (0 : Int) ≤ (k : Int) := by omega
    by_cases hlt : k < l.length
    · have hki : (k : Int) < (l.length : Int) := by omega
      have hrr : RdOf cNam wr (.slice va l.length vc) l := HV.out.kept hK (fun _ _ h => h)
      obtain ⟨g, off, rfl, _, _, _⟩ := RdOf.addr cNam hrr (by omega)
      have cr : cellsAt wr g (off + k * 3) 3 = some (namC l[k]) := RdOf.at cNam hrr k hlt
      obtain ⟨a, ha⟩ : ∃ a, a = l[k] := ⟨_, rfl⟩
      rw [← ha] at cr
      obtain ⟨XA, hXA⟩ : ∃ x, x = toB (putNam a) := ⟨_, rfl⟩
      have CP := Lib.hid (fun W => calls_str hXA (rputNam_any W a))
      have hsn := accL_snoc l.length (l.take k) a
      rw [ha, ← List.take_succ_eq_append_getElem hlt, ← ha] at hsn
      have hcat := fun W' : World => cat_run W' (accL l.length (l.take k)) (putNam a) (by have := accL_le l.length (l.take k) (by rw [List.length_take]; have := HL.out; omega); omega) (by have := putNam_le a; omega)
      rw [← hsn, ← hXA] at hcat
      obtain ⟨S, hS⟩ : ∃ S, S = toB (accL l.length (l.take k)) := ⟨_, rfl⟩
      obtain ⟨S', hS'⟩ : ∃ S, S = toB (accL l.length (l.take (k + 1))) := ⟨_, rfl⟩
      have HS' := Lib.hid hS'
      rw [← hS, ← hS'] at hcat
      rw [← hS]
      clear hrr ha hK hS hS' hsn hXA
      go_wp2_with fail
      (with_reducible refine (CP.out _).mono ?_)
      rintro e w3 ⟨rfl, hk3⟩
      have K3 : Hid (Keeps No w w3) := Lib.hid (KJ.out.trans hk3 (fun _ _ h => h))
      clear hk3 cr
      go_wp2
      go_roundw
      case rel => exact ⟨k + 1, by omega, by go_num, by rw [HS'.out], K3.out⟩
      case measure => simp [intOf]; omega
    · have hkl : k = l.length := by omega
      have HF : Hid (R = .string (toB (accL l.length (l.take k)))) := Lib.hid (by rw [HR.out, hkl, List.take_length])
      obtain ⟨S, hS⟩ : ∃ S, S = toB (accL l.length (l.take k)) := ⟨_, rfl⟩
      rw [← hS] at HF ⊢
      clear hS hK
      go_wp2
      go_ret
      exact ⟨by rw [HF.out]; rfl, KJ.out⟩
end Go.Proofs.YtpbpgjfdledgoaaGreatDoor

/-
  The document's SameIDs, at lists that are the same. No conditions of its own.
-/
namespace Go.Proofs.YtpbpgjfdledgoaaGreatDoor
open Go.RowKit Go.Shelf Go.Sort Go.Joins Go.Deep

set_option maxRecDepth 100000 in
set_option maxHeartbeats 2000000 in
theorem sameIDs_eq (w : World) (v u : Value) (l : List Nam) (hv : RdOf cNam w v l) (hu : RdOf cNam w u l) (hl : l.length ≤ 1048576) : Calls Tryz.prog 69 #[v, u] w fun e w' => e = .returned (.bool true) ∧ Keeps No w w' := by
  obtain ⟨va, vc, rfl⟩ := hv.slice
  obtain ⟨ua, uc, rfl⟩ := hu.slice
  have HV := Lib.hid hv
  have HU := Lib.hid hu
  have hl1 : (l.length : Int) ≤ 1048576 := by omega
  clear hv hu hl
  go_enter Tryz.func69, Tryz.ntmps69
  go_wp2
  go_loopw [5] (fun q wr => ∃ k : Nat, k ≤ l.length ∧ q = .int .i64 k ∧ Keeps No w wr) (fun q _ => l.length - (intOf q).toNat)
  case atStart => exact ⟨0, Nat.zero_le _, rfl, Keeps.refl _⟩
  case round =>
    obtain ⟨k, hk, rfl, hK⟩ := hrel
    have KJ := Lib.hid hK
    have hk0 : (0 : Int) ≤ (k : Int) := by omega
    by_cases hlt : k < l.length
    · have hki : (k : Int) < (l.length : Int) := by omega
      have hrr : RdOf cNam wr (.slice va l.length vc) l := HV.out.kept hK (fun _ _ h => h)
      have hss : RdOf cNam wr (.slice ua l.length uc) l := HU.out.kept hK (fun _ _ h => h)
      obtain ⟨g, off, rfl, _, _, _⟩ := RdOf.addr cNam hrr (by omega)
      obtain ⟨g2, off2, rfl, _, _, _⟩ := RdOf.addr cNam hss (by omega)
      have cr : cellsAt wr g (off + k * 3) 3 = some (namC l[k]) := RdOf.at cNam hrr k hlt
      have cs : cellsAt wr g2 (off2 + k * 3) 3 = some (namC l[k]) := RdOf.at cNam hss k hlt
      obtain ⟨a, ha⟩ : ∃ a, a = l[k] := ⟨_, rfl⟩
      rw [← ha] at cr cs
      clear hrr hss ha hK
      go_wp2
      go_quiet (fail)
      rename_i nq
      go_wp2
      go_roundw
      case rel => exact ⟨k + 1, by omega, by go_num, KJ.out.drewN _⟩
      case measure => simp [intOf]; omega
    · clear hK
      go_wp2
      go_ret
      exact ⟨rfl, KJ.out⟩
end Go.Proofs.YtpbpgjfdledgoaaGreatDoor

/-
  The document's rest: an entity's bytes behind its name. No conditions of its own.
-/
namespace Go.Proofs.YtpbpgjfdledgoaaGreatDoor
open Go.RowKit Go.Shelf Go.Sort Go.Joins Go.Deep

def StAt (w : World) (g : Nat) (b : Bd) (s : Nm) (o : Value) (wc : World) : Prop := o = .string (toB s) ∧ cellsAt wc g 0 11 = some (bdC b) ∧ Keeps No w wc
set_option maxRecDepth 100000 in
set_option maxHeartbeats 8000000 in
theorem rputRest_any (w : World) (b : Bd) (hb : rightBd b = true) : Calls Tryz.prog 126 #[bdV b] w fun e w' => e = .returned (strB (putRest b)) ∧ Keeps No w w' := by
  obtain ⟨hm, hf⟩ := fld_ok hb
  have HM := Lib.hid hm
  have Hx : Hid (i64 b.x) := Lib.hid (hf 4)
  have Hy : Hid (i64 b.y) := Lib.hid (hf 5)
  have Hvx : Hid (i64 b.vx) := Lib.hid (hf 6)
  have Hvy : Hid (i64 b.vy) := Lib.hid (hf 7)
  have Hhp : Hid (i64 b.hp) := Lib.hid (hf 8)
  have Hpw : Hid (i64 b.pw) := Lib.hid (hf 9)
  have Hlf : Hid (i64 b.lf) := Lib.hid (hf 10)
  clear hm hf hb
  have CB : Hid (cellsAt (w.alloc (.cells (bdC b).toArray 25)) w.heap.size 0 11 = some (bdC b)) := Lib.hid (by simp [go_sem])
  obtain ⟨X0, hX0⟩ : ∃ x, x = toB (layI b.m) := ⟨_, rfl⟩
  have C0 := Lib.hid (fun W => calls_str hX0 (rint_any W b.m HM.out))
  have HX0 := Lib.hid hX0
  clear hX0
  obtain ⟨gb, hgb⟩ : ∃ g, g = w.heap.size := ⟨_, rfl⟩
  go_enter Tryz.func126, Tryz.ntmps126
  go_upto_region 1 with fail
  refine wp_world ?_
  intro W0 hW0
  have c0 : cellsAt W0 w.heap.size 0 11 = some (bdC b) := by rw [hW0]; exact CB.out
  have K0 : Hid (Keeps No w W0) := Lib.hid (by rw [hW0]; exact (Keeps.refl w).alloc _)
  rw [← hgb] at c0 ⊢
  have m3 := cellsAt_cell c0 3 _ rfl
  simp only [Nat.zero_add] at m3
  clear hW0 CB hgb
  go_wp2_with fail
  (with_reducible refine (C0.out _).mono ?_)
  rintro e wc ⟨rfl, hk⟩
  have KC0 : Hid (Keeps No w wc) := Lib.hid (K0.out.trans hk (fun _ _ h => h))
  have d0 := hk.cellsAt c0
  have m0 := cellsAt_cell d0 3 _ rfl
  simp only [Nat.zero_add] at m0
  clear hk c0 K0 C0 m3
  obtain ⟨W0, hw0⟩ : ∃ x : World, x = wc := ⟨_, rfl⟩
  subst hw0
  obtain ⟨T, hT⟩ : ∃ x, x = hasB b.m 1 := ⟨_, rfl⟩
  have CBt := Lib.hid (fun W => bit_any W b.m 1 HM.out (by unfold bitC; omega))
  rw [← hT] at CBt
  have HT := Lib.hid hT
  clear hT
  go_wp2_with fail
  (with_reducible refine (CBt.out _).mono ?_)
  rintro e wz ⟨rfl, rfl⟩
  obtain ⟨W0, hw0⟩ : ∃ x : World, x = wz := ⟨_, rfl⟩
  subst hw0
  clear CBt
  go_upto_if 9 with fail
  go_cut [3] (StAt w gb b (layI b.m ++ putIf (hasB b.m 1) b.x ++ putIf (hasB b.m 1) b.y))
  case first =>
    cases T with
    | false =>
      have E : Hid ((layI b.m ++ putIf (hasB b.m 1) b.x ++ putIf (hasB b.m 1) b.y) = (layI b.m)) := Lib.hid (by rw [← HT.out]; simp [putIf])
      clear HT
      go_wp2_with fail
      go_meet
      exact ⟨by rw [E.out, ← HX0.out], d0, KC0.out⟩
    | true =>
      have E : Hid ((layI b.m ++ putIf (hasB b.m 1) b.x ++ putIf (hasB b.m 1) b.y) = (layI b.m) ++ layI b.x ++ layI b.y) := Lib.hid (by rw [← HT.out]; rfl)
      have hlen : (layI b.m).length ≤ 100 := by
        have := layI_le b.m
        try simp only [List.length_append]
        omega
      clear HT
      obtain ⟨V0, hV0⟩ : ∃ x, x = toB (layI b.x) := ⟨_, rfl⟩
      have P0 := Lib.hid (fun W => calls_str hV0 (rint_any W b.x Hx.out))
      obtain ⟨Y0, hY0⟩ : ∃ x, x = toB ((layI b.m) ++ layI b.x) := ⟨_, rfl⟩
      have hcat0 := fun W' : World => cat_run W' ((layI b.m)) (layI b.x) (by omega) (by have := layI_le b.x; omega)
      rw [← hV0, ← hY0, ← HX0.out] at hcat0
      have cf0 := cellsAt_cell d0 4 _ rfl
      simp only [Nat.zero_add] at cf0
      obtain ⟨V1, hV1⟩ : ∃ x, x = toB (layI b.y) := ⟨_, rfl⟩
      have P1 := Lib.hid (fun W => calls_str hV1 (rint_any W b.y Hy.out))
      obtain ⟨Y1, hY1⟩ : ∃ x, x = toB ((layI b.m) ++ layI b.x ++ layI b.y) := ⟨_, rfl⟩
      have hcat1 := fun W' : World => cat_run W' ((layI b.m) ++ layI b.x) (layI b.y) (by have := layI_le b.x; rw [List.length_append]; omega) (by have := layI_le b.y; omega)
      rw [← hV1, ← hY1, ← hY0] at hcat1
      have cf1 := cellsAt_cell d0 5 _ rfl
      simp only [Nat.zero_add] at cf1
      have HY : Hid (Y1 = toB (layI b.m ++ putIf (hasB b.m 1) b.x ++ putIf (hasB b.m 1) b.y)) := Lib.hid (by rw [hY1, E.out])
      clear hlen E hV0 hY0 hV1 hY1
      obtain ⟨w1, hw1⟩ : ∃ x : World, x = W0 := ⟨_, rfl⟩
      subst hw1
      have L0 : ∀ w', Keeps No w1 w' → w'.cell? ⟨gb, 4, none⟩ = some (.int .i64 b.x) := fun w' k => k.cell cf0 (fun h => h)
      have L1 : ∀ w', Keeps No w1 w' → w'.cell? ⟨gb, 5, none⟩ = some (.int .i64 b.y) := fun w' k => k.cell cf1 (fun h => h)
      have HD := Lib.hid d0
      clear cf0 cf1 d0
      go_upto_region 3 with fail
      go_region_held3 (fun w' => Keeps No w1 w')
        (first | assumption | exact (Keeps.refl w1).drew | exact Keeps.refl w1)
        (first
          | (go_at_call 53
             have hc := P0.out
             with_reducible refine (hc _).mono ?_
             clear hc
             rintro e w5 ⟨rfl, hk⟩
             have hS1 : Keeps No w1 w5 := Keeps.trans (by first | assumption | exact (Keeps.refl w1).drew | exact Keeps.refl w1) hk (fun _ _ h => h))
          | (go_at_call 53
             have hc := P1.out
             with_reducible refine (hc _).mono ?_
             clear hc
             rintro e w6 ⟨rfl, hk⟩
             have hS2 : Keeps No w1 w6 := Keeps.trans (by first | assumption | exact (Keeps.refl w1).drew | exact Keeps.refl w1) hk (fun _ _ h => h)))
      all_goals go_wp2_with fail
      all_goals go_meet
      all_goals exact ⟨by rw [← HY.out], hS2.cellsAt HD.out, KC0.out.trans hS2 (fun _ _ h => h)⟩
  case rest =>
    clear HT
    obtain ⟨W1, hw1⟩ : ∃ x : World, x = wc := ⟨_, rfl⟩
    subst hw1
    obtain ⟨rfl, d1, kc1⟩ := hcut
    have KC1 := Lib.hid kc1
    have m1 := cellsAt_cell d1 3 _ rfl
    simp only [Nat.zero_add] at m1
    obtain ⟨X1, hX1⟩ : ∃ x, x = toB (layI b.m ++ putIf (hasB b.m 1) b.x ++ putIf (hasB b.m 1) b.y) := ⟨_, rfl⟩
    rw [← hX1]
    have HX1 := Lib.hid hX1
    clear kc1 hX1 d0 KC0 m0
    obtain ⟨T, hT⟩ : ∃ x, x = hasB b.m 2 := ⟨_, rfl⟩
    have CBt := Lib.hid (fun W => bit_any W b.m 2 HM.out (by unfold bitC; omega))
    rw [← hT] at CBt
    have HT := Lib.hid hT
    clear hT
    go_wp2_with fail
    (with_reducible refine (CBt.out _).mono ?_)
    rintro e wz ⟨rfl, rfl⟩
    obtain ⟨W1, hw1⟩ : ∃ x : World, x = wz := ⟨_, rfl⟩
    subst hw1
    clear CBt
    go_upto_if 21 with fail
    go_cut [3] (StAt w gb b (layI b.m ++ putIf (hasB b.m 1) b.x ++ putIf (hasB b.m 1) b.y ++ putIf (hasB b.m 2) b.vx ++ putIf (hasB b.m 2) b.vy))
    case first =>
      cases T with
      | false =>
        have E : Hid ((layI b.m ++ putIf (hasB b.m 1) b.x ++ putIf (hasB b.m 1) b.y ++ putIf (hasB b.m 2) b.vx ++ putIf (hasB b.m 2) b.vy) = (layI b.m ++ putIf (hasB b.m 1) b.x ++ putIf (hasB b.m 1) b.y)) := Lib.hid (by rw [← HT.out]; simp [putIf])
        clear HT
        go_wp2_with fail
        go_meet
        exact ⟨by rw [E.out, ← HX1.out], d1, KC1.out⟩
      | true =>
        have E : Hid ((layI b.m ++ putIf (hasB b.m 1) b.x ++ putIf (hasB b.m 1) b.y ++ putIf (hasB b.m 2) b.vx ++ putIf (hasB b.m 2) b.vy) = (layI b.m ++ putIf (hasB b.m 1) b.x ++ putIf (hasB b.m 1) b.y) ++ layI b.vx ++ layI b.vy) := Lib.hid (by rw [← HT.out]; rfl)
        have hlen : (layI b.m ++ putIf (hasB b.m 1) b.x ++ putIf (hasB b.m 1) b.y).length ≤ 100 := by
          have := layI_le b.m
          try simp only [List.length_append]
          have := putIf_le (hasB b.m 1) b.x
          have := putIf_le (hasB b.m 1) b.y
          omega
        clear HT
        obtain ⟨V0, hV0⟩ : ∃ x, x = toB (layI b.vx) := ⟨_, rfl⟩
        have P0 := Lib.hid (fun W => calls_str hV0 (rint_any W b.vx Hvx.out))
        obtain ⟨Y0, hY0⟩ : ∃ x, x = toB ((layI b.m ++ putIf (hasB b.m 1) b.x ++ putIf (hasB b.m 1) b.y) ++ layI b.vx) := ⟨_, rfl⟩
        have hcat0 := fun W' : World => cat_run W' ((layI b.m ++ putIf (hasB b.m 1) b.x ++ putIf (hasB b.m 1) b.y)) (layI b.vx) (by omega) (by have := layI_le b.vx; omega)
        rw [← hV0, ← hY0, ← HX1.out] at hcat0
        have cf0 := cellsAt_cell d1 6 _ rfl
        simp only [Nat.zero_add] at cf0
        obtain ⟨V1, hV1⟩ : ∃ x, x = toB (layI b.vy) := ⟨_, rfl⟩
        have P1 := Lib.hid (fun W => calls_str hV1 (rint_any W b.vy Hvy.out))
        obtain ⟨Y1, hY1⟩ : ∃ x, x = toB ((layI b.m ++ putIf (hasB b.m 1) b.x ++ putIf (hasB b.m 1) b.y) ++ layI b.vx ++ layI b.vy) := ⟨_, rfl⟩
        have hcat1 := fun W' : World => cat_run W' ((layI b.m ++ putIf (hasB b.m 1) b.x ++ putIf (hasB b.m 1) b.y) ++ layI b.vx) (layI b.vy) (by have := layI_le b.vx; rw [List.length_append]; omega) (by have := layI_le b.vy; omega)
        rw [← hV1, ← hY1, ← hY0] at hcat1
        have cf1 := cellsAt_cell d1 7 _ rfl
        simp only [Nat.zero_add] at cf1
        have HY : Hid (Y1 = toB (layI b.m ++ putIf (hasB b.m 1) b.x ++ putIf (hasB b.m 1) b.y ++ putIf (hasB b.m 2) b.vx ++ putIf (hasB b.m 2) b.vy)) := Lib.hid (by rw [hY1, E.out])
        clear hlen E hV0 hY0 hV1 hY1
        obtain ⟨w1, hw1⟩ : ∃ x : World, x = W1 := ⟨_, rfl⟩
        subst hw1
        have L0 : ∀ w', Keeps No w1 w' → w'.cell? ⟨gb, 6, none⟩ = some (.int .i64 b.vx) := fun w' k => k.cell cf0 (fun h => h)
        have L1 : ∀ w', Keeps No w1 w' → w'.cell? ⟨gb, 7, none⟩ = some (.int .i64 b.vy) := fun w' k => k.cell cf1 (fun h => h)
        have HD := Lib.hid d1
        clear cf0 cf1 d1
        go_upto_region 5 with fail
        go_region_held3 (fun w' => Keeps No w1 w')
          (first | assumption | exact (Keeps.refl w1).drew | exact Keeps.refl w1)
          (first
            | (go_at_call 53
               have hc := P0.out
               with_reducible refine (hc _).mono ?_
               clear hc
               rintro e w5 ⟨rfl, hk⟩
               have hS1 : Keeps No w1 w5 := Keeps.trans (by first | assumption | exact (Keeps.refl w1).drew | exact Keeps.refl w1) hk (fun _ _ h => h))
            | (go_at_call 53
               have hc := P1.out
               with_reducible refine (hc _).mono ?_
               clear hc
               rintro e w6 ⟨rfl, hk⟩
               have hS2 : Keeps No w1 w6 := Keeps.trans (by first | assumption | exact (Keeps.refl w1).drew | exact Keeps.refl w1) hk (fun _ _ h => h)))
        all_goals go_wp2_with fail
        all_goals go_meet
        all_goals exact ⟨by rw [← HY.out], hS2.cellsAt HD.out, KC1.out.trans hS2 (fun _ _ h => h)⟩
    case rest =>
      clear HT
      obtain ⟨W2, hw2⟩ : ∃ x : World, x = wc := ⟨_, rfl⟩
      subst hw2
      obtain ⟨rfl, d2, kc2⟩ := hcut
      have KC2 := Lib.hid kc2
      have m2 := cellsAt_cell d2 3 _ rfl
      simp only [Nat.zero_add] at m2
      obtain ⟨X2, hX2⟩ : ∃ x, x = toB (layI b.m ++ putIf (hasB b.m 1) b.x ++ putIf (hasB b.m 1) b.y ++ putIf (hasB b.m 2) b.vx ++ putIf (hasB b.m 2) b.vy) := ⟨_, rfl⟩
      rw [← hX2]
      have HX2 := Lib.hid hX2
      clear kc2 hX2 d1 KC1 m1
      obtain ⟨T, hT⟩ : ∃ x, x = hasB b.m 4 := ⟨_, rfl⟩
      have CBt := Lib.hid (fun W => bit_any W b.m 4 HM.out (by unfold bitC; omega))
      rw [← hT] at CBt
      have HT := Lib.hid hT
      clear hT
      go_wp2_with fail
      (with_reducible refine (CBt.out _).mono ?_)
      rintro e wz ⟨rfl, rfl⟩
      obtain ⟨W2, hw2⟩ : ∃ x : World, x = wz := ⟨_, rfl⟩
      subst hw2
      clear CBt
      go_upto_if 33 with fail
      go_cut [3] (StAt w gb b (layI b.m ++ putIf (hasB b.m 1) b.x ++ putIf (hasB b.m 1) b.y ++ putIf (hasB b.m 2) b.vx ++ putIf (hasB b.m 2) b.vy ++ putIf (hasB b.m 4) b.hp))
      case first =>
        cases T with
        | false =>
          have E : Hid ((layI b.m ++ putIf (hasB b.m 1) b.x ++ putIf (hasB b.m 1) b.y ++ putIf (hasB b.m 2) b.vx ++ putIf (hasB b.m 2) b.vy ++ putIf (hasB b.m 4) b.hp) = (layI b.m ++ putIf (hasB b.m 1) b.x ++ putIf (hasB b.m 1) b.y ++ putIf (hasB b.m 2) b.vx ++ putIf (hasB b.m 2) b.vy)) := Lib.hid (by rw [← HT.out]; simp [putIf])
          clear HT
          go_wp2_with fail
          go_meet
          exact ⟨by rw [E.out, ← HX2.out], d2, KC2.out⟩
        | true =>
          have E : Hid ((layI b.m ++ putIf (hasB b.m 1) b.x ++ putIf (hasB b.m 1) b.y ++ putIf (hasB b.m 2) b.vx ++ putIf (hasB b.m 2) b.vy ++ putIf (hasB b.m 4) b.hp) = (layI b.m ++ putIf (hasB b.m 1) b.x ++ putIf (hasB b.m 1) b.y ++ putIf (hasB b.m 2) b.vx ++ putIf (hasB b.m 2) b.vy) ++ layI b.hp) := Lib.hid (by rw [← HT.out]; rfl)
          have hlen : (layI b.m ++ putIf (hasB b.m 1) b.x ++ putIf (hasB b.m 1) b.y ++ putIf (hasB b.m 2) b.vx ++ putIf (hasB b.m 2) b.vy).length ≤ 100 := by
            have := layI_le b.m
            try simp only [List.length_append]
            have := putIf_le (hasB b.m 1) b.x
            have := putIf_le (hasB b.m 1) b.y
            have := putIf_le (hasB b.m 2) b.vx
            have := putIf_le (hasB b.m 2) b.vy
            omega
          clear HT
          obtain ⟨V0, hV0⟩ : ∃ x, x = toB (layI b.hp) := ⟨_, rfl⟩
          have P0 := Lib.hid (fun W => calls_str hV0 (rint_any W b.hp Hhp.out))
          obtain ⟨Y0, hY0⟩ : ∃ x, x = toB ((layI b.m ++ putIf (hasB b.m 1) b.x ++ putIf (hasB b.m 1) b.y ++ putIf (hasB b.m 2) b.vx ++ putIf (hasB b.m 2) b.vy) ++ layI b.hp) := ⟨_, rfl⟩
          have hcat0 := fun W' : World => cat_run W' ((layI b.m ++ putIf (hasB b.m 1) b.x ++ putIf (hasB b.m 1) b.y ++ putIf (hasB b.m 2) b.vx ++ putIf (hasB b.m 2) b.vy)) (layI b.hp) (by omega) (by have := layI_le b.hp; omega)
          rw [← hV0, ← hY0, ← HX2.out] at hcat0
          have cf0 := cellsAt_cell d2 8 _ rfl
          simp only [Nat.zero_add] at cf0
          have HY : Hid (Y0 = toB (layI b.m ++ putIf (hasB b.m 1) b.x ++ putIf (hasB b.m 1) b.y ++ putIf (hasB b.m 2) b.vx ++ putIf (hasB b.m 2) b.vy ++ putIf (hasB b.m 4) b.hp)) := Lib.hid (by rw [hY0, E.out])
          clear hlen E hV0 hY0
          obtain ⟨w1, hw1⟩ : ∃ x : World, x = W2 := ⟨_, rfl⟩
          subst hw1
          go_wp2_with fail
          (with_reducible refine (P0.out _).mono ?_)
          rintro e w5 ⟨rfl, hk⟩
          have D5 := Lib.hid (hk.cellsAt d2)
          have K5 : Hid (Keeps No w w5) := Lib.hid (KC2.out.trans hk (fun _ _ h => h))
          clear hk d2 cf0
          go_wp2_with fail
          go_meet
          exact ⟨by rw [← HY.out], D5.out, K5.out⟩
      case rest =>
        clear HT
        obtain ⟨W3, hw3⟩ : ∃ x : World, x = wc := ⟨_, rfl⟩
        subst hw3
        obtain ⟨rfl, d3, kc3⟩ := hcut
        have KC3 := Lib.hid kc3
        have m3 := cellsAt_cell d3 3 _ rfl
        simp only [Nat.zero_add] at m3
        obtain ⟨X3, hX3⟩ : ∃ x, x = toB (layI b.m ++ putIf (hasB b.m 1) b.x ++ putIf (hasB b.m 1) b.y ++ putIf (hasB b.m 2) b.vx ++ putIf (hasB b.m 2) b.vy ++ putIf (hasB b.m 4) b.hp) := ⟨_, rfl⟩
        rw [← hX3]
        have HX3 := Lib.hid hX3
        clear kc3 hX3 d2 KC2 m2
        obtain ⟨T, hT⟩ : ∃ x, x = hasB b.m 8 := ⟨_, rfl⟩
        have CBt := Lib.hid (fun W => bit_any W b.m 8 HM.out (by unfold bitC; omega))
        rw [← hT] at CBt
        have HT := Lib.hid hT
        clear hT
        go_wp2_with fail
        (with_reducible refine (CBt.out _).mono ?_)
        rintro e wz ⟨rfl, rfl⟩
        obtain ⟨W3, hw3⟩ : ∃ x : World, x = wz := ⟨_, rfl⟩
        subst hw3
        clear CBt
        go_upto_if 41 with fail
        go_cut [3] (StAt w gb b (layI b.m ++ putIf (hasB b.m 1) b.x ++ putIf (hasB b.m 1) b.y ++ putIf (hasB b.m 2) b.vx ++ putIf (hasB b.m 2) b.vy ++ putIf (hasB b.m 4) b.hp ++ putIf (hasB b.m 8) b.pw))
        case first =>
          cases T with
          | false =>
            have E : Hid ((layI b.m ++ putIf (hasB b.m 1) b.x ++ putIf (hasB b.m 1) b.y ++ putIf (hasB b.m 2) b.vx ++ putIf (hasB b.m 2) b.vy ++ putIf (hasB b.m 4) b.hp ++ putIf (hasB b.m 8) b.pw) = (layI b.m ++ putIf (hasB b.m 1) b.x ++ putIf (hasB b.m 1) b.y ++ putIf (hasB b.m 2) b.vx ++ putIf (hasB b.m 2) b.vy ++ putIf (hasB b.m 4) b.hp)) := Lib.hid (by rw [← HT.out]; simp [putIf])
            clear HT
            go_wp2_with fail
            go_meet
            exact ⟨by rw [E.out, ← HX3.out], d3, KC3.out⟩
          | true =>
            have E : Hid ((layI b.m ++ putIf (hasB b.m 1) b.x ++ putIf (hasB b.m 1) b.y ++ putIf (hasB b.m 2) b.vx ++ putIf (hasB b.m 2) b.vy ++ putIf (hasB b.m 4) b.hp ++ putIf (hasB b.m 8) b.pw) = (layI b.m ++ putIf (hasB b.m 1) b.x ++ putIf (hasB b.m 1) b.y ++ putIf (hasB b.m 2) b.vx ++ putIf (hasB b.m 2) b.vy ++ putIf (hasB b.m 4) b.hp) ++ layI b.pw) := Lib.hid (by rw [← HT.out]; rfl)
            have hlen : (layI b.m ++ putIf (hasB b.m 1) b.x ++ putIf (hasB b.m 1) b.y ++ putIf (hasB b.m 2) b.vx ++ putIf (hasB b.m 2) b.vy ++ putIf (hasB b.m 4) b.hp).length ≤ 100 := by
              have := layI_le b.m
              try simp only [List.length_append]
              have := putIf_le (hasB b.m 1) b.x
              have := putIf_le (hasB b.m 1) b.y
              have := putIf_le (hasB b.m 2) b.vx
              have := putIf_le (hasB b.m 2) b.vy
              have := putIf_le (hasB b.m 4) b.hp
              omega
            clear HT
            obtain ⟨V0, hV0⟩ : ∃ x, x = toB (layI b.pw) := ⟨_, rfl⟩
            have P0 := Lib.hid (fun W => calls_str hV0 (rint_any W b.pw Hpw.out))
            obtain ⟨Y0, hY0⟩ : ∃ x, x = toB ((layI b.m ++ putIf (hasB b.m 1) b.x ++ putIf (hasB b.m 1) b.y ++ putIf (hasB b.m 2) b.vx ++ putIf (hasB b.m 2) b.vy ++ putIf (hasB b.m 4) b.hp) ++ layI b.pw) := ⟨_, rfl⟩
            have hcat0 := fun W' : World => cat_run W' ((layI b.m ++ putIf (hasB b.m 1) b.x ++ putIf (hasB b.m 1) b.y ++ putIf (hasB b.m 2) b.vx ++ putIf (hasB b.m 2) b.vy ++ putIf (hasB b.m 4) b.hp)) (layI b.pw) (by omega) (by have := layI_le b.pw; omega)
            rw [← hV0, ← hY0, ← HX3.out] at hcat0
            have cf0 := cellsAt_cell d3 9 _ rfl
            simp only [Nat.zero_add] at cf0
            have HY : Hid (Y0 = toB (layI b.m ++ putIf (hasB b.m 1) b.x ++ putIf (hasB b.m 1) b.y ++ putIf (hasB b.m 2) b.vx ++ putIf (hasB b.m 2) b.vy ++ putIf (hasB b.m 4) b.hp ++ putIf (hasB b.m 8) b.pw)) := Lib.hid (by rw [hY0, E.out])
            clear hlen E hV0 hY0
            obtain ⟨w1, hw1⟩ : ∃ x : World, x = W3 := ⟨_, rfl⟩
            subst hw1
            go_wp2_with fail
            (with_reducible refine (P0.out _).mono ?_)
            rintro e w5 ⟨rfl, hk⟩
            have D5 := Lib.hid (hk.cellsAt d3)
            have K5 : Hid (Keeps No w w5) := Lib.hid (KC3.out.trans hk (fun _ _ h => h))
            clear hk d3 cf0
            go_wp2_with fail
            go_meet
            exact ⟨by rw [← HY.out], D5.out, K5.out⟩
        case rest =>
          clear HT
          obtain ⟨W4, hw4⟩ : ∃ x : World, x = wc := ⟨_, rfl⟩
          subst hw4
          obtain ⟨rfl, d4, kc4⟩ := hcut
          have KC4 := Lib.hid kc4
          have m4 := cellsAt_cell d4 3 _ rfl
          simp only [Nat.zero_add] at m4
          obtain ⟨X4, hX4⟩ : ∃ x, x = toB (layI b.m ++ putIf (hasB b.m 1) b.x ++ putIf (hasB b.m 1) b.y ++ putIf (hasB b.m 2) b.vx ++ putIf (hasB b.m 2) b.vy ++ putIf (hasB b.m 4) b.hp ++ putIf (hasB b.m 8) b.pw) := ⟨_, rfl⟩
          rw [← hX4]
          have HX4 := Lib.hid hX4
          clear kc4 hX4 d3 KC3 m3
          obtain ⟨T, hT⟩ : ∃ x, x = hasB b.m 16 := ⟨_, rfl⟩
          have CBt := Lib.hid (fun W => bit_any W b.m 16 HM.out (by unfold bitC; omega))
          rw [← hT] at CBt
          have HT := Lib.hid hT
          clear hT
          go_wp2_with fail
          (with_reducible refine (CBt.out _).mono ?_)
          rintro e wz ⟨rfl, rfl⟩
          obtain ⟨W4, hw4⟩ : ∃ x : World, x = wz := ⟨_, rfl⟩
          subst hw4
          clear CBt
          go_upto_if 49 with fail
          go_cut [3] (StAt w gb b (layI b.m ++ putIf (hasB b.m 1) b.x ++ putIf (hasB b.m 1) b.y ++ putIf (hasB b.m 2) b.vx ++ putIf (hasB b.m 2) b.vy ++ putIf (hasB b.m 4) b.hp ++ putIf (hasB b.m 8) b.pw ++ putIf (hasB b.m 16) b.lf))
          case first =>
            cases T with
            | false =>
              have E : Hid ((layI b.m ++ putIf (hasB b.m 1) b.x ++ putIf (hasB b.m 1) b.y ++ putIf (hasB b.m 2) b.vx ++ putIf (hasB b.m 2) b.vy ++ putIf (hasB b.m 4) b.hp ++ putIf (hasB b.m 8) b.pw ++ putIf (hasB b.m 16) b.lf) = (layI b.m ++ putIf (hasB b.m 1) b.x ++ putIf (hasB b.m 1) b.y ++ putIf (hasB b.m 2) b.vx ++ putIf (hasB b.m 2) b.vy ++ putIf (hasB b.m 4) b.hp ++ putIf (hasB b.m 8) b.pw)) := Lib.hid (by rw [← HT.out]; simp [putIf])
              clear HT
              go_wp2_with fail
              go_meet
              exact ⟨by rw [E.out, ← HX4.out], d4, KC4.out⟩
            | true =>
              have E : Hid ((layI b.m ++ putIf (hasB b.m 1) b.x ++ putIf (hasB b.m 1) b.y ++ putIf (hasB b.m 2) b.vx ++ putIf (hasB b.m 2) b.vy ++ putIf (hasB b.m 4) b.hp ++ putIf (hasB b.m 8) b.pw ++ putIf (hasB b.m 16) b.lf) = (layI b.m ++ putIf (hasB b.m 1) b.x ++ putIf (hasB b.m 1) b.y ++ putIf (hasB b.m 2) b.vx ++ putIf (hasB b.m 2) b.vy ++ putIf (hasB b.m 4) b.hp ++ putIf (hasB b.m 8) b.pw) ++ layI b.lf) := Lib.hid (by rw [← HT.out]; rfl)
              have hlen : (layI b.m ++ putIf (hasB b.m 1) b.x ++ putIf (hasB b.m 1) b.y ++ putIf (hasB b.m 2) b.vx ++ putIf (hasB b.m 2) b.vy ++ putIf (hasB b.m 4) b.hp ++ putIf (hasB b.m 8) b.pw).length ≤ 100 := by
                have := layI_le b.m
                try simp only [List.length_append]
                have := putIf_le (hasB b.m 1) b.x
                have := putIf_le (hasB b.m 1) b.y
                have := putIf_le (hasB b.m 2) b.vx
                have := putIf_le (hasB b.m 2) b.vy
                have := putIf_le (hasB b.m 4) b.hp
                have := putIf_le (hasB b.m 8) b.pw
                omega
              clear HT
              obtain ⟨V0, hV0⟩ : ∃ x, x = toB (layI b.lf) := ⟨_, rfl⟩
              have P0 := Lib.hid (fun W => calls_str hV0 (rint_any W b.lf Hlf.out))
              obtain ⟨Y0, hY0⟩ : ∃ x, x = toB ((layI b.m ++ putIf (hasB b.m 1) b.x ++ putIf (hasB b.m 1) b.y ++ putIf (hasB b.m 2) b.vx ++ putIf (hasB b.m 2) b.vy ++ putIf (hasB b.m 4) b.hp ++ putIf (hasB b.m 8) b.pw) ++ layI b.lf) := ⟨_, rfl⟩
              have hcat0 := fun W' : World => cat_run W' ((layI b.m ++ putIf (hasB b.m 1) b.x ++ putIf (hasB b.m 1) b.y ++ putIf (hasB b.m 2) b.vx ++ putIf (hasB b.m 2) b.vy ++ putIf (hasB b.m 4) b.hp ++ putIf (hasB b.m 8) b.pw)) (layI b.lf) (by omega) (by have := layI_le b.lf; omega)
              rw [← hV0, ← hY0, ← HX4.out] at hcat0
              have cf0 := cellsAt_cell d4 10 _ rfl
              simp only [Nat.zero_add] at cf0
              have HY : Hid (Y0 = toB (layI b.m ++ putIf (hasB b.m 1) b.x ++ putIf (hasB b.m 1) b.y ++ putIf (hasB b.m 2) b.vx ++ putIf (hasB b.m 2) b.vy ++ putIf (hasB b.m 4) b.hp ++ putIf (hasB b.m 8) b.pw ++ putIf (hasB b.m 16) b.lf)) := Lib.hid (by rw [hY0, E.out])
              clear hlen E hV0 hY0
              obtain ⟨w1, hw1⟩ : ∃ x : World, x = W4 := ⟨_, rfl⟩
              subst hw1
              go_wp2_with fail
              (with_reducible refine (P0.out _).mono ?_)
              rintro e w5 ⟨rfl, hk⟩
              have D5 := Lib.hid (hk.cellsAt d4)
              have K5 : Hid (Keeps No w w5) := Lib.hid (KC4.out.trans hk (fun _ _ h => h))
              clear hk d4 cf0
              go_wp2_with fail
              go_meet
              exact ⟨by rw [← HY.out], D5.out, K5.out⟩
          case rest =>
            clear HT
            obtain ⟨W5, hw5⟩ : ∃ x : World, x = wc := ⟨_, rfl⟩
            subst hw5
            obtain ⟨rfl, d5, kc5⟩ := hcut
            have KC5 := Lib.hid kc5
            have m5 := cellsAt_cell d5 3 _ rfl
            simp only [Nat.zero_add] at m5
            obtain ⟨X5, hX5⟩ : ∃ x, x = toB (layI b.m ++ putIf (hasB b.m 1) b.x ++ putIf (hasB b.m 1) b.y ++ putIf (hasB b.m 2) b.vx ++ putIf (hasB b.m 2) b.vy ++ putIf (hasB b.m 4) b.hp ++ putIf (hasB b.m 8) b.pw ++ putIf (hasB b.m 16) b.lf) := ⟨_, rfl⟩
            rw [← hX5]
            have HX5 := Lib.hid hX5
            clear kc5 hX5 d4 KC4 m4
            go_wp2
            go_ret
            exact ⟨by rw [HX5.out]; rfl, KC5.out⟩
end Go.Proofs.YtpbpgjfdledgoaaGreatDoor

/-
  The document's Bundle and Cmd: an entity's and a command's bytes. No conditions of their own.
-/
namespace Go.Proofs.YtpbpgjfdledgoaaGreatDoor
open Go.RowKit Go.Shelf Go.Sort Go.Joins Go.Deep

theorem putBd_le' (b : Bd) : (putBd b).length ≤ 200 := by
  have := putNam_le b.id
  have := putRest_le b
  unfold putBd
  cases bdOk b
  · exact Nat.zero_le _
  · simp only [cond_true, List.length_append]
    omega
theorem bdOk_right {b : Bd} (h : bdOk b = true) : rightBd b = true := by
  unfold bdOk at h
  simp only [Bool.and_eq_true] at h
  first | exact h.2 | exact h.1 | exact h.2.2 | exact h.2.1 | exact h.1.2
set_option maxRecDepth 100000 in
set_option maxHeartbeats 2000000 in
theorem rputBd_no (w : World) (x : Bd) (hb : bdOk x = false) : Calls Tryz.prog 124 #[bdV x] w fun e w' => e = .returned (strB (putBd x)) ∧ Keeps No w w' := by
  have CI := Lib.hid (fun W => mayR_any W x)
  have hP : putBd x = [] := by unfold putBd; rw [hb]; rfl
  rw [hP]
  rw [hb] at CI
  clear hb hP
  go_enter Tryz.func124, Tryz.ntmps124
  go_upto_region 1 with fail
  refine wp_world ?_
  intro W hW
  have KW : Hid (Keeps No w W) := Lib.hid (by rw [hW]; exact (Keeps.refl w).alloc _)
  have cW : cellsAt W w.heap.size 0 11 = some (bdC x) := by rw [hW]; simp [go_sem]
  clear hW
  go_wp2_with fail
  (with_reducible refine (CI.out _).mono ?_)
  rintro e w1 ⟨rfl, hk⟩
  have K1 : Hid (Keeps No w w1) := Lib.hid (KW.out.trans hk (fun _ _ h => h))
  clear hk cW CI
  go_wp2
  go_ret
  exact ⟨rfl, K1.out⟩
set_option maxRecDepth 100000 in
set_option maxHeartbeats 2000000 in
theorem rputCm_no (w : World) (x : Cm) (hb : cmdOk x = false) : Calls Tryz.prog 54 #[cmV x] w fun e w' => e = .returned (strB (putCm x)) ∧ Keeps No w w' := by
  have CI := Lib.hid (fun W => mayCmdR_any W x)
  have hP : putCm x = [] := by unfold putCm; rw [hb]; rfl
  rw [hP]
  rw [hb] at CI
  clear hb hP
  go_enter Tryz.func54, Tryz.ntmps54
  go_upto_region 1 with fail
  refine wp_world ?_
  intro W hW
  have KW : Hid (Keeps No w W) := Lib.hid (by rw [hW]; exact (Keeps.refl w).alloc _)
  have cW : cellsAt W w.heap.size 0 16 = some (cmC x) := by rw [hW]; simp [go_sem]
  clear hW
  go_wp2_with fail
  (with_reducible refine (CI.out _).mono ?_)
  rintro e w1 ⟨rfl, hk⟩
  have K1 : Hid (Keeps No w w1) := Lib.hid (KW.out.trans hk (fun _ _ h => h))
  clear hk cW CI
  go_wp2
  go_ret
  exact ⟨rfl, K1.out⟩
set_option maxRecDepth 100000 in
set_option maxHeartbeats 4000000 in
theorem rputBd_ok (w : World) (x : Bd) (hb : bdOk x = true) : Calls Tryz.prog 124 #[bdV x] w fun e w' => e = .returned (strB (putBd x)) ∧ Keeps No w w' := by
  have CI := Lib.hid (fun W => mayR_any W x)
  have hP : putBd x = putNam x.id ++ putRest x := by unfold putBd; rw [hb]; rfl
  obtain ⟨R, hR⟩ : ∃ y, y = strB (putBd x) := ⟨_, rfl⟩
  rw [← hR]
  rw [hP] at hR
  have HB := Lib.hid (bdOk_right hb)
  rw [hb] at CI
  obtain ⟨V0, hV0⟩ : ∃ y, y = toB (putNam x.id) := ⟨_, rfl⟩
  have P0 := Lib.hid (fun W => calls_str hV0 (rputNam_any W x.id))
  obtain ⟨V1, hV1⟩ : ∃ y, y = toB (putRest x) := ⟨_, rfl⟩
  have P1 := Lib.hid (fun W => calls_str hV1 (rputRest_any W x HB.out))
  obtain ⟨Y1, hY1⟩ : ∃ y, y = toB (putNam x.id ++ putRest x) := ⟨_, rfl⟩
  have hcat1 := fun W' : World => cat_run W' (putNam x.id) (putRest x) (by have := putNam_le x.id; (try simp only [List.length_append]); omega) (by have := putRest_le x; omega)
  rw [← hV1, ← hY1, ← hV0] at hcat1
  have HR : Hid (R = .string Y1) := Lib.hid (by rw [hR, hY1]; rfl)
  clear hb hP hR hV0 hV1 hY1
  go_enter Tryz.func124, Tryz.ntmps124
  go_upto_region 1 with fail
  refine wp_world ?_
  intro W0 hW0
  have K0 : Hid (Keeps No w W0) := Lib.hid (by rw [hW0]; exact (Keeps.refl w).alloc _)
  have c0 : cellsAt W0 w.heap.size 0 11 = some (bdC x) := by rw [hW0]; simp [go_sem]
  clear hW0
  go_wp2_with fail
  (with_reducible refine (CI.out _).mono ?_)
  rintro e W ⟨rfl, hk⟩
  have KW : Hid (Keeps No w W) := Lib.hid (K0.out.trans hk (fun _ _ h => h))
  have cW := hk.cellsAt c0
  have L0 : ∀ w', Keeps No W w' → cellsAt w' w.heap.size 0 11 = some (bdC x) := fun w' k => k.cellsAt cW
  have L1 : ∀ w', Keeps No W w' → cellsAt w' w.heap.size 0 3 = some (namC x.id) := fun w' k => cellsAt_part (k.cellsAt cW) 0 (namC x.id) rfl (by simp)
  clear hk c0 cW CI K0
  go_upto_region 3 with fail
  go_region_held3 (fun w' => Keeps No W w')
    (first | assumption | exact (Keeps.refl W).drew | exact Keeps.refl W)
    (first
      | (go_at_call 125
         have hc := P0.out
         with_reducible refine (hc _).mono ?_
         clear hc
         rintro e w5 ⟨rfl, hk⟩
         have hS1 : Keeps No W w5 := Keeps.trans (by first | assumption | exact (Keeps.refl W).drew | exact Keeps.refl W) hk (fun _ _ h => h))
      | (go_at_call 126
         have hc := P1.out
         with_reducible refine (hc _).mono ?_
         clear hc
         rintro e w6 ⟨rfl, hk⟩
         have hS2 : Keeps No W w6 := Keeps.trans (by first | assumption | exact (Keeps.refl W).drew | exact Keeps.refl W) hk (fun _ _ h => h)))
  all_goals go_wp2
  all_goals go_ret
  all_goals exact ⟨by rw [HR.out]; rfl, KW.out.trans hS2 (fun _ _ h => h)⟩
theorem rputBd_any (w : World) (b : Bd) : Calls Tryz.prog 124 #[bdV b] w fun e w' => e = .returned (strB (putBd b)) ∧ Keeps No w w' := by
  cases hb : bdOk b with
  | false => exact rputBd_no w b hb
  | true => exact rputBd_ok w b hb
set_option maxRecDepth 100000 in
set_option maxHeartbeats 4000000 in
theorem rputCm_1 (w : World) (x : Cm) (hb : cmdOk x = true) (hki : i64 x.k) (hk : x.k = 1) : Calls Tryz.prog 54 #[cmV x] w fun e w' => e = .returned (strB (putCm x)) ∧ Keeps No w w' := by
  have CI := Lib.hid (fun W => mayCmdR_any W x)
  have e1 : (x.k == 1) = true := by rw [hk]; rfl
  have hP : putCm x = layI x.k ++ putBd x.b := by unfold putCm; rw [hb, e1]; simp only [cond_true]
  obtain ⟨R, hR⟩ : ∃ y, y = strB (putCm x) := ⟨_, rfl⟩
  rw [← hR]
  rw [hP] at hR
  rw [hb] at CI
  obtain ⟨X0, hX0⟩ : ∃ y, y = toB (layI x.k) := ⟨_, rfl⟩
  have C0 := Lib.hid (fun W => calls_str hX0 (rint_any W x.k hki))
  obtain ⟨V0, hV0⟩ : ∃ y, y = toB (putBd x.b) := ⟨_, rfl⟩
  have P0 := Lib.hid (fun W => calls_str hV0 (rputBd_any W x.b))
  obtain ⟨Y0, hY0⟩ : ∃ y, y = toB (layI x.k ++ putBd x.b) := ⟨_, rfl⟩
  have hcat0 := fun W' : World => cat_run W' (layI x.k) (putBd x.b) (by have := layI_le x.k; (try simp only [List.length_append]); omega) (by have := putBd_le' x.b; omega)
  rw [← hV0, ← hY0, ← hX0] at hcat0
  have HR : Hid (R = .string Y0) := Lib.hid (by rw [hR, hY0]; rfl)
  clear hb hki hP hR hX0 hV0 hY0  hk
  go_enter Tryz.func54, Tryz.ntmps54
  go_upto_region 1 with fail
  refine wp_world ?_
  intro W0 hW0
  have K0 : Hid (Keeps No w W0) := Lib.hid (by rw [hW0]; exact (Keeps.refl w).alloc _)
  have c0 : cellsAt W0 w.heap.size 0 16 = some (cmC x) := by rw [hW0]; simp [go_sem]
  clear hW0
  go_wp2_with fail
  (with_reducible refine (CI.out _).mono ?_)
  rintro e W ⟨rfl, hk⟩
  have KW : Hid (Keeps No w W) := Lib.hid (K0.out.trans hk (fun _ _ h => h))
  have cW := hk.cellsAt c0
  have m0 := cellsAt_cell cW 0 _ rfl
  simp only [Nat.zero_add] at m0
  clear hk c0 CI K0
  go_wp2_with fail
  (with_reducible refine (C0.out _).mono ?_)
  rintro e W1 ⟨rfl, hk⟩
  have K1 : Hid (Keeps No w W1) := Lib.hid (KW.out.trans hk (fun _ _ h => h))
  have c1 := hk.cellsAt cW
  have m1 := hk.cell m0 (fun h => h)
  clear hk cW m0 C0 KW
  have L0 : cellsAt W1 w.heap.size 4 11 = some (bdC x.b) := cellsAt_part c1 4 (bdC x.b) rfl (by simp)
  clear c1
  go_wp2_with fail
  (with_reducible refine (P0.out _).mono ?_)
  rintro e W2 ⟨rfl, hk⟩
  have K2 : Hid (Keeps No w W2) := Lib.hid (K1.out.trans hk (fun _ _ h => h))
  clear hk L0 m1 P0
  go_wp2
  go_ret
  exact ⟨by rw [HR.out]; rfl, K2.out⟩
set_option maxRecDepth 100000 in
set_option maxHeartbeats 4000000 in
theorem rputCm_3 (w : World) (x : Cm) (hb : cmdOk x = true) (hki : i64 x.k) (hk : x.k = 3) (hr : rightBd x.b = true) : Calls Tryz.prog 54 #[cmV x] w fun e w' => e = .returned (strB (putCm x)) ∧ Keeps No w w' := by
  have CI := Lib.hid (fun W => mayCmdR_any W x)
  have e1 : (x.k == 1) = false := by rw [hk]; rfl
  have e3 : (x.k == 3) = true := by rw [hk]; rfl
  have HB := Lib.hid hr
  have hP : putCm x = layI x.k ++ putNam x.id ++ putRest x.b := by unfold putCm; rw [hb, e1, e3]; simp only [cond_true, cond_false, List.append_assoc]
  obtain ⟨R, hR⟩ : ∃ y, y = strB (putCm x) := ⟨_, rfl⟩
  rw [← hR]
  rw [hP] at hR
  rw [hb] at CI
  obtain ⟨X0, hX0⟩ : ∃ y, y = toB (layI x.k) := ⟨_, rfl⟩
  have C0 := Lib.hid (fun W => calls_str hX0 (rint_any W x.k hki))
  obtain ⟨V0, hV0⟩ : ∃ y, y = toB (putNam x.id) := ⟨_, rfl⟩
  have P0 := Lib.hid (fun W => calls_str hV0 (rputNam_any W x.id))
  obtain ⟨V1, hV1⟩ : ∃ y, y = toB (putRest x.b) := ⟨_, rfl⟩
  have P1 := Lib.hid (fun W => calls_str hV1 (rputRest_any W x.b HB.out))
  obtain ⟨Y0, hY0⟩ : ∃ y, y = toB (layI x.k ++ putNam x.id) := ⟨_, rfl⟩
  have hcat0 := fun W' : World => cat_run W' (layI x.k) (putNam x.id) (by have := layI_le x.k; (try simp only [List.length_append]); omega) (by have := putNam_le x.id; omega)
  rw [← hV0, ← hY0, ← hX0] at hcat0
  obtain ⟨Y1, hY1⟩ : ∃ y, y = toB (layI x.k ++ putNam x.id ++ putRest x.b) := ⟨_, rfl⟩
  have hcat1 := fun W' : World => cat_run W' (layI x.k ++ putNam x.id) (putRest x.b) (by have := layI_le x.k; have := putNam_le x.id; (try simp only [List.length_append]); omega) (by have := putRest_le x.b; omega)
  rw [← hV1, ← hY1, ← hY0] at hcat1
  have HR : Hid (R = .string Y1) := Lib.hid (by rw [hR, hY1]; rfl)
  clear hb hki hP hR hX0 hV0 hY0 hV1 hY1 hr hk
  go_enter Tryz.func54, Tryz.ntmps54
  go_upto_region 1 with fail
  refine wp_world ?_
  intro W0 hW0
  have K0 : Hid (Keeps No w W0) := Lib.hid (by rw [hW0]; exact (Keeps.refl w).alloc _)
  have c0 : cellsAt W0 w.heap.size 0 16 = some (cmC x) := by rw [hW0]; simp [go_sem]
  clear hW0
  go_wp2_with fail
  (with_reducible refine (CI.out _).mono ?_)
  rintro e W ⟨rfl, hk⟩
  have KW : Hid (Keeps No w W) := Lib.hid (K0.out.trans hk (fun _ _ h => h))
  have cW := hk.cellsAt c0
  have m0 := cellsAt_cell cW 0 _ rfl
  simp only [Nat.zero_add] at m0
  clear hk c0 CI K0
  go_wp2_with fail
  (with_reducible refine (C0.out _).mono ?_)
  rintro e W1 ⟨rfl, hk⟩
  have K1 : Hid (Keeps No w W1) := Lib.hid (KW.out.trans hk (fun _ _ h => h))
  have c1 := hk.cellsAt cW
  have m1 := hk.cell m0 (fun h => h)
  clear hk cW m0 C0 KW
  have L0 : ∀ w', Keeps No W1 w' → cellsAt w' w.heap.size 1 3 = some (namC x.id) := fun w' k => cellsAt_part (k.cellsAt c1) 1 (namC x.id) rfl (by simp)
  have L1 : ∀ w', Keeps No W1 w' → cellsAt w' w.heap.size 4 11 = some (bdC x.b) := fun w' k => cellsAt_part (k.cellsAt c1) 4 (bdC x.b) rfl (by simp)
  clear c1 
  go_upto_region 8 with fail
  go_region_held3 (fun w' => Keeps No W1 w')
    (first | assumption | exact (Keeps.refl W1).drew | exact Keeps.refl W1)
    (first
      | (go_at_call 125
         have hc := P0.out
         with_reducible refine (hc _).mono ?_
         clear hc
         rintro e w5 ⟨rfl, hk⟩
         have hS1 : Keeps No W1 w5 := Keeps.trans (by first | assumption | exact (Keeps.refl W1).drew | exact Keeps.refl W1) hk (fun _ _ h => h))
      | (go_at_call 126
         have hc := P1.out
         with_reducible refine (hc _).mono ?_
         clear hc
         rintro e w6 ⟨rfl, hk⟩
         have hS2 : Keeps No W1 w6 := Keeps.trans (by first | assumption | exact (Keeps.refl W1).drew | exact Keeps.refl W1) hk (fun _ _ h => h)))
  all_goals go_wp2
  all_goals go_ret
  all_goals exact ⟨by rw [HR.out]; rfl, K1.out.trans hS2 (fun _ _ h => h)⟩
set_option maxRecDepth 100000 in
set_option maxHeartbeats 4000000 in
theorem rputCm_4 (w : World) (x : Cm) (hb : cmdOk x = true) (hki : i64 x.k) (hk : x.k = 4) (hm : i64 x.m) : Calls Tryz.prog 54 #[cmV x] w fun e w' => e = .returned (strB (putCm x)) ∧ Keeps No w w' := by
  have CI := Lib.hid (fun W => mayCmdR_any W x)
  have e1 : (x.k == 1) = false := by rw [hk]; rfl
  have e3 : (x.k == 3) = false := by rw [hk]; rfl
  have e4 : (x.k == 4) = true := by rw [hk]; rfl
  have HM := Lib.hid hm
  have hP : putCm x = layI x.k ++ putNam x.id ++ layI x.m := by unfold putCm; rw [hb, e1, e3, e4]; simp only [cond_true, cond_false, List.append_assoc]
  obtain ⟨R, hR⟩ : ∃ y, y = strB (putCm x) := ⟨_, rfl⟩
  rw [← hR]
  rw [hP] at hR
  rw [hb] at CI
  obtain ⟨X0, hX0⟩ : ∃ y, y = toB (layI x.k) := ⟨_, rfl⟩
  have C0 := Lib.hid (fun W => calls_str hX0 (rint_any W x.k hki))
  obtain ⟨V0, hV0⟩ : ∃ y, y = toB (putNam x.id) := ⟨_, rfl⟩
  have P0 := Lib.hid (fun W => calls_str hV0 (rputNam_any W x.id))
  obtain ⟨V1, hV1⟩ : ∃ y, y = toB (layI x.m) := ⟨_, rfl⟩
  have P1 := Lib.hid (fun W => calls_str hV1 (rint_any W x.m HM.out))
  obtain ⟨Y0, hY0⟩ : ∃ y, y = toB (layI x.k ++ putNam x.id) := ⟨_, rfl⟩
  have hcat0 := fun W' : World => cat_run W' (layI x.k) (putNam x.id) (by have := layI_le x.k; (try simp only [List.length_append]); omega) (by have := putNam_le x.id; omega)
  rw [← hV0, ← hY0, ← hX0] at hcat0
  obtain ⟨Y1, hY1⟩ : ∃ y, y = toB (layI x.k ++ putNam x.id ++ layI x.m) := ⟨_, rfl⟩
  have hcat1 := fun W' : World => cat_run W' (layI x.k ++ putNam x.id) (layI x.m) (by have := layI_le x.k; have := putNam_le x.id; (try simp only [List.length_append]); omega) (by have := layI_le x.m; omega)
  rw [← hV1, ← hY1, ← hY0] at hcat1
  have HR : Hid (R = .string Y1) := Lib.hid (by rw [hR, hY1]; rfl)
  clear hb hki hP hR hX0 hV0 hY0 hV1 hY1 hm hk
  go_enter Tryz.func54, Tryz.ntmps54
  go_upto_region 1 with fail
  refine wp_world ?_
  intro W0 hW0
  have K0 : Hid (Keeps No w W0) := Lib.hid (by rw [hW0]; exact (Keeps.refl w).alloc _)
  have c0 : cellsAt W0 w.heap.size 0 16 = some (cmC x) := by rw [hW0]; simp [go_sem]
  clear hW0
  go_wp2_with fail
  (with_reducible refine (CI.out _).mono ?_)
  rintro e W ⟨rfl, hk⟩
  have KW : Hid (Keeps No w W) := Lib.hid (K0.out.trans hk (fun _ _ h => h))
  have cW := hk.cellsAt c0
  have m0 := cellsAt_cell cW 0 _ rfl
  simp only [Nat.zero_add] at m0
  clear hk c0 CI K0
  go_wp2_with fail
  (with_reducible refine (C0.out _).mono ?_)
  rintro e W1 ⟨rfl, hk⟩
  have K1 : Hid (Keeps No w W1) := Lib.hid (KW.out.trans hk (fun _ _ h => h))
  have c1 := hk.cellsAt cW
  have m1 := hk.cell m0 (fun h => h)
  clear hk cW m0 C0 KW
  have L0 : ∀ w', Keeps No W1 w' → cellsAt w' w.heap.size 1 3 = some (namC x.id) := fun w' k => cellsAt_part (k.cellsAt c1) 1 (namC x.id) rfl (by simp)
  have m15 := cellsAt_cell c1 15 _ rfl
  simp only [Nat.zero_add] at m15
  have L1 : ∀ w', Keeps No W1 w' → w'.cell? ⟨w.heap.size, 15, none⟩ = some (.int .i64 x.m) := fun w' k => k.cell m15 (fun h => h)
  clear c1 m15
  go_upto_region 10 with fail
  go_region_held3 (fun w' => Keeps No W1 w')
    (first | assumption | exact (Keeps.refl W1).drew | exact Keeps.refl W1)
    (first
      | (go_at_call 125
         have hc := P0.out
         with_reducible refine (hc _).mono ?_
         clear hc
         rintro e w5 ⟨rfl, hk⟩
         have hS1 : Keeps No W1 w5 := Keeps.trans (by first | assumption | exact (Keeps.refl W1).drew | exact Keeps.refl W1) hk (fun _ _ h => h))
      | (go_at_call 53
         have hc := P1.out
         with_reducible refine (hc _).mono ?_
         clear hc
         rintro e w6 ⟨rfl, hk⟩
         have hS2 : Keeps No W1 w6 := Keeps.trans (by first | assumption | exact (Keeps.refl W1).drew | exact Keeps.refl W1) hk (fun _ _ h => h)))
  all_goals go_wp2
  all_goals go_ret
  all_goals exact ⟨by rw [HR.out]; rfl, K1.out.trans hS2 (fun _ _ h => h)⟩
set_option maxRecDepth 100000 in
set_option maxHeartbeats 4000000 in
theorem rputCm_0 (w : World) (x : Cm) (hb : cmdOk x = true) (hki : i64 x.k) (n1 : ¬ x.k = 1) (n3 : ¬ x.k = 3) (n4 : ¬ x.k = 4) : Calls Tryz.prog 54 #[cmV x] w fun e w' => e = .returned (strB (putCm x)) ∧ Keeps No w w' := by
  have CI := Lib.hid (fun W => mayCmdR_any W x)
  have e1 : (x.k == 1) = false := by simpa using n1
  have e3 : (x.k == 3) = false := by simpa using n3
  have e4 : (x.k == 4) = false := by simpa using n4
  have hP : putCm x = layI x.k ++ putNam x.id := by unfold putCm; rw [hb, e1, e3, e4]; simp only [cond_true, cond_false]
  obtain ⟨R, hR⟩ : ∃ y, y = strB (putCm x) := ⟨_, rfl⟩
  rw [← hR]
  rw [hP] at hR
  rw [hb] at CI
  obtain ⟨X0, hX0⟩ : ∃ y, y = toB (layI x.k) := ⟨_, rfl⟩
  have C0 := Lib.hid (fun W => calls_str hX0 (rint_any W x.k hki))
  obtain ⟨V0, hV0⟩ : ∃ y, y = toB (putNam x.id) := ⟨_, rfl⟩
  have P0 := Lib.hid (fun W => calls_str hV0 (rputNam_any W x.id))
  obtain ⟨Y0, hY0⟩ : ∃ y, y = toB (layI x.k ++ putNam x.id) := ⟨_, rfl⟩
  have hcat0 := fun W' : World => cat_run W' (layI x.k) (putNam x.id) (by have := layI_le x.k; (try simp only [List.length_append]); omega) (by have := putNam_le x.id; omega)
  rw [← hV0, ← hY0, ← hX0] at hcat0
  have HR : Hid (R = .string Y0) := Lib.hid (by rw [hR, hY0]; rfl)
  clear hb hki hP hR hX0 hV0 hY0 n1 n3 n4 
  go_enter Tryz.func54, Tryz.ntmps54
  go_upto_region 1 with fail
  refine wp_world ?_
  intro W0 hW0
  have K0 : Hid (Keeps No w W0) := Lib.hid (by rw [hW0]; exact (Keeps.refl w).alloc _)
  have c0 : cellsAt W0 w.heap.size 0 16 = some (cmC x) := by rw [hW0]; simp [go_sem]
  clear hW0
  go_wp2_with fail
  (with_reducible refine (CI.out _).mono ?_)
  rintro e W ⟨rfl, hk⟩
  have KW : Hid (Keeps No w W) := Lib.hid (K0.out.trans hk (fun _ _ h => h))
  have cW := hk.cellsAt c0
  have m0 := cellsAt_cell cW 0 _ rfl
  simp only [Nat.zero_add] at m0
  clear hk c0 CI K0
  go_wp2_with fail
  (with_reducible refine (C0.out _).mono ?_)
  rintro e W1 ⟨rfl, hk⟩
  have K1 : Hid (Keeps No w W1) := Lib.hid (KW.out.trans hk (fun _ _ h => h))
  have c1 := hk.cellsAt cW
  have m1 := hk.cell m0 (fun h => h)
  clear hk cW m0 C0 KW
  have L0 : cellsAt W1 w.heap.size 1 3 = some (namC x.id) := cellsAt_part c1 1 (namC x.id) rfl (by simp)
  clear c1
  go_wp2_with fail
  (with_reducible refine (P0.out _).mono ?_)
  rintro e W2 ⟨rfl, hk⟩
  have K2 : Hid (Keeps No w W2) := Lib.hid (K1.out.trans hk (fun _ _ h => h))
  clear hk L0 m1 P0
  go_wp2
  go_ret
  exact ⟨by rw [HR.out]; rfl, K2.out⟩
theorem rputCm_any (w : World) (x : Cm) : Calls Tryz.prog 54 #[cmV x] w fun e w' => e = .returned (strB (putCm x)) ∧ Keeps No w w' := by
  cases hb : cmdOk x with
  | false => exact rputCm_no w x hb
  | true =>
    by_cases h1 : x.k = 1
    · exact rputCm_1 w x hb ⟨by omega, by omega⟩ h1
    · by_cases h3 : x.k = 3
      · refine rputCm_3 w x hb ⟨by omega, by omega⟩ h3 ?_
        have e := hb
        unfold cmdOk at e
        rw [show (x.k == 1) = false by rw [h3]; rfl, show (x.k == 2) = false by rw [h3]; rfl, show (x.k == 3) = true by rw [h3]; rfl] at e
        simp only [cond_true, cond_false, Bool.and_eq_true] at e
        exact e.2.2.2.2
      · by_cases h4 : x.k = 4
        · refine rputCm_4 w x hb ⟨by omega, by omega⟩ h4 ?_
          have e := hb
          unfold cmdOk at e
          rw [show (x.k == 1) = false by rw [h4]; rfl, show (x.k == 2) = false by rw [h4]; rfl, show (x.k == 3) = false by rw [h4]; rfl, show (x.k == 4) = true by rw [h4]; rfl] at e
          simp only [cond_true, cond_false, Bool.and_eq_true] at e
          have e2 := e.2.2
          unfold takesM at e2
          rw [Bool.and_eq_true] at e2
          exact okI_i64 e2.1
        · refine rputCm_0 w x hb ?_ h1 h3 h4
          by_cases h2 : x.k = 2
          · exact ⟨by omega, by omega⟩
          · have e := hb
            unfold cmdOk at e
            rw [show (x.k == 1) = false by simpa using h1, show (x.k == 2) = false by simpa using h2, show (x.k == 3) = false by simpa using h3, show (x.k == 4) = false by simpa using h4] at e
            cases e
end Go.Proofs.YtpbpgjfdledgoaaGreatDoor

/-
  The document's TakeID: the name that comes next. No conditions of its own.
-/
namespace Go.Proofs.YtpbpgjfdledgoaaGreatDoor
open Go.RowKit Go.Shelf Go.Sort Go.Joins Go.Deep

/-- what a taking leaves: the value, the reader -/
def RTake (w : World) (g : Nat) (v : Value) (r : Rdr) (e : Ending) (w' : World) : Prop := e = .returned v ∧ RrAt w' g r ∧ Keeps (Own g) w w'
theorem RrAt.cell1 {w : World} {g : Nat} {r : Rdr} (h : RrAt w g r) : w.cell? ⟨g, 1, none⟩ = some (.bool (!r.isSome)) := by
  cases r with
  | none => simp [World.cell?, h.box, rdrC]
  | some s => simp [World.cell?, h.box, rdrC]
set_option maxRecDepth 100000 in
set_option maxHeartbeats 4000000 in
theorem rtakeNam_any {w : World} {g : Nat} {r : Rdr} (h : RrAt w g r) : Calls Tryz.prog 137 #[dP g] w (RTake w g (namV (takeNam r).1) (takeNam r).2) := by
  obtain ⟨R, hR⟩ : ∃ x, x = takeNam r := ⟨_, rfl⟩
  rw [← hR]
  unfold takeNam namRaw at hR
  have hlt := h.lt
  have H := Lib.hid h
  clear h
  obtain ⟨p0, e0⟩ : ∃ x, x = rdI r := ⟨_, rfl⟩
  rw [← e0] at hR
  obtain ⟨p1, e1⟩ : ∃ x, x = rdI p0.2 := ⟨_, rfl⟩
  rw [← e1] at hR
  obtain ⟨p2, e2⟩ : ∃ x, x = rdI p1.2 := ⟨_, rfl⟩
  rw [← e2] at hR
  obtain ⟨n0, r0⟩ := p0
  obtain ⟨n1, r1⟩ := p1
  obtain ⟨n2, r2⟩ := p2
  simp only at e1 e2 hR
  have E0 := Lib.hid e0
  have E1 := Lib.hid e1
  have E2 := Lib.hid e2
  have HR := Lib.hid hR
  clear e0 e1 e2 hR
  go_enter Tryz.func137, Tryz.ntmps137
  go_upto_region 2 with fail
  refine wp_world ?_
  intro W0 hW0
  have kn : Keeps No w W0 := by rw [hW0]; exact ((Keeps.refl w).alloc _).alloc _
  have K0 : Hid (Keeps (Own g) w W0) := Lib.hid kn.own
  have I0 : Hid (W0.heap[w.heap.size + 1]? = some (.cells #[.int .i64 0, .int .i64 0, .int .i64 0] 23 (0, 0))) := Lib.hid (by rw [hW0]; exact heap_second w _ _)
  have Z0 : Hid (W0.heap[w.heap.size]? = some (.cells #[.int .i64 0, .int .i64 0, .int .i64 0] 23 (0, 0))) := Lib.hid (by rw [hW0]; exact ((Keeps.refl (S := No) _).alloc _).heap (heap_alloc_new w _) (fun h => h))
  obtain ⟨gi, hgi⟩ : ∃ q, q = w.heap.size + 1 := ⟨_, rfl⟩
  obtain ⟨gr, hgr⟩ : ∃ q, q = w.heap.size := ⟨_, rfl⟩
  have HG : Hid (w.heap.size ≤ gi ∧ w.heap.size ≤ gr ∧ gi ≠ gr ∧ gi ≠ g ∧ gr ≠ g) := Lib.hid ⟨by omega, by omega, by omega, by omega, by omega⟩
  rw [← hgi] at I0 ⊢
  rw [← hgr] at Z0 ⊢
  have R0 := Lib.hid (H.out.kept kn (fun h => h))
  clear hW0 hgi hgr H hlt kn
  have C0 := Lib.hid (rrd_any R0.out)
  rw [← E0.out] at C0
  have g0 := (show W0.cell? ⟨gi, 0, none⟩ = some (.int .i64 0) by rw [cell_of_row _ _ _ _ _ _ I0.out]; rfl)
  clear g0
  go_wp2_with fail
  (with_reducible refine C0.out.mono ?_)
  rintro e w1 ⟨rfl, hr, hk⟩
  have i1 := hk.heap I0.out HG.out.2.2.2.1
  have i2 : w1.cell? ⟨gi, 0, none⟩ = some (.int .i64 0) := by rw [cell_of_row _ _ _ _ _ _ i1]; rfl
  have i3 : w1.frozen? ⟨gi, 0, none⟩ = false := frozen_of_row _ _ _ _ _ i1
  have i1h := Lib.hid i1
  have RR := Lib.hid hr
  have KK := Lib.hid (K0.out.trans hk (fun _ _ h => h))
  have ZZ := Lib.hid (hk.heap Z0.out HG.out.2.2.2.2)
  clear C0 hr hk i1
  go_upto_region 3 with fail
  refine wp_world ?_
  intro W1 hW
  have k3 : Keeps (Own gi) w1 W1 := by rw [hW]; exact (Keeps.refl (S := Own gi) w1).setCell (p := ⟨gi, 0, none⟩) (fun _ => (rfl : gi = gi)) _
  have I1 : Hid (W1.heap[gi]? = some (.cells #[.int .i64 n0, .int .i64 0, .int .i64 0] 23 (0, 0))) := Lib.hid (by rw [hW]; exact heap_setCell_at i1h.out _)
  have R1 := Lib.hid (RR.out.kept k3 (fun e => HG.out.2.2.2.1 e.symm))
  have K1 : Hid (Keeps (Own g) w W1) := Lib.hid (KK.out.trans k3 (fun i hi e => by have e : i = gi := e; have := HG.out.1; omega))
  have Z1 := Lib.hid (k3.heap ZZ.out (fun e => HG.out.2.2.1 e.symm))
  clear hW k3 i1h RR KK ZZ i2 i3 I0 R0 K0 Z0 E0
  have C1 := Lib.hid (rrd_any R1.out)
  rw [← E1.out] at C1
  have g1 := (show W1.cell? ⟨gi, 1, none⟩ = some (.int .i64 0) by rw [cell_of_row _ _ _ _ _ _ I1.out]; rfl)
  clear g1
  go_wp2_with fail
  (with_reducible refine C1.out.mono ?_)
  rintro e w2 ⟨rfl, hr, hk⟩
  have i1 := hk.heap I1.out HG.out.2.2.2.1
  have i2 : w2.cell? ⟨gi, 1, none⟩ = some (.int .i64 0) := by rw [cell_of_row _ _ _ _ _ _ i1]; rfl
  have i3 : w2.frozen? ⟨gi, 1, none⟩ = false := frozen_of_row _ _ _ _ _ i1
  have i1h := Lib.hid i1
  have RR := Lib.hid hr
  have KK := Lib.hid (K1.out.trans hk (fun _ _ h => h))
  have ZZ := Lib.hid (hk.heap Z1.out HG.out.2.2.2.2)
  clear C1 hr hk i1
  go_upto_region 4 with fail
  refine wp_world ?_
  intro W2 hW
  have k3 : Keeps (Own gi) w2 W2 := by rw [hW]; exact (Keeps.refl (S := Own gi) w2).setCell (p := ⟨gi, 1, none⟩) (fun _ => (rfl : gi = gi)) _
  have I2 : Hid (W2.heap[gi]? = some (.cells #[.int .i64 n0, .int .i64 n1, .int .i64 0] 23 (0, 0))) := Lib.hid (by rw [hW]; exact heap_setCell_at i1h.out _)
  have R2 := Lib.hid (RR.out.kept k3 (fun e => HG.out.2.2.2.1 e.symm))
  have K2 : Hid (Keeps (Own g) w W2) := Lib.hid (KK.out.trans k3 (fun i hi e => by have e : i = gi := e; have := HG.out.1; omega))
  have Z2 := Lib.hid (k3.heap ZZ.out (fun e => HG.out.2.2.1 e.symm))
  clear hW k3 i1h RR KK ZZ i2 i3 I1 R1 K1 Z1 E1
  have C2 := Lib.hid (rrd_any R2.out)
  rw [← E2.out] at C2
  have g2 := (show W2.cell? ⟨gi, 2, none⟩ = some (.int .i64 0) by rw [cell_of_row _ _ _ _ _ _ I2.out]; rfl)
  clear g2
  go_wp2_with fail
  (with_reducible refine C2.out.mono ?_)
  rintro e w3 ⟨rfl, hr, hk⟩
  have i1 := hk.heap I2.out HG.out.2.2.2.1
  have i2 : w3.cell? ⟨gi, 2, none⟩ = some (.int .i64 0) := by rw [cell_of_row _ _ _ _ _ _ i1]; rfl
  have i3 : w3.frozen? ⟨gi, 2, none⟩ = false := frozen_of_row _ _ _ _ _ i1
  have i1h := Lib.hid i1
  have RR := Lib.hid hr
  have KK := Lib.hid (K2.out.trans hk (fun _ _ h => h))
  have ZZ := Lib.hid (hk.heap Z2.out HG.out.2.2.2.2)
  clear C2 hr hk i1
  go_upto_region 5 with fail
  refine wp_world ?_
  intro W3 hW
  have k3 : Keeps (Own gi) w3 W3 := by rw [hW]; exact (Keeps.refl (S := Own gi) w3).setCell (p := ⟨gi, 2, none⟩) (fun _ => (rfl : gi = gi)) _
  have I3 : Hid (W3.heap[gi]? = some (.cells #[.int .i64 n0, .int .i64 n1, .int .i64 n2] 23 (0, 0))) := Lib.hid (by rw [hW]; exact heap_setCell_at i1h.out _)
  have R3 := Lib.hid (RR.out.kept k3 (fun e => HG.out.2.2.2.1 e.symm))
  have K3 : Hid (Keeps (Own g) w W3) := Lib.hid (KK.out.trans k3 (fun i hi e => by have e : i = gi := e; have := HG.out.1; omega))
  have Z3 := Lib.hid (k3.heap ZZ.out (fun e => HG.out.2.2.1 e.symm))
  clear hW k3 i1h RR KK ZZ i2 i3 I2 R2 K2 Z2 E2
  cases r2 with
  | none =>
    have HR2 : R = (Nam.zero, none) := HR.out
    have l1 : W3.cell? ⟨g, 1, none⟩ = some (.bool true) := R3.out.cell1
    have CB := Lib.hid (rbad_any R3.out)
    clear HR
    go_wp2_with fail
    (with_reducible refine CB.out.mono ?_)
    rintro e w4 ⟨rfl, hr4, hk4⟩
    have z4 := hk4.heap Z3.out HG.out.2.2.2.2
    have oz : Open w4 gr := ⟨_, _, z4⟩
    have sz : (rowD w4 gr).size = 3 := by unfold rowD; rw [z4]; rfl
    have R4 := Lib.hid hr4
    have K4 := Lib.hid (K3.out.trans hk4 (fun _ _ h => h))
    clear hr4 hk4 z4 CB l1 R3 K3 I3 Z3
    go_wp2_with fail
    have hcr : cellsAt (w4.setRow gr #[.int .i64 0, .int .i64 0, .int .i64 0]) gr 0 3 = some (namC R.1) := by rw [cellsAt_setRow_at _ _ _ _ _ oz, HR2]; rfl
    have hF : Hid (RrAt (w4.setRow gr #[.int .i64 0, .int .i64 0, .int .i64 0]) g R.2 ∧ Keeps (Own g) w (w4.setRow gr #[.int .i64 0, .int .i64 0, .int .i64 0])) := Lib.hid ⟨by rw [HR2]; exact R4.out.kept ((Keeps.refl (S := Own gr) w4).setRow (fun _ => (rfl : gr = gr)) _) (fun e => HG.out.2.2.2.2 e.symm), K4.out.setRow (fun h => absurd h (Nat.not_lt.2 HG.out.2.1)) _⟩
    refine bodyPost_ret (v := namV R.1) ?_ rfl ⟨rfl, hF.out.1, hF.out.2⟩
    simp [results, Tryz.results137, go_sem, hcr]
  | some s =>
    have l1 : W3.cell? ⟨g, 1, none⟩ = some (.bool false) := R3.out.cell1
    have cI : cellsAt W3 gi 0 3 = some [.int .i64 n0, .int .i64 n1, .int .i64 n2] := by unfold cellsAt; rw [I3.out]; rfl
    have CID := Lib.hid (fun W => rightID_any W ⟨n0, n1, n2⟩)
    cases hok : idOk ⟨n0, n1, n2⟩ with
    | false =>
      have HR2 : R = (Nam.zero, none) := by rw [HR.out, hok]; rfl
      rw [hok] at CID
      clear HR hok
      go_wp2_with fail
      (with_reducible refine (CID.out _).mono ?_)
      rintro e w5 ⟨rfl, hk5⟩
      have R5 := Lib.hid (R3.out.kept hk5 (fun h => h))
      have K5 : Hid (Keeps (Own g) w w5) := Lib.hid (K3.out.trans hk5 (fun _ _ h => h.elim))
      have Z5 := Lib.hid (hk5.heap Z3.out (fun h => h))
      have CB := Lib.hid (rbad_any R5.out)
      clear hk5 l1 cI CID R3 K3 I3 Z3
      go_wp2_with fail
      (with_reducible refine CB.out.mono ?_)
      rintro e w4 ⟨rfl, hr4, hk4⟩
      have z4 := hk4.heap Z5.out HG.out.2.2.2.2
      have oz : Open w4 gr := ⟨_, _, z4⟩
      have sz : (rowD w4 gr).size = 3 := by unfold rowD; rw [z4]; rfl
      have R4 := Lib.hid hr4
      have K4 := Lib.hid (K5.out.trans hk4 (fun _ _ h => h))
      clear hr4 hk4 z4 CB R5 K5 Z5
      go_wp2_with fail
      have hcr : cellsAt (w4.setRow gr #[.int .i64 0, .int .i64 0, .int .i64 0]) gr 0 3 = some (namC R.1) := by rw [cellsAt_setRow_at _ _ _ _ _ oz, HR2]; rfl
      have hF : Hid (RrAt (w4.setRow gr #[.int .i64 0, .int .i64 0, .int .i64 0]) g R.2 ∧ Keeps (Own g) w (w4.setRow gr #[.int .i64 0, .int .i64 0, .int .i64 0])) := Lib.hid ⟨by rw [HR2]; exact R4.out.kept ((Keeps.refl (S := Own gr) w4).setRow (fun _ => (rfl : gr = gr)) _) (fun e => HG.out.2.2.2.2 e.symm), K4.out.setRow (fun h => absurd h (Nat.not_lt.2 HG.out.2.1)) _⟩
      refine bodyPost_ret (v := namV R.1) ?_ rfl ⟨rfl, hF.out.1, hF.out.2⟩
      simp [results, Tryz.results137, go_sem, hcr]
    | true =>
      have HR2 : R = (⟨n0, n1, n2⟩, some s) := by rw [HR.out, hok]; rfl
      rw [hok] at CID
      clear HR hok
      go_wp2_with fail
      (with_reducible refine (CID.out _).mono ?_)
      rintro e w5 ⟨rfl, hk5⟩
      have R5 := Lib.hid (R3.out.kept hk5 (fun h => h))
      have K5 : Hid (Keeps (Own g) w w5) := Lib.hid (K3.out.trans hk5 (fun _ _ h => h.elim))
      have c5 := hk5.cellsAt cI
      have z5 := hk5.heap Z3.out (fun h => h)
      have oz : Open w5 gr := ⟨_, _, z5⟩
      have sz : (rowD w5 gr).size = 3 := by unfold rowD; rw [z5]; rfl
      clear hk5 l1 cI CID R3 K3 I3 Z3 z5
      go_wp2_with fail
      have hcr : cellsAt (w5.setRow gr #[.int .i64 n0, .int .i64 n1, .int .i64 n2]) gr 0 3 = some (namC R.1) := by rw [cellsAt_setRow_at _ _ _ _ _ oz, HR2]; rfl
      have hF : Hid (RrAt (w5.setRow gr #[.int .i64 n0, .int .i64 n1, .int .i64 n2]) g R.2 ∧ Keeps (Own g) w (w5.setRow gr #[.int .i64 n0, .int .i64 n1, .int .i64 n2])) := Lib.hid ⟨by rw [HR2]; exact R5.out.kept ((Keeps.refl (S := Own gr) w5).setRow (fun _ => (rfl : gr = gr)) _) (fun e => HG.out.2.2.2.2 e.symm), K5.out.setRow (fun h => absurd h (Nat.not_lt.2 HG.out.2.1)) _⟩
      refine bodyPost_ret (v := namV R.1) ?_ rfl ⟨rfl, hF.out.1, hF.out.2⟩
      simp [results, Tryz.results137, go_sem, hcr]
end Go.Proofs.YtpbpgjfdledgoaaGreatDoor

/-
  The document's takeRest: the components that come next. No conditions of its own.
-/
namespace Go.Proofs.YtpbpgjfdledgoaaGreatDoor
open Go.RowKit Go.Shelf Go.Sort Go.Joins Go.Deep

/-- what is read of components, be it bad behind the first number -/
def restD (r : Rdr) : Bd × Rdr := bif (rdI r).2.isSome && okI (rdI r).1 0 31 then restRaw (rdI r).1 (rdI r).2 else (Bd.zero, none)
def secF (h : Bool) (l : List Nat) (s : Bd × Rdr) : Bd × Rdr := bif h then l.foldl stepF s else s
theorem rest_secs (m : Int) (r : Rdr) : secF (hasB m 16) [10] (secF (hasB m 8) [9] (secF (hasB m 4) [8] (secF (hasB m 2) [6, 7] (secF (hasB m 1) [4, 5] (⟨0, 0, 0, m, 0, 0, 0, 0, 0, 0, 0⟩, r))))) = restRaw m r := by
  unfold secF restRaw
  cases h1 : hasB m 1 <;> cases h2 : hasB m 2 <;> cases h4 : hasB m 4 <;> cases h8 : hasB m 8 <;> cases h16 : hasB m 16 <;> simp [stepF, setF, rdIf]
theorem rest_none (m : Int) : (restRaw m none).2 = none := by
  unfold restRaw rdIf
  cases hasB m 1 <;> cases hasB m 2 <;> cases hasB m 4 <;> cases hasB m 8 <;> cases hasB m 16 <;> rfl
theorem restD_take (r : Rdr) : (restD r).2 = (takeRest r).2 ∧ ((takeRest r).2.isSome = true → (restD r).1 = (takeRest r).1) := by
  unfold restD takeRest
  cases h0 : okI (rdI r).1 0 31
  · rw [Bool.and_false, Bool.false_and]
    exact ⟨rfl, fun _ => rfl⟩
  · cases h1 : (rdI r).2 with
    | none =>
      rw [rest_none]
      exact ⟨rfl, fun h => by cases h⟩
    | some s =>
      cases h2 : (restRaw (rdI r).1 (some s)).2 with
      | none => exact ⟨h2, fun h => by cases h⟩
      | some t => exact ⟨rfl, fun _ => rfl⟩
/-- where a taking stands -/
structure RkAt (w wc : World) (g gi gr : Nat) (m : Int) (s : Bd × Rdr) : Prop where
  rd : RrAt wc g s.2
  bx : wc.heap[gi]? = some (.cells (bdC s.1).toArray 25 (0, 0))
  z : wc.heap[gr]? = some (.cells (bdC Bd.zero).toArray 25 (0, 0))
  k : Keeps (Own g) w wc
  m : s.1.m = m
structure Apart (w : World) (g gi gr : Nat) : Prop where
  ni : w.heap.size ≤ gi
  nr : w.heap.size ≤ gr
  ir : gi ≠ gr
  ig : gi ≠ g
  rg : gr ≠ g
theorem RkAt.cellM {w wc : World} {g gi gr : Nat} {m : Int} {s : Bd × Rdr} (h : RkAt w wc g gi gr m s) : wc.cell? ⟨gi, 3, none⟩ = some (.int .i64 m) := by
  rw [cell_of_row _ _ _ _ _ _ h.bx, ← h.m]
  rfl
/-- a number is read, and put -/
theorem RkAt.step {w wc w1 : World} {g gi gr : Nat} {m : Int} {s : Bd × Rdr} (h : RkAt w wc g gi gr m s) (a : Apart w g gi gr) (hr : RrAt w1 g (rdI s.2).2) (hk : Keeps (Own g) wc w1) (x : Fl) :
    RkAt w (w1.setCell ⟨gi, offV x, none⟩ (.int .i64 (rdI s.2).1)) g gi gr m (stepF s (offV x)) := by
  have k3 : Keeps (Own gi) w1 (w1.setCell ⟨gi, offV x, none⟩ (.int .i64 (rdI s.2).1)) := (Keeps.refl (S := Own gi) w1).setCell (p := ⟨gi, offV x, none⟩) (fun _ => (rfl : gi = gi)) _
  refine ⟨hr.kept k3 (fun e => a.ig e.symm), ?_, k3.heap (hk.heap h.z a.rg) (fun e => a.ir e.symm), (h.k.trans hk (fun _ _ h => h)).trans k3 (fun i hi e => by have e : i = gi := e; have := a.ni; omega), by rw [← h.m]; exact setF_m _ x _⟩
  show _ = some (Obj.cells (bdC (setF s.1 (offV x) (rdI s.2).1)).toArray _ _)
  rw [← setF_cells]
  exact heap_setCell_at (hk.heap h.bx a.ig) _
theorem RkAt.open {w wc w1 : World} {g gi gr : Nat} {m : Int} {s : Bd × Rdr} (h : RkAt w wc g gi gr m s) (a : Apart w g gi gr) (hk : Keeps (Own g) wc w1) (x : Fl) :
    w1.frozen? ⟨gi, offV x, none⟩ = false ∧ ∃ v, w1.cell? ⟨gi, offV x, none⟩ = some v := by
  have h1 := hk.heap h.bx a.ig
  refine ⟨frozen_of_row _ _ _ _ _ h1, ⟨(bdC s.1).getD (offV x) undef, ?_⟩⟩
  rw [cell_of_row _ _ _ _ _ _ h1, List.getElem?_toArray, List.getD_eq_getElem?_getD, List.getElem?_eq_getElem (show offV x < (bdC s.1).length from by have := x.2; unfold offV; show 4 + x.1 < 11; omega)]
  rfl
set_option maxRecDepth 100000 in
set_option maxHeartbeats 8000000 in
theorem rtakeRest_any {w : World} {g : Nat} {r : Rdr} (h : RrAt w g r) : Calls Tryz.prog 138 #[dP g] w (RTake w g (bdV (restD r).1) (restD r).2) := by
  obtain ⟨R, hR⟩ : ∃ x, x = restD r := ⟨_, rfl⟩
  rw [← hR]
  unfold restD at hR
  have hlt := h.lt
  have H := Lib.hid h
  clear h
  obtain ⟨p, e0⟩ : ∃ x, x = rdI r := ⟨_, rfl⟩
  rw [← e0] at hR
  obtain ⟨m, r0⟩ := p
  have E0 := Lib.hid e0
  have HR := Lib.hid hR
  clear e0 hR
  go_enter Tryz.func138, Tryz.ntmps138
  go_upto_region 1 with fail
  refine wp_world ?_
  intro W0 hW0
  have K0 : Hid (Keeps No w W0) := Lib.hid (by rw [hW0]; exact (Keeps.refl w).alloc _)
  have Z0 : Hid (W0.heap[w.heap.size]? = some (.cells (bdC Bd.zero).toArray 25 (0, 0))) := Lib.hid (by rw [hW0]; exact heap_alloc_new w _)
  have R0 := Lib.hid (H.out.kept K0.out (fun h => h))
  obtain ⟨gr, hgr⟩ : ∃ q, q = w.heap.size := ⟨_, rfl⟩
  have HGR : Hid (w.heap.size ≤ gr ∧ gr ≠ g) := Lib.hid ⟨by omega, by omega⟩
  rw [← hgr] at Z0 ⊢
  have C0 := Lib.hid (rrd_any R0.out)
  rw [← E0.out] at C0
  clear hW0 hgr H hlt E0
  go_wp2_with fail
  (with_reducible refine C0.out.mono ?_)
  rintro e w1 ⟨rfl, hr, hk⟩
  have R1 := Lib.hid hr
  have K1 := Lib.hid (K0.out.own.trans hk (fun _ _ h => h))
  have Z1 := Lib.hid (hk.heap Z0.out HGR.out.2)
  clear hr hk C0 R0 K0 Z0
  go_upto_region 2 with fail
  refine wp_world ?_
  intro W1 hW1
  have k2 : Keeps No w1 W1 := by rw [hW1]; exact (Keeps.refl w1).alloc _
  have I2 : Hid (W1.heap[w1.heap.size]? = some (.cells (bdC ⟨0, 0, 0, m, 0, 0, 0, 0, 0, 0, 0⟩).toArray 25 (0, 0))) := Lib.hid (by rw [hW1]; exact heap_alloc_new w1 _)
  have R2 := Lib.hid (R1.out.kept k2 (fun h => h))
  have K2 : Hid (Keeps (Own g) w W1) := Lib.hid (K1.out.trans k2 (fun _ _ h => h.elim))
  have Z2 := Lib.hid (k2.heap Z1.out (fun h => h))
  have HAP : Hid (Apart w g w1.heap.size gr) := Lib.hid ⟨K1.out.size, HGR.out.1, by have := (Array.getElem?_eq_some_iff.1 Z1.out).1; omega, by have := R1.out.lt; omega, HGR.out.2⟩
  obtain ⟨gi, hgi⟩ : ∃ q, q = w1.heap.size := ⟨_, rfl⟩
  rw [← hgi] at I2 HAP ⊢
  clear hW1 k2 hgi R1 K1 Z1 HGR
  have RK0 : Hid (RkAt w W1 g gi gr m (⟨0, 0, 0, m, 0, 0, 0, 0, 0, 0, 0⟩, r0)) := Lib.hid ⟨R2.out, I2.out, Z2.out, K2.out, rfl⟩
  have m0 := RK0.out.cellM
  have l1 := R2.out.cell1
  have BAD : Hid (R = (Bd.zero, none) → Calls Tryz.prog 139 #[dP g] W1 fun e w' => e = .returned (.tuple #[]) ∧ RrAt w' g none ∧ Keeps (Own g) W1 w') := Lib.hid (fun _ => rbad_any R2.out)
  cases r0 with
  | none =>
    have HR2 : R = (Bd.zero, none) := HR.out
    have l1 : W1.cell? ⟨g, 1, none⟩ = some (.bool true) := l1
    have CB := Lib.hid (BAD.out HR2)
    clear HR BAD
    go_wp2_with fail
    (with_reducible refine CB.out.mono ?_)
    rintro e w4 ⟨rfl, hr4, hk4⟩
    have z4 := hk4.heap Z2.out HAP.out.rg
    have oz : Open w4 gr := ⟨_, _, z4⟩
    have sz : (rowD w4 gr).size = 11 := by unfold rowD; rw [z4]; rfl
    have R4 := Lib.hid hr4
    have K4 := Lib.hid (K2.out.trans hk4 (fun _ _ h => h))
    clear hr4 hk4 z4 CB R2 K2 I2 Z2 RK0
    go_wp2_with fail
    have hcr : cellsAt (w4.setRow gr #[.int .i64 0, .int .i64 0, .int .i64 0, .int .i64 0, .int .i64 0, .int .i64 0, .int .i64 0, .int .i64 0, .int .i64 0, .int .i64 0, .int .i64 0]) gr 0 11 = some (bdC R.1) := by rw [cellsAt_setRow_at _ _ _ _ _ oz, HR2]; rfl
    have hF : Hid (RrAt (w4.setRow gr #[.int .i64 0, .int .i64 0, .int .i64 0, .int .i64 0, .int .i64 0, .int .i64 0, .int .i64 0, .int .i64 0, .int .i64 0, .int .i64 0, .int .i64 0]) g R.2 ∧ Keeps (Own g) w (w4.setRow gr #[.int .i64 0, .int .i64 0, .int .i64 0, .int .i64 0, .int .i64 0, .int .i64 0, .int .i64 0, .int .i64 0, .int .i64 0, .int .i64 0, .int .i64 0])) := Lib.hid ⟨by rw [HR2]; exact R4.out.kept ((Keeps.refl (S := Own gr) w4).setRow (fun _ => (rfl : gr = gr)) _) (fun e => HAP.out.rg e.symm), K4.out.setRow (fun h => absurd h (Nat.not_lt.2 HAP.out.nr)) _⟩
    refine bodyPost_ret (v := bdV R.1) ?_ rfl ⟨rfl, hF.out.1, hF.out.2⟩
    simp [results, Tryz.results138, go_sem, hcr]
  | some s0 =>
    have l1 : W1.cell? ⟨g, 1, none⟩ = some (.bool false) := l1
    by_cases t0 : m < 0
    · have HR2 : R = (Bd.zero, none) := by
        rw [HR.out]
        have : okI m 0 31 = false := by unfold okI; rw [decide_eq_false (by omega)]; rfl
        rw [this]; rfl
      have CB := Lib.hid (BAD.out HR2)
      clear HR BAD
      go_wp2_with fail
      (with_reducible refine CB.out.mono ?_)
      rintro e w4 ⟨rfl, hr4, hk4⟩
      have z4 := hk4.heap Z2.out HAP.out.rg
      have oz : Open w4 gr := ⟨_, _, z4⟩
      have sz : (rowD w4 gr).size = 11 := by unfold rowD; rw [z4]; rfl
      have R4 := Lib.hid hr4
      have K4 := Lib.hid (K2.out.trans hk4 (fun _ _ h => h))
      clear hr4 hk4 z4 CB R2 K2 I2 Z2 RK0
      go_wp2_with fail
      have hcr : cellsAt (w4.setRow gr #[.int .i64 0, .int .i64 0, .int .i64 0, .int .i64 0, .int .i64 0, .int .i64 0, .int .i64 0, .int .i64 0, .int .i64 0, .int .i64 0, .int .i64 0]) gr 0 11 = some (bdC R.1) := by rw [cellsAt_setRow_at _ _ _ _ _ oz, HR2]; rfl
      have hF : Hid (RrAt (w4.setRow gr #[.int .i64 0, .int .i64 0, .int .i64 0, .int .i64 0, .int .i64 0, .int .i64 0, .int .i64 0, .int .i64 0, .int .i64 0, .int .i64 0, .int .i64 0]) g R.2 ∧ Keeps (Own g) w (w4.setRow gr #[.int .i64 0, .int .i64 0, .int .i64 0, .int .i64 0, .int .i64 0, .int .i64 0, .int .i64 0, .int .i64 0, .int .i64 0, .int .i64 0, .int .i64 0])) := Lib.hid ⟨by rw [HR2]; exact R4.out.kept ((Keeps.refl (S := Own gr) w4).setRow (fun _ => (rfl : gr = gr)) _) (fun e => HAP.out.rg e.symm), K4.out.setRow (fun h => absurd h (Nat.not_lt.2 HAP.out.nr)) _⟩
      refine bodyPost_ret (v := bdV R.1) ?_ rfl ⟨rfl, hF.out.1, hF.out.2⟩
      simp [results, Tryz.results138, go_sem, hcr]
    · by_cases t1 : 31 < m
      · have HR2 : R = (Bd.zero, none) := by
          rw [HR.out]
          have : okI m 0 31 = false := by unfold okI; rw [decide_eq_false (show ¬ m ≤ 31 by omega), Bool.and_false]
          rw [this]; rfl
        have CB := Lib.hid (BAD.out HR2)
        clear HR BAD
        go_wp2_with fail
        (with_reducible refine CB.out.mono ?_)
        rintro e w4 ⟨rfl, hr4, hk4⟩
        have z4 := hk4.heap Z2.out HAP.out.rg
        have oz : Open w4 gr := ⟨_, _, z4⟩
        have sz : (rowD w4 gr).size = 11 := by unfold rowD; rw [z4]; rfl
        have R4 := Lib.hid hr4
        have K4 := Lib.hid (K2.out.trans hk4 (fun _ _ h => h))
        clear hr4 hk4 z4 CB R2 K2 I2 Z2 RK0
        go_wp2_with fail
        have hcr : cellsAt (w4.setRow gr #[.int .i64 0, .int .i64 0, .int .i64 0, .int .i64 0, .int .i64 0, .int .i64 0, .int .i64 0, .int .i64 0, .int .i64 0, .int .i64 0, .int .i64 0]) gr 0 11 = some (bdC R.1) := by rw [cellsAt_setRow_at _ _ _ _ _ oz, HR2]; rfl
        have hF : Hid (RrAt (w4.setRow gr #[.int .i64 0, .int .i64 0, .int .i64 0, .int .i64 0, .int .i64 0, .int .i64 0, .int .i64 0, .int .i64 0, .int .i64 0, .int .i64 0, .int .i64 0]) g R.2 ∧ Keeps (Own g) w (w4.setRow gr #[.int .i64 0, .int .i64 0, .int .i64 0, .int .i64 0, .int .i64 0, .int .i64 0, .int .i64 0, .int .i64 0, .int .i64 0, .int .i64 0, .int .i64 0])) := Lib.hid ⟨by rw [HR2]; exact R4.out.kept ((Keeps.refl (S := Own gr) w4).setRow (fun _ => (rfl : gr = gr)) _) (fun e => HAP.out.rg e.symm), K4.out.setRow (fun h => absurd h (Nat.not_lt.2 HAP.out.nr)) _⟩
        refine bodyPost_ret (v := bdV R.1) ?_ rfl ⟨rfl, hF.out.1, hF.out.2⟩
        simp [results, Tryz.results138, go_sem, hcr]
      · have HR2 : Hid (R = restRaw m (some s0)) := Lib.hid (by
          rw [HR.out]
          have : okI m 0 31 = true := okI_iff.2 ⟨by omega, by omega⟩
          rw [this]; rfl)
        have HM : Hid (i64 m) := Lib.hid ⟨by omega, by omega⟩
        obtain ⟨s, hs⟩ : ∃ s, s = ((⟨0, 0, 0, m, 0, 0, 0, 0, 0, 0, 0⟩ : Bd), some s0) := ⟨_, rfl⟩
        rw [← hs] at RK0
        have HS0 := Lib.hid hs
        clear HR BAD R2 K2 I2 Z2 hs
        obtain ⟨T, hT⟩ : ∃ x, x = hasB m 1 := ⟨_, rfl⟩
        have CBt := Lib.hid (fun W => bit_any W m 1 HM.out (by unfold bitC; omega))
        rw [← hT] at CBt
        have HT := Lib.hid hT
        clear hT
        go_wp2_with fail
        (with_reducible refine (CBt.out _).mono ?_)
        rintro e wz ⟨rfl, rfl⟩
        clear CBt
        go_upto_if 26 with fail
        go_cut [3] (fun o wc => o = .pointer (some ⟨gi, 0, none⟩) ∧ RkAt w wc g gi gr m (secF T [4, 5] s))
        case first =>
          cases T with
          | false =>
            go_wp2_with fail
            go_meet
            exact ⟨rfl, RK0.out⟩
          | true =>
            obtain ⟨wy, hwy⟩ : ∃ x : World, x = wz := ⟨_, rfl⟩
            subst hwy
            have D0 := Lib.hid (rrd_any RK0.out.rd)
            obtain ⟨p0, hp0⟩ : ∃ p, p = rdI s.2 := ⟨_, rfl⟩
            rw [← hp0] at D0
            have HP0 := Lib.hid hp0
            clear hp0
            go_wp2_with fail
            (with_reducible refine D0.out.mono ?_)
            rintro e w5 ⟨rfl, hr, hk⟩
            obtain ⟨f0, v0, x0⟩ := RK0.out.open HAP.out hk 0
            have f0 : w5.frozen? ⟨gi, 4, none⟩ = false := f0
            have x0 : w5.cell? ⟨gi, 4, none⟩ = some v0 := x0
            have ST0 : Hid (RkAt w (w5.setCell ⟨gi, 4, none⟩ (.int .i64 p0.1)) g gi gr m (stepF s 4)) := Lib.hid (by
              rw [HP0.out] at hr ⊢
              exact RK0.out.step HAP.out hr hk 0)
            clear hr hk D0 HP0
            go_upto_region 7 with fail
            refine wp_world ?_
            intro V0 hV0
            rw [← hV0] at ST0
            clear hV0 f0 x0
            obtain ⟨u0, hu0⟩ : ∃ u, u = stepF s 4 := ⟨_, rfl⟩
            rw [← hu0] at ST0
            have HU0 := Lib.hid hu0
            clear hu0
            have D1 := Lib.hid (rrd_any ST0.out.rd)
            obtain ⟨p1, hp1⟩ : ∃ p, p = rdI u0.2 := ⟨_, rfl⟩
            rw [← hp1] at D1
            have HP1 := Lib.hid hp1
            clear hp1
            go_wp2_with fail
            (with_reducible refine D1.out.mono ?_)
            rintro e w6 ⟨rfl, hr, hk⟩
            obtain ⟨f1, v1, x1⟩ := ST0.out.open HAP.out hk 1
            have f1 : w6.frozen? ⟨gi, 5, none⟩ = false := f1
            have x1 : w6.cell? ⟨gi, 5, none⟩ = some v1 := x1
            have ST1 : Hid (RkAt w (w6.setCell ⟨gi, 5, none⟩ (.int .i64 p1.1)) g gi gr m (stepF u0 5)) := Lib.hid (by
              rw [HP1.out] at hr ⊢
              exact ST0.out.step HAP.out hr hk 1)
            clear hr hk D1 HP1
            have FIN : Hid (RkAt w (w6.setCell ⟨gi, 5, none⟩ (.int .i64 p1.1)) g gi gr m (secF true [4, 5] s)) := Lib.hid (by
              show RkAt _ _ _ _ _ _ (stepF (stepF s 4) 5)
              rw [← HU0.out]
              exact ST1.out)
            clear HT
            go_wp2_with fail
            go_meet
            exact ⟨rfl, FIN.out⟩
        case rest =>
          obtain ⟨s1, hs1⟩ : ∃ u, u = secF T [4, 5] s := ⟨_, rfl⟩
          rw [← hs1] at hcut
          have HS1 : Hid (s1 = secF (hasB m 1) [4, 5] s) := Lib.hid (by rw [hs1, HT.out])
          obtain ⟨wx, hwx⟩ : ∃ x : World, x = wc := ⟨_, rfl⟩
          subst hwx
          obtain ⟨rfl, hrk⟩ := hcut
          have RK1 := Lib.hid hrk
          have m1 := hrk.cellM
          clear hrk hs1 HT m0 RK0 l1
          obtain ⟨T, hT⟩ : ∃ x, x = hasB m 2 := ⟨_, rfl⟩
          have CBt := Lib.hid (fun W => bit_any W m 2 HM.out (by unfold bitC; omega))
          rw [← hT] at CBt
          have HT := Lib.hid hT
          clear hT
          go_wp2_with fail
          (with_reducible refine (CBt.out _).mono ?_)
          rintro e wz ⟨rfl, rfl⟩
          clear CBt
          go_upto_if 35 with fail
          go_cut [3] (fun o wc => o = .pointer (some ⟨gi, 0, none⟩) ∧ RkAt w wc g gi gr m (secF T [6, 7] s1))
          case first =>
            cases T with
            | false =>
              go_wp2_with fail
              go_meet
              exact ⟨rfl, RK1.out⟩
            | true =>
              obtain ⟨wy, hwy⟩ : ∃ x : World, x = wz := ⟨_, rfl⟩
              subst hwy
              have D0 := Lib.hid (rrd_any RK1.out.rd)
              obtain ⟨p0, hp0⟩ : ∃ p, p = rdI s1.2 := ⟨_, rfl⟩
              rw [← hp0] at D0
              have HP0 := Lib.hid hp0
              clear hp0
              go_wp2_with fail
              (with_reducible refine D0.out.mono ?_)
              rintro e w5 ⟨rfl, hr, hk⟩
              obtain ⟨f0, v0, x0⟩ := RK1.out.open HAP.out hk 2
              have f0 : w5.frozen? ⟨gi, 6, none⟩ = false := f0
              have x0 : w5.cell? ⟨gi, 6, none⟩ = some v0 := x0
              have ST0 : Hid (RkAt w (w5.setCell ⟨gi, 6, none⟩ (.int .i64 p0.1)) g gi gr m (stepF s1 6)) := Lib.hid (by
                rw [HP0.out] at hr ⊢
                exact RK1.out.step HAP.out hr hk 2)
              clear hr hk D0 HP0
              go_upto_region 10 with fail
              refine wp_world ?_
              intro V0 hV0
              rw [← hV0] at ST0
              clear hV0 f0 x0
              obtain ⟨u0, hu0⟩ : ∃ u, u = stepF s1 6 := ⟨_, rfl⟩
              rw [← hu0] at ST0
              have HU0 := Lib.hid hu0
              clear hu0
              have D1 := Lib.hid (rrd_any ST0.out.rd)
              obtain ⟨p1, hp1⟩ : ∃ p, p = rdI u0.2 := ⟨_, rfl⟩
              rw [← hp1] at D1
              have HP1 := Lib.hid hp1
              clear hp1
              go_wp2_with fail
              (with_reducible refine D1.out.mono ?_)
              rintro e w6 ⟨rfl, hr, hk⟩
              obtain ⟨f1, v1, x1⟩ := ST0.out.open HAP.out hk 3
              have f1 : w6.frozen? ⟨gi, 7, none⟩ = false := f1
              have x1 : w6.cell? ⟨gi, 7, none⟩ = some v1 := x1
              have ST1 : Hid (RkAt w (w6.setCell ⟨gi, 7, none⟩ (.int .i64 p1.1)) g gi gr m (stepF u0 7)) := Lib.hid (by
                rw [HP1.out] at hr ⊢
                exact ST0.out.step HAP.out hr hk 3)
              clear hr hk D1 HP1
              have FIN : Hid (RkAt w (w6.setCell ⟨gi, 7, none⟩ (.int .i64 p1.1)) g gi gr m (secF true [6, 7] s1)) := Lib.hid (by
                show RkAt _ _ _ _ _ _ (stepF (stepF s1 6) 7)
                rw [← HU0.out]
                exact ST1.out)
              clear HT
              go_wp2_with fail
              go_meet
              exact ⟨rfl, FIN.out⟩
          case rest =>
            obtain ⟨s2, hs2⟩ : ∃ u, u = secF T [6, 7] s1 := ⟨_, rfl⟩
            rw [← hs2] at hcut
            have HS2 : Hid (s2 = secF (hasB m 2) [6, 7] s1) := Lib.hid (by rw [hs2, HT.out])
            obtain ⟨wx, hwx⟩ : ∃ x : World, x = wc := ⟨_, rfl⟩
            subst hwx
            obtain ⟨rfl, hrk⟩ := hcut
            have RK2 := Lib.hid hrk
            have m2 := hrk.cellM
            clear hrk hs2 HT m1 RK1
            obtain ⟨T, hT⟩ : ∃ x, x = hasB m 4 := ⟨_, rfl⟩
            have CBt := Lib.hid (fun W => bit_any W m 4 HM.out (by unfold bitC; omega))
            rw [← hT] at CBt
            have HT := Lib.hid hT
            clear hT
            go_wp2_with fail
            (with_reducible refine (CBt.out _).mono ?_)
            rintro e wz ⟨rfl, rfl⟩
            clear CBt
            go_upto_if 44 with fail
            go_cut [3] (fun o wc => o = .pointer (some ⟨gi, 0, none⟩) ∧ RkAt w wc g gi gr m (secF T [8] s2))
            case first =>
              cases T with
              | false =>
                go_wp2_with fail
                go_meet
                exact ⟨rfl, RK2.out⟩
              | true =>
                obtain ⟨wy, hwy⟩ : ∃ x : World, x = wz := ⟨_, rfl⟩
                subst hwy
                have D0 := Lib.hid (rrd_any RK2.out.rd)
                obtain ⟨p0, hp0⟩ : ∃ p, p = rdI s2.2 := ⟨_, rfl⟩
                rw [← hp0] at D0
                have HP0 := Lib.hid hp0
                clear hp0
                go_wp2_with fail
                (with_reducible refine D0.out.mono ?_)
                rintro e w5 ⟨rfl, hr, hk⟩
                obtain ⟨f0, v0, x0⟩ := RK2.out.open HAP.out hk 4
                have f0 : w5.frozen? ⟨gi, 8, none⟩ = false := f0
                have x0 : w5.cell? ⟨gi, 8, none⟩ = some v0 := x0
                have ST0 : Hid (RkAt w (w5.setCell ⟨gi, 8, none⟩ (.int .i64 p0.1)) g gi gr m (stepF s2 8)) := Lib.hid (by
                  rw [HP0.out] at hr ⊢
                  exact RK2.out.step HAP.out hr hk 4)
                clear hr hk D0 HP0
                have FIN : Hid (RkAt w (w5.setCell ⟨gi, 8, none⟩ (.int .i64 p0.1)) g gi gr m (secF true [8] s2)) := Lib.hid (by
                  show RkAt _ _ _ _ _ _ (stepF s2 8)
                  skip
                  exact ST0.out)
                clear HT
                go_wp2_with fail
                go_meet
                exact ⟨rfl, FIN.out⟩
            case rest =>
              obtain ⟨s3, hs3⟩ : ∃ u, u = secF T [8] s2 := ⟨_, rfl⟩
              rw [← hs3] at hcut
              have HS3 : Hid (s3 = secF (hasB m 4) [8] s2) := Lib.hid (by rw [hs3, HT.out])
              obtain ⟨wx, hwx⟩ : ∃ x : World, x = wc := ⟨_, rfl⟩
              subst hwx
              obtain ⟨rfl, hrk⟩ := hcut
              have RK3 := Lib.hid hrk
              have m3 := hrk.cellM
              clear hrk hs3 HT m2 RK2
              obtain ⟨T, hT⟩ : ∃ x, x = hasB m 8 := ⟨_, rfl⟩
              have CBt := Lib.hid (fun W => bit_any W m 8 HM.out (by unfold bitC; omega))
              rw [← hT] at CBt
              have HT := Lib.hid hT
              clear hT
              go_wp2_with fail
              (with_reducible refine (CBt.out _).mono ?_)
              rintro e wz ⟨rfl, rfl⟩
              clear CBt
              go_upto_if 50 with fail
              go_cut [3] (fun o wc => o = .pointer (some ⟨gi, 0, none⟩) ∧ RkAt w wc g gi gr m (secF T [9] s3))
              case first =>
                cases T with
                | false =>
                  go_wp2_with fail
                  go_meet
                  exact ⟨rfl, RK3.out⟩
                | true =>
                  obtain ⟨wy, hwy⟩ : ∃ x : World, x = wz := ⟨_, rfl⟩
                  subst hwy
                  have D0 := Lib.hid (rrd_any RK3.out.rd)
                  obtain ⟨p0, hp0⟩ : ∃ p, p = rdI s3.2 := ⟨_, rfl⟩
                  rw [← hp0] at D0
                  have HP0 := Lib.hid hp0
                  clear hp0
                  go_wp2_with fail
                  (with_reducible refine D0.out.mono ?_)
                  rintro e w5 ⟨rfl, hr, hk⟩
                  obtain ⟨f0, v0, x0⟩ := RK3.out.open HAP.out hk 5
                  have f0 : w5.frozen? ⟨gi, 9, none⟩ = false := f0
                  have x0 : w5.cell? ⟨gi, 9, none⟩ = some v0 := x0
                  have ST0 : Hid (RkAt w (w5.setCell ⟨gi, 9, none⟩ (.int .i64 p0.1)) g gi gr m (stepF s3 9)) := Lib.hid (by
                    rw [HP0.out] at hr ⊢
                    exact RK3.out.step HAP.out hr hk 5)
                  clear hr hk D0 HP0
                  have FIN : Hid (RkAt w (w5.setCell ⟨gi, 9, none⟩ (.int .i64 p0.1)) g gi gr m (secF true [9] s3)) := Lib.hid (by
                    show RkAt _ _ _ _ _ _ (stepF s3 9)
                    skip
                    exact ST0.out)
                  clear HT
                  go_wp2_with fail
                  go_meet
                  exact ⟨rfl, FIN.out⟩
              case rest =>
                obtain ⟨s4, hs4⟩ : ∃ u, u = secF T [9] s3 := ⟨_, rfl⟩
                rw [← hs4] at hcut
                have HS4 : Hid (s4 = secF (hasB m 8) [9] s3) := Lib.hid (by rw [hs4, HT.out])
                obtain ⟨wx, hwx⟩ : ∃ x : World, x = wc := ⟨_, rfl⟩
                subst hwx
                obtain ⟨rfl, hrk⟩ := hcut
                have RK4 := Lib.hid hrk
                have m4 := hrk.cellM
                clear hrk hs4 HT m3 RK3
                obtain ⟨T, hT⟩ : ∃ x, x = hasB m 16 := ⟨_, rfl⟩
                have CBt := Lib.hid (fun W => bit_any W m 16 HM.out (by unfold bitC; omega))
                rw [← hT] at CBt
                have HT := Lib.hid hT
                clear hT
                go_wp2_with fail
                (with_reducible refine (CBt.out _).mono ?_)
                rintro e wz ⟨rfl, rfl⟩
                clear CBt
                go_upto_if 56 with fail
                go_cut [3] (fun o wc => o = .pointer (some ⟨gi, 0, none⟩) ∧ RkAt w wc g gi gr m (secF T [10] s4))
                case first =>
                  cases T with
                  | false =>
                    go_wp2_with fail
                    go_meet
                    exact ⟨rfl, RK4.out⟩
                  | true =>
                    obtain ⟨wy, hwy⟩ : ∃ x : World, x = wz := ⟨_, rfl⟩
                    subst hwy
                    have D0 := Lib.hid (rrd_any RK4.out.rd)
                    obtain ⟨p0, hp0⟩ : ∃ p, p = rdI s4.2 := ⟨_, rfl⟩
                    rw [← hp0] at D0
                    have HP0 := Lib.hid hp0
                    clear hp0
                    go_wp2_with fail
                    (with_reducible refine D0.out.mono ?_)
                    rintro e w5 ⟨rfl, hr, hk⟩
                    obtain ⟨f0, v0, x0⟩ := RK4.out.open HAP.out hk 6
                    have f0 : w5.frozen? ⟨gi, 10, none⟩ = false := f0
                    have x0 : w5.cell? ⟨gi, 10, none⟩ = some v0 := x0
                    have ST0 : Hid (RkAt w (w5.setCell ⟨gi, 10, none⟩ (.int .i64 p0.1)) g gi gr m (stepF s4 10)) := Lib.hid (by
                      rw [HP0.out] at hr ⊢
                      exact RK4.out.step HAP.out hr hk 6)
                    clear hr hk D0 HP0
                    have FIN : Hid (RkAt w (w5.setCell ⟨gi, 10, none⟩ (.int .i64 p0.1)) g gi gr m (secF true [10] s4)) := Lib.hid (by
                      show RkAt _ _ _ _ _ _ (stepF s4 10)
                      skip
                      exact ST0.out)
                    clear HT
                    go_wp2_with fail
                    go_meet
                    exact ⟨rfl, FIN.out⟩
                case rest =>
                  obtain ⟨s5, hs5⟩ : ∃ u, u = secF T [10] s4 := ⟨_, rfl⟩
                  rw [← hs5] at hcut
                  have HS5 : Hid (s5 = secF (hasB m 16) [10] s4) := Lib.hid (by rw [hs5, HT.out])
                  obtain ⟨wx, hwx⟩ : ∃ x : World, x = wc := ⟨_, rfl⟩
                  subst hwx
                  obtain ⟨rfl, hrk⟩ := hcut
                  have RK5 := Lib.hid hrk
                  have m5 := hrk.cellM
                  clear hrk hs5 HT m4 RK4
                  have HR3 : Hid (R = s5) := Lib.hid (by rw [HR2.out, HS5.out, HS4.out, HS3.out, HS2.out, HS1.out, HS0.out, rest_secs])
                  clear HR2 HS5 HS4 HS3 HS2 HS1 HS0 m5
                  obtain ⟨b, r5⟩ := s5
                  have cI : cellsAt wx gi 0 11 = some [.int .i64 b.s, .int .i64 b.i, .int .i64 b.g, .int .i64 b.m, .int .i64 b.x, .int .i64 b.y, .int .i64 b.vx, .int .i64 b.vy, .int .i64 b.hp, .int .i64 b.pw, .int .i64 b.lf] := by unfold cellsAt; rw [RK5.out.bx]; rfl
                  have z5 := RK5.out.z
                  have oz : Open wx gr := ⟨_, _, z5⟩
                  have sz : (rowD wx gr).size = 11 := by unfold rowD; rw [z5]; rfl
                  have R5 := Lib.hid RK5.out.rd
                  have K5 := Lib.hid RK5.out.k
                  clear z5 RK5
                  go_wp2_with fail
                  have hcr : cellsAt (wx.setRow gr #[.int .i64 b.s, .int .i64 b.i, .int .i64 b.g, .int .i64 b.m, .int .i64 b.x, .int .i64 b.y, .int .i64 b.vx, .int .i64 b.vy, .int .i64 b.hp, .int .i64 b.pw, .int .i64 b.lf]) gr 0 11 = some (bdC R.1) := by rw [cellsAt_setRow_at _ _ _ _ _ oz, HR3.out]; rfl
                  have hF : Hid (RrAt (wx.setRow gr #[.int .i64 b.s, .int .i64 b.i, .int .i64 b.g, .int .i64 b.m, .int .i64 b.x, .int .i64 b.y, .int .i64 b.vx, .int .i64 b.vy, .int .i64 b.hp, .int .i64 b.pw, .int .i64 b.lf]) g R.2 ∧ Keeps (Own g) w (wx.setRow gr #[.int .i64 b.s, .int .i64 b.i, .int .i64 b.g, .int .i64 b.m, .int .i64 b.x, .int .i64 b.y, .int .i64 b.vx, .int .i64 b.vy, .int .i64 b.hp, .int .i64 b.pw, .int .i64 b.lf])) := Lib.hid ⟨by rw [HR3.out]; exact R5.out.kept ((Keeps.refl (S := Own gr) wx).setRow (fun _ => (rfl : gr = gr)) _) (fun e => HAP.out.rg e.symm), K5.out.setRow (fun h => absurd h (Nat.not_lt.2 HAP.out.nr)) _⟩
                  refine bodyPost_ret (v := bdV R.1) ?_ rfl ⟨rfl, hF.out.1, hF.out.2⟩
                  simp [results, Tryz.results138, go_sem, hcr]
end Go.Proofs.YtpbpgjfdledgoaaGreatDoor

/-
  The document's TakeBundle: the entity that comes next. No conditions of its own.
-/
namespace Go.Proofs.YtpbpgjfdledgoaaGreatDoor
open Go.RowKit Go.Shelf Go.Sort Go.Joins Go.Deep

theorem takeBd_rest (r : Rdr) : takeBd r = bif (restD (takeNam r).2).2.isSome && bdOk ((restD (takeNam r).2).1.named (takeNam r).1) then ((restD (takeNam r).2).1.named (takeNam r).1, (restD (takeNam r).2).2) else (Bd.zero, none) := by
  obtain ⟨h1, h2⟩ := restD_take (takeNam r).2
  unfold takeBd
  cases h : (takeRest (takeNam r).2).2.isSome with
  | true => rw [h1, h2 h, h]
  | false => rw [h1, h, Bool.false_and, Bool.false_and]; rfl
set_option maxRecDepth 100000 in
set_option maxHeartbeats 4000000 in
theorem rtakeBd_any {w : World} {g : Nat} {r : Rdr} (h : RrAt w g r) : Calls Tryz.prog 136 #[dP g] w (RTake w g (bdV (takeBd r).1) (takeBd r).2) := by
  obtain ⟨R, hR⟩ : ∃ x, x = takeBd r := ⟨_, rfl⟩
  rw [← hR]
  rw [takeBd_rest] at hR
  have hlt := h.lt
  have H := Lib.hid h
  clear h
  obtain ⟨p0, e0⟩ : ∃ x, x = takeNam r := ⟨_, rfl⟩
  rw [← e0] at hR
  obtain ⟨⟨n0, n1, n2⟩, r0⟩ := p0
  obtain ⟨p1, e1⟩ : ∃ x, x = restD r0 := ⟨_, rfl⟩
  simp only at hR
  rw [← e1] at hR
  obtain ⟨⟨b0, b1, b2, b3, b4, b5, b6, b7, b8, b9, b10⟩, r1⟩ := p1
  have E0 := Lib.hid e0
  have E1 := Lib.hid e1
  have HR : Hid (R = bif r1.isSome && bdOk ⟨n0, n1, n2, b3, b4, b5, b6, b7, b8, b9, b10⟩ then (⟨n0, n1, n2, b3, b4, b5, b6, b7, b8, b9, b10⟩, r1) else (Bd.zero, none)) := Lib.hid hR
  clear e0 e1 hR
  go_enter Tryz.func136, Tryz.ntmps136
  go_upto_region 1 with fail
  refine wp_world ?_
  intro W0 hW0
  have K0 : Hid (Keeps No w W0) := Lib.hid (by rw [hW0]; exact (Keeps.refl w).alloc _)
  have Z0 : Hid (W0.heap[w.heap.size]? = some (.cells (bdC Bd.zero).toArray 25 (0, 0))) := Lib.hid (by rw [hW0]; exact heap_alloc_new w _)
  have R0 := Lib.hid (H.out.kept K0.out (fun h => h))
  obtain ⟨gr, hgr⟩ : ∃ q, q = w.heap.size := ⟨_, rfl⟩
  have HGR : Hid (w.heap.size ≤ gr ∧ gr ≠ g) := Lib.hid ⟨by omega, by omega⟩
  rw [← hgr] at Z0 ⊢
  have C0 := Lib.hid (rtakeNam_any R0.out)
  rw [← E0.out] at C0
  clear hW0 hgr H hlt E0
  go_wp2_with fail
  (with_reducible refine C0.out.mono ?_)
  rintro e w1 ⟨rfl, hr, hk⟩
  have R1 := Lib.hid hr
  have K1 := Lib.hid (K0.out.own.trans hk (fun _ _ h => h))
  have Z1 := Lib.hid (hk.heap Z0.out HGR.out.2)
  clear hr hk C0 R0 K0 Z0
  go_upto_region 2 with fail
  refine wp_world ?_
  intro W1 hW1
  have k2 : Keeps No w1 W1 := by rw [hW1]; exact (Keeps.refl w1).alloc _
  have N2 : Hid (W1.heap[w1.heap.size]? = some (.cells #[.int .i64 n0, .int .i64 n1, .int .i64 n2] 23 (0, 0))) := Lib.hid (by rw [hW1]; exact heap_alloc_new w1 _)
  have R2 := Lib.hid (R1.out.kept k2 (fun h => h))
  have K2 : Hid (Keeps (Own g) w W1) := Lib.hid (K1.out.trans k2 (fun _ _ h => h.elim))
  have Z2 := Lib.hid (k2.heap Z1.out (fun h => h))
  obtain ⟨gn, hgn⟩ : ∃ q, q = w1.heap.size := ⟨_, rfl⟩
  have HGN : Hid (w.heap.size ≤ gn ∧ gn ≠ g) := Lib.hid ⟨by have := K1.out.size; omega, by have := R1.out.lt; omega⟩
  rw [← hgn] at N2 ⊢
  have C1 := Lib.hid (rtakeRest_any R2.out)
  rw [← E1.out] at C1
  clear hW1 k2 hgn R1 K1 Z1 E1 R2
  go_wp2_with fail
  (with_reducible refine C1.out.mono ?_)
  rintro e w2 ⟨rfl, hr, hk⟩
  have R3 := Lib.hid hr
  have K3 := Lib.hid (K2.out.trans hk (fun _ _ h => h))
  have Z3 := Lib.hid (hk.heap Z2.out HGR.out.2)
  have N3 := Lib.hid (hk.heap N2.out HGN.out.2)
  clear hr hk C1 K2 Z2 N2
  go_upto_region 3 with fail
  refine wp_world ?_
  intro W2 hW2
  have k4 : Keeps No w2 W2 := by rw [hW2]; exact (Keeps.refl w2).alloc _
  have I4 : Hid (W2.heap[w2.heap.size]? = some (.cells (bdC ⟨b0, b1, b2, b3, b4, b5, b6, b7, b8, b9, b10⟩).toArray 25 (0, 0))) := Lib.hid (by rw [hW2]; exact heap_alloc_new w2 _)
  have R4 := Lib.hid (R3.out.kept k4 (fun h => h))
  have K4 : Hid (Keeps (Own g) w W2) := Lib.hid (K3.out.trans k4 (fun _ _ h => h.elim))
  have Z4 := Lib.hid (k4.heap Z3.out (fun h => h))
  have n4 := k4.heap N3.out (fun h => h)
  obtain ⟨gi, hgi⟩ : ∃ q, q = w2.heap.size := ⟨_, rfl⟩
  have HG : Hid (w.heap.size ≤ gi ∧ w.heap.size ≤ gr ∧ gi ≠ gr ∧ gi ≠ g ∧ gr ≠ g) := Lib.hid ⟨by have := K3.out.size; omega, HGR.out.1, by have := (Array.getElem?_eq_some_iff.1 Z3.out).1; omega, by have := R3.out.lt; omega, HGR.out.2⟩
  have ngi : gn ≠ gi := by have := (Array.getElem?_eq_some_iff.1 N3.out).1; omega
  rw [← hgi] at I4 ⊢
  have cN : cellsAt W2 gn 0 3 = some [.int .i64 n0, .int .i64 n1, .int .i64 n2] := by unfold cellsAt; rw [n4]; rfl
  have oI : Open W2 gi := ⟨_, _, I4.out⟩
  have sI : (rowD W2 gi).size = 11 := by unfold rowD; rw [I4.out]; rfl
  clear hW2 k4 hgi R3 K3 Z3 N3 HGR HGN n4
  go_upto_region 4 with fail
  refine wp_world ?_
  intro W3 hW3
  have k5 : Keeps (Own gi) W2 W3 := by rw [hW3]; exact (Keeps.refl (S := Own gi) W2).setRow (fun _ => (rfl : gi = gi)) _
  have I3 : Hid (W3.heap[gi]? = some (.cells #[.int .i64 n0, .int .i64 n1, .int .i64 n2, .int .i64 b3, .int .i64 b4, .int .i64 b5, .int .i64 b6, .int .i64 b7, .int .i64 b8, .int .i64 b9, .int .i64 b10] 25 (0, 0))) := Lib.hid (by
    rw [hW3, setRow_heap W2 gi _ _ _ _ I4.out]
    have e : rowD W2 gi = (bdC ⟨b0, b1, b2, b3, b4, b5, b6, b7, b8, b9, b10⟩).toArray := by unfold rowD; rw [I4.out]
    rw [e]
    rfl)
  have R3 := Lib.hid (R4.out.kept k5 (fun e => HG.out.2.2.2.1 e.symm))
  have K3 : Hid (Keeps (Own g) w W3) := Lib.hid (K4.out.trans k5 (fun i hi e => by have e : i = gi := e; have := HG.out.1; omega))
  have Z3 := Lib.hid (k5.heap Z4.out (fun e => HG.out.2.2.1 e.symm))
  clear hW3 k5 cN oI sI ngi R4 K4 Z4 I4
  cases r1 with
  | none =>
    have HR2 : R = (Bd.zero, none) := HR.out
    have l1 : W3.cell? ⟨g, 1, none⟩ = some (.bool true) := R3.out.cell1
    have CB := Lib.hid (rbad_any R3.out)
    clear HR
    go_wp2_with fail
    (with_reducible refine CB.out.mono ?_)
    rintro e w4 ⟨rfl, hr4, hk4⟩
    have z4 := hk4.heap Z3.out HG.out.2.2.2.2
    have oz : Open w4 gr := ⟨_, _, z4⟩
    have sz : (rowD w4 gr).size = 11 := by unfold rowD; rw [z4]; rfl
    have R4 := Lib.hid hr4
    have K4 := Lib.hid (K3.out.trans hk4 (fun _ _ h => h))
    clear hr4 hk4 z4 CB l1 R3 K3 I3 Z3
    go_wp2_with fail
    have hcr : cellsAt (w4.setRow gr #[.int .i64 0, .int .i64 0, .int .i64 0, .int .i64 0, .int .i64 0, .int .i64 0, .int .i64 0, .int .i64 0, .int .i64 0, .int .i64 0, .int .i64 0]) gr 0 11 = some (bdC R.1) := by rw [cellsAt_setRow_at _ _ _ _ _ oz, HR2]; rfl
    have hF : Hid (RrAt (w4.setRow gr #[.int .i64 0, .int .i64 0, .int .i64 0, .int .i64 0, .int .i64 0, .int .i64 0, .int .i64 0, .int .i64 0, .int .i64 0, .int .i64 0, .int .i64 0]) g R.2 ∧ Keeps (Own g) w (w4.setRow gr #[.int .i64 0, .int .i64 0, .int .i64 0, .int .i64 0, .int .i64 0, .int .i64 0, .int .i64 0, .int .i64 0, .int .i64 0, .int .i64 0, .int .i64 0])) := Lib.hid ⟨by rw [HR2]; exact R4.out.kept ((Keeps.refl (S := Own gr) w4).setRow (fun _ => (rfl : gr = gr)) _) (fun e => HG.out.2.2.2.2 e.symm), K4.out.setRow (fun h => absurd h (Nat.not_lt.2 HG.out.2.1)) _⟩
    refine bodyPost_ret (v := bdV R.1) ?_ rfl ⟨rfl, hF.out.1, hF.out.2⟩
    simp [results, Tryz.results136, go_sem, hcr]
  | some s =>
    have l1 : W3.cell? ⟨g, 1, none⟩ = some (.bool false) := R3.out.cell1
    have cI : cellsAt W3 gi 0 11 = some [.int .i64 n0, .int .i64 n1, .int .i64 n2, .int .i64 b3, .int .i64 b4, .int .i64 b5, .int .i64 b6, .int .i64 b7, .int .i64 b8, .int .i64 b9, .int .i64 b10] := by unfold cellsAt; rw [I3.out]; rfl
    have CID := Lib.hid (fun W => mayR_any W ⟨n0, n1, n2, b3, b4, b5, b6, b7, b8, b9, b10⟩)
    cases hok : bdOk ⟨n0, n1, n2, b3, b4, b5, b6, b7, b8, b9, b10⟩ with
    | false =>
      have HR2 : R = (Bd.zero, none) := by rw [HR.out, hok]; rfl
      rw [hok] at CID
      clear HR hok
      go_wp2_with fail
      (with_reducible refine (CID.out _).mono ?_)
      rintro e w5 ⟨rfl, hk5⟩
      have R5 := Lib.hid (R3.out.kept hk5 (fun h => h))
      have K5 : Hid (Keeps (Own g) w w5) := Lib.hid (K3.out.trans hk5 (fun _ _ h => h.elim))
      have Z5 := Lib.hid (hk5.heap Z3.out (fun h => h))
      have CB := Lib.hid (rbad_any R5.out)
      clear hk5 l1 cI CID R3 K3 I3 Z3
      go_wp2_with fail
      (with_reducible refine CB.out.mono ?_)
      rintro e w4 ⟨rfl, hr4, hk4⟩
      have z4 := hk4.heap Z5.out HG.out.2.2.2.2
      have oz : Open w4 gr := ⟨_, _, z4⟩
      have sz : (rowD w4 gr).size = 11 := by unfold rowD; rw [z4]; rfl
      have R4 := Lib.hid hr4
      have K4 := Lib.hid (K5.out.trans hk4 (fun _ _ h => h))
      clear hr4 hk4 z4 CB R5 K5 Z5
      go_wp2_with fail
      have hcr : cellsAt (w4.setRow gr #[.int .i64 0, .int .i64 0, .int .i64 0, .int .i64 0, .int .i64 0, .int .i64 0, .int .i64 0, .int .i64 0, .int .i64 0, .int .i64 0, .int .i64 0]) gr 0 11 = some (bdC R.1) := by rw [cellsAt_setRow_at _ _ _ _ _ oz, HR2]; rfl
      have hF : Hid (RrAt (w4.setRow gr #[.int .i64 0, .int .i64 0, .int .i64 0, .int .i64 0, .int .i64 0, .int .i64 0, .int .i64 0, .int .i64 0, .int .i64 0, .int .i64 0, .int .i64 0]) g R.2 ∧ Keeps (Own g) w (w4.setRow gr #[.int .i64 0, .int .i64 0, .int .i64 0, .int .i64 0, .int .i64 0, .int .i64 0, .int .i64 0, .int .i64 0, .int .i64 0, .int .i64 0, .int .i64 0])) := Lib.hid ⟨by rw [HR2]; exact R4.out.kept ((Keeps.refl (S := Own gr) w4).setRow (fun _ => (rfl : gr = gr)) _) (fun e => HG.out.2.2.2.2 e.symm), K4.out.setRow (fun h => absurd h (Nat.not_lt.2 HG.out.2.1)) _⟩
      refine bodyPost_ret (v := bdV R.1) ?_ rfl ⟨rfl, hF.out.1, hF.out.2⟩
      simp [results, Tryz.results136, go_sem, hcr]
    | true =>
      have HR2 : R = (⟨n0, n1, n2, b3, b4, b5, b6, b7, b8, b9, b10⟩, some s) := by rw [HR.out, hok]; rfl
      rw [hok] at CID
      clear HR hok
      go_wp2_with fail
      (with_reducible refine (CID.out _).mono ?_)
      rintro e w5 ⟨rfl, hk5⟩
      have R5 := Lib.hid (R3.out.kept hk5 (fun h => h))
      have K5 : Hid (Keeps (Own g) w w5) := Lib.hid (K3.out.trans hk5 (fun _ _ h => h.elim))
      have c5 := hk5.cellsAt cI
      have z5 := hk5.heap Z3.out (fun h => h)
      have oz : Open w5 gr := ⟨_, _, z5⟩
      have sz : (rowD w5 gr).size = 11 := by unfold rowD; rw [z5]; rfl
      clear hk5 l1 cI CID R3 K3 I3 Z3 z5
      go_wp2_with fail
      have hcr : cellsAt (w5.setRow gr #[.int .i64 n0, .int .i64 n1, .int .i64 n2, .int .i64 b3, .int .i64 b4, .int .i64 b5, .int .i64 b6, .int .i64 b7, .int .i64 b8, .int .i64 b9, .int .i64 b10]) gr 0 11 = some (bdC R.1) := by rw [cellsAt_setRow_at _ _ _ _ _ oz, HR2]; rfl
      have hF : Hid (RrAt (w5.setRow gr #[.int .i64 n0, .int .i64 n1, .int .i64 n2, .int .i64 b3, .int .i64 b4, .int .i64 b5, .int .i64 b6, .int .i64 b7, .int .i64 b8, .int .i64 b9, .int .i64 b10]) g R.2 ∧ Keeps (Own g) w (w5.setRow gr #[.int .i64 n0, .int .i64 n1, .int .i64 n2, .int .i64 b3, .int .i64 b4, .int .i64 b5, .int .i64 b6, .int .i64 b7, .int .i64 b8, .int .i64 b9, .int .i64 b10])) := Lib.hid ⟨by rw [HR2]; exact R5.out.kept ((Keeps.refl (S := Own gr) w5).setRow (fun _ => (rfl : gr = gr)) _) (fun e => HG.out.2.2.2.2 e.symm), K5.out.setRow (fun h => absurd h (Nat.not_lt.2 HG.out.2.1)) _⟩
      refine bodyPost_ret (v := bdV R.1) ?_ rfl ⟨rfl, hF.out.1, hF.out.2⟩
      simp [results, Tryz.results136, go_sem, hcr]
end Go.Proofs.YtpbpgjfdledgoaaGreatDoor

/-
  The document's TakeCmd: the command that comes next. No conditions of its own.
-/
namespace Go.Proofs.YtpbpgjfdledgoaaGreatDoor
open Go.RowKit Go.Shelf Go.Sort Go.Joins Go.Deep

/-- what is read of a command, be it bad -/
def cmD (k : Int) (r : Rdr) : Cm × Rdr :=
  bif k == 1 then (⟨k, 0, 0, 0, (takeBd r).1, 0⟩, (takeBd r).2) else
  bif k == 2 then (⟨k, (takeNam r).1.s, (takeNam r).1.i, (takeNam r).1.g, Bd.zero, 0⟩, (takeNam r).2) else
  bif k == 3 then (⟨k, (takeNam r).1.s, (takeNam r).1.i, (takeNam r).1.g, (restD (takeNam r).2).1, 0⟩, (restD (takeNam r).2).2) else
  bif k == 4 then (⟨k, (takeNam r).1.s, (takeNam r).1.i, (takeNam r).1.g, Bd.zero, (rdI (takeNam r).2).1⟩, (rdI (takeNam r).2).2) else (⟨k, 0, 0, 0, Bd.zero, 0⟩, r)
theorem takeCm_D (r : Rdr) : takeCm r = bif (cmD (rdI r).1 (rdI r).2).2.isSome && cmdOk (cmD (rdI r).1 (rdI r).2).1 then cmD (rdI r).1 (rdI r).2 else (Cm.zero, none) := by
  have key : ∀ (k : Int) (r : Rdr), (cmD k r).2 = (cmRaw k r).2 ∧ ((cmRaw k r).2.isSome = true → (cmD k r).1 = (cmRaw k r).1) := by
    intro k r
    obtain ⟨h1, h2⟩ := restD_take (takeNam r).2
    unfold cmD cmRaw
    cases k == 1
    · cases k == 2
      · cases k == 3
        · cases k == 4
          · exact ⟨rfl, fun _ => rfl⟩
          · exact ⟨rfl, fun _ => rfl⟩
        · simp only [cond_true, cond_false]
          exact ⟨h1, fun h => by rw [h2 h]⟩
      · exact ⟨rfl, fun _ => rfl⟩
    · exact ⟨rfl, fun _ => rfl⟩
  obtain ⟨h1, h2⟩ := key (rdI r).1 (rdI r).2
  unfold takeCm
  cases h : (cmRaw (rdI r).1 (rdI r).2).2.isSome with
  | true =>
    have e : cmD (rdI r).1 (rdI r).2 = cmRaw (rdI r).1 (rdI r).2 := Prod.ext (h2 h) h1
    rw [e, h]
  | false => rw [h1, h, Bool.false_and, Bool.false_and]; rfl
/-- where a taking stands -/
structure CmAt (w : World) (g gi gr : Nat) (s : Cm × Rdr) (wc : World) : Prop where
  rd : RrAt wc g s.2
  bx : wc.heap[gi]? = some (.cells (cmC s.1).toArray 27 (0, 0))
  z : wc.heap[gr]? = some (.cells (cmC Cm.zero).toArray 27 (0, 0))
  k : Keeps (Own g) w wc
theorem CmAt.read {w wc w1 : World} {g gi gr : Nat} {c : Cm} {r r' : Rdr} (h : CmAt w g gi gr (c, r) wc) (a : Apart w g gi gr) (hr : RrAt w1 g r') (hk : Keeps (Own g) wc w1) : CmAt w g gi gr (c, r') w1 :=
  ⟨hr, hk.heap h.bx a.ig, hk.heap h.z a.rg, h.k.trans hk (fun _ _ h => h)⟩
/-- the command's box is another one -/
theorem CmAt.put {w w1 w2 : World} {g gi gr : Nat} {c c' : Cm} {r : Rdr} (h : CmAt w g gi gr (c, r) w1) (a : Apart w g gi gr) (hk : Keeps (Own gi) w1 w2) (hb : w2.heap[gi]? = some (.cells (cmC c').toArray 27 (0, 0))) : CmAt w g gi gr (c', r) w2 :=
  ⟨h.rd.kept hk (fun e => a.ig e.symm), hb, hk.heap h.z (fun e => a.ir e.symm), h.k.trans hk (fun i hi e => by have e : i = gi := e; have := a.ni; omega)⟩
theorem CmAt.opens {w w1 : World} {g gi gr : Nat} {s : Cm × Rdr} (h : CmAt w g gi gr s w1) : Open w1 gi ∧ (rowD w1 gi).size = 16 ∧ rowD w1 gi = (cmC s.1).toArray :=
  ⟨⟨_, _, h.bx⟩, by unfold rowD; rw [h.bx]; rfl, by unfold rowD; rw [h.bx]⟩
theorem CmAt.putRow {w w1 : World} {g gi gr : Nat} {c c' : Cm} {r : Rdr} (h : CmAt w g gi gr (c, r) w1) (a : Apart w g gi gr) (C : Array Value) (hC : C = (cmC c').toArray) : CmAt w g gi gr (c', r) (w1.setRow gi C) :=
  h.put a ((Keeps.refl (S := Own gi) w1).setRow (fun _ => (rfl : gi = gi)) _) (by rw [setRow_heap w1 gi _ _ _ _ h.bx, hC])
set_option maxRecDepth 100000 in
set_option maxHeartbeats 8000000 in
theorem rtakeCm_any {w : World} {g : Nat} {r : Rdr} (h : RrAt w g r) : Calls Tryz.prog 63 #[dP g] w (RTake w g (cmV (takeCm r).1) (takeCm r).2) := by
  obtain ⟨R, hR⟩ : ∃ x, x = takeCm r := ⟨_, rfl⟩
  rw [← hR]
  rw [takeCm_D] at hR
  have hlt := h.lt
  have H := Lib.hid h
  clear h
  obtain ⟨p0, e0⟩ : ∃ x, x = rdI r := ⟨_, rfl⟩
  rw [← e0] at hR
  obtain ⟨k, r0⟩ := p0
  simp only at hR
  obtain ⟨X, hX⟩ : ∃ X, X = cmD k r0 := ⟨_, rfl⟩
  rw [← hX] at hR
  have HXX := Lib.hid hX
  have E0 := Lib.hid e0
  have HR := Lib.hid hR
  clear e0 hR hX
  go_enter Tryz.func63, Tryz.ntmps63
  go_upto_region 1 with fail
  refine wp_world ?_
  intro W0 hW0
  have K0 : Hid (Keeps No w W0) := Lib.hid (by rw [hW0]; exact (Keeps.refl w).alloc _)
  have Z0 : Hid (W0.heap[w.heap.size]? = some (.cells (cmC Cm.zero).toArray 27 (0, 0))) := Lib.hid (by rw [hW0]; exact heap_alloc_new w _)
  have R0 := Lib.hid (H.out.kept K0.out (fun h => h))
  obtain ⟨gr, hgr⟩ : ∃ q, q = w.heap.size := ⟨_, rfl⟩
  have HGR : Hid (w.heap.size ≤ gr ∧ gr ≠ g) := Lib.hid ⟨by omega, by omega⟩
  rw [← hgr] at Z0 ⊢
  have C0 := Lib.hid (rrd_any R0.out)
  rw [← E0.out] at C0
  clear hW0 hgr H hlt E0
  go_wp2_with fail
  (with_reducible refine C0.out.mono ?_)
  rintro e w1 ⟨rfl, hr, hk⟩
  have R1 := Lib.hid hr
  have K1 := Lib.hid (K0.out.own.trans hk (fun _ _ h => h))
  have Z1 := Lib.hid (hk.heap Z0.out HGR.out.2)
  clear hr hk C0 R0 K0 Z0
  go_upto_region 2 with fail
  refine wp_world ?_
  intro W1 hW1
  have k2 : Keeps No w1 W1 := by rw [hW1]; exact (Keeps.refl w1).alloc _
  have I2 : Hid (W1.heap[w1.heap.size]? = some (.cells (cmC ⟨k, 0, 0, 0, Bd.zero, 0⟩).toArray 27 (0, 0))) := Lib.hid (by rw [hW1]; exact heap_alloc_new w1 _)
  have R2 := Lib.hid (R1.out.kept k2 (fun h => h))
  have K2 : Hid (Keeps (Own g) w W1) := Lib.hid (K1.out.trans k2 (fun _ _ h => h.elim))
  have Z2 := Lib.hid (k2.heap Z1.out (fun h => h))
  have HAP : Hid (Apart w g w1.heap.size gr) := Lib.hid ⟨K1.out.size, HGR.out.1, by have := (Array.getElem?_eq_some_iff.1 Z1.out).1; omega, by have := R1.out.lt; omega, HGR.out.2⟩
  obtain ⟨gi, hgi⟩ : ∃ q, q = w1.heap.size := ⟨_, rfl⟩
  rw [← hgi] at I2 HAP ⊢
  clear hW1 k2 hgi R1 K1 Z1 HGR
  have CK0 : Hid (CmAt w g gi gr (⟨k, 0, 0, 0, Bd.zero, 0⟩, r0) W1) := Lib.hid ⟨R2.out, I2.out, Z2.out, K2.out⟩
  have c0 : W1.cell? ⟨gi, 0, none⟩ = some (.int .i64 k) := by rw [cell_of_row _ _ _ _ _ _ I2.out]; rfl
  clear R2 K2 Z2 I2
  go_upto_block 0 with fail
  clear c0
  go_cut [] (CmAt w g gi gr X)
  case first =>
    by_cases h1 : k = 1
    · have b1 : (k == 1) = true := by rw [h1]; rfl
      have b2 : (k == 2) = false := by rw [h1]; rfl
      have b3 : (k == 3) = false := by rw [h1]; rfl
      have b4 : (k == 4) = false := by rw [h1]; rfl
      have HX : Hid (X = (⟨k, 0, 0, 0, (takeBd r0).1, 0⟩, (takeBd r0).2)) := Lib.hid (by rw [HXX.out]; unfold cmD; rw [b1, b2, b3, b4]; rfl)
      clear HXX h1
      have D0 := Lib.hid (rtakeBd_any CK0.out.rd)
      obtain ⟨p0, hp0⟩ : ∃ p, p = takeBd r0 := ⟨_, rfl⟩
      rw [← hp0] at D0 HX
      have HP0 := Lib.hid hp0
      clear hp0
      go_wp2_with fail
      (with_reducible refine D0.out.mono ?_)
      rintro e w5 ⟨rfl, hr, hk⟩
      have Q0 := Lib.hid (CK0.out.read HAP.out hr hk)
      obtain ⟨o0, s0, d0⟩ := Q0.out.opens
      obtain ⟨⟨b0, b1', b2', b3', b4', b5, b6, b7, b8, b9, b10⟩, r1⟩ := p0
      have DD0 := Lib.hid d0
      clear hr hk D0 d0
      go_wp2_with fail
      go_meet
      rw [HX.out]
      exact Q0.out.putRow HAP.out _ (by rw [DD0.out]; rfl)
    have n1 : ¬ k = 1 := h1
    clear h1
    by_cases h1 : k = 2
    · have b1 : (k == 1) = false := by rw [h1]; rfl
      have b2 : (k == 2) = true := by rw [h1]; rfl
      have b3 : (k == 3) = false := by rw [h1]; rfl
      have b4 : (k == 4) = false := by rw [h1]; rfl
      have HX : Hid (X = (⟨k, (takeNam r0).1.s, (takeNam r0).1.i, (takeNam r0).1.g, Bd.zero, 0⟩, (takeNam r0).2)) := Lib.hid (by rw [HXX.out]; unfold cmD; rw [b1, b2, b3, b4]; rfl)
      clear HXX h1
      have D0 := Lib.hid (rtakeNam_any CK0.out.rd)
      obtain ⟨p0, hp0⟩ : ∃ p, p = takeNam r0 := ⟨_, rfl⟩
      rw [← hp0] at D0 HX
      have HP0 := Lib.hid hp0
      clear hp0
      go_wp2_with fail
      (with_reducible refine D0.out.mono ?_)
      rintro e w5 ⟨rfl, hr, hk⟩
      have Q0 := Lib.hid (CK0.out.read HAP.out hr hk)
      obtain ⟨o0, s0, d0⟩ := Q0.out.opens
      obtain ⟨⟨n0, n1, n2⟩, r1⟩ := p0
      have DD0 := Lib.hid d0
      clear hr hk D0 d0
      go_wp2_with fail
      go_meet
      rw [HX.out]
      exact Q0.out.putRow HAP.out _ (by rw [DD0.out]; rfl)
    have n2 : ¬ k = 2 := h1
    clear h1
    by_cases h1 : k = 3
    · have b1 : (k == 1) = false := by rw [h1]; rfl
      have b2 : (k == 2) = false := by rw [h1]; rfl
      have b3 : (k == 3) = true := by rw [h1]; rfl
      have b4 : (k == 4) = false := by rw [h1]; rfl
      have HX : Hid (X = (⟨k, (takeNam r0).1.s, (takeNam r0).1.i, (takeNam r0).1.g, (restD (takeNam r0).2).1, 0⟩, (restD (takeNam r0).2).2)) := Lib.hid (by rw [HXX.out]; unfold cmD; rw [b1, b2, b3, b4]; rfl)
      clear HXX h1
      have D0 := Lib.hid (rtakeNam_any CK0.out.rd)
      obtain ⟨p0, hp0⟩ : ∃ p, p = takeNam r0 := ⟨_, rfl⟩
      rw [← hp0] at D0 HX
      have HP0 := Lib.hid hp0
      clear hp0
      go_wp2_with fail
      (with_reducible refine D0.out.mono ?_)
      rintro e w5 ⟨rfl, hr, hk⟩
      have Q0 := Lib.hid (CK0.out.read HAP.out hr hk)
      obtain ⟨o0, s0, d0⟩ := Q0.out.opens
      obtain ⟨⟨n0, n1, n2⟩, r1⟩ := p0
      have DD0 := Lib.hid d0
      clear hr hk D0 d0
      go_upto_region 9 with fail
      refine wp_world ?_
      intro V0 hV0
      have P0 : Hid (CmAt w g gi gr (⟨k, n0, n1, n2, Bd.zero, 0⟩, r1) V0) := Lib.hid (by rw [hV0]; exact Q0.out.putRow HAP.out _ (by rw [DD0.out]; rfl))
      clear hV0 o0 s0
      have D1 := Lib.hid (rtakeRest_any P0.out.rd)
      obtain ⟨p1, hp1⟩ : ∃ p, p = restD r1 := ⟨_, rfl⟩
      rw [← hp1] at D1 HX
      have HP1 := Lib.hid hp1
      clear hp1
      go_wp2_with fail
      (with_reducible refine D1.out.mono ?_)
      rintro e w6 ⟨rfl, hr, hk⟩
      have Q1 := Lib.hid (P0.out.read HAP.out hr hk)
      obtain ⟨o1, s1, d1⟩ := Q1.out.opens
      obtain ⟨⟨b0, b1', b2', b3', b4', b5, b6, b7, b8, b9, b10⟩, r2⟩ := p1
      have DD1 := Lib.hid d1
      clear hr hk D1 d1
      go_wp2_with fail
      go_meet
      rw [HX.out]
      exact Q1.out.putRow HAP.out _ (by rw [DD1.out]; rfl)
    have n3 : ¬ k = 3 := h1
    clear h1
    by_cases h1 : k = 4
    · have b1 : (k == 1) = false := by rw [h1]; rfl
      have b2 : (k == 2) = false := by rw [h1]; rfl
      have b3 : (k == 3) = false := by rw [h1]; rfl
      have b4 : (k == 4) = true := by rw [h1]; rfl
      have HX : Hid (X = (⟨k, (takeNam r0).1.s, (takeNam r0).1.i, (takeNam r0).1.g, Bd.zero, (rdI (takeNam r0).2).1⟩, (rdI (takeNam r0).2).2)) := Lib.hid (by rw [HXX.out]; unfold cmD; rw [b1, b2, b3, b4]; rfl)
      clear HXX h1
      have D0 := Lib.hid (rtakeNam_any CK0.out.rd)
      obtain ⟨p0, hp0⟩ : ∃ p, p = takeNam r0 := ⟨_, rfl⟩
      rw [← hp0] at D0 HX
      have HP0 := Lib.hid hp0
      clear hp0
      go_wp2_with fail
      (with_reducible refine D0.out.mono ?_)
      rintro e w5 ⟨rfl, hr, hk⟩
      have Q0 := Lib.hid (CK0.out.read HAP.out hr hk)
      obtain ⟨o0, s0, d0⟩ := Q0.out.opens
      obtain ⟨⟨n0, n1, n2⟩, r1⟩ := p0
      have DD0 := Lib.hid d0
      clear hr hk D0 d0
      go_upto_region 12 with fail
      refine wp_world ?_
      intro V0 hV0
      have P0 : Hid (CmAt w g gi gr (⟨k, n0, n1, n2, Bd.zero, 0⟩, r1) V0) := Lib.hid (by rw [hV0]; exact Q0.out.putRow HAP.out _ (by rw [DD0.out]; rfl))
      clear hV0 o0 s0
      have D1 := Lib.hid (rrd_any P0.out.rd)
      obtain ⟨p1, hp1⟩ : ∃ p, p = rdI r1 := ⟨_, rfl⟩
      rw [← hp1] at D1 HX
      have HP1 := Lib.hid hp1
      clear hp1
      go_wp2_with fail
      (with_reducible refine D1.out.mono ?_)
      rintro e w6 ⟨rfl, hr, hk⟩
      have Q1 := Lib.hid (P0.out.read HAP.out hr hk)
      obtain ⟨o1, s1, d1⟩ := Q1.out.opens
      obtain ⟨mm, r2⟩ := p1
      have x15 : w6.cell? ⟨gi, 15, none⟩ = some (.int .i64 0) := by rw [cell_of_row _ _ _ _ _ _ Q1.out.bx]; rfl
      have f15 : w6.frozen? ⟨gi, 15, none⟩ = false := frozen_of_row _ _ _ _ _ Q1.out.bx
      have DD1 := Lib.hid d1
      clear hr hk D1 d1
      go_wp2_with fail
      go_meet
      rw [HX.out]
      exact Q1.out.put HAP.out ((Keeps.refl (S := Own gi) w6).setCell (p := ⟨gi, 15, none⟩) (fun _ => (rfl : gi = gi)) _) (heap_setCell_at Q1.out.bx _)
    have n4 : ¬ k = 4 := h1
    clear h1
    have b1 : (k == 1) = false := by simpa using n1
    have b2 : (k == 2) = false := by simpa using n2
    have b3 : (k == 3) = false := by simpa using n3
    have b4 : (k == 4) = false := by simpa using n4
    have HX : Hid (X = (⟨k, 0, 0, 0, Bd.zero, 0⟩, r0)) := Lib.hid (by rw [HXX.out]; unfold cmD; rw [b1, b2, b3, b4]; rfl)
    clear HXX n1 n2 n3 n4
    go_wp2_with fail
    go_meet
    rw [HX.out]
    exact CK0.out
  case rest =>
    obtain ⟨W3, hw3⟩ : ∃ x : World, x = wc := ⟨_, rfl⟩
    subst hw3
    obtain ⟨⟨ck, cs, ci, cg, ⟨b0, b1, b2, b3, b4, b5, b6, b7, b8, b9, b10⟩, cm⟩, r1⟩ := X
    have I3 : Hid (W3.heap[gi]? = some (.cells #[.int .i64 ck, .int .i64 cs, .int .i64 ci, .int .i64 cg, .int .i64 b0, .int .i64 b1, .int .i64 b2, .int .i64 b3, .int .i64 b4, .int .i64 b5, .int .i64 b6, .int .i64 b7, .int .i64 b8, .int .i64 b9, .int .i64 b10, .int .i64 cm] 27 (0, 0))) := Lib.hid hcut.bx
    have R3 : Hid (RrAt W3 g r1) := Lib.hid hcut.rd
    have K3 := Lib.hid hcut.k
    have Z3 := Lib.hid hcut.z
    have HR : Hid (R = bif r1.isSome && cmdOk ⟨ck, cs, ci, cg, ⟨b0, b1, b2, b3, b4, b5, b6, b7, b8, b9, b10⟩, cm⟩ then (⟨ck, cs, ci, cg, ⟨b0, b1, b2, b3, b4, b5, b6, b7, b8, b9, b10⟩, cm⟩, r1) else (Cm.zero, none)) := Lib.hid HR.out
    clear hcut CK0 HXX
    cases r1 with
    | none =>
      have HR2 : R = (Cm.zero, none) := HR.out
      have l1 : W3.cell? ⟨g, 1, none⟩ = some (.bool true) := R3.out.cell1
      have CB := Lib.hid (rbad_any R3.out)
      clear HR
      go_wp2_with fail
      (with_reducible refine CB.out.mono ?_)
      rintro e w4 ⟨rfl, hr4, hk4⟩
      have z4 := hk4.heap Z3.out HAP.out.rg
      have oz : Open w4 gr := ⟨_, _, z4⟩
      have sz : (rowD w4 gr).size = 16 := by unfold rowD; rw [z4]; rfl
      have R4 := Lib.hid hr4
      have K4 := Lib.hid (K3.out.trans hk4 (fun _ _ h => h))
      clear hr4 hk4 z4 CB l1 R3 K3 I3 Z3
      go_wp2_with fail
      have hcr : cellsAt (w4.setRow gr #[.int .i64 0, .int .i64 0, .int .i64 0, .int .i64 0, .int .i64 0, .int .i64 0, .int .i64 0, .int .i64 0, .int .i64 0, .int .i64 0, .int .i64 0, .int .i64 0, .int .i64 0, .int .i64 0, .int .i64 0, .int .i64 0]) gr 0 16 = some (cmC R.1) := by rw [cellsAt_setRow_at _ _ _ _ _ oz, HR2]; rfl
      have hF : Hid (RrAt (w4.setRow gr #[.int .i64 0, .int .i64 0, .int .i64 0, .int .i64 0, .int .i64 0, .int .i64 0, .int .i64 0, .int .i64 0, .int .i64 0, .int .i64 0, .int .i64 0, .int .i64 0, .int .i64 0, .int .i64 0, .int .i64 0, .int .i64 0]) g R.2 ∧ Keeps (Own g) w (w4.setRow gr #[.int .i64 0, .int .i64 0, .int .i64 0, .int .i64 0, .int .i64 0, .int .i64 0, .int .i64 0, .int .i64 0, .int .i64 0, .int .i64 0, .int .i64 0, .int .i64 0, .int .i64 0, .int .i64 0, .int .i64 0, .int .i64 0])) := Lib.hid ⟨by rw [HR2]; exact R4.out.kept ((Keeps.refl (S := Own gr) w4).setRow (fun _ => (rfl : gr = gr)) _) (fun e => HAP.out.rg e.symm), K4.out.setRow (fun h => absurd h (Nat.not_lt.2 HAP.out.nr)) _⟩
      refine bodyPost_ret (v := cmV R.1) ?_ rfl ⟨rfl, hF.out.1, hF.out.2⟩
      simp [results, Tryz.results63, go_sem, hcr]
    | some s =>
      have l1 : W3.cell? ⟨g, 1, none⟩ = some (.bool false) := R3.out.cell1
      have cI : cellsAt W3 gi 0 16 = some [.int .i64 ck, .int .i64 cs, .int .i64 ci, .int .i64 cg, .int .i64 b0, .int .i64 b1, .int .i64 b2, .int .i64 b3, .int .i64 b4, .int .i64 b5, .int .i64 b6, .int .i64 b7, .int .i64 b8, .int .i64 b9, .int .i64 b10, .int .i64 cm] := by unfold cellsAt; rw [I3.out]; rfl
      have CID := Lib.hid (fun W => mayCmdR_any W ⟨ck, cs, ci, cg, ⟨b0, b1, b2, b3, b4, b5, b6, b7, b8, b9, b10⟩, cm⟩)
      cases hok : cmdOk ⟨ck, cs, ci, cg, ⟨b0, b1, b2, b3, b4, b5, b6, b7, b8, b9, b10⟩, cm⟩ with
      | false =>
        have HR2 : R = (Cm.zero, none) := by rw [HR.out, hok]; rfl
        rw [hok] at CID
        clear HR hok
        go_wp2_with fail
        (with_reducible refine (CID.out _).mono ?_)
        rintro e w5 ⟨rfl, hk5⟩
        have R5 := Lib.hid (R3.out.kept hk5 (fun h => h))
        have K5 : Hid (Keeps (Own g) w w5) := Lib.hid (K3.out.trans hk5 (fun _ _ h => h.elim))
        have Z5 := Lib.hid (hk5.heap Z3.out (fun h => h))
        have CB := Lib.hid (rbad_any R5.out)
        clear hk5 l1 cI CID R3 K3 I3 Z3
        go_wp2_with fail
        (with_reducible refine CB.out.mono ?_)
        rintro e w4 ⟨rfl, hr4, hk4⟩
        have z4 := hk4.heap Z5.out HAP.out.rg
        have oz : Open w4 gr := ⟨_, _, z4⟩
        have sz : (rowD w4 gr).size = 16 := by unfold rowD; rw [z4]; rfl
        have R4 := Lib.hid hr4
        have K4 := Lib.hid (K5.out.trans hk4 (fun _ _ h => h))
        clear hr4 hk4 z4 CB R5 K5 Z5
        go_wp2_with fail
        have hcr : cellsAt (w4.setRow gr #[.int .i64 0, .int .i64 0, .int .i64 0, .int .i64 0, .int .i64 0, .int .i64 0, .int .i64 0, .int .i64 0, .int .i64 0, .int .i64 0, .int .i64 0, .int .i64 0, .int .i64 0, .int .i64 0, .int .i64 0, .int .i64 0]) gr 0 16 = some (cmC R.1) := by rw [cellsAt_setRow_at _ _ _ _ _ oz, HR2]; rfl
        have hF : Hid (RrAt (w4.setRow gr #[.int .i64 0, .int .i64 0, .int .i64 0, .int .i64 0, .int .i64 0, .int .i64 0, .int .i64 0, .int .i64 0, .int .i64 0, .int .i64 0, .int .i64 0, .int .i64 0, .int .i64 0, .int .i64 0, .int .i64 0, .int .i64 0]) g R.2 ∧ Keeps (Own g) w (w4.setRow gr #[.int .i64 0, .int .i64 0, .int .i64 0, .int .i64 0, .int .i64 0, .int .i64 0, .int .i64 0, .int .i64 0, .int .i64 0, .int .i64 0, .int .i64 0, .int .i64 0, .int .i64 0, .int .i64 0, .int .i64 0, .int .i64 0])) := Lib.hid ⟨by rw [HR2]; exact R4.out.kept ((Keeps.refl (S := Own gr) w4).setRow (fun _ => (rfl : gr = gr)) _) (fun e => HAP.out.rg e.symm), K4.out.setRow (fun h => absurd h (Nat.not_lt.2 HAP.out.nr)) _⟩
        refine bodyPost_ret (v := cmV R.1) ?_ rfl ⟨rfl, hF.out.1, hF.out.2⟩
        simp [results, Tryz.results63, go_sem, hcr]
      | true =>
        have HR2 : R = (⟨ck, cs, ci, cg, ⟨b0, b1, b2, b3, b4, b5, b6, b7, b8, b9, b10⟩, cm⟩, some s) := by rw [HR.out, hok]; rfl
        rw [hok] at CID
        clear HR hok
        go_wp2_with fail
        (with_reducible refine (CID.out _).mono ?_)
        rintro e w5 ⟨rfl, hk5⟩
        have R5 := Lib.hid (R3.out.kept hk5 (fun h => h))
        have K5 : Hid (Keeps (Own g) w w5) := Lib.hid (K3.out.trans hk5 (fun _ _ h => h.elim))
        have c5 := hk5.cellsAt cI
        have z5 := hk5.heap Z3.out (fun h => h)
        have oz : Open w5 gr := ⟨_, _, z5⟩
        have sz : (rowD w5 gr).size = 16 := by unfold rowD; rw [z5]; rfl
        clear hk5 l1 cI CID R3 K3 I3 Z3 z5
        go_wp2_with fail
        have hcr : cellsAt (w5.setRow gr #[.int .i64 ck, .int .i64 cs, .int .i64 ci, .int .i64 cg, .int .i64 b0, .int .i64 b1, .int .i64 b2, .int .i64 b3, .int .i64 b4, .int .i64 b5, .int .i64 b6, .int .i64 b7, .int .i64 b8, .int .i64 b9, .int .i64 b10, .int .i64 cm]) gr 0 16 = some (cmC R.1) := by rw [cellsAt_setRow_at _ _ _ _ _ oz, HR2]; rfl
        have hF : Hid (RrAt (w5.setRow gr #[.int .i64 ck, .int .i64 cs, .int .i64 ci, .int .i64 cg, .int .i64 b0, .int .i64 b1, .int .i64 b2, .int .i64 b3, .int .i64 b4, .int .i64 b5, .int .i64 b6, .int .i64 b7, .int .i64 b8, .int .i64 b9, .int .i64 b10, .int .i64 cm]) g R.2 ∧ Keeps (Own g) w (w5.setRow gr #[.int .i64 ck, .int .i64 cs, .int .i64 ci, .int .i64 cg, .int .i64 b0, .int .i64 b1, .int .i64 b2, .int .i64 b3, .int .i64 b4, .int .i64 b5, .int .i64 b6, .int .i64 b7, .int .i64 b8, .int .i64 b9, .int .i64 b10, .int .i64 cm])) := Lib.hid ⟨by rw [HR2]; exact R5.out.kept ((Keeps.refl (S := Own gr) w5).setRow (fun _ => (rfl : gr = gr)) _) (fun e => HAP.out.rg e.symm), K5.out.setRow (fun h => absurd h (Nat.not_lt.2 HAP.out.nr)) _⟩
        refine bodyPost_ret (v := cmV R.1) ?_ rfl ⟨rfl, hF.out.1, hF.out.2⟩
        simp [results, Tryz.results63, go_sem, hcr]
end Go.Proofs.YtpbpgjfdledgoaaGreatDoor

