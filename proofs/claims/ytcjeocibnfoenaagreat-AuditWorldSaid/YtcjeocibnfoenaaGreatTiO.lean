/-
  rect.box, off, Gap, Has. No conditions of their own.
-/
import Derived.Test.YtcjeocibnfoenaaGreatTiN
import Derived.Test.YtcjeocibnfoenaaGreatTail
namespace Go.Proofs.YtcjeocibnfoenaaGreat
open Go.RowKit Go.Joins Go.Deep Go.Sort

abbrev rcC (a b c d : Int) : List Value := [.int .i64 a, .int .i64 b, .int .i64 c, .int .i64 d]
abbrev rcV (a b c d : Int) : Value := .agg #[.int .i64 a, .int .i64 b, .int .i64 c, .int .i64 d]
theorem clamp_g (w : World) (n : Int) : Calls Tryz.prog 84 #[.int .i64 n] w fun e w' => e = .returned (.int .i64 (cl n)) ∧ Grown w w' :=
  (clamp_any w n).mono fun _ _ h => ⟨h.1, h.2 ▸ Grown.same w⟩
set_option maxRecDepth 100000 in
set_option maxHeartbeats 8000000 in
theorem box_any (w : World) (a b c d : Int) : Calls Tryz.prog 111 #[rcV a b c d] w fun e w' => e = .returned (.tuple #[rcV (cl a) (cl b) (cl c) (cl d), .bool (decide (cl a < cl c) && decide (cl b < cl d))]) ∧ Keeps No w w' := by
  obtain ⟨A, hA⟩ : ∃ q, q = cl a := ⟨_, rfl⟩
  obtain ⟨B, hB⟩ : ∃ q, q = cl b := ⟨_, rfl⟩
  obtain ⟨C, hC⟩ : ∃ q, q = cl c := ⟨_, rfl⟩
  obtain ⟨D, hD⟩ : ∃ q, q = cl d := ⟨_, rfl⟩
  have CA := Lib.hid (fun W => clamp_g W a)
  have CB := Lib.hid (fun W => clamp_g W b)
  have CC := Lib.hid (fun W => clamp_g W c)
  have CD := Lib.hid (fun W => clamp_g W d)
  rw [← hA] at CA ⊢
  rw [← hB] at CB ⊢
  rw [← hC] at CC ⊢
  rw [← hD] at CD ⊢
  clear hA hB hC hD
  go_enter Tryz.func111, Tryz.ntmps111
  go_upto_region 1 with fail
  refine wp_world ?_
  intro W hW
  have cb : cellsAt W w.heap.size 0 4 = some (rcC a b c d) := by rw [hW]; simp [go_sem]
  have ob : Open W w.heap.size := by rw [hW]; simp [go_sem]
  have sb : (rowD W w.heap.size).size = 4 := by rw [hW]; simp [go_sem]
  have or : Open W (w.heap.size + 1) := by rw [hW]; simp [go_sem]
  have sr : (rowD W (w.heap.size + 1)).size = 4 := by rw [hW]; simp [go_sem]
  have K : Hid (Keeps No w W) := Lib.hid (by rw [hW]; exact ((Keeps.refl w).alloc _).alloc _)
  have lb : w.heap.size < W.heap.size := by rw [hW]; simp; omega
  have lr : w.heap.size + 1 < W.heap.size := by rw [hW]; simp
  obtain ⟨gb, hgb⟩ : ∃ g, g = w.heap.size := ⟨_, rfl⟩
  obtain ⟨gr, hgr⟩ : ∃ g, g = w.heap.size + 1 := ⟨_, rfl⟩
  have HG : Hid (w.heap.size ≤ gb ∧ w.heap.size ≤ gr) := Lib.hid ⟨by omega, by omega⟩
  have ne : gb ≠ gr := by omega
  have ne2 : gr ≠ gb := by omega
  rw [← hgr]
  rw [← hgb]
  rw [← hgr] at or sr lr
  rw [← hgb] at cb ob sb lb
  clear hW hgb hgr
  have c0 := cellsAt_cell cb 0 _ rfl
  have c1 := cellsAt_cell cb 1 _ rfl
  have c2 := cellsAt_cell cb 2 _ rfl
  have c3 := cellsAt_cell cb 3 _ rfl
  simp only [Nat.zero_add] at c0 c1 c2 c3
  have l0 : ∀ n os, (grow (W.drewN n) os).cell? ⟨gb, 0, none⟩ = some (.int .i64 a) := fun n os => cell_grown lb c0 n os
  have l1 : ∀ n os, (grow (W.drewN n) os).cell? ⟨gb, 1, none⟩ = some (.int .i64 b) := fun n os => cell_grown lb c1 n os
  have l2 : ∀ n os, (grow (W.drewN n) os).cell? ⟨gb, 2, none⟩ = some (.int .i64 c) := fun n os => cell_grown lb c2 n os
  have l3 : ∀ n os, (grow (W.drewN n) os).cell? ⟨gb, 3, none⟩ = some (.int .i64 d) := fun n os => cell_grown lb c3 n os
  have mx := mixed
  clear c0 c1 c2 c3
  refine Go.Tail.wp_region_tail_grown (n := 13) (l' := ?_) (by assumption) (by rfl) rfl (by simp only [List.set]; exact rfl) rfl rfl (by kernel_rfl) (by kernel_rfl) (by kernel_rfl) ?_
  repeat (quiet_step (first
    | (go_at_call 84; refine Calls.grown_of (CA.out _))
    | (go_at_call 84; refine Calls.grown_of (CB.out _))
    | (go_at_call 84; refine Calls.grown_of (CC.out _))
    | (go_at_call 84; refine Calls.grown_of (CD.out _))))
  refine wpQuiet_nil ?_
  intro nq osq
  have hG2 : Grown W (grow (W.drewN nq) osq) := ⟨nq, osq, rfl⟩
  have ob2 := hG2.keeps.opened ob
  have sb2 := hG2.keeps.rowSize ob sb
  have or2 := hG2.keeps.opened or
  have sr2 := hG2.keeps.rowSize or sr
  have K2 : Hid (Keeps No w (grow (W.drewN nq) osq)) := Lib.hid (K.out.trans hG2.keeps (fun _ _ h => h))
  obtain ⟨W2, hW2⟩ : ∃ x, x = grow (W.drewN nq) osq := ⟨_, rfl⟩
  rw [← hW2] at ob2 sb2 or2 sr2 K2 ⊢
  clear hW2 hG2 l0 l1 l2 l3 ob sb or sr cb lb lr K CA CB CC CD
  go_wp2_with fail
  refine wp_world ?_
  intro W3 hW3
  have c3 : cellsAt W3 gb 0 4 = some (rcC A B C D) := by rw [hW3, cellsAt_setRow_at _ _ _ _ _ ob2]; rfl
  have or3 : Open W3 gr := by rw [hW3]; exact (open_setRow _ _ _ _).2 or2
  have sr3 : (rowD W3 gr).size = 4 := by rw [hW3, rowD_setRow_far _ _ _ _ ne2]; exact sr2
  have K3 : Hid (Keeps No w W3) := Lib.hid (by rw [hW3]; exact K2.out.row HG.out.1 _)
  clear hW3 ob2 sb2 or2 sr2 K2
  have d0 := cellsAt_cell c3 0 _ rfl
  have d1 := cellsAt_cell c3 1 _ rfl
  have d2 := cellsAt_cell c3 2 _ rfl
  have d3 := cellsAt_cell c3 3 _ rfl
  simp only [Nat.zero_add] at d0 d1 d2 d3
  have FIN : Hid (Keeps No w (W3.setRow gr #[.int .i64 A, .int .i64 B, .int .i64 C, .int .i64 D]).drew ∧ cellsAt (W3.setRow gr #[.int .i64 A, .int .i64 B, .int .i64 C, .int .i64 D]).drew gr 0 4 = some (rcC A B C D)) := Lib.hid ⟨(K3.out.row HG.out.2 _).drew, by rw [cellsAt_drew, cellsAt_setRow_at _ _ _ _ _ or3]; rfl⟩
  by_cases hAC : A < C
  · go_region_held3 (fun x : World => cellsAt x gb 0 4 = some (rcC A B C D) ∧ x.cell? ⟨gb, 0, none⟩ = some (.int .i64 A) ∧ x.cell? ⟨gb, 1, none⟩ = some (.int .i64 B) ∧ x.cell? ⟨gb, 2, none⟩ = some (.int .i64 C) ∧ x.cell? ⟨gb, 3, none⟩ = some (.int .i64 D) ∧ Open x gr ∧ (rowD x gr).size = 4) (first | exact ⟨c3, d0, d1, d2, d3, or3, sr3⟩ | exact ⟨(cellsAt_setRow_far _ _ _ _ _ _ ne).trans c3, (cell_setRow_far _ _ _ _ _ ne).trans d0, (cell_setRow_far _ _ _ _ _ ne).trans d1, (cell_setRow_far _ _ _ _ _ ne).trans d2, (cell_setRow_far _ _ _ _ _ ne).trans d3, (open_setRow _ _ _ _).2 or3, by rw [rowD_drew, rowD_setRow_at _ _ _ or3]; rfl⟩) (fail)
    obtain ⟨W4, hW4⟩ : ∃ x, x = (W3.setRow gr #[.int .i64 A, .int .i64 B, .int .i64 C, .int .i64 D]).drew := ⟨_, rfl⟩
    rw [← hW4] at FIN ⊢
    have cR := FIN.out.2
    clear hW4 d0 d1 d2 d3 c3 or3 sr3 ne ne2
    go_wp2
    have hdec : (decide (A < C) && decide (B < D)) = decide (B < D) := by simp [hAC]
    rw [hdec]
    refine bodyPost_ret (v := .tuple #[rcV A B C D, .bool (decide (B < D))]) ?_ rfl ⟨rfl, FIN.out.1⟩
    clear hdec
    simp [results, Tryz.results111, go_sem, cR]
  · go_region
    obtain ⟨W4, hW4⟩ : ∃ x, x = (W3.setRow gr #[.int .i64 A, .int .i64 B, .int .i64 C, .int .i64 D]).drew := ⟨_, rfl⟩
    rw [← hW4] at FIN ⊢
    have cR := FIN.out.2
    clear hW4 d0 d1 d2 d3 c3 or3 sr3 ne ne2
    go_wp2
    have hdec : (decide (A < C) && decide (B < D)) = false := by rw [decide_eq_false (Int.not_lt.2 hAC), Bool.false_and]
    rw [hdec]
    refine bodyPost_ret (v := .tuple #[rcV A B C D, .bool false]) ?_ rfl ⟨rfl, FIN.out.1⟩
    clear hdec
    simp [results, Tryz.results111, go_sem, cR]
end Go.Proofs.YtcjeocibnfoenaaGreat
