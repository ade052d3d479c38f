/-
  Texts in one: TiO, TiQ, TiS, TiT, TiU. No conditions of their own.
-/
import Derived.Test.YtndjnkjcfdaegaaGreatDoorZh06
import Derived.Test.YtndjnkjcfdaegaaGreatDoorZh07
set_option linter.all false

/-
  rect.box, off, Gap, Has. No conditions of their own.
-/
namespace Go.Proofs.YtndjnkjcfdaegaaGreatDoor
open Go.RowKit Go.Joins Go.Deep Go.Sort

abbrev rcC (a b c d : Int) : List Value := [.int .i64 a, .int .i64 b, .int .i64 c, .int .i64 d]
abbrev rcV (a b c d : Int) : Value := .agg #[.int .i64 a, .int .i64 b, .int .i64 c, .int .i64 d]
theorem clamp_g (w : World) (n : Int) : Calls Tryz.prog 203 #[.int .i64 n] w fun e w' => e = .returned (.int .i64 (cl n)) ∧ Grown w w' :=
  (clamp_any w n).mono fun _ _ h => ⟨h.1, h.2 ▸ Grown.same w⟩
set_option maxRecDepth 100000 in
set_option maxHeartbeats 8000000 in
theorem box_any (w : World) (a b c d : Int) : Calls Tryz.prog 201 #[rcV a b c d] w fun e w' => e = .returned (.tuple #[rcV (cl a) (cl b) (cl c) (cl d), .bool (decide (cl a < cl c) && decide (cl b < cl d))]) ∧ Keeps No w w' := by
  obtain ⟨A, hA⟩ : ∃ q, q = cl a := ⟨_, rfl⟩
  obtain ⟨B, hB⟩ : ∃ q, q = cl b := ⟨_, rfl⟩
  obtain ⟨C, hC⟩ : ∃ q, q = cl c := ⟨_, rfl⟩
  obtain ⟨D, hD⟩ : ∃ q, q = cl d := ⟨_, rfl⟩
  have CA := Lib.hid (fun W => clamp_g W a)
  have CB := Lib.hid (fun W => clamp_g W b)
  have CC := Lib.hid (fun W => clamp_g W c)
  have CD := Lib.hid (fun W => clamp_g W d)
  rw [← hA] at CA ⊢
  rw [← hB] at CB ⊢
  rw [← hC] at CC ⊢
  rw [← hD] at CD ⊢
  clear hA hB hC hD
  go_enter Tryz.func201, Tryz.ntmps201
  go_upto_region 1 with fail
  refine wp_world ?_
  intro W hW
  have cb : cellsAt W w.heap.size 0 4 = some (rcC a b c d) := by rw [hW]; simp [go_sem]
  have ob : Open W w.heap.size := by rw [hW]; simp [go_sem]
  have sb : (rowD W w.heap.size).size = 4 := by rw [hW]; simp [go_sem]
  have or : Open W (w.heap.size + 1) := by rw [hW]; simp [go_sem]
  have sr : (rowD W (w.heap.size + 1)).size = 4 := by rw [hW]; simp [go_sem]
  have K : Hid (Keeps No w W) := Lib.hid (by rw [hW]; exact ((Keeps.refl w).alloc _).alloc _)
  have lb : w.heap.size < W.heap.size := by rw [hW]; simp; omega
  have lr : w.heap.size + 1 < W.heap.size := by rw [hW]; simp
  obtain ⟨gb, hgb⟩ : ∃ g, g = w.heap.size := ⟨_, rfl⟩
  obtain ⟨gr, hgr⟩ : ∃ g, g = w.heap.size + 1 := ⟨_, rfl⟩
  have HG : Hid (w.heap.size ≤ gb ∧ w.heap.size ≤ gr) := Lib.hid ⟨by omega, by omega⟩
  have ne : gb ≠ gr := by omega
  have ne2 : gr ≠ gb := by omega
  rw [← hgr]
  rw [← hgb]
  rw [← hgr] at or sr lr
  rw [← hgb] at cb ob sb lb
  clear hW hgb hgr
  have c0 := cellsAt_cell cb 0 _ rfl
  have c1 := cellsAt_cell cb 1 _ rfl
  have c2 := cellsAt_cell cb 2 _ rfl
  have c3 := cellsAt_cell cb 3 _ rfl
  simp only [Nat.zero_add] at c0 c1 c2 c3
  have l0 : ∀ n os, (grow (W.drewN n) os).cell? ⟨gb, 0, none⟩ = some (.int .i64 a) := fun n os => cell_grown lb c0 n os
  have l1 : ∀ n os, (grow (W.drewN n) os).cell? ⟨gb, 1, none⟩ = some (.int .i64 b) := fun n os => cell_grown lb c1 n os
  have l2 : ∀ n os, (grow (W.drewN n) os).cell? ⟨gb, 2, none⟩ = some (.int .i64 c) := fun n os => cell_grown lb c2 n os
  have l3 : ∀ n os, (grow (W.drewN n) os).cell? ⟨gb, 3, none⟩ = some (.int .i64 d) := fun n os => cell_grown lb c3 n os
  have mx := mixed
  clear c0 c1 c2 c3
  refine Go.Tail.wp_region_tail_grown (n := 13) (l' := ?_) (by assumption) (by rfl) rfl (by simp only [List.set]; exact rfl) rfl rfl (by kernel_rfl) (by kernel_rfl) (by kernel_rfl) ?_
  repeat (quiet_step (first
    | (go_at_call 203; refine Calls.grown_of (CA.out _))
    | (go_at_call 203; refine Calls.grown_of (CB.out _))
    | (go_at_call 203; refine Calls.grown_of (CC.out _))
    | (go_at_call 203; refine Calls.grown_of (CD.out _))))
  refine wpQuiet_nil ?_
  intro nq osq
  have hG2 : Grown W (grow (W.drewN nq) osq) := ⟨nq, osq, rfl⟩
  have ob2 := hG2.keeps.opened ob
  have sb2 := hG2.keeps.rowSize ob sb
  have or2 := hG2.keeps.opened or
  have sr2 := hG2.keeps.rowSize or sr
  have K2 : Hid (Keeps No w (grow (W.drewN nq) osq)) := Lib.hid (K.out.trans hG2.keeps (fun _ _ h => h))
  obtain ⟨W2, hW2⟩ : ∃ x, x = grow (W.drewN nq) osq := ⟨_, rfl⟩
  rw [← hW2] at ob2 sb2 or2 sr2 K2 ⊢
  clear hW2 hG2 l0 l1 l2 l3 ob sb or sr cb lb lr K CA CB CC CD
  go_wp2_with fail
  refine wp_world ?_
  intro W3 hW3
  have c3 : cellsAt W3 gb 0 4 = some (rcC A B C D) := by rw [hW3, cellsAt_setRow_at _ _ _ _ _ ob2]; rfl
  have or3 : Open W3 gr := by rw [hW3]; exact (open_setRow _ _ _ _).2 or2
  have sr3 : (rowD W3 gr).size = 4 := by rw [hW3, rowD_setRow_far _ _ _ _ ne2]; exact sr2
  have K3 : Hid (Keeps No w W3) := Lib.hid (by rw [hW3]; exact K2.out.row HG.out.1 _)
  clear hW3 ob2 sb2 or2 sr2 K2
  have d0 := cellsAt_cell c3 0 _ rfl
  have d1 := cellsAt_cell c3 1 _ rfl
  have d2 := cellsAt_cell c3 2 _ rfl
  have d3 := cellsAt_cell c3 3 _ rfl
  simp only [Nat.zero_add] at d0 d1 d2 d3
  have FIN : Hid (Keeps No w (W3.setRow gr #[.int .i64 A, .int .i64 B, .int .i64 C, .int .i64 D]).drew ∧ cellsAt (W3.setRow gr #[.int .i64 A, .int .i64 B, .int .i64 C, .int .i64 D]).drew gr 0 4 = some (rcC A B C D)) := Lib.hid ⟨(K3.out.row HG.out.2 _).drew, by rw [cellsAt_drew, cellsAt_setRow_at _ _ _ _ _ or3]; rfl⟩
  by_cases hAC : A < C
  · go_region_held3 (fun x : World => cellsAt x gb 0 4 = some (rcC A B C D) ∧ x.cell? ⟨gb, 0, none⟩ = some (.int .i64 A) ∧ x.cell? ⟨gb, 1, none⟩ = some (.int .i64 B) ∧ x.cell? ⟨gb, 2, none⟩ = some (.int .i64 C) ∧ x.cell? ⟨gb, 3, none⟩ = some (.int .i64 D) ∧ Open x gr ∧ (rowD x gr).size = 4) (first | exact ⟨c3, d0, d1, d2, d3, or3, sr3⟩ | exact ⟨(cellsAt_setRow_far _ _ _ _ _ _ ne).trans c3, (cell_setRow_far _ _ _ _ _ ne).trans d0, (cell_setRow_far _ _ _ _ _ ne).trans d1, (cell_setRow_far _ _ _ _ _ ne).trans d2, (cell_setRow_far _ _ _ _ _ ne).trans d3, (open_setRow _ _ _ _).2 or3, by rw [rowD_drew, rowD_setRow_at _ _ _ or3]; rfl⟩) (fail)
    obtain ⟨W4, hW4⟩ : ∃ x, x = (W3.setRow gr #[.int .i64 A, .int .i64 B, .int .i64 C, .int .i64 D]).drew := ⟨_, rfl⟩
    rw [← hW4] at FIN ⊢
    have cR := FIN.out.2
    clear hW4 d0 d1 d2 d3 c3 or3 sr3 ne ne2
    go_wp2
    have hdec : (decide (A < C) && decide (B < D)) = decide (B < D) := by simp [hAC]
    rw [hdec]
    refine bodyPost_ret (v := .tuple #[rcV A B C D, .bool (decide (B < D))]) ?_ rfl ⟨rfl, FIN.out.1⟩
    clear hdec
    simp [results, Tryz.results201, go_sem, cR]
  · go_region
    obtain ⟨W4, hW4⟩ : ∃ x, x = (W3.setRow gr #[.int .i64 A, .int .i64 B, .int .i64 C, .int .i64 D]).drew := ⟨_, rfl⟩
    rw [← hW4] at FIN ⊢
    have cR := FIN.out.2
    clear hW4 d0 d1 d2 d3 c3 or3 sr3 ne ne2
    go_wp2
    have hdec : (decide (A < C) && decide (B < D)) = false := by rw [decide_eq_false (Int.not_lt.2 hAC), Bool.false_and]
    rw [hdec]
    refine bodyPost_ret (v := .tuple #[rcV A B C D, .bool false]) ?_ rfl ⟨rfl, FIN.out.1⟩
    clear hdec
    simp [results, Tryz.results201, go_sem, cR]
end Go.Proofs.YtndjnkjcfdaegaaGreatDoor

/-
  rect.off, Gap, Has. No conditions of their own.
-/
namespace Go.Proofs.YtndjnkjcfdaegaaGreatDoor
open Go.RowKit Go.Joins Go.Deep Go.Sort

@[go_sem] theorem run_max3 {P : Program} (w : World) (ts : Array TypeId) (t : TypeId) (a b c : Int) : (Builtin.max_ ts t #[.int .i64 a, .int .i64 b, .int .i64 c]).run P w = .ok (.int .i64 (max (max a b) c)) w := by
  rw [← max_if (max a b), ← max_if a]
  simp [Builtin.max_, Builtin.max2]
@[go_sem] theorem run_max2 {P : Program} (w : World) (ts : Array TypeId) (t : TypeId) (a b : Int) : (Builtin.max_ ts t #[.int .i64 a, .int .i64 b]).run P w = .ok (.int .i64 (max a b)) w := by
  rw [← max_if a]
  simp [Builtin.max_, Builtin.max2]
def offI (n lo hi : Int) : Int := max (max (lo - n) (n - hi)) 0
set_option maxRecDepth 100000 in
set_option maxHeartbeats 1000000 in
theorem off_any (w : World) (n lo hi : Int) (n1 : -1073741825 ≤ n) (n2 : n ≤ 1073741825) (l1 : -1073741825 ≤ lo) (l2 : lo ≤ 1073741825) (h1 : -1073741825 ≤ hi) (h2 : hi ≤ 1073741825) : Calls Tryz.prog 202 #[.int .i64 n, .int .i64 lo, .int .i64 hi] w fun e w' => e = .returned (.int .i64 (offI n lo hi)) ∧ w' = w := by
  obtain ⟨P, hP⟩ : ∃ q, lo - n = q := ⟨_, rfl⟩
  obtain ⟨Q, hQ⟩ : ∃ q, n - hi = q := ⟨_, rfl⟩
  obtain ⟨M, hM⟩ : ∃ M, max (max P Q) 0 = M := ⟨_, rfl⟩
  have hV : offI n lo hi = M := by unfold offI; rw [hP, hQ, hM]
  rw [hV]
  clear hV
  go_enter Tryz.func202, Tryz.ntmps202
  go_wp2
  all_goals go_ret
  all_goals exact ⟨by first | rfl | (simp; omega), rfl⟩
theorem off_g (w : World) (n lo hi : Int) (n1 : -1073741825 ≤ n) (n2 : n ≤ 1073741825) (l1 : -1073741825 ≤ lo) (l2 : lo ≤ 1073741825) (h1 : -1073741825 ≤ hi) (h2 : hi ≤ 1073741825) : Calls Tryz.prog 202 #[.int .i64 n, .int .i64 lo, .int .i64 hi] w fun e w' => e = .returned (.int .i64 (offI n lo hi)) ∧ Grown w w' :=
  (off_any w n lo hi n1 n2 l1 l2 h1 h2).mono fun _ _ h => ⟨h.1, h.2 ▸ Grown.same w⟩
/-- how far a point lies from a rectangle -/
def gapI (a b c d x y : Int) : Int := bif decide (cl a < cl c) && decide (cl b < cl d) then max (offI (cl x) (cl a) (cl c - 1)) (offI (cl y) (cl b) (cl d - 1)) else -1
set_option maxRecDepth 100000 in
set_option maxHeartbeats 4000000 in
theorem gap_any (w : World) (a b c d x y : Int) : Calls Tryz.prog 159 #[rcV a b c d, .int .i64 x, .int .i64 y] w fun e w' => e = .returned (.int .i64 (gapI a b c d x y)) ∧ Keeps No w w' := by
  have HB := Lib.hid (fun W => box_any W a b c d)
  have CX := Lib.hid (fun W => clamp_g W x)
  have CY := Lib.hid (fun W => clamp_g W y)
  have bA := cl_bnd a
  have bB := cl_bnd b
  have bC := cl_bnd c
  have bD := cl_bnd d
  have bX := cl_bnd x
  have bY := cl_bnd y
  unfold gapI
  obtain ⟨A, hA⟩ : ∃ q, q = cl a := ⟨_, rfl⟩
  obtain ⟨B, hB⟩ : ∃ q, q = cl b := ⟨_, rfl⟩
  obtain ⟨C, hC⟩ : ∃ q, q = cl c := ⟨_, rfl⟩
  obtain ⟨D, hD⟩ : ∃ q, q = cl d := ⟨_, rfl⟩
  obtain ⟨X, hX⟩ : ∃ q, q = cl x := ⟨_, rfl⟩
  obtain ⟨Y, hY⟩ : ∃ q, q = cl y := ⟨_, rfl⟩
  rw [← hA, ← hB, ← hC, ← hD] at HB
  rw [← hX] at CX
  rw [← hY] at CY
  rw [← hA] at bA
  rw [← hB] at bB
  rw [← hC] at bC
  rw [← hD] at bD
  rw [← hX] at bX
  rw [← hY] at bY
  rw [← hA, ← hB, ← hC, ← hD, ← hX, ← hY]
  clear hA hB hC hD hX hY
  have OX := Lib.hid (fun W => off_g W X A (C - 1) (by omega) (by omega) (by omega) (by omega) (by omega) (by omega))
  have OY := Lib.hid (fun W => off_g W Y B (D - 1) (by omega) (by omega) (by omega) (by omega) (by omega) (by omega))
  obtain ⟨U, hU⟩ : ∃ q, q = offI X A (C - 1) := ⟨_, rfl⟩
  obtain ⟨V, hV⟩ : ∃ q, q = offI Y B (D - 1) := ⟨_, rfl⟩
  obtain ⟨ok, hok⟩ : ∃ q, q = (decide (A < C) && decide (B < D)) := ⟨_, rfl⟩
  obtain ⟨M, hM⟩ : ∃ q, q = max U V := ⟨_, rfl⟩
  rw [← hU] at OX
  rw [← hV] at OY
  rw [← hok] at HB
  rw [← hU, ← hV, ← hok, ← hM]
  clear hU hV hok
  have mx := mixed
  go_enter Tryz.func159, Tryz.ntmps159
  go_wp2_with fail
  refine (HB.out _).mono ?_
  rintro e w1 ⟨rfl, hk⟩
  have K1 : Hid (Keeps No w w1) := Lib.hid (((Keeps.refl w).alloc _).trans hk (fun _ _ h => h))
  have ob : Open w1 w.heap.size := hk.opened (by simp [go_sem])
  have sb : (rowD w1 w.heap.size).size = 4 := hk.rowSize (by simp [go_sem]) (by simp [go_sem])
  have HG : Hid (w.heap.size < w1.heap.size) := Lib.hid (by have := hk.size; simp at this; omega)
  clear hk HB
  cases ok
  · go_wp2
    go_ret
    exact ⟨rfl, K1.out.row (Nat.le_refl _) _⟩
  · go_wp2_with fail
    refine wp_world ?_
    intro W hW
    have c3 : cellsAt W w.heap.size 0 4 = some (rcC A B C D) := by rw [hW, cellsAt_setRow_at _ _ _ _ _ ob]; rfl
    have K2 : Hid (Keeps No w W) := Lib.hid (by rw [hW]; exact K1.out.row (Nat.le_refl _) _)
    clear hW ob sb K1 HG
    obtain ⟨gb, hgb⟩ : ∃ g, g = w.heap.size := ⟨_, rfl⟩
    rw [← hgb] at c3 ⊢
    clear hgb
    have lb : gb < W.heap.size := block_lt_of_cell (cellsAt_cell c3 0 _ rfl)
    have d0 := cellsAt_cell c3 0 _ rfl
    have d1 := cellsAt_cell c3 1 _ rfl
    have d2 := cellsAt_cell c3 2 _ rfl
    have d3 := cellsAt_cell c3 3 _ rfl
    simp only [Nat.zero_add] at d0 d1 d2 d3
    have l0 : ∀ n os, (grow (W.drewN n) os).cell? ⟨gb, 0, none⟩ = some (.int .i64 A) := fun n os => cell_grown lb d0 n os
    have l1 : ∀ n os, (grow (W.drewN n) os).cell? ⟨gb, 1, none⟩ = some (.int .i64 B) := fun n os => cell_grown lb d1 n os
    have l2 : ∀ n os, (grow (W.drewN n) os).cell? ⟨gb, 2, none⟩ = some (.int .i64 C) := fun n os => cell_grown lb d2 n os
    have l3 : ∀ n os, (grow (W.drewN n) os).cell? ⟨gb, 3, none⟩ = some (.int .i64 D) := fun n os => cell_grown lb d3 n os
    clear d0 d1 d2 d3 c3
    have wC : IntKind.i64.wrap (C - 1) = C - 1 := by rw [IntKind.wrap_i64]; omega
    have wD : IntKind.i64.wrap (D - 1) = D - 1 := by rw [IntKind.wrap_i64]; omega
    go_quiet_grown (first
      | (go_at_call 203; have hc := CX.out; with_reducible refine Calls.grown_of (hc _))
      | (go_at_call 203; have hc := CY.out; with_reducible refine Calls.grown_of (hc _))
      | (go_at_call 202; have hc := OX.out; with_reducible refine Calls.grown_of (hc _))
      | (go_at_call 202; have hc := OY.out; with_reducible refine Calls.grown_of (hc _)))
    have hG2 : Grown W (grow (W.drewN nq) osq) := ⟨nq, osq, rfl⟩
    have K3 : Hid (Keeps No w (grow (W.drewN nq) osq)) := Lib.hid (K2.out.trans hG2.keeps (fun _ _ h => h))
    show Exit.then _ _ Exit.normal _ (grow (W.drewN nq) osq)
    obtain ⟨W2, hW2⟩ : ∃ x, x = grow (W.drewN nq) osq := ⟨_, rfl⟩
    rw [← hW2] at K3 ⊢
    clear hW2 hG2
    go_wp2
    all_goals go_ret
    all_goals exact ⟨by first | rfl | (simp; omega), K3.out⟩
set_option maxRecDepth 100000 in
theorem hasR_any (w : World) (a b c d x y : Int) : Calls Tryz.prog 112 #[rcV a b c d, .int .i64 x, .int .i64 y] w fun e w' => e = .returned (.bool (gapI a b c d x y == 0)) ∧ Keeps No w w' := by
  have HC := Lib.hid (fun W => gap_any W a b c d x y)
  obtain ⟨g, hg⟩ : ∃ g, g = gapI a b c d x y := ⟨_, rfl⟩
  rw [← hg] at HC ⊢
  clear hg
  go_enter Tryz.func112, Tryz.ntmps112
  go_wp2_with fail
  refine (HC.out _).mono ?_
  rintro e w1 ⟨rfl, hk⟩
  have K1 : Hid (Keeps No w w1) := Lib.hid (by first | exact hk | exact ((Keeps.refl w).alloc _).trans hk (fun _ _ h => h))
  clear hk
  go_wp2
  go_ret
  exact ⟨rfl, K1.out⟩
end Go.Proofs.YtndjnkjcfdaegaaGreatDoor

/-
  The map of zones: In. No conditions of their own.
-/
namespace Go.Proofs.YtndjnkjcfdaegaaGreatDoor
open Go.RowKit Go.Joins Go.Deep Go.Sort

theorem min_if (a b : Int) : (if b < a then b else a) = min a b := by
  by_cases h : b < a
  · rw [if_pos h]; omega
  · rw [if_neg h]; omega
@[go_sem] theorem run_min2 {P : Program} (w : World) (ts : Array TypeId) (t : TypeId) (a b : Int) : (Builtin.min_ ts t #[.int .i64 a, .int .i64 b]).run P w = .ok (.int .i64 (min a b)) w := by
  rw [← min_if a]
  simp [Builtin.min_, Builtin.min2]
/-- a world's form: columns, rows, side, radius, speed, names, queue -/
structure Zf where
  c : Int
  r : Int
  s : Int
  u : Int
  v : Int
  i : Int
  q : Int
/-- the cells of a map: the form, the world's rectangle -/
abbrev zmC (z : Zf) : List Value := [.int .i64 z.c, .int .i64 z.r, .int .i64 z.s, .int .i64 z.u, .int .i64 z.v, .int .i64 z.i, .int .i64 z.q, .int .i64 0, .int .i64 0, .int .i64 (z.c * z.s), .int .i64 (z.r * z.s)]
end Go.Proofs.YtndjnkjcfdaegaaGreatDoor

/-
  The map of zones: Count, Of. No conditions of their own.
-/
namespace Go.Proofs.YtndjnkjcfdaegaaGreatDoor
open Go.RowKit Go.Joins Go.Deep Go.Sort

set_option maxRecDepth 100000 in
set_option maxHeartbeats 1000000 in
theorem mapCount_any (w : World) (g : Nat) (z : Zf) (h : cellsAt w g 0 11 = some (zmC z)) (h1 : 0 ≤ z.c * z.r) (h2 : z.c * z.r ≤ 1073741824) :
    Calls Tryz.prog 35 #[.pointer (some ⟨g, 0, none⟩)] w fun e w' => e = .returned (.int .i64 (z.c * z.r)) ∧ Grown w w' := by
  have e0 := cellsAt_cell h 0 _ rfl
  have e1 := cellsAt_cell h 1 _ rfl
  simp only [Nat.zero_add] at e0 e1
  obtain ⟨C, hC⟩ : ∃ q, q = z.c := ⟨_, rfl⟩
  obtain ⟨R, hR⟩ : ∃ q, q = z.r := ⟨_, rfl⟩
  rw [← hC, ← hR] at h1 h2 ⊢
  rw [← hC] at e0
  rw [← hR] at e1
  have lb : g < w.heap.size := block_lt_of_cell e0
  have l0 : ∀ n os, (grow (w.drewN n) os).cell? ⟨g, 0, none⟩ = some (.int .i64 C) := fun n os => cell_grown lb e0 n os
  have l1 : ∀ n os, (grow (w.drewN n) os).cell? ⟨g, 1, none⟩ = some (.int .i64 R) := fun n os => cell_grown lb e1 n os
  have wC : IntKind.i64.wrap (C * R) = C * R := by rw [IntKind.wrap_i64]; omega
  have mx := mixed
  clear h hC hR e0 e1
  go_enter Tryz.func35, Tryz.ntmps35
  go_wp2_with fail
  go_quiet_grown (fail)
  go_wp2
  go_ret
  exact ⟨rfl, ⟨nq, osq, rfl⟩⟩
end Go.Proofs.YtndjnkjcfdaegaaGreatDoor

/-
  The map of zones: Of. No conditions of their own.
-/
namespace Go.Proofs.YtndjnkjcfdaegaaGreatDoor
open Go.RowKit Go.Joins Go.Deep Go.Sort

theorem cl_ways (n : Int) : cl n = n ∨ (n < -1073741824 ∧ cl n = -1073741824) ∨ (1073741824 < n ∧ cl n = 1073741824) := by
  by_cases h : n < -1073741824
  · exact .inr (.inl ⟨h, cl_lo h⟩)
  · by_cases k : 1073741824 < n
    · exact .inr (.inr ⟨k, cl_hi k⟩)
    · exact .inl (cl_in (by omega) (by omega))
theorem gap_zero {A B x y : Int} (a1 : 1 ≤ A) (a2 : A ≤ 1073741824) (b1 : 1 ≤ B) (b2 : B ≤ 1073741824) : gapI 0 0 A B x y = 0 ↔ 0 ≤ x ∧ x ≤ A - 1 ∧ 0 ≤ y ∧ y ≤ B - 1 := by
  have hA : cl A = A := cl_in (by omega) a2
  have hB : cl B = B := cl_in (by omega) b2
  have h0 : cl 0 = 0 := cl_in (by omega) (by omega)
  unfold gapI
  rw [hA, hB, h0, decide_eq_true (show (0 : Int) < A by omega), decide_eq_true (show (0 : Int) < B by omega), Bool.and_self, cond_true]
  unfold offI
  have hx := cl_ways x
  have hy := cl_ways y
  omega
/-- the zone of a point; -1: none -/
def zoneI (z : Zf) (x y : Int) : Int := bif decide (0 ≤ x) && decide (x ≤ z.c * z.s - 1) && decide (0 ≤ y) && decide (y ≤ z.r * z.s - 1) then Int.tdiv y z.s * z.c + Int.tdiv x z.s else -1
theorem zone_gap {z : Zf} {x y : Int} (a1 : 1 ≤ z.c * z.s) (a2 : z.c * z.s ≤ 1073741824) (b1 : 1 ≤ z.r * z.s) (b2 : z.r * z.s ≤ 1073741824) : (gapI 0 0 (z.c * z.s) (z.r * z.s) x y == 0) = (decide (0 ≤ x) && decide (x ≤ z.c * z.s - 1) && decide (0 ≤ y) && decide (y ≤ z.r * z.s - 1)) := by
  rw [Bool.eq_iff_iff]
  simp only [beq_iff_eq, Bool.and_eq_true, decide_eq_true_iff]
  rw [gap_zero a1 a2 b1 b2]
  constructor
  · rintro ⟨h1, h2, h3, h4⟩; exact ⟨⟨⟨h1, h2⟩, h3⟩, h4⟩
  · rintro ⟨⟨⟨h1, h2⟩, h3⟩, h4⟩; exact ⟨h1, h2, h3, h4⟩
set_option maxRecDepth 100000 in
set_option maxHeartbeats 1000000 in
theorem mapOf_any (w : World) (g : Nat) (z : Zf) (h : cellsAt w g 0 11 = some (zmC z)) (x y : Int) (h1 : 1 ≤ z.c * z.s) (h2 : z.c * z.s ≤ 1073741824) (h3 : 1 ≤ z.r * z.s) (h4 : z.r * z.s ≤ 1073741824) (s1 : 1 ≤ z.s) (c0 : 0 ≤ z.c) (c1 : z.c ≤ 1073741824) :
    Calls Tryz.prog 62 #[.pointer (some ⟨g, 0, none⟩), .int .i64 x, .int .i64 y] w fun e w' => e = .returned (.int .i64 (zoneI z x y)) ∧ Keeps No w w' := by
  have HC := Lib.hid (fun W => hasR_any W 0 0 (z.c * z.s) (z.r * z.s) x y)
  rw [zone_gap h1 h2 h3 h4] at HC
  unfold zoneI
  have hr : cellsAt w g 7 4 = some (rcC 0 0 (z.c * z.s) (z.r * z.s)) := cellsAt_part h 7 [.int .i64 0, .int .i64 0, .int .i64 (z.c * z.s), .int .i64 (z.r * z.s)] rfl (Nat.zero_lt_succ _)
  have e0 := cellsAt_cell h 0 _ rfl
  have e2 := cellsAt_cell h 2 _ rfl
  simp only [Nat.zero_add] at e0 e2
  obtain ⟨X, hX⟩ : ∃ q, q = z.c * z.s := ⟨_, rfl⟩
  obtain ⟨Y, hY⟩ : ∃ q, q = z.r * z.s := ⟨_, rfl⟩
  obtain ⟨C, hC⟩ : ∃ q, q = z.c := ⟨_, rfl⟩
  obtain ⟨S, hS⟩ : ∃ q, q = z.s := ⟨_, rfl⟩
  rw [← hX] at HC h2 hr ⊢
  rw [← hY] at HC h4 hr ⊢
  rw [← hC] at e0 c0 c1 ⊢
  rw [← hS] at e2 s1 ⊢
  clear h hX hY hC hS h1 h3
  obtain ⟨ok, hok⟩ : ∃ q, q = (decide (0 ≤ x) && decide (x ≤ X - 1) && decide (0 ≤ y) && decide (y ≤ Y - 1)) := ⟨_, rfl⟩
  rw [← hok] at HC ⊢
  have lb : g < w.heap.size := block_lt_of_cell e0
  have mx := mixed
  cases ok
  · clear hok
    go_enter Tryz.func62, Tryz.ntmps62
    go_wp2_with fail
    refine (HC.out _).mono ?_
    rintro e w1 ⟨rfl, hk⟩
    have K1 := Lib.hid hk
    clear hk
    go_wp2
    go_ret
    exact ⟨rfl, K1.out⟩
  · have hk2 := hok.symm
    simp only [Bool.and_eq_true, decide_eq_true_iff] at hk2
    obtain ⟨⟨⟨x0, x1⟩, y0⟩, y1⟩ := hk2
    clear hok
    have q0 : 0 ≤ Int.tdiv y S := Int.tdiv_nonneg y0 (by omega)
    have q1 : Int.tdiv y S ≤ y := Int.tdiv_le_self S y0
    have p0 : 0 ≤ Int.tdiv x S := Int.tdiv_nonneg x0 (by omega)
    have p1 : Int.tdiv x S ≤ x := Int.tdiv_le_self S x0
    obtain ⟨Q, hQ⟩ : ∃ q, Int.tdiv y S = q := ⟨_, rfl⟩
    obtain ⟨P, hP⟩ : ∃ q, Int.tdiv x S = q := ⟨_, rfl⟩
    rw [hQ] at q0 q1 ⊢
    rw [hP] at p0 p1 ⊢
    have m0 : 0 ≤ Q * C := Int.mul_nonneg q0 c0
    have m1 : Q * C ≤ 1073741824 * 1073741824 := Int.mul_le_mul (by omega) c1 c0 (by omega)
    obtain ⟨M, hM⟩ : ∃ q, Q * C = q := ⟨_, rfl⟩
    rw [hM] at m0 m1 ⊢
    have wQ : IntKind.i64.wrap Q = Q := by rw [IntKind.wrap_i64]; omega
    have wP : IntKind.i64.wrap P = P := by rw [IntKind.wrap_i64]; omega
    have wM : IntKind.i64.wrap M = M := by rw [IntKind.wrap_i64]; omega
    have wS : IntKind.i64.wrap (M + P) = M + P := by rw [IntKind.wrap_i64]; omega
    have S0 : ¬ S = 0 := by omega
    have S0b : (S == 0) = false := by rw [beq_eq_false_iff_ne]; omega
    go_enter Tryz.func62, Tryz.ntmps62
    go_wp2_with fail
    refine (HC.out _).mono ?_
    rintro e w1 ⟨rfl, hk⟩
    have K1 := Lib.hid hk
    have lb1 : g < w1.heap.size := by have := hk.size; omega
    have l0 : ∀ n os, (grow (w1.drewN n) os).cell? ⟨g, 0, none⟩ = some (.int .i64 C) := fun n os => cell_grown lb1 (hk.cell e0 (fun h => h)) n os
    have l2 : ∀ n os, (grow (w1.drewN n) os).cell? ⟨g, 2, none⟩ = some (.int .i64 S) := fun n os => cell_grown lb1 (hk.cell e2 (fun h => h)) n os
    clear hk
    go_wp2_with fail
    go_quiet_grown (fail)
    go_wp2
    go_ret
    exact ⟨rfl, K1.out.trans (Grown.keeps ⟨nq, osq, rfl⟩) (fun _ _ h => h)⟩
end Go.Proofs.YtndjnkjcfdaegaaGreatDoor

