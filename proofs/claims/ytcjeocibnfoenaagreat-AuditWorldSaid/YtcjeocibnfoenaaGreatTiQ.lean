/-
  rect.off, Gap, Has. No conditions of their own.
-/
import Derived.Test.YtcjeocibnfoenaaGreatTiO
namespace Go.Proofs.YtcjeocibnfoenaaGreat
open Go.RowKit Go.Joins Go.Deep Go.Sort

@[go_sem] theorem run_max3 {P : Program} (w : World) (ts : Array TypeId) (t : TypeId) (a b c : Int) : (Builtin.max_ ts t #[.int .i64 a, .int .i64 b, .int .i64 c]).run P w = .ok (.int .i64 (max (max a b) c)) w := by
  rw [← max_if (max a b), ← max_if a]
  simp [Builtin.max_, Builtin.max2]
@[go_sem] theorem run_max2 {P : Program} (w : World) (ts : Array TypeId) (t : TypeId) (a b : Int) : (Builtin.max_ ts t #[.int .i64 a, .int .i64 b]).run P w = .ok (.int .i64 (max a b)) w := by
  rw [← max_if a]
  simp [Builtin.max_, Builtin.max2]
def offI (n lo hi : Int) : Int := max (max (lo - n) (n - hi)) 0
set_option maxRecDepth 100000 in
set_option maxHeartbeats 1000000 in
theorem off_any (w : World) (n lo hi : Int) (n1 : -1073741825 ≤ n) (n2 : n ≤ 1073741825) (l1 : -1073741825 ≤ lo) (l2 : lo ≤ 1073741825) (h1 : -1073741825 ≤ hi) (h2 : hi ≤ 1073741825) : Calls Tryz.prog 112 #[.int .i64 n, .int .i64 lo, .int .i64 hi] w fun e w' => e = .returned (.int .i64 (offI n lo hi)) ∧ w' = w := by
  obtain ⟨P, hP⟩ : ∃ q, lo - n = q := ⟨_, rfl⟩
  obtain ⟨Q, hQ⟩ : ∃ q, n - hi = q := ⟨_, rfl⟩
  obtain ⟨M, hM⟩ : ∃ M, max (max P Q) 0 = M := ⟨_, rfl⟩
  have hV : offI n lo hi = M := by unfold offI; rw [hP, hQ, hM]
  rw [hV]
  clear hV
  go_enter Tryz.func112, Tryz.ntmps112
  go_wp2
  all_goals go_ret
  all_goals exact ⟨by first | rfl | (simp; omega), rfl⟩
theorem off_g (w : World) (n lo hi : Int) (n1 : -1073741825 ≤ n) (n2 : n ≤ 1073741825) (l1 : -1073741825 ≤ lo) (l2 : lo ≤ 1073741825) (h1 : -1073741825 ≤ hi) (h2 : hi ≤ 1073741825) : Calls Tryz.prog 112 #[.int .i64 n, .int .i64 lo, .int .i64 hi] w fun e w' => e = .returned (.int .i64 (offI n lo hi)) ∧ Grown w w' :=
  (off_any w n lo hi n1 n2 l1 l2 h1 h2).mono fun _ _ h => ⟨h.1, h.2 ▸ Grown.same w⟩
/-- how far a point lies from a rectangle -/
def gapI (a b c d x y : Int) : Int := bif decide (cl a < cl c) && decide (cl b < cl d) then max (offI (cl x) (cl a) (cl c - 1)) (offI (cl y) (cl b) (cl d - 1)) else -1
set_option maxRecDepth 100000 in
set_option maxHeartbeats 4000000 in
theorem gap_any (w : World) (a b c d x y : Int) : Calls Tryz.prog 89 #[rcV a b c d, .int .i64 x, .int .i64 y] w fun e w' => e = .returned (.int .i64 (gapI a b c d x y)) ∧ Keeps No w w' := by
  have HB := Lib.hid (fun W => box_any W a b c d)
  have CX := Lib.hid (fun W => clamp_g W x)
  have CY := Lib.hid (fun W => clamp_g W y)
  have bA := cl_bnd a
  have bB := cl_bnd b
  have bC := cl_bnd c
  have bD := cl_bnd d
  have bX := cl_bnd x
  have bY := cl_bnd y
  unfold gapI
  obtain ⟨A, hA⟩ : ∃ q, q = cl a := ⟨_, rfl⟩
  obtain ⟨B, hB⟩ : ∃ q, q = cl b := ⟨_, rfl⟩
  obtain ⟨C, hC⟩ : ∃ q, q = cl c := ⟨_, rfl⟩
  obtain ⟨D, hD⟩ : ∃ q, q = cl d := ⟨_, rfl⟩
  obtain ⟨X, hX⟩ : ∃ q, q = cl x := ⟨_, rfl⟩
  obtain ⟨Y, hY⟩ : ∃ q, q = cl y := ⟨_, rfl⟩
  rw [← hA, ← hB, ← hC, ← hD] at HB
  rw [← hX] at CX
  rw [← hY] at CY
  rw [← hA] at bA
  rw [← hB] at bB
  rw [← hC] at bC
  rw [← hD] at bD
  rw [← hX] at bX
  rw [← hY] at bY
  rw [← hA, ← hB, ← hC, ← hD, ← hX, ← hY]
  clear hA hB hC hD hX hY
  have OX := Lib.hid (fun W => off_g W X A (C - 1) (by omega) (by omega) (by omega) (by omega) (by omega) (by omega))
  have OY := Lib.hid (fun W => off_g W Y B (D - 1) (by omega) (by omega) (by omega) (by omega) (by omega) (by omega))
  obtain ⟨U, hU⟩ : ∃ q, q = offI X A (C - 1) := ⟨_, rfl⟩
  obtain ⟨V, hV⟩ : ∃ q, q = offI Y B (D - 1) := ⟨_, rfl⟩
  obtain ⟨ok, hok⟩ : ∃ q, q = (decide (A < C) && decide (B < D)) := ⟨_, rfl⟩
  obtain ⟨M, hM⟩ : ∃ q, q = max U V := ⟨_, rfl⟩
  rw [← hU] at OX
  rw [← hV] at OY
  rw [← hok] at HB
  rw [← hU, ← hV, ← hok, ← hM]
  clear hU hV hok
  have mx := mixed
  go_enter Tryz.func89, Tryz.ntmps89
  go_wp2_with fail
  refine (HB.out _).mono ?_
  rintro e w1 ⟨rfl, hk⟩
  have K1 : Hid (Keeps No w w1) := Lib.hid (((Keeps.refl w).alloc _).trans hk (fun _ _ h => h))
  have ob : Open w1 w.heap.size := hk.opened (by simp [go_sem])
  have sb : (rowD w1 w.heap.size).size = 4 := hk.rowSize (by simp [go_sem]) (by simp [go_sem])
  have HG : Hid (w.heap.size < w1.heap.size) := Lib.hid (by have := hk.size; simp at this; omega)
  clear hk HB
  cases ok
  · go_wp2
    go_ret
    exact ⟨rfl, K1.out.row (Nat.le_refl _) _⟩
  · go_wp2_with fail
    refine wp_world ?_
    intro W hW
    have c3 : cellsAt W w.heap.size 0 4 = some (rcC A B C D) := by rw [hW, cellsAt_setRow_at _ _ _ _ _ ob]; rfl
    have K2 : Hid (Keeps No w W) := Lib.hid (by rw [hW]; exact K1.out.row (Nat.le_refl _) _)
    clear hW ob sb K1 HG
    obtain ⟨gb, hgb⟩ : ∃ g, g = w.heap.size := ⟨_, rfl⟩
    rw [← hgb] at c3 ⊢
    clear hgb
    have lb : gb < W.heap.size := block_lt_of_cell (cellsAt_cell c3 0 _ rfl)
    have d0 := cellsAt_cell c3 0 _ rfl
    have d1 := cellsAt_cell c3 1 _ rfl
    have d2 := cellsAt_cell c3 2 _ rfl
    have d3 := cellsAt_cell c3 3 _ rfl
    simp only [Nat.zero_add] at d0 d1 d2 d3
    have l0 : ∀ n os, (grow (W.drewN n) os).cell? ⟨gb, 0, none⟩ = some (.int .i64 A) := fun n os => cell_grown lb d0 n os
    have l1 : ∀ n os, (grow (W.drewN n) os).cell? ⟨gb, 1, none⟩ = some (.int .i64 B) := fun n os => cell_grown lb d1 n os
    have l2 : ∀ n os, (grow (W.drewN n) os).cell? ⟨gb, 2, none⟩ = some (.int .i64 C) := fun n os => cell_grown lb d2 n os
    have l3 : ∀ n os, (grow (W.drewN n) os).cell? ⟨gb, 3, none⟩ = some (.int .i64 D) := fun n os => cell_grown lb d3 n os
    clear d0 d1 d2 d3 c3
    have wC : IntKind.i64.wrap (C - 1) = C - 1 := by rw [IntKind.wrap_i64]; omega
    have wD : IntKind.i64.wrap (D - 1) = D - 1 := by rw [IntKind.wrap_i64]; omega
    go_quiet_grown (first
      | (go_at_call 84; have hc := CX.out; with_reducible refine Calls.grown_of (hc _))
      | (go_at_call 84; have hc := CY.out; with_reducible refine Calls.grown_of (hc _))
      | (go_at_call 112; have hc := OX.out; with_reducible refine Calls.grown_of (hc _))
      | (go_at_call 112; have hc := OY.out; with_reducible refine Calls.grown_of (hc _)))
    have hG2 : Grown W (grow (W.drewN nq) osq) := ⟨nq, osq, rfl⟩
    have K3 : Hid (Keeps No w (grow (W.drewN nq) osq)) := Lib.hid (K2.out.trans hG2.keeps (fun _ _ h => h))
    show Exit.then _ _ Exit.normal _ (grow (W.drewN nq) osq)
    obtain ⟨W2, hW2⟩ : ∃ x, x = grow (W.drewN nq) osq := ⟨_, rfl⟩
    rw [← hW2] at K3 ⊢
    clear hW2 hG2
    go_wp2
    all_goals go_ret
    all_goals exact ⟨by first | rfl | (simp; omega), K3.out⟩
set_option maxRecDepth 100000 in
theorem hasR_any (w : World) (a b c d x y : Int) : Calls Tryz.prog 60 #[rcV a b c d, .int .i64 x, .int .i64 y] w fun e w' => e = .returned (.bool (gapI a b c d x y == 0)) ∧ Keeps No w w' := by
  have HC := Lib.hid (fun W => gap_any W a b c d x y)
  obtain ⟨g, hg⟩ : ∃ g, g = gapI a b c d x y := ⟨_, rfl⟩
  rw [← hg] at HC ⊢
  clear hg
  go_enter Tryz.func60, Tryz.ntmps60
  go_wp2_with fail
  refine (HC.out _).mono ?_
  rintro e w1 ⟨rfl, hk⟩
  have K1 : Hid (Keeps No w w1) := Lib.hid (by first | exact hk | exact ((Keeps.refl w).alloc _).trans hk (fun _ _ h => h))
  clear hk
  go_wp2
  go_ret
  exact ⟨rfl, K1.out⟩
end Go.Proofs.YtcjeocibnfoenaaGreat
