/-
  The map of zones: Of. No conditions of their own.
-/
import Derived.Test.YtcjeocibnfoenaaGreatTiT
namespace Go.Proofs.YtcjeocibnfoenaaGreat
open Go.RowKit Go.Joins Go.Deep Go.Sort

theorem cl_ways (n : Int) : cl n = n ∨ (n < -1073741824 ∧ cl n = -1073741824) ∨ (1073741824 < n ∧ cl n = 1073741824) := by
  by_cases h : n < -1073741824
  · exact .inr (.inl ⟨h, cl_lo h⟩)
  · by_cases k : 1073741824 < n
    · exact .inr (.inr ⟨k, cl_hi k⟩)
    · exact .inl (cl_in (by omega) (by omega))
theorem gap_zero {A B x y : Int} (a1 : 1 ≤ A) (a2 : A ≤ 1073741824) (b1 : 1 ≤ B) (b2 : B ≤ 1073741824) : gapI 0 0 A B x y = 0 ↔ 0 ≤ x ∧ x ≤ A - 1 ∧ 0 ≤ y ∧ y ≤ B - 1 := by
  have hA : cl A = A := cl_in (by omega) a2
  have hB : cl B = B := cl_in (by omega) b2
  have h0 : cl 0 = 0 := cl_in (by omega) (by omega)
  unfold gapI
  rw [hA, hB, h0, decide_eq_true (show (0 : Int) < A by omega), decide_eq_true (show (0 : Int) < B by omega), Bool.and_self, cond_true]
  unfold offI
  have hx := cl_ways x
  have hy := cl_ways y
  omega
/-- the zone of a point; -1: none -/
def zoneI (z : Zf) (x y : Int) : Int := bif decide (0 ≤ x) && decide (x ≤ z.c * z.s - 1) && decide (0 ≤ y) && decide (y ≤ z.r * z.s - 1) then Int.tdiv y z.s * z.c + Int.tdiv x z.s else -1
theorem zone_gap {z : Zf} {x y : Int} (a1 : 1 ≤ z.c * z.s) (a2 : z.c * z.s ≤ 1073741824) (b1 : 1 ≤ z.r * z.s) (b2 : z.r * z.s ≤ 1073741824) : (gapI 0 0 (z.c * z.s) (z.r * z.s) x y == 0) = (decide (0 ≤ x) && decide (x ≤ z.c * z.s - 1) && decide (0 ≤ y) && decide (y ≤ z.r * z.s - 1)) := by
  rw [Bool.eq_iff_iff]
  simp only [beq_iff_eq, Bool.and_eq_true, decide_eq_true_iff]
  rw [gap_zero a1 a2 b1 b2]
  constructor
  · rintro ⟨h1, h2, h3, h4⟩; exact ⟨⟨⟨h1, h2⟩, h3⟩, h4⟩
  · rintro ⟨⟨⟨h1, h2⟩, h3⟩, h4⟩; exact ⟨h1, h2, h3, h4⟩
set_option maxRecDepth 100000 in
set_option maxHeartbeats 1000000 in
theorem mapOf_any (w : World) (g : Nat) (z : Zf) (h : cellsAt w g 0 11 = some (zmC z)) (x y : Int) (h1 : 1 ≤ z.c * z.s) (h2 : z.c * z.s ≤ 1073741824) (h3 : 1 ≤ z.r * z.s) (h4 : z.r * z.s ≤ 1073741824) (s1 : 1 ≤ z.s) (c0 : 0 ≤ z.c) (c1 : z.c ≤ 1073741824) :
    Calls Tryz.prog 31 #[.pointer (some ⟨g, 0, none⟩), .int .i64 x, .int .i64 y] w fun e w' => e = .returned (.int .i64 (zoneI z x y)) ∧ Keeps No w w' := by
  have HC := Lib.hid (fun W => hasR_any W 0 0 (z.c * z.s) (z.r * z.s) x y)
  rw [zone_gap h1 h2 h3 h4] at HC
  unfold zoneI
  have hr : cellsAt w g 7 4 = some (rcC 0 0 (z.c * z.s) (z.r * z.s)) := cellsAt_part h 7 [.int .i64 0, .int .i64 0, .int .i64 (z.c * z.s), .int .i64 (z.r * z.s)] rfl (Nat.zero_lt_succ _)
  have e0 := cellsAt_cell h 0 _ rfl
  have e2 := cellsAt_cell h 2 _ rfl
  simp only [Nat.zero_add] at e0 e2
  obtain ⟨X, hX⟩ : ∃ q, q = z.c * z.s := ⟨_, rfl⟩
  obtain ⟨Y, hY⟩ : ∃ q, q = z.r * z.s := ⟨_, rfl⟩
  obtain ⟨C, hC⟩ : ∃ q, q = z.c := ⟨_, rfl⟩
  obtain ⟨S, hS⟩ : ∃ q, q = z.s := ⟨_, rfl⟩
  rw [← hX] at HC h2 hr ⊢
  rw [← hY] at HC h4 hr ⊢
  rw [← hC] at e0 c0 c1 ⊢
  rw [← hS] at e2 s1 ⊢
  clear h hX hY hC hS h1 h3
  obtain ⟨ok, hok⟩ : ∃ q, q = (decide (0 ≤ x) && decide (x ≤ X - 1) && decide (0 ≤ y) && decide (y ≤ Y - 1)) := ⟨_, rfl⟩
  rw [← hok] at HC ⊢
  have lb : g < w.heap.size := block_lt_of_cell e0
  have mx := mixed
  cases ok
  · clear hok
    go_enter Tryz.func31, Tryz.ntmps31
    go_wp2_with fail
    refine (HC.out _).mono ?_
    rintro e w1 ⟨rfl, hk⟩
    have K1 := Lib.hid hk
    clear hk
    go_wp2
    go_ret
    exact ⟨rfl, K1.out⟩
  · have hk2 := hok.symm
    simp only [Bool.and_eq_true, decide_eq_true_iff] at hk2
    obtain ⟨⟨⟨x0, x1⟩, y0⟩, y1⟩ := hk2
    clear hok
    have q0 : 0 ≤ Int.tdiv y S := Int.tdiv_nonneg y0 (by omega)
    have q1 : Int.tdiv y S ≤ y := Int.tdiv_le_self S y0
    have p0 : 0 ≤ Int.tdiv x S := Int.tdiv_nonneg x0 (by omega)
    have p1 : Int.tdiv x S ≤ x := Int.tdiv_le_self S x0
    obtain ⟨Q, hQ⟩ : ∃ q, Int.tdiv y S = q := ⟨_, rfl⟩
    obtain ⟨P, hP⟩ : ∃ q, Int.tdiv x S = q := ⟨_, rfl⟩
    rw [hQ] at q0 q1 ⊢
    rw [hP] at p0 p1 ⊢
    have m0 : 0 ≤ Q * C := Int.mul_nonneg q0 c0
    have m1 : Q * C ≤ 1073741824 * 1073741824 := Int.mul_le_mul (by omega) c1 c0 (by omega)
    obtain ⟨M, hM⟩ : ∃ q, Q * C = q := ⟨_, rfl⟩
    rw [hM] at m0 m1 ⊢
    have wQ : IntKind.i64.wrap Q = Q := by rw [IntKind.wrap_i64]; omega
    have wP : IntKind.i64.wrap P = P := by rw [IntKind.wrap_i64]; omega
    have wM : IntKind.i64.wrap M = M := by rw [IntKind.wrap_i64]; omega
    have wS : IntKind.i64.wrap (M + P) = M + P := by rw [IntKind.wrap_i64]; omega
    have S0 : ¬ S = 0 := by omega
    have S0b : (S == 0) = false := by rw [beq_eq_false_iff_ne]; omega
    go_enter Tryz.func31, Tryz.ntmps31
    go_wp2_with fail
    refine (HC.out _).mono ?_
    rintro e w1 ⟨rfl, hk⟩
    have K1 := Lib.hid hk
    have lb1 : g < w1.heap.size := by have := hk.size; omega
    have l0 : ∀ n os, (grow (w1.drewN n) os).cell? ⟨g, 0, none⟩ = some (.int .i64 C) := fun n os => cell_grown lb1 (hk.cell e0 (fun h => h)) n os
    have l2 : ∀ n os, (grow (w1.drewN n) os).cell? ⟨g, 2, none⟩ = some (.int .i64 S) := fun n os => cell_grown lb1 (hk.cell e2 (fun h => h)) n os
    clear hk
    go_wp2_with fail
    go_quiet_grown (fail)
    go_wp2
    go_ret
    exact ⟨rfl, K1.out.trans (Grown.keeps ⟨nq, osq, rfl⟩) (fun _ _ h => h)⟩
end Go.Proofs.YtcjeocibnfoenaaGreat
