/-
  Texts in one: TjA, TjB, TjC, TjD, TjE, TjF. No conditions of their own.
-/
import Derived.Test.YtpbpgjfdledgoaaGreatDoorZa09
import Derived.Test.YtpbpgjfdledgoaaGreatDoorZa10

/-
  systems.Move. No conditions of their own.
-/
namespace Go.Proofs.YtpbpgjfdledgoaaGreatDoor
open Go.RowKit Go.Joins Go.Deep Go.Sort

/-- a step of the speed -/
def stI (v x d : Int) : Int := cl (cl x + max (-v) (min v d))
def velX (v : Int) (b : Bd) : Bd := ⟨b.s, b.i, b.g, b.m, stI v b.x b.vx, b.y, b.vx, b.vy, b.hp, b.pw, b.lf⟩
def velY (v : Int) (b : Bd) : Bd := ⟨b.s, b.i, b.g, b.m, b.x, stI v b.y b.vy, b.vx, b.vy, b.hp, b.pw, b.lf⟩
def velB (v : Int) (b : Bd) : Bd := bif hasB b.m 2 then velY v (velX v b) else b
def inX (X : Int) (b : Bd) : Bd := ⟨b.s, b.i, b.g, b.m, max 0 (min b.x (X - 1)), b.y, b.vx, b.vy, b.hp, b.pw, b.lf⟩
def inY (Y : Int) (b : Bd) : Bd := ⟨b.s, b.i, b.g, b.m, b.x, max 0 (min b.y (Y - 1)), b.vx, b.vy, b.hp, b.pw, b.lf⟩
def moveB (z : Zf) (b : Bd) : Bd := inY (z.r * z.s) (inX (z.c * z.s) (velB z.v b))
/-- a world's form that may be -/
structure Zf.ok (z : Zf) : Prop where
  c1 : 1 ≤ z.c
  c2 : z.c ≤ 4
  r1 : 1 ≤ z.r
  r2 : z.r ≤ 4
  s1 : 256 ≤ z.s
  s2 : z.s ≤ 1048576
  u1 : 0 ≤ z.u
  u2 : z.u ≤ z.s
  v1 : 0 ≤ z.v
  v2 : z.v ≤ z.s
theorem Zf.ok.cs {z : Zf} (h : z.ok) : 1 ≤ z.c * z.s ∧ z.c * z.s ≤ 4194304 := by
  have c1 := h.c1
  have c2 := h.c2
  have s1 := h.s1
  have s2 := h.s2
  have hc : z.c = 1 ∨ z.c = 2 ∨ z.c = 3 ∨ z.c = 4 := by omega
  rcases hc with hc | hc | hc | hc <;> rw [hc] <;> omega
theorem Zf.ok.rs {z : Zf} (h : z.ok) : 1 ≤ z.r * z.s ∧ z.r * z.s ≤ 4194304 := by
  have c1 := h.r1
  have c2 := h.r2
  have s1 := h.s1
  have s2 := h.s2
  have hc : z.r = 1 ∨ z.r = 2 ∨ z.r = 3 ∨ z.r = 4 := by omega
  rcases hc with hc | hc | hc | hc <;> rw [hc] <;> omega
theorem cl_speed {v d : Int} (h1 : 0 ≤ v) (h2 : v ≤ 1048576) : cl (max (-v) (min v d)) = max (-v) (min v d) := cl_in (by omega) (by omega)

end Go.Proofs.YtpbpgjfdledgoaaGreatDoor

/-
  The document's near, In, Move. No conditions of their own.
-/
namespace Go.Proofs.YtpbpgjfdledgoaaGreatDoor
open Go.RowKit Go.Joins Go.Deep Go.Sort

abbrev zfC (z : Zf) : List Value := [.int .i64 z.c, .int .i64 z.r, .int .i64 z.s, .int .i64 z.u, .int .i64 z.v, .int .i64 z.i, .int .i64 z.q]
abbrev zfV (z : Zf) : Value := .agg #[.int .i64 z.c, .int .i64 z.r, .int .i64 z.s, .int .i64 z.u, .int .i64 z.v, .int .i64 z.i, .int .i64 z.q]
theorem rclamp_g (w : World) (n : Int) : Calls Tryz.prog 306 #[.int .i64 n] w fun e w' => e = .returned (.int .i64 (cl n)) ∧ Grown w w' :=
  (rclamp_any w n).mono fun _ _ h => ⟨h.1, h.2 ▸ Grown.same w⟩

end Go.Proofs.YtpbpgjfdledgoaaGreatDoor

/-
  The document's Has, Zone, Of. No conditions of their own.
-/
namespace Go.Proofs.YtpbpgjfdledgoaaGreatDoor
open Go.RowKit Go.Joins Go.Deep Go.Sort

def hasQ (a b c d x y : Int) : Bool := decide (a ≤ cl x) && (decide (cl x < c) && (decide (b ≤ cl y) && decide (cl y < d)))
set_option maxRecDepth 100000 in
set_option maxHeartbeats 2000000 in
theorem rhas_any (w : World) (a b c d x y : Int) (ha : cl a = a) (hb : cl b = b) (hc : cl c = c) (hd : cl d = d) :
    Calls Tryz.prog 279 #[rcV a b c d, .int .i64 x, .int .i64 y] w fun e w' => e = .returned (.bool (hasQ a b c d x y)) ∧ Grown w w' := by
  have CX := Lib.hid (fun W => rclamp_any W x)
  have CY := Lib.hid (fun W => rclamp_any W y)
  have CA := Lib.hid (fun W => rclamp_any W a)
  have CB := Lib.hid (fun W => rclamp_any W b)
  have CC := Lib.hid (fun W => rclamp_any W c)
  have CD := Lib.hid (fun W => rclamp_any W d)
  rw [ha] at CA
  rw [hb] at CB
  rw [hc] at CC
  rw [hd] at CD
  unfold hasQ
  obtain ⟨X, hX⟩ : ∃ q, q = cl x := ⟨_, rfl⟩
  obtain ⟨Y, hY⟩ : ∃ q, q = cl y := ⟨_, rfl⟩
  rw [← hX] at CX ⊢
  rw [← hY] at CY ⊢
  clear ha hb hc hd hX hY
  have G : Hid (Grown w (w.alloc (.cells #[.int .i64 a, .int .i64 b, .int .i64 c, .int .i64 d] 226))) := Lib.hid ((Grown.same w).alloc _)
  by_cases h1 : a ≤ X
  · rw [decide_eq_true h1, Bool.true_and]
    by_cases h2 : X < c
    · rw [decide_eq_true h2, Bool.true_and]
      by_cases h3 : b ≤ Y
      · rw [decide_eq_true h3, Bool.true_and]
        by_cases h4 : Y < d
        · rw [decide_eq_true h4]
          go_enter Tryz.func279, Tryz.ntmps279
          go_wp2_with (first
            | (go_at_call 306; have hc := CX.out; with_reducible refine (hc _).mono ?_; rintro e w1 ⟨rfl, hw⟩; clear hc; have hw := hw.symm; subst hw)
            | (go_at_call 306; have hc := CY.out; with_reducible refine (hc _).mono ?_; rintro e w1 ⟨rfl, hw⟩; clear hc; have hw := hw.symm; subst hw)
            | (go_at_call 306; have hc := CA.out; with_reducible refine (hc _).mono ?_; rintro e w1 ⟨rfl, hw⟩; clear hc; have hw := hw.symm; subst hw)
            | (go_at_call 306; have hc := CB.out; with_reducible refine (hc _).mono ?_; rintro e w1 ⟨rfl, hw⟩; clear hc; have hw := hw.symm; subst hw)
            | (go_at_call 306; have hc := CC.out; with_reducible refine (hc _).mono ?_; rintro e w1 ⟨rfl, hw⟩; clear hc; have hw := hw.symm; subst hw)
            | (go_at_call 306; have hc := CD.out; with_reducible refine (hc _).mono ?_; rintro e w1 ⟨rfl, hw⟩; clear hc; have hw := hw.symm; subst hw))
          go_ret
          exact ⟨by first | (simp; done) | (simp; omega), G.out⟩
        · rw [decide_eq_false h4]
          go_enter Tryz.func279, Tryz.ntmps279
          go_wp2_with (first
            | (go_at_call 306; have hc := CX.out; with_reducible refine (hc _).mono ?_; rintro e w1 ⟨rfl, hw⟩; clear hc; have hw := hw.symm; subst hw)
            | (go_at_call 306; have hc := CY.out; with_reducible refine (hc _).mono ?_; rintro e w1 ⟨rfl, hw⟩; clear hc; have hw := hw.symm; subst hw)
            | (go_at_call 306; have hc := CA.out; with_reducible refine (hc _).mono ?_; rintro e w1 ⟨rfl, hw⟩; clear hc; have hw := hw.symm; subst hw)
            | (go_at_call 306; have hc := CB.out; with_reducible refine (hc _).mono ?_; rintro e w1 ⟨rfl, hw⟩; clear hc; have hw := hw.symm; subst hw)
            | (go_at_call 306; have hc := CC.out; with_reducible refine (hc _).mono ?_; rintro e w1 ⟨rfl, hw⟩; clear hc; have hw := hw.symm; subst hw)
            | (go_at_call 306; have hc := CD.out; with_reducible refine (hc _).mono ?_; rintro e w1 ⟨rfl, hw⟩; clear hc; have hw := hw.symm; subst hw))
          go_ret
          exact ⟨by first | (simp; done) | (simp; omega), G.out⟩
      · rw [decide_eq_false h3, Bool.false_and]
        go_enter Tryz.func279, Tryz.ntmps279
        go_wp2_with (first
          | (go_at_call 306; have hc := CX.out; with_reducible refine (hc _).mono ?_; rintro e w1 ⟨rfl, hw⟩; clear hc; have hw := hw.symm; subst hw)
          | (go_at_call 306; have hc := CY.out; with_reducible refine (hc _).mono ?_; rintro e w1 ⟨rfl, hw⟩; clear hc; have hw := hw.symm; subst hw)
          | (go_at_call 306; have hc := CA.out; with_reducible refine (hc _).mono ?_; rintro e w1 ⟨rfl, hw⟩; clear hc; have hw := hw.symm; subst hw)
          | (go_at_call 306; have hc := CB.out; with_reducible refine (hc _).mono ?_; rintro e w1 ⟨rfl, hw⟩; clear hc; have hw := hw.symm; subst hw)
          | (go_at_call 306; have hc := CC.out; with_reducible refine (hc _).mono ?_; rintro e w1 ⟨rfl, hw⟩; clear hc; have hw := hw.symm; subst hw)
          | (go_at_call 306; have hc := CD.out; with_reducible refine (hc _).mono ?_; rintro e w1 ⟨rfl, hw⟩; clear hc; have hw := hw.symm; subst hw))
        go_ret
        exact ⟨by first | (simp; done) | (simp; omega), G.out⟩
    · rw [decide_eq_false h2, Bool.false_and]
      go_enter Tryz.func279, Tryz.ntmps279
      go_wp2_with (first
        | (go_at_call 306; have hc := CX.out; with_reducible refine (hc _).mono ?_; rintro e w1 ⟨rfl, hw⟩; clear hc; have hw := hw.symm; subst hw)
        | (go_at_call 306; have hc := CY.out; with_reducible refine (hc _).mono ?_; rintro e w1 ⟨rfl, hw⟩; clear hc; have hw := hw.symm; subst hw)
        | (go_at_call 306; have hc := CA.out; with_reducible refine (hc _).mono ?_; rintro e w1 ⟨rfl, hw⟩; clear hc; have hw := hw.symm; subst hw)
        | (go_at_call 306; have hc := CB.out; with_reducible refine (hc _).mono ?_; rintro e w1 ⟨rfl, hw⟩; clear hc; have hw := hw.symm; subst hw)
        | (go_at_call 306; have hc := CC.out; with_reducible refine (hc _).mono ?_; rintro e w1 ⟨rfl, hw⟩; clear hc; have hw := hw.symm; subst hw)
        | (go_at_call 306; have hc := CD.out; with_reducible refine (hc _).mono ?_; rintro e w1 ⟨rfl, hw⟩; clear hc; have hw := hw.symm; subst hw))
      go_ret
      exact ⟨by first | (simp; done) | (simp; omega), G.out⟩
  · rw [decide_eq_false h1, Bool.false_and]
    go_enter Tryz.func279, Tryz.ntmps279
    go_wp2_with (first
      | (go_at_call 306; have hc := CX.out; with_reducible refine (hc _).mono ?_; rintro e w1 ⟨rfl, hw⟩; clear hc; have hw := hw.symm; subst hw)
      | (go_at_call 306; have hc := CY.out; with_reducible refine (hc _).mono ?_; rintro e w1 ⟨rfl, hw⟩; clear hc; have hw := hw.symm; subst hw)
      | (go_at_call 306; have hc := CA.out; with_reducible refine (hc _).mono ?_; rintro e w1 ⟨rfl, hw⟩; clear hc; have hw := hw.symm; subst hw)
      | (go_at_call 306; have hc := CB.out; with_reducible refine (hc _).mono ?_; rintro e w1 ⟨rfl, hw⟩; clear hc; have hw := hw.symm; subst hw)
      | (go_at_call 306; have hc := CC.out; with_reducible refine (hc _).mono ?_; rintro e w1 ⟨rfl, hw⟩; clear hc; have hw := hw.symm; subst hw)
      | (go_at_call 306; have hc := CD.out; with_reducible refine (hc _).mono ?_; rintro e w1 ⟨rfl, hw⟩; clear hc; have hw := hw.symm; subst hw))
    go_ret
    exact ⟨by first | (simp; done) | (simp; omega), G.out⟩

theorem div_is {s x i : Int} (hs : 0 < s) : x / s = i ↔ i * s ≤ x ∧ x < (i + 1) * s := by
  constructor
  · rintro rfl
    exact ⟨Int.ediv_mul_le _ (by omega), Int.lt_ediv_add_one_mul_self _ hs⟩
  · rintro ⟨h1, h2⟩
    have h3 := (Int.le_ediv_iff_mul_le hs).2 h1
    have h4 := (Int.ediv_lt_iff_lt_mul hs).2 h2
    omega
theorem nat4 {n : Int} {i : Nat} (h : (i : Int) < n) (hn : n ≤ 4) : i = 0 ∨ i = 1 ∨ i = 2 ∨ i = 3 := by omega
/-- a zone has the points of it -/
theorem has_zone {z : Zf} (hz : z.ok) {i j : Nat} (hi : (i : Int) < z.c) (hj : (j : Int) < z.r) (x y : Int) :
    hasQ (i * z.s) (j * z.s) ((i + 1) * z.s) ((j + 1) * z.s) x y = decide (zoneI z x y = j * z.c + i) := by
  obtain ⟨cs1, cs2⟩ := hz.cs
  obtain ⟨rs1, rs2⟩ := hz.rs
  have s0 : 0 < z.s := by have := hz.s1; omega
  have s2 := hz.s2
  have i1 : ((i : Int) + 1) * z.s ≤ z.c * z.s := Int.mul_le_mul_of_nonneg_right (by omega) (by omega)
  have j1 : ((j : Int) + 1) * z.s ≤ z.r * z.s := Int.mul_le_mul_of_nonneg_right (by omega) (by omega)
  have i0 : 0 ≤ (i : Int) * z.s := Int.mul_nonneg (by omega) (by omega)
  have j0 : 0 ≤ (j : Int) * z.s := Int.mul_nonneg (by omega) (by omega)
  have n0 : 0 ≤ (j : Int) * z.c := Int.mul_nonneg (by omega) (by have := hz.c1; omega)
  have cx := cl_ways x
  have cy := cl_ways y
  rw [Bool.eq_iff_iff]
  unfold hasQ zoneI
  simp only [Bool.and_eq_true, decide_eq_true_iff]
  obtain ⟨IS, hIS⟩ : ∃ q, (i : Int) * z.s = q := ⟨_, rfl⟩
  obtain ⟨JS, hJS⟩ : ∃ q, (j : Int) * z.s = q := ⟨_, rfl⟩
  obtain ⟨IT, hIT⟩ : ∃ q, ((i : Int) + 1) * z.s = q := ⟨_, rfl⟩
  obtain ⟨JT, hJT⟩ : ∃ q, ((j : Int) + 1) * z.s = q := ⟨_, rfl⟩
  obtain ⟨CS, hCS⟩ : ∃ q, z.c * z.s = q := ⟨_, rfl⟩
  obtain ⟨RS, hRS⟩ : ∃ q, z.r * z.s = q := ⟨_, rfl⟩
  rw [hIS] at i0 ⊢
  rw [hJS] at j0 ⊢
  rw [hIT] at i1 ⊢
  rw [hJT] at j1 ⊢
  rw [hCS] at i1 cs1 cs2 ⊢
  rw [hRS] at j1 rs1 rs2 ⊢
  by_cases hin : 0 ≤ x ∧ x ≤ CS - 1 ∧ 0 ≤ y ∧ y ≤ RS - 1
  · obtain ⟨x0, x1, y0, y1⟩ := hin
    rw [decide_eq_true x0, decide_eq_true x1, decide_eq_true y0, decide_eq_true y1]
    simp only [Bool.and_self, cond_true]
    rw [cl_in (n := x) (by omega) (by omega), cl_in (n := y) (by omega) (by omega), Int.tdiv_eq_ediv_of_nonneg x0, Int.tdiv_eq_ediv_of_nonneg y0]
    have q1 : x / z.s = i ↔ IS ≤ x ∧ x < IT := by rw [← hIS, ← hIT]; exact div_is s0
    have q2 : y / z.s = j ↔ JS ≤ y ∧ y < JT := by rw [← hJS, ← hJT]; exact div_is s0
    have xa : 0 ≤ x / z.s := Int.ediv_nonneg x0 (by omega)
    have xb : x / z.s < z.c := (Int.ediv_lt_iff_lt_mul s0).2 (by omega)
    have ya : 0 ≤ y / z.s := Int.ediv_nonneg y0 (by omega)
    have yb : y / z.s < z.r := (Int.ediv_lt_iff_lt_mul s0).2 (by omega)
    obtain ⟨X, hX⟩ : ∃ q, x / z.s = q := ⟨_, rfl⟩
    obtain ⟨Y, hY⟩ : ∃ q, y / z.s = q := ⟨_, rfl⟩
    rw [hX] at q1 xa xb ⊢
    rw [hY] at q2 ya yb ⊢
    have key : (Y * z.c + X = (j : Int) * z.c + i) ↔ (X = i ∧ Y = j) := by
      constructor
      · intro h
        have hc : z.c = 1 ∨ z.c = 2 ∨ z.c = 3 ∨ z.c = 4 := by have := hz.c1; have := hz.c2; omega
        rcases hc with hc | hc | hc | hc <;> rw [hc] at h xb hi <;> omega
      · rintro ⟨h1, h2⟩
        rw [h1, h2]
    rw [key, q1, q2]
    constructor
    · rintro ⟨h1, h2, h3, h4⟩; exact ⟨⟨h1, h2⟩, h3, h4⟩
    · rintro ⟨⟨h1, h2⟩, h3, h4⟩; exact ⟨h1, h2, h3, h4⟩
  · have hb : (decide (0 ≤ x) && decide (x ≤ CS - 1) && decide (0 ≤ y) && decide (y ≤ RS - 1)) = false := by
      rw [Bool.eq_false_iff]
      intro h
      simp only [Bool.and_eq_true, decide_eq_true_iff] at h
      exact hin ⟨h.1.1.1, h.1.1.2, h.1.2, h.2⟩
    rw [hb, cond_false]
    constructor
    · rintro ⟨h1, h2, h3, h4⟩
      exfalso
      omega
    · intro h
      exfalso
      omega
theorem zone_range {z : Zf} (hz : z.ok) (x y : Int) : zoneI z x y = -1 ∨ (0 ≤ zoneI z x y ∧ zoneI z x y < z.c * z.r) := by
  unfold zoneI
  cases hb : (decide (0 ≤ x) && decide (x ≤ z.c * z.s - 1) && decide (0 ≤ y) && decide (y ≤ z.r * z.s - 1)) with
  | false => exact .inl rfl
  | true =>
    right
    simp only [Bool.and_eq_true, decide_eq_true_iff] at hb
    obtain ⟨⟨⟨x0, x1⟩, y0⟩, y1⟩ := hb
    rw [cond_true, Int.tdiv_eq_ediv_of_nonneg x0, Int.tdiv_eq_ediv_of_nonneg y0]
    have s0 : 0 < z.s := by have := hz.s1; omega
    have xa : 0 ≤ x / z.s := Int.ediv_nonneg x0 (by omega)
    have xb : x / z.s < z.c := (Int.ediv_lt_iff_lt_mul s0).2 (by omega)
    have ya : 0 ≤ y / z.s := Int.ediv_nonneg y0 (by omega)
    have yb : y / z.s < z.r := (Int.ediv_lt_iff_lt_mul s0).2 (by omega)
    obtain ⟨X, hX⟩ : ∃ q, x / z.s = q := ⟨_, rfl⟩
    obtain ⟨Y, hY⟩ : ∃ q, y / z.s = q := ⟨_, rfl⟩
    rw [hX] at xa xb ⊢
    rw [hY] at ya yb ⊢
    have hc : z.c = 1 ∨ z.c = 2 ∨ z.c = 3 ∨ z.c = 4 := by have := hz.c1; have := hz.c2; omega
    rcases hc with hc | hc | hc | hc <;> rw [hc] at xb ⊢ <;> omega

set_option maxRecDepth 100000 in
set_option maxHeartbeats 2000000 in
theorem rzone_any (w : World) (z : Zf) (hz : z.ok) (i j : Nat) (hi : (i : Int) < z.c) (hj : (j : Int) < z.r) (k : Int) (hk : k = (j : Int) * z.c + i) :
    Calls Tryz.prog 280 #[zfV z, .int .i64 k] w fun e w' => e = .returned (rcV (i * z.s) (j * z.s) ((i + 1) * z.s) ((j + 1) * z.s)) ∧ Keeps No w w' := by
  obtain ⟨cs1, cs2⟩ := hz.cs
  obtain ⟨rs1, rs2⟩ := hz.rs
  have c1 := hz.c1
  have c2 := hz.c2
  have r2 := hz.r2
  have s0 : 0 < z.s := by have := hz.s1; omega
  have i1 : ((i : Int) + 1) * z.s ≤ z.c * z.s := Int.mul_le_mul_of_nonneg_right (by omega) (by omega)
  have j1 : ((j : Int) + 1) * z.s ≤ z.r * z.s := Int.mul_le_mul_of_nonneg_right (by omega) (by omega)
  have i0 : 0 ≤ (i : Int) * z.s := Int.mul_nonneg (by omega) (by omega)
  have j0 : 0 ≤ (j : Int) * z.s := Int.mul_nonneg (by omega) (by omega)
  have i2 : ((i : Int) + 1) * z.s = (i : Int) * z.s + z.s := by rw [Int.add_mul, Int.one_mul]
  have j2 : ((j : Int) + 1) * z.s = (j : Int) * z.s + z.s := by rw [Int.add_mul, Int.one_mul]
  obtain ⟨IS, hIS⟩ : ∃ q, (i : Int) * z.s = q := ⟨_, rfl⟩
  obtain ⟨JS, hJS⟩ : ∃ q, (j : Int) * z.s = q := ⟨_, rfl⟩
  obtain ⟨IT, hIT⟩ : ∃ q, ((i : Int) + 1) * z.s = q := ⟨_, rfl⟩
  obtain ⟨JT, hJT⟩ : ∃ q, ((j : Int) + 1) * z.s = q := ⟨_, rfl⟩
  rw [hIS] at i0 i2 ⊢
  rw [hJS] at j0 j2 ⊢
  rw [hIT] at i1 i2 ⊢
  rw [hJT] at j1 j2 ⊢
  have wIS : IntKind.i64.wrap ((i : Int) * z.s) = IS := by rw [hIS, IntKind.wrap_i64]; omega
  have wJS : IntKind.i64.wrap ((j : Int) * z.s) = JS := by rw [hJS, IntKind.wrap_i64]; omega
  have wIT : IntKind.i64.wrap (((i : Int) + 1) * z.s) = IT := by rw [hIT, IntKind.wrap_i64]; omega
  have wJT : IntKind.i64.wrap (((j : Int) + 1) * z.s) = JT := by rw [hJT, IntKind.wrap_i64]; omega
  have HK : Hid (∀ (a b : Nat), (a : Int) < z.c → b ≤ j → ((b : Int) * z.c + a = k ↔ (a = i ∧ b = j)) ∧ IntKind.i64.wrap ((b : Int) * z.c) = (b : Int) * z.c ∧ IntKind.i64.wrap ((b : Int) * z.c + a) = (b : Int) * z.c + a) := Lib.hid (fun a b ha hb => by
    have hc : z.c = 1 ∨ z.c = 2 ∨ z.c = 3 ∨ z.c = 4 := by omega
    have hb4 : (b : Int) < 4 := by omega
    rcases hc with hc | hc | hc | hc <;> rw [hc] at hk ha hi ⊢ <;> rw [IntKind.wrap_i64, IntKind.wrap_i64] <;> omega)
  clear hIS hJS hIT hJT cs1 cs2 rs1 rs2 i1 j1 i0 j0 i2 j2 s0 hk
  go_enter Tryz.func280, Tryz.ntmps280
  go_upto_region 1 with fail
  refine wp_world ?_
  intro W hW
  have KW : Hid (Keeps No w W) := Lib.hid (by rw [hW]; exact ((Keeps.refl w).alloc _).alloc _)
  have cb : cellsAt W w.heap.size 0 7 = some (zfC z) := by rw [hW]; simp [go_sem]
  have or : Open W (w.heap.size + 1) := by rw [hW]; simp [go_sem]
  have sr : (rowD W (w.heap.size + 1)).size = 4 := by rw [hW]; simp [go_sem]
  obtain ⟨gb, hgb⟩ : ∃ g, g = w.heap.size := ⟨_, rfl⟩
  obtain ⟨gr, hgr⟩ : ∃ g, g = w.heap.size + 1 := ⟨_, rfl⟩
  have NR : Hid (w.heap.size ≤ gr ∧ gb ≠ gr) := Lib.hid ⟨by omega, by omega⟩
  rw [← hgr]
  rw [← hgb]
  rw [← hgr] at or sr
  rw [← hgb] at cb
  have d0 := cellsAt_cell cb 0 _ rfl
  have d1 := cellsAt_cell cb 1 _ rfl
  have d2 := cellsAt_cell cb 2 _ rfl
  simp only [Nat.zero_add] at d0 d1 d2
  clear hW hgb hgr cb
  go_wp2_with fail
  go_loopw [5] (fun q wr => ∃ b : Nat, b ≤ j ∧ q = .int .i64 b ∧ W = wr) (fun q _ => j + 1 - (intOf q).toNat)
  case atStart => exact ⟨0, Nat.zero_le _, rfl, rfl⟩
  case round =>
    obtain ⟨b, hbj, rfl, rfl⟩ := hrel
    have hb4 : (b : Int) < z.r := by omega
    go_wp2_with fail
    go_loopw [6] (fun q wi => ∃ a : Nat, (a : Int) ≤ z.c ∧ (b = j → a ≤ i) ∧ q = .int .i64 a ∧ W = wi) (fun q _ => (z.c + 1 - intOf q).toNat)
    case atStart => exact ⟨0, by omega, fun _ => Nat.zero_le _, rfl, rfl⟩
    case round =>
      obtain ⟨a, hac, hai, rfl, rfl⟩ := hrel
      by_cases hlt : (a : Int) < z.c
      · obtain ⟨h1, h2, h3⟩ := HK.out a b hlt hbj
        by_cases he : a = i ∧ b = j
        · obtain ⟨rfl, rfl⟩ := he
          have h4 := h1.2 ⟨rfl, rfl⟩
          have h5 : ((b : Int) * z.c + (a : Int) == k) = true := by rw [beq_iff_eq]; exact h4
          have lr : gr < W.heap.size := by obtain ⟨C, t, ho⟩ := or; exact (Array.getElem?_eq_some_iff.1 ho).1
          clear h1 hac hai hbj h4
          go_wp2
          exact bodyPost_ret (v := rcV IS JS IT JT) (by simp [results, Tryz.results280, go_sem, *]) rfl ⟨rfl, KW.out.row NR.out.1 _⟩
        · have h4 : ¬ ((b : Int) * z.c + a = k) := fun e => he (h1.1 e)
          have h5 : ((b : Int) * z.c + (a : Int) == k) = false := by rw [beq_eq_false_iff_ne]; exact h4
          have HE := Lib.hid he
          have HA := Lib.hid hai
          clear h1 he hai
          go_wp2
          go_roundw
          case rel => exact ⟨a + 1, by omega, fun e => by have h1 := HA.out e; have h2 := HE.out; omega, by go_num, by trivial⟩
          case measure => simp [intOf]; omega
      · have HA := Lib.hid hai
        clear hai
        go_wp2
        go_roundw
        case rel => exact ⟨b + 1, by have h1 := HA.out; omega, by go_num, by trivial⟩
        case measure => simp [intOf]; omega
end Go.Proofs.YtpbpgjfdledgoaaGreatDoor

/-
  The document's Of, Check; zones.Check, New. No conditions of their own.
-/
namespace Go.Proofs.YtpbpgjfdledgoaaGreatDoor
open Go.RowKit Go.Joins Go.Deep Go.Sort

theorem cl_small {n : Int} (h0 : 0 ≤ n) (h1 : n ≤ 4194304) : cl n = n := cl_in (by omega) (by omega)
set_option maxRecDepth 100000 in
set_option maxHeartbeats 2000000 in
theorem rof_any (w : World) (z : Zf) (hz : z.ok) (x y : Int) :
    Calls Tryz.prog 233 #[zfV z, .int .i64 x, .int .i64 y] w fun e w' => e = .returned (.int .i64 (zoneI z x y)) ∧ Keeps No w w' := by
  have ZR := zone_range hz x y
  have HS := Lib.hid (fun (k : Nat) (hk : (k : Int) < z.c * z.r) (W : World) => show ∃ a b c d, (Calls Tryz.prog 280 #[zfV z, .int .i64 k] W fun e w' => e = .returned (rcV a b c d) ∧ Keeps No W w') ∧
      (∀ W, Calls Tryz.prog 279 #[rcV a b c d, .int .i64 x, .int .i64 y] W fun e w' => e = .returned (.bool (decide (zoneI z x y = k))) ∧ Grown W w') by
    have c1 := hz.c1
    have c2 := hz.c2
    have r1 := hz.r1
    have r2 := hz.r2
    obtain ⟨i, j, hi, hj, hk⟩ : ∃ i j : Nat, (i : Int) < z.c ∧ (j : Int) < z.r ∧ (k : Int) = (j : Int) * z.c + i := by
      have hc : z.c = 1 ∨ z.c = 2 ∨ z.c = 3 ∨ z.c = 4 := by omega
      rcases hc with hc | hc | hc | hc <;> rw [hc] at hk ⊢
      · exact ⟨0, k, by omega, by omega, by omega⟩
      · exact ⟨k % 2, k / 2, by omega, by omega, by omega⟩
      · exact ⟨k % 3, k / 3, by omega, by omega, by omega⟩
      · exact ⟨k % 4, k / 4, by omega, by omega, by omega⟩
    obtain ⟨cs1, cs2⟩ := hz.cs
    obtain ⟨rs1, rs2⟩ := hz.rs
    have s0 : 0 < z.s := by have := hz.s1; omega
    have i1 : ((i : Int) + 1) * z.s ≤ z.c * z.s := Int.mul_le_mul_of_nonneg_right (by omega) (by omega)
    have j1 : ((j : Int) + 1) * z.s ≤ z.r * z.s := Int.mul_le_mul_of_nonneg_right (by omega) (by omega)
    have i0 : 0 ≤ (i : Int) * z.s := Int.mul_nonneg (by omega) (by omega)
    have j0 : 0 ≤ (j : Int) * z.s := Int.mul_nonneg (by omega) (by omega)
    have i2 : ((i : Int) + 1) * z.s = (i : Int) * z.s + z.s := by rw [Int.add_mul, Int.one_mul]
    have j2 : ((j : Int) + 1) * z.s = (j : Int) * z.s + z.s := by rw [Int.add_mul, Int.one_mul]
    refine ⟨i * z.s, j * z.s, (i + 1) * z.s, (j + 1) * z.s, rzone_any W z hz i j hi hj k hk, fun W => ?_⟩
    have h := rhas_any W (i * z.s) (j * z.s) ((i + 1) * z.s) ((j + 1) * z.s) x y (cl_small i0 (by omega)) (cl_small j0 (by omega)) (cl_small (by omega) (by omega)) (cl_small (by omega) (by omega))
    rw [has_zone hz hi hj, ← hk] at h
    exact h)
  have n0 : 0 ≤ z.c * z.r ∧ z.c * z.r ≤ 16 := by
    have c1 := hz.c1
    have c2 := hz.c2
    have r1 := hz.r1
    have r2 := hz.r2
    have hc : z.c = 1 ∨ z.c = 2 ∨ z.c = 3 ∨ z.c = 4 := by omega
    rcases hc with hc | hc | hc | hc <;> rw [hc] <;> omega
  obtain ⟨N, hN⟩ : ∃ N : Nat, z.c * z.r = N := ⟨(z.c * z.r).toNat, by omega⟩
  rw [hN] at ZR n0 HS
  obtain ⟨R, hR⟩ : ∃ R, zoneI z x y = R := ⟨_, rfl⟩
  rw [hR] at ZR HS ⊢
  have ZR := Lib.hid ZR
  have wN : IntKind.i64.wrap (z.c * z.r) = N := by rw [hN, IntKind.wrap_i64]; omega
  have wN2 : wrap64 (z.c * z.r) = N := by rw [hN]; unfold wrap64; omega
  have N16 : (N : Int) ≤ 16 := by omega
  clear hN hR n0 hz
  go_enter Tryz.func233, Tryz.ntmps233
  go_upto_region 1 with fail
  refine wp_world ?_
  intro W hW
  have KW : Hid (Keeps No w W) := Lib.hid (by rw [hW]; exact ((Keeps.refl w).alloc _))
  have cb : cellsAt W w.heap.size 0 7 = some (zfC z) := by rw [hW]; simp [go_sem]
  obtain ⟨gb, hgb⟩ : ∃ g, g = w.heap.size := ⟨_, rfl⟩
  rw [← hgb]
  rw [← hgb] at cb
  clear hW hgb
  have CB := Lib.hid cb
  clear cb
  go_wp2_with fail
  go_loopw [7] (fun q wr => ∃ k : Nat, k ≤ N ∧ (0 ≤ R → (k : Int) ≤ R) ∧ q = .int .i64 k ∧ Keeps No W wr) (fun q _ => N + 1 - (intOf q).toNat)
  case atStart => exact ⟨0, Nat.zero_le _, fun h => h, rfl, Keeps.refl _⟩
  case round =>
    obtain ⟨k, hkN, hkR, rfl, hK⟩ := hrel
    obtain ⟨wo, hwo⟩ : ∃ x : World, x = wr := ⟨_, rfl⟩
    subst hwo
    have K := Lib.hid hK
    have cb := hK.cellsAt CB.out
    have d0 := cellsAt_cell cb 0 _ rfl
    have d1 := cellsAt_cell cb 1 _ rfl
    simp only [Nat.zero_add] at d0 d1
    have HKR := Lib.hid hkR
    clear hK hkR
    by_cases hlt : k < N
    · have hlti : (k : Int) < (N : Int) := by omega
      obtain ⟨a, b, c, d, hZ, hH⟩ := HS.out k hlti wo
      have HZ := Lib.hid hZ
      have HH := Lib.hid hH
      clear hZ hH
      go_wp2_with fail
      refine HZ.out.mono ?_
      rintro e w1 ⟨rfl, hk1⟩
      have K1 := Lib.hid (K.out.trans hk1 (fun _ _ h => h))
      clear hk1
      by_cases he : R = (k : Int)
      · subst he
        rw [decide_eq_true rfl] at HH
        go_wp2_with fail
        refine (HH.out w1).mono ?_
        rintro e w2 ⟨rfl, hg⟩
        have K2 := Lib.hid (KW.out.trans (K1.out.trans hg.keeps (fun _ _ h => h)) (fun _ _ h => h))
        clear hg
        go_wp2
        go_ret
        exact ⟨rfl, K2.out⟩
      · rw [decide_eq_false he] at HH
        have HE := Lib.hid he
        clear he
        go_wp2_with fail
        refine (HH.out w1).mono ?_
        rintro e w2 ⟨rfl, hg⟩
        have K2 := Lib.hid (K1.out.trans hg.keeps (fun _ _ h => h))
        clear hg cb d0 d1
        go_wp2
        go_roundw
        case rel => exact ⟨k + 1, by omega, fun h0 => by have h1 := HKR.out h0; have h2 := HE.out; omega, by go_num, K2.out⟩
        case measure => simp [intOf]; omega
    · have hlti : ¬ ((k : Int) < (N : Int)) := by omega
      have hR : R = -1 := by have h1 := ZR.out; have h2 := HKR.out; omega
      subst hR
      go_wp2
      go_ret
      exact ⟨rfl, KW.out.trans K.out (fun _ _ h => h)⟩
end Go.Proofs.YtpbpgjfdledgoaaGreatDoor

/-
  The document's Check; zones.Check, New. No conditions of their own.
-/
namespace Go.Proofs.YtpbpgjfdledgoaaGreatDoor
open Go.RowKit Go.Joins Go.Deep Go.Sort

def okI (n lo hi : Int) : Bool := decide (lo ≤ n) && decide (n ≤ hi)
def zfOk (z : Zf) : Bool := okI z.c 1 4 && (okI z.r 1 4 && (okI z.s 256 1048576 && (okI z.u 0 z.s && (okI z.v 0 z.s && (okI z.i 1 16 && okI z.q 1 64)))))
theorem zfOk_ok {z : Zf} (h : zfOk z = true) : z.ok := by
  unfold zfOk okI at h
  simp only [Bool.and_eq_true, decide_eq_true_iff] at h
  exact ⟨h.1.1, h.1.2, h.2.1.1, h.2.1.2, h.2.2.1.1, h.2.2.1.2, h.2.2.2.1.1, h.2.2.2.1.2, h.2.2.2.2.1.1, h.2.2.2.2.1.2⟩
set_option maxRecDepth 100000 in
theorem rwithin_any (w : World) (n lo hi : Int) : Calls Tryz.prog 110 #[.int .i64 n, .int .i64 lo, .int .i64 hi] w fun e w' => e = .returned (.bool (okI n lo hi)) ∧ w' = w := by
  unfold okI
  by_cases h1 : lo ≤ n
  · rw [decide_eq_true h1, Bool.true_and]
    have h1' : n ≥ lo := h1
    go_enter Tryz.func110, Tryz.ntmps110
    go_wp2
    go_ret
    exact ⟨by simp, rfl⟩
  · rw [decide_eq_false h1, Bool.false_and]
    have h1' : ¬ n ≥ lo := h1
    go_enter Tryz.func110, Tryz.ntmps110
    go_wp2
    go_ret
    exact ⟨by simp, rfl⟩
set_option maxRecDepth 100000 in
set_option maxHeartbeats 4000000 in
theorem rcheck_any (w : World) (z : Zf) : Calls Tryz.prog 42 #[zfV z] w fun e w' => e = .returned (.int .i64 (bif zfOk z then 0 else 1)) ∧ Grown w w' := by
  have C1 := Lib.hid (fun W => rwithin_any W z.c 1 4)
  have C2 := Lib.hid (fun W => rwithin_any W z.r 1 4)
  have C3 := Lib.hid (fun W => rwithin_any W z.s 256 1048576)
  have C4 := Lib.hid (fun W => rwithin_any W z.u 0 z.s)
  have C5 := Lib.hid (fun W => rwithin_any W z.v 0 z.s)
  have C6 := Lib.hid (fun W => rwithin_any W z.i 1 16)
  have C7 := Lib.hid (fun W => rwithin_any W z.q 1 64)
  unfold zfOk
  obtain ⟨t1, h1⟩ : ∃ t, t = okI z.c 1 4 := ⟨_, rfl⟩
  obtain ⟨t2, h2⟩ : ∃ t, t = okI z.r 1 4 := ⟨_, rfl⟩
  obtain ⟨t3, h3⟩ : ∃ t, t = okI z.s 256 1048576 := ⟨_, rfl⟩
  obtain ⟨t4, h4⟩ : ∃ t, t = okI z.u 0 z.s := ⟨_, rfl⟩
  obtain ⟨t5, h5⟩ : ∃ t, t = okI z.v 0 z.s := ⟨_, rfl⟩
  obtain ⟨t6, h6⟩ : ∃ t, t = okI z.i 1 16 := ⟨_, rfl⟩
  obtain ⟨t7, h7⟩ : ∃ t, t = okI z.q 1 64 := ⟨_, rfl⟩
  rw [← h1] at C1 ⊢
  rw [← h2] at C2 ⊢
  rw [← h3] at C3 ⊢
  rw [← h4] at C4 ⊢
  rw [← h5] at C5 ⊢
  rw [← h6] at C6 ⊢
  rw [← h7] at C7 ⊢
  clear h1 h2 h3 h4 h5 h6 h7
  have G : Hid (Grown w (w.alloc (.cells (zfC z).toArray 45))) := Lib.hid ((Grown.same w).alloc _)
  go_enter Tryz.func42, Tryz.ntmps42
  cases t1
  rotate_left
  cases t2
  rotate_left
  cases t3
  rotate_left
  cases t4
  rotate_left
  cases t5
  rotate_left
  cases t6
  rotate_left
  cases t7
  all_goals go_wp2_with (first
    | (go_at_call 110; have hc := C1.out; with_reducible refine (hc _).mono ?_; rintro e w1 ⟨rfl, hw⟩; clear hc; have hw := hw.symm; subst hw)
    | (go_at_call 110; have hc := C2.out; with_reducible refine (hc _).mono ?_; rintro e w1 ⟨rfl, hw⟩; clear hc; have hw := hw.symm; subst hw)
    | (go_at_call 110; have hc := C3.out; with_reducible refine (hc _).mono ?_; rintro e w1 ⟨rfl, hw⟩; clear hc; have hw := hw.symm; subst hw)
    | (go_at_call 110; have hc := C4.out; with_reducible refine (hc _).mono ?_; rintro e w1 ⟨rfl, hw⟩; clear hc; have hw := hw.symm; subst hw)
    | (go_at_call 110; have hc := C5.out; with_reducible refine (hc _).mono ?_; rintro e w1 ⟨rfl, hw⟩; clear hc; have hw := hw.symm; subst hw)
    | (go_at_call 110; have hc := C6.out; with_reducible refine (hc _).mono ?_; rintro e w1 ⟨rfl, hw⟩; clear hc; have hw := hw.symm; subst hw)
    | (go_at_call 110; have hc := C7.out; with_reducible refine (hc _).mono ?_; rintro e w1 ⟨rfl, hw⟩; clear hc; have hw := hw.symm; subst hw))
  all_goals go_ret
  all_goals exact ⟨by rfl, G.out⟩
/-- a number and its bounds -/
structure Tr where
  n : Int
  lo : Int
  hi : Int
def cTr : Codec Tr := ⟨fun t => [.int .i64 t.n, .int .i64 t.lo, .int .i64 t.hi], 3, fun _ => rfl, fun a u h => by simp at h; rcases h with rfl | rfl | rfl <;> rfl, by decide⟩
def trs (z : Zf) : List Tr := [⟨z.c, 1, 4⟩, ⟨z.r, 1, 4⟩, ⟨z.s, 256, 1048576⟩, ⟨z.u, 0, z.s⟩, ⟨z.v, 0, z.s⟩, ⟨z.i, 1, 16⟩, ⟨z.q, 1, 64⟩]
theorem trs_ok (z : Zf) : zfOk z = (trs z).all (fun t => okI t.n t.lo t.hi) := by
  simp only [zfOk, trs, List.all_cons, List.all_nil, Bool.and_true]
theorem trs_len (z : Zf) : (trs z).length = 7 := rfl
set_option maxRecDepth 100000 in
set_option maxHeartbeats 4000000 in
theorem check_any (w : World) (z : Zf) : Calls Tryz.prog 200 #[zfV z] w fun e w' => e = .returned (.int .i64 (bif zfOk z then 0 else 1)) ∧ Keeps No w w' := by
  have HOK := Lib.hid (trs_ok z)
  obtain ⟨B, hB⟩ : ∃ B, B = zfOk z := ⟨_, rfl⟩
  rw [← hB] at HOK ⊢
  clear hB
  go_enter Tryz.func200, Tryz.ntmps200
  go_wp2_with fail
  refine wp_world ?_
  intro W hW
  have KW : Hid (Keeps No w W) := Lib.hid (by rw [hW]; exact ((Keeps.refl w).alloc _).alloc _)
  have RD : Hid (Reads W cTr.size (.slice (some ⟨w.heap.size + 1, 0, none⟩) 7 7) 7 (rowsOf cTr (trs z))) := Lib.hid (by
    rw [hW]
    have h := World.ownsRow_lit (base := 0) (w.alloc (.cells (zfC z).toArray 45)) (rowsOf cTr (trs z)).toArray 7 (e := 325) (size := 3) (Nat.zero_le _) (by unfold maxLen; omega) rfl
    have h2 := Reads.ofOwn h (rowsOf_ones cTr _)
    have e : (w.alloc (.cells (zfC z).toArray 45)).heap.size = w.heap.size + 1 := by simp
    rw [e] at h2
    exact h2)
  obtain ⟨g, hg⟩ : ∃ g, g = w.heap.size + 1 := ⟨_, rfl⟩
  rw [← hg] at RD ⊢
  clear hW hg
  have HL := Lib.hid (trs_len z)
  obtain ⟨l, hl⟩ : ∃ l, l = trs z := ⟨_, rfl⟩
  rw [← hl] at RD HOK HL
  clear hl
  go_loopw [32] (fun q wr => ∃ k : Nat, k ≤ 7 ∧ q = .int .i64 k ∧ (∀ j, (h : j < k) → (h2 : j < l.length) → okI l[j].n l[j].lo l[j].hi = true) ∧ Keeps No W wr) (fun q _ => 7 - (intOf q).toNat)
  case atStart => exact ⟨0, by omega, rfl, fun j h => by omega, Keeps.refl _⟩
  case round =>
    obtain ⟨k, hk7, rfl, hall, hK⟩ := hrel
    obtain ⟨wo, hwo⟩ : ∃ x : World, x = wr := ⟨_, rfl⟩
    subst hwo
    have K := Lib.hid hK
    have HALL := Lib.hid hall
    clear hall
    by_cases hlt : k < 7
    · have hlti : (k : Int) < 7 := by omega
      have hk0 : (0 : Int) ≤ (k : Int) := by omega
      have hkl : k < l.length := by rw [HL.out]; exact hlt
      have ck : cellsAt wo g (k * 3) 3 = some [.int .i64 l[k].n, .int .i64 l[k].lo, .int .i64 l[k].hi] := by
        have h := hK.cellsAt (RdOf.at cTr (n := 7) RD.out k hkl)
        rw [Nat.zero_add] at h
        exact h
      obtain ⟨x, hx⟩ : ∃ x, x = l[k] := ⟨_, rfl⟩
      rw [← hx] at ck
      have HX := Lib.hid hx
      clear hx hK
      by_cases a1 : x.n < x.lo
      · have hB : B = false := by
          rw [HOK.out, List.all_eq_false]
          refine ⟨l[k], List.getElem_mem hkl, ?_⟩
          rw [← HX.out]
          unfold okI
          rw [decide_eq_false (by omega)]
          simp
        subst hB
        go_wp2
        go_ret
        exact ⟨rfl, KW.out.trans (((K.out.alloc _))) (fun _ _ h => h)⟩
      · by_cases a2 : x.hi < x.n
        · have hB : B = false := by
            rw [HOK.out, List.all_eq_false]
            refine ⟨l[k], List.getElem_mem hkl, ?_⟩
            rw [← HX.out]
            unfold okI
            rw [decide_eq_false (show ¬ x.n ≤ x.hi by omega)]
            simp
          subst hB
          go_wp2
          go_ret
          exact ⟨rfl, KW.out.trans (((K.out.alloc _))) (fun _ _ h => h)⟩
        · have hok : Hid (okI l[k].n l[k].lo l[k].hi = true) := Lib.hid (by
            rw [← HX.out]
            unfold okI
            rw [decide_eq_true (show x.lo ≤ x.n by omega), decide_eq_true (show x.n ≤ x.hi by omega)]
            rfl)
          go_wp2
          go_roundw
          case rel =>
            refine ⟨k + 1, by omega, by go_num, fun j h h2 => ?_, K.out.alloc _⟩
            by_cases hjk : j = k
            · subst hjk; exact hok.out
            · exact HALL.out j (by omega) h2
          case measure => simp [intOf]; omega
    · have hk : k = 7 := by omega
      subst hk
      have hB : B = true := by
        rw [HOK.out, List.all_eq_true]
        intro t ht
        obtain ⟨j, hj, rfl⟩ := List.getElem_of_mem ht
        exact HALL.out j (by have := HL.out; omega) hj
      subst hB
      have hlti : ¬ ((7 : Int) < 7) := by omega
      go_wp2
      go_ret
      exact ⟨rfl, KW.out.trans K.out (fun _ _ h => h)⟩
end Go.Proofs.YtpbpgjfdledgoaaGreatDoor

/-
  zones.New; what an entity takes from others (the document's takes). No conditions of their own.
-/
namespace Go.Proofs.YtpbpgjfdledgoaaGreatDoor
open Go.RowKit Go.Joins Go.Deep Go.Sort

/-- does an entity take from another one? -/
def sees (u : Int) (b c : Bd) : Bool := !neq c.id b.id && (hasB c.m 8 && decide (far b.x b.y c.x c.y ≤ u))
def takeS (u : Int) (b : Bd) (s : Int) (c : Bd) : Int := bif sees u b c then cl (s + cl c.pw) else s
def takeI (u : Int) (b : Bd) (l : List Bd) (s : Int) : Int := l.foldl (takeS u b) s
theorem takeI_succ (u : Int) (b : Bd) (l : List Bd) (s : Int) (i : Nat) (h : i < l.length) : takeI u b (l.take (i + 1)) s = takeS u b (takeI u b (l.take i) s) l[i] := by
  unfold takeI
  rw [List.take_succ_eq_append_getElem h, List.foldl_append]
  rfl
theorem takeS_bnd (u : Int) (b c : Bd) (s : Int) (h : -1073741824 ≤ s ∧ s ≤ 1073741824) : -1073741824 ≤ takeS u b s c ∧ takeS u b s c ≤ 1073741824 := by
  unfold takeS
  cases sees u b c
  · exact h
  · exact cl_bnd _
theorem takeI_bnd (u : Int) (b : Bd) (l : List Bd) : ∀ s : Int, (-1073741824 ≤ s ∧ s ≤ 1073741824) → -1073741824 ≤ takeI u b l s ∧ takeI u b l s ≤ 1073741824 := by
  induction l with
  | nil => exact fun s h => h
  | cons c l ih => exact fun s h => ih _ (takeS_bnd u b c s h)

set_option maxRecDepth 100000 in
set_option maxHeartbeats 1000000 in
theorem mapNew_any (w : World) (z : Zf) (hz : zfOk z = true) :
    Calls Tryz.prog 146 #[zfV z] w fun e w' => ∃ g, e = .returned (.tuple #[.pointer (some ⟨g, 0, none⟩), .int .i64 0]) ∧ w.heap.size ≤ g ∧ cellsAt w' g 0 11 = some (zmC z) ∧ Keeps No w w' := by
  have hok := zfOk_ok hz
  obtain ⟨x1, x2⟩ := hok.cs
  obtain ⟨y1, y2⟩ := hok.rs
  have HC := Lib.hid (fun W => check_any W z)
  rw [hz, cond_true] at HC
  have wX : IntKind.i64.wrap (z.c * z.s) = z.c * z.s := by rw [IntKind.wrap_i64]; omega
  have wY : IntKind.i64.wrap (z.r * z.s) = z.r * z.s := by rw [IntKind.wrap_i64]; omega
  have wX2 : wrap64 (z.c * z.s) = z.c * z.s := by unfold wrap64; omega
  have wY2 : wrap64 (z.r * z.s) = z.r * z.s := by unfold wrap64; omega
  clear hz hok x1 x2 y1 y2
  go_enter Tryz.func146, Tryz.ntmps146
  go_wp2_with fail
  refine (HC.out _).mono ?_
  rintro e w1 ⟨rfl, hk⟩
  have K1 : Hid (Keeps No w w1) := Lib.hid (((Keeps.refl w).alloc _).trans hk (fun _ _ h => h))
  have cb : cellsAt w1 w.heap.size 0 7 = some (zfC z) := hk.cellsAt (by simp [go_sem])
  have e0 := cellsAt_cell cb 0 _ rfl
  have e1 := cellsAt_cell cb 1 _ rfl
  have e2 := cellsAt_cell cb 2 _ rfl
  simp only [Nat.zero_add] at e0 e1 e2
  have K2 := K1.out.size
  clear hk
  go_wp2
  exact bodyPost_ret (v := .tuple #[.pointer (some ⟨w1.heap.size, 0, none⟩), .int .i64 0]) (by simp [results, Tryz.results146, go_sem]) rfl ⟨_, rfl, K2, by simp [go_sem], K1.out.alloc _⟩
set_option maxRecDepth 100000 in
theorem mapNew_no (w : World) (z : Zf) (hz : zfOk z = false) :
    Calls Tryz.prog 146 #[zfV z] w fun e w' => e = .returned (.tuple #[.pointer none, .int .i64 1]) ∧ Keeps No w w' := by
  have HC := Lib.hid (fun W => check_any W z)
  rw [hz, cond_false] at HC
  clear hz
  go_enter Tryz.func146, Tryz.ntmps146
  go_wp2_with fail
  refine (HC.out _).mono ?_
  rintro e w1 ⟨rfl, hk⟩
  have K1 : Hid (Keeps No w w1) := Lib.hid (((Keeps.refl w).alloc _).trans hk (fun _ _ h => h))
  clear hk
  go_wp2
  exact bodyPost_ret (v := .tuple #[.pointer none, .int .i64 1]) (by simp [results, Tryz.results146, go_sem]) rfl ⟨rfl, K1.out⟩
end Go.Proofs.YtpbpgjfdledgoaaGreatDoor

