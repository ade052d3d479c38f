/-
  The document's Has, Zone, Of. No conditions of their own.
-/
import Derived.Test.YtcjeocibnfoenaaGreatTjB
namespace Go.Proofs.YtcjeocibnfoenaaGreat
open Go.RowKit Go.Joins Go.Deep Go.Sort

def hasQ (a b c d x y : Int) : Bool := decide (a ≤ cl x) && (decide (cl x < c) && (decide (b ≤ cl y) && decide (cl y < d)))
set_option maxRecDepth 100000 in
set_option maxHeartbeats 2000000 in
theorem rhas_any (w : World) (a b c d x y : Int) (ha : cl a = a) (hb : cl b = b) (hc : cl c = c) (hd : cl d = d) :
    Calls Tryz.prog 70 #[rcV a b c d, .int .i64 x, .int .i64 y] w fun e w' => e = .returned (.bool (hasQ a b c d x y)) ∧ Grown w w' := by
  have CX := Lib.hid (fun W => rclamp_any W x)
  have CY := Lib.hid (fun W => rclamp_any W y)
  have CA := Lib.hid (fun W => rclamp_any W a)
  have CB := Lib.hid (fun W => rclamp_any W b)
  have CC := Lib.hid (fun W => rclamp_any W c)
  have CD := Lib.hid (fun W => rclamp_any W d)
  rw [ha] at CA
  rw [hb] at CB
  rw [hc] at CC
  rw [hd] at CD
  unfold hasQ
  obtain ⟨X, hX⟩ : ∃ q, q = cl x := ⟨_, rfl⟩
  obtain ⟨Y, hY⟩ : ∃ q, q = cl y := ⟨_, rfl⟩
  rw [← hX] at CX ⊢
  rw [← hY] at CY ⊢
  clear ha hb hc hd hX hY
  have G : Hid (Grown w (w.alloc (.cells #[.int .i64 a, .int .i64 b, .int .i64 c, .int .i64 d] 72))) := Lib.hid ((Grown.same w).alloc _)
  by_cases h1 : a ≤ X
  · rw [decide_eq_true h1, Bool.true_and]
    by_cases h2 : X < c
    · rw [decide_eq_true h2, Bool.true_and]
      by_cases h3 : b ≤ Y
      · rw [decide_eq_true h3, Bool.true_and]
        by_cases h4 : Y < d
        · rw [decide_eq_true h4]
          go_enter Tryz.func70, Tryz.ntmps70
          go_wp2_with (first
            | (go_at_call 67; have hc := CX.out; with_reducible refine (hc _).mono ?_; rintro e w1 ⟨rfl, hw⟩; clear hc; have hw := hw.symm; subst hw)
            | (go_at_call 67; have hc := CY.out; with_reducible refine (hc _).mono ?_; rintro e w1 ⟨rfl, hw⟩; clear hc; have hw := hw.symm; subst hw)
            | (go_at_call 67; have hc := CA.out; with_reducible refine (hc _).mono ?_; rintro e w1 ⟨rfl, hw⟩; clear hc; have hw := hw.symm; subst hw)
            | (go_at_call 67; have hc := CB.out; with_reducible refine (hc _).mono ?_; rintro e w1 ⟨rfl, hw⟩; clear hc; have hw := hw.symm; subst hw)
            | (go_at_call 67; have hc := CC.out; with_reducible refine (hc _).mono ?_; rintro e w1 ⟨rfl, hw⟩; clear hc; have hw := hw.symm; subst hw)
            | (go_at_call 67; have hc := CD.out; with_reducible refine (hc _).mono ?_; rintro e w1 ⟨rfl, hw⟩; clear hc; have hw := hw.symm; subst hw))
          go_ret
          exact ⟨by first | (simp; done) | (simp; omega), G.out⟩
        · rw [decide_eq_false h4]
          go_enter Tryz.func70, Tryz.ntmps70
          go_wp2_with (first
            | (go_at_call 67; have hc := CX.out; with_reducible refine (hc _).mono ?_; rintro e w1 ⟨rfl, hw⟩; clear hc; have hw := hw.symm; subst hw)
            | (go_at_call 67; have hc := CY.out; with_reducible refine (hc _).mono ?_; rintro e w1 ⟨rfl, hw⟩; clear hc; have hw := hw.symm; subst hw)
            | (go_at_call 67; have hc := CA.out; with_reducible refine (hc _).mono ?_; rintro e w1 ⟨rfl, hw⟩; clear hc; have hw := hw.symm; subst hw)
            | (go_at_call 67; have hc := CB.out; with_reducible refine (hc _).mono ?_; rintro e w1 ⟨rfl, hw⟩; clear hc; have hw := hw.symm; subst hw)
            | (go_at_call 67; have hc := CC.out; with_reducible refine (hc _).mono ?_; rintro e w1 ⟨rfl, hw⟩; clear hc; have hw := hw.symm; subst hw)
            | (go_at_call 67; have hc := CD.out; with_reducible refine (hc _).mono ?_; rintro e w1 ⟨rfl, hw⟩; clear hc; have hw := hw.symm; subst hw))
          go_ret
          exact ⟨by first | (simp; done) | (simp; omega), G.out⟩
      · rw [decide_eq_false h3, Bool.false_and]
        go_enter Tryz.func70, Tryz.ntmps70
        go_wp2_with (first
          | (go_at_call 67; have hc := CX.out; with_reducible refine (hc _).mono ?_; rintro e w1 ⟨rfl, hw⟩; clear hc; have hw := hw.symm; subst hw)
          | (go_at_call 67; have hc := CY.out; with_reducible refine (hc _).mono ?_; rintro e w1 ⟨rfl, hw⟩; clear hc; have hw := hw.symm; subst hw)
          | (go_at_call 67; have hc := CA.out; with_reducible refine (hc _).mono ?_; rintro e w1 ⟨rfl, hw⟩; clear hc; have hw := hw.symm; subst hw)
          | (go_at_call 67; have hc := CB.out; with_reducible refine (hc _).mono ?_; rintro e w1 ⟨rfl, hw⟩; clear hc; have hw := hw.symm; subst hw)
          | (go_at_call 67; have hc := CC.out; with_reducible refine (hc _).mono ?_; rintro e w1 ⟨rfl, hw⟩; clear hc; have hw := hw.symm; subst hw)
          | (go_at_call 67; have hc := CD.out; with_reducible refine (hc _).mono ?_; rintro e w1 ⟨rfl, hw⟩; clear hc; have hw := hw.symm; subst hw))
        go_ret
        exact ⟨by first | (simp; done) | (simp; omega), G.out⟩
    · rw [decide_eq_false h2, Bool.false_and]
      go_enter Tryz.func70, Tryz.ntmps70
      go_wp2_with (first
        | (go_at_call 67; have hc := CX.out; with_reducible refine (hc _).mono ?_; rintro e w1 ⟨rfl, hw⟩; clear hc; have hw := hw.symm; subst hw)
        | (go_at_call 67; have hc := CY.out; with_reducible refine (hc _).mono ?_; rintro e w1 ⟨rfl, hw⟩; clear hc; have hw := hw.symm; subst hw)
        | (go_at_call 67; have hc := CA.out; with_reducible refine (hc _).mono ?_; rintro e w1 ⟨rfl, hw⟩; clear hc; have hw := hw.symm; subst hw)
        | (go_at_call 67; have hc := CB.out; with_reducible refine (hc _).mono ?_; rintro e w1 ⟨rfl, hw⟩; clear hc; have hw := hw.symm; subst hw)
        | (go_at_call 67; have hc := CC.out; with_reducible refine (hc _).mono ?_; rintro e w1 ⟨rfl, hw⟩; clear hc; have hw := hw.symm; subst hw)
        | (go_at_call 67; have hc := CD.out; with_reducible refine (hc _).mono ?_; rintro e w1 ⟨rfl, hw⟩; clear hc; have hw := hw.symm; subst hw))
      go_ret
      exact ⟨by first | (simp; done) | (simp; omega), G.out⟩
  · rw [decide_eq_false h1, Bool.false_and]
    go_enter Tryz.func70, Tryz.ntmps70
    go_wp2_with (first
      | (go_at_call 67; have hc := CX.out; with_reducible refine (hc _).mono ?_; rintro e w1 ⟨rfl, hw⟩; clear hc; have hw := hw.symm; subst hw)
      | (go_at_call 67; have hc := CY.out; with_reducible refine (hc _).mono ?_; rintro e w1 ⟨rfl, hw⟩; clear hc; have hw := hw.symm; subst hw)
      | (go_at_call 67; have hc := CA.out; with_reducible refine (hc _).mono ?_; rintro e w1 ⟨rfl, hw⟩; clear hc; have hw := hw.symm; subst hw)
      | (go_at_call 67; have hc := CB.out; with_reducible refine (hc _).mono ?_; rintro e w1 ⟨rfl, hw⟩; clear hc; have hw := hw.symm; subst hw)
      | (go_at_call 67; have hc := CC.out; with_reducible refine (hc _).mono ?_; rintro e w1 ⟨rfl, hw⟩; clear hc; have hw := hw.symm; subst hw)
      | (go_at_call 67; have hc := CD.out; with_reducible refine (hc _).mono ?_; rintro e w1 ⟨rfl, hw⟩; clear hc; have hw := hw.symm; subst hw))
    go_ret
    exact ⟨by first | (simp; done) | (simp; omega), G.out⟩

theorem div_is {s x i : Int} (hs : 0 < s) : x / s = i ↔ i * s ≤ x ∧ x < (i + 1) * s := by
  constructor
  · rintro rfl
    exact ⟨Int.ediv_mul_le _ (by omega), Int.lt_ediv_add_one_mul_self _ hs⟩
  · rintro ⟨h1, h2⟩
    have h3 := (Int.le_ediv_iff_mul_le hs).2 h1
    have h4 := (Int.ediv_lt_iff_lt_mul hs).2 h2
    omega
theorem nat4 {n : Int} {i : Nat} (h : (i : Int) < n) (hn : n ≤ 4) : i = 0 ∨ i = 1 ∨ i = 2 ∨ i = 3 := by omega
/-- a zone has the points of it -/
theorem has_zone {z : Zf} (hz : z.ok) {i j : Nat} (hi : (i : Int) < z.c) (hj : (j : Int) < z.r) (x y : Int) :
    hasQ (i * z.s) (j * z.s) ((i + 1) * z.s) ((j + 1) * z.s) x y = decide (zoneI z x y = j * z.c + i) := by
  obtain ⟨cs1, cs2⟩ := hz.cs
  obtain ⟨rs1, rs2⟩ := hz.rs
  have s0 : 0 < z.s := by have := hz.s1; omega
  have s2 := hz.s2
  have i1 : ((i : Int) + 1) * z.s ≤ z.c * z.s := Int.mul_le_mul_of_nonneg_right (by omega) (by omega)
  have j1 : ((j : Int) + 1) * z.s ≤ z.r * z.s := Int.mul_le_mul_of_nonneg_right (by omega) (by omega)
  have i0 : 0 ≤ (i : Int) * z.s := Int.mul_nonneg (by omega) (by omega)
  have j0 : 0 ≤ (j : Int) * z.s := Int.mul_nonneg (by omega) (by omega)
  have n0 : 0 ≤ (j : Int) * z.c := Int.mul_nonneg (by omega) (by have := hz.c1; omega)
  have cx := cl_ways x
  have cy := cl_ways y
  rw [Bool.eq_iff_iff]
  unfold hasQ zoneI
  simp only [Bool.and_eq_true, decide_eq_true_iff]
  obtain ⟨IS, hIS⟩ : ∃ q, (i : Int) * z.s = q := ⟨_, rfl⟩
  obtain ⟨JS, hJS⟩ : ∃ q, (j : Int) * z.s = q := ⟨_, rfl⟩
  obtain ⟨IT, hIT⟩ : ∃ q, ((i : Int) + 1) * z.s = q := ⟨_, rfl⟩
  obtain ⟨JT, hJT⟩ : ∃ q, ((j : Int) + 1) * z.s = q := ⟨_, rfl⟩
  obtain ⟨CS, hCS⟩ : ∃ q, z.c * z.s = q := ⟨_, rfl⟩
  obtain ⟨RS, hRS⟩ : ∃ q, z.r * z.s = q := ⟨_, rfl⟩
  rw [hIS] at i0 ⊢
  rw [hJS] at j0 ⊢
  rw [hIT] at i1 ⊢
  rw [hJT] at j1 ⊢
  rw [hCS] at i1 cs1 cs2 ⊢
  rw [hRS] at j1 rs1 rs2 ⊢
  by_cases hin : 0 ≤ x ∧ x ≤ CS - 1 ∧ 0 ≤ y ∧ y ≤ RS - 1
  · obtain ⟨x0, x1, y0, y1⟩ := hin
    rw [decide_eq_true x0, decide_eq_true x1, decide_eq_true y0, decide_eq_true y1]
    simp only [Bool.and_self, cond_true]
    rw [cl_in (n := x) (by omega) (by omega), cl_in (n := y) (by omega) (by omega), Int.tdiv_eq_ediv_of_nonneg x0, Int.tdiv_eq_ediv_of_nonneg y0]
    have q1 : x / z.s = i ↔ IS ≤ x ∧ x < IT := by rw [← hIS, ← hIT]; exact div_is s0
    have q2 : y / z.s = j ↔ JS ≤ y ∧ y < JT := by rw [← hJS, ← hJT]; exact div_is s0
    have xa : 0 ≤ x / z.s := Int.ediv_nonneg x0 (by omega)
    have xb : x / z.s < z.c := (Int.ediv_lt_iff_lt_mul s0).2 (by omega)
    have ya : 0 ≤ y / z.s := Int.ediv_nonneg y0 (by omega)
    have yb : y / z.s < z.r := (Int.ediv_lt_iff_lt_mul s0).2 (by omega)
    obtain ⟨X, hX⟩ : ∃ q, x / z.s = q := ⟨_, rfl⟩
    obtain ⟨Y, hY⟩ : ∃ q, y / z.s = q := ⟨_, rfl⟩
    rw [hX] at q1 xa xb ⊢
    rw [hY] at q2 ya yb ⊢
    have key : (Y * z.c + X = (j : Int) * z.c + i) ↔ (X = i ∧ Y = j) := by
      constructor
      · intro h
        have hc : z.c = 1 ∨ z.c = 2 ∨ z.c = 3 ∨ z.c = 4 := by have := hz.c1; have := hz.c2; omega
        rcases hc with hc | hc | hc | hc <;> rw [hc] at h xb hi <;> omega
      · rintro ⟨h1, h2⟩
        rw [h1, h2]
    rw [key, q1, q2]
    constructor
    · rintro ⟨h1, h2, h3, h4⟩; exact ⟨⟨h1, h2⟩, h3, h4⟩
    · rintro ⟨⟨h1, h2⟩, h3, h4⟩; exact ⟨h1, h2, h3, h4⟩
  · have hb : (decide (0 ≤ x) && decide (x ≤ CS - 1) && decide (0 ≤ y) && decide (y ≤ RS - 1)) = false := by
      rw [Bool.eq_false_iff]
      intro h
      simp only [Bool.and_eq_true, decide_eq_true_iff] at h
      exact hin ⟨h.1.1.1, h.1.1.2, h.1.2, h.2⟩
    rw [hb, cond_false]
    constructor
    · rintro ⟨h1, h2, h3, h4⟩
      exfalso
      omega
    · intro h
      exfalso
      omega
theorem zone_range {z : Zf} (hz : z.ok) (x y : Int) : zoneI z x y = -1 ∨ (0 ≤ zoneI z x y ∧ zoneI z x y < z.c * z.r) := by
  unfold zoneI
  cases hb : (decide (0 ≤ x) && decide (x ≤ z.c * z.s - 1) && decide (0 ≤ y) && decide (y ≤ z.r * z.s - 1)) with
  | false => exact .inl rfl
  | true =>
    right
    simp only [Bool.and_eq_true, decide_eq_true_iff] at hb
    obtain ⟨⟨⟨x0, x1⟩, y0⟩, y1⟩ := hb
    rw [cond_true, Int.tdiv_eq_ediv_of_nonneg x0, Int.tdiv_eq_ediv_of_nonneg y0]
    have s0 : 0 < z.s := by have := hz.s1; omega
    have xa : 0 ≤ x / z.s := Int.ediv_nonneg x0 (by omega)
    have xb : x / z.s < z.c := (Int.ediv_lt_iff_lt_mul s0).2 (by omega)
    have ya : 0 ≤ y / z.s := Int.ediv_nonneg y0 (by omega)
    have yb : y / z.s < z.r := (Int.ediv_lt_iff_lt_mul s0).2 (by omega)
    obtain ⟨X, hX⟩ : ∃ q, x / z.s = q := ⟨_, rfl⟩
    obtain ⟨Y, hY⟩ : ∃ q, y / z.s = q := ⟨_, rfl⟩
    rw [hX] at xa xb ⊢
    rw [hY] at ya yb ⊢
    have hc : z.c = 1 ∨ z.c = 2 ∨ z.c = 3 ∨ z.c = 4 := by have := hz.c1; have := hz.c2; omega
    rcases hc with hc | hc | hc | hc <;> rw [hc] at xb ⊢ <;> omega

set_option maxRecDepth 100000 in
set_option maxHeartbeats 2000000 in
theorem rzone_any (w : World) (z : Zf) (hz : z.ok) (i j : Nat) (hi : (i : Int) < z.c) (hj : (j : Int) < z.r) (k : Int) (hk : k = (j : Int) * z.c + i) :
    Calls Tryz.prog 71 #[zfV z, .int .i64 k] w fun e w' => e = .returned (rcV (i * z.s) (j * z.s) ((i + 1) * z.s) ((j + 1) * z.s)) ∧ Keeps No w w' := by
  obtain ⟨cs1, cs2⟩ := hz.cs
  obtain ⟨rs1, rs2⟩ := hz.rs
  have c1 := hz.c1
  have c2 := hz.c2
  have r2 := hz.r2
  have s0 : 0 < z.s := by have := hz.s1; omega
  have i1 : ((i : Int) + 1) * z.s ≤ z.c * z.s := Int.mul_le_mul_of_nonneg_right (by omega) (by omega)
  have j1 : ((j : Int) + 1) * z.s ≤ z.r * z.s := Int.mul_le_mul_of_nonneg_right (by omega) (by omega)
  have i0 : 0 ≤ (i : Int) * z.s := Int.mul_nonneg (by omega) (by omega)
  have j0 : 0 ≤ (j : Int) * z.s := Int.mul_nonneg (by omega) (by omega)
  have i2 : ((i : Int) + 1) * z.s = (i : Int) * z.s + z.s := by rw [Int.add_mul, Int.one_mul]
  have j2 : ((j : Int) + 1) * z.s = (j : Int) * z.s + z.s := by rw [Int.add_mul, Int.one_mul]
  obtain ⟨IS, hIS⟩ : ∃ q, (i : Int) * z.s = q := ⟨_, rfl⟩
  obtain ⟨JS, hJS⟩ : ∃ q, (j : Int) * z.s = q := ⟨_, rfl⟩
  obtain ⟨IT, hIT⟩ : ∃ q, ((i : Int) + 1) * z.s = q := ⟨_, rfl⟩
  obtain ⟨JT, hJT⟩ : ∃ q, ((j : Int) + 1) * z.s = q := ⟨_, rfl⟩
  rw [hIS] at i0 i2 ⊢
  rw [hJS] at j0 j2 ⊢
  rw [hIT] at i1 i2 ⊢
  rw [hJT] at j1 j2 ⊢
  have wIS : IntKind.i64.wrap ((i : Int) * z.s) = IS := by rw [hIS, IntKind.wrap_i64]; omega
  have wJS : IntKind.i64.wrap ((j : Int) * z.s) = JS := by rw [hJS, IntKind.wrap_i64]; omega
  have wIT : IntKind.i64.wrap (((i : Int) + 1) * z.s) = IT := by rw [hIT, IntKind.wrap_i64]; omega
  have wJT : IntKind.i64.wrap (((j : Int) + 1) * z.s) = JT := by rw [hJT, IntKind.wrap_i64]; omega
  have HK : Hid (∀ (a b : Nat), (a : Int) < z.c → b ≤ j → ((b : Int) * z.c + a = k ↔ (a = i ∧ b = j)) ∧ IntKind.i64.wrap ((b : Int) * z.c) = (b : Int) * z.c ∧ IntKind.i64.wrap ((b : Int) * z.c + a) = (b : Int) * z.c + a) := Lib.hid (fun a b ha hb => by
    have hc : z.c = 1 ∨ z.c = 2 ∨ z.c = 3 ∨ z.c = 4 := by omega
    have hb4 : (b : Int) < 4 := by omega
    rcases hc with hc | hc | hc | hc <;> rw [hc] at hk ha hi ⊢ <;> rw [IntKind.wrap_i64, IntKind.wrap_i64] <;> omega)
  clear hIS hJS hIT hJT cs1 cs2 rs1 rs2 i1 j1 i0 j0 i2 j2 s0 hk
  go_enter Tryz.func71, Tryz.ntmps71
  go_upto_region 1 with fail
  refine wp_world ?_
  intro W hW
  have KW : Hid (Keeps No w W) := Lib.hid (by rw [hW]; exact ((Keeps.refl w).alloc _).alloc _)
  have cb : cellsAt W w.heap.size 0 7 = some (zfC z) := by rw [hW]; simp [go_sem]
  have or : Open W (w.heap.size + 1) := by rw [hW]; simp [go_sem]
  have sr : (rowD W (w.heap.size + 1)).size = 4 := by rw [hW]; simp [go_sem]
  obtain ⟨gb, hgb⟩ : ∃ g, g = w.heap.size := ⟨_, rfl⟩
  obtain ⟨gr, hgr⟩ : ∃ g, g = w.heap.size + 1 := ⟨_, rfl⟩
  have NR : Hid (w.heap.size ≤ gr ∧ gb ≠ gr) := Lib.hid ⟨by omega, by omega⟩
  rw [← hgr]
  rw [← hgb]
  rw [← hgr] at or sr
  rw [← hgb] at cb
  have d0 := cellsAt_cell cb 0 _ rfl
  have d1 := cellsAt_cell cb 1 _ rfl
  have d2 := cellsAt_cell cb 2 _ rfl
  simp only [Nat.zero_add] at d0 d1 d2
  clear hW hgb hgr cb
  go_wp2_with fail
  go_loopw [5] (fun q wr => ∃ b : Nat, b ≤ j ∧ q = .int .i64 b ∧ W = wr) (fun q _ => j + 1 - (intOf q).toNat)
  case atStart => exact ⟨0, Nat.zero_le _, rfl, rfl⟩
  case round =>
    obtain ⟨b, hbj, rfl, rfl⟩ := hrel
    have hb4 : (b : Int) < z.r := by omega
    go_wp2_with fail
    go_loopw [6] (fun q wi => ∃ a : Nat, (a : Int) ≤ z.c ∧ (b = j → a ≤ i) ∧ q = .int .i64 a ∧ W = wi) (fun q _ => (z.c + 1 - intOf q).toNat)
    case atStart => exact ⟨0, by omega, fun _ => Nat.zero_le _, rfl, rfl⟩
    case round =>
      obtain ⟨a, hac, hai, rfl, rfl⟩ := hrel
      by_cases hlt : (a : Int) < z.c
      · obtain ⟨h1, h2, h3⟩ := HK.out a b hlt hbj
        by_cases he : a = i ∧ b = j
        · obtain ⟨rfl, rfl⟩ := he
          have h4 := h1.2 ⟨rfl, rfl⟩
          have h5 : ((b : Int) * z.c + (a : Int) == k) = true := by rw [beq_iff_eq]; exact h4
          have lr : gr < W.heap.size := by obtain ⟨C, t, ho⟩ := or; exact (Array.getElem?_eq_some_iff.1 ho).1
          clear h1 hac hai hbj h4
          go_wp2
          exact bodyPost_ret (v := rcV IS JS IT JT) (by simp [results, Tryz.results71, go_sem, *]) rfl ⟨rfl, KW.out.row NR.out.1 _⟩
        · have h4 : ¬ ((b : Int) * z.c + a = k) := fun e => he (h1.1 e)
          have h5 : ((b : Int) * z.c + (a : Int) == k) = false := by rw [beq_eq_false_iff_ne]; exact h4
          have HE := Lib.hid he
          have HA := Lib.hid hai
          clear h1 he hai
          go_wp2
          go_roundw
          case rel => exact ⟨a + 1, by omega, fun e => by have h1 := HA.out e; have h2 := HE.out; omega, by go_num, by trivial⟩
          case measure => simp [intOf]; omega
      · have HA := Lib.hid hai
        clear hai
        go_wp2
        go_roundw
        case rel => exact ⟨b + 1, by have h1 := HA.out; omega, by go_num, by trivial⟩
        case measure => simp [intOf]; omega
end Go.Proofs.YtcjeocibnfoenaaGreat
