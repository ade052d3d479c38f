/-
  The document's Of, Check; zones.Check, New. No conditions of their own.
-/
import Derived.Test.YtcjeocibnfoenaaGreatTjC
namespace Go.Proofs.YtcjeocibnfoenaaGreat
open Go.RowKit Go.Joins Go.Deep Go.Sort

theorem cl_small {n : Int} (h0 : 0 ≤ n) (h1 : n ≤ 4194304) : cl n = n := cl_in (by omega) (by omega)
set_option maxRecDepth 100000 in
set_option maxHeartbeats 2000000 in
theorem rof_any (w : World) (z : Zf) (hz : z.ok) (x y : Int) :
    Calls Tryz.prog 42 #[zfV z, .int .i64 x, .int .i64 y] w fun e w' => e = .returned (.int .i64 (zoneI z x y)) ∧ Keeps No w w' := by
  have ZR := zone_range hz x y
  have HS := Lib.hid (fun (k : Nat) (hk : (k : Int) < z.c * z.r) (W : World) => show ∃ a b c d, (Calls Tryz.prog 71 #[zfV z, .int .i64 k] W fun e w' => e = .returned (rcV a b c d) ∧ Keeps No W w') ∧
      (∀ W, Calls Tryz.prog 70 #[rcV a b c d, .int .i64 x, .int .i64 y] W fun e w' => e = .returned (.bool (decide (zoneI z x y = k))) ∧ Grown W w') by
    have c1 := hz.c1
    have c2 := hz.c2
    have r1 := hz.r1
    have r2 := hz.r2
    obtain ⟨i, j, hi, hj, hk⟩ : ∃ i j : Nat, (i : Int) < z.c ∧ (j : Int) < z.r ∧ (k : Int) = (j : Int) * z.c + i := by
      have hc : z.c = 1 ∨ z.c = 2 ∨ z.c = 3 ∨ z.c = 4 := by omega
      rcases hc with hc | hc | hc | hc <;> rw [hc] at hk ⊢
      · exact ⟨0, k, by omega, by omega, by omega⟩
      · exact ⟨k % 2, k / 2, by omega, by omega, by omega⟩
      · exact ⟨k % 3, k / 3, by omega, by omega, by omega⟩
      · exact ⟨k % 4, k / 4, by omega, by omega, by omega⟩
    obtain ⟨cs1, cs2⟩ := hz.cs
    obtain ⟨rs1, rs2⟩ := hz.rs
    have s0 : 0 < z.s := by have := hz.s1; omega
    have i1 : ((i : Int) + 1) * z.s ≤ z.c * z.s := Int.mul_le_mul_of_nonneg_right (by omega) (by omega)
    have j1 : ((j : Int) + 1) * z.s ≤ z.r * z.s := Int.mul_le_mul_of_nonneg_right (by omega) (by omega)
    have i0 : 0 ≤ (i : Int) * z.s := Int.mul_nonneg (by omega) (by omega)
    have j0 : 0 ≤ (j : Int) * z.s := Int.mul_nonneg (by omega) (by omega)
    have i2 : ((i : Int) + 1) * z.s = (i : Int) * z.s + z.s := by rw [Int.add_mul, Int.one_mul]
    have j2 : ((j : Int) + 1) * z.s = (j : Int) * z.s + z.s := by rw [Int.add_mul, Int.one_mul]
    refine ⟨i * z.s, j * z.s, (i + 1) * z.s, (j + 1) * z.s, rzone_any W z hz i j hi hj k hk, fun W => ?_⟩
    have h := rhas_any W (i * z.s) (j * z.s) ((i + 1) * z.s) ((j + 1) * z.s) x y (cl_small i0 (by omega)) (cl_small j0 (by omega)) (cl_small (by omega) (by omega)) (cl_small (by omega) (by omega))
    rw [has_zone hz hi hj, ← hk] at h
    exact h)
  have n0 : 0 ≤ z.c * z.r ∧ z.c * z.r ≤ 16 := by
    have c1 := hz.c1
    have c2 := hz.c2
    have r1 := hz.r1
    have r2 := hz.r2
    have hc : z.c = 1 ∨ z.c = 2 ∨ z.c = 3 ∨ z.c = 4 := by omega
    rcases hc with hc | hc | hc | hc <;> rw [hc] <;> omega
  obtain ⟨N, hN⟩ : ∃ N : Nat, z.c * z.r = N := ⟨(z.c * z.r).toNat, by omega⟩
  rw [hN] at ZR n0 HS
  obtain ⟨R, hR⟩ : ∃ R, zoneI z x y = R := ⟨_, rfl⟩
  rw [hR] at ZR HS ⊢
  have ZR := Lib.hid ZR
  have wN : IntKind.i64.wrap (z.c * z.r) = N := by rw [hN, IntKind.wrap_i64]; omega
  have wN2 : wrap64 (z.c * z.r) = N := by rw [hN]; unfold wrap64; omega
  have N16 : (N : Int) ≤ 16 := by omega
  clear hN hR n0 hz
  go_enter Tryz.func42, Tryz.ntmps42
  go_upto_region 1 with fail
  refine wp_world ?_
  intro W hW
  have KW : Hid (Keeps No w W) := Lib.hid (by rw [hW]; exact ((Keeps.refl w).alloc _))
  have cb : cellsAt W w.heap.size 0 7 = some (zfC z) := by rw [hW]; simp [go_sem]
  obtain ⟨gb, hgb⟩ : ∃ g, g = w.heap.size := ⟨_, rfl⟩
  rw [← hgb]
  rw [← hgb] at cb
  clear hW hgb
  have CB := Lib.hid cb
  clear cb
  go_wp2_with fail
  go_loopw [7] (fun q wr => ∃ k : Nat, k ≤ N ∧ (0 ≤ R → (k : Int) ≤ R) ∧ q = .int .i64 k ∧ Keeps No W wr) (fun q _ => N + 1 - (intOf q).toNat)
  case atStart => exact ⟨0, Nat.zero_le _, fun h => h, rfl, Keeps.refl _⟩
  case round =>
    obtain ⟨k, hkN, hkR, rfl, hK⟩ := hrel
    obtain ⟨wo, hwo⟩ : ∃ x : World, x = wr := ⟨_, rfl⟩
    subst hwo
    have K := Lib.hid hK
    have cb := hK.cellsAt CB.out
    have d0 := cellsAt_cell cb 0 _ rfl
    have d1 := cellsAt_cell cb 1 _ rfl
    simp only [Nat.zero_add] at d0 d1
    have HKR := Lib.hid hkR
    clear hK hkR
    by_cases hlt : k < N
    · have hlti : (k : Int) < (N : Int) := by omega
      obtain ⟨a, b, c, d, hZ, hH⟩ := HS.out k hlti wo
      have HZ := Lib.hid hZ
      have HH := Lib.hid hH
      clear hZ hH
      go_wp2_with fail
      refine HZ.out.mono ?_
      rintro e w1 ⟨rfl, hk1⟩
      have K1 := Lib.hid (K.out.trans hk1 (fun _ _ h => h))
      clear hk1
      by_cases he : R = (k : Int)
      · subst he
        rw [decide_eq_true rfl] at HH
        go_wp2_with fail
        refine (HH.out w1).mono ?_
        rintro e w2 ⟨rfl, hg⟩
        have K2 := Lib.hid (KW.out.trans (K1.out.trans hg.keeps (fun _ _ h => h)) (fun _ _ h => h))
        clear hg
        go_wp2
        go_ret
        exact ⟨rfl, K2.out⟩
      · rw [decide_eq_false he] at HH
        have HE := Lib.hid he
        clear he
        go_wp2_with fail
        refine (HH.out w1).mono ?_
        rintro e w2 ⟨rfl, hg⟩
        have K2 := Lib.hid (K1.out.trans hg.keeps (fun _ _ h => h))
        clear hg cb d0 d1
        go_wp2
        go_roundw
        case rel => exact ⟨k + 1, by omega, fun h0 => by have h1 := HKR.out h0; have h2 := HE.out; omega, by go_num, K2.out⟩
        case measure => simp [intOf]; omega
    · have hlti : ¬ ((k : Int) < (N : Int)) := by omega
      have hR : R = -1 := by have h1 := ZR.out; have h2 := HKR.out; omega
      subst hR
      go_wp2
      go_ret
      exact ⟨rfl, KW.out.trans K.out (fun _ _ h => h)⟩
end Go.Proofs.YtcjeocibnfoenaaGreat
