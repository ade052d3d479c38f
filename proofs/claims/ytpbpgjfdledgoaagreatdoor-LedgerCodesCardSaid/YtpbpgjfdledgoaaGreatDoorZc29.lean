/-
  The document's Int: size, high, Int. No conditions of its own.
-/
import Derived.Test.YtpbpgjfdledgoaaGreatDoorZc28
namespace Go.Proofs.YtpbpgjfdledgoaaGreatDoor
open Go.RowKit Go.Shelf Go.Sort Go.Joins Go.Deep

set_option maxRecDepth 100000 in
set_option maxHeartbeats 2000000 in
theorem rsize_any (w : World) (m : Nat) (hm : m < 18446744073709551616) (hm2 : (m : Int) ≤ 9223372036854775807) : Calls Tryz.prog 122 #[.int .i64 m] w fun e w' => e = .returned (.int .i64 (osz m : Nat)) ∧ w = w' := by
  obtain ⟨E, hE⟩ : ∃ x, x = osz m := ⟨_, rfl⟩
  rw [← hE]
  have HE := Lib.hid hE
  have HM := Lib.hid hm
  clear hE hm
  go_enter Tryz.func122, Tryz.ntmps122
  go_wp2
  go_loopw [0, 3] (fun a b wr => ∃ (f q k : Nat), f ≤ 8 ∧ q < 256 ^ f ∧ (q : Int) ≤ 9223372036854775807 ∧ a = .int .i64 q ∧ b = .int .i64 k ∧ oszF f q + k = E ∧ k + f = 8 ∧ w = wr) (fun a _ _ => (intOf a).toNat)
  case atStart => exact ⟨8, m, 0, Nat.le_refl _, by rw [pow8]; exact HM.out, hm2, rfl, rfl, by rw [HE.out]; rfl, rfl, rfl⟩
  case round =>
    obtain ⟨f, q, k, hf, hq, hq2, rfl, rfl, hs, hkf, rfl⟩ := hrel
    have HS := Lib.hid hs
    have HQ := Lib.hid hq
    have HF := Lib.hid hkf
    by_cases h0 : q = 0
    · subst h0
      have hk : k = E := by
        have : oszF f 0 = 0 := by cases f <;> rfl
        omega
      subst hk
      clear hs hq hkf
      go_wp2
      go_ret
      exact ⟨rfl, rfl⟩
    · cases f with
      | zero => exact absurd (by simpa using hq) h0
      | succ f =>
        have hqp : 0 < (q : Int) := by omega
        have hdv : Int.tdiv (q : Int) 256 = ((q / 256 : Nat) : Int) := rfl
        have hk8 : (k : Int) ≤ 8 := by omega
        have e1 := oszF_step f q h0
        have e2 : q / 256 < 256 ^ f := by rw [Nat.div_lt_iff_lt_mul (by omega)]; rw [Nat.pow_succ] at hq; exact hq
        have HR : Hid (f ≤ 8 ∧ q / 256 < 256 ^ f ∧ ((q / 256 : Nat) : Int) ≤ 9223372036854775807 ∧ oszF f (q / 256) + (k + 1) = E ∧ (k + 1) + f = 8 ∧ q / 256 < q) := Lib.hid ⟨by omega, e2, by omega, by omega, by omega, by omega⟩
        obtain ⟨q2, hq2'⟩ : ∃ x, x = q / 256 := ⟨_, rfl⟩
        rw [← hq2'] at hdv HR
        have hw : wrap64 (q2 : Int) = (q2 : Int) := IntWalk.wrap64_in _ (by have := HR.out.2.2.1; exact ⟨by omega, by omega⟩)
        clear hs hq hkf e1 e2 hq2' h0
        go_wp2
        rw [hw]
        obtain ⟨r1, r2, r3, r4, r5, r6⟩ := HR.out
        exact ⟨⟨f, q2, k + 1, r1, r2, r3, rfl, rfl, r4, r5, trivial⟩, by simpa [intOf] using r6⟩
theorem conv_byte (W : World) (b : Int) : (convert 184 9 (.slice (some ⟨W.heap.size, 0, none⟩) 1 1)).run Tryz.prog (W.alloc (.cells #[.int .u8 b] 5)) = .ok (.string (toB [UInt8.ofNat b.toNat])) (W.alloc (.cells #[.int .u8 b] 5)) := conv_new W [b] 1 1 rfl (by decide)
theorem conv_late {w : World} {g : Nat} {b : Int} (h : cellsAt w g 0 1 = some [.int .u8 b]) : (convert 184 9 (.slice (some ⟨g, 0, none⟩) 1 1)).run Tryz.prog w = .ok (.string (toB [UInt8.ofNat b.toNat])) w := by
  rw [run_convert_bytes_string _ _ _ _ _ _ _ Tryz.underlying184 Tryz.underlying5 Tryz.underlying9,
    run_bytesToString _ _ _ _ [b] ?_, push_fold]
  · rfl
  · show (loadWhole _ _).run Tryz.prog _ = _
    rw [run_loadWhole, h]
    rfl
theorem cellsAt_new (w : World) (b : Int) : cellsAt (w.alloc (.cells #[.int .u8 b] 5)) w.heap.size 0 1 = some [.int .u8 b] := by simp [go_sem]
theorem wrap_i64_in {n : Int} (h1 : -9223372036854775808 ≤ n) (h2 : n ≤ 9223372036854775807) : IntKind.i64.wrap n = n := by
  simp [IntKind.wrap, IntKind.bits, IntKind.signed]
  omega
set_option maxRecDepth 100000 in
set_option maxHeartbeats 2000000 in
theorem rhigh_any : ∀ (k m : Nat) (w : World), k ≤ 8 → (m : Int) ≤ 9223372036854775807 → Calls Tryz.prog 123 #[.int .i64 m, .int .i64 k] w fun e w' => e = .returned (.string (toB (ohigh m k))) ∧ Keeps No w w' := by
  intro k
  induction k with
  | zero =>
    intro m w hk hm
    go_enter Tryz.func123, Tryz.ntmps123
    go_wp2
    go_ret
    exact ⟨rfl, Keeps.refl _⟩
  | succ k ih =>
    intro m w hk hm
    obtain ⟨X, hX⟩ : ∃ x, x = toB (ohigh m (k + 1)) := ⟨_, rfl⟩
    obtain ⟨X1, hX1⟩ : ∃ x, x = toB (ohigh (m / 256) k) := ⟨_, rfl⟩
    obtain ⟨b, hb⟩ : ∃ x, x = ((m % 256 : Nat) : Int) := ⟨_, rfl⟩
    obtain ⟨X2, hX2⟩ : ∃ x, x = toB [UInt8.ofNat b.toNat] := ⟨_, rfl⟩
    have hcat := fun W' : World => cat_run W' (ohigh (m / 256) k) [UInt8.ofNat b.toNat] (by rw [ohigh_length]; omega) (by simp)
    have hXX : ohigh (m / 256) k ++ [UInt8.ofNat b.toNat] = ohigh m (k + 1) := by rw [ohigh, hb]; rfl
    rw [hXX, ← hX1, ← hX2, ← hX] at hcat
    have hdv : Int.tdiv (m : Int) 256 = ((m / 256 : Nat) : Int) := rfl
    have hmd : Int.tmod (m : Int) 256 = b := by rw [hb]; rfl
    have hbw : IntKind.u8.wrap b = b := by rw [IntKind.wrap_u8]; omega
    have C0 := Lib.hid (fun W => calls_toB hX1 (ih (m / 256) W (by omega) (by omega)))
    have hcv := fun W => conv_byte W b
    have hcd := fun W : World => conv_late ((Keeps.refl (S := No) (W.alloc (.cells #[.int .u8 b] 5))).drew.cellsAt (cellsAt_new W b))
    rw [← hX2] at hcv hcd
    obtain ⟨q, hq⟩ : ∃ x, x = m / 256 := ⟨_, rfl⟩
    rw [← hq] at hdv C0
    have hk1 : ((k + 1 : Nat) : Int) = (k : Int) + 1 := rfl
    have hkp : (((k : Int) + 1) == 0) = false := by rw [beq_eq_false_iff_ne]; omega
    have hks : IntKind.i64.wrap (k : Int) = (k : Int) := wrap_i64_in (by omega) (by omega)
    rw [hk1, ← hX]
    have HX := Lib.hid hX
    have hqq : IntKind.i64.wrap (q : Int) = (q : Int) := wrap_i64_in (by omega) (by omega)
    have HX2 := Lib.hid hX2
    clear hX hX1 hX2 hXX hq hb hk1
    go_enter Tryz.func123, Tryz.ntmps123
    go_upto_region 3 with fail
    clear ih hk hm
    go_region_with (first
        | (go_at_call 123
           have hc := C0.out
           with_reducible refine (hc _).mono ?_
           clear hc
           rintro e w5 ⟨rfl, hk⟩
           try (have hcw := conv_late (hk.cellsAt (((Keeps.refl (S := No) (w.alloc (.cells #[.int .u8 b] 5))).drew).cellsAt (cellsAt_new w b)))
                rw [← HX2.out] at hcw)
           have hS1 : Keeps No w w5 := Keeps.trans (by first | assumption | exact Keeps.refl w | exact (Keeps.refl w).drew | exact ((Keeps.refl w).alloc _).drew | (refine Keeps.alloc ?_ _; assumption)) hk (fun _ _ h => h)))
    all_goals go_wp2
    all_goals go_ret
    all_goals exact ⟨by rw [HX.out]; rfl, by first | assumption | (refine Keeps.alloc ?_ _; assumption)⟩
set_option maxRecDepth 100000 in
set_option maxHeartbeats 2000000 in
theorem rint_pos (w : World) (n : Int) (hn : i64 n) (h0 : ¬ n < 0) : Calls Tryz.prog 53 #[.int .i64 n] w fun e w' => e = .returned (.string (toB (layI n))) ∧ Keeps No w w' := by
  have hn1 := hn.1
  have hn2 := hn.2
  obtain ⟨m, hm⟩ : ∃ x, x = mag n := ⟨_, rfl⟩
  have hmn : n = (m : Int) := by rw [hm, mag_nonneg h0]; omega
  have hm64 : (m : Int) ≤ 9223372036854775807 := by omega
  obtain ⟨s, hs⟩ : ∃ x, x = osz m := ⟨_, rfl⟩
  have hs8 : s ≤ 8 := by rw [hs]; exact osz_le m
  obtain ⟨b, hb⟩ : ∃ x : Int, x = (s : Nat) := ⟨_, rfl⟩
  have hlay : layI n = UInt8.ofNat b.toNat :: ohigh m s := by
    unfold layI
    rw [← hm, ← hs, decide_eq_false h0, hb, Int.toNat_natCast, cond_false, Nat.zero_add]
  obtain ⟨X, hX⟩ : ∃ x, x = toB (layI n) := ⟨_, rfl⟩
  obtain ⟨X1, hX1⟩ : ∃ x, x = toB (ohigh m s) := ⟨_, rfl⟩
  obtain ⟨X2, hX2⟩ : ∃ x, x = toB [UInt8.ofNat b.toNat] := ⟨_, rfl⟩
  have hcat := fun W' : World => cat_run W' [UInt8.ofNat b.toNat] (ohigh m s) (by simp) (by rw [ohigh_length]; omega)
  have hXX : [UInt8.ofNat b.toNat] ++ ohigh m s = layI n := by rw [hlay]; rfl
  rw [hXX, ← hX1, ← hX2, ← hX] at hcat
  have CH := Lib.hid (fun W => calls_toB hX1 (rhigh_any s m W hs8 hm64))
  have CS := Lib.hid (fun W => rsize_any W m (by omega) hm64)
  have hcv := fun W => conv_byte W b
  have hcd := fun W : World => conv_late ((Keeps.refl (S := No) (W.alloc (.cells #[.int .u8 b] 5))).drew.cellsAt (cellsAt_new W b))
  have hce := fun W : World => conv_late ((Keeps.refl (S := No) (W.alloc (.cells #[.int .u8 b] 5))).drew.drew.cellsAt (cellsAt_new W b))
  rw [← hX2] at hcv hcd hce
  simp only [← hs] at CS
  have HX := Lib.hid hX
  have HX2 := Lib.hid hX2
  have hwb : IntKind.u8.wrap ((s : Int)) = b := by rw [hb, IntKind.wrap_u8]; omega
  have hd0 : decide (n < 0) = false := decide_eq_false h0
  rw [← hX]
  clear hX hX1 hX2 hXX hlay hm hs hb
  go_enter Tryz.func53, Tryz.ntmps53
  go_upto_region 4 with fail
  rw [hmn]
  go_region_with (first
      | (go_at_call 122
         have hc := CS.out
         with_reducible refine (hc _).mono ?_
         clear hc
         rintro e w4 ⟨rfl, hw4⟩
         have hS0 : Keeps No w w4 := by
           rw [← hw4]
           first | assumption | exact (Keeps.refl w).drew | exact ((Keeps.refl w).alloc _).drew | (refine Keeps.alloc ?_ _; assumption) | (refine Keeps.drew ?_; assumption) | (refine Keeps.drew ?_; refine Keeps.alloc ?_ _; assumption)
         subst hw4)
      | (go_at_call 123
         have hc := CH.out
         with_reducible refine (hc _).mono ?_
         clear hc
         rintro e w5 ⟨rfl, hk⟩
         try (have hcw := conv_late (hk.cellsAt (((Keeps.refl (S := No) (w.alloc (.cells #[.int .u8 b] 5))).drew).cellsAt (cellsAt_new w b)))
              rw [← HX2.out] at hcw)
         try (have hcw := conv_late (hk.cellsAt (((Keeps.refl (S := No) (w.alloc (.cells #[.int .u8 b] 5))).drew.drew).cellsAt (cellsAt_new w b)))
              rw [← HX2.out] at hcw)
         try (have hcw := conv_late (hk.cellsAt (((Keeps.refl (S := No) (w.drew.alloc (.cells #[.int .u8 b] 5)))).cellsAt (cellsAt_new w.drew b)))
              rw [← HX2.out] at hcw)
         try (have hcw := conv_late (hk.cellsAt (((Keeps.refl (S := No) (w.drew.alloc (.cells #[.int .u8 b] 5))).drew).cellsAt (cellsAt_new w.drew b)))
              rw [← HX2.out] at hcw)
         have hS1 : Keeps No w w5 := Keeps.trans (by first | assumption | exact Keeps.refl w | exact (Keeps.refl w).drew | exact ((Keeps.refl w).alloc _).drew | (refine Keeps.alloc ?_ _; assumption) | (refine Keeps.drew ?_; assumption) | (refine Keeps.drew ?_; refine Keeps.alloc ?_ _; assumption)) hk (fun _ _ h => h)))
  all_goals go_wp2
  all_goals go_ret
  all_goals exact ⟨by rw [HX.out]; rfl, by first | assumption | (refine Keeps.alloc ?_ _; assumption)⟩
set_option maxRecDepth 100000 in
set_option maxHeartbeats 2000000 in
theorem rint_neg (w : World) (n : Int) (hn : i64 n) (h0 : n < 0) : Calls Tryz.prog 53 #[.int .i64 n] w fun e w' => e = .returned (.string (toB (layI n))) ∧ Keeps No w w' := by
  have hn1 := hn.1
  have hn2 := hn.2
  obtain ⟨m, hm⟩ : ∃ x, x = mag n := ⟨_, rfl⟩
  have hmn : n = -(m : Int) - 1 := by rw [hm, mag_neg h0]; omega
  have hm64 : (m : Int) ≤ 9223372036854775807 := by omega
  obtain ⟨s, hs⟩ : ∃ x, x = osz m := ⟨_, rfl⟩
  have hs8 : s ≤ 8 := by rw [hs]; exact osz_le m
  obtain ⟨b, hb⟩ : ∃ x : Int, x = (128 + s : Nat) := ⟨_, rfl⟩
  have hlay : layI n = UInt8.ofNat b.toNat :: ohigh m s := by
    unfold layI
    rw [← hm, ← hs, decide_eq_true h0, hb]
    rfl
  obtain ⟨X, hX⟩ : ∃ x, x = toB (layI n) := ⟨_, rfl⟩
  obtain ⟨X1, hX1⟩ : ∃ x, x = toB (ohigh m s) := ⟨_, rfl⟩
  obtain ⟨X2, hX2⟩ : ∃ x, x = toB [UInt8.ofNat b.toNat] := ⟨_, rfl⟩
  have hcat := fun W' : World => cat_run W' [UInt8.ofNat b.toNat] (ohigh m s) (by simp) (by rw [ohigh_length]; omega)
  have hXX : [UInt8.ofNat b.toNat] ++ ohigh m s = layI n := by rw [hlay]; rfl
  rw [hXX, ← hX1, ← hX2, ← hX] at hcat
  have CH := Lib.hid (fun W => calls_toB hX1 (rhigh_any s m W hs8 hm64))
  have CS := Lib.hid (fun W => rsize_any W m (by omega) hm64)
  have hcv := fun W => conv_byte W b
  have hcd := fun W : World => conv_late ((Keeps.refl (S := No) (W.alloc (.cells #[.int .u8 b] 5))).drew.cellsAt (cellsAt_new W b))
  have hce := fun W : World => conv_late ((Keeps.refl (S := No) (W.alloc (.cells #[.int .u8 b] 5))).drew.drew.cellsAt (cellsAt_new W b))
  rw [← hX2] at hcv hcd hce
  simp only [← hs] at CS
  have HX := Lib.hid hX
  have HX2 := Lib.hid hX2
  have hwb : IntKind.u8.wrap (128 + (s : Int)) = b := by rw [hb, IntKind.wrap_u8]; omega
  have hd0 : decide (n < 0) = true := decide_eq_true h0
  have hw1 : IntKind.i64.wrap (128 + (s : Int)) = 128 + (s : Int) := wrap_i64_in (by omega) (by omega)
  have hng : wrap64 (-(n + 1)) = (m : Int) := by rw [hmn, show -(-(m : Int) - 1 + 1) = (m : Int) by omega]; exact IntWalk.wrap64_in _ ⟨by omega, by omega⟩
  rw [← hX]
  clear hX hX1 hX2 hXX hlay hm hs hb
  go_enter Tryz.func53, Tryz.ntmps53
  go_upto_region 3 with fail
  go_region_with (first
      | (go_at_call 122
         have hc := CS.out
         with_reducible refine (hc _).mono ?_
         clear hc
         rintro e w4 ⟨rfl, hw4⟩
         have hS0 : Keeps No w w4 := by
           rw [← hw4]
           first | assumption | exact (Keeps.refl w).drew | exact ((Keeps.refl w).alloc _).drew | (refine Keeps.alloc ?_ _; assumption) | (refine Keeps.drew ?_; assumption) | (refine Keeps.drew ?_; refine Keeps.alloc ?_ _; assumption)
         subst hw4)
      | (go_at_call 123
         have hc := CH.out
         with_reducible refine (hc _).mono ?_
         clear hc
         rintro e w5 ⟨rfl, hk⟩
         try (have hcw := conv_late (hk.cellsAt (((Keeps.refl (S := No) (w.alloc (.cells #[.int .u8 b] 5))).drew).cellsAt (cellsAt_new w b)))
              rw [← HX2.out] at hcw)
         try (have hcw := conv_late (hk.cellsAt (((Keeps.refl (S := No) (w.alloc (.cells #[.int .u8 b] 5))).drew.drew).cellsAt (cellsAt_new w b)))
              rw [← HX2.out] at hcw)
         try (have hcw := conv_late (hk.cellsAt (((Keeps.refl (S := No) (w.drew.alloc (.cells #[.int .u8 b] 5)))).cellsAt (cellsAt_new w.drew b)))
              rw [← HX2.out] at hcw)
         try (have hcw := conv_late (hk.cellsAt (((Keeps.refl (S := No) (w.drew.alloc (.cells #[.int .u8 b] 5))).drew).cellsAt (cellsAt_new w.drew b)))
              rw [← HX2.out] at hcw)
         have hS1 : Keeps No w w5 := Keeps.trans (by first | assumption | exact Keeps.refl w | exact (Keeps.refl w).drew | exact ((Keeps.refl w).alloc _).drew | (refine Keeps.alloc ?_ _; assumption) | (refine Keeps.drew ?_; assumption) | (refine Keeps.drew ?_; refine Keeps.alloc ?_ _; assumption)) hk (fun _ _ h => h)))
  all_goals go_wp2
  all_goals go_ret
  all_goals exact ⟨by rw [HX.out]; rfl, by first | assumption | (refine Keeps.alloc ?_ _; assumption)⟩
theorem rint_any (w : World) (n : Int) (hn : i64 n) : Calls Tryz.prog 53 #[.int .i64 n] w fun e w' => e = .returned (strB (layI n)) ∧ Keeps No w w' := by
  by_cases h : n < 0
  · exact rint_neg w n hn h
  · exact rint_pos w n hn h
end Go.Proofs.YtpbpgjfdledgoaaGreatDoor
