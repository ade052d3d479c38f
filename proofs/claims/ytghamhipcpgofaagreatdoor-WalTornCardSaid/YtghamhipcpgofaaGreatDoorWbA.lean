/-
  The document's frames and the names of its segments: hedgerowref05.Sum, high, Frame, hedgerowref07.digits, File. No conditions of their own.
-/
import Derived.Test.YtghamhipcpgofaaGreatDoorWaS
import Derived.BigQuiet
namespace Go.Proofs.YtghamhipcpgofaaGreatDoor
open Go.RowKit Go.Joins Go.Deep

/-! ### the sum, bit by bit -/
def bits8 : Nat → Nat → Nat
  | 0, c => c
  | k + 1, c => bits8 k (bstep c)
theorem bits8_succ : ∀ (k c : Nat), bits8 (k + 1) c = bstep (bits8 k c)
  | 0, _ => rfl
  | k + 1, c => by rw [bits8, bits8_succ k]; rfl
theorem bits8_byte (c x : Nat) : bits8 8 (c ^^^ x) = byteStep c x := by
  unfold byteStep
  rw [← eight_bits]
  rfl
theorem bstep_lt {c : Nat} (h : c < 2 ^ 32) : bstep c < 2 ^ 32 := by
  unfold bstep
  cases c % 2 == 1
  · show c / 2 < _; omega
  · exact Nat.xor_lt_two_pow (by omega) (by decide)
theorem bits8_lt : ∀ (k : Nat) {c : Nat}, c < 2 ^ 32 → bits8 k c < 2 ^ 32
  | 0, _, h => h
  | k + 1, _, h => bits8_lt k (bstep_lt h)
theorem odd_spelled (Q : Nat) (hQ : Q < 2 ^ 32) : (Q % 2 = 1 ∧ ∃ Y, Y = bstep Q ∧ bits .xor .u32 ((Q : Int) / 2) 3988292384 = (Y : Int)) ∨ (Q % 2 = 0 ∧ ∃ Y, Y = bstep Q ∧ (Q : Int) / 2 = (Y : Int)) := by
  rcases Nat.mod_two_eq_zero_or_one Q with h | h
  · refine .inr ⟨h, _, rfl, ?_⟩
    unfold bstep
    rw [h]
    show _ = ((Q / 2 : Nat) : Int)
    omega
  · refine .inl ⟨h, _, rfl, ?_⟩
    have := u32_xor_nat (Q / 2) 3988292384 (by omega) (by omega)
    rw [show ((Q : Int) / 2) = ((Q / 2 : Nat) : Int) by omega]
    unfold bstep
    rw [h]
    exact this

set_option maxRecDepth 100000 in
set_option maxHeartbeats 1000000 in
theorem rsum_any (w : World) (s : ByteArray) (hs : (s.size : Int) ≤ 9223372036854775806) : Calls Tryz.prog 34 #[.string s] w fun e w' => e = .returned (.int .u32 (sumB s.data.toList)) ∧ w' = w := by
  go_enter Tryz.func34, Tryz.ntmps34
  go_wp2
  go_loop [3, 4] (fun c i => ∃ j : Nat, j ≤ s.size ∧ i = .int .i64 j ∧ c = .int .u32 (reg (s.data.toList.take j) 4294967295)) (fun _ i => s.size - (intOf i).toNat)
  case atStart => exact ⟨0, Nat.zero_le _, rfl, rfl⟩
  case round =>
    obtain ⟨j, hj, rfl, rfl⟩ := hrel
    have hR2 := reg_lt (s.data.toList.take j) (c := 4294967295) (by decide)
    by_cases hjl : j < s.size
    · have hts := take_byte s j hjl
      obtain ⟨Q, hQ⟩ : ∃ Q, Q = reg (s.data.toList.take j) 4294967295 := ⟨_, rfl⟩
      have HQ := Lib.hid hQ
      rw [← hQ] at hR2
      have hbz := s[j].toNat_lt
      obtain ⟨bt, hbt⟩ : ∃ bt, bt = s[j] := ⟨_, rfl⟩
      have hidx : s[j]'hjl = bt := hbt.symm
      rw [← hbt] at hbz hts
      obtain ⟨X, hX, hXl, e1, e0⟩ := byte_spelled Q bt.toNat hR2 hbz
      have HZ : Hid (bits8 8 X = reg (s.data.toList.take (j + 1)) 4294967295) := by rw [hts, reg_snoc, ← hQ, hX, bits8_byte]; exact Lib.hid rfl
      have h0 : (0 : Int) ≤ (j : Int) := by omega
      have h1 : (j : Int) < (s.size : Int) := by omega
      have h2 : (j : Int) + 1 ≤ 9223372036854775807 := by omega
      rw [← hQ]
      clear hQ hX hts hbt
      go_wp2
      go_loop [3, 5] (fun c k => ∃ m : Nat, m ≤ 8 ∧ k = .int .i64 m ∧ c = .int .u32 (bits8 m X)) (fun _ k => 8 - (intOf k).toNat)
      case atStart => exact ⟨0, Nat.zero_le _, rfl, rfl⟩
      case round =>
        obtain ⟨m, hm, rfl, rfl⟩ := hrel
        have hl := bits8_lt m hXl
        by_cases hm8 : m < 8
        · have Hsc := Lib.hid (bits8_succ m X)
          obtain ⟨Y, hY⟩ : ∃ Y, Y = bits8 m X := ⟨_, rfl⟩
          rw [← hY] at hl Hsc
          rw [← hY]
          have h3 : (m : Int) < 8 := by omega
          rcases odd_spelled Y hl with ⟨ho, Z, hZ, e2⟩ | ⟨ho, Z, hZ, e2⟩
          · have e3 : (Y : Int) % 2 = 1 := by omega
            have HZ2 : Hid (Z = bits8 (m + 1) X) := Lib.hid (by rw [Hsc.out, hZ])
            clear hZ hY
            go_wp2
            go_round
            case rel => exact ⟨m + 1, by omega, by go_num, by rw [← HZ2.out]⟩
            case measure => simp [intOf]; omega
          · have e3 : (Y : Int) % 2 = 0 := by omega
            have HZ2 : Hid (Z = bits8 (m + 1) X) := Lib.hid (by rw [Hsc.out, hZ])
            clear hZ hY
            go_wp2
            go_round
            case rel => exact ⟨m + 1, by omega, by go_num, by rw [← HZ2.out]⟩
            case measure => simp [intOf]; omega
        · obtain rfl : m = 8 := by omega
          rw [HZ.out] at hl ⊢
          go_wp2
          go_round
          case rel => exact ⟨j + 1, by omega, by go_num, rfl⟩
          case measure => simp [intOf]; omega
    · obtain rfl : j = s.size := by omega
      have ht : s.data.toList.take s.size = s.data.toList := List.take_of_length_le (by simp)
      rw [ht] at hR2 ⊢
      obtain ⟨R, hRe⟩ : ∃ R, R = reg s.data.toList 4294967295 := ⟨_, rfl⟩
      have HR : Hid ((sumB s.data.toList : Int) = 4294967295 - (R : Int)) := by rw [hRe]; unfold sumB; exact Lib.hid (by omega)
      rw [← hRe] at hR2 ⊢
      clear hRe
      go_wp2
      go_ret
      exact ⟨by rw [HR.out]; rfl, rfl⟩

/-! ### numbers in so many bytes -/
def hgh : Nat → Nat → Nm
  | 0, _ => []
  | k + 1, n => hgh k (n / 256) ++ [UInt8.ofNat n]
theorem hgh_length : ∀ (k n : Nat), (hgh k n).length = k
  | 0, _ => rfl
  | k + 1, n => by unfold hgh; rw [List.length_append, hgh_length k]; rfl
theorem hgh3 (n : Nat) : hgh 3 n = be3 n := by
  unfold be3
  simp only [hgh, List.nil_append, List.cons_append, List.cons.injEq, and_true]
  rw [Nat.div_div_eq_div_mul]
theorem hgh4 (n : Nat) : hgh 4 n = be4 n := by
  unfold be4
  simp only [hgh, List.nil_append, List.cons_append, List.cons.injEq, and_true]
  simp only [Nat.div_div_eq_div_mul, Nat.reduceMul, and_self]
theorem conv_one (W : World) (g : Nat) (b : Nat) (c : Nat) (h : cellsAt W g 0 1 = some [.int .u8 ((b % 256 : Nat) : Int)]) : (convert 40 9 (.slice (some ⟨g, 0, none⟩) 1 c)).run Tryz.prog W = .ok (.string ⟨#[UInt8.ofNat b]⟩) W := by
  rw [run_convert_bytes_string _ _ _ _ _ _ _ Tryz.underlying40 Tryz.underlying5 Tryz.underlying9,
    run_bytesToString _ _ _ _ [((b % 256 : Nat) : Int)] ?_, push_fold]
  · have e : UInt8.ofNat (b % 256) = UInt8.ofNat b := by apply UInt8.toNat_inj.1; rw [UInt8.toNat_ofNat', UInt8.toNat_ofNat']; omega
    show Result.ok (Value.string ⟨([UInt8.ofNat (Int.toNat ((b % 256 : Nat) : Int))]).toArray⟩) W = _
    rw [Int.toNat_natCast, e]
  · show (loadWhole _ _).run Tryz.prog _ = _
    rw [run_loadWhole, h]
    rfl
set_option maxRecDepth 100000 in
set_option maxHeartbeats 1000000 in
theorem high_any (k : Nat) : ∀ (n : Nat) (ki : Int) (w : World), ki = (k : Int) → k ≤ 8 → (n : Int) ≤ 9223372036854775807 → Calls Tryz.prog 33 #[.int .i64 n, .int .i64 ki] w fun e w' => e = .returned (.string ⟨(hgh k n).toArray⟩) ∧ Keeps No w w' := by
  induction k with
  | zero =>
    intro n ki w hki _ _
    have hz : ki = 0 := hki
    subst hz
    clear hki
    go_enter Tryz.func33, Tryz.ntmps33
    go_wp2_with fail
    go_ret
    exact ⟨rfl, Keeps.refl _⟩
  | succ k ih =>
    intro n ki w hki hk8 hn
    have hne : ¬ ki = 0 := by omega
    have hkm : ki - 1 = (k : Int) := by omega
    have hb1 : (1 : Int) ≤ ki := by omega
    have hb2 : ki ≤ 8 := by omega
    have h0 : (0 : Int) ≤ (n : Int) := by omega
    obtain ⟨q, hq, hqe⟩ : ∃ q : Nat, (n : Int) / 256 = (q : Int) ∧ q = n / 256 := ⟨n / 256, by omega, rfl⟩
    obtain ⟨b, hb, hbe⟩ : ∃ b : Nat, (n : Int) % 256 = (b : Int) ∧ b = n % 256 := ⟨n % 256, by omega, rfl⟩
    have hbm : (b : Int) % 256 = (b : Int) := by omega
    have htm : (n : Int).tmod 256 = (b : Int) := by rw [Int.tmod_eq_emod_of_nonneg h0, hb]
    have hbw : IntKind.u8.wrap (b : Int) = (b : Int) := by rw [IntKind.wrap_u8]; exact hbm
    have hqw : IntKind.i64.wrap (q : Int) = (q : Int) := by rw [IntKind.wrap_i64]; omega
    have hkw : IntKind.i64.wrap (k : Int) = (k : Int) := by rw [IntKind.wrap_i64]; omega
    obtain ⟨H, hH⟩ : ∃ H : ByteArray, H = ⟨(hgh k q).toArray⟩ := ⟨_, rfl⟩
    obtain ⟨T, hT⟩ : ∃ H : ByteArray, H = ⟨#[UInt8.ofNat n]⟩ := ⟨_, rfl⟩
    have hcv : ∀ (W : World) (g : Nat), cellsAt W g 0 1 = some [.int .u8 (b : Int)] → (convert 40 9 (.slice (some ⟨g, 0, none⟩) 1 1)).run Tryz.prog W = .ok (.string T) W := fun W g h => by
      rw [hT]
      refine conv_one W g n 1 ?_
      rw [h, hbe]
    have hHl : H.size = k := by rw [hH]; show (hgh k q).toArray.size = k; rw [List.size_toArray, hgh_length]
    have hTl : T.size = 1 := by rw [hT]; rfl
    have hcat : ∀ W : World, (Op.stringOp .add H T).run Tryz.prog W = .ok (.string (H ++ T)) W := fun W => run_string_add_sum W _ _ (by omega)
    have hcc0 : cellsAt (w.alloc (.cells #[.int .u8 (b : Int)] 5)).drew w.heap.size 0 1 = some [.int .u8 (b : Int)] := by simp [go_sem]
    have HH := Lib.hid hH
    have Hres : Hid ((H ++ T) = ⟨(hgh (k + 1) n).toArray⟩) := by
      refine Lib.hid (bytes_of ?_)
      rw [hH, hT, hgh, hqe]
      simp [ByteArray.data_append]
    have Hih := Lib.hid (fun W => ih q (k : Int) W rfl (by omega) (by omega))
    clear hki ih hqe hbe hH hT hHl hTl hk8
    go_enter Tryz.func33, Tryz.ntmps33
    go_wp2_with fail
    go_region_with (go_at_call 33; refine (Hih.out _).mono ?_; rintro e w1 ⟨rfl, hk1⟩; rw [← HH.out]; (try have hcc := hk1.cellsAt hcc0); have K1 := Lib.hid hk1; clear hk1)
    all_goals
      go_wp2
      rw [Hres.out]
      go_ret
      exact ⟨rfl, by first | exact (((Keeps.refl w).alloc _).drew).trans K1.out (fun _ _ h => h) | exact (((Keeps.refl w).drew).trans K1.out (fun _ _ h => h)).alloc _⟩

theorem bts1 (t : Nm) : (frameB (toB t)).size = t.length + 7 := frameB_size t
set_option maxRecDepth 100000 in
set_option maxHeartbeats 1000000 in
/-- the document's frame -/
theorem rframe_any (w : World) (s : ByteArray) (hs : (s.size : Int) ≤ 65536) : Calls Tryz.prog 13 #[.string s] w fun e w' => e = .returned (.tuple #[.string (frameB s), .int .i64 0]) ∧ Keeps No w w' := by
  have hd : decide ((65536 : Int) < (s.size : Int)) = false := decide_eq_false (by omega)
  obtain ⟨H, hH⟩ : ∃ H : ByteArray, H = ⟨(be3 s.size).toArray⟩ := ⟨_, rfl⟩
  have hHl : H.size = 3 := by rw [hH]; rfl
  have hcat : ∀ W : World, (Op.stringOp .add H s).run Tryz.prog W = .ok (.string (H ++ s)) W := fun W => run_string_add_sum W _ _ (by omega)
  obtain ⟨C, hC⟩ : ∃ C : Nat, C = sumB (H ++ s).data.toList := ⟨_, rfl⟩
  obtain ⟨T, hT⟩ : ∃ T : ByteArray, T = ⟨(be4 C).toArray⟩ := ⟨_, rfl⟩
  have hTl : T.size = 4 := by rw [hT]; rfl
  have hHs : (H ++ s).size = 3 + s.size := by rw [ByteArray.size_append]; omega
  have hcat2 : ∀ W : World, (Op.stringOp .add (H ++ s) T).run Tryz.prog W = .ok (.string (H ++ s ++ T)) W := fun W => run_string_add_sum W _ _ (by omega)
  have Hres : Hid ((H ++ s ++ T) = frameB s) := by
    refine Lib.hid (bytes_of ?_)
    have e2 : s.data.toList.length = s.size := by simp
    rw [hT, hC]
    unfold frameB frameL
    rw [e2]
    simp [ByteArray.data_append, hH]
  have hCl : (C : Int) < 4294967296 := by rw [hC]; have := sumB_lt (H ++ s).data.toList; omega
  have hC0 : (0 : Int) ≤ (C : Int) := by omega
  have HH := Lib.hid hH
  have HT := Lib.hid hT
  have HC := Lib.hid hC
  have hsm : ((H ++ s).size : Int) ≤ 9223372036854775806 := by omega
  obtain ⟨U, hU⟩ : ∃ U : ByteArray, H ++ s = U := ⟨_, rfl⟩
  rw [hU] at Hres HC hsm hcat2
  have hcat' : ∀ W : World, (Op.stringOp .add H s).run Tryz.prog W = .ok (.string U) W := fun W => by rw [hcat W, hU]
  clear hH hHl hTl hT hC hHs hcat hU
  go_enter Tryz.func13, Tryz.ntmps13
  go_wp2_with fail
  refine (high_any 3 s.size 3 _ rfl (by omega) (by omega)).mono ?_
  rintro e w1 ⟨rfl, hk1⟩
  rw [hgh3, ← HH.out]
  have K1 := Lib.hid hk1
  clear hk1
  go_wp2_with fail
  refine (rsum_any _ U hsm).mono ?_
  rintro e w2 ⟨rfl, rfl⟩
  rw [← HC.out]
  go_wp2_with fail
  refine (high_any 4 C 4 _ rfl (by omega) (by omega)).mono ?_
  rintro e w2 ⟨rfl, hk2⟩
  rw [hgh4, ← HT.out]
  have K2 : Hid (Keeps No w w2) := K1.out.trans hk2 (fun _ _ h => h)
  clear hk2
  go_wp2
  rw [Hres.out]
  go_ret2
  exact ⟨rfl, K2.out⟩

/-! ### the names of segments -/
theorem digit_cut (j : Nat) (h : j < 10) : (⟨#[48, 49, 50, 51, 52, 53, 54, 55, 56, 57]⟩ : ByteArray).extract j (j + 1) = ⟨#[UInt8.ofNat (48 + j)]⟩ := by
  have : ∀ j : Fin 10, (⟨#[48, 49, 50, 51, 52, 53, 54, 55, 56, 57]⟩ : ByteArray).extract j.1 (j.1 + 1) = ⟨#[UInt8.ofNat (48 + j.1)]⟩ := by decide
  exact this ⟨j, h⟩
set_option maxRecDepth 100000 in
set_option maxHeartbeats 1000000 in
theorem digits_any (k : Nat) : ∀ (n : Nat) (ki : Int) (w : World), ki = (k : Int) → k ≤ 8 → (n : Int) ≤ 9223372036854775807 → Calls Tryz.prog 36 #[.int .i64 n, .int .i64 ki] w fun e w' => e = .returned (.string ⟨(dgs k n).toArray⟩) ∧ ∃ m, w' = w.drewN m := by
  induction k with
  | zero =>
    intro n ki w hki _ _
    have hz : ki = 0 := hki
    subst hz
    clear hki
    go_enter Tryz.func36, Tryz.ntmps36
    go_wp2_with fail
    go_ret
    exact ⟨rfl, 0, rfl⟩
  | succ k ih =>
    intro n ki w hki hk8 hn
    have hne : ¬ ki = 0 := by omega
    have hkm : ki - 1 = (k : Int) := by omega
    have hb1 : (1 : Int) ≤ ki := by omega
    have hb2 : ki ≤ 8 := by omega
    have h0 : (0 : Int) ≤ (n : Int) := by omega
    obtain ⟨q, hq, hqe⟩ : ∃ q : Nat, (n : Int) / 10 = (q : Int) ∧ q = n / 10 := ⟨n / 10, by omega, rfl⟩
    obtain ⟨b, hb, hbe⟩ : ∃ b : Nat, (n : Int) % 10 = (b : Int) ∧ b = n % 10 := ⟨n % 10, by omega, rfl⟩
    have htm : (n : Int).tmod 10 = (b : Int) := by rw [Int.tmod_eq_emod_of_nonneg h0, hb]
    have htd : (n : Int).tdiv 10 = (q : Int) := by rw [Int.tdiv_eq_ediv_of_nonneg h0, hq]
    have hqw : IntKind.i64.wrap (q : Int) = (q : Int) := by rw [IntKind.wrap_i64]; omega
    have hkw : IntKind.i64.wrap (k : Int) = (k : Int) := by rw [IntKind.wrap_i64]; omega
    have hbw : IntKind.i64.wrap ((b : Int) + 1) = (b : Int) + 1 := by rw [IntKind.wrap_i64]; omega
    have hb0 : (0 : Int) ≤ (b : Int) := by omega
    have hb9 : (b : Int) + 1 ≤ 10 := by omega
    have hbl : b < 10 := by omega
    have hbn : b + 1 ≤ 10 := by omega
    have hbd1 : (b : Int) ≤ (b : Int) + 1 := by omega
    have hcut := digit_cut b hbl
    obtain ⟨H, hH⟩ : ∃ H : ByteArray, H = ⟨(dgs k q).toArray⟩ := ⟨_, rfl⟩
    obtain ⟨T, hT⟩ : ∃ H : ByteArray, H = ⟨#[UInt8.ofNat (48 + b)]⟩ := ⟨_, rfl⟩
    rw [← hT] at hcut
    have hHl : H.size = k := by rw [hH]; show (dgs k q).toArray.size = k; rw [List.size_toArray, dgs_length]
    have hTl : T.size = 1 := by rw [hT]; rfl
    have hcat : ∀ W : World, (Op.stringOp .add H T).run Tryz.prog W = .ok (.string (H ++ T)) W := fun W => run_string_add_sum W _ _ (by omega)
    have HH := Lib.hid hH
    have Hres : Hid ((H ++ T) = ⟨(dgs (k + 1) n).toArray⟩) := by
      refine Lib.hid (bytes_of ?_)
      rw [hH, hT, dgs, hqe, hbe]
      simp [ByteArray.data_append]
    have Hih : Hid (∀ W, Calls Tryz.prog 36 #[.int .i64 q, .int .i64 k] W fun e w' => e = .returned (.string H) ∧ ∃ m, w' = W.drewN m) := Lib.hid (fun W => by rw [hH]; exact ih q (k : Int) W rfl (by omega) (by omega))
    clear hki ih hqe hbe hH hT hHl hTl hk8
    go_enter Tryz.func36, Tryz.ntmps36
    go_wp2_with fail
    go_quiet (first | (go_at_call 36; with_reducible exact Calls.quiet_of (Hih.out _)))
    go_wp2
    rw [Hres.out]
    go_ret
    exact ⟨rfl, _, rfl⟩

set_option maxRecDepth 100000 in
theorem rfile_any (w : World) (nm : ByteArray) (hnm : nm.size ≤ 100) (n : Nat) (hn : n < 100000000) : Calls Tryz.prog 15 #[.string nm, .int .i64 n] w fun e w' => e = .returned (.string (fileNm nm n)) ∧ ∃ m, w' = w.drewN m := by
  obtain ⟨D, hD⟩ : ∃ D : ByteArray, D = ⟨(dgs 8 n).toArray⟩ := ⟨_, rfl⟩
  have hDl : D.size = 8 := by rw [hD]; show (dgs 8 n).toArray.size = 8; rw [List.size_toArray, dgs_length]
  have hcat : ∀ W : World, (Op.stringOp .add nm ⟨#[46]⟩).run Tryz.prog W = .ok (.string (nm ++ ⟨#[46]⟩)) W := fun W => run_string_add_sum W _ _ (by have : (⟨#[46]⟩ : ByteArray).size = 1 := rfl; omega)
  have hHs : (nm ++ ⟨#[46]⟩).size = nm.size + 1 := by rw [ByteArray.size_append]; rfl
  have hcat2 : ∀ W : World, (Op.stringOp .add (nm ++ ⟨#[46]⟩) D).run Tryz.prog W = .ok (.string (nm ++ ⟨#[46]⟩ ++ D)) W := fun W => run_string_add_sum W _ _ (by omega)
  have Hres : Hid ((nm ++ ⟨#[46]⟩ ++ D) = fileNm nm n) := by
    refine Lib.hid (bytes_of ?_)
    show _ = (segNm nm.data.toList n).toArray.toList
    rw [segNm_dgs _ hn, hD]
    simp [ByteArray.data_append]
  obtain ⟨U, hU⟩ : ∃ U : ByteArray, nm ++ ⟨#[46]⟩ = U := ⟨_, rfl⟩
  rw [hU] at Hres hcat2
  have hcat' : ∀ W : World, (Op.stringOp .add nm ⟨#[46]⟩).run Tryz.prog W = .ok (.string U) W := fun W => by rw [hcat W, hU]
  have HD := Lib.hid hD
  clear hcat hHs hDl hD hU
  go_enter Tryz.func15, Tryz.ntmps15
  go_wp2_with fail
  refine (digits_any 8 n 8 _ rfl (by omega) (by omega)).mono ?_
  rintro e w1 ⟨rfl, m, rfl⟩
  rw [← HD.out]
  go_wp2
  rw [Hres.out]
  go_ret
  exact ⟨rfl, _, rfl⟩
end Go.Proofs.YtghamhipcpgofaaGreatDoor
