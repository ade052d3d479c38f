/-
  frame.Sum, head, tail, Frame, First, All. No conditions of their own, but that the table of sums is laid.
-/
import Derived.Test.YtndjnkjcfdaegaaGreatDoorZh02
import Derived.Deep.RegionHeld3
import Derived.Shelf.Strconv.Itoa3
set_option linter.all false
namespace Go.Proofs.YtndjnkjcfdaegaaGreatDoor
open Go.RowKit

/-- the tables that are laid, below a block -/
structure Laid (w : World) (base : Nat) : Prop where
  nib : ∀ i, i < 16 → w.cell? ⟨0, i, none⟩ = some (.int .u32 (nib i))
  pow : Lib.TabIs Tryz.prog w "internal/strconv.uint64pow10" .u64 Lib.pow10Tab
  l1 : 0 < base
  l2 : 5 < base

/-- texts, one behind the other -/
def bytesOf (l : List ByteArray) : Nm := l.flatMap (·.data.toList)
theorem bytesOf_take (l : List ByteArray) (k : Nat) (h : k < l.length) : bytesOf (l.take (k + 1)) = bytesOf (l.take k) ++ l[k].data.toList := by
  unfold bytesOf
  rw [List.take_succ_eq_append_getElem h, List.flatMap_append]
  simp
theorem take_byte (s : ByteArray) (k : Nat) (h : k < s.size) : s.data.toList.take (k + 1) = s.data.toList.take k ++ [s[k]] := by
  rw [List.take_succ_eq_append_getElem (by simpa using h)]; rfl

/-- one look into the table, as the walk spells it -/
theorem step_spelled (X : Nat) (hX : X < 2 ^ 32) : ∃ A N Y : Nat, A < 16 ∧ N = nib A ∧ Y = nibStep X ∧ Y < 2 ^ 32 ∧ bits .and .u32 (X : Int) 15 = (A : Int) ∧ bits .xor .u32 ((X : Int) / 16) (N : Int) = (Y : Int) := by
  refine ⟨X % 16, nib (X % 16), nibStep X, by omega, rfl, rfl, nibStep_lt hX, ?_, ?_⟩
  · have := u32_and_nat X 15 (by omega) (by omega)
    rw [show ((15 : Nat) : Int) = 15 from rfl] at this
    rw [this]
    have e : X &&& 15 = X % 16 := Nat.and_two_pow_sub_one_eq_mod X 4
    rw [e]
  · have h := nib_lt (X % 16)
    have := u32_xor_nat (X / 16) (nib (X % 16)) (by omega) (by omega)
    rw [show ((X : Int) / 16) = ((X / 16 : Nat) : Int) by omega, this]
    rfl
theorem byte_spelled (Q b : Nat) (hQ : Q < 2 ^ 32) (hb : b < 256) : ∃ X, X = Q ^^^ b ∧ X < 2 ^ 32 ∧ bits .xor .u32 (Q : Int) (b : Int) = (X : Int) ∧ ((b : Int) % 4294967296) = (b : Int) :=
  ⟨_, rfl, Nat.xor_lt_two_pow hQ (by omega), u32_xor_nat Q b (by omega) (by omega), by omega⟩
theorem not_spelled (R : Nat) (hR : R < 2 ^ 32) : bits .xor .u32 IntKind.u32.max (R : Int) = 4294967295 - (R : Int) := by
  have h := u32_xor_nat 4294967295 R (by omega) (by omega)
  have e : (4294967295 ^^^ R : Nat) = 4294967295 - R := by
    have h2 : (BitVec.allOnes 32 ^^^ BitVec.ofNat 32 R).toNat = (~~~(BitVec.ofNat 32 R)).toNat := by rw [BitVec.allOnes_xor]
    rw [BitVec.toNat_xor, BitVec.toNat_not, BitVec.toNat_ofNat, Nat.mod_eq_of_lt hR] at h2
    exact h2
  rw [e] at h
  rw [show ((4294967295 : Nat) : Int) = IntKind.u32.max from rfl] at h
  rw [h]
  omega

theorem Laid.kept {S : Nat → Prop} {w w' : World} {base : Nat} (h : Laid w base) (k : Keeps S w w') (hS : ∀ i, S i → base ≤ i) : Laid w' base :=
  ⟨fun i hi => k.cell (h.nib i hi) (fun hs => by have := hS _ hs; have := h.l1; simp at *; omega), by
    have hp := h.pow
    have hg : Tryz.prog.globalNamed "internal/strconv.uint64pow10" = some 5 := by kernel_rfl
    unfold Lib.TabIs World.var? at hp ⊢
    rw [hg] at hp ⊢
    simp only [Option.bind_some] at hp ⊢
    have hlt : 5 < w.heap.size := by
      split at hp
      · rename_i hh
        exact (Array.getElem?_eq_some_iff.1 hh).1
      · cases hp
    rw [k.block _ hlt (fun hs => by have := hS _ hs; have := h.l2; omega)]
    exact hp, h.l1, h.l2⟩

set_option maxRecDepth 100000 in
set_option maxHeartbeats 1000000 in
theorem sum_any (w : World) (base : Nat) (hL : Laid w base) (v : Value) (l : List ByteArray) (hv : Reads w 1 v l.length (l.map .string)) (hs : ∀ s ∈ l, s.size ≤ 9223372036854775807) : Calls Tryz.prog 145 #[v] w fun e w' => e = .returned (.int .u32 (sumB (bytesOf l))) ∧ w' = w := by
  obtain ⟨va, vc, rfl⟩ := hv.slice
  have hnib := Lib.hid hL.nib
  have Hs := Lib.hid hs
  have hlen : Hid ((l.length : Int) ≤ 9223372036854775807) := by
    rcases hv.shape with ⟨_, h0⟩ | ⟨_, c', he, h1, h2, _⟩
    · exact Lib.hid (by omega)
    · unfold maxLen at h2; exact Lib.hid (by omega)
  have Hv := Lib.hid hv
  clear hL hs hv
  go_enter Tryz.func145, Tryz.ntmps145
  go_wp2
  go_loop [3, 9] (fun c i => ∃ k : Nat, k ≤ l.length ∧ i = .int .i64 k ∧ c = .int .u32 (reg (bytesOf (l.take k)) 4294967295)) (fun _ i => l.length - (intOf i).toNat)
  case atStart => exact ⟨0, Nat.zero_le _, rfl, rfl⟩
  case round =>
    obtain ⟨k, hk, rfl, rfl⟩ := hrel
    have hR := reg_lt (bytesOf (l.take k)) (c := 4294967295) (by decide)
    by_cases hlt : k < l.length
    · obtain ⟨b, off, c', he, _, _, _, hx⟩ := Hv.out.addr (by simpa using (show 0 < l.length by omega))
      simp only [Value.slice.injEq, true_and] at he
      obtain ⟨rfl, rfl⟩ := he
      have hc := hx k (.string l[k]) (by simp [hlt])
      have hsz := Hs.out l[k] (List.getElem_mem hlt)
      have hstep := Lib.hid (bytesOf_take l k hlt)
      obtain ⟨s, hse⟩ : ∃ s, s = l[k] := ⟨_, rfl⟩
      rw [← hse] at hc hsz hstep
      clear hse hx
      obtain ⟨R, hRe⟩ : ∃ R, R = reg (bytesOf (l.take k)) 4294967295 := ⟨_, rfl⟩
      rw [← hRe] at hR ⊢
      have HRe := Lib.hid hRe
      clear hRe
      have hki : (k : Int) < (l.length : Int) := by omega
      have hk0 : (0 : Int) ≤ (k : Int) := by omega
      have hk2 : (k : Int) + 1 ≤ 9223372036854775807 := by have := hlen.out; omega
      go_wp2
      go_loop [3, 6] (fun c i => ∃ j : Nat, j ≤ s.size ∧ i = .int .i64 j ∧ c = .int .u32 (reg (s.data.toList.take j) R)) (fun _ i => s.size - (intOf i).toNat)
      case atStart => exact ⟨0, Nat.zero_le _, rfl, rfl⟩
      case round =>
        obtain ⟨j, hj, rfl, rfl⟩ := hrel
        by_cases hjl : j < s.size
        · have hts := take_byte s j hjl
          have hR2 := reg_lt (s.data.toList.take j) (c := R) hR
          obtain ⟨Q, hQ⟩ : ∃ Q, Q = reg (s.data.toList.take j) R := ⟨_, rfl⟩
          have HQ := Lib.hid hQ
          rw [← hQ] at hR2
          have hbz := s[j].toNat_lt
          obtain ⟨bt, hbt⟩ : ∃ bt, bt = s[j] := ⟨_, rfl⟩
          have hidx : s[j]'hjl = bt := hbt.symm
          rw [← hbt] at hbz hts
          obtain ⟨X, hX, hXl, e1, e0⟩ := byte_spelled Q bt.toNat hR2 hbz
          obtain ⟨A, N, Y, hA, hN, hY, hYl, e2, e3⟩ := step_spelled X hXl
          obtain ⟨A2, N2, Z, hA2, hN2, hZ, hZl, e4, e5⟩ := step_spelled Y hYl
          have c1 := hnib.out A hA
          have c2 := hnib.out A2 hA2
          rw [← hN] at c1
          rw [← hN2] at c2
          have HZ : Hid (Z = reg (s.data.toList.take (j + 1)) R) := by rw [hts, reg_snoc, ← hQ, hZ, hY, hX]; exact Lib.hid rfl
          have i1 : (A : Int) < 16 := by omega
          have i2 : (A2 : Int) < 16 := by omega
          have i3 : (0 : Int) ≤ (A : Int) := by omega
          have i4 : (0 : Int) ≤ (A2 : Int) := by omega
          rw [← hQ]
          clear hQ hX hN hY hN2 hZ hts hbt
          go_wp2
          go_round
          case rel => exact ⟨j + 1, by omega, by go_num, by rw [← HZ.out]⟩
          case measure => simp [intOf]; omega
        · obtain rfl : j = s.size := by omega
          go_wp2
          go_round
          case rel =>
            refine ⟨k + 1, by omega, by go_num, ?_⟩
            rw [hstep.out, reg_append, ← HRe.out, List.take_of_length_le (by simp)]
          case measure => simp [intOf]; omega
    · obtain rfl : k = l.length := by omega
      rw [List.take_length] at hR ⊢
      obtain ⟨R, hRe⟩ : ∃ R, R = reg (bytesOf l) 4294967295 := ⟨_, rfl⟩
      have HR : Hid ((sumB (bytesOf l) : Int) = 4294967295 - (R : Int)) := by rw [hRe]; unfold sumB; exact Lib.hid (by omega)
      rw [← hRe] at hR ⊢
      have e1 := not_spelled R hR
      clear hRe
      go_wp2
      go_ret
      exact ⟨by rw [HR.out]; rfl, rfl⟩

theorem push_fold : ∀ (ns : List Int) (r : ByteArray), ns.foldl (fun r n => r.push (UInt8.ofNat n.toNat)) r = ⟨(r.data.toList ++ ns.map fun n => UInt8.ofNat n.toNat).toArray⟩
  | [], r => by simp
  | n :: ns, r => by
    rw [List.foldl_cons, push_fold ns]
    simp [ByteArray.data_push]
/-- a new row of bytes, as a string -/
theorem conv_new (w : World) (ns : List Int) (n c : Nat) (hn : n = ns.length) (h0 : 0 < n) : (convert 163 9 (.slice (some ⟨w.heap.size, 0, none⟩) n c)).run Tryz.prog (w.alloc (.cells (ns.map (Value.int .u8)).toArray 5)) =
    .ok (.string ⟨(ns.map fun n => UInt8.ofNat n.toNat).toArray⟩) (w.alloc (.cells (ns.map (Value.int .u8)).toArray 5)) := by
  subst hn
  rw [run_convert_bytes_string _ _ _ _ _ _ _ Tryz.underlying163 Tryz.underlying5 Tryz.underlying9,
    run_bytesToString _ _ _ _ ns ?_, push_fold]
  · rfl
  · show (loadWhole _ _).run Tryz.prog _ = _
    rw [run_loadWhole, cellsAt_alloc_at _ _ _ _ _ _ rfl, if_pos (by simp)]
    simp [List.take_of_length_le]

set_option maxRecDepth 100000 in
theorem head_any (w : World) (n : Nat) (hn : (n : Int) ≤ 9223372036854775807) : Calls Tryz.prog 200 #[.int .i64 n] w fun e w' => e = .returned (.string ⟨(be3 n).toArray⟩) ∧ Keeps No w w' := by
  have h0 : (0 : Int) ≤ (n : Int) := by omega
  have hc := conv_new w [(n : Int) / 65536 % 256, (n : Int) / 256 % 256, (n : Int) % 256] 3 3 rfl (by omega)
  have e : ([(n : Int) / 65536 % 256, (n : Int) / 256 % 256, (n : Int) % 256].map fun n => UInt8.ofNat n.toNat) = be3 n := by
    simp only [List.map_cons, List.map_nil, be3, List.cons.injEq, and_true]
    refine ⟨?_, ?_, ?_⟩ <;> (apply UInt8.toNat_inj.1; rw [UInt8.toNat_ofNat', UInt8.toNat_ofNat']; omega)
  rw [e] at hc
  simp only [List.map_cons, List.map_nil] at hc
  clear e
  go_enter Tryz.func200, Tryz.ntmps200
  go_wp2
  go_ret
  exact ⟨rfl, (Keeps.refl w).alloc _⟩
set_option maxRecDepth 100000 in
theorem tail_any (w : World) (n : Nat) (hn : n < 2 ^ 32) : Calls Tryz.prog 144 #[.int .u32 n] w fun e w' => e = .returned (.string ⟨(be4 n).toArray⟩) ∧ Keeps No w w' := by
  have h0 : (0 : Int) ≤ (n : Int) := by omega
  have hc := conv_new w [(n : Int) / 16777216, (n : Int) / 65536 % 256, (n : Int) / 256 % 256, (n : Int) % 256] 4 4 rfl (by omega)
  have e : ([(n : Int) / 16777216, (n : Int) / 65536 % 256, (n : Int) / 256 % 256, (n : Int) % 256].map fun n => UInt8.ofNat n.toNat) = be4 n := by
    simp only [List.map_cons, List.map_nil, be4, List.cons.injEq, and_true]
    refine ⟨?_, ?_, ?_, ?_⟩ <;> (apply UInt8.toNat_inj.1; rw [UInt8.toNat_ofNat', UInt8.toNat_ofNat']; omega)
  rw [e] at hc
  simp only [List.map_cons, List.map_nil] at hc
  clear e
  go_enter Tryz.func144, Tryz.ntmps144
  go_wp2
  go_ret
  exact ⟨rfl, (Keeps.refl w).alloc _⟩

set_option maxRecDepth 100000 in
set_option maxHeartbeats 1000000 in
/-- a text's frame, where it is not too long -/
theorem frame_ok (w : World) (base : Nat) (hL : Laid w base) (hb : base ≤ w.heap.size) (s : ByteArray) (hs : (s.size : Int) ≤ 65536) : Calls Tryz.prog 156 #[.string s] w fun e w' => e = .returned (.tuple #[.string ⟨(frameL s.data.toList).toArray⟩, .int .i64 0]) ∧ Keeps No w w' := by
  have hd : decide ((65536 : Int) < (s.size : Int)) = false := decide_eq_false (by omega)
  obtain ⟨H, hH⟩ : ∃ H : ByteArray, H = ⟨(be3 s.size).toArray⟩ := ⟨_, rfl⟩
  have hHl : H.size = 3 := by rw [hH]; rfl
  have hcat : ∀ W : World, (Op.stringOp .add H s).run Tryz.prog W = .ok (.string (H ++ s)) W := fun W => run_string_add_sum W _ _ (by omega)
  obtain ⟨T, hT⟩ : ∃ T : ByteArray, T = ⟨(be4 (sumB (bytesOf [H, s]))).toArray⟩ := ⟨_, rfl⟩
  have hTl : T.size = 4 := by rw [hT]; rfl
  have hcat2 : ∀ W : World, (Op.stringOp .add (H ++ s) T).run Tryz.prog W = .ok (.string (H ++ s ++ T)) W := fun W => run_string_add_sum W _ _ (by rw [ByteArray.size_append]; omega)
  have Hres : Hid ((H ++ s ++ T) = ⟨(frameL s.data.toList).toArray⟩) := by
    refine Lib.hid (bytes_of ?_)
    have e1 : bytesOf [H, s] = be3 s.size ++ s.data.toList := by rw [hH]; simp [bytesOf]
    have e2 : s.data.toList.length = s.size := by simp
    rw [hT, e1]
    unfold frameL
    rw [e2]
    simp [ByteArray.data_append, hH]
  have Hsum := Lib.hid (sumB_lt (bytesOf [H, s]))
  have HL := Lib.hid hL
  have Hb := Lib.hid hb
  have HHl := Lib.hid hHl
  have HH := Lib.hid hH
  have HT := Lib.hid hT
  clear hL hHl hTl hH hT hb
  go_enter Tryz.func156, Tryz.ntmps156
  go_wp2_with fail
  refine (head_any _ s.size (by omega)).mono ?_
  rintro e w1 ⟨rfl, hk1⟩
  rw [← HH.out]
  have K1 := Lib.hid hk1
  clear hk1
  go_wp2_with fail
  have L1 : Laid (w1.alloc (.cells #[.string H, .string s] 9)) base := (HL.out.kept K1.out (fun _ h => h.elim)).kept ((Keeps.refl (S := No) w1).alloc _) (fun _ h => h.elim)
  have hR : Reads (w1.alloc (.cells #[.string H, .string s] 9)) 1 (.slice (some ⟨w1.heap.size, 0, none⟩) 2 2) 2 ([H, s].map .string) := Reads.ofOwn (World.ownsRow_lit w1 #[.string H, .string s] 2 (Nat.zero_le _) (by unfold maxLen; omega) rfl) (by simp [Value.oneCell'])
  refine (sum_any _ base L1 _ [H, s] hR (by intro x hx; rcases List.mem_cons.1 hx with hx | hx; (subst hx; have := HHl.out; omega); (rw [List.mem_singleton.1 hx]; omega))).mono ?_
  rintro e w2 ⟨rfl, rfl⟩
  clear L1 hR
  go_wp2_with fail
  refine (tail_any _ _ Hsum.out).mono ?_
  rintro e w2 ⟨rfl, hk2⟩
  rw [← HT.out]
  have K2 : Hid (Keeps No w w2) := (K1.out.alloc _).trans hk2 (fun _ _ h => h)
  clear hk2
  go_wp2
  rw [Hres.out]
  go_ret2
  exact ⟨rfl, K2.out⟩
theorem to_end (s : ByteArray) (k : Nat) : (s.extract k s.size).data.toList = s.data.toList.drop k := by
  rw [← ByteArray.toList_eq, Lib.extract_toList, List.take_of_length_le (by simp)]
theorem i64_or_nat (a b : Nat) (ha : a < 4294967296) (hb : b < 4294967296) : bits .or .i64 (a : Int) (b : Int) = ((a ||| b : Nat) : Int) := by
  have hx : a ||| b < 2 ^ 32 := Nat.or_lt_two_pow (by omega) (by omega)
  show IntKind.i64.wrap ((BitVec.ofInt 64 (a : Int) ||| BitVec.ofInt 64 (b : Int)).toNat : Int) = _
  rw [BitVec.toNat_or, ofInt_u64 a (by omega), ofInt_u64 b (by omega), IntKind.wrap_i64]
  omega
/-- three bytes, put together as the walk does -/
theorem or_spelled (x y z : Nat) (hx : x < 256) (hy : y < 256) (hz : z < 256) : bits .or .i64 (bits .or .i64 ((x : Int) * 65536) ((y : Int) * 256)) (z : Int) = ((x * 65536 + y * 256 + z : Nat) : Int) := by
  have o1 : x * 65536 ||| y * 256 = x * 65536 + y * 256 := by
    have := Nat.shiftLeft_add_eq_or_of_lt (i := 16) (b := y * 256) (by omega) x
    rw [Nat.shiftLeft_eq] at this
    exact this.symm
  have o2 : (x * 65536 + y * 256) ||| z = x * 65536 + y * 256 + z := by
    have := Nat.shiftLeft_add_eq_or_of_lt (i := 8) (b := z) (by omega) (x * 256 + y)
    rw [Nat.shiftLeft_eq, show (x * 256 + y) * 2 ^ 8 = x * 65536 + y * 256 by rw [Nat.add_mul, Nat.mul_assoc]] at this
    exact this.symm
  have h1 := i64_or_nat (x * 65536) (y * 256) (by omega) (by omega)
  rw [o1] at h1
  have h2 := i64_or_nat (x * 65536 + y * 256) z (by omega) (by omega)
  rw [o2] at h2
  rw [show ((x : Int) * 65536) = ((x * 65536 : Nat) : Int) by omega, show ((y : Int) * 256) = ((y * 256 : Nat) : Int) by omega, h1, h2]

set_option maxRecDepth 100000 in
set_option maxHeartbeats 1000000 in
theorem first_ok (w : World) (base : Nat) (hL : Laid w base) (s : ByteArray) (hs : (s.size : Int) ≤ 140737488355328) (k : Nat) (hk : k ≤ s.size) (t : Nm) (ht : firstF (s.data.toList.drop k) = some t) :
    Calls Tryz.prog 88 #[.string s, .int .i64 k] w fun e w' => e = .returned (.tuple #[.string ⟨t.toArray⟩, .int .i64 ((k + 7 + t.length : Nat) : Int), .int .i64 0]) ∧ Keeps No w w' := by
  have hul : (s.extract k s.size).size = s.size - k := by simp
  have hud := to_end s k
  obtain ⟨u, hu⟩ : ∃ u, u = s.extract k s.size := ⟨_, rfl⟩
  rw [← hu] at hul hud
  rw [← hud] at ht
  obtain ⟨htl, r, hr⟩ := firstF_some ht
  have huz : u.size = t.length + 7 + r.length := by
    have := congrArg List.length hr
    rw [List.length_append, frameL_length] at this
    simpa using this
  have h0 : (0 : Int) ≤ (k : Int) := by omega
  have h1 : (k : Int) ≤ (s.size : Int) := by omega
  have h1b : decide ((s.size : Int) < (k : Int)) = false := decide_eq_false (by omega)
  have h2 : 3 ≤ u.size := by omega
  have h3 : decide ((u.size : Int) < 3) = false := decide_eq_false (by omega)
  have hsl : s.extract k s.size = u := hu.symm
  have hn3 : (n3 u.data.toList : Int) = t.length := by
    rw [hr]
    unfold frameL
    rw [List.append_assoc, List.append_assoc, n3_be3 (by omega)]
  have hug : t.length + 7 ≤ u.size := by omega
  have hug2 : k + 7 + t.length ≤ s.size := by omega
  have hr' := hr
  clear hu hul huz hr
  have p0 : 0 < u.size := by omega
  have p1 : 1 < u.size := by omega
  have p2 : 2 < u.size := by omega
  have q1 : (1 : Int) < (u.size : Int) := by omega
  have q2 : (2 : Int) < (u.size : Int) := by omega
  have g0 : (u.data.toList.getD 0 0) = u[0] := by simp [List.getD, p0]; rfl
  have g1 : (u.data.toList.getD 1 0) = u[1] := by simp [List.getD, p1]; rfl
  have g2 : (u.data.toList.getD 2 0) = u[2] := by simp [List.getD, p2]; rfl
  unfold n3 at hn3
  rw [g0, g1, g2] at hn3
  have b0 := u[0].toNat_lt
  have b1 := u[1].toNat_lt
  have b2 := u[2].toNat_lt
  obtain ⟨X, e0⟩ : ∃ X, u[0].toNat = X := ⟨_, rfl⟩
  obtain ⟨Y, e1⟩ : ∃ X, u[1].toNat = X := ⟨_, rfl⟩
  obtain ⟨Z, e2⟩ : ∃ X, u[2].toNat = X := ⟨_, rfl⟩
  rw [e0, e1, e2] at hn3
  rw [e0] at b0
  rw [e1] at b1
  rw [e2] at b2
  have w0 : IntKind.i64.wrap (X : Int) = (X : Int) := by rw [IntKind.wrap_i64]; omega
  have w1 : IntKind.i64.wrap ((X : Int) * 65536) = (X : Int) * 65536 := by rw [IntKind.wrap_i64]; omega
  have w2 : IntKind.i64.wrap (Y : Int) = (Y : Int) := by rw [IntKind.wrap_i64]; omega
  have w3 : IntKind.i64.wrap ((Y : Int) * 256) = (Y : Int) * 256 := by rw [IntKind.wrap_i64]; omega
  have w4 : IntKind.i64.wrap (Z : Int) = (Z : Int) := by rw [IntKind.wrap_i64]; omega
  have w5 := or_spelled X Y Z b0 b1 b2
  rw [hn3] at w5
  have HR := Lib.hid hr'
  clear hr'
  clear g0 g1 g2 b0 b1 b2 hn3
  go_enter Tryz.func88, Tryz.ntmps88
  go_wp2_with fail
  go_still (by kernel_rfl)
  clear w0 w1 w2 w3 w4 w5 e0 e1 e2 q1 q2 p0 p1 p2
  obtain ⟨n, hn⟩ : ∃ n, n = t.length := ⟨_, rfl⟩
  rw [← hn] at htl hug hug2 ⊢
  obtain ⟨N3, hN3⟩ : ∃ N, N = 3 + n := ⟨_, rfl⟩
  obtain ⟨N7, hN7⟩ : ∃ N, N = 7 + n := ⟨_, rfl⟩
  have w3 : IntKind.i64.wrap (N3 : Int) = (N3 : Int) := by rw [IntKind.wrap_i64]; omega
  have w7 : IntKind.i64.wrap (N7 : Int) = (N7 : Int) := by rw [IntKind.wrap_i64]; omega
  have v3 : 3 + (n : Int) = (N3 : Int) := by omega
  have v7 : 7 + (n : Int) = (N7 : Int) := by omega
  have z0 : (0 : Int) ≤ (N3 : Int) := by omega
  have x1 : N3 ≤ N7 := by omega
  have x2 : N7 ≤ u.size := by omega
  have x3 : N3 ≤ u.size := by omega
  have z4 : (3 : Int) ≤ (N3 : Int) := by omega
  have z5 : decide ((u.size : Int) < (N7 : Int)) = false := decide_eq_false (by omega)
  have z6 : decide ((65536 : Int) < (n : Int)) = false := decide_eq_false (by omega)
  obtain ⟨Pre, hPre⟩ : ∃ P, u.extract 0 N3 = P := ⟨_, rfl⟩
  obtain ⟨T, hT⟩ : ∃ P, u.extract N3 N7 = P := ⟨_, rfl⟩
  have hPs : Hid (Pre.size ≤ 9223372036854775807) := by rw [← hPre]; exact Lib.hid (by rw [ByteArray.size_extract]; omega)
  have hPd : Pre.data.toList = u.data.toList.take (3 + n) := by rw [← hPre, hN3, ← ByteArray.toList_eq, Lib.extract_toList]; simp
  have hTd : T.data.toList = (u.data.toList.drop (3 + n)).take 4 := by rw [← hT, hN3, hN7, ← ByteArray.toList_eq, Lib.extract_toList]; congr 1; omega
  have y1 : (k : Int) + 7 + (n : Int) ≤ 140737488355328 := by omega
  have hres : u.extract 3 N3 = ⟨t.toArray⟩ := by
    apply bytes_of
    rw [← ByteArray.toList_eq, Lib.extract_toList, HR.out, hN3]
    unfold frameL
    rw [List.append_assoc, List.append_assoc, List.drop_left' (be3_length _), List.take_left' (by omega)]
  have HT : Hid (T = ⟨(be4 (sumB (bytesOf [Pre]))).toArray⟩) := by
    refine Lib.hid (bytes_of ?_)
    have hb : bytesOf [Pre] = Pre.data.toList := by simp [bytesOf]
    rw [hb, hTd, hPd, HR.out, hn]
    unfold frameL
    rw [List.append_assoc _ (be4 _) r, List.take_left' (by simp [be3_length]), List.drop_left' (by simp [be3_length]), List.take_left' (be4_length _)]
  obtain ⟨R, hRe⟩ : ∃ R : ByteArray, R = ⟨t.toArray⟩ := ⟨_, rfl⟩
  rw [← hRe] at hres
  have HRe := Lib.hid hRe
  clear hRe
  have HN : Hid (n = t.length ∧ N3 = 3 + n ∧ N7 = 7 + n) := Lib.hid ⟨hn, hN3, hN7⟩
  have Hud := Lib.hid hud
  clear hn hN3 hN7 hud hPd hTd
  go_wp2_with fail
  refine wp_world ?_
  intro W hW
  have KW : Hid (Keeps No w W) := by rw [hW]; exact (Keeps.refl (S := No) w).drew
  have LW : Hid (Laid W base) := Lib.hid (hL.kept KW.out (fun _ h => h.elim))
  clear hW hL
  have hR : Hid (Reads ((W.alloc (.cells #[.string Pre] 9)).drew) 1 (.slice (some ⟨W.heap.size, 0, none⟩) 1 1) 1 ([Pre].map .string)) := Lib.hid (Reads.kept (S := No) ((Keeps.refl _).drew) (Reads.ofOwn (World.ownsRow_lit W #[.string Pre] 1 (Nat.zero_le _) (by unfold maxLen; omega) rfl) (by simp [Value.oneCell'])) (fun _ _ h => h))
  have L1 : Hid (Laid ((W.alloc (.cells #[.string Pre] 9)).drew) base) := Lib.hid (LW.out.kept (((Keeps.refl (S := No) W).alloc _).drew) (fun _ h => h.elim))
  go_region_held3 (fun w' => True) (trivial)
    (first
      | (go_at_call 145
         refine (sum_any _ base L1.out _ [Pre] hR.out (by intro x hx; rw [List.mem_singleton.1 hx]; exact hPs.out)).mono ?_
         rintro e w2 ⟨rfl, rfl⟩)
      | (go_at_call 144
         refine (tail_any _ _ (sumB_lt _)).mono ?_
         rintro e w2 ⟨rfl, hk2⟩
         have K2 : Hid (Keeps No w w2) := (KW.out.trans (((Keeps.refl (S := No) W).alloc _).drew) (fun _ _ h => h)).trans hk2 (fun _ _ h => h)
         clear hk2
         rw [← HT.out]))
  go_wp2
  refine bodyPost_ret (v := .tuple #[.string R, .int .i64 ((k + 7 + n : Nat) : Int), .int .i64 0]) ?_ rfl ⟨by rw [HRe.out, HN.out.1], K2.out⟩
  simp [results, Tryz.results88, go_sem, *]

set_option maxRecDepth 100000 in
set_option maxHeartbeats 2000000 in
theorem first_no (w : World) (base : Nat) (hL : Laid w base) (s : ByteArray) (hs : (s.size : Int) ≤ 140737488355328) (k : Nat) (hk : k ≤ s.size) (ht : firstF (s.data.toList.drop k) = none) :
    Calls Tryz.prog 88 #[.string s, .int .i64 k] w fun e w' => ∃ ec : Int, ¬ ec = 0 ∧ e = .returned (.tuple #[.string ⟨#[]⟩, .int .i64 0, .int .i64 ec]) ∧ Keeps No w w' := by
  have hul : (s.extract k s.size).size = s.size - k := by simp
  have hud := to_end s k
  obtain ⟨u, hu⟩ : ∃ u, u = s.extract k s.size := ⟨_, rfl⟩
  rw [← hu] at hul hud
  rw [← hud] at ht
  have h0 : (0 : Int) ≤ (k : Int) := by omega
  have h1 : (k : Int) ≤ (s.size : Int) := by omega
  have h1b : decide ((s.size : Int) < (k : Int)) = false := decide_eq_false (by omega)
  have hsl : s.extract k s.size = u := hu.symm
  have hus : u.size ≤ 140737488355328 := by omega
  clear hu hul
  by_cases h2 : 3 ≤ u.size
  case neg =>
    have h3 : decide ((u.size : Int) < 3) = true := decide_eq_true (by omega)
    clear hud ht
    go_enter Tryz.func88, Tryz.ntmps88
    go_wp2
    refine bodyPost_ret (v := .tuple #[.string ⟨#[]⟩, .int .i64 0, .int .i64 4]) ?_ rfl ⟨4, by decide, rfl, Keeps.refl w⟩
    simp [results, Tryz.results88, go_sem, *]
  have h3 : decide ((u.size : Int) < 3) = false := decide_eq_false (by omega)
  obtain ⟨n, hn⟩ : ∃ n, n = n3 u.data.toList := ⟨_, rfl⟩
  have hn3 : (n3 u.data.toList : Int) = n := by rw [hn]
  have hcase : 65536 < n ∨ (n ≤ 65536 ∧ u.size < n + 7) ∨ (n ≤ 65536 ∧ n + 7 ≤ u.size ∧ be4 (sumB (u.data.toList.take (3 + n))) ≠ (u.data.toList.drop (3 + n)).take 4) := by
    have hlen : u.data.toList.length = u.size := by simp
    unfold firstF at ht
    rw [← hn, hlen, if_neg (by omega)] at ht
    by_cases c1 : 65536 < n
    · exact .inl c1
    · rw [if_neg c1] at ht
      by_cases c2 : u.size < 7 + n
      · exact .inr (.inl ⟨by omega, by omega⟩)
      · rw [if_neg c2] at ht
        by_cases c3 : be4 (sumB (u.data.toList.take (3 + n))) = (u.data.toList.drop (3 + n)).take 4
        · rw [if_pos c3] at ht
          cases ht
        · exact .inr (.inr ⟨by omega, by omega, c3⟩)
  have hnb : n ≤ 16777215 := by
    rw [hn]
    unfold n3
    have := (u.data.toList.getD 0 0).toNat_lt
    have := (u.data.toList.getD 1 0).toNat_lt
    have := (u.data.toList.getD 2 0).toNat_lt
    omega
  have Hn := Lib.hid hn
  clear hn ht
  have Hcase := Lib.hid hcase
  clear hcase
  have p0 : 0 < u.size := by omega
  have p1 : 1 < u.size := by omega
  have p2 : 2 < u.size := by omega
  have q1 : (1 : Int) < (u.size : Int) := by omega
  have q2 : (2 : Int) < (u.size : Int) := by omega
  have g0 : (u.data.toList.getD 0 0) = u[0] := by simp [List.getD, p0]; rfl
  have g1 : (u.data.toList.getD 1 0) = u[1] := by simp [List.getD, p1]; rfl
  have g2 : (u.data.toList.getD 2 0) = u[2] := by simp [List.getD, p2]; rfl
  unfold n3 at hn3
  rw [g0, g1, g2] at hn3
  have b0 := u[0].toNat_lt
  have b1 := u[1].toNat_lt
  have b2 := u[2].toNat_lt
  obtain ⟨X, e0⟩ : ∃ X, u[0].toNat = X := ⟨_, rfl⟩
  obtain ⟨Y, e1⟩ : ∃ X, u[1].toNat = X := ⟨_, rfl⟩
  obtain ⟨Z, e2⟩ : ∃ X, u[2].toNat = X := ⟨_, rfl⟩
  rw [e0, e1, e2] at hn3
  rw [e0] at b0
  rw [e1] at b1
  rw [e2] at b2
  have w0 : IntKind.i64.wrap (X : Int) = (X : Int) := by rw [IntKind.wrap_i64]; omega
  have w1 : IntKind.i64.wrap ((X : Int) * 65536) = (X : Int) * 65536 := by rw [IntKind.wrap_i64]; omega
  have w2 : IntKind.i64.wrap (Y : Int) = (Y : Int) := by rw [IntKind.wrap_i64]; omega
  have w3 : IntKind.i64.wrap ((Y : Int) * 256) = (Y : Int) * 256 := by rw [IntKind.wrap_i64]; omega
  have w4 : IntKind.i64.wrap (Z : Int) = (Z : Int) := by rw [IntKind.wrap_i64]; omega
  have w5 := or_spelled X Y Z b0 b1 b2
  rw [hn3] at w5
  clear g0 g1 g2 b0 b1 b2 hn3
  go_enter Tryz.func88, Tryz.ntmps88
  go_wp2_with fail
  go_still (by kernel_rfl)
  clear w0 w1 w2 w3 w4 w5 e0 e1 e2 q1 q2 p0 p1 p2
  have hn := Hn.out
  clear Hn
  rcases Hcase.out with hc | ⟨hc1, hc2⟩ | ⟨htl, hug, hne⟩
  · have z6 : decide ((65536 : Int) < (n : Int)) = true := decide_eq_true (by omega)
    clear hn hud Hcase
    go_wp2
    refine bodyPost_ret (v := .tuple #[.string ⟨#[]⟩, .int .i64 0, .int .i64 2]) ?_ rfl ⟨2, by decide, rfl, (Keeps.refl w).drew⟩
    simp [results, Tryz.results88, go_sem, *]
  · have z6 : decide ((65536 : Int) < (n : Int)) = false := decide_eq_false (by omega)
    obtain ⟨N3, hN3⟩ : ∃ N, N = 3 + n := ⟨_, rfl⟩
    obtain ⟨N7, hN7⟩ : ∃ N, N = 7 + n := ⟨_, rfl⟩
    have w3 : IntKind.i64.wrap (N3 : Int) = (N3 : Int) := by rw [IntKind.wrap_i64]; omega
    have w7 : IntKind.i64.wrap (N7 : Int) = (N7 : Int) := by rw [IntKind.wrap_i64]; omega
    have v3 : 3 + (n : Int) = (N3 : Int) := by omega
    have v7 : 7 + (n : Int) = (N7 : Int) := by omega
    have z5 : decide ((u.size : Int) < (N7 : Int)) = true := decide_eq_true (by omega)
    clear hn hud hN3 hN7 Hcase
    go_wp2
    refine bodyPost_ret (v := .tuple #[.string ⟨#[]⟩, .int .i64 0, .int .i64 4]) ?_ rfl ⟨4, by decide, rfl, (Keeps.refl w).drew⟩
    simp [results, Tryz.results88, go_sem, *]
  · obtain ⟨N3, hN3⟩ : ∃ N, N = 3 + n := ⟨_, rfl⟩
    obtain ⟨N7, hN7⟩ : ∃ N, N = 7 + n := ⟨_, rfl⟩
    have w3 : IntKind.i64.wrap (N3 : Int) = (N3 : Int) := by rw [IntKind.wrap_i64]; omega
    have w7 : IntKind.i64.wrap (N7 : Int) = (N7 : Int) := by rw [IntKind.wrap_i64]; omega
    have v3 : 3 + (n : Int) = (N3 : Int) := by omega
    have v7 : 7 + (n : Int) = (N7 : Int) := by omega
    have z0 : (0 : Int) ≤ (N3 : Int) := by omega
    have x1 : N3 ≤ N7 := by omega
    have x2 : N7 ≤ u.size := by omega
    have x3 : N3 ≤ u.size := by omega
    have z4 : (3 : Int) ≤ (N3 : Int) := by omega
    have z5 : decide ((u.size : Int) < (N7 : Int)) = false := decide_eq_false (by omega)
    have z6 : decide ((65536 : Int) < (n : Int)) = false := decide_eq_false (by omega)
    obtain ⟨Pre, hPre⟩ : ∃ P, u.extract 0 N3 = P := ⟨_, rfl⟩
    obtain ⟨T, hT⟩ : ∃ P, u.extract N3 N7 = P := ⟨_, rfl⟩
    have hPs : Hid (Pre.size ≤ 9223372036854775807) := by rw [← hPre]; exact Lib.hid (by rw [ByteArray.size_extract]; omega)
    have hPd : Pre.data.toList = u.data.toList.take (3 + n) := by rw [← hPre, hN3, ← ByteArray.toList_eq, Lib.extract_toList]; simp
    have hTd : T.data.toList = (u.data.toList.drop (3 + n)).take 4 := by rw [← hT, hN3, hN7, ← ByteArray.toList_eq, Lib.extract_toList]; congr 1; omega
    obtain ⟨T2, hT2⟩ : ∃ T : ByteArray, T = ⟨(be4 (sumB (bytesOf [Pre]))).toArray⟩ := ⟨_, rfl⟩
    have HT := Lib.hid hT2
    have hTne : (T2.toList == T.toList) = false := by
      rw [beq_eq_false_iff_ne, ByteArray.toList_eq, ByteArray.toList_eq, hTd, hT2]
      have hb : bytesOf [Pre] = Pre.data.toList := by simp [bytesOf]
      rw [hb, hPd]
      exact hne
    clear hT2 hne Hcase
    have HN : Hid (n = n3 u.data.toList ∧ N3 = 3 + n ∧ N7 = 7 + n) := Lib.hid ⟨hn, hN3, hN7⟩
    have Hud := Lib.hid hud
    clear hn hN3 hN7 hud hPd hTd
    go_wp2_with fail
    refine wp_world ?_
    intro W hW
    have KW : Hid (Keeps No w W) := by rw [hW]; exact (Keeps.refl (S := No) w).drew
    have LW : Hid (Laid W base) := Lib.hid (hL.kept KW.out (fun _ h => h.elim))
    clear hW hL
    have hR : Hid (Reads ((W.alloc (.cells #[.string Pre] 9)).drew) 1 (.slice (some ⟨W.heap.size, 0, none⟩) 1 1) 1 ([Pre].map .string)) := Lib.hid (Reads.kept (S := No) ((Keeps.refl _).drew) (Reads.ofOwn (World.ownsRow_lit W #[.string Pre] 1 (Nat.zero_le _) (by unfold maxLen; omega) rfl) (by simp [Value.oneCell'])) (fun _ _ h => h))
    have L1 : Hid (Laid ((W.alloc (.cells #[.string Pre] 9)).drew) base) := Lib.hid (LW.out.kept (((Keeps.refl (S := No) W).alloc _).drew) (fun _ h => h.elim))
    go_region_held3 (fun w' => True) (trivial)
      (first
        | (go_at_call 145
           refine (sum_any _ base L1.out _ [Pre] hR.out (by intro x hx; rw [List.mem_singleton.1 hx]; exact hPs.out)).mono ?_
           rintro e w2 ⟨rfl, rfl⟩)
        | (go_at_call 144
           refine (tail_any _ _ (sumB_lt _)).mono ?_
           rintro e w2 ⟨rfl, hk2⟩
           have K2 : Hid (Keeps No w w2) := (KW.out.trans (((Keeps.refl (S := No) W).alloc _).drew) (fun _ _ h => h)).trans hk2 (fun _ _ h => h)
           clear hk2
           rw [← HT.out]))
    go_wp2
    refine bodyPost_ret (v := .tuple #[.string ⟨#[]⟩, .int .i64 0, .int .i64 3]) ?_ rfl ⟨3, by decide, rfl, K2.out⟩
    simp [results, Tryz.results88, go_sem, *]
end Go.Proofs.YtndjnkjcfdaegaaGreatDoor
