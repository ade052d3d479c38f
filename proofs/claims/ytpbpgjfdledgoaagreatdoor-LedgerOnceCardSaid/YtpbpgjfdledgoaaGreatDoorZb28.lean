/-
  octet.head: the number with which bytes begin. No conditions of its own.
-/
import Derived.Test.YtpbpgjfdledgoaaGreatDoorZb12
import Derived.Lib.ConvBytes
import Derived.Lib.SmallJoins
namespace Go.Proofs.YtpbpgjfdledgoaaGreatDoor
open Go.RowKit Go.Joins

theorem keeps_bytes0 (w : World) (e : TypeId) (s : ByteArray) : Keeps No w (Lib.bytesWorld w e s) :=
  have h := below_bytesWorld w.heap.size w e s (Nat.le_refl _)
  ⟨h.os, h.tape, h.output, h.size, fun k hk _ => h.block k hk⟩

theorem byte0 {s : ByteArray} {x : UInt8} {t : Nm} (he : s.data.toList = x :: t) (hp : 0 < s.size) : s[0] = x := by
  have h1 : s.data.toList[0]'(by rw [he]; simp) = x := by simp [he]
  have h2 : s.data[0] = x := by simpa using h1
  exact h2
theorem byte1 {s : ByteArray} {x y : UInt8} {t : Nm} (he : s.data.toList = x :: y :: t) (hp : 1 < s.size) : s[1] = y := by
  have h1 : s.data.toList[1]'(by rw [he]; simp) = y := by simp [he]
  have h2 : s.data[1] = y := by simpa using h1
  exact h2
theorem u8_and127 : ∀ x : Fin 256, bits .and .u8 (x.1 : Int) 127 = ((x.1 % 128 : Nat) : Int) := by decide +kernel
theorem u8_and (x : Nat) (h : x < 256) : bits .and .u8 (x : Int) 127 = ((x % 128 : Nat) : Int) := u8_and127 ⟨x, h⟩
/-- what the program puts together -/
def accI (l : Nm) : Int := l.foldl (fun n x => bits .or .i64 (IntKind.i64.wrap (n * 256)) (x.toNat : Int)) 0
theorem accI_snoc (l : Nm) (x : UInt8) : accI (l ++ [x]) = bits .or .i64 (IntKind.i64.wrap (accI l * 256)) (x.toNat : Int) := by simp [accI]
theorem toNat_wrap (n : Int) : (BitVec.ofInt 64 (IntKind.i64.wrap n)).toNat = (n % 18446744073709551616).toNat := by
  rw [toNat_ofInt64, IntKind.wrap_i64]
  omega
theorem or_byte (m : Nat) (x : Nat) (hm : m < 72057594037927936) (hx : x < 256) : bits .or .i64 (IntKind.i64.wrap ((m : Int) * 256)) (x : Int) = IntKind.i64.wrap ((256 * m + x : Nat) : Int) := by
  show IntKind.i64.wrap ((BitVec.ofInt 64 (IntKind.i64.wrap ((m : Int) * 256)) ||| BitVec.ofInt 64 (x : Int)).toNat : Int) = _
  rw [BitVec.toNat_or, toNat_wrap, toNat_ofInt64]
  have e1 : ((m : Int) * 256 % 18446744073709551616).toNat = m * 256 := by omega
  have e2 : ((x : Int) % 18446744073709551616).toNat = x := by omega
  have o2 : m * 256 ||| x = m * 256 + x := by
    have := Nat.shiftLeft_add_eq_or_of_lt (i := 8) (b := x) (by omega) m
    rw [Nat.shiftLeft_eq] at this
    exact this.symm
  rw [e1, e2, o2, Nat.mul_comm m 256]
theorem accI_num (l : Nm) (h : l.length ≤ 8) : accI l = IntKind.i64.wrap (onum l : Int) := by
  induction l using snocInd with
  | h0 => rfl
  | h1 s x ih =>
    rw [List.length_append, List.length_singleton] at h
    have h7 := onum_lt s
    have h8 : 256 ^ s.length ≤ 256 ^ 7 := Nat.pow_le_pow_right (by omega) (by omega)
    have e7 : (256 : Nat) ^ 7 = 72057594037927936 := by decide
    have hx := x.toNat_lt
    rw [accI_snoc, ih (by omega), onum_append]
    have e : IntKind.i64.wrap (onum s : Int) = (onum s : Int) := by rw [IntKind.wrap_i64]; omega
    rw [e]
    exact or_byte (onum s) x.toNat (by omega) (by omega)
theorem not_i64 (V : Int) (h1 : -9223372036854775808 ≤ V) (h2 : V ≤ 9223372036854775807) : bits .xor .i64 (-1) V = -V - 1 := by
  show IntKind.i64.wrap ((BitVec.ofInt 64 (-1) ^^^ BitVec.ofInt 64 V).toNat : Int) = _
  rw [show BitVec.ofInt 64 (-1) = BitVec.allOnes 64 by decide, BitVec.allOnes_xor, BitVec.toNat_not, toNat_ofInt64, IntKind.wrap_i64]
  omega
theorem onum_from (l : Nm) (a : Nat) : l.foldl (fun n x => 256 * n + x.toNat) a = a * 256 ^ l.length + onum l := by
  induction l using snocInd with
  | h0 => simp [onum]
  | h1 s x ih =>
    rw [List.foldl_append, ih, onum_append, List.length_append, List.length_singleton, Nat.pow_succ]
    simp only [List.foldl_cons, List.foldl_nil]
    rw [Nat.mul_add, ← Nat.mul_assoc, Nat.mul_comm 256 a, Nat.mul_assoc, Nat.mul_comm 256]
    omega
theorem onum_cons (y : UInt8) (l : Nm) : onum (y :: l) = y.toNat * 256 ^ l.length + onum l := by
  have := onum_from l y.toNat
  rw [← this]
  simp [onum]
def headV (o : Option (Int × Nat)) : Value := match o with
  | none => .tuple #[.int .i64 0, .int .i64 0, .bool false]
  | some (n, k) => .tuple #[.int .i64 n, .int .i64 k, .bool true]
theorem head_none (w : World) (s : ByteArray) (hs : s.size = 0) : Calls Tryz.prog 127 #[.string s] w fun e w' => e = .returned (headV (headI s.data.toList)) ∧ Keeps No w w' := by
  have he : s.data.toList = [] := by
    apply List.eq_nil_of_length_eq_zero
    simpa using hs
  have h0 : s.toList = [] := by rw [ByteArray.toList_eq]; exact he
  have h1 : s.toList.isEmpty = true := by rw [h0]; rfl
  rw [he]
  have H : Hid (headV (headI []) = .tuple #[.int .i64 0, .int .i64 0, .bool false]) := Lib.hid rfl
  rw [H.out]
  clear hs he
  go_enter Tryz.func127, Tryz.ntmps127
  go_wp2
  go_ret3
  exact ⟨rfl, Keeps.refl _⟩
set_option maxRecDepth 100000 in
set_option maxHeartbeats 1000000 in
theorem head_far (w : World) (s : ByteArray) (x : UInt8) (t : Nm) (he : s.data.toList = x :: t) (hsz : (s.size : Int) ≤ 140737488355328) (hb : 8 < x.toNat % 128 ∨ t.length < x.toNat % 128) : Calls Tryz.prog 127 #[.string s] w fun e w' => e = .returned (headV (headI s.data.toList)) ∧ Keeps No w w' := by
  have hz : s.size = t.length + 1 := by
    have := congrArg List.length he
    simpa using this
  have h1 : s.toList.isEmpty = false := by rw [ByteArray.toList_eq, he]; rfl
  have hp : 0 < s.size := by omega
  have g0 : s[0] = x := byte0 he hp
  have hx := x.toNat_lt
  have ha := u8_and x.toNat hx
  have H : Hid (headV (headI s.data.toList) = .tuple #[.int .i64 0, .int .i64 0, .bool false]) := by
    refine Lib.hid ?_
    rw [he, headI]
    have : headBad x t = true := by
      unfold headBad
      rcases hb with h | h
      · rw [decide_eq_true h]; rfl
      · rw [decide_eq_true h]; simp
    rw [this]
    rfl
  rw [H.out]
  obtain ⟨X, hX⟩ : ∃ X, X = x.toNat := ⟨_, rfl⟩
  obtain ⟨K, hK⟩ : ∃ K, K = X % 128 := ⟨_, rfl⟩
  rw [← hX] at hb hx ha
  rw [← hK] at ha hb
  have g1 : s[0].toNat = X := by rw [g0, hX]
  have hk : K < 128 := by omega
  clear g0 hX hK he
  have HZ := Lib.hid hz
  clear hz
  by_cases h8 : 8 < K
  · clear hb
    have h8i : (8 : Int) < (K : Int) := by omega
    go_enter Tryz.func127, Tryz.ntmps127
    go_wp2
    go_ret3
    exact ⟨rfl, Keeps.refl _⟩
  · have h8i : ¬ (8 : Int) < (K : Int) := by omega
    have hli : (s.size : Int) ≤ (K : Int) := by have := HZ.out; omega
    have hlk : s.size ≤ K := by have := HZ.out; omega
    clear hb
    go_enter Tryz.func127, Tryz.ntmps127
    go_wp2
    go_ret3
    exact ⟨rfl, Keeps.refl _⟩
/-- the cut of a string behind its first byte -/
theorem cut1 {s : ByteArray} {x : UInt8} {t : Nm} (he : s.data.toList = x :: t) (K : Nat) (hK : K ≤ t.length) : (s.extract 1 (1 + K)).data.toList = t.take K ∧ (s.extract 1 (1 + K)).size = K := by
  have h : (s.extract 1 (1 + K)).data.toList = t.take K := by
    rw [← ByteArray.toList_eq, Lib.extract_toList, he]
    simp
  refine ⟨h, ?_⟩
  have h2 := congrArg List.length h
  rw [List.length_take, Nat.min_eq_left hK] at h2
  have h3 : ∀ b : ByteArray, b.data.toList.length = b.size := fun b => by simp
  rw [h3] at h2
  exact h2
set_option maxRecDepth 100000 in
set_option maxHeartbeats 2000000 in
theorem head_in (w : World) (s : ByteArray) (x : UInt8) (t : Nm) (he : s.data.toList = x :: t) (hsz : (s.size : Int) ≤ 140737488355328) (h8 : x.toNat % 128 ≤ 8) (hl : x.toNat % 128 ≤ t.length) : Calls Tryz.prog 127 #[.string s] w fun e w' => e = .returned (headV (headI s.data.toList)) ∧ Keeps No w w' := by
  have hz : s.size = t.length + 1 := by
    have := congrArg List.length he
    simpa using this
  have h1 : s.toList.isEmpty = false := by rw [ByteArray.toList_eq, he]; rfl
  have hp : 0 < s.size := by omega
  have g0 : s[0] = x := byte0 he hp
  have hx := x.toNat_lt
  have ha := u8_and x.toNat hx
  obtain ⟨C, hC⟩ : ∃ C, C = s.extract 1 (1 + x.toNat % 128) := ⟨_, rfl⟩
  obtain ⟨hcl, hcs⟩ := cut1 he _ hl
  rw [← hC] at hcl hcs
  obtain ⟨X, hX⟩ : ∃ X, X = x.toNat := ⟨_, rfl⟩
  obtain ⟨K, hK⟩ : ∃ K, K = X % 128 := ⟨_, rfl⟩
  have HX := Lib.hid hX
  have HK := Lib.hid hK
  rw [← hX] at h8 hl hx ha hC hcl hcs
  rw [← hK] at ha h8 hl hC hcl hcs
  have g1 : s[0].toNat = X := by rw [g0, hX]
  have hk : K < 128 := by omega
  have h8i : ¬ (8 : Int) < (K : Int) := by omega
  have hli : ¬ (s.size : Int) ≤ (K : Int) := by omega
  have hlk : ¬ s.size ≤ K := by omega
  have h8n : ¬ 8 < K := by omega
  obtain ⟨M, hM⟩ : ∃ M, M = 1 + K := ⟨_, rfl⟩
  have he1 : s.extract 1 M = C := by rw [hM]; exact hC.symm
  have e1 : (1 : Int) + (K : Int) = (M : Int) := by omega
  have e2 : M ≤ s.size := by omega
  have e3 : (M : Int) ≤ (s.size : Int) := by omega
  have e4 : (1 : Int) ≤ (M : Int) := by omega
  have e5 : 1 ≤ M := by omega
  have HM := Lib.hid hM
  clear hM
  obtain ⟨R, hR⟩ : ∃ R, R = headV (headI s.data.toList) := ⟨_, rfl⟩
  rw [← hR]
  have HR := Lib.hid hR
  clear hR
  have hcv := Lib.run_convert_string_bytes (P := Tryz.prog) w 9 184 5 C Tryz.underlying9 Tryz.underlying184 Tryz.underlying5
  have hcell := Lib.bytesWorld_cell w 5 C
  have hkb := keeps_bytes0 w 5 C
  generalize grownCap w C.size 0 5 = cap at hcv
  generalize Lib.bytesWorld w 5 C = W at hcv hcell hkb
  rw [hcs] at hcv hcell
  rw [hcl] at hcell
  have Hcell := Lib.hid hcell
  have KB := Lib.hid hkb
  clear hcell hkb
  obtain ⟨L, hL⟩ : ∃ L, L = t.take K := ⟨_, rfl⟩
  have hLl : L.length = K := by rw [hL, List.length_take, Nat.min_eq_left hl]
  rw [← hL] at Hcell
  have HL := Lib.hid hL
  have HLl := Lib.hid hLl
  clear hL hLl hcl hcs
  have HE := Lib.hid he
  have HZ := Lib.hid hz
  clear g0 hX hK he hz hC
  go_enter Tryz.func127, Tryz.ntmps127
  go_wp2
  go_loop [6, 36] (fun n q => ∃ j : Nat, j ≤ K ∧ q = .int .i64 j ∧ n = .int .i64 (accI (L.take j))) (fun _ q => K - (intOf q).toNat)
  case atStart => exact ⟨0, Nat.zero_le _, rfl, rfl⟩
  case round =>
    obtain ⟨j, hj, rfl, rfl⟩ := hrel
    by_cases hlt : j < K
    · have hc := Hcell.out j hlt
      have hjl : j < L.length := by rw [HLl.out]; exact hlt
      have Hs := accI_snoc (L.take j) L[j]
      rw [← List.take_succ_eq_append_getElem hjl] at Hs
      have hg : L.getD j 0 = L[j] := by simp [List.getD, hjl]
      rw [hg] at hc
      obtain ⟨c, hce⟩ : ∃ c, c = L[j].toNat := ⟨_, rfl⟩
      have hcz : c < 256 := by rw [hce]; exact L[j].toNat_lt
      rw [← hce] at hc Hs
      obtain ⟨N, hN⟩ : ∃ N, N = accI (L.take j) := ⟨_, rfl⟩
      rw [← hN] at Hs ⊢
      have hk0 : (0 : Int) ≤ (j : Int) := by omega
      have HS := Lib.hid Hs
      clear Hs hN hce hg
      go_wp2
      go_round
      case rel => exact ⟨j + 1, by omega, by go_num, by rw [HS.out, IntWalk.i64_left]⟩
      case measure => simp [intOf]; omega
    · have hjK : K = j := by omega
      subst hjK
      have ht : L.take K = L := List.take_of_length_le (by rw [HLl.out]; exact Nat.le_refl _)
      rw [ht]
      have hV := accI_num L (by rw [HLl.out]; exact h8)
      obtain ⟨V, hVe⟩ : ∃ V, V = accI L := ⟨_, rfl⟩
      rw [← hVe] at hV ⊢
      have HV := Lib.hid hV
      have HB : Hid (headI s.data.toList = bif headBad x t then none else some (headVal x t, 1 + x.toNat % 128)) := by rw [HE.out]; exact Lib.hid rfl
      have e6 : x.toNat % 128 = K := by rw [← HX.out, HK.out]
      have HBad : Hid (headBad x t = ((decide (0 < K) && ((t.getD 0 0).toNat == 0)) || (decide (K = 8) && decide (127 < (t.getD 0 0).toNat)))) := by
        refine Lib.hid ?_
        unfold headBad
        rw [e6, decide_eq_false (by omega), decide_eq_false (by omega)]
        rfl
      have HVal : Hid (headVal x t = bif decide (127 < X) then -(onum L : Int) - 1 else (onum L : Int)) := by
        refine Lib.hid ?_
        unfold headVal
        rw [e6, HX.out, HL.out]
      rw [e6] at HB
      have honum := onum_lt L
      rw [HLl.out] at honum
      clear hV hVe ht hlt e6
      by_cases hk0 : K = 0
      · subst hk0
        have hv0 : V = 0 := by
          rw [HV.out]
          have : onum L = 0 := by simp at honum; exact honum
          rw [this]
          rfl
        have ho : onum L = 0 := by simp at honum; exact honum
        subst hv0
        have hb : headBad x t = false := by rw [HBad.out]; rfl
        have HF : Hid (R = .tuple #[.int .i64 (bif decide (127 < X) then -1 else 0), .int .i64 1, .bool true]) := by
          rw [HR.out, HB.out, hb, HVal.out, ho]
          exact Lib.hid rfl
        clear honum ho hb
        have HB := Lib.hid trivial
        by_cases h127 : 127 < X
        · rw [decide_eq_true h127] at HF
          have h127i : (127 : Int) < (X : Int) := by omega
          go_wp2
          go_ret3
          exact ⟨by rw [HF.out]; rfl, KB.out⟩
        · rw [decide_eq_false h127] at HF
          have h127i : ¬ (127 : Int) < (X : Int) := by omega
          go_wp2
          go_ret3
          exact ⟨by rw [HF.out]; rfl, KB.out⟩
      · obtain ⟨y, t', rfl⟩ : ∃ y t', t = y :: t' := by
          cases t with
          | nil => simp at hl; omega
          | cons y t' => exact ⟨y, t', rfl⟩
        have hs1 : 1 < s.size := by rw [HZ.out]; simp
        have hs1i : (1 : Int) < (s.size : Int) := by omega
        have gy := byte1 HE.out hs1
        simp only [List.getD_cons_zero] at HBad
        have hy := y.toNat_lt
        have hkpos : (0 : Int) < (K : Int) := by omega
        obtain ⟨Y, hY⟩ : ∃ Y, Y = y.toNat := ⟨_, rfl⟩
        rw [← hY] at HBad hy
        have gy1 : s[1].toNat = Y := by rw [gy, hY]
        have hV8 : (K = 8 ∧ 127 < Y → V < 0) ∧ (¬ (K = 8 ∧ 127 < Y) → V = (onum L : Int) ∧ V ≤ 9223372036854775807) := by
          have hVw := HV.out
          rw [IntKind.wrap_i64] at hVw
          have hKL : L = y :: t'.take (K - 1) := by
            rw [HL.out]
            cases K with
            | zero => omega
            | succ K => rw [List.take_succ_cons, Nat.add_sub_cancel]
          have hfirst : onum L = y.toNat * 256 ^ (K - 1) + onum (t'.take (K - 1)) := by
            rw [hKL]
            have := onum_cons y (t'.take (K - 1))
            rw [this]
            congr 3
            rw [List.length_take]
            have := List.length_cons ▸ hl
            omega
          rw [← hY] at hfirst
          have hlow := onum_lt (t'.take (K - 1))
          have hll : (t'.take (K - 1)).length ≤ K - 1 := List.length_take_le _ _
          have hpl : 256 ^ (t'.take (K - 1)).length ≤ 256 ^ (K - 1) := Nat.pow_le_pow_right (by omega) hll
          by_cases hK8 : K = 8
          · have e7 : (256 : Nat) ^ (K - 1) = 72057594037927936 := by rw [hK8]
            rw [e7] at hfirst hpl
            constructor
            · rintro ⟨_, hb⟩
              omega
            · intro hb
              have : ¬ 127 < Y := fun h => hb ⟨hK8, h⟩
              omega
          · have h7 : 256 ^ K ≤ 256 ^ 7 := Nat.pow_le_pow_right (by omega) (by omega)
            have e7 : (256 : Nat) ^ 7 = 72057594037927936 := by decide
            refine ⟨fun h => absurd h.1 hK8, fun _ => ?_⟩
            omega
        have HV8 := Lib.hid hV8
        clear gy hY hV8
        rw [decide_eq_true (show 0 < K by omega), Bool.true_and] at HBad
        by_cases hy0 : Y = 0
        · subst hy0
          have hb : headBad x (y :: t') = true := by rw [HBad.out]; rfl
          have HF : Hid (R = .tuple #[.int .i64 0, .int .i64 0, .bool false]) := by
            rw [HR.out, HB.out, hb]
            exact Lib.hid rfl
          clear honum hb HBad HVal HB
          go_wp2
          go_ret3
          exact ⟨by rw [HF.out]; rfl, KB.out⟩
        · have hy0i : ((Y : Int) == 0) = false := by simpa using hy0
          by_cases hbig : K = 8 ∧ 127 < Y
          · have hneg : V < 0 := HV8.out.1 hbig
            have hb : headBad x (y :: t') = true := by rw [HBad.out, decide_eq_true hbig.1, decide_eq_true hbig.2]; simp
            have HF : Hid (R = .tuple #[.int .i64 0, .int .i64 0, .bool false]) := by
              rw [HR.out, HB.out, hb]
              exact Lib.hid rfl
            clear honum hb HBad HVal HB hbig
            go_wp2
            go_ret3
            exact ⟨by rw [HF.out]; rfl, KB.out⟩
          · have hV2 := (HV8.out.2 hbig).1
            have hV3 := (HV8.out.2 hbig).2
            have hneg : ¬ V < 0 := by omega
            have hb : headBad x (y :: t') = false := by
              rw [HBad.out, beq_eq_false_iff_ne.2 hy0, Bool.false_or]
              by_cases h : K = 8
              · rw [decide_eq_false (show ¬ 127 < Y by omega), Bool.and_false]
              · rw [decide_eq_false h, Bool.false_and]
            have HF : Hid (R = .tuple #[.int .i64 (bif decide (127 < X) then -V - 1 else V), .int .i64 (M : Int), .bool true]) := by
              rw [HR.out, HB.out, hb, HVal.out, hV2, HM.out]
              exact Lib.hid rfl
            have hxor : bits .xor .i64 (-1) V = -V - 1 := by rw [hV2]; exact not_i64 _ (by omega) (by omega)
            clear honum hb HBad HVal HB hbig hV2
            by_cases h127 : 127 < X
            · rw [decide_eq_true h127] at HF
              have h127i : (127 : Int) < (X : Int) := by omega
              go_wp2
              go_ret3
              exact ⟨by rw [HF.out]; rfl, KB.out⟩
            · rw [decide_eq_false h127] at HF
              have h127i : ¬ (127 : Int) < (X : Int) := by omega
              go_wp2
              go_ret3
              exact ⟨by rw [HF.out]; rfl, KB.out⟩
/-- the number with which a string begins -/
theorem octHead_any (w : World) (s : ByteArray) (hsz : (s.size : Int) ≤ 140737488355328) : Calls Tryz.prog 127 #[.string s] w fun e w' => e = .returned (headV (headI s.data.toList)) ∧ Keeps No w w' := by
  cases he : s.data.toList with
  | nil =>
    rw [← he]
    refine head_none w s ?_
    have := congrArg List.length he
    simpa using this
  | cons x t =>
    rw [← he]
    by_cases h8 : 8 < x.toNat % 128
    · exact head_far w s x t he hsz (.inl h8)
    · by_cases hl : t.length < x.toNat % 128
      · exact head_far w s x t he hsz (.inr hl)
      · exact head_in w s x t he hsz (by omega) (by omega)
end Go.Proofs.YtpbpgjfdledgoaaGreatDoor
