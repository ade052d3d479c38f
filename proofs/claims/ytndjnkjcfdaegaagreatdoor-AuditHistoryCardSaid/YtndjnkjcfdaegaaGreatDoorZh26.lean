/-
  Texts in one: LeC, LeI. No conditions of their own.
-/
import Derived.Test.YtndjnkjcfdaegaaGreatDoorZh25
import Derived.Test.YtndjnkjcfdaegaaGreatDoorZh21
set_option linter.all false

/-
  octet.Int: numbers as bytes. No conditions of its own.
-/
namespace Go.Proofs.YtndjnkjcfdaegaaGreatDoor
open Go.RowKit Go.Shelf Go.Sort Go.Joins

theorem bitLen_osz : ∀ (k m : Nat), k ≤ 8 → m < 256 ^ k → (Lib.bitLen m + 7) / 8 = oszF k m
  | 0, m, _, h => by
    have : m = 0 := by simpa using h
    subst this
    rfl
  | k + 1, m, hk, h => by
    by_cases h0 : m = 0
    · subst h0; rfl
    · rw [oszF_step k m h0]
      have h2 : m / 256 < 256 ^ k := by rw [Nat.div_lt_iff_lt_mul (by omega)]; rw [Nat.pow_succ] at h; exact h
      have h64 : m < 18446744073709551616 := by
        have : 256 ^ (k + 1) ≤ 256 ^ 8 := Nat.pow_le_pow_right (by omega) hk
        rw [pow8] at this
        omega
      by_cases h256 : 256 ≤ m
      · rw [Lib.bitLen_shift8 m h256 h64, ← bitLen_osz k (m / 256) (by omega) h2]
        omega
      · have e : m / 256 = 0 := by omega
        have h1 := Lib.bitLen_le8 ⟨m, by omega⟩
        have h3 := Lib.bitLen_half m h0 h64
        dsimp only at h1
        rw [e]
        have : oszF k 0 = 0 := by cases k <;> rfl
        omega
theorem Tryz.infoU8 : (Tryz.prog.info? 5).map (fun i => (i.zero, i.size, i.bytes)) = some (some (.int .u8 0), 1, 1) := by kernel_rfl
def u8V (x : UInt8) : Value := .int .u8 x.toNat
abbrev OwnB (w : World) (base : Nat) (v : Value) (L : Nm) : Prop := w.ownsRow base 5 1 v L.length (L.map u8V)
theorem OwnB.snoc {w : World} {base : Nat} {v : Value} {L : Nm} {x : UInt8} {y : Value} (hx : y = u8V x) (h : w.ownsRow base 5 1 v (L.length + 1) (L.map u8V ++ [y])) : OwnB w base v (L ++ [x]) := by
  unfold OwnB
  rw [List.length_append, List.map_append, List.length_singleton, List.map_singleton, ← hx]
  exact h
theorem ohigh_at : ∀ (k m j : Nat) (h : j < (ohigh m k).length), (ohigh m k)[j] = UInt8.ofNat (m / 256 ^ (k - 1 - j) % 256)
  | 0, m, j, h => by simp [ohigh] at h
  | k + 1, m, j, h => by
    rw [ohigh_length] at h
    have hl := ohigh_length k (m / 256)
    by_cases hj : j < k
    · have e : (ohigh m (k + 1))[j]'(by rw [ohigh_length]; exact h) = (ohigh (m / 256) k)[j]'(by omega) := by
        simp only [ohigh]
        rw [List.getElem_append_left]
      rw [e, ohigh_at k (m / 256) j (by omega), Nat.div_div_eq_div_mul]
      have e2 : k + 1 - 1 - j = (k - 1 - j) + 1 := by omega
      rw [e2, Nat.pow_succ, Nat.mul_comm 256]
    · have hjk : j = k := by omega
      subst hjk
      have e : (ohigh m (j + 1))[j]'(by rw [ohigh_length]; exact h) = UInt8.ofNat (m % 256) := by
        simp only [ohigh]
        rw [List.getElem_append_right (by omega)]
        simp [hl]
      rw [e]
      have : j + 1 - 1 - j = 0 := by omega
      rw [this]
      simp
theorem pow256 (k : Nat) : (2 : Int) ^ (8 * k) = (((256 : Nat) ^ k : Nat) : Int) := by
  induction k with
  | zero => rfl
  | succ k ih =>
    rw [Nat.mul_succ, Int.pow_add, ih, Nat.pow_succ]
    rfl
def LayPost2 (w : World) (base : Nat) (v : Value) (L : Nm) (e : Ending) (w' : World) : Prop := ∃ v', e = .returned v' ∧ OwnB w' base v' L ∧ Keeps (Of v) w w' ∧ Newer w v v'
set_option maxRecDepth 100000 in
set_option maxHeartbeats 4000000 in
theorem lay_in (w : World) (base : Nat) (hbw : base ≤ w.heap.size) (v : Value) (L : Nm) (hv : OwnB w base v L) (hL : (L.length : Int) ≤ 70368744177664) (n : Int) (hn0 : 0 ≤ n) (hn1 : n ≤ 9223372036854775807) :
    Calls Tryz.prog 152 #[v, .int .i64 n] w (LayPost2 w base v (L ++ layI n)) := by
  obtain ⟨i0, hi, hz0, hz1, hz2⟩ := info_parts Tryz.infoU8
  obtain ⟨M, rfl⟩ := Int.eq_ofNat_of_zero_le hn0
  obtain ⟨S, hS⟩ : ∃ S, S = osz M := ⟨_, rfl⟩
  have hS8 : S ≤ 8 := by rw [hS]; exact osz_le M
  have HB : Hid (Calls Tryz.prog 172 #[.int .u64 M] w fun e w' => e = .returned (.int .i64 (Lib.bitLen M)) ∧ w' = w) := Lib.hid (Tryz.bits_Len64 M w (by omega) (by omega))
  have hbs := bitLen_osz 8 M (Nat.le_refl _) (by rw [pow8]; omega)
  have hb64 := Lib.bitLen_le M 64 (Nat.le_refl _) (by omega)
  obtain ⟨BL, hBL⟩ : ∃ b, b = Lib.bitLen M := ⟨_, rfl⟩
  rw [← hBL] at HB hbs hb64
  have hdiv : ((BL : Int) + 7) / 8 = (S : Int) := by
    have : (BL + 7) / 8 = S := by rw [hbs, hS]; rfl
    omega
  have HLay : Hid (layI (M : Int) = UInt8.ofNat S :: ohigh M S) := Lib.hid (by
    unfold layI
    rw [mag_nonneg (by omega), decide_eq_false (by omega), Int.toNat_natCast, ← hS, cond_false, Nat.zero_add])
  have HV := Lib.hid hv
  obtain ⟨oa, oc, rfl⟩ := ownsRow_slice hv
  have HS := Lib.hid hS
  have Hbw := Lib.hid hbw
  clear hBL hbs hS hv hbw
  go_enter Tryz.func152, Tryz.ntmps152
  go_wp2_with fail
  (with_reducible refine HB.out.mono ?_)
  rintro e w1 ⟨rfl, hw⟩
  have hw := hw.symm
  subst hw
  have hO' : (w.alloc (.cells #[.int .u8 S] 5)).ownsRow base 5 1 (.slice oa L.length oc) L.length (L.map u8V) := HV.out.alloc _
  have hlit : Reads (w.alloc (.cells #[.int .u8 S] 5)) 1 (.slice (some ⟨w.heap.size, 0, none⟩) 1 1) 1 [.int .u8 S] := Reads.ofOwn (World.ownsRow_lit (base := 0) w #[.int .u8 S] 1 (Nat.zero_le _) (by unfold maxLen; omega) rfl) (by simp [Value.oneCell'])
  go_wp2_with (at_builtin; refine wpList_append_reads rfl (.tmp 17) (.tmp 22) 163 rfl base 5 i0 _ 1 1 Tryz.underlying163 hi hz0 hz1 hz2 rfl (by decide) _ L.length _ rfl hO' _ 1 _ rfl hlit (by unfold maxLen; omega) (by omega) (by have := Hbw.out; simp; omega) ?_; intro v' w2 hown2 hk2 hnew _)
  have O2 : Hid (OwnB w2 base v' (L ++ [UInt8.ofNat S])) := Lib.hid (OwnB.snoc (by unfold u8V; rw [UInt8.toNat_ofNat']; congr 1; omega) hown2)
  have N2 : Hid (Newer w (.slice oa L.length oc) v') := Lib.hid (fun k hk => by rcases hnew k hk with e | e; exact .inl e; exact .inr (by simp at e; omega))
  have K2 : Hid (Keeps (Of (.slice oa L.length oc)) w w2) := Lib.hid (((Keeps.refl w).alloc _).trans hk2 (fun _ _ h => h))
  clear hown2 hk2 hnew hO' hlit
  go_loopw [0, 7] (fun v q wr => ∃ j : Nat, j ≤ S ∧ q = .int .i64 ((S : Int) - 1 - j) ∧ OwnB wr base v (L ++ [UInt8.ofNat S] ++ (ohigh M S).take j) ∧ Newer w (.slice oa L.length oc) v ∧ Keeps (Of (.slice oa L.length oc)) w wr) (fun _ q _ => (intOf q + 1).toNat)
  case atStart => exact ⟨0, Nat.zero_le _, by simp, by rw [List.take_zero, List.append_nil]; exact O2.out, N2.out, K2.out⟩
  case round =>
    obtain ⟨j, hj, rfl, hO, hN, hK⟩ := hrel
    have hHl := ohigh_length S M
    obtain ⟨LJ, hLJ⟩ : ∃ l, l = L ++ [UInt8.ofNat S] ++ (ohigh M S).take j := ⟨_, rfl⟩
    rw [← hLJ] at hO
    have hLl : (LJ.length : Int) ≤ 70368744177673 := by
      rw [hLJ, List.length_append, List.length_append, List.length_take]
      simp only [List.length_singleton]
      omega
    have HLJ := Lib.hid hLJ
    have OJ := Lib.hid hO
    have NJ := Lib.hid hN
    have KJ := Lib.hid hK
    have HHl := Lib.hid hHl
    obtain ⟨oa2, oc2, rfl⟩ := ownsRow_slice hO
    clear hO hN hK hLJ hHl
    by_cases hlt : j < S
    · have hq0 : (0 : Int) ≤ (S : Int) - 1 - j := by omega
      obtain ⟨Q, hQ⟩ : ∃ Q : Int, Q = (S : Int) - 1 - j := ⟨_, rfl⟩
      rw [← hQ] at hq0 ⊢
      have HQ := Lib.hid hQ
      clear hQ
      have hq1 : Q ≤ 7 := by have := HQ.out; omega
      obtain ⟨D, hD⟩ : ∃ D, D = M / 256 ^ (S - 1 - j) := ⟨_, rfl⟩
      have hdv : (M : Int) / 2 ^ (8 * Q).toNat = (D : Int) := by
        have e1 : (8 * Q).toNat = 8 * (S - 1 - j) := by have := HQ.out; omega
        rw [e1, hD, pow256 (S - 1 - j)]
        rfl
      have hDM : (D : Int) ≤ 9223372036854775807 := by
        have : D ≤ M := by rw [hD]; exact Nat.div_le_self _ _
        omega
      have HN : Hid (LJ ++ [UInt8.ofNat (D % 256)] = L ++ [UInt8.ofNat S] ++ (ohigh M S).take (j + 1)) := by
        refine Lib.hid ?_
        have hjl : j < (ohigh M S).length := by rw [HHl.out]; exact hlt
        rw [HLJ.out, List.take_succ_eq_append_getElem hjl, ohigh_at S M j hjl, ← hD]
        simp only [List.append_assoc]
      have HQ2 : Hid (wrap64 (Q - 1) = (S : Int) - 1 - ((j + 1 : Nat) : Int)) := Lib.hid (by rw [IntWalk.wrap64_in _ (by omega)]; have := HQ.out; omega)
      clear hD
      have hO' : (wr.alloc (.cells #[.int .u8 ((D : Int) % 256)] 5)).ownsRow base 5 1 (.slice oa2 LJ.length oc2) LJ.length (LJ.map u8V) := OJ.out.alloc _
      have hlit : Reads (wr.alloc (.cells #[.int .u8 ((D : Int) % 256)] 5)) 1 (.slice (some ⟨wr.heap.size, 0, none⟩) 1 1) 1 [.int .u8 ((D : Int) % 256)] := Reads.ofOwn (World.ownsRow_lit (base := 0) wr #[.int .u8 ((D : Int) % 256)] 1 (Nat.zero_le _) (by unfold maxLen; omega) rfl) (by simp [Value.oneCell'])
      have HBR : Hid (base ≤ wr.heap.size) := Lib.hid (Nat.le_trans Hbw.out KJ.out.size)
      go_wp2_with (at_builtin; refine wpList_append_reads rfl (.tmp 30) (.tmp 36) 163 rfl base 5 i0 _ 1 1 Tryz.underlying163 hi hz0 hz1 hz2 rfl (by decide) _ LJ.length _ rfl hO' _ 1 _ rfl hlit (by unfold maxLen; omega) (by omega) (by have := HBR.out; simp; omega) ?_; intro v5 w5 hown5 hk5 hnew5 _)
      have O5 : Hid (OwnB w5 base v5 (LJ ++ [UInt8.ofNat (D % 256)])) := Lib.hid (OwnB.snoc (by unfold u8V; rw [UInt8.toNat_ofNat']; congr 1; omega) hown5)
      have N5 : Hid (Newer w (.slice oa L.length oc) v5) := Lib.hid (fun k hk => by
        rcases hnew5 k hk with e | e
        · exact NJ.out k e
        · have := KJ.out.size
          exact .inr (by simp at e; omega))
      have K5 : Hid (Keeps (Of (.slice oa L.length oc)) w w5) := Lib.hid (KJ.out.trans (((Keeps.refl wr).alloc _).trans hk5 (fun _ _ h => h)) (fun k hk h => by
        rcases NJ.out k h with e | e
        · exact e
        · omega))
      clear hown5 hk5 hnew5 hO' hlit
      go_wp2
      go_roundw
      case rel => exact ⟨j + 1, by omega, by rw [← HQ2.out, IntWalk.wrap64_in _ (by have := HQ.out; omega)], by rw [← HN.out]; exact O5.out, N5.out, K5.out⟩
      case measure => have := HQ.out; simp [intOf]; omega
    · have hjS : j = S := by omega
      have hF : Hid (LJ = L ++ layI (M : Int)) := by
        refine Lib.hid ?_
        rw [HLJ.out, HLay.out, hjS, List.take_of_length_le (by rw [HHl.out]; exact Nat.le_refl _)]
        simp
      obtain ⟨Q, hQ⟩ : ∃ Q : Int, Q = (S : Int) - 1 - j := ⟨_, rfl⟩
      have hq0 : Q < 0 := by omega
      rw [← hQ]
      clear hQ hjS
      go_wp2
      go_ret
      exact ⟨_, rfl, by rw [← hF.out]; exact OJ.out, KJ.out, NJ.out⟩
set_option maxRecDepth 100000 in
set_option maxHeartbeats 4000000 in
theorem lay_neg (w : World) (base : Nat) (hbw : base ≤ w.heap.size) (v : Value) (L : Nm) (hv : OwnB w base v L) (hL : (L.length : Int) ≤ 70368744177664) (n : Int) (hn0 : n < 0) (hn1 : -9223372036854775808 ≤ n) :
    Calls Tryz.prog 152 #[v, .int .i64 n] w (LayPost2 w base v (L ++ layI n)) := by
  obtain ⟨i0, hi, hz0, hz1, hz2⟩ := info_parts Tryz.infoU8
  obtain ⟨M, hM⟩ := Int.eq_ofNat_of_zero_le (show 0 ≤ -n - 1 by omega)
  have hxor : bits .xor .i64 (-1) n = (M : Int) := by rw [not_i64 n hn1 (by omega), hM]
  have hM1 : (M : Int) ≤ 9223372036854775807 := by omega
  have hM0 : (0 : Int) ≤ (M : Int) := by omega
  have hwu : IntKind.u64.wrap (M : Int) = (M : Int) := by rw [IntKind.wrap_u64]; omega
  have hmag : mag n = M := by rw [mag_neg hn0]; omega
  obtain ⟨S, hS⟩ : ∃ S, S = osz M := ⟨_, rfl⟩
  have hS8 : S ≤ 8 := by rw [hS]; exact osz_le M
  have HB : Hid (Calls Tryz.prog 172 #[.int .u64 M] w fun e w' => e = .returned (.int .i64 (Lib.bitLen M)) ∧ w' = w) := Lib.hid (Tryz.bits_Len64 M w (by omega) (by omega))
  have hbs := bitLen_osz 8 M (Nat.le_refl _) (by rw [pow8]; omega)
  have hb64 := Lib.bitLen_le M 64 (Nat.le_refl _) (by omega)
  obtain ⟨BL, hBL⟩ : ∃ b, b = Lib.bitLen M := ⟨_, rfl⟩
  rw [← hBL] at HB hbs hb64
  have hdiv : ((BL : Int) + 7) / 8 = (S : Int) := by
    have : (BL + 7) / 8 = S := by rw [hbs, hS]; rfl
    omega
  have HLay : Hid (layI n = UInt8.ofNat (128 + S) :: ohigh M S) := Lib.hid (by
    unfold layI
    rw [hmag, decide_eq_true hn0, ← hS, cond_true])
  have HV := Lib.hid hv
  obtain ⟨oa, oc, rfl⟩ := ownsRow_slice hv
  have HS := Lib.hid hS
  have Hbw := Lib.hid hbw
  clear hBL hbs hS hv hbw hM hmag
  go_enter Tryz.func152, Tryz.ntmps152
  go_wp2_with fail
  (with_reducible refine HB.out.mono ?_)
  rintro e w1 ⟨rfl, hw⟩
  have hw := hw.symm
  subst hw
  have hO' : (w.alloc (.cells #[.int .u8 (128 + (S : Int))] 5)).ownsRow base 5 1 (.slice oa L.length oc) L.length (L.map u8V) := HV.out.alloc _
  have hlit : Reads (w.alloc (.cells #[.int .u8 (128 + (S : Int))] 5)) 1 (.slice (some ⟨w.heap.size, 0, none⟩) 1 1) 1 [.int .u8 (128 + (S : Int))] := Reads.ofOwn (World.ownsRow_lit (base := 0) w #[.int .u8 (128 + (S : Int))] 1 (Nat.zero_le _) (by unfold maxLen; omega) rfl) (by simp [Value.oneCell'])
  go_wp2_with (at_builtin; refine wpList_append_reads rfl (.tmp 17) (.tmp 22) 163 rfl base 5 i0 _ 1 1 Tryz.underlying163 hi hz0 hz1 hz2 rfl (by decide) _ L.length _ rfl hO' _ 1 _ rfl hlit (by unfold maxLen; omega) (by omega) (by have := Hbw.out; simp; omega) ?_; intro v' w2 hown2 hk2 hnew _)
  have O2 : Hid (OwnB w2 base v' (L ++ [UInt8.ofNat (128 + S)])) := Lib.hid (OwnB.snoc (by unfold u8V; rw [UInt8.toNat_ofNat']; congr 1; omega) hown2)
  have N2 : Hid (Newer w (.slice oa L.length oc) v') := Lib.hid (fun k hk => by rcases hnew k hk with e | e; exact .inl e; exact .inr (by simp at e; omega))
  have K2 : Hid (Keeps (Of (.slice oa L.length oc)) w w2) := Lib.hid (((Keeps.refl w).alloc _).trans hk2 (fun _ _ h => h))
  clear hown2 hk2 hnew hO' hlit
  go_loopw [0, 7] (fun v q wr => ∃ j : Nat, j ≤ S ∧ q = .int .i64 ((S : Int) - 1 - j) ∧ OwnB wr base v (L ++ [UInt8.ofNat (128 + S)] ++ (ohigh M S).take j) ∧ Newer w (.slice oa L.length oc) v ∧ Keeps (Of (.slice oa L.length oc)) w wr) (fun _ q _ => (intOf q + 1).toNat)
  case atStart => exact ⟨0, Nat.zero_le _, by simp, by rw [List.take_zero, List.append_nil]; exact O2.out, N2.out, K2.out⟩
  case round =>
    obtain ⟨j, hj, rfl, hO, hN, hK⟩ := hrel
    have hHl := ohigh_length S M
    obtain ⟨LJ, hLJ⟩ : ∃ l, l = L ++ [UInt8.ofNat (128 + S)] ++ (ohigh M S).take j := ⟨_, rfl⟩
    rw [← hLJ] at hO
    have hLl : (LJ.length : Int) ≤ 70368744177673 := by
      rw [hLJ, List.length_append, List.length_append, List.length_take]
      simp only [List.length_singleton]
      omega
    have HLJ := Lib.hid hLJ
    have OJ := Lib.hid hO
    have NJ := Lib.hid hN
    have KJ := Lib.hid hK
    have HHl := Lib.hid hHl
    obtain ⟨oa2, oc2, rfl⟩ := ownsRow_slice hO
    clear hO hN hK hLJ hHl
    by_cases hlt : j < S
    · have hq0 : (0 : Int) ≤ (S : Int) - 1 - j := by omega
      obtain ⟨Q, hQ⟩ : ∃ Q : Int, Q = (S : Int) - 1 - j := ⟨_, rfl⟩
      rw [← hQ] at hq0 ⊢
      have HQ := Lib.hid hQ
      clear hQ
      have hq1 : Q ≤ 7 := by have := HQ.out; omega
      obtain ⟨D, hD⟩ : ∃ D, D = M / 256 ^ (S - 1 - j) := ⟨_, rfl⟩
      have hdv : (M : Int) / 2 ^ (8 * Q).toNat = (D : Int) := by
        have e1 : (8 * Q).toNat = 8 * (S - 1 - j) := by have := HQ.out; omega
        rw [e1, hD, pow256 (S - 1 - j)]
        rfl
      have hDM : (D : Int) ≤ 9223372036854775807 := by
        have : D ≤ M := by rw [hD]; exact Nat.div_le_self _ _
        omega
      have HN : Hid (LJ ++ [UInt8.ofNat (D % 256)] = L ++ [UInt8.ofNat (128 + S)] ++ (ohigh M S).take (j + 1)) := by
        refine Lib.hid ?_
        have hjl : j < (ohigh M S).length := by rw [HHl.out]; exact hlt
        rw [HLJ.out, List.take_succ_eq_append_getElem hjl, ohigh_at S M j hjl, ← hD]
        simp only [List.append_assoc]
      have HQ2 : Hid (wrap64 (Q - 1) = (S : Int) - 1 - ((j + 1 : Nat) : Int)) := Lib.hid (by rw [IntWalk.wrap64_in _ (by omega)]; have := HQ.out; omega)
      clear hD
      have hO' : (wr.alloc (.cells #[.int .u8 ((D : Int) % 256)] 5)).ownsRow base 5 1 (.slice oa2 LJ.length oc2) LJ.length (LJ.map u8V) := OJ.out.alloc _
      have hlit : Reads (wr.alloc (.cells #[.int .u8 ((D : Int) % 256)] 5)) 1 (.slice (some ⟨wr.heap.size, 0, none⟩) 1 1) 1 [.int .u8 ((D : Int) % 256)] := Reads.ofOwn (World.ownsRow_lit (base := 0) wr #[.int .u8 ((D : Int) % 256)] 1 (Nat.zero_le _) (by unfold maxLen; omega) rfl) (by simp [Value.oneCell'])
      have HBR : Hid (base ≤ wr.heap.size) := Lib.hid (Nat.le_trans Hbw.out KJ.out.size)
      go_wp2_with (at_builtin; refine wpList_append_reads rfl (.tmp 30) (.tmp 36) 163 rfl base 5 i0 _ 1 1 Tryz.underlying163 hi hz0 hz1 hz2 rfl (by decide) _ LJ.length _ rfl hO' _ 1 _ rfl hlit (by unfold maxLen; omega) (by omega) (by have := HBR.out; simp; omega) ?_; intro v5 w5 hown5 hk5 hnew5 _)
      have O5 : Hid (OwnB w5 base v5 (LJ ++ [UInt8.ofNat (D % 256)])) := Lib.hid (OwnB.snoc (by unfold u8V; rw [UInt8.toNat_ofNat']; congr 1; omega) hown5)
      have N5 : Hid (Newer w (.slice oa L.length oc) v5) := Lib.hid (fun k hk => by
        rcases hnew5 k hk with e | e
        · exact NJ.out k e
        · have := KJ.out.size
          exact .inr (by simp at e; omega))
      have K5 : Hid (Keeps (Of (.slice oa L.length oc)) w w5) := Lib.hid (KJ.out.trans (((Keeps.refl wr).alloc _).trans hk5 (fun _ _ h => h)) (fun k hk h => by
        rcases NJ.out k h with e | e
        · exact e
        · omega))
      clear hown5 hk5 hnew5 hO' hlit
      go_wp2
      go_roundw
      case rel => exact ⟨j + 1, by omega, by rw [← HQ2.out, IntWalk.wrap64_in _ (by have := HQ.out; omega)], by rw [← HN.out]; exact O5.out, N5.out, K5.out⟩
      case measure => have := HQ.out; simp [intOf]; omega
    · have hjS : j = S := by omega
      have hF : Hid (LJ = L ++ layI n) := by
        refine Lib.hid ?_
        rw [HLJ.out, HLay.out, hjS, List.take_of_length_le (by rw [HHl.out]; exact Nat.le_refl _)]
        simp
      obtain ⟨Q, hQ⟩ : ∃ Q : Int, Q = (S : Int) - 1 - j := ⟨_, rfl⟩
      have hq0 : Q < 0 := by omega
      rw [← hQ]
      clear hQ hjS
      go_wp2
      go_ret
      exact ⟨_, rfl, by rw [← hF.out]; exact OJ.out, KJ.out, NJ.out⟩
theorem octLay_any (w : World) (base : Nat) (hbw : base ≤ w.heap.size) (v : Value) (L : Nm) (hv : OwnB w base v L) (hL : (L.length : Int) ≤ 70368744177664) (n : Int) (hn : i64 n) :
    Calls Tryz.prog 152 #[v, .int .i64 n] w (LayPost2 w base v (L ++ layI n)) := by
  by_cases h : n < 0
  · exact lay_neg w base hbw v L hv hL n h hn.1
  · exact lay_in w base hbw v L hv hL n (by omega) hn.2
end Go.Proofs.YtndjnkjcfdaegaaGreatDoor

/-
  octet.Int: numbers, one behind the other. No conditions of its own.
-/
namespace Go.Proofs.YtndjnkjcfdaegaaGreatDoor
open Go.RowKit Go.Shelf Go.Sort Go.Joins

/-- a row of bytes of the call's own, as a string -/
theorem conv_own {w : World} {base : Nat} {v : Value} {L : Nm} (h : OwnB w base v L) : (convert 163 9 v).run Tryz.prog w = .ok (.string ⟨L.toArray⟩) w := by
  rcases h.2 with ⟨rfl, h0⟩ | ⟨g, cap, cur, rfl, _⟩
  · have : L = [] := List.eq_nil_of_length_eq_zero h0
    subst this
    rw [run_convert_bytes_string _ _ _ _ _ _ _ Tryz.underlying163 Tryz.underlying5 Tryz.underlying9]
    simp [Conv.bytesToString, Sem.run_pure]
    rfl
  · rw [run_convert_bytes_string _ _ _ _ _ _ _ Tryz.underlying163 Tryz.underlying5 Tryz.underlying9]
    have hl : (loadCells ⟨g, 0, none⟩ L.length).run Tryz.prog w = .ok ((L.map fun x => ((x.toNat : Nat) : Int)).map (Value.int .u8)).toArray w := by
      have := run_loadCells_list (P := Tryz.prog) w ⟨g, 0, none⟩ (L.map u8V) (fun j u hu => h.cells (g := g) rfl j u hu)
      rw [List.length_map] at this
      rw [List.map_map]
      exact this
    rw [run_bytesToString w ⟨g, 0, none⟩ L.length cap _ hl, push_fold]
    congr 2
    rw [List.map_map]
    have : L.map ((fun n : Int => UInt8.ofNat n.toNat) ∘ fun x : UInt8 => ((x.toNat : Nat) : Int)) = L := by
      conv => rhs; rw [← List.map_id L]
      apply List.map_congr_left
      intro x _
      simp
    rw [this]
    simp
abbrev RdZ (w : World) (v : Value) (l : List Int) : Prop := Reads w 1 v l.length (l.map fun n : Int => .int .i64 n)
theorem RdZ.cell {w : World} {v : Value} {l : List Int} (h : RdZ w v l) (hl : 0 < l.length) : ∃ b off c, v = .slice (some ⟨b, off, none⟩) l.length c ∧ l.length ≤ c ∧ c ≤ maxLen ∧ b < w.heap.size ∧ ∀ (j : Nat) (n : Int), l[j]? = some n → w.cell? ⟨b, off + j, none⟩ = some (.int .i64 n) := by
  obtain ⟨b, off, c, hv, h1, h2, h3, h4⟩ := h.addr (by simpa using hl)
  exact ⟨b, off, c, hv, h1, h2, h3, fun j n hj => h4 j _ (by rw [List.getElem?_map, hj]; rfl)⟩
theorem RdZ.lit (w : World) (l : List Int) (t : TypeId) (hl : l.length ≤ 1000) : RdZ (w.alloc (.cells (l.map fun n : Int => Value.int .i64 n).toArray t)) (.slice (some ⟨w.heap.size, 0, none⟩) l.length l.length) l :=
  Reads.ofOwn (World.ownsRow_lit (base := 0) (size := 1) w (l.map fun n : Int => Value.int .i64 n).toArray l.length (Nat.zero_le _) (by unfold maxLen; omega) (by simp)) (by intro u hu; obtain ⟨n, _, rfl⟩ := List.mem_map.1 hu; rfl)
def bytesZ (l : List Int) : Nm := l.flatMap layI
theorem bytesZ_snoc (l : List Int) (n : Int) : bytesZ (l ++ [n]) = bytesZ l ++ layI n := by simp [bytesZ]
theorem bytesZ_le (l : List Int) : (bytesZ l).length ≤ l.length * 9 := by
  induction l with
  | nil => simp [bytesZ]
  | cons n l ih =>
    have := layI_le n
    have e : bytesZ (n :: l) = layI n ++ bytesZ l := by simp [bytesZ]
    rw [e, List.length_append, List.length_cons]
    omega
def strB (l : Nm) : Value := .string ⟨l.toArray⟩
set_option maxRecDepth 100000 in
set_option maxHeartbeats 2000000 in
theorem octInt_any (w : World) (v : Value) (l : List Int) (hv : RdZ w v l) (hl : l.length ≤ 1000) (hok : ∀ n ∈ l, i64 n) :
    Calls Tryz.prog 102 #[v] w fun e w' => e = .returned (strB (bytesZ l)) ∧ Keeps No w w' := by
  obtain ⟨va, vc, rfl⟩ := hv.slice
  have HV := Lib.hid hv
  have HOK := Lib.hid hok
  have hl1 : (l.length : Int) ≤ 1000 := by omega
  clear hv hok
  go_enter Tryz.func102, Tryz.ntmps102
  go_wp2
  go_loopw [3, 8] (fun b q wr => ∃ k : Nat, k ≤ l.length ∧ q = .int .i64 k ∧ OwnB wr w.heap.size b (bytesZ (l.take k)) ∧ Keeps No w wr) (fun _ q _ => l.length - (intOf q).toNat)
  case atStart => exact ⟨0, Nat.zero_le _, rfl, World.ownsRow_nil _ _ _ _, Keeps.refl _⟩
  case round =>
    obtain ⟨k, hk, rfl, hO, hK⟩ := hrel
    have OJ := Lib.hid hO
    have KJ := Lib.hid hK
    have hk0 : (0 : Int) ≤ (k : Int) := by omega
    by_cases hlt : k < l.length
    · have hki : (k : Int) < (l.length : Int) := by omega
      obtain ⟨b, off, c, he, _, _, _, hx⟩ := RdZ.cell HV.out (by omega)
      simp only [Value.slice.injEq, true_and] at he
      obtain ⟨rfl, rfl⟩ := he
      have hc := hK.cell (hx k _ (List.getElem?_eq_getElem hlt)) (fun h => h)
      obtain ⟨n, hn⟩ : ∃ n, n = l[k] := ⟨_, rfl⟩
      rw [← hn] at hc
      have Hn := Lib.hid (HOK.out n (by rw [hn]; exact List.getElem_mem hlt))
      have HS : Hid (bytesZ (l.take (k + 1)) = bytesZ (l.take k) ++ layI n) := Lib.hid (by rw [List.take_succ_eq_append_getElem hlt, bytesZ_snoc, hn])
      have HB : Hid (((bytesZ (l.take k)).length : Int) ≤ 70368744177664) := Lib.hid (by
        have := bytesZ_le (l.take k)
        rw [List.length_take] at this
        omega)
      clear hx hO hK hn
      go_wp2_with fail
      refine (octLay_any wr w.heap.size KJ.out.size _ (bytesZ (l.take k)) OJ.out HB.out n Hn.out).mono ?_
      rintro e w1 ⟨v1, rfl, ho1, hk1, hnw⟩
      have O1 : Hid (OwnB w1 w.heap.size v1 (bytesZ (l.take (k + 1)))) := Lib.hid (by rw [HS.out]; exact ho1)
      have K1 : Hid (Keeps No w w1) := Lib.hid (KJ.out.trans hk1 (fun i hi h => absurd hi (Nat.not_lt.2 (OJ.out.lt i h).1)))
      clear ho1 hk1 hnw
      go_wp2
      go_roundw
      case rel => exact ⟨k + 1, by omega, by go_num, O1.out, K1.out⟩
      case measure => simp [intOf]; omega
    · have hkl : k = l.length := by omega
      subst hkl
      have hconv := conv_own hO
      rw [List.take_length] at hconv
      have HR : Hid (strB (bytesZ l) = .string ⟨(bytesZ l).toArray⟩) := Lib.hid rfl
      obtain ⟨R, hR⟩ : ∃ R : ByteArray, R = ⟨(bytesZ l).toArray⟩ := ⟨_, rfl⟩
      rw [← hR] at hconv HR
      have hlt2 : ¬ ((l.length : Int) < (l.length : Int)) := by omega
      clear hO hK hR
      go_wp2
      go_ret
      exact ⟨by rw [HR.out]; rfl, KJ.out⟩
end Go.Proofs.YtndjnkjcfdaegaaGreatDoor

