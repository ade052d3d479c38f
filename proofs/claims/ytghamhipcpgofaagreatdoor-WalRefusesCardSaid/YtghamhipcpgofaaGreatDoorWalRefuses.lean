/-
  WalRefuses, as the statement says it: no conditions.
-/
import Derived.Test.YtghamhipcpgofaaGreatDoorWbR
import Derived.Laws.BytesArg
namespace Go.Proofs.YtghamhipcpgofaaGreatDoor.walRefuses
open Go.ChangeShapes Go.WideShapes Go.ChangeAt Go.RowKit Go.Joins Go.Deep

theorem Tryz.infoU8 : (Tryz.prog.info? 5).map (fun i => (i.zero, i.size, i.bytes)) = some (some (.int .u8 0), 1, 1) := by kernel_rfl
theorem zeros_run {w : World} {g base K : Nat} (h : w.ownsRow base 5 1 (.slice (some ⟨g, 0, none⟩) K K) K (madeCells (Value.int .u8 0).cells (K * 1)).toList) : (convert 40 9 (.slice (some ⟨g, 0, none⟩) K K)).run Tryz.prog w = .ok (.string (strOfNums (List.replicate K 0))) w := by
  refine run_convert_bytes_arg w _ _ Tryz.underlying40 Tryz.underlying5 g 0 K K (List.replicate K 0) (by simp) (fun i hi => ?_) _ Tryz.underlying9
  rw [Nat.zero_add, h.cellAt i (by omega)]
  have : (madeCells (Value.int .u8 0).cells (K * 1)).toList[i]? = some (.int .u8 0) := by
    rw [show (Value.int IntKind.u8 0).cells = #[Value.int .u8 0] from rfl, toList_madeCells_one, Nat.mul_one]
    simp [hi]
  rw [this]
  simp [List.getD, hi]
theorem zeros_str (K : Nat) : (strOfNums (List.replicate K 0)).size = K := by rw [strOfNums_size]; simp

set_option maxRecDepth 100000 in
set_option maxHeartbeats 4000000 in
theorem walk (w : World) (va : Value) (A : List Nm) (more : Int) (hL : Laid w w.heap.size) (hA : RdN w va A) :
    Calls Tryz.prog 5 #[va, .int .i64 more] w fun e W' => e = .returned (.bool true) ∧ Keeps No w W' := by
  have HL := Lib.hid hL
  have HA := Lib.hid hA
  obtain ⟨aa, ac, rfl⟩ := hA.slice
  clear hL hA
  obtain ⟨i0, hi, hz0, hz1, hz2⟩ := info_parts Tryz.infoU8
  obtain ⟨m, hm, hm2, hm0⟩ : ∃ m : Nat, (wrap64 (more.tmod 1000 + 1000)).tmod 1000 = (m : Int) ∧ (m : Int) < 1000 ∧ (0 : Int) ≤ (m : Int) := by
    have h1 := Int.tmod_lt_of_pos more (show (0 : Int) < 1000 by omega)
    have h2 := Int.lt_tmod_of_pos more (show (0 : Int) < 1000 by omega)
    have e : wrap64 (more.tmod 1000 + 1000) = more.tmod 1000 + 1000 := IntWalk.wrap64_in _ ⟨by omega, by omega⟩
    rw [e]
    have h3 := Int.tmod_lt_of_pos (more.tmod 1000 + 1000) (show (0 : Int) < 1000 by omega)
    have h4 := Int.tmod_nonneg (a := more.tmod 1000 + 1000) 1000 (by omega)
    exact ⟨((more.tmod 1000 + 1000).tmod 1000).toNat, by omega, by omega, by omega⟩
  obtain ⟨K, hK⟩ : ∃ K : Nat, (4096 : Int) + (m : Int) = (K : Int) := ⟨4096 + m, by omega⟩
  have HK : Hid (4096 ≤ K ∧ K ≤ 5100) := Lib.hid ⟨by omega, by omega⟩
  obtain ⟨Z, hZ⟩ : ∃ Z, Z = strOfNums (List.replicate K 0) := ⟨_, rfl⟩
  have HZ : Hid (Z.size = K) := by rw [hZ]; exact Lib.hid (zeros_str K)
  have HZe := Lib.hid hZ
  obtain ⟨Y, hY⟩ : ∃ Y, Y = strOfNums (List.replicate 65537 0) := ⟨_, rfl⟩
  have HY : Hid (Y.size = 65537) := by rw [hY]; exact Lib.hid (zeros_str 65537)
  have HYe := Lib.hid hY
  clear hZ hY
  obtain ⟨T, hT⟩ : ∃ T : Nm, toB T = Z ∧ T.length = K := ⟨Z.data.toList, by simp [toB], by rw [← HZ.out]; simp⟩
  have HT := Lib.hid hT
  clear hT
  go_enter Tryz.func5, Tryz.ntmps5
  go_wp2_with fail
  refine (few_any w _ A HA.out).mono ?_
  rintro e w1 ⟨v1, rfl, ho1, hk1⟩
  obtain ⟨L, hL⟩ : ∃ L, L = fewL A := ⟨_, rfl⟩
  have hlen := fewL_length A
  have hle := fewL_le A
  rw [← hL] at ho1 hlen hle
  obtain ⟨fa, fc, rfl⟩ := ownsRow_slice ho1
  have H1 := Lib.hid ho1
  have K1 := Lib.hid hk1
  have Hle := Lib.hid hle
  have Hlen := Lib.hid hlen
  have L1 := Lib.hid (HL.out.kept K1.out (fun _ h => h.elim))
  have B1 := Lib.hid K1.out.size
  clear ho1 hk1 hle hlen hL
  go_wp2_with fail
  refine (made_any L1.out B1.out).mono ?_
  rintro e w2 ⟨p, b, l, v, rfl, hW, ho, hp, hb, hl, hk2⟩
  have I2 : Hid (LogIn w1 w2 w.heap.size l p b v g0 d0) := Lib.hid ⟨hW, ownsRow_less ho B1.out, fun i hi => by
    rcases hi with e | e | e | e
    · omega
    · omega
    · omega
    · exact (ho.lt i e).1, hk2⟩
  clear hW ho hp hb hl hk2
  obtain ⟨A1, z1, g1, d1, he1, G1, hr1', hx1, hl1, hf1'⟩ := append_good good0 L (fun t ht => by have := Hle.out t ht; omega) (by have := Hlen.out; simp [Sg.next]; omega) (by have := Hlen.out; simp; omega)
  have hz : (⟨0, [], 0⟩ : Sg).next = 0 := rfl
  rw [hz, Nat.zero_add] at hx1
  have hr1 : recsOf (A1 ++ [z1]) = L := by rw [hr1']; rfl
  have HAll : Hid (g1.all d1 = L) := Lib.hid (by rw [all_good G1, hr1])
  have HB : Hid (BigIn L g1 d1 0) := Lib.hid ⟨A1, z1, G1, by rw [hr1]; rfl, hx1, by omega, .inl rfl⟩
  have HN1 : Hid (g1.next = L.length) := Lib.hid (by rw [G1.g]; exact hx1)
  have He1 := Lib.hid he1
  have Hfew : Hid (g1.firsts.length ≤ 64 ∧ g1.next ≤ 100) := Lib.hid (by have := HB.out.facts Hlen.out; exact ⟨this.2, this.1⟩)
  have HR1 : Hid (RdN w1 (.slice fa L.length fc) L) := Lib.hid (RdN.ofOwn H1.out)
  have Hblk : Hid (∀ i, (Value.slice fa L.length fc).ownBlock = some i → i < w1.heap.size) := Lib.hid (fun i hi => (H1.out.lt i hi).2)
  have hLi : (L.length : Int) ≤ 30 := by have := Hlen.out; omega
  clear hz hr1 hr1' hf1' G1 he1 hl1 hx1
  go_wp2_with fail
  refine (I2.out.append_any L1.out B1.out _ (L.map toB) (RdN.str (HR1.out.kept' I2.out.kp (fun _ _ h => h))) (fun i hi hs => by have := I2.out.new i hs; have := Hblk.out i hi; omega) (by have := Hlen.out; simp [g0]; omega) (by have := Hlen.out; simp [g0]; omega) 0 g1 d1 He1.out).mono ?_
  rintro e w3 ⟨rfl, ⟨v3, h3⟩, _⟩
  have I3 := Lib.hid h3
  clear h3
  go_wp2_with (at_make; refine wpList_make_full _ rfl _ _ 40 rfl w.heap.size 5 i0 (.int .u8 0) 1 Tryz.underlying40 hi hz0 hz1 _ _ _ _ 65537 rfl rfl rfl rfl (by rw [hz2]; omega) (by unfold maxLen; omega) (Nat.le_trans B1.out I3.out.kp.size) ?_; intro w4 hrow4 hg4; have hcv := zeros_run hrow4; rw [← HYe.out] at hcv; have I4 := Lib.hid (I3.out.step ((Keeps.refl (S := No) w3).grown hg4 (fun k hk _ => by cases hk))); clear hrow4 hg4)
  clear hcv
  refine ((I4.out.step ((Keeps.refl (S := No) w4).alloc _)).append_any L1.out B1.out _ [⟨#[120]⟩, Y, ⟨#[121]⟩] (Reads.ofOwn (World.ownsRow_lit w4 #[.string ⟨#[120]⟩, .string Y, .string ⟨#[121]⟩] 3 (Nat.zero_le _) (by unfold maxLen; omega) rfl) (by simp [Value.oneCell'])) (fun i hi hs => by cases hi; exact absurd (I4.out.lt _ hs) (Nat.lt_irrefl _)) (by have := Hfew.out.2; simp; omega) (by have := Hfew.out.1; simp; omega) 1 g1 d1 (by
    have : List.any [⟨#[120]⟩, Y, ⟨#[121]⟩] longB = true := by
      simp only [List.any_cons, Bool.or_eq_true]
      right; left
      unfold longB
      exact decide_eq_true (by have := HY.out; omega)
    unfold Lg.append
    rw [this]
    rfl)).mono ?_
  rintro e w5 ⟨rfl, ⟨v5, h5⟩, _⟩
  have I5 := Lib.hid h5
  clear h5
  go_wp2_with fail
  refine (allLog_any (I5.out.laid L1.out) (Nat.le_trans B1.out I5.out.kp.size) I5.out.log (by have := Hfew.out.1; omega)).mono ?_
  rintro e w6 ⟨v6, rfl, ho6, hk6⟩
  rw [HAll.out] at ho6
  obtain ⟨a6, c6, rfl⟩ := ownsRow_slice ho6
  have I6 := Lib.hid (I5.out.step hk6)
  have R6 := Lib.hid (RdN.ofOwn ho6)
  clear ho6 hk6
  go_wp2_with fail
  refine (same_any w6 _ _ L L R6.out (HR1.out.kept' I6.out.kp (fun _ _ h => h))).mono ?_
  rintro e w7 ⟨rfl, hk7⟩
  rw [decide_eq_true rfl]
  have I7 := Lib.hid (I6.out.step hk7)
  clear hk7
  go_wp2_with fail
  refine (nextLog_any I7.out.log.log).mono ?_
  rintro e w8 ⟨rfl, h8⟩
  have h8 := h8.symm
  subst h8
  rw [HN1.out]
  go_wp2_with (at_make; refine wpList_make_full _ rfl _ _ 40 rfl w.heap.size 5 i0 (.int .u8 0) 1 Tryz.underlying40 hi hz0 hz1 _ _ _ _ K rfl rfl rfl rfl (by rw [hz2]; have := HK.out; omega) (by unfold maxLen; have := HK.out; omega) (Nat.le_trans B1.out I7.out.kp.size) ?_; intro w9 hrow9 hg9; have hcv := zeros_run hrow9; rw [← HZe.out] at hcv; have I9 := Lib.hid (I7.out.step ((Keeps.refl (S := No) w7).grown hg9 (fun k hk _ => by cases hk))); clear hrow9 hg9)
  go_loopw [10] (fun q wr => ∃ (k : Nat) (g : Lg) (d : Ds) (v : Value), q = .int .i64 k ∧ LogIn w1 wr w.heap.size l p b v g d ∧ BigIn L g d k) (fun q _ => 128 - (intOf q).toNat)
  case atStart => exact ⟨0, g1, d1, _, rfl, I9.out, HB.out⟩
  case round =>
    obtain ⟨k, g, d, vr, rfl, hI, hB⟩ := hrel
    have IR := Lib.hid hI
    have Hf := Lib.hid (hB.facts Hlen.out)
    obtain ⟨hk, hs⟩ := big_step (T := T) hB Hlen.out (by have := HT.out.2; have := HK.out; omega) (by have := HT.out.2; have := HK.out; omega)
    have hki : (k : Int) < 128 := by omega
    have hk0 : (0 : Int) ≤ (k : Int) := by omega
    clear hI hB
    rcases hs with ⟨g', d', he, hB'⟩ | ⟨d', he, hE⟩
    · have HE := Lib.hid he
      have HB' := Lib.hid hB'
      clear he hB'
      go_wp2_with fail
      refine ((IR.out.step ((Keeps.refl (S := No) wr).alloc _)).append_any L1.out B1.out _ [Z] (Reads.ofOwn (World.ownsRow_lit wr #[.string Z] 1 (Nat.zero_le _) (by unfold maxLen; omega) rfl) (by simp [Value.oneCell'])) (fun i hi hs => by cases hi; exact absurd (IR.out.lt _ hs) (Nat.lt_irrefl _)) (by have := Hf.out.1; simp; omega) (by have := Hf.out.2; simp; omega) 0 g' d' (by rw [← HT.out.1]; exact HE.out)).mono ?_
      rintro e wn ⟨rfl, ⟨vn, hn⟩, _⟩
      have IN := Lib.hid hn
      clear hn
      go_wp2
      go_roundw
      case rel => exact ⟨k + 1, g', d', vn, by go_num, IN.out, HB'.out⟩
      case measure => simp [intOf]; omega
    · have HE := Lib.hid he
      obtain ⟨d2, he2, hE2⟩ := big_again (T := T) hE (by have := HT.out.2; have := HK.out; omega)
      have HE2 := Lib.hid he2
      have HF := Lib.hid hE2.facts
      clear he hE he2 hE2
      go_wp2_with fail
      refine ((IR.out.step ((Keeps.refl (S := No) wr).alloc _)).append_any L1.out B1.out _ [Z] (Reads.ofOwn (World.ownsRow_lit wr #[.string Z] 1 (Nat.zero_le _) (by unfold maxLen; omega) rfl) (by simp [Value.oneCell'])) (fun i hi hs => by cases hi; exact absurd (IR.out.lt _ hs) (Nat.lt_irrefl _)) (by have := Hf.out.1; simp; omega) (by have := Hf.out.2; simp; omega) 8 g d' (by rw [← HT.out.1]; exact HE.out)).mono ?_
      rintro e wn ⟨rfl, ⟨vn, hn⟩, _⟩
      have IN := Lib.hid hn
      clear hn
      go_wp2_with fail
      refine ((IN.out.step ((Keeps.refl (S := No) wn).alloc _)).append_any L1.out B1.out _ [Z] (Reads.ofOwn (World.ownsRow_lit wn #[.string Z] 1 (Nat.zero_le _) (by unfold maxLen; omega) rfl) (by simp [Value.oneCell'])) (fun i hi hs => by cases hi; exact absurd (IN.out.lt _ hs) (Nat.lt_irrefl _)) (by have := Hf.out.1; simp; omega) (by have := Hf.out.2; simp; omega) 8 g d2 (by rw [← HT.out.1]; exact HE2.out)).mono ?_
      rintro e wm ⟨rfl, ⟨vm, hm⟩, _⟩
      have IM := Lib.hid hm
      clear hm
      go_wp2_with fail
      refine (files_any IM.out.log.disk).mono ?_
      rintro e wf ⟨vf, rfl, hof, hkf⟩
      have IF := Lib.hid (IM.out.step hkf)
      rw [HF.out.1] at hof
      obtain ⟨af, cf, rfl⟩ := ownsRow_slice hof
      clear hof hkf
      go_wp2_with fail
      refine (nextLog_any IF.out.log.log).mono ?_
      rintro e wx ⟨rfl, hx⟩
      have hx := hx.symm
      subst hx
      rw [HF.out.2.2.1]
      have hadd : ((L.length + k : Nat) : Int) = (L.length : Int) + (k : Int) := by omega
      rw [hadd]
      clear hadd
      have hL0 : (0 : Int) ≤ (L.length : Int) := by omega
      go_wp2_with fail
      refine (allLog_any (IF.out.laid L1.out) (Nat.le_trans B1.out IF.out.kp.size) IF.out.log (by have := Hf.out.2; omega)).mono ?_
      rintro e wa ⟨va', rfl, hoa, hka⟩
      have IA := Lib.hid (IF.out.step hka)
      obtain ⟨aa', ca', rfl⟩ := ownsRow_slice hoa
      rw [HF.out.2.1]
      have hadd : ((L.length + k : Nat) : Int) = (L.length : Int) + (k : Int) := by omega
      clear hoa hka
      go_wp2_with fail
      refine (awake_any (base := w.heap.size) (IA.out.laid L1.out) (Nat.le_trans B1.out IA.out.kp.size)).mono ?_
      rintro e wz ⟨rfl, hkz⟩
      have KZ := Lib.hid ((K1.out.trans IA.out.kp (fun _ _ h => h)).trans hkz (fun _ _ h => h))
      clear hkz
      go_wp2
      go_ret
      exact ⟨rfl, KZ.out⟩
set_option maxRecDepth 100000 in
theorem lifted (os : Os) (started : os.Started) (H : Type) (enc : TypeId × Value → H) (F : Stop.Interp) :
    ReturnsInHanded {} Tryz.checked os 5 .any ((OpenSpec.ofChange Rows.walRefusesSpec).preRow enc Tryz.prog Tryz.f5 Rows.walRefusesRow.domain false Rows.walRefusesRow.laid) (((OpenSpec.ofChange Rows.walRefusesSpec).at F).post enc Tryz.prog Tryz.f5 false true false false) := by
  refine law_laid os started F (by kernel_rfl) Tryz.func5
    (wal_witness (x := ([.nil, .lit (.int .i64 0)], [], [])) #[.slice none 0 0, .int .i64 0] (by kernel_rfl) (by kernel_rfl) (by kernel_rfl) (by kernel_rfl) (by kernel_rfl) (by kernel_rfl) (by kernel_rfl))
    (by decide +kernel) rfl Tryz.underlying4 rfl (fun ds h => by match ds, h with | [d1, d2], _ => rfl) ?_
  intro W base args ds p hval hA hL
  rw [Tryz.params5] at hA hval
  obtain ⟨v0, v1, d0, d1, p0, p1, rfl, rfl, rfl, h0, h1⟩ := trodAll_two hA
  obtain ⟨A, hAl⟩ := open_strs h0 (by obtain ⟨a, m, c, rfl⟩ := okWide_slice Tryz.underlying22 (hval 0 22 v0 rfl rfl); rfl)
  obtain ⟨k, rfl, rfl, rfl, hw⟩ := open_int Tryz.underlying3 (hval 1 3 v1 rfl rfl) h1
  exact walk W v0 A k (laid_of hL) hAl

theorem said : Rows.WalRefusesSaid :=
  OpenClaim.holds_of_cond 5 Tryz.f5 rfl rfl rfl rfl rfl rfl rfl ⟨rfl, rfl, rfl, rfl, rfl⟩ rfl rfl rfl rfl rfl (by kernel_rfl) Tryz.func5 (by kernel_rfl)
    (of_decide_eq_true (by kernel_rfl)) (by unfold Func.isWrapper; first | (rw [if_pos (by decide +kernel)]; kernel_rfl) | (rw [if_neg (by decide +kernel)]; exact ⟨rfl, rfl⟩))
    (fun os started H enc _ F => by rw [OpenClaim.pre_eq_preRow]; exact lifted os started H enc F)
theorem plain (f : FuncId) (fn : Func) (hf : Tryz.pinned.checked.prog.funcNamed "hedgerow/hedgerowlaw07.WalRefuses" = some f) (hfn : Tryz.pinned.checked.prog.funcs[f]? = some fn) :
    true = Tryz.pinned.checked.prog.looks [] ∧ ∀ (j : Nat) t, fn.params[j]? = some t → Tryz.pinned.checked.prog.wantsStandIn t = false := by
  obtain rfl : f = 5 := Option.some.inj ((show Tryz.prog.funcNamed "hedgerow/hedgerowlaw07.WalRefuses" = some 5 by kernel_rfl).symm.trans hf) |>.symm
  obtain rfl : fn = Tryz.f5 := (Option.some.inj (Tryz.func5.symm.trans hfn)).symm
  refine ⟨by kernel_rfl, fun j t ht => ?_⟩
  rw [Tryz.params5] at ht
  have hm : t ∈ [22, 3] := by simpa using Array.mem_of_getElem? ht
  have hall : ([22, 3].all fun u => !Tryz.prog.wantsStandIn u) = true := by kernel_rfl
  exact (show Tryz.prog.wantsStandIn t = false by simpa using List.all_eq_true.1 hall t hm)
theorem card : Rows.WalRefusesCardSaid :=
  Claim7.holds_tied_plain_at .later [] _ _ _ _ said (fun _ h => by cases h) (by kernel_rfl) (fun _ h => by cases h) walRefuses_row_tie rfl ⟨rfl, rfl⟩ (by kernel_rfl) rfl plain (by kernel_rfl)
end Go.Proofs.YtghamhipcpgofaaGreatDoor.walRefuses
