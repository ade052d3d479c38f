/-
  WalBounds, as the statement says it: no conditions.
-/
import Derived.Test.YtghamhipcpgofaaGreatDoorWbB
namespace Go.Proofs.YtghamhipcpgofaaGreatDoor.walBounds
open Go.ChangeShapes Go.WideShapes Go.ChangeAt Go.RowKit Go.Joins Go.Deep

set_option maxRecDepth 100000 in
set_option maxHeartbeats 4000000 in
theorem walk (w : World) (va : Value) (A : List Nm) (hL : Laid w w.heap.size) (hA : RdN w va A) :
    Calls Tryz.prog 3 #[va] w fun e W' => e = .returned (.bool true) ∧ Keeps No w W' := by
  have HL := Lib.hid hL
  have HA := Lib.hid hA
  obtain ⟨aa, ac, rfl⟩ := hA.slice
  clear hL hA
  obtain ⟨i0, hi, hz0, hz1, hz2⟩ := info_parts Tryz.infoInt
  go_enter Tryz.func3, Tryz.ntmps3
  go_wp2_with fail
  refine (few_any w _ A HA.out).mono ?_
  rintro e w1 ⟨v1, rfl, ho1, hk1⟩
  obtain ⟨L, hL⟩ : ∃ L, L = fewL A := ⟨_, rfl⟩
  have hlen := fewL_length A
  have hle := fewL_le A
  rw [← hL] at ho1 hlen hle
  obtain ⟨fa, fc, rfl⟩ := ownsRow_slice ho1
  have H1 := Lib.hid ho1
  have K1 := Lib.hid hk1
  have Hle := Lib.hid hle
  have Hlen := Lib.hid hlen
  have L1 := Lib.hid (HL.out.kept K1.out (fun _ h => h.elim))
  have B1 := Lib.hid K1.out.size
  clear ho1 hk1 hle hlen hL
  go_wp2_with fail
  refine (made_any L1.out B1.out).mono ?_
  rintro e w2 ⟨p, b, l, v, rfl, hW, ho, hp, hb, hl, hk2⟩
  have I2 : Hid (LogIn w1 w2 w.heap.size l p b v g0 d0) := Lib.hid ⟨hW, ownsRow_less ho B1.out, fun i hi => by
    rcases hi with e | e | e | e
    · omega
    · omega
    · omega
    · exact (ho.lt i e).1, hk2⟩
  clear hW ho hp hb hl hk2
  obtain ⟨A1, z1, g1, d1, he1, G1, hr1', hx1, hl1, hf1'⟩ := append_good good0 L (fun t ht => by have := Hle.out t ht; omega) (by have := Hlen.out; simp [Sg.next]; omega) (by have := Hlen.out; simp; omega)
  have hz : (⟨0, [], 0⟩ : Sg).next = 0 := rfl
  rw [hz, Nat.zero_add] at hx1
  have hr1 : recsOf (A1 ++ [z1]) = L := by rw [hr1']; rfl
  have hf1 : (A1 ++ [z1]).head?.map Sg.first = some 0 := by rw [hf1']; rfl
  have HG1 := Lib.hid G1
  have Hr1 := Lib.hid hr1
  have Hf1 := Lib.hid hf1
  have Hx1 := Lib.hid hx1
  have He1 := Lib.hid he1
  have Hfew : Hid (g1.firsts.length ≤ 1000000 ∧ g1.firsts.length = A1.length + 1 ∧ A1.length ≤ 64) := Lib.hid (by have := G1.few; rw [G1.g]; refine ⟨?_, ?_, by omega⟩ <;> simp <;> omega)
  have HR1 : Hid (RdN w1 (.slice fa L.length fc) L) := Lib.hid (RdN.ofOwn H1.out)
  have Hblk : Hid (∀ i, (Value.slice fa L.length fc).ownBlock = some i → i < w1.heap.size) := Lib.hid (fun i hi => (H1.out.lt i hi).2)
  clear hz hr1 hf1 hr1' hf1' G1 he1 hl1 hx1
  go_wp2_with fail
  refine (I2.out.append_any L1.out B1.out _ (L.map toB) (RdN.str (HR1.out.kept' I2.out.kp (fun _ _ h => h))) (fun i hi hs => by have := I2.out.new i hs; have := Hblk.out i hi; omega) (by have := Hlen.out; simp [g0]; omega) (by have := Hlen.out; simp [g0]; omega) 0 g1 d1 He1.out).mono ?_
  rintro e w3 ⟨rfl, ⟨v3, h3⟩, _⟩
  have I3 := Lib.hid h3
  clear h3
  go_wp2_with fail
  refine (segs_any I3.out.log.log Hfew.out.1).mono ?_
  rintro e w4 ⟨s4, rfl, ho4, hk4⟩
  have HO4 := Lib.hid ho4
  have K4 := Lib.hid hk4
  obtain ⟨a4, c4, rfl⟩ := ownsRow_slice ho4
  clear ho4 hk4
  go_wp2_with (at_builtin; refine wpList_append_own _ rfl _ _ 30 rfl w3.heap.size 3 i0 (.int .i64 0) 1 8 Tryz.underlying30 hi hz0 hz1 hz2 rfl (by decide) _ _ _ rfl (HO4.out.alloc _) ⟨w4.heap.size, 0, none⟩ 1 1 [.int .i64 L.length] rfl rfl (cell_one_new _ _ _) (by simp [Value.oneCell']) (by have := Hfew.out; unfold maxLen; omega) (by have := Hfew.out; omega) (by have := K4.out.size; simp; omega) ?_; intro v5 w5 hown5 hk5 _)
  have K5 : Hid (Keeps No w3 w5) := Lib.hid ((K4.out.alloc _).grown hk5 (fun i hi hlt => absurd hlt (Nat.not_lt.2 (HO4.out.lt i hi).1)))
  have I5 := Lib.hid (I3.out.step K5.out)
  obtain ⟨B, hB⟩ : ∃ B, B = bnds (A1 ++ [z1]) L.length := ⟨_, rfl⟩
  have hBl : B.length = A1.length + 2 := by rw [hB]; unfold bnds; simp
  have hBv : intsV B = intsV g1.firsts ++ [.int .i64 L.length] := by rw [hB]; unfold bnds; rw [intsV_append, HG1.out.g]; rfl
  have HB := Lib.hid hB
  have R5 : Hid (RdInts w5 v5 B) := Lib.hid (by
    have h := Reads.ofOwn hown5 (fun u hu => by rw [← hBv] at hu; exact intsV_one u _ hu)
    rw [← hBv, Hfew.out.2.1] at h
    show Reads w5 1 v5 B.length (intsV B)
    rw [hBl]
    exact h)
  clear hown5 hk5 hBv hB
  obtain ⟨nb, no, nc, rfl, hnc, hncm, _, hnx⟩ := RdInts.cell R5.out (by omega)
  have HX := Lib.hid hnx
  obtain ⟨N, hN⟩ : ∃ N, N = B.length := ⟨_, rfl⟩
  have HN : Hid (N = A1.length + 2) := Lib.hid (by rw [hN, hBl])
  rw [← hN] at hnc ⊢
  have KK : Hid (Keeps No w1 w5) := Lib.hid I5.out.kp
  have hN66 : (N : Int) ≤ 66 := by have := HN.out; have := Hfew.out; omega
  clear hnx hN hBl
  go_wp2_with fail
  go_loopw [7, 8, 9, 10, 11, 12, 13, 14] (fun q _ _ _ _ _ _ _ wr => ∃ i : Nat, i ≤ A1.length + 1 ∧ q = .int .i64 i ∧ Keeps No w5 wr) (fun q _ _ _ _ _ _ _ _ => A1.length + 1 - (intOf q).toNat)
  case atStart => exact ⟨0, Nat.zero_le _, rfl, Keeps.refl _⟩
  case round =>
    obtain ⟨i, hil, rfl, hKr⟩ := hrel
    have KR := Lib.hid hKr
    have hi0 : (0 : Int) ≤ (i : Int) := by omega
    by_cases hlt : i < A1.length + 1
    · obtain ⟨s, hs⟩ := seg_at HG1.out Hr1.out Hf1.out Hx1.out i hlt
      obtain ⟨X, Y, hXY, hXl, hsf⟩ := hs.split
      have hsm : s ∈ A1 ++ [z1] := by rw [hXY]; simp
      have hlong := HG1.out.long s hsm
      have hsrt := take_short HG1.out hsm
      have hrl := HG1.out.rl s hsm
      have Hrec := Lib.hid hs.recs
      have HXa : Hid (w5.cell? ⟨nb, no + i, none⟩ = some (.int .i64 s.first)) := Lib.hid (HX.out i s.first (by rw [HB.out]; exact hs.a))
      have HXb : Hid (w5.cell? ⟨nb, no + (i + 1), none⟩ = some (.int .i64 s.next)) := Lib.hid (HX.out (i + 1) s.next (by rw [HB.out]; exact hs.b))
      have ca := hKr.cell (HX.out i s.first (by rw [HB.out]; exact hs.a)) (fun h => h)
      have cb := hKr.cell (HX.out (i + 1) s.next (by rw [HB.out]; exact hs.b)) (fun h => h)
      have hsn : s.next = s.first + s.recs.length := rfl
      have hle2 := hs.le
      have Hfull : Hid (i + 2 < N → 4096 ≤ flen s.recs) := Lib.hid (fun h => by
        have hN := HN.out
        have hYl : Y ≠ [] := by
          intro e
          rw [e] at hXY
          have := congrArg List.length hXY
          simp at this
          omega
        have hsA : s ∈ A1 := by
          have : A1 = X ++ s :: Y.dropLast := by
            have h2 : A1 ++ [z1] = (X ++ s :: Y.dropLast) ++ [Y.getLast hYl] := by rw [hXY, List.append_assoc, List.cons_append, List.dropLast_concat_getLast]
            exact (snoc_inj h2).1
          rw [this]; simp
        exact (HG1.out.full s hsA).1)
      have Hfind : Hid (findE d1.fs (fileNm wN s.first) = (⟨bts s.recs, s.k⟩, 0)) := Lib.hid (HG1.out.find hXY)
      have Hlt8 := Lib.hid (HG1.out.lt8 s hsm)
      obtain ⟨F, hF⟩ : ∃ F, F = s.first := ⟨_, rfl⟩
      obtain ⟨E, hE⟩ : ∃ E, E = s.next := ⟨_, rfl⟩
      obtain ⟨RS, hRS⟩ : ∃ R, R = s.recs := ⟨_, rfl⟩
      obtain ⟨sk, hsk⟩ : ∃ k, k = s.k := ⟨_, rfl⟩
      rw [← hE] at cb HXb hsn hle2
      rw [← hF] at ca HXa hsn Hrec Hfind Hlt8
      rw [← hRS] at hsn Hrec hlong hsrt hrl Hfull Hfind
      rw [← hsk] at Hfind
      have Hrl := Lib.hid hrl
      have HFE : Hid (E = F + RS.length ∧ E ≤ L.length) := Lib.hid ⟨hsn, hle2⟩
      have hEF : (F : Int) ≤ (E : Int) := by omega
      have hEL : (E : Int) ≤ (L.length : Int) := by omega
      have d1' : decide ((E : Int) < (F : Int)) = false := decide_eq_false (by omega)
      have d2' : decide ((L.length : Int) < (E : Int)) = false := decide_eq_false (by omega)
      have d1n : decide (E < F) = false := decide_eq_false (by omega)
      have d2n : decide (L.length < E) = false := decide_eq_false (by omega)
      have hF0 : (0 : Int) ≤ (F : Int) := by omega
      have hL30 : (L.length : Int) ≤ 30 := by have := Hlen.out; omega
      have hi1 : (i : Int) + 1 < (N : Int) := by have := HN.out; omega
      have hi2 : (i : Int) < (N : Int) := by omega
      have hi3 : (0 : Int) ≤ (i : Int) + 1 := by omega
      have hwi : IntKind.i64.wrap ((i : Int) + 1) = (i : Int) + 1 := by rw [IntKind.wrap_i64]; omega
      have htn : ((i : Int) + 1).toNat = i + 1 := by omega
      have Hlong := Lib.hid hlong
      have Hsrt := Lib.hid hsrt
      clear hs hXY hXl hsf hsm hlong hsrt hrl hsn hle2 hF hE hRS hsk hKr hil X Y
      go_wp2_with fail
      go_quiet (fail)
      have ca' : (wr.drewN nq).cell? ⟨nb, no + i, none⟩ = some (.int .i64 F) := ca
      have cb' : (wr.drewN nq).cell? ⟨nb, no + (i + 1), none⟩ = some (.int .i64 E) := cb
      have KR2 : Hid (Keeps No w5 (wr.drewN nq)) := Lib.hid (KR.out.drewN nq)
      go_wp2_with fail
      go_loopw [8, 9, 10, 11, 12] (fun s8 s9 q _ _ wq => ∃ j : Nat, j ≤ RS.length ∧ q = .int .i64 (F + j : Nat) ∧ s8 = .string (bts (RS.take j)) ∧ s9 = .string (bts (RS.take (j - 1))) ∧ Keeps No w5 wq) (fun _ _ q _ _ _ => RS.length + F - (intOf q).toNat)
      case atStart => exact ⟨0, Nat.zero_le _, rfl, rfl, rfl, KR2.out⟩
      case round =>
        obtain ⟨j, hj, rfl, rfl, rfl, hKq⟩ := hrel
        have KQ := Lib.hid hKq
        have HJ := Lib.hid hj
        obtain ⟨kk, hkk⟩ : ∃ k, k = F + j := ⟨_, rfl⟩
        rw [← hkk]
        have hk0 : (0 : Int) ≤ (kk : Int) := by omega
        by_cases hjl : j < RS.length
        · obtain ⟨t, ht⟩ : ∃ t, RS[j]? = some t := ⟨_, List.getElem?_eq_getElem hjl⟩
          have htm : t ∈ RS := List.mem_of_getElem? ht
          have htl := Hrl.out t htm
          have hLt : L[kk]? = some t := by rw [hkk, Hrec.out j hjl, ht]
          obtain ⟨fb, fo, fcc, he, _, _, _, hfx⟩ := RdN.cell HR1.out (by have := (List.getElem?_eq_some_iff.1 hLt).1; omega)
          simp only [Value.slice.injEq, true_and] at he
          obtain ⟨rfl, rfl⟩ := he
          have ct := (KK.out.trans hKq (fun _ _ h => h)).cell (hfx kk t hLt) (fun h => h)
          have cb2 := KQ.out.cell (show w5.cell? ⟨nb, no + (i + 1), none⟩ = some (.int .i64 E) from HXb.out) (fun h => h)
          have hkE : (kk : Int) < (E : Int) := by have := HFE.out; omega
          have hkL : (kk : Int) < (L.length : Int) := by omega
          have Htk : Hid (RS.take (j + 1) = RS.take j ++ [t]) := Lib.hid (by
            have h1 : RS[j] = t := by
              have h2 := ht
              rw [List.getElem?_eq_getElem hjl] at h2
              exact Option.some.inj h2
            rw [List.take_succ_eq_append_getElem hjl, h1])
          have hcat : ∀ W : World, (Op.stringOp .add (bts (RS.take j)) (frameB (toB t))).run Tryz.prog W = .ok (.string (bts (RS.take (j + 1)))) W := fun W => by
            rw [run_string_add_sum W _ _ (by rw [bts_size, frameB_size]; have := Hlong.out; have := flen_take_le RS j; omega), Htk.out, bts_snoc]
          have Htl : Hid (((toB t).size : Int) ≤ 65536) := Lib.hid (by rw [toB_size]; omega)
          obtain ⟨T, hT⟩ : ∃ T, T = toB t := ⟨_, rfl⟩
          rw [← hT] at hcat ct Htl
          obtain ⟨U, hU⟩ : ∃ U, U = bts (RS.take j) := ⟨_, rfl⟩
          have HU := Lib.hid hU
          rw [← hU] at hcat ⊢
          obtain ⟨U2, hU2⟩ : ∃ U, U = bts (RS.take (j + 1)) := ⟨_, rfl⟩
          rw [← hU2] at hcat
          have HU2 := Lib.hid hU2
          have Hkk := Lib.hid hkk
          clear ht htm htl hLt hfx hKq hkk hT hU hU2 hj
          go_wp2_with fail
          refine (rframe_any _ T Htl.out).mono ?_
          rintro e wf ⟨rfl, hkf⟩
          have KF : Hid (Keeps No w5 wf) := Lib.hid (KQ.out.trans hkf (fun _ _ h => h))
          clear hkf
          go_wp2
          go_roundw
          case rel =>
            refine ⟨j + 1, hjl, ?_, by rw [HU2.out], by rw [HU.out]; rfl, KF.out⟩
            rw [Hkk.out]
            go_num
          case measure => have := Hkk.out; have := HJ.out; simp [intOf]; omega
        · have hjl2 : j = RS.length := by omega
          have hkE : kk = E := by have := HFE.out; omega
          have hkE2 : decide ((kk : Int) < (E : Int)) = false := decide_eq_false (by omega)
          have hkE3 : decide (kk < E) = false := decide_eq_false (by omega)
          have cb2 := KQ.out.cell (show w5.cell? ⟨nb, no + (i + 1), none⟩ = some (.int .i64 E) from HXb.out) (fun h => h)
          have ca2 := KQ.out.cell (show w5.cell? ⟨nb, no + i, none⟩ = some (.int .i64 F) from HXa.out) (fun h => h)
          subst hjl2
          rw [List.take_length]
          have hUl := bts_size RS
          have hVl := bts_size (RS.take (RS.length - 1))
          have hlg := Hlong.out
          have hst := Hsrt.out
          have hful := Hfull.out
          obtain ⟨U, hU⟩ : ∃ U, U = bts RS := ⟨_, rfl⟩
          obtain ⟨V, hV⟩ : ∃ V, V = bts (RS.take (RS.length - 1)) := ⟨_, rfl⟩
          rw [← hU] at hUl ⊢
          rw [← hV] at hVl ⊢
          have HUe := Lib.hid hU
          have hv1 : decide ((4096 : Int) ≤ (V.size : Int)) = false := decide_eq_false (by omega)
          have hUi : (U.size : Int) ≤ 100000 := by omega
          have Hful : Hid (i + 2 < N → 4096 ≤ U.size) := Lib.hid (by rw [hUl]; exact hful)
          clear hU hV hUl hVl hlg hst hful hKq hj hjl
          go_wp2_with fail
          refine (rfile_any _ wN (by decide) F Hlt8.out).mono ?_
          rintro e wf ⟨rfl, m, rfl⟩
          have KF : Hid (Keeps No w5 (wr.drewN m)) := Lib.hid (KQ.out.drewN m)
          go_wp2_with fail
          refine (read_any (I5.out.step KF.out).log.disk (fileNm wN F) _ _ Hfind.out).mono ?_
          rintro e wd ⟨rfl, hkd⟩
          rw [← HUe.out]
          have KD : Hid (Keeps No w5 wd) := Lib.hid (KF.out.trans hkd (fun _ _ h => h))
          clear hkd
          by_cases h2 : i + 2 < N
          · have hd2 : decide ((i : Int) + 2 < (N : Int)) = true := decide_eq_true (by omega)
            have hd3 : decide ((U.size : Int) < 4096) = false := decide_eq_false (by have := Hful.out h2; omega)
            clear h2
            go_wp2
            go_roundw
            case rel => exact ⟨i + 1, hlt, by go_num, KD.out⟩
            case measure => simp [intOf]; omega
          · have hd2 : decide ((i : Int) + 2 < (N : Int)) = false := decide_eq_false (by omega)
            clear h2
            go_wp2
            go_roundw
            case rel => exact ⟨i + 1, hlt, by go_num, KD.out⟩
            case measure => simp [intOf]; omega
    · have hib : (i : Int) ≤ 100 := by have := Hfew.out; omega
      have hie : decide ((i : Int) + 1 < (N : Int)) = false := decide_eq_false (by have := HN.out; omega)
      clear hlt hKr
      go_wp2_with fail
      refine (awake_any (base := w.heap.size) ((I5.out.step KR.out).laid L1.out) (Nat.le_trans B1.out (KK.out.trans KR.out (fun _ _ h => h)).size)).mono ?_
      rintro e wz ⟨rfl, hkz⟩
      have KZ := Lib.hid ((K1.out.trans (KK.out.trans KR.out (fun _ _ h => h)) (fun _ _ h => h)).trans hkz (fun _ _ h => h))
      clear hkz
      go_wp2
      go_ret
      exact ⟨rfl, KZ.out⟩
set_option maxRecDepth 100000 in
theorem lifted (os : Os) (started : os.Started) (H : Type) (enc : TypeId × Value → H) (F : Stop.Interp) :
    ReturnsInHanded {} Tryz.checked os 3 .any ((OpenSpec.ofChange Rows.walBoundsSpec).preRow enc Tryz.prog Tryz.f3 Rows.walBoundsRow.domain false Rows.walBoundsRow.laid) (((OpenSpec.ofChange Rows.walBoundsSpec).at F).post enc Tryz.prog Tryz.f3 false true false false) := by
  refine law_laid os started F (by kernel_rfl) Tryz.func3
    (wal_witness (x := ([.nil], [], [])) #[.slice none 0 0] (by kernel_rfl) (by kernel_rfl) (by kernel_rfl) (by kernel_rfl) (by kernel_rfl) (by kernel_rfl) (by kernel_rfl))
    (by decide +kernel) rfl Tryz.underlying4 rfl (fun ds h => by match ds, h with | [d1], _ => rfl) ?_
  intro W base args ds p hval hA hL
  rw [Tryz.params3] at hA hval
  obtain ⟨v0, d0, rfl, rfl, h0⟩ := trodAll_one hA
  obtain ⟨A, hAl⟩ := open_strs h0 (by obtain ⟨a, m, c, rfl⟩ := okWide_slice Tryz.underlying22 (hval 0 22 v0 rfl rfl); rfl)
  exact walk W v0 A (laid_of hL) hAl

theorem said : Rows.WalBoundsSaid :=
  OpenClaim.holds_of_cond 3 Tryz.f3 rfl rfl rfl rfl rfl rfl rfl ⟨rfl, rfl, rfl, rfl, rfl⟩ rfl rfl rfl rfl rfl (by kernel_rfl) Tryz.func3 (by kernel_rfl)
    (of_decide_eq_true (by kernel_rfl)) (by unfold Func.isWrapper; first | (rw [if_pos (by decide +kernel)]; kernel_rfl) | (rw [if_neg (by decide +kernel)]; exact ⟨rfl, rfl⟩))
    (fun os started H enc _ F => by rw [OpenClaim.pre_eq_preRow]; exact lifted os started H enc F)
theorem plain (f : FuncId) (fn : Func) (hf : Tryz.pinned.checked.prog.funcNamed "hedgerow/hedgerowlaw07.WalBounds" = some f) (hfn : Tryz.pinned.checked.prog.funcs[f]? = some fn) :
    true = Tryz.pinned.checked.prog.looks [] ∧ ∀ (j : Nat) t, fn.params[j]? = some t → Tryz.pinned.checked.prog.wantsStandIn t = false := by
  obtain rfl : f = 3 := Option.some.inj ((show Tryz.prog.funcNamed "hedgerow/hedgerowlaw07.WalBounds" = some 3 by kernel_rfl).symm.trans hf) |>.symm
  obtain rfl : fn = Tryz.f3 := (Option.some.inj (Tryz.func3.symm.trans hfn)).symm
  refine ⟨by kernel_rfl, fun j t ht => ?_⟩
  rw [Tryz.params3] at ht
  have hm : t ∈ [22] := by simpa using Array.mem_of_getElem? ht
  have hall : ([22].all fun u => !Tryz.prog.wantsStandIn u) = true := by kernel_rfl
  exact (show Tryz.prog.wantsStandIn t = false by simpa using List.all_eq_true.1 hall t hm)
theorem card : Rows.WalBoundsCardSaid :=
  Claim7.holds_tied_plain_at .later [] _ _ _ _ said (fun _ h => by cases h) (by kernel_rfl) (fun _ h => by cases h) walBounds_row_tie rfl ⟨rfl, rfl⟩ (by kernel_rfl) rfl plain (by kernel_rfl)
end Go.Proofs.YtghamhipcpgofaaGreatDoor.walBounds
