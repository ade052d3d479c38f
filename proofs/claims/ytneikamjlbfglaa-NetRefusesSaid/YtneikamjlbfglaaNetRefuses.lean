/-
  Whatever the packets, the one more and its place: NetRefuses returns true, and each argument reads behind the call as it read before. No conditions.
-/
import Derived.Test.YtneikamjlbfglaaNetM
import Derived.Deep.DeepCutAuto
namespace Go.Proofs.Ytneikamjlbfglaa.netRefuses
open Go.ChangeShapes Go.WideShapes Go.ChangeAt Go.RowKit

theorem place (a : Int) (n : Nat) (hn : n ≤ 20) : ∃ k : Nat, (wrap64 (wrap64 (a.tmod ((n : Int) + 1) + n) + 1)).tmod ((n : Int) + 1) = k ∧ k ≤ n := by
  have h1 : a.tmod ((n : Int) + 1) < (n : Int) + 1 := Int.tmod_lt_of_pos _ (by omega)
  have h2 : -((n : Int) + 1) < a.tmod ((n : Int) + 1) := Int.lt_tmod_of_pos _ (by omega)
  generalize a.tmod ((n : Int) + 1) = t at *
  have e1 : wrap64 (t + n) = t + n := IntWalk.wrap64_in _ ⟨by omega, by omega⟩
  rw [e1]
  have e2 : wrap64 (t + n + 1) = t + n + 1 := IntWalk.wrap64_in _ ⟨by omega, by omega⟩
  rw [e2, Int.tmod_eq_emod_of_nonneg (by omega)]
  refine ⟨((t + n + 1) % ((n : Int) + 1)).toNat, ?_, ?_⟩
  · rw [Int.toNat_of_nonneg (Int.emod_nonneg _ (by omega))]
  · have := Int.emod_lt_of_pos (t + n + 1) (show (0 : Int) < (n : Int) + 1 by omega)
    omega

theorem fin (v : Value) (k m : Nat) (T D : List Pk) (p : Pk) (hT : T.length = k) (hD : D.length = m) : RowT 34 3 v (0 + k + 1 + m) (pkCells [] ++ pkCells T ++ pkCells [p] ++ pkCells D) = PkT v (T ++ [p] ++ D) := by
  have e1 : pkCells [] ++ pkCells T ++ pkCells [p] ++ pkCells D = pkCells (T ++ [p] ++ D) := by rw [pkCells_append, pkCells_append, pkCells_nil, List.nil_append]
  have e2 : 0 + k + 1 + m = (T ++ [p] ++ D).length := by simp only [List.length_append, List.length_cons, List.length_nil]; omega
  rw [e1, e2]

def okc (p : Pk) : Bool := !wrongB 3 p
theorem okc_all (A : List Pk) : A.all okc = !A.any (wrongB 3) := by
  induction A with
  | nil => rfl
  | cons p A ih => rw [List.all_cons, List.any_cons, ih, Bool.not_or]; rfl
theorem okc_take (A : List Pk) (k : Nat) (hk : k < A.length) : (A.take (k + 1)).all okc = ((A.take k).all okc && okc A[k]) := by
  rw [List.take_succ_eq_append_getElem hk, List.all_append, List.all_cons, List.all_nil, Bool.and_true]

set_option maxRecDepth 100000 in
set_option maxHeartbeats 4000000 in
theorem walk (v : Value) (l0 : List Pk) (p : Pk) (at0 : Int) (w : World) (hat : (Lit.int .i64 at0).wf = true) (hv0 : PkReads w v l0) :
    Calls Try.prog 5 #[v, .agg #[.int .i64 p.f, .int .i64 p.t, .string p.s], .int .i64 at0] w fun e w' => e = .returned (.bool true) ∧ Keeps No w w' := by
  obtain ⟨a0, c0, rfl⟩ := hv0.slice
  obtain ⟨i0, hi, hz0, hz1, hz2⟩ := info_parts Try.infoPk
  have hlen : l0.length ≤ c0 ∧ c0 ≤ maxLen := by
    rcases hv0.shape with ⟨he, h0⟩ | ⟨_, c', he, h1, h2, _⟩
    · simp only [Value.slice.injEq] at he; obtain ⟨_, h3, h4⟩ := he; unfold maxLen; omega
    · simp only [Value.slice.injEq, true_and] at he; obtain ⟨_, rfl⟩ := he; exact ⟨h1, h2⟩
  obtain ⟨hlc, hcm⟩ := hlen
  unfold maxLen at hcm
  have hbd : -9223372036854775808 ≤ at0 ∧ at0 ≤ 9223372036854775807 := by simpa [Lit.wf, IntKind.min, IntKind.max, IntKind.signed, IntKind.bits] using hat
  obtain ⟨hb1, hb2⟩ := hbd
  go_enter Try.func5, Try.ntmps5
  go_wp2_with fail
  have hbox : Mem w (w.alloc (.cells #[.int .i64 p.f, .int .i64 p.t, .string p.s] 34)) [PkT (.slice (some ⟨w.heap.size, 0, none⟩) 1 1) [p]] := pkT_lit (Mem.start w) p
  refine (new_m (w0 := w) 3 (by omega) (by omega) hbox).mono ?_
  rintro e w1 ⟨b, rfl, hm1⟩
  have hm : Mem w w1 [PkT (.slice (some ⟨w.heap.size, 0, none⟩) 1 1) [p], NetT b 3 []] := hm1
  clear hm1 hbox
  go_upto_if 24 with fail
  go_cut [0] (fun s0 w' => w1 = w' ∧ ∃ (a : Option Addr) (c : Nat) (l : List Pk), s0 = .slice a l.length c ∧ l.length ≤ 20 ∧ l.length ≤ c ∧ c ≤ 9223372036854775807 ∧ PkReads w s0 l)
  case first =>
    by_cases h20 : (20 : Int) < (l0.length : Int)
    · have hr0 : (20 : Int) ≤ (c0 : Int) := by omega
      have hfin : Hid (∃ (a : Option Addr) (c : Nat) (l : List Pk), Value.slice a0 20 c0 = .slice a l.length c ∧ l.length ≤ 20 ∧ l.length ≤ c ∧ c ≤ 9223372036854775807 ∧ PkReads w (.slice a0 20 c0) l) := by
        have hl : (l0.take 20).length = 20 := by rw [List.length_take]; omega
        refine ⟨a0, c0, l0.take 20, by rw [hl], by omega, by omega, hcm, ?_⟩
        have := hv0.take (m := 20) (by omega)
        rw [pkCells_take] at this
        unfold PkReads
        rw [hl]
        exact this
      have h21 : (21 : Int) ≤ (l0.length : Int) := by omega
      clear h20
      go_wp2
      go_meet
      case rel => exact ⟨rfl, hfin.out⟩
    · have hfin : Hid (∃ (a : Option Addr) (c : Nat) (l : List Pk), Value.slice a0 l0.length c0 = .slice a l.length c ∧ l.length ≤ 20 ∧ l.length ≤ c ∧ c ≤ 9223372036854775807 ∧ PkReads w (.slice a0 l0.length c0) l) :=
        ⟨a0, c0, l0, rfl, by omega, hlc, hcm, hv0⟩
      go_wp2
      go_meet
      case rel => exact ⟨rfl, hfin.out⟩
  case rest =>
    obtain ⟨rfl, a, c, l, rfl, hl20, hlc', hcm', hv⟩ := hcut
    clear hlc hcm hv0
    have hn0 : (0 : Int) ≤ (l.length : Int) := by omega
    have hn1 : (l.length : Int) ≤ 20 := by omega
    obtain ⟨k, hk, hkn⟩ := place at0 l.length hl20
    have Hk := Lib.hid hk; clear hk
    go_upto_region 7 with fail
    rw [Hk.out]
    have hE : Hid (∀ W v3 : Unit, True) := fun _ _ => trivial
    have hmR := hm.keeps
    go_cut [10] (fun s10 w' => ∃ A : List Pk, A = l.take k ++ [p] ++ l.drop k ∧ Mem w w' [PkT (.slice (some ⟨w.heap.size, 0, none⟩) 1 1) [p], NetT b 3 [], PkT s10 A])
    case first =>
      --CUT{
      have hk0 : (0 : Int) ≤ (k : Int) := by omega
      have hk1 : (k : Int) ≤ (l.length : Int) := by omega
      have hk2 : (k : Int) ≤ (c : Int) := by omega
      have hbx := pkT_reads (hm.see 0 rfl).choose_spec
      obtain ⟨q0, q1, q2⟩ := hbx.pk 0 (by simp)
      simp only [Nat.zero_mul, Nat.add_zero, Nat.zero_add, List.getElem_cons_zero] at q0 q1 q2
      have hbl : w.heap.size < w1.heap.size := by have := block_lt_of_cell q0; simpa using this
      obtain ⟨T, hT⟩ : ∃ T, T = l.take k := ⟨_, rfl⟩
      obtain ⟨D, hD⟩ : ∃ D, D = l.drop k := ⟨_, rfl⟩
      have HT : Hid (Reads w 3 (.slice a k c) k (pkCells T)) := by
        have := hv.take (m := k) hkn
        rw [pkCells_take, ← hT] at this
        exact this
      have HD : Hid (Reads w 3 (.slice (if c = k then a else a.map (·.add (k * 3))) (l.length - k) (c - k)) (l.length - k) (pkCells D)) := by
        have := hv.dropAny (m := k) hkn _ rfl
        rw [pkCells_drop, ← hD] at this
        exact this
      have HlT : Hid (T.length = k) := by show _ = _; rw [hT, List.length_take]; omega
      have HlD : Hid (D.length = l.length - k) := by show _ = _; rw [hD, List.length_drop]
      have HA : Hid (l.take k ++ [p] ++ l.drop k = T ++ [p] ++ D) := by show _ = _; rw [hT, hD]
      clear hT hD
      have hmA := (pkT_empty hm).drew
      have hmB := (pkT_lit (pkT_empty hm) p).drew
      have hmC := (pkT_empty (pkT_lit hm p)).drew
      rw [World.size_alloc] at hmB hmC
      have HA' := Lib.hid hmA; have HB' := Lib.hid hmB; have HC' := Lib.hid hmC
      clear hmA hmB hmC
      go_region_law (first
        | (refine step_append_mem rfl (.tmp 40) (.tmp 43) 28 rfl 34 i0 _ 3 32 Try.underlying28 hi hz0 hz1 hz2 rfl (by decide) HA'.out 2 _ 0 (pkCells []) rfl rfl _ k (pkCells T) rfl (HT.out.kept HA'.out.keeps (fun _ _ h => h)) (by unfold maxLen; omega) (by omega) ?_
           intro v1 w2 hA1 _ _
           obtain ⟨r0, r1, r2⟩ := (pkT_reads (hA1.out.see 0 rfl).choose_spec).pk 0 (by simp)
           simp only [Nat.zero_mul, Nat.add_zero, Nat.zero_add, List.getElem_cons_zero] at r0 r1 r2)
        | (refine step_append_mem rfl (.tmp 40) (.tmp 43) 28 rfl 34 i0 _ 3 32 Try.underlying28 hi hz0 hz1 hz2 rfl (by decide) HB'.out 2 _ 0 (pkCells []) rfl rfl _ k (pkCells T) rfl (HT.out.kept HB'.out.keeps (fun _ _ h => h)) (by unfold maxLen; omega) (by omega) ?_
           intro v1 w2 hB1 _ _)
        | (refine step_append_mem rfl (.tmp 40) (.tmp 43) 28 rfl 34 i0 _ 3 32 Try.underlying28 hi hz0 hz1 hz2 rfl (by decide) HC'.out 3 _ 0 (pkCells []) rfl rfl _ k (pkCells T) rfl (HT.out.kept HC'.out.keeps (fun _ _ h => h)) (by unfold maxLen; omega) (by omega) ?_
           intro v1 w2 hC1 _ _)
        | (refine step_append_mem rfl (.tmp 44) (.tmp 46) 28 rfl 34 i0 _ 3 32 Try.underlying28 hi hz0 hz1 hz2 rfl (by decide) (mem_lit hA1.out _) 2 _ (0 + k) (pkCells [] ++ pkCells T) rfl rfl _ 1 (pkCells [p]) rfl (Reads.lit w2 p) (by unfold maxLen; omega) (by omega) ?_
           intro v2 w3 hA2 _ _)
        | (obtain ⟨G, hG⟩ := hB1.out.see 3 rfl
           refine step_append_mem rfl (.tmp 44) (.tmp 46) 28 rfl 34 i0 _ 3 32 Try.underlying28 hi hz0 hz1 hz2 rfl (by decide) hB1.out 2 _ (0 + k) (pkCells [] ++ pkCells T) rfl rfl _ 1 (pkCells [p]) rfl (pkT_reads hG) (by unfold maxLen; omega) (by omega) ?_
           intro v2 w3 hB2 _ _)
        | (obtain ⟨G, hG⟩ := hC1.out.see 2 rfl
           refine step_append_mem rfl (.tmp 44) (.tmp 46) 28 rfl 34 i0 _ 3 32 Try.underlying28 hi hz0 hz1 hz2 rfl (by decide) hC1.out 3 _ (0 + k) (pkCells [] ++ pkCells T) rfl rfl _ 1 (pkCells [p]) rfl (pkT_reads hG) (by unfold maxLen; omega) (by omega) ?_
           intro v2 w3 hC2 _ _)
        | (refine step_append_mem rfl (.tmp 47) (.tmp 50) 28 rfl 34 i0 _ 3 32 Try.underlying28 hi hz0 hz1 hz2 rfl (by decide) hA2.out 2 _ (0 + k + 1) (pkCells [] ++ pkCells T ++ pkCells [p]) rfl rfl _ (l.length - k) (pkCells D) rfl (HD.out.kept hA2.out.keeps (fun _ _ h => h)) (by unfold maxLen; omega) (by omega) ?_
           intro v3 w4 hA3 _ _)
        | (refine step_append_mem rfl (.tmp 47) (.tmp 50) 28 rfl 34 i0 _ 3 32 Try.underlying28 hi hz0 hz1 hz2 rfl (by decide) hB2.out 2 _ (0 + k + 1) (pkCells [] ++ pkCells T ++ pkCells [p]) rfl rfl _ (l.length - k) (pkCells D) rfl (HD.out.kept hB2.out.keeps (fun _ _ h => h)) (by unfold maxLen; omega) (by omega) ?_
           intro v3 w4 hB3 _ _)
        | (refine step_append_mem rfl (.tmp 47) (.tmp 50) 28 rfl 34 i0 _ 3 32 Try.underlying28 hi hz0 hz1 hz2 rfl (by decide) hC2.out 3 _ (0 + k + 1) (pkCells [] ++ pkCells T ++ pkCells [p]) rfl rfl _ (l.length - k) (pkCells D) rfl (HD.out.kept hC2.out.keeps (fun _ _ h => h)) (by unfold maxLen; omega) (by omega) ?_
           intro v3 w4 hC3 _ _))
      all_goals
        clear HD
        generalize (if c = k then a else a.map (·.add (k * 3))) = ao
        go_wp2_with fail
        go_meet
        case rel =>
          refine ⟨T ++ [p] ++ D, HA.out.symm, ?_⟩
          have hf := fun v => fin v k (l.length - k) T D p HlT.out HlD.out
          first
            | (have h : Mem w w4 [PkT (.slice (some ⟨w.heap.size, 0, none⟩) 1 1) [p], NetT b 3 [], RowT 34 3 v3 (0 + k + 1 + (l.length - k)) (pkCells [] ++ pkCells T ++ pkCells [p] ++ pkCells D)] := hA3.out
               rw [hf] at h
               exact h)
            | (have h := hB3.out.erase 3 (by simp)
               have h' : Mem w w4 [PkT (.slice (some ⟨w.heap.size, 0, none⟩) 1 1) [p], NetT b 3 [], RowT 34 3 v3 (0 + k + 1 + (l.length - k)) (pkCells [] ++ pkCells T ++ pkCells [p] ++ pkCells D)] := h
               rw [hf] at h'
               exact h')
            | (have h := hC3.out.erase 2 (by simp)
               have h' : Mem w w4 [PkT (.slice (some ⟨w.heap.size, 0, none⟩) 1 1) [p], NetT b 3 [], RowT 34 3 v3 (0 + k + 1 + (l.length - k)) (pkCells [] ++ pkCells T ++ pkCells [p] ++ pkCells D)] := h
               rw [hf] at h'
               exact h')
      --CUT}
    case rest =>
      obtain ⟨A, hA, hmA⟩ := hcut
      have hAp : 1 ≤ A.length := by rw [hA]; simp; omega
      have hAl : A.length ≤ 21 := by rw [hA]; simp; omega
      clear hA Hk hv hm
      obtain ⟨ra, rc, rfl⟩ : ∃ ra rc, u10 = .slice ra A.length rc := by
        obtain ⟨F, ⟨h, _⟩⟩ := hmA.see 2 rfl
        exact ownsRow_slice h
      obtain ⟨F2, hF2⟩ := hmA.see 2 rfl
      have hrA := pkT_reads hF2
      cases hw : A.any (wrongB 3)
      · go_wp2_with fail
        refine (send_m hmA 1 rfl (by simp) _ A hrA hw).mono ?_
        rintro e w2 ⟨rfl, hm2, _⟩
        have e0 : (A.length : Int) - min (A.length : Int) (4096 - (([] : List Pk).length : Nat)) = 0 := by simp only [List.length_nil]; omega
        rw [e0]
        have e1 : [] ++ List.take (4096 - ([] : List Pk).length) A = A := by rw [List.nil_append, List.take_of_length_le (by simp only [List.length_nil]; omega)]
        rw [e1] at hm2
        have hm3 : Mem w w2 [PkT (.slice (some ⟨w.heap.size, 0, none⟩) 1 1) [p], NetT b 3 A, PkT (.slice ra A.length rc) A] := hm2
        clear e0 e1 hm2 hmA hF2 hrA
        have hall : A.all okc = true := by rw [okc_all, hw]; rfl
        have Hall := Lib.hid hall; clear hall hw
        go_wp2
        go_loopw [13, 14] (fun m i wr => ∃ k : Nat, k ≤ A.length ∧ i = .int .i64 k ∧ m = .bool ((A.take k).all okc) ∧ Mem w wr [PkT (.slice (some ⟨w.heap.size, 0, none⟩) 1 1) [p], NetT b 3 A, PkT (.slice ra A.length rc) A]) (fun _ i _ => A.length - (intOf i).toNat)
        case atStart => exact ⟨0, Nat.zero_le _, rfl, rfl, hm3⟩
        case round =>
          obtain ⟨j, hj, rfl, rfl, hmr⟩ := hrel
          obtain ⟨F, hF⟩ := hmr.see 2 rfl
          have hrA := pkT_reads hF
          clear hF
          by_cases hlt : j < A.length
          · obtain ⟨b', off, d, he, _, _, hbl, _⟩ := hrA.addr (by rw [pkCells_length]; omega)
            simp only [Value.slice.injEq, true_and] at he
            obtain ⟨rfl, rfl⟩ := he
            obtain ⟨g0, g1, g2⟩ := hrA.pk j hlt
            obtain ⟨q, hq⟩ : ∃ q, A[j] = q := ⟨_, rfl⟩
            have hok : okc q = true := by rw [← hq]; exact List.all_eq_true.1 Hall.out _ (List.getElem_mem hlt)
            have hnext : Hid ((A.take (j + 1)).all okc = true) := by show _ = _; exact List.all_eq_true.2 (fun x hx => List.all_eq_true.1 Hall.out x (List.mem_of_mem_take hx))
            have hnow : (A.take j).all okc = true := List.all_eq_true.2 (fun x hx => List.all_eq_true.1 Hall.out x (List.mem_of_mem_take hx))
            rw [hq] at g0 g1 g2
            rw [hnow]
            obtain ⟨qf, qt, qs⟩ := q
            simp only [okc, wrongB, nd, Bool.not_or, Bool.not_not, Bool.and_eq_true, decide_eq_true_eq, Bool.not_eq_true', beq_eq_false_iff_ne, decide_eq_false_iff_not] at hok
            obtain ⟨⟨h1, h2⟩, ⟨h3, h4⟩, h5, h6⟩ := hok
            have h5' : (qf != qt) = true := by simpa using h5
            have h6' : (qs.size : Int) ≤ 65536 := by omega
            have h2' : qf ≤ 2 := by omega
            have h4' : qt ≤ 2 := by omega
            clear h2 h4 h5 h6 hq hnow
            dsimp only at g0 g1 g2
            have hm4 := mem_lit hmr (.cells #[.int .i64 qf, .int .i64 qt, .string qs] 34)
            go_wp2
            go_roundw
            case rel => exact ⟨j + 1, by omega, by go_num, by rw [hnext.out], hm4⟩
            case measure => simp [intOf]; omega
          · obtain rfl : j = A.length := by omega
            rw [List.take_length, Hall.out]
            have hne : ((A.length : Int) == 0) = false := by rw [beq_eq_false_iff_ne]; omega
            have hee : ((A.length : Int) == (A.length : Int)) = true := by simp
            go_wp2_with fail
            refine (len_m hmr 1 rfl).mono ?_
            rintro e w3 ⟨rfl, rfl⟩
            go_wp2_with fail
            refine (len_m hmr 1 rfl).mono ?_
            rintro e w3 ⟨rfl, rfl⟩
            go_wp2_with fail
            refine (awake_any _).mono ?_
            rintro e w3 ⟨rfl, hk3⟩
            have hfin : Hid (Keeps No w w3) := hmr.keeps.trans hk3 (fun _ _ h => h)
            go_wp2
            go_ret
            exact ⟨rfl, hfin.out⟩
      · go_wp2_with fail
        refine (send_m_no hmA 1 rfl _ A hrA hw).mono ?_
        rintro e w2 ⟨rfl, hm2, _⟩
        clear hmA hF2 hrA
        have hall : A.all okc = false := by rw [okc_all, hw]; rfl
        have Hall := Lib.hid hall; clear hall hw
        go_wp2
        go_loopw [13, 14] (fun m i wr => ∃ k : Nat, k ≤ A.length ∧ i = .int .i64 k ∧ m = .bool ((A.take k).all okc) ∧ Mem w wr [PkT (.slice (some ⟨w.heap.size, 0, none⟩) 1 1) [p], NetT b 3 [], PkT (.slice ra A.length rc) A]) (fun _ i _ => A.length - (intOf i).toNat)
        case atStart => exact ⟨0, Nat.zero_le _, rfl, rfl, hm2⟩
        case round =>
          obtain ⟨j, hj, rfl, rfl, hmr⟩ := hrel
          obtain ⟨F, hF⟩ := hmr.see 2 rfl
          have hrA := pkT_reads hF
          clear hF
          by_cases hlt : j < A.length
          · obtain ⟨b', off, d, he, _, _, hbl, _⟩ := hrA.addr (by rw [pkCells_length]; omega)
            simp only [Value.slice.injEq, true_and] at he
            obtain ⟨rfl, rfl⟩ := he
            obtain ⟨g0, g1, g2⟩ := hrA.pk j hlt
            obtain ⟨q, hq⟩ : ∃ q, A[j] = q := ⟨_, rfl⟩
            have hnext : Hid ((A.take (j + 1)).all okc = ((A.take j).all okc && okc q)) := by show _ = _; rw [← hq]; exact okc_take A j hlt
            rw [hq] at g0 g1 g2
            clear hq
            obtain ⟨qf, qt, qs⟩ := q
            dsimp only at g0 g1 g2
            have hm4 := mem_lit hmr (.cells #[.int .i64 qf, .int .i64 qt, .string qs] 34)
            generalize (A.take j).all okc = m at *
            cases m
            · go_wp2
              go_roundw
              case rel => exact ⟨j + 1, by omega, by go_num, by rw [hnext.out]; rfl, hm4⟩
              case measure => simp [intOf]; omega
            · have hk : ∀ x, okc ⟨qf, qt, qs⟩ = x → (A.take (j + 1)).all okc = x := fun x hx => by rw [hnext.out, hx]; rfl
              have Hk := Lib.hid hk; clear hk
              have hO : Hid (okc ⟨qf, qt, qs⟩ = (decide (0 ≤ qf) && (decide (qf ≤ 2) && (decide (0 ≤ qt) && (decide (qt ≤ 2) && ((qf != qt) && decide ((qs.size : Int) ≤ 65536))))))) := by
                show _ = _
                rw [Bool.eq_iff_iff]
                simp only [okc, wrongB, nd, Bool.not_or, Bool.not_not, Bool.and_eq_true, decide_eq_true_eq, Bool.not_eq_true', beq_eq_false_iff_ne, decide_eq_false_iff_not, bne_iff_ne]
                omega
              by_cases h1 : 0 ≤ qf
              · by_cases h2 : qf ≤ 2
                · by_cases h3 : 0 ≤ qt
                  · by_cases h4 : qt ≤ 2
                    · cases h5 : (qf != qt)
                      · have hv : Hid (okc ⟨qf, qt, qs⟩ = false) := by show _ = _; rw [hO.out, h5]; simp
                        go_wp2
                        go_roundw
                        case rel => exact ⟨j + 1, by omega, by go_num, by rw [Hk.out _ hv.out], hm4⟩
                        case measure => simp [intOf]; omega
                      · by_cases h6 : (qs.size : Int) ≤ 65536
                        · have hv : Hid (okc ⟨qf, qt, qs⟩ = true) := by show _ = _; rw [hO.out, h5, decide_eq_true h1, decide_eq_true h2, decide_eq_true h3, decide_eq_true h4, decide_eq_true h6]; rfl
                          go_wp2
                          go_roundw
                          case rel => exact ⟨j + 1, by omega, by go_num, by rw [Hk.out _ hv.out], hm4⟩
                          case measure => simp [intOf]; omega
                        · have hv : Hid (okc ⟨qf, qt, qs⟩ = false) := by show _ = _; rw [hO.out, decide_eq_false h6]; simp
                          go_wp2
                          go_roundw
                          case rel => exact ⟨j + 1, by omega, by go_num, by rw [Hk.out _ hv.out], hm4⟩
                          case measure => simp [intOf]; omega
                    · have hv : Hid (okc ⟨qf, qt, qs⟩ = false) := by show _ = _; rw [hO.out]; simp [h4]
                      have h4' : (3 : Int) ≤ qt := by omega
                      clear h4
                      go_wp2
                      go_roundw
                      case rel => exact ⟨j + 1, by omega, by go_num, by rw [Hk.out _ hv.out], hm4⟩
                      case measure => simp [intOf]; omega
                  · have hv : Hid (okc ⟨qf, qt, qs⟩ = false) := by show _ = _; rw [hO.out]; simp [h3]
                    go_wp2
                    go_roundw
                    case rel => exact ⟨j + 1, by omega, by go_num, by rw [Hk.out _ hv.out], hm4⟩
                    case measure => simp [intOf]; omega
                · have hv : Hid (okc ⟨qf, qt, qs⟩ = false) := by show _ = _; rw [hO.out]; simp [h2]
                  have h2' : (3 : Int) ≤ qf := by omega
                  clear h2
                  go_wp2
                  go_roundw
                  case rel => exact ⟨j + 1, by omega, by go_num, by rw [Hk.out _ hv.out], hm4⟩
                  case measure => simp [intOf]; omega
              · have hv : Hid (okc ⟨qf, qt, qs⟩ = false) := by show _ = _; rw [hO.out]; simp [h1]
                go_wp2
                go_roundw
                case rel => exact ⟨j + 1, by omega, by go_num, by rw [Hk.out _ hv.out], hm4⟩
                case measure => simp [intOf]; omega
          · obtain rfl : j = A.length := by omega
            rw [List.take_length, Hall.out]
            have hne : ((0 : Int) == (A.length : Int)) = false := by rw [beq_eq_false_iff_ne]; omega
            go_wp2_with fail
            refine (len_m hmr 1 rfl).mono ?_
            rintro e w3 ⟨rfl, rfl⟩
            rw [show ((([] : List Pk).length : Nat) : Int) = 0 by rfl]
            go_wp2_with fail
            refine (len_m hmr 1 rfl).mono ?_
            rintro e w3 ⟨rfl, rfl⟩
            rw [show ((([] : List Pk).length : Nat) : Int) = 0 by rfl]
            go_wp2_with fail
            refine (awake_any _).mono ?_
            rintro e w3 ⟨rfl, hk3⟩
            have hfin : Hid (Keeps No w w3) := hmr.keeps.trans hk3 (fun _ _ h => h)
            go_wp2
            go_ret
            exact ⟨rfl, hfin.out⟩

set_option maxRecDepth 100000 in
theorem lifted (os : Os) (started : os.Started) (H : Type) (enc : TypeId × Value → H) :
    ReturnsInHanded {} Try.checked os 5 .any (Rows.netRefusesSpec.pre6 enc Try.prog Try.f5 Rows.netRefusesRow.domain false) (Rows.netRefusesSpec.post enc Try.prog Try.f5 false true false false) := by
  refine law_lifted os started H enc (by kernel_rfl) Try.func5
    (ChangeSpec.witness6 (enc := enc) (C := Try.checked) false ⟨#[], #[.slice none 0 0, .agg #[.int .i64 0, .int .i64 0, .string ByteArray.empty], .int .i64 0], []⟩ 8 (by kernel_rfl) (by kernel_rfl) (by kernel_rfl) (by kernel_rfl))
    (by decide +kernel) rfl Try.underlying4 rfl (fun ds h => by match ds, h with | [d1, d2, d3], _ => rfl) ?_
  intro W base args ds p hval hA
  rw [Try.params5] at hA hval
  obtain ⟨v0, v1, v2, d0, d1, d2, p0, p1, p2, rfl, rfl, rfl, h0, h1, h2⟩ := trodAll_three hA
  obtain ⟨l, hl, _⟩ := open_pks (hval 0 28 v0 rfl rfl) h0
  obtain ⟨q, rfl, _⟩ := open_pk (hval 1 34 v1 rfl rfl) h1
  obtain ⟨k, rfl, rfl, rfl, wk⟩ := open_int Try.underlying3 (hval 2 3 v2 rfl rfl) h2
  exact walk v0 l q k W wk hl

theorem holds : Rows.NetRefusesSaid :=
  OpenClaim.holds_of_wide 5 Try.f5 rfl rfl rfl rfl rfl rfl rfl ⟨rfl, rfl, rfl, rfl, rfl⟩ rfl rfl rfl rfl rfl (by kernel_rfl) Try.func5 (by kernel_rfl)
    (of_decide_eq_true (by kernel_rfl)) (by unfold Func.isWrapper; first | (rw [if_pos (by decide +kernel)]; kernel_rfl) | (rw [if_neg (by decide +kernel)]; exact ⟨rfl, rfl⟩))
    (fun os started H enc _ => lifted os started H enc)
end Go.Proofs.Ytneikamjlbfglaa.netRefuses
