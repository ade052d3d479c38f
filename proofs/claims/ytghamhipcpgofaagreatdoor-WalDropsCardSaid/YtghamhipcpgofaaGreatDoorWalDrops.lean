/-
  WalDrops, as the statement says it: no conditions.
-/
import Derived.Test.YtghamhipcpgofaaGreatDoorWaS
import Derived.BigQuiet
import Derived.Deep.DeepCutAuto
namespace Go.Proofs.YtghamhipcpgofaaGreatDoor.walDrops
open Go.ChangeShapes Go.WideShapes Go.ChangeAt Go.RowKit Go.Joins Go.Deep

set_option maxRecDepth 100000 in
set_option maxHeartbeats 2000000 in
theorem walk (w : World) (va : Value) (A : List Nm) (upto : Int) (hL : Laid w w.heap.size) (hA : RdN w va A) :
    Calls Tryz.prog 6 #[va, .int .i64 upto] w fun e W' => e = .returned (.bool true) ∧ Keeps No w W' := by
  have HL := Lib.hid hL
  have HA := Lib.hid hA
  obtain ⟨aa, ac, rfl⟩ := hA.slice
  clear hL hA
  go_enter Tryz.func6, Tryz.ntmps6
  go_wp2_with fail
  refine (few_any w _ A HA.out).mono ?_
  rintro e w1 ⟨v1, rfl, ho1, hk1⟩
  obtain ⟨L, hL⟩ : ∃ L, L = fewL A := ⟨_, rfl⟩
  have hlen := fewL_length A
  have hle := fewL_le A
  rw [← hL] at ho1 hlen hle
  obtain ⟨fa, fc, rfl⟩ := ownsRow_slice ho1
  have H1 := Lib.hid ho1
  have K1 := Lib.hid hk1
  have Hle := Lib.hid hle
  have Hlen := Lib.hid hlen
  have L1 := Lib.hid (HL.out.kept K1.out (fun _ h => h.elim))
  have B1 := Lib.hid K1.out.size
  clear ho1 hk1 hle hlen hL
  go_wp2_with fail
  refine (made_any L1.out B1.out).mono ?_
  rintro e w2 ⟨p, b, l, v, rfl, hW, ho, hp, hb, hl, hk2⟩
  have I2 : Hid (LogIn w1 w2 w.heap.size l p b v g0 d0) := Lib.hid ⟨hW, ownsRow_less ho B1.out, fun i hi => by
    rcases hi with e | e | e | e
    · omega
    · omega
    · omega
    · exact (ho.lt i e).1, hk2⟩
  clear hW ho hp hb hl hk2
  obtain ⟨A1, z1, g1, d1, he1, G1, hr1', hx1, hl1, hf1'⟩ := append_good good0 L (fun t ht => by have := Hle.out t ht; omega) (by have := Hlen.out; simp [Sg.next]; omega) (by have := Hlen.out; simp; omega)
  have hz : (⟨0, [], 0⟩ : Sg).next = 0 := rfl
  rw [hz, Nat.zero_add] at hx1
  have hr1 : recsOf (A1 ++ [z1]) = L := by rw [hr1']; rfl
  have hf1 : (A1 ++ [z1]).head?.map Sg.first = some 0 := by rw [hf1']; rfl
  have HG1 := Lib.hid G1
  have Hr1 := Lib.hid hr1
  have Hf1 := Lib.hid hf1
  have Hx1 := Lib.hid hx1
  have He1 := Lib.hid he1
  have Hfew : Hid (g1.firsts.length ≤ 1000000 ∧ g1.firsts.length = A1.length + 1 ∧ A1.length ≤ 64) := Lib.hid (by have := G1.few; rw [G1.g]; refine ⟨?_, ?_, by omega⟩ <;> simp <;> omega)
  have HR1 : Hid (RdN w1 (.slice fa L.length fc) L) := Lib.hid (RdN.ofOwn H1.out)
  have Hblk : Hid (∀ i, (Value.slice fa L.length fc).ownBlock = some i → i < w1.heap.size) := Lib.hid (fun i hi => (H1.out.lt i hi).2)
  clear hz hr1 hf1 hr1' hf1' G1 he1 hl1 hx1
  go_wp2_with fail
  refine (I2.out.append_any L1.out B1.out _ (L.map toB) (RdN.str (HR1.out.kept' I2.out.kp (fun _ _ h => h))) (fun i hi hs => by have := I2.out.new i hs; have := Hblk.out i hi; omega) (by have := Hlen.out; simp [g0]; omega) (by have := Hlen.out; simp [g0]; omega) 0 g1 d1 He1.out).mono ?_
  rintro e w3 ⟨rfl, ⟨v3, h3⟩, _⟩
  have I3 := Lib.hid h3
  clear h3
  go_wp2_with fail
  refine (segs_any I3.out.log.log Hfew.out.1).mono ?_
  rintro e w4 ⟨s4, rfl, ho4, hk4⟩
  have I4 := Lib.hid (I3.out.step hk4)
  obtain ⟨a4, c4, rfl⟩ := ownsRow_slice ho4
  clear ho4 hk4
  go_wp2_with fail
  refine (drop_any (I4.out.laid L1.out) I4.out.log Hfew.out.1 upto).mono ?_
  rintro e w5 ⟨k, v5, rfl, hkl, hup, hno, hW5, hv5, hk5⟩
  have HW5 := Lib.hid hW5
  have Hkl := Lib.hid hkl
  have Hup := Lib.hid hup
  have Hno := Lib.hid hno
  have K5 : Hid (Keeps No w1 w5) := Lib.hid (I4.out.kp.trans hk5 (fun i hi hs => by
    rcases hs with e | e | e
    · have := I4.out.new i (.inl e); omega
    · have := I4.out.new i (.inr (.inl e)); omega
    · have := I4.out.new i (.inr (.inr (.inl e))); omega))
  clear hkl hup hno hW5 hk5
  go_wp2_with fail
  refine (segs_any HW5.out.log (by have := Hfew.out.1; simp; omega)).mono ?_
  rintro e w6 ⟨s6, rfl, ho6, hk6⟩
  obtain ⟨N, hN⟩ : ∃ N, N = g1.firsts.length := ⟨_, rfl⟩
  obtain ⟨M, hM⟩ : ∃ M, M = (g1.firsts.drop k).length := ⟨_, rfl⟩
  have hMk : M + k = N := by rw [hM, hN, List.length_drop]; have := Hkl.out; omega
  have hM1 : 1 ≤ M := by have := Hkl.out; omega
  have hN64 : N ≤ 65 := by have := Hfew.out; omega
  have hr6 : RdInts w6 s6 (g1.firsts.drop k) := Reads.ofOwn ho6 (fun u hu => intsV_one u _ hu)
  obtain ⟨q, o, c6, rfl, _, _, hq6, hx⟩ := RdInts.cell hr6 (by omega)
  obtain ⟨f0, hf0⟩ : ∃ f, g1.firsts[k]? = some f := ⟨_, List.getElem?_eq_getElem Hkl.out⟩
  have hd0 : (g1.firsts.drop k)[0]? = some f0 := by rw [List.getElem?_drop]; exact hf0
  have c0 : w6.cell? ⟨q, o, none⟩ = some (.int .i64 f0) := hx 0 f0 hd0
  have Hf0 := Lib.hid hf0
  have HN := Lib.hid hN
  have HM := Lib.hid hM
  have K6 := Lib.hid hk6
  have Hx := Lib.hid hx
  have H6 : Hid (Reads w6 1 (.slice (some ⟨q, o, none⟩) (g1.firsts.drop k).length c6) (g1.firsts.drop k).length (intsV (g1.firsts.drop k))) := Lib.hid hr6
  have HF : Hid (∀ n, Calls Tryz.prog 26 #[dP l] (w6.drewN n) fun e w' => e = .returned (.int .i64 f0) ∧ w' = w6.drewN n) := Lib.hid (fun n => firstLog_any (((HW5.out.no K6.out).no ((Keeps.refl (S := No) w6).drewN n)).log) f0 hd0)
  rw [← hM, ← hN]
  have hw : IntKind.i64.wrap ((N : Int) - (k : Int)) = (M : Int) := by rw [IntKind.wrap_i64]; omega
  have hw2 : wrap64 ((N : Int) - (k : Int)) = (M : Int) := by unfold wrap64; omega
  have hkn : decide ((k : Int) < 0) = false := decide_eq_false (by omega)
  have hMn : decide ((M : Int) < 1) = false := decide_eq_false (by omega)
  have hM0 : 0 < M := by omega
  have hup0 : 0 < k → (f0 : Int) ≤ upto := fun h => Hup.out k f0 (by omega) (Nat.le_refl _) Hf0.out
  have hup1 : 1 < M → ∃ f1 : Nat, w6.cell? ⟨q, o + 1, none⟩ = some (.int .i64 f1) ∧ upto < (f1 : Int) := fun h => by
    have hlt : k + 1 < g1.firsts.length := by rw [← HN.out]; omega
    refine ⟨g1.firsts[k + 1], Hx.out 1 _ (by rw [List.getElem?_drop]; exact List.getElem?_eq_getElem hlt), Hno.out _ (List.getElem?_eq_getElem hlt)⟩
  have Hq : Hid (w5.heap.size ≤ q) := Lib.hid ((ho6.lt q rfl).1)
  have Hpb : Hid (p < w5.heap.size ∧ b < w5.heap.size ∧ w1.heap.size ≤ p ∧ w1.heap.size ≤ b) := Lib.hid (by have := HW5.out.disk.lt; exact ⟨this.1, this.2, I4.out.new p (.inr (.inl rfl)), I4.out.new b (.inr (.inr (.inl rfl)))⟩)
  have hgn : g1.name = wN := by rw [HG1.out.g]
  have hfir : g1.firsts = (A1 ++ [z1]).map Sg.first := by rw [HG1.out.g]
  obtain ⟨g5, hg5⟩ : ∃ g, g = (⟨g1.name, g1.firsts.drop k, g1.next⟩ : Lg) := ⟨_, rfl⟩
  obtain ⟨d5, hd5⟩ : ∃ d, d = rmAll g1.name (g1.firsts.take k) d1 := ⟨_, rfl⟩
  have G5 : Good wN (A1.drop k) z1 g5 d5 := by
    rw [hg5, hd5, hgn]
    exact drop_good k HG1.out (by have := Hkl.out; have := Hfew.out; omega)
  have W5n : Hid (∀ n, WLog (w6.drewN n) w.heap.size l p b v5 g5 d5) := Lib.hid (fun n => by rw [hg5, hd5]; exact (HW5.out.no K6.out).no ((Keeps.refl (S := No) w6).drewN n))
  obtain ⟨hrd, hfl⟩ := recs_drop A1 z1 k (by have := Hkl.out; have := Hfew.out; omega) HG1.out.link Hf1.out f0 (by rw [← hfir]; exact hf0)
  rw [Hr1.out] at hrd hfl
  obtain ⟨D, hD⟩ : ∃ D, D = L.drop f0 := ⟨_, rfl⟩
  rw [← hD] at hrd
  have HD := Lib.hid hD
  obtain ⟨d6, hd6⟩ : ∃ d, d = (d5.sync g5.last).2 := ⟨_, rfl⟩
  have HO : Hid (opThere d5 wN = (0, (A1.drop k ++ [z1]).map Sg.first, d5) ∧ opEnd wN ((A1.drop k ++ [z1]).map Sg.first) (opRun wN ((A1.drop k ++ [z1]).map Sg.first) d5) = (g5, D, d6)) := Lib.hid ⟨there_good G5, by rw [open_good G5, hrd, hd6]⟩
  have HA5 : Hid (g5.all d6 = D) := Lib.hid (by
    have h := all_good (reopened G5)
    rw [← hd6, recsOf_snoc] at h
    rw [h, ← hrd, recsOf_snoc])
  have Hg5 : Hid (g5.next = L.length ∧ g5.firsts.length ≤ 1000000 ∧ g5.firsts[0]? = some f0) := Lib.hid (by
    rw [hg5]
    refine ⟨?_, by show (g1.firsts.drop k).length ≤ _; rw [List.length_drop]; have := Hfew.out.1; omega, hd0⟩
    show g1.next = L.length
    rw [HG1.out.g]
    exact Hx1.out)
  have hfL : (f0 : Int) ≤ (L.length : Int) := by omega
  have HfL := Lib.hid hfL
  have K6Nn : Hid (∀ n, Keeps No w1 (w6.drewN n)) := Lib.hid (fun n => (K5.out.trans K6.out (fun _ _ h => h)).drewN n)
  clear hD hf0 hd0 hx hr6 ho6 hk6 hN hM hgn hfir hg5 hd5 G5 hrd hfl hd6
  go_upto_region 8 with fail
  go_cut [82] (fun s82 wx => s82 = .bool false ∧ ∃ n, wx = w6.drewN n)
  case first =>
    by_cases hk1 : 0 < k
    · have hki : decide ((0 : Int) < (k : Int)) = true := decide_eq_true (by omega)
      have hfu : decide (upto < (f0 : Int)) = false := decide_eq_false (by have := hup0 hk1; omega)
      by_cases hm1 : 1 < M
      · obtain ⟨f1, c1, hu1⟩ := hup1 hm1
        have hmi : decide ((1 : Int) < (M : Int)) = true := decide_eq_true (by omega)
        have hmi2 : (1 : Int) < (M : Int) := by omega
        have hfu1 : decide ((f1 : Int) ≤ upto) = false := decide_eq_false (by omega)
        clear hup0 hup1
        go_quiet (first | (go_at_call 26; with_reducible exact Calls.quiet_of_same (HF.out _)))
        go_wp2_with fail
        go_meet
        exact ⟨rfl, _, rfl⟩
      · have hmi : decide ((1 : Int) < (M : Int)) = false := decide_eq_false (by omega)
        clear hup0 hup1
        go_quiet (first | (go_at_call 26; with_reducible exact Calls.quiet_of_same (HF.out _)))
        go_wp2_with fail
        go_meet
        exact ⟨rfl, _, rfl⟩
    · have hki : decide ((0 : Int) < (k : Int)) = false := decide_eq_false (by omega)
      by_cases hm1 : 1 < M
      · obtain ⟨f1, c1, hu1⟩ := hup1 hm1
        have hmi : decide ((1 : Int) < (M : Int)) = true := decide_eq_true (by omega)
        have hmi2 : (1 : Int) < (M : Int) := by omega
        have hfu1 : decide ((f1 : Int) ≤ upto) = false := decide_eq_false (by omega)
        clear hup0 hup1
        go_quiet (first | (go_at_call 26; with_reducible exact Calls.quiet_of_same (HF.out _)))
        go_wp2_with fail
        go_meet
        exact ⟨rfl, _, rfl⟩
      · have hmi : decide ((1 : Int) < (M : Int)) = false := decide_eq_false (by omega)
        clear hup0 hup1
        go_quiet (first | (go_at_call 26; with_reducible exact Calls.quiet_of_same (HF.out _)))
        go_wp2_with fail
        go_meet
        exact ⟨rfl, _, rfl⟩
  case rest =>
    obtain ⟨rfl, nq, rfl⟩ := hcut
    have W5 := Lib.hid (W5n.out nq)
    have K6N := Lib.hid (K6Nn.out nq)
    clear hup0 hup1
    go_wp2_with fail
    refine (openLog_any (L1.out.kept K6N.out (fun _ h => h.elim)) (Nat.le_trans B1.out K6N.out.size) W5.out.disk W5.out.bp W5.out.bb wN (by kernel_rfl) _ d5 HO.out.1 _ rfl g5 D d6 HO.out.2).mono ?_
    rintro e w8 ⟨l8, v8, ov8, rfl, hW8, _, ho8, hl8, _, hk8⟩
    obtain ⟨a8, c8, rfl⟩ := ownsRow_slice ho8
    have W8 := Lib.hid hW8
    have WA := Lib.hid (W5.out.disked hk8 hW8.disk)
    have K8 : Hid (Keeps No w1 w8) := Lib.hid (K6N.out.trans hk8 (fun i hi e => by have := Hpb.out; rcases e with e | e <;> omega))
    have R8 := Lib.hid (RdN.ofOwn ho8)
    have cc := hk8.cell (show (w6.drewN nq).cell? ⟨q, o, none⟩ = some (.int .i64 f0) from c0) (fun e => by have := Hpb.out; have := Hq.out; rcases e with e | e <;> (simp only at e; omega))
    clear hW8 ho8 hl8 hk8
    have c8cell := Lib.hid cc
    have hf00 : (0 : Int) ≤ (f0 : Int) := by omega
    have hsplit : (fa = none ∧ fc = 0 ∧ L = []) ∨ ∃ q, fa = some ⟨q, 0, none⟩ ∧ L.length ≤ fc ∧ fc ≤ maxLen := by
      rcases H1.out.2 with ⟨he, h0⟩ | ⟨q, cap, cur, he, hq, hqh, hnc, hcm, _⟩
      · simp only [Value.slice.injEq] at he
        exact .inl ⟨he.1, he.2.2, List.eq_nil_of_length_eq_zero he.2.1⟩
      · simp only [Value.slice.injEq, true_and] at he
        obtain ⟨rfl, rfl⟩ := he
        exact .inr ⟨q, rfl, hnc, hcm⟩
    rcases hsplit with ⟨rfl, rfl, h0⟩ | ⟨qq, rfl, hnc, hcm⟩
    · have hf0z : f0 = 0 := by rw [h0] at hfL; simp at hfL; omega
      subst h0
      subst hf0z
      have cc : w8.cell? ⟨q, o, none⟩ = some (.int .i64 0) := cc
      have c8cell : Hid (w8.cell? ⟨q, o, none⟩ = some (.int .i64 0)) := Lib.hid cc
      have HS1 : Hid (Calls Tryz.prog 21 #[.slice a8 D.length c8, .slice none 0 0] w8.drew fun e w' => e = .returned (.bool true) ∧ Keeps No w8.drew w') := Lib.hid (by
        have hd : D = [] := by rw [HD.out]; rfl
        have h2 := same_any w8.drew (.slice a8 D.length c8) (.slice none 0 0) D [] (R8.out.kept' ((Keeps.refl (S := No) w8).drew) (fun _ _ h => h)) (Reads.nil _ _)
        rw [decide_eq_true hd] at h2
        exact h2)
      go_wp2_with fail
      go_region_held3 (fun w' => w'.cell? ⟨q, o, none⟩ = some (.int .i64 0)) (exact cc)
        (first
          | (go_at_call 21
             refine HS1.out.mono ?_
             clear HS1
             rintro e w9 ⟨rfl, hk9⟩
             have K9 : Hid (Keeps No w8 w9) := Lib.hid (((Keeps.refl (S := No) w8).drew).trans hk9 (fun _ _ h => h))
             have cd := K9.out.cell cc (fun h => h)
             clear hk9 cc
             have cc := cd
             clear cd)
          | (go_at_call 23
             refine (allLog_any (L1.out.kept (K8.out.trans K9.out (fun _ _ h => h)) (fun _ h => h.elim)) (Nat.le_trans B1.out (Nat.le_trans K8.out.size K9.out.size)) (WA.out.no K9.out) Hg5.out.2.1).mono ?_
             rintro e w10 ⟨v10, rfl, ho10, hk10⟩
             rw [HA5.out] at ho10
             obtain ⟨a10, c10, rfl⟩ := ownsRow_slice ho10
             have K10 : Hid (Keeps No w8 w10) := Lib.hid (K9.out.trans hk10 (fun _ _ h => h))
             have HS2 : Hid (Calls Tryz.prog 21 #[.slice a10 D.length c10, .slice a8 D.length c8] w10 fun e w' => e = .returned (.bool true) ∧ Keeps No w10 w') := Lib.hid (by
               have h2 := same_any w10 (.slice a10 D.length c10) (.slice a8 D.length c8) D D (RdN.ofOwn ho10) (R8.out.kept' K10.out (fun _ _ h => h))
               rw [decide_eq_true rfl] at h2
               exact h2)
             have cd := K10.out.cell (p := ⟨q, o, none⟩) c8cell.out (fun h => h)
             clear hk10 ho10 cc
             have cc := cd
             clear cd)
          | (go_at_call 21
             refine HS2.out.mono ?_
             clear HS2
             rintro e w11 ⟨rfl, hk11⟩
             have K11 : Hid (Keeps No w8 w11) := Lib.hid (K10.out.trans hk11 (fun _ _ h => h))
             have HF2 : Hid (Calls Tryz.prog 26 #[dP l8] w11 fun e w' => e = .returned (.int .i64 0) ∧ w' = w11) := Lib.hid (firstLog_any ((W8.out.no K11.out).log) 0 Hg5.out.2.2)
             have HX2 : Hid (Calls Tryz.prog 22 #[dP l8] w11 fun e w' => e = .returned (.int .i64 0) ∧ w' = w11) := Lib.hid (by have h := nextLog_any ((W8.out.no K11.out).log); rw [Hg5.out.1] at h; exact h)
             have KF : Hid (Keeps No w w11) := Lib.hid ((K1.out.trans K8.out (fun _ _ h => h)).trans K11.out (fun _ _ h => h))
             have HAW : Hid (Calls Tryz.prog 16 #[] w11 fun e w' => e = .returned (.bool true) ∧ Keeps No w11 w') := Lib.hid (awake_any (base := w.heap.size) (HL.out.kept KF.out (fun _ h => h.elim)) KF.out.size)
             have cd := K11.out.cell c8cell.out (fun h => h)
             clear hk11 cc
             have cc := cd
             clear cd)
          | (go_at_call 26
             refine HF2.out.mono ?_
             rintro e w12 ⟨rfl, h12⟩
             have h12 := h12.symm
             subst h12)
          | (go_at_call 22
             refine HX2.out.mono ?_
             rintro e w12 ⟨rfl, h12⟩
             have h12 := h12.symm
             subst h12)
          | (go_at_call 16
             refine HAW.out.mono ?_
             rintro e w13 ⟨rfl, hk13⟩
             have K13 : Hid (Keeps No w w13) := Lib.hid (KF.out.trans hk13 (fun _ _ h => h))
             have cd := hk13.cell cc (fun h => h)
             clear hk13 cc
             have cc := cd
             clear cd))
      go_wp2_with fail
      go_ret
      exact ⟨rfl, K13.out⟩
    by_cases hfc : fc = f0
    · have hfi : (f0 : Int) ≤ (fc : Int) := by omega
      have HS1 : Hid (Calls Tryz.prog 21 #[.slice a8 D.length c8, .slice (some ⟨qq, 0, none⟩) (L.length - f0) 0] w8.drew fun e w' => e = .returned (.bool true) ∧ Keeps No w8.drew w') := Lib.hid (by
        have h : RdN w1 (.slice (some ⟨qq, 0, none⟩) (L.length - f0) 0) D := by
          rw [HD.out]
          exact RdN.over rfl (by omega)
        have h2 := same_any w8.drew (.slice a8 D.length c8) _ D D (R8.out.kept' ((Keeps.refl (S := No) w8).drew) (fun _ _ h => h)) ((h.kept' K8.out (fun _ _ h => h)).kept' ((Keeps.refl (S := No) w8).drew) (fun _ _ h => h))
        rw [decide_eq_true rfl] at h2
        exact h2)
      go_wp2_with fail
      go_region_held3 (fun w' => w'.cell? ⟨q, o, none⟩ = some (.int .i64 f0)) (exact cc)
        (first
          | (go_at_call 21
             refine HS1.out.mono ?_
             clear HS1
             rintro e w9 ⟨rfl, hk9⟩
             have K9 : Hid (Keeps No w8 w9) := Lib.hid (((Keeps.refl (S := No) w8).drew).trans hk9 (fun _ _ h => h))
             have cd := K9.out.cell cc (fun h => h)
             clear hk9 cc
             have cc := cd
             clear cd)
          | (go_at_call 23
             refine (allLog_any (L1.out.kept (K8.out.trans K9.out (fun _ _ h => h)) (fun _ h => h.elim)) (Nat.le_trans B1.out (Nat.le_trans K8.out.size K9.out.size)) (WA.out.no K9.out) Hg5.out.2.1).mono ?_
             rintro e w10 ⟨v10, rfl, ho10, hk10⟩
             rw [HA5.out] at ho10
             obtain ⟨a10, c10, rfl⟩ := ownsRow_slice ho10
             have K10 : Hid (Keeps No w8 w10) := Lib.hid (K9.out.trans hk10 (fun _ _ h => h))
             have HS2 : Hid (Calls Tryz.prog 21 #[.slice a10 D.length c10, .slice a8 D.length c8] w10 fun e w' => e = .returned (.bool true) ∧ Keeps No w10 w') := Lib.hid (by
               have h2 := same_any w10 (.slice a10 D.length c10) (.slice a8 D.length c8) D D (RdN.ofOwn ho10) (R8.out.kept' K10.out (fun _ _ h => h))
               rw [decide_eq_true rfl] at h2
               exact h2)
             have cd := K10.out.cell (p := ⟨q, o, none⟩) c8cell.out (fun h => h)
             clear hk10 ho10 cc
             have cc := cd
             clear cd)
          | (go_at_call 21
             refine HS2.out.mono ?_
             clear HS2
             rintro e w11 ⟨rfl, hk11⟩
             have K11 : Hid (Keeps No w8 w11) := Lib.hid (K10.out.trans hk11 (fun _ _ h => h))
             have HF2 : Hid (Calls Tryz.prog 26 #[dP l8] w11 fun e w' => e = .returned (.int .i64 f0) ∧ w' = w11) := Lib.hid (firstLog_any ((W8.out.no K11.out).log) f0 Hg5.out.2.2)
             have HX2 : Hid (Calls Tryz.prog 22 #[dP l8] w11 fun e w' => e = .returned (.int .i64 L.length) ∧ w' = w11) := Lib.hid (by have h := nextLog_any ((W8.out.no K11.out).log); rw [Hg5.out.1] at h; exact h)
             have KF : Hid (Keeps No w w11) := Lib.hid ((K1.out.trans K8.out (fun _ _ h => h)).trans K11.out (fun _ _ h => h))
             have HAW : Hid (Calls Tryz.prog 16 #[] w11 fun e w' => e = .returned (.bool true) ∧ Keeps No w11 w') := Lib.hid (awake_any (base := w.heap.size) (HL.out.kept KF.out (fun _ h => h.elim)) KF.out.size)
             have cd := K11.out.cell c8cell.out (fun h => h)
             clear hk11 cc
             have cc := cd
             clear cd)
          | (go_at_call 26
             refine HF2.out.mono ?_
             rintro e w12 ⟨rfl, h12⟩
             have h12 := h12.symm
             subst h12)
          | (go_at_call 22
             refine HX2.out.mono ?_
             rintro e w12 ⟨rfl, h12⟩
             have h12 := h12.symm
             subst h12)
          | (go_at_call 16
             refine HAW.out.mono ?_
             rintro e w13 ⟨rfl, hk13⟩
             have K13 : Hid (Keeps No w w13) := Lib.hid (KF.out.trans hk13 (fun _ _ h => h))
             have cd := hk13.cell cc (fun h => h)
             clear hk13 cc
             have cc := cd
             clear cd))
      go_wp2_with fail
      go_ret
      exact ⟨rfl, K13.out⟩
    · have hfi : (f0 : Int) ≤ (fc : Int) := by omega
      have HS1 : Hid (Calls Tryz.prog 21 #[.slice a8 D.length c8, .slice (some ⟨qq, f0, none⟩) (L.length - f0) (fc - f0)] w8.drew fun e w' => e = .returned (.bool true) ∧ Keeps No w8.drew w') := Lib.hid (by
        have h : RdN w1 (.slice (some ⟨qq, f0, none⟩) (L.length - f0) (fc - f0)) D := by
          rw [HD.out]
          have h := HR1.out.drop' rfl (by omega : f0 ≤ L.length)
          rwa [Nat.zero_add] at h
        have h2 := same_any w8.drew (.slice a8 D.length c8) _ D D (R8.out.kept' ((Keeps.refl (S := No) w8).drew) (fun _ _ h => h)) ((h.kept' K8.out (fun _ _ h => h)).kept' ((Keeps.refl (S := No) w8).drew) (fun _ _ h => h))
        rw [decide_eq_true rfl] at h2
        exact h2)
      go_wp2_with fail
      go_region_held3 (fun w' => w'.cell? ⟨q, o, none⟩ = some (.int .i64 f0)) (exact cc)
        (first
          | (go_at_call 21
             refine HS1.out.mono ?_
             clear HS1
             rintro e w9 ⟨rfl, hk9⟩
             have K9 : Hid (Keeps No w8 w9) := Lib.hid (((Keeps.refl (S := No) w8).drew).trans hk9 (fun _ _ h => h))
             have cd := K9.out.cell cc (fun h => h)
             clear hk9 cc
             have cc := cd
             clear cd)
          | (go_at_call 23
             refine (allLog_any (L1.out.kept (K8.out.trans K9.out (fun _ _ h => h)) (fun _ h => h.elim)) (Nat.le_trans B1.out (Nat.le_trans K8.out.size K9.out.size)) (WA.out.no K9.out) Hg5.out.2.1).mono ?_
             rintro e w10 ⟨v10, rfl, ho10, hk10⟩
             rw [HA5.out] at ho10
             obtain ⟨a10, c10, rfl⟩ := ownsRow_slice ho10
             have K10 : Hid (Keeps No w8 w10) := Lib.hid (K9.out.trans hk10 (fun _ _ h => h))
             have HS2 : Hid (Calls Tryz.prog 21 #[.slice a10 D.length c10, .slice a8 D.length c8] w10 fun e w' => e = .returned (.bool true) ∧ Keeps No w10 w') := Lib.hid (by
               have h2 := same_any w10 (.slice a10 D.length c10) (.slice a8 D.length c8) D D (RdN.ofOwn ho10) (R8.out.kept' K10.out (fun _ _ h => h))
               rw [decide_eq_true rfl] at h2
               exact h2)
             have cd := K10.out.cell (p := ⟨q, o, none⟩) c8cell.out (fun h => h)
             clear hk10 ho10 cc
             have cc := cd
             clear cd)
          | (go_at_call 21
             refine HS2.out.mono ?_
             clear HS2
             rintro e w11 ⟨rfl, hk11⟩
             have K11 : Hid (Keeps No w8 w11) := Lib.hid (K10.out.trans hk11 (fun _ _ h => h))
             have HF2 : Hid (Calls Tryz.prog 26 #[dP l8] w11 fun e w' => e = .returned (.int .i64 f0) ∧ w' = w11) := Lib.hid (firstLog_any ((W8.out.no K11.out).log) f0 Hg5.out.2.2)
             have HX2 : Hid (Calls Tryz.prog 22 #[dP l8] w11 fun e w' => e = .returned (.int .i64 L.length) ∧ w' = w11) := Lib.hid (by have h := nextLog_any ((W8.out.no K11.out).log); rw [Hg5.out.1] at h; exact h)
             have KF : Hid (Keeps No w w11) := Lib.hid ((K1.out.trans K8.out (fun _ _ h => h)).trans K11.out (fun _ _ h => h))
             have HAW : Hid (Calls Tryz.prog 16 #[] w11 fun e w' => e = .returned (.bool true) ∧ Keeps No w11 w') := Lib.hid (awake_any (base := w.heap.size) (HL.out.kept KF.out (fun _ h => h.elim)) KF.out.size)
             have cd := K11.out.cell c8cell.out (fun h => h)
             clear hk11 cc
             have cc := cd
             clear cd)
          | (go_at_call 26
             refine HF2.out.mono ?_
             rintro e w12 ⟨rfl, h12⟩
             have h12 := h12.symm
             subst h12)
          | (go_at_call 22
             refine HX2.out.mono ?_
             rintro e w12 ⟨rfl, h12⟩
             have h12 := h12.symm
             subst h12)
          | (go_at_call 16
             refine HAW.out.mono ?_
             rintro e w13 ⟨rfl, hk13⟩
             have K13 : Hid (Keeps No w w13) := Lib.hid (KF.out.trans hk13 (fun _ _ h => h))
             have cd := hk13.cell cc (fun h => h)
             clear hk13 cc
             have cc := cd
             clear cd))
      go_wp2_with fail
      go_ret
      exact ⟨rfl, K13.out⟩
set_option maxRecDepth 100000 in
theorem lifted (os : Os) (started : os.Started) (H : Type) (enc : TypeId × Value → H) (F : Stop.Interp) :
    ReturnsInHanded {} Tryz.checked os 6 .any ((OpenSpec.ofChange Rows.walDropsSpec).preRow enc Tryz.prog Tryz.f6 Rows.walDropsRow.domain false Rows.walDropsRow.laid) (((OpenSpec.ofChange Rows.walDropsSpec).at F).post enc Tryz.prog Tryz.f6 false true false false) := by
  refine law_laid os started F (by kernel_rfl) Tryz.func6
    (wal_witness (x := ([.nil, .lit (.int .i64 0)], [], [])) #[.slice none 0 0, .int .i64 0] (by kernel_rfl) (by kernel_rfl) (by kernel_rfl) (by kernel_rfl) (by kernel_rfl) (by kernel_rfl) (by kernel_rfl))
    (by decide +kernel) rfl Tryz.underlying4 rfl (fun ds h => by match ds, h with | [d1, d2], _ => rfl) ?_
  intro W base args ds p hval hA hL
  rw [Tryz.params6] at hA hval
  obtain ⟨v0, v1, d0, d1, p0, p1, rfl, rfl, rfl, h0, h1⟩ := trodAll_two hA
  obtain ⟨A, hAl⟩ := open_strs h0 (by obtain ⟨a, m, c, rfl⟩ := okWide_slice Tryz.underlying22 (hval 0 22 v0 rfl rfl); rfl)
  obtain ⟨k, rfl, rfl, rfl, hw⟩ := open_int Tryz.underlying3 (hval 1 3 v1 rfl rfl) h1
  exact walk W v0 A k (laid_of hL) hAl

theorem said : Rows.WalDropsSaid :=
  OpenClaim.holds_of_cond 6 Tryz.f6 rfl rfl rfl rfl rfl rfl rfl ⟨rfl, rfl, rfl, rfl, rfl⟩ rfl rfl rfl rfl rfl (by kernel_rfl) Tryz.func6 (by kernel_rfl)
    (of_decide_eq_true (by kernel_rfl)) (by unfold Func.isWrapper; first | (rw [if_pos (by decide +kernel)]; kernel_rfl) | (rw [if_neg (by decide +kernel)]; exact ⟨rfl, rfl⟩))
    (fun os started H enc _ F => by rw [OpenClaim.pre_eq_preRow]; exact lifted os started H enc F)
theorem plain (f : FuncId) (fn : Func) (hf : Tryz.pinned.checked.prog.funcNamed "hedgerow/hedgerowlaw07.WalDrops" = some f) (hfn : Tryz.pinned.checked.prog.funcs[f]? = some fn) :
    true = Tryz.pinned.checked.prog.looks [] ∧ ∀ (j : Nat) t, fn.params[j]? = some t → Tryz.pinned.checked.prog.wantsStandIn t = false := by
  obtain rfl : f = 6 := Option.some.inj ((show Tryz.prog.funcNamed "hedgerow/hedgerowlaw07.WalDrops" = some 6 by kernel_rfl).symm.trans hf) |>.symm
  obtain rfl : fn = Tryz.f6 := (Option.some.inj (Tryz.func6.symm.trans hfn)).symm
  refine ⟨by kernel_rfl, fun j t ht => ?_⟩
  rw [Tryz.params6] at ht
  have hm : t ∈ [22, 3] := by simpa using Array.mem_of_getElem? ht
  have hall : ([22, 3].all fun u => !Tryz.prog.wantsStandIn u) = true := by kernel_rfl
  exact (show Tryz.prog.wantsStandIn t = false by simpa using List.all_eq_true.1 hall t hm)
theorem card : Rows.WalDropsCardSaid :=
  Claim7.holds_tied_plain_at .later [] _ _ _ _ said (fun _ h => by cases h) (by kernel_rfl) (fun _ h => by cases h) walDrops_row_tie rfl ⟨rfl, rfl⟩ (by kernel_rfl) rfl plain (by kernel_rfl)
end Go.Proofs.YtghamhipcpgofaaGreatDoor.walDrops
