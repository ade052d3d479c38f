/-
  WalBack, as the statement says it: no conditions.
-/
import Derived.Test.YtghamhipcpgofaaGreatDoorWaR
namespace Go.Proofs.YtghamhipcpgofaaGreatDoor.walBack
open Go.ChangeShapes Go.WideShapes Go.ChangeAt Go.RowKit Go.Joins Go.Deep

theorem cut_at (cut : Int) (n : Nat) (hn : n ≤ 30) : ∃ k : Nat, (wrap64 (wrap64 (cut.tmod ((n : Int) + 1) + (n : Int)) + 1)).tmod ((n : Int) + 1) = (k : Int) ∧ k ≤ n := by
  have h1 : -((n : Int) + 1) < cut.tmod ((n : Int) + 1) := Int.lt_tmod_of_pos _ (by omega)
  have h2 : cut.tmod ((n : Int) + 1) < (n : Int) + 1 := Int.tmod_lt_of_pos _ (by omega)
  have e1 : wrap64 (cut.tmod ((n : Int) + 1) + (n : Int)) = cut.tmod ((n : Int) + 1) + (n : Int) := by unfold wrap64; omega
  have e2 : wrap64 (cut.tmod ((n : Int) + 1) + (n : Int) + 1) = cut.tmod ((n : Int) + 1) + (n : Int) + 1 := by unfold wrap64; omega
  rw [e1, e2]
  have h3 : 0 ≤ (cut.tmod ((n : Int) + 1) + (n : Int) + 1).tmod ((n : Int) + 1) := Int.tmod_nonneg _ (by omega)
  have h4 : (cut.tmod ((n : Int) + 1) + (n : Int) + 1).tmod ((n : Int) + 1) < (n : Int) + 1 := Int.tmod_lt_of_pos _ (by omega)
  exact ⟨((cut.tmod ((n : Int) + 1) + (n : Int) + 1).tmod ((n : Int) + 1)).toNat, by omega, by omega⟩

set_option maxRecDepth 100000 in
set_option maxHeartbeats 2000000 in
theorem walk (w : World) (va : Value) (A : List Nm) (cut : Int) (hL : Laid w w.heap.size) (hA : RdN w va A) :
    Calls Tryz.prog 8 #[va, .int .i64 cut] w fun e W' => e = .returned (.bool true) ∧ Keeps No w W' := by
  have HL := Lib.hid hL
  have HA := Lib.hid hA
  obtain ⟨aa, ac, rfl⟩ := hA.slice
  clear hL hA
  go_enter Tryz.func8, Tryz.ntmps8
  go_wp2_with fail
  refine (few_any w _ A HA.out).mono ?_
  rintro e w1 ⟨v1, rfl, ho1, hk1⟩
  obtain ⟨L, hL⟩ : ∃ L, L = fewL A := ⟨_, rfl⟩
  have hlen := fewL_length A
  have hle := fewL_le A
  rw [← hL] at ho1 hlen hle
  obtain ⟨fa, fc, rfl⟩ := ownsRow_slice ho1
  have H1 := Lib.hid ho1
  have K1 := Lib.hid hk1
  have Hle := Lib.hid hle
  have Hlen := Lib.hid hlen
  obtain ⟨n, hn⟩ : ∃ n, n = L.length := ⟨_, rfl⟩
  have HN := Lib.hid hn
  rw [← hn]
  have hni : (n : Int) ≤ 30 := by omega
  have hn0 : (0 : Int) ≤ (n : Int) := by omega
  clear ho1 hk1 hle hlen hL hn
  obtain ⟨k, hk, hkn⟩ := cut_at cut n (by omega)
  go_wp2_with fail
  have L1 := Lib.hid (HL.out.kept K1.out (fun _ h => h.elim))
  have B1 := Lib.hid K1.out.size
  refine (made_any L1.out B1.out).mono ?_
  rintro e w2 ⟨p, b, l, v, rfl, hW, ho, hp, hb, hl, hk2⟩
  have I2 : Hid (LogIn w1 w2 w.heap.size l p b v g0 d0) := Lib.hid ⟨hW, ownsRow_less ho B1.out, fun i hi => by
    rcases hi with e | e | e | e
    · omega
    · omega
    · omega
    · exact (ho.lt i e).1, hk2⟩
  have K2 := Lib.hid hk2
  clear hW ho hp hb hl hk2 hk
  obtain ⟨A1, z1, g1, d1, he1, G1, hr1', hx1, hl1, hf1⟩ := append_good good0 (L.take k) (fun t ht => by have := Hle.out t (List.mem_of_mem_take ht); omega) (by simp [Sg.next]; omega) (by simp; omega)
  have hz : (⟨0, [], 0⟩ : Sg).next = 0 := rfl
  rw [hz] at hx1
  have hr1 : recsOf (A1 ++ [z1]) = L.take k := by rw [hr1']; rfl
  have hlt : (L.take k).length = k := by rw [List.length_take]; have := HN.out; omega
  have hld : (L.drop k).length = n - k := by rw [List.length_drop, HN.out]
  rw [hlt] at hx1 hl1
  simp only [List.length_nil] at hl1
  obtain ⟨A2, z2, g2, d2, he2, G2, hr2', hx2', hl2, hf2'⟩ := append_good G1 (L.drop k) (fun t ht => by have := Hle.out t (List.mem_of_mem_drop ht); omega) (by omega) (by omega)
  have hr2 : recsOf (A2 ++ [z2]) = L := by rw [hr2', hr1, List.take_append_drop]
  have hf2 : (A2 ++ [z2]).head?.map Sg.first = some 0 := by rw [hf2', hf1]; rfl
  have hx2 : z2.next = n := by omega
  have Hp := Lib.hid (And.intro he1 he2)
  have HG2 := Lib.hid G2
  have Hr2 := Lib.hid hr2
  have Hf2 := Lib.hid hf2
  have Hx2 := Lib.hid hx2
  have Hg1 : Hid (g1.next = k ∧ g1.firsts.length ≤ 40) := Lib.hid (by rw [G1.g]; refine ⟨by show z1.next = k; omega, ?_⟩; simp; omega)
  have Hg2 : Hid (g2.next = n ∧ g2.firsts.length ≤ 1000000 ∧ g2.firsts[0]? = some 0) := Lib.hid (by
    rw [G2.g]
    refine ⟨hx2, by simp; omega, ?_⟩
    show ((A2 ++ [z2]).map Sg.first)[0]? = some 0
    rw [← hf2, List.head?_eq_getElem?, List.getElem?_map])
  obtain ⟨d3, hd3⟩ : ∃ d, d = (d2.sync g2.last).2 := ⟨_, rfl⟩
  obtain ⟨z3, hz3⟩ : ∃ q : Sg, q = ⟨z2.first, z2.recs, flen z2.recs⟩ := ⟨_, rfl⟩
  have G3 : Good wN A2 z3 g2 d3 := by rw [hd3, hz3]; exact reopened G2
  obtain ⟨d4, hd4⟩ : ∃ d, d = (d3.sync g2.last).2 := ⟨_, rfl⟩
  have hr3 : recsOf (A2 ++ [z3]) = L := by rw [← hr2, recsOf_snoc, recsOf_snoc, hz3]
  have HO1 : Hid (opThere d2 wN = (0, (A2 ++ [z2]).map Sg.first, d2) ∧ opEnd wN ((A2 ++ [z2]).map Sg.first) (opRun wN ((A2 ++ [z2]).map Sg.first) d2) = (g2, L, d3)) := Lib.hid ⟨there_good G2, by rw [open_good G2, hr2, hd3]⟩
  have HO2 : Hid (opThere d3 wN = (0, (A2 ++ [z3]).map Sg.first, d3) ∧ opEnd wN ((A2 ++ [z3]).map Sg.first) (opRun wN ((A2 ++ [z3]).map Sg.first) d3) = (g2, L, d4)) := Lib.hid ⟨there_good G3, by rw [open_good G3, hr3, hd4]⟩
  have HR1 : Hid (RdN w1 (.slice fa n fc) L) := Lib.hid (by rw [HN.out]; exact RdN.ofOwn H1.out)
  have Hblk : Hid (∀ i, (Value.slice fa n fc).ownBlock = some i → i < w1.heap.size) := Lib.hid (fun i hi => (H1.out.lt i (by rw [← HN.out]; exact hi)).2)
  have hH1 := H1.out
  have hsplit : (fa = none ∧ fc = 0 ∧ L = []) ∨ ∃ q, fa = some ⟨q, 0, none⟩ ∧ n ≤ fc ∧ fc ≤ maxLen := by
    rcases hH1.2 with ⟨he, h0⟩ | ⟨q, cap, cur, he, hq, hqh, hnc, hcm, _⟩
    · simp only [Value.slice.injEq] at he
      exact .inl ⟨he.1, he.2.2, List.eq_nil_of_length_eq_zero he.2.1⟩
    · simp only [Value.slice.injEq, true_and] at he
      obtain ⟨rfl, rfl⟩ := he
      exact .inr ⟨q, rfl, by have := HN.out; omega, hcm⟩
  have hk0 : (0 : Int) ≤ (k : Int) := by omega
  have HK : Hid (n = L.length ∧ k ≤ n) := Lib.hid ⟨HN.out, hkn⟩
  clear he1 he2 G1 G2 hr1 hr2 hx1 hx2 hl1 hl2 hf1 hf2 hz hlt hld hH1 hr1' hr2' hx2' hf2' G3 hr3 hd3 hd4 hz3
  rcases hsplit with ⟨rfl, rfl, h0⟩ | ⟨q, rfl, hnc, hcm⟩
  · have hn0' : n = 0 := by rw [HN.out, h0]; rfl
    subst h0
    subst hn0'
    have hk0' : k = 0 := by omega
    subst hk0'
    go_wp2_with fail
    refine (I2.out.append_any L1.out B1.out (.slice none 0 0) ((([] : List Nm)).map toB) (RdN.str (RdN.kept' HR1.out I2.out.kp (fun _ _ h => h))) (fun i hi hs => by have := I2.out.new i hs; have := Hblk.out i hi; omega) (by simp [g0]; try omega) (by simp [g0]; try omega) 0 g1 d1 Hp.out.1).mono ?_
    rintro e w3 ⟨rfl, ⟨v3, h3⟩, _⟩
    have I3 := Lib.hid h3
    clear h3
    go_wp2_with fail
    refine (I3.out.append_any L1.out B1.out (.slice none 0 0) ((([] : List Nm)).map toB) (RdN.str (RdN.kept' HR1.out I3.out.kp (fun _ _ h => h))) (fun i hi hs => by have := I3.out.new i hs; have := Hblk.out i hi; omega) (by have := Hg1.out.1; simp; have := HK.out; omega) (by have := Hg1.out.2; simp; have := HK.out; omega) 0 g2 d2 Hp.out.2).mono ?_
    rintro e w4 ⟨rfl, ⟨v4, h4⟩, _⟩
    have I4 := Lib.hid h4
    clear h4
    go_wp2_with fail
    refine (allLog_any (I4.out.laid L1.out) (Nat.le_trans B1.out I4.out.kp.size) I4.out.log Hg2.out.2.1).mono ?_
    rintro e w5 ⟨v5, rfl, ho5, hk5⟩
    rw [all_good HG2.out, Hr2.out] at ho5
    obtain ⟨a5, c5, rfl⟩ := ownsRow_slice ho5
    have I5 := Lib.hid (I4.out.step hk5)
    have R5 := Lib.hid (RdN.ofOwn ho5)
    clear ho5 hk5
    go_wp2_with fail
    refine (same_any w5 _ _ ([] : List Nm) ([] : List Nm) R5.out (HR1.out.kept' I5.out.kp (fun _ _ h => h))).mono ?_
    rintro e w6 ⟨rfl, hk6⟩
    rw [decide_eq_true rfl]
    have I6 := Lib.hid (I5.out.step hk6)
    clear hk6
    go_wp2_with fail
    refine (nextLog_any I6.out.log.log).mono ?_
    rintro e w7 ⟨rfl, h7⟩
    have h7 := h7.symm
    subst h7
    rw [Hg2.out.1]
    go_wp2_with fail
    refine (I6.out.open_any L1.out B1.out wN (by kernel_rfl) _ d2 HO1.out.1 g2 ([] : List Nm) d3 HO1.out.2).mono ?_
    rintro e w8 ⟨l8, v8, ov8, rfl, h8, _, ho8, _, _⟩
    obtain ⟨a8, c8, rfl⟩ := ownsRow_slice ho8
    have I8 := Lib.hid h8
    have R8 := Lib.hid ho8
    clear h8 ho8
    go_wp2_with fail
    refine (copy_any I8.out.log.disk).mono ?_
    rintro e w9 ⟨rfl, hd9, hk9⟩
    have D9 : Hid (DAt w9 (w8.heap.size + 1) w8.heap.size d3) := Lib.hid hd9
    have K9 := Lib.hid hk9
    clear hd9 hk9
    have B8 := Lib.hid (Nat.le_trans B1.out I8.out.kp.size)
    go_wp2_with fail
    refine (openLog_any ((I8.out.laid L1.out).kept K9.out (fun _ h => h.elim)) (Nat.le_trans B8.out K9.out.size) D9.out (Nat.le_succ_of_le B8.out) B8.out wN (by kernel_rfl) _ d3 HO2.out.1 _ rfl g2 ([] : List Nm) d4 HO2.out.2).mono ?_
    rintro e w10 ⟨l10, v10, ov10, rfl, hW10, _, ho10, _, _, hk10⟩
    have K10 : Hid (Keeps (fun i => w8.heap.size ≤ i) w8 w10) := Lib.hid ((K9.out.mono (fun _ _ h => h.elim)).trans hk10 (fun i _ e => by rcases e with e | e <;> (show w8.heap.size ≤ i) <;> omega))
    have KN : Hid (Keeps No w1 w10) := Lib.hid (I8.out.kp.trans K10.out (fun i hi e => by have := I8.out.kp.size; have e' : w8.heap.size ≤ i := e; omega))
    obtain ⟨a10, c10, rfl⟩ := ownsRow_slice ho10
    have R10 := Lib.hid ho10
    have W10 := Lib.hid hW10
    have W8 : Hid (WLog w10 w.heap.size l8 p b v8 g2 d3) := Lib.hid (I8.out.log.kept K10.out (fun i hi e => by have := I8.out.lt i hi; have e' : w8.heap.size ≤ i := e; omega))
    have R8b : Hid (RdN w10 (.slice a8 ([] : List Nm).length c8) ([] : List Nm)) := Lib.hid ((RdN.ofOwn R8.out).kept' K10.out (fun i hi e => by have := (R8.out.lt i hi).2; have e' : w8.heap.size ≤ i := e; omega))
    clear hW10 ho10 hk10
    go_wp2_with fail
    refine (same_any w10 _ _ ([] : List Nm) ([] : List Nm) R8b.out (HR1.out.kept' KN.out (fun _ _ h => h))).mono ?_
    rintro e w11 ⟨rfl, hk11⟩
    rw [decide_eq_true rfl]
    have K11 := Lib.hid hk11
    clear hk11
    go_wp2_with fail
    refine (same_any w11 _ _ ([] : List Nm) ([] : List Nm) ((RdN.ofOwn R10.out).kept' K11.out (fun _ _ h => h)) ((HR1.out.kept' KN.out (fun _ _ h => h)).kept' K11.out (fun _ _ h => h))).mono ?_
    rintro e w12 ⟨rfl, hk12⟩
    rw [decide_eq_true rfl]
    have K12 := Lib.hid (K11.out.trans hk12 (fun _ _ h => h))
    clear hk12
    go_wp2_with fail
    refine (nextLog_any (W8.out.no K12.out).log).mono ?_
    rintro e w13 ⟨rfl, h13⟩
    have h13 := h13.symm
    subst h13
    rw [Hg2.out.1]
    go_wp2_with fail
    refine (firstLog_any (W10.out.no K12.out).log 0 Hg2.out.2.2).mono ?_
    rintro e w13 ⟨rfl, h13⟩
    have h13 := h13.symm
    subst h13
    have KF := Lib.hid ((K1.out.trans KN.out (fun _ _ h => h)).trans K12.out (fun _ _ h => h))
    go_wp2_with fail
    refine (awake_any (base := w.heap.size) (HL.out.kept KF.out (fun _ h => h.elim)) KF.out.size).mono ?_
    rintro e w14 ⟨rfl, hk14⟩
    have K14 := Lib.hid (KF.out.trans hk14 (fun _ _ h => h))
    clear hk14
    go_wp2
    go_ret
    exact ⟨rfl, K14.out⟩
  · have hki : (k : Int) ≤ (fc : Int) := by omega
    go_wp2_with fail
    refine (I2.out.append_any L1.out B1.out (.slice (some ⟨q, 0, none⟩) k fc) ((L.take k).map toB) (RdN.str (RdN.kept' (HR1.out.take' HK.out.1 HK.out.2) I2.out.kp (fun _ _ h => h))) (fun i hi hs => by have := I2.out.new i hs; have := Hblk.out i hi; omega) (by simp [g0]; try omega) (by simp [g0]; try omega) 0 g1 d1 Hp.out.1).mono ?_
    rintro e w3 ⟨rfl, ⟨v3, h3⟩, _⟩
    have I3 := Lib.hid h3
    clear h3
    go_wp2_with fail
    · have hfk : k = fc := by omega
      subst hfk
      refine (I3.out.append_any L1.out B1.out (.slice (some ⟨q, 0, none⟩) (n - k) 0) ((L.drop k).map toB) (RdN.str (RdN.kept' (RdN.over HK.out.1 (by omega)) I3.out.kp (fun _ _ h => h))) (fun i hi hs => by have := I3.out.new i hs; have := Hblk.out i hi; omega) (by have := Hg1.out.1; simp; have := HK.out; omega) (by have := Hg1.out.2; simp; have := HK.out; omega) 0 g2 d2 Hp.out.2).mono ?_
      rintro e w4 ⟨rfl, ⟨v4, h4⟩, _⟩
      have I4 := Lib.hid h4
      clear h4
      go_wp2_with fail
      refine (allLog_any (I4.out.laid L1.out) (Nat.le_trans B1.out I4.out.kp.size) I4.out.log Hg2.out.2.1).mono ?_
      rintro e w5 ⟨v5, rfl, ho5, hk5⟩
      rw [all_good HG2.out, Hr2.out] at ho5
      obtain ⟨a5, c5, rfl⟩ := ownsRow_slice ho5
      have I5 := Lib.hid (I4.out.step hk5)
      have R5 := Lib.hid (RdN.ofOwn ho5)
      clear ho5 hk5
      go_wp2_with fail
      refine (same_any w5 _ _ L L R5.out (HR1.out.kept' I5.out.kp (fun _ _ h => h))).mono ?_
      rintro e w6 ⟨rfl, hk6⟩
      rw [decide_eq_true rfl]
      have I6 := Lib.hid (I5.out.step hk6)
      clear hk6
      go_wp2_with fail
      refine (nextLog_any I6.out.log.log).mono ?_
      rintro e w7 ⟨rfl, h7⟩
      have h7 := h7.symm
      subst h7
      rw [Hg2.out.1]
      go_wp2_with fail
      refine (I6.out.open_any L1.out B1.out wN (by kernel_rfl) _ d2 HO1.out.1 g2 L d3 HO1.out.2).mono ?_
      rintro e w8 ⟨l8, v8, ov8, rfl, h8, _, ho8, _, _⟩
      obtain ⟨a8, c8, rfl⟩ := ownsRow_slice ho8
      have I8 := Lib.hid h8
      have R8 := Lib.hid ho8
      clear h8 ho8
      go_wp2_with fail
      refine (copy_any I8.out.log.disk).mono ?_
      rintro e w9 ⟨rfl, hd9, hk9⟩
      have D9 : Hid (DAt w9 (w8.heap.size + 1) w8.heap.size d3) := Lib.hid hd9
      have K9 := Lib.hid hk9
      clear hd9 hk9
      have B8 := Lib.hid (Nat.le_trans B1.out I8.out.kp.size)
      go_wp2_with fail
      refine (openLog_any ((I8.out.laid L1.out).kept K9.out (fun _ h => h.elim)) (Nat.le_trans B8.out K9.out.size) D9.out (Nat.le_succ_of_le B8.out) B8.out wN (by kernel_rfl) _ d3 HO2.out.1 _ rfl g2 L d4 HO2.out.2).mono ?_
      rintro e w10 ⟨l10, v10, ov10, rfl, hW10, _, ho10, _, _, hk10⟩
      have K10 : Hid (Keeps (fun i => w8.heap.size ≤ i) w8 w10) := Lib.hid ((K9.out.mono (fun _ _ h => h.elim)).trans hk10 (fun i _ e => by rcases e with e | e <;> (show w8.heap.size ≤ i) <;> omega))
      have KN : Hid (Keeps No w1 w10) := Lib.hid (I8.out.kp.trans K10.out (fun i hi e => by have := I8.out.kp.size; have e' : w8.heap.size ≤ i := e; omega))
      obtain ⟨a10, c10, rfl⟩ := ownsRow_slice ho10
      have R10 := Lib.hid ho10
      have W10 := Lib.hid hW10
      have W8 : Hid (WLog w10 w.heap.size l8 p b v8 g2 d3) := Lib.hid (I8.out.log.kept K10.out (fun i hi e => by have := I8.out.lt i hi; have e' : w8.heap.size ≤ i := e; omega))
      have R8b : Hid (RdN w10 (.slice a8 L.length c8) L) := Lib.hid ((RdN.ofOwn R8.out).kept' K10.out (fun i hi e => by have := (R8.out.lt i hi).2; have e' : w8.heap.size ≤ i := e; omega))
      clear hW10 ho10 hk10
      go_wp2_with fail
      refine (same_any w10 _ _ L L R8b.out (HR1.out.kept' KN.out (fun _ _ h => h))).mono ?_
      rintro e w11 ⟨rfl, hk11⟩
      rw [decide_eq_true rfl]
      have K11 := Lib.hid hk11
      clear hk11
      go_wp2_with fail
      refine (same_any w11 _ _ L L ((RdN.ofOwn R10.out).kept' K11.out (fun _ _ h => h)) ((HR1.out.kept' KN.out (fun _ _ h => h)).kept' K11.out (fun _ _ h => h))).mono ?_
      rintro e w12 ⟨rfl, hk12⟩
      rw [decide_eq_true rfl]
      have K12 := Lib.hid (K11.out.trans hk12 (fun _ _ h => h))
      clear hk12
      go_wp2_with fail
      refine (nextLog_any (W8.out.no K12.out).log).mono ?_
      rintro e w13 ⟨rfl, h13⟩
      have h13 := h13.symm
      subst h13
      rw [Hg2.out.1]
      go_wp2_with fail
      refine (firstLog_any (W10.out.no K12.out).log 0 Hg2.out.2.2).mono ?_
      rintro e w13 ⟨rfl, h13⟩
      have h13 := h13.symm
      subst h13
      have KF := Lib.hid ((K1.out.trans KN.out (fun _ _ h => h)).trans K12.out (fun _ _ h => h))
      go_wp2_with fail
      refine (awake_any (base := w.heap.size) (HL.out.kept KF.out (fun _ h => h.elim)) KF.out.size).mono ?_
      rintro e w14 ⟨rfl, hk14⟩
      have K14 := Lib.hid (KF.out.trans hk14 (fun _ _ h => h))
      clear hk14
      go_wp2
      go_ret
      exact ⟨rfl, K14.out⟩
    · refine (I3.out.append_any L1.out B1.out (.slice (some ⟨q, k, none⟩) (n - k) (fc - k)) ((L.drop k).map toB) (RdN.str (RdN.kept' (show RdN w1 (.slice (some ⟨q, k, none⟩) (n - k) (fc - k)) (L.drop k) by have h := HR1.out.drop' HK.out.1 HK.out.2; rwa [Nat.zero_add] at h) I3.out.kp (fun _ _ h => h))) (fun i hi hs => by have := I3.out.new i hs; have := Hblk.out i hi; omega) (by have := Hg1.out.1; simp; have := HK.out; omega) (by have := Hg1.out.2; simp; have := HK.out; omega) 0 g2 d2 Hp.out.2).mono ?_
      rintro e w4 ⟨rfl, ⟨v4, h4⟩, _⟩
      have I4 := Lib.hid h4
      clear h4
      go_wp2_with fail
      refine (allLog_any (I4.out.laid L1.out) (Nat.le_trans B1.out I4.out.kp.size) I4.out.log Hg2.out.2.1).mono ?_
      rintro e w5 ⟨v5, rfl, ho5, hk5⟩
      rw [all_good HG2.out, Hr2.out] at ho5
      obtain ⟨a5, c5, rfl⟩ := ownsRow_slice ho5
      have I5 := Lib.hid (I4.out.step hk5)
      have R5 := Lib.hid (RdN.ofOwn ho5)
      clear ho5 hk5
      go_wp2_with fail
      refine (same_any w5 _ _ L L R5.out (HR1.out.kept' I5.out.kp (fun _ _ h => h))).mono ?_
      rintro e w6 ⟨rfl, hk6⟩
      rw [decide_eq_true rfl]
      have I6 := Lib.hid (I5.out.step hk6)
      clear hk6
      go_wp2_with fail
      refine (nextLog_any I6.out.log.log).mono ?_
      rintro e w7 ⟨rfl, h7⟩
      have h7 := h7.symm
      subst h7
      rw [Hg2.out.1]
      go_wp2_with fail
      refine (I6.out.open_any L1.out B1.out wN (by kernel_rfl) _ d2 HO1.out.1 g2 L d3 HO1.out.2).mono ?_
      rintro e w8 ⟨l8, v8, ov8, rfl, h8, _, ho8, _, _⟩
      obtain ⟨a8, c8, rfl⟩ := ownsRow_slice ho8
      have I8 := Lib.hid h8
      have R8 := Lib.hid ho8
      clear h8 ho8
      go_wp2_with fail
      refine (copy_any I8.out.log.disk).mono ?_
      rintro e w9 ⟨rfl, hd9, hk9⟩
      have D9 : Hid (DAt w9 (w8.heap.size + 1) w8.heap.size d3) := Lib.hid hd9
      have K9 := Lib.hid hk9
      clear hd9 hk9
      have B8 := Lib.hid (Nat.le_trans B1.out I8.out.kp.size)
      go_wp2_with fail
      refine (openLog_any ((I8.out.laid L1.out).kept K9.out (fun _ h => h.elim)) (Nat.le_trans B8.out K9.out.size) D9.out (Nat.le_succ_of_le B8.out) B8.out wN (by kernel_rfl) _ d3 HO2.out.1 _ rfl g2 L d4 HO2.out.2).mono ?_
      rintro e w10 ⟨l10, v10, ov10, rfl, hW10, _, ho10, _, _, hk10⟩
      have K10 : Hid (Keeps (fun i => w8.heap.size ≤ i) w8 w10) := Lib.hid ((K9.out.mono (fun _ _ h => h.elim)).trans hk10 (fun i _ e => by rcases e with e | e <;> (show w8.heap.size ≤ i) <;> omega))
      have KN : Hid (Keeps No w1 w10) := Lib.hid (I8.out.kp.trans K10.out (fun i hi e => by have := I8.out.kp.size; have e' : w8.heap.size ≤ i := e; omega))
      obtain ⟨a10, c10, rfl⟩ := ownsRow_slice ho10
      have R10 := Lib.hid ho10
      have W10 := Lib.hid hW10
      have W8 : Hid (WLog w10 w.heap.size l8 p b v8 g2 d3) := Lib.hid (I8.out.log.kept K10.out (fun i hi e => by have := I8.out.lt i hi; have e' : w8.heap.size ≤ i := e; omega))
      have R8b : Hid (RdN w10 (.slice a8 L.length c8) L) := Lib.hid ((RdN.ofOwn R8.out).kept' K10.out (fun i hi e => by have := (R8.out.lt i hi).2; have e' : w8.heap.size ≤ i := e; omega))
      clear hW10 ho10 hk10
      go_wp2_with fail
      refine (same_any w10 _ _ L L R8b.out (HR1.out.kept' KN.out (fun _ _ h => h))).mono ?_
      rintro e w11 ⟨rfl, hk11⟩
      rw [decide_eq_true rfl]
      have K11 := Lib.hid hk11
      clear hk11
      go_wp2_with fail
      refine (same_any w11 _ _ L L ((RdN.ofOwn R10.out).kept' K11.out (fun _ _ h => h)) ((HR1.out.kept' KN.out (fun _ _ h => h)).kept' K11.out (fun _ _ h => h))).mono ?_
      rintro e w12 ⟨rfl, hk12⟩
      rw [decide_eq_true rfl]
      have K12 := Lib.hid (K11.out.trans hk12 (fun _ _ h => h))
      clear hk12
      go_wp2_with fail
      refine (nextLog_any (W8.out.no K12.out).log).mono ?_
      rintro e w13 ⟨rfl, h13⟩
      have h13 := h13.symm
      subst h13
      rw [Hg2.out.1]
      go_wp2_with fail
      refine (firstLog_any (W10.out.no K12.out).log 0 Hg2.out.2.2).mono ?_
      rintro e w13 ⟨rfl, h13⟩
      have h13 := h13.symm
      subst h13
      have KF := Lib.hid ((K1.out.trans KN.out (fun _ _ h => h)).trans K12.out (fun _ _ h => h))
      go_wp2_with fail
      refine (awake_any (base := w.heap.size) (HL.out.kept KF.out (fun _ h => h.elim)) KF.out.size).mono ?_
      rintro e w14 ⟨rfl, hk14⟩
      have K14 := Lib.hid (KF.out.trans hk14 (fun _ _ h => h))
      clear hk14
      go_wp2
      go_ret
      exact ⟨rfl, K14.out⟩
set_option maxRecDepth 100000 in
theorem lifted (os : Os) (started : os.Started) (H : Type) (enc : TypeId × Value → H) (F : Stop.Interp) :
    ReturnsInHanded {} Tryz.checked os 8 .any ((OpenSpec.ofChange Rows.walBackSpec).preRow enc Tryz.prog Tryz.f8 Rows.walBackRow.domain false Rows.walBackRow.laid) (((OpenSpec.ofChange Rows.walBackSpec).at F).post enc Tryz.prog Tryz.f8 false true false false) := by
  refine law_laid os started F (by kernel_rfl) Tryz.func8
    (wal_witness (x := ([.nil, .lit (.int .i64 0)], [], [])) #[.slice none 0 0, .int .i64 0] (by kernel_rfl) (by kernel_rfl) (by kernel_rfl) (by kernel_rfl) (by kernel_rfl) (by kernel_rfl) (by kernel_rfl))
    (by decide +kernel) rfl Tryz.underlying4 rfl (fun ds h => by match ds, h with | [d1, d2], _ => rfl) ?_
  intro W base args ds p hval hA hL
  rw [Tryz.params8] at hA hval
  obtain ⟨v0, v1, d0, d1, p0, p1, rfl, rfl, rfl, h0, h1⟩ := trodAll_two hA
  obtain ⟨A, hAl⟩ := open_strs h0 (by obtain ⟨a, m, c, rfl⟩ := okWide_slice Tryz.underlying22 (hval 0 22 v0 rfl rfl); rfl)
  obtain ⟨k, rfl, rfl, rfl, hw⟩ := open_int Tryz.underlying3 (hval 1 3 v1 rfl rfl) h1
  exact walk W v0 A k (laid_of hL) hAl

theorem said : Rows.WalBackSaid :=
  OpenClaim.holds_of_cond 8 Tryz.f8 rfl rfl rfl rfl rfl rfl rfl ⟨rfl, rfl, rfl, rfl, rfl⟩ rfl rfl rfl rfl rfl (by kernel_rfl) Tryz.func8 (by kernel_rfl)
    (of_decide_eq_true (by kernel_rfl)) (by unfold Func.isWrapper; first | (rw [if_pos (by decide +kernel)]; kernel_rfl) | (rw [if_neg (by decide +kernel)]; exact ⟨rfl, rfl⟩))
    (fun os started H enc _ F => by rw [OpenClaim.pre_eq_preRow]; exact lifted os started H enc F)
theorem plain (f : FuncId) (fn : Func) (hf : Tryz.pinned.checked.prog.funcNamed "hedgerow/hedgerowlaw07.WalBack" = some f) (hfn : Tryz.pinned.checked.prog.funcs[f]? = some fn) :
    true = Tryz.pinned.checked.prog.looks [] ∧ ∀ (j : Nat) t, fn.params[j]? = some t → Tryz.pinned.checked.prog.wantsStandIn t = false := by
  obtain rfl : f = 8 := Option.some.inj ((show Tryz.prog.funcNamed "hedgerow/hedgerowlaw07.WalBack" = some 8 by kernel_rfl).symm.trans hf) |>.symm
  obtain rfl : fn = Tryz.f8 := (Option.some.inj (Tryz.func8.symm.trans hfn)).symm
  refine ⟨by kernel_rfl, fun j t ht => ?_⟩
  rw [Tryz.params8] at ht
  have hm : t ∈ [22, 3] := by simpa using Array.mem_of_getElem? ht
  have hall : ([22, 3].all fun u => !Tryz.prog.wantsStandIn u) = true := by kernel_rfl
  exact (show Tryz.prog.wantsStandIn t = false by simpa using List.all_eq_true.1 hall t hm)
theorem card : Rows.WalBackCardSaid :=
  Claim7.holds_tied_plain_at .later [] _ _ _ _ said (fun _ h => by cases h) (by kernel_rfl) (fun _ h => by cases h) walBack_row_tie rfl ⟨rfl, rfl⟩ (by kernel_rfl) rfl plain (by kernel_rfl)
end Go.Proofs.YtghamhipcpgofaaGreatDoor.walBack
