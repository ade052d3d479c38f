/-
  The law's helpers: same, few, made. No conditions of their own, but that the tables are laid.
-/
import Derived.Test.YtghamhipcpgofaaGreatDoorWaL
namespace Go.Proofs.YtghamhipcpgofaaGreatDoor
open Go.RowKit Go.Shelf Go.Sort Go.Joins

/-- texts in a row -/
abbrev RdN (w : World) (v : Value) (L : List Nm) : Prop := Reads w 1 v L.length (L.map encStr)
def toB (t : Nm) : ByteArray := ⟨t.toArray⟩
theorem enc_toB (L : List Nm) : (L.map toB).map .string = L.map encStr := by
  rw [List.map_map]
  rfl
theorem toB_inj {a b : Nm} (h : toB a = toB b) : a = b := by
  unfold toB at h
  simpa using h
theorem RdN.cell {w : World} {v : Value} {l : List Nm} (h : RdN w v l) (hl : 0 < l.length) : ∃ b off c, v = .slice (some ⟨b, off, none⟩) l.length c ∧ l.length ≤ c ∧ c ≤ maxLen ∧ b < w.heap.size ∧ ∀ (j : Nat) (s : Nm), l[j]? = some s → w.cell? ⟨b, off + j, none⟩ = some (.string (toB s)) := by
  obtain ⟨b, off, c, hv, h1, h2, h3, h4⟩ := h.addr (by simpa using hl)
  exact ⟨b, off, c, hv, h1, h2, h3, fun j n hj => h4 j _ (by rw [List.getElem?_map, hj]; rfl)⟩
theorem RdN.len {w : World} {v : Value} {l : List Nm} (h : RdN w v l) : l.length ≤ maxLen := by
  rcases h.shape with ⟨_, h0⟩ | ⟨_, c', he, h1, h2, _⟩
  · simp [h0]
  · omega
theorem RdN.str {w : World} {v : Value} {l : List Nm} (h : RdN w v l) : RdStr w v (l.map toB) := by
  unfold RdStr
  rw [enc_toB, List.length_map]
  exact h
theorem RdN.ofOwn {w : World} {base : Nat} {v : Value} {L : List Nm} (h : OwnStr w base v L.length L) : RdN w v L := Reads.ofOwn h (by intro u hu; obtain ⟨t, _, rfl⟩ := List.mem_map.1 hu; rfl)
theorem RdN.kept' {S : Nat → Prop} {a w : World} {v : Value} {L : List Nm} (hr : RdN a v L) (h : Keeps S a w) (hn : ∀ k, v.ownBlock = some k → ¬ S k) : RdN w v L := Reads.kept h hr hn
theorem str_ne {a b : ByteArray} (h : ¬ a = b) : (a.toList == b.toList) = false := by
  rw [beq_eq_false_iff_ne, ByteArray.toList_eq, ByteArray.toList_eq]
  intro e
  apply h
  cases a; cases b
  simp only at e
  rw [Array.ext' e]

set_option maxRecDepth 100000 in
set_option maxHeartbeats 2000000 in
theorem same_any (w : World) (va vb : Value) (A B : List Nm) (hA : RdN w va A) (hB : RdN w vb B) : Calls Tryz.prog 21 #[va, vb] w fun e w' => e = .returned (.bool (decide (A = B))) ∧ Keeps No w w' := by
  obtain ⟨aa, ac, rfl⟩ := hA.slice
  obtain ⟨ba, bc, rfl⟩ := hB.slice
  have HA := Lib.hid hA
  have HB := Lib.hid hB
  have hlen := hA.len
  unfold maxLen at hlen
  have hl1 : (A.length : Int) ≤ 9223372036854775807 := by omega
  by_cases hab : ¬ A.length = B.length
  · have hne : ¬ (A.length : Int) = (B.length : Int) := by omega
    have hne2 : ((A.length : Int) != (B.length : Int)) = true := by rw [bne_iff_ne]; exact hne
    have hf : decide (A = B) = false := decide_eq_false (fun e => hab (by rw [e]))
    rw [hf]
    clear hA hB hlen hab hf
    go_enter Tryz.func21, Tryz.ntmps21
    go_wp2
    go_ret
    exact ⟨rfl, Keeps.refl _⟩
  have hab : A.length = B.length := by omega
  have Hab := Lib.hid hab
  have hne2 : ((A.length : Int) != (B.length : Int)) = false := by rw [hab]; simp
  have hne : (A.length : Int) = (B.length : Int) := by omega
  clear hA hB hlen hab
  go_enter Tryz.func21, Tryz.ntmps21
  go_wp2
  go_loopw [5] (fun q wr => ∃ k : Nat, k ≤ A.length ∧ q = .int .i64 k ∧ A.take k = B.take k ∧ Keeps No w wr) (fun q _ => A.length - (intOf q).toNat)
  case atStart => exact ⟨0, Nat.zero_le _, rfl, rfl, Keeps.refl _⟩
  case round =>
    obtain ⟨k, hk, rfl, heq, hK⟩ := hrel
    have hk0 : (0 : Int) ≤ (k : Int) := by omega
    have HK := Lib.hid hK
    have Heq := Lib.hid heq
    by_cases hlt : k < A.length
    · have hltb : k < B.length := by have := Hab.out; omega
      obtain ⟨b, off, c, he, _, _, _, hx⟩ := RdN.cell HA.out (by omega)
      simp only [Value.slice.injEq, true_and] at he
      obtain ⟨rfl, rfl⟩ := he
      obtain ⟨b2, off2, c2, he, _, _, _, hx2⟩ := RdN.cell HB.out (by omega)
      simp only [Value.slice.injEq, true_and] at he
      obtain ⟨rfl, rfl⟩ := he
      have hc := hK.cell (hx k _ (List.getElem?_eq_getElem hlt)) (fun h => h)
      have hc2 := hK.cell (hx2 k _ (List.getElem?_eq_getElem hltb)) (fun h => h)
      have hki : (k : Int) < (A.length : Int) := by omega
      have hkib : (k : Int) < (B.length : Int) := by omega
      by_cases hs : A[k] = B[k]
      · rw [← hs] at hc2
        have Hnx : Hid (A.take (k + 1) = B.take (k + 1)) := Lib.hid (by rw [List.take_succ_eq_append_getElem hlt, List.take_succ_eq_append_getElem hltb, heq, hs])
        obtain ⟨s, hss⟩ : ∃ s, s = toB A[k] := ⟨_, rfl⟩
        rw [← hss] at hc hc2
        clear hx hx2 hs hss heq hK
        go_wp2_with fail
        go_region
        go_wp2
        go_roundw
        case rel => exact ⟨k + 1, by omega, by go_num, Hnx.out, HK.out.drew⟩
        case measure => simp [intOf]; omega
      · have hss : ¬ toB A[k] = toB B[k] := fun e => hs (toB_inj e)
        have hsx := str_ne hss
        have hf : decide (A = B) = false := decide_eq_false (fun e => hs (by simp [e]))
        have Hf := Lib.hid hf
        obtain ⟨s, hs1⟩ : ∃ s, s = toB A[k] := ⟨_, rfl⟩
        obtain ⟨t, hs2⟩ : ∃ t, t = toB B[k] := ⟨_, rfl⟩
        rw [← hs1] at hc hsx
        rw [← hs2] at hc2 hsx
        clear hx hx2 hs hss heq hK hf hs1 hs2
        go_wp2_with fail
        go_region
        go_wp2
        go_ret
        exact ⟨by rw [Hf.out]; rfl, HK.out.drew⟩
    · have hkn : k = A.length := by omega
      have hf : decide (A = B) = true := decide_eq_true (by
        have h2 := Hab.out
        rw [hkn, List.take_of_length_le (Nat.le_refl _), h2, List.take_of_length_le (Nat.le_refl _)] at heq
        exact heq)
      have Hf := Lib.hid hf
      subst hkn
      have hlt2 : ¬ ((A.length : Int) < (A.length : Int)) := by omega
      clear hf heq hK
      go_wp2
      go_ret
      exact ⟨by rw [Hf.out]; rfl, HK.out⟩

def fewP (t : Nm) : Bool := decide (t.length ≤ 5000)
def fewL (L : List Nm) : List Nm := (L.filter fewP).take 30
theorem fewL_length (L : List Nm) : (fewL L).length ≤ 30 := by unfold fewL; rw [List.length_take]; omega
theorem fewL_le (L : List Nm) : ∀ t ∈ fewL L, t.length ≤ 5000 := by
  intro t ht
  have := List.mem_of_mem_take ht
  rw [List.mem_filter] at this
  simpa [fewP] using this.2
theorem toB_size (t : Nm) : (toB t).size = t.length := by simp [toB, ByteArray.size]

set_option maxRecDepth 100000 in
set_option maxHeartbeats 2000000 in
theorem few_any (w : World) (va : Value) (A : List Nm) (hA : RdN w va A) : Calls Tryz.prog 9 #[va] w fun e w' => ∃ v', e = .returned v' ∧ OwnStr w' w.heap.size v' (fewL A).length (fewL A) ∧ Keeps No w w' := by
  obtain ⟨i0, hi, hz0, hz1, hz2⟩ := info_parts Tryz.infoStr
  obtain ⟨aa, ac, rfl⟩ := hA.slice
  have HA := Lib.hid hA
  have hlen := hA.len
  unfold maxLen at hlen
  have hl1 : (A.length : Int) ≤ 9223372036854775807 := by omega
  clear hA hlen
  go_enter Tryz.func9, Tryz.ntmps9
  go_wp2
  go_loopw [3, 4] (fun o q wr => ∃ k : Nat, k ≤ A.length ∧ q = .int .i64 k ∧ ((A.take k).filter fewP).length ≤ 30 ∧ OwnStr wr w.heap.size o ((A.take k).filter fewP).length ((A.take k).filter fewP) ∧ Keeps No w wr) (fun _ q _ => A.length - (intOf q).toNat)
  case atStart => exact ⟨0, Nat.zero_le _, rfl, Nat.zero_le _, World.ownsRow_nil _ _ _ _, Keeps.refl _⟩
  case round =>
    obtain ⟨k, hk, rfl, h30, hO, hK⟩ := hrel
    obtain ⟨oa, oc, rfl⟩ := ownsRow_slice hO
    have hk0 : (0 : Int) ≤ (k : Int) := by omega
    have HO := Lib.hid hO
    have HK := Lib.hid hK
    obtain ⟨M, hM⟩ : ∃ M, M = (A.take k).filter fewP := ⟨_, rfl⟩
    have HM := Lib.hid hM
    rw [← hM] at h30 HO hO ⊢
    clear hM
    by_cases hlt : k < A.length
    · by_cases hm : M.length < 30
      · have hmi : (M.length : Int) < 30 := by omega
        have hki : (k : Int) < (A.length : Int) := by omega
        obtain ⟨b, off, c, he, _, _, _, hx⟩ := RdN.cell HA.out (by omega)
        simp only [Value.slice.injEq, true_and] at he
        obtain ⟨rfl, rfl⟩ := he
        have hc := hK.cell (hx k _ (List.getElem?_eq_getElem hlt)) (fun h => h)
        obtain ⟨t, ht⟩ : ∃ t, t = A[k] := ⟨_, rfl⟩
        rw [← ht] at hc
        have Hnext : Hid ((A.take (k + 1)).filter fewP = M ++ [t].filter fewP) := Lib.hid (by rw [List.take_succ_eq_append_getElem hlt, List.filter_append, HM.out, ht])
        have hts : (toB t).size = t.length := toB_size t
        obtain ⟨T, hT⟩ : ∃ T, T = toB t := ⟨_, rfl⟩
        rw [← hT] at hc hts
        have HT := Lib.hid hT
        by_cases h5 : t.length ≤ 5000
        · have h5i : (T.size : Int) ≤ 5000 := by omega
          have Hsn : Hid ((A.take (k + 1)).filter fewP = M ++ [t]) := Lib.hid (by rw [Hnext.out]; simp [fewP, h5])
          clear hx hO hK ht hT hts
          have Het : Hid (encStr t = .string T) := Lib.hid (by rw [HT.out]; rfl)
          go_wp2_with (at_builtin; refine wpList_append_own _ rfl _ _ 22 rfl w.heap.size 9 i0 (.string ⟨#[]⟩) 1 16 Tryz.underlying22 hi hz0 hz1 hz2 rfl (by decide) _ _ _ rfl (HO.out.alloc _) ⟨wr.heap.size, 0, none⟩ 1 1 [.string T] rfl rfl (cell_one_new _ _ _) (by simp [Value.oneCell']) (by unfold maxLen; omega) (by omega) (by have := HK.out.size; simp; omega) ?_; intro v' w2 hown2 hk2 _)
          have Ho2 := Lib.hid hown2
          have K2 : Hid (Keeps No w w2) := Lib.hid ((HK.out.alloc _).grown hk2 (fun i hi hlt => absurd hlt (Nat.not_lt.2 (HO.out.lt i hi).1)))
          clear hown2 hk2
          go_wp2
          go_roundw
          case rel =>
            refine ⟨k + 1, by omega, by go_num, by rw [Hsn.out]; simp; omega, ?_, K2.out⟩
            have h := Ho2.out
            unfold OwnStr
            rw [Hsn.out, List.length_append, List.map_append, List.map_cons, List.map_nil, Het.out]
            exact h
          case measure => simp [intOf]; omega
        · have h5i : ¬ (T.size : Int) ≤ 5000 := by omega
          have Hsn : Hid ((A.take (k + 1)).filter fewP = M) := Lib.hid (by rw [Hnext.out]; simp [fewP, h5])
          clear hx hO hK ht hT hts
          go_wp2
          go_roundw
          case rel => exact ⟨k + 1, by omega, by go_num, by rw [Hsn.out]; omega, by rw [Hsn.out]; exact HO.out, HK.out⟩
          case measure => simp [intOf]; omega
      · have hmi : ¬ (M.length : Int) < 30 := by omega
        have hki : (k : Int) < (A.length : Int) := by omega
        have Hfew : Hid (fewL A = M) := Lib.hid (by
          unfold fewL
          rw [← List.take_append_drop k A, List.filter_append, ← HM.out, List.take_append_of_le_length (by omega), List.take_of_length_le h30])
        clear hO hK
        go_wp2
        go_ret
        exact ⟨_, rfl, by rw [Hfew.out]; exact HO.out, HK.out⟩
    · have hkn : k = A.length := by omega
      have hki : ¬ (k : Int) < (A.length : Int) := by omega
      have Hfew : Hid (fewL A = M) := Lib.hid (by
        have h2 := HM.out
        rw [hkn, List.take_of_length_le (Nat.le_refl _)] at h2
        unfold fewL
        rw [← h2, List.take_of_length_le h30])
      clear hO hK hkn
      go_wp2
      go_ret
      exact ⟨_, rfl, by rw [Hfew.out]; exact HO.out, HK.out⟩

def wN : ByteArray := ⟨#[119]⟩
def g0 : Lg := ⟨wN, [0], 0⟩
def d0 : Ds := ⟨[([119, 46, 48, 48, 48, 48, 48, 48, 48, 48], ⟨⟨#[]⟩, 0⟩)], 4611686018427387904, false⟩
theorem made_plain : opThere Ds.new wN = (0, [0], d0) ∧ opEnd wN [0] (opRun wN [0] d0) = (g0, [], d0) := ⟨by kernel_rfl, by kernel_rfl⟩

/-- a new log -/
def MadePost (w : World) (base : Nat) (e : Ending) (w' : World) : Prop :=
  ∃ (p b l : Nat) (v : Value), e = .returned (.tuple #[dP p, dP l, .bool true]) ∧ WLog w' base l p b v g0 d0 ∧ OwnInts w' w.heap.size v g0.firsts ∧ w.heap.size ≤ p ∧ w.heap.size ≤ b ∧ w.heap.size ≤ l ∧ Keeps No w w'
set_option maxRecDepth 100000 in
theorem made_any {w : World} {base : Nat} (hL : Laid w base) (hb : base ≤ w.heap.size) : Calls Tryz.prog 10 #[] w (MadePost w base) := by
  have HL := Lib.hid hL
  have Hb := Lib.hid hb
  clear hL hb
  go_enter Tryz.func10, Tryz.ntmps10
  go_wp2_with fail
  refine (new_tot w).mono ?_
  rintro e w1 ⟨rfl, hd1, hk1⟩
  have K1 := Lib.hid hk1
  have D1 := Lib.hid hd1
  clear hk1 hd1
  go_wp2_with fail
  refine (openLog_any (HL.out.kept K1.out (fun _ h => h.elim)) (by have := Hb.out; have := K1.out.size; omega) D1.out (by have := Hb.out; omega) Hb.out wN (by kernel_rfl) [0] d0 made_plain.1 _ rfl g0 [] d0 made_plain.2).mono ?_
  rintro e w2 ⟨l, v, ov, rfl, hW, ho, hv, hl, _, hk2⟩
  have hkk : Keeps No w w2 := K1.out.trans hk2 (fun i hi e => by rcases e with e | e <;> omega)
  have K2 := Lib.hid hkk
  have HW := Lib.hid hW
  have Ho := Lib.hid (ownsRow_less ho K1.out.size)
  have Hl := Lib.hid (Nat.le_trans K1.out.size hl)
  obtain ⟨ova, ovc, rfl⟩ := ownsRow_slice hv
  clear hW ho hl hv hk2 hkk
  go_wp2
  refine bodyPost_ret (results_tmp3 rfl _ _ _) rfl ?_
  exact ⟨_, _, l, v, rfl, HW.out, Ho.out, Nat.le_succ _, Nat.le_refl _, Hl.out, K2.out⟩
end Go.Proofs.YtghamhipcpgofaaGreatDoor
