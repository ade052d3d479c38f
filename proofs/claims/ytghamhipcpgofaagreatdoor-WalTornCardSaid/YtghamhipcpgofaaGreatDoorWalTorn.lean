/-
  WalTorn, as the statement says it: no conditions.
-/
import Derived.Test.YtghamhipcpgofaaGreatDoorWbT
import Derived.Laws.BytesArg
import Derived.Lib.ConvBytes
import Derived.BigQuiet
import Derived.Deep.DeepCutAuto
import Derived.Deep.CutBlock
namespace Go.Proofs.YtghamhipcpgofaaGreatDoor.walTorn
open Go.ChangeShapes Go.WideShapes Go.ChangeAt Go.RowKit Go.Joins Go.Deep

theorem mod_at (c : Int) (n : Nat) (h0 : 0 < n) (hn : n ≤ 100000) : ∃ k : Nat, (wrap64 (c.tmod (n : Int) + (n : Int))).tmod (n : Int) = (k : Int) ∧ k < n := by
  have h1 := Int.tmod_lt_of_pos c (show (0 : Int) < (n : Int) by omega)
  have h2 := Int.lt_tmod_of_pos c (show (0 : Int) < (n : Int) by omega)
  have e : wrap64 (c.tmod (n : Int) + (n : Int)) = c.tmod (n : Int) + (n : Int) := IntWalk.wrap64_in _ ⟨by omega, by omega⟩
  rw [e]
  have h3 := Int.tmod_lt_of_pos (c.tmod (n : Int) + (n : Int)) (show (0 : Int) < (n : Int) by omega)
  have h4 := Int.tmod_nonneg (a := c.tmod (n : Int) + (n : Int)) (n : Int) (by omega)
  exact ⟨((c.tmod (n : Int) + (n : Int)).tmod (n : Int)).toNat, by omega, by omega⟩
/-- the bytes of a text, one of them another one -/
def turned (S : ByteArray) (P : Nat) (y : UInt8) : ByteArray := ⟨(S.data.toList.set P y).toArray⟩
theorem turned_size (S : ByteArray) (P : Nat) (y : UInt8) : (turned S P y).size = S.size := by
  show (S.data.toList.set P y).toArray.size = _
  simp
/-- the row of bytes behind the store -/
theorem turned_cells (w : World) (S : ByteArray) (P : Nat) (y : UInt8) (i : Nat) (hi : i < S.size) :
    ((Lib.bytesWorld w 5 S).setCell ⟨w.heap.size, P, none⟩ (.int .u8 (y.toNat : Int))).cell? ⟨w.heap.size, i, none⟩ = some (.int .u8 ((S.data.toList.set P y).map fun b => (b.toNat : Int))[i]!) := by
  by_cases hiP : i = P
  · subst hiP
    have hc := Lib.bytesWorld_cell w 5 S i hi
    rw [World.cell?_setCell_same _ _ _ hc]
    simp [hi]
  · rw [World.cell?_setCell_other]
    · rw [Lib.bytesWorld_cell w 5 S i hi]
      simp [List.getD, hi, Ne.symm hiP]
    · intro e
      exact hiP (by simpa using e.symm)
/-- as a string -/
theorem turned_run (W : World) (S : ByteArray) (P : Nat) (y : UInt8) (g c : Nat) (hc : ∀ i, i < S.size → W.cell? ⟨g, i, none⟩ = some (.int .u8 ((S.data.toList.set P y).map fun b => (b.toNat : Int))[i]!)) :
    (convert 40 9 (.slice (some ⟨g, 0, none⟩) S.size c)).run Tryz.prog W = .ok (.string (turned S P y)) W := by
  have e : strOfNums ((S.data.toList.set P y).map fun b => (b.toNat : Int)) = turned S P y := by
    apply bytes_of
    unfold strOfNums turned
    simp [Function.comp_def]
  rw [← e]
  refine run_convert_bytes_arg _ _ _ Tryz.underlying40 Tryz.underlying5 g 0 S.size c ((S.data.toList.set P y).map fun b => (b.toNat : Int)) (by simp) (fun i hi => ?_) _ Tryz.underlying9
  rw [Nat.zero_add, hc i hi]
  simp [List.getD, hi]
theorem bytes_frozen (w : World) (S : ByteArray) (P : Nat) (hP : P < S.size) : (Lib.bytesWorld w 5 S).frozen? ⟨w.heap.size, P, none⟩ = false := by
  have hs : S.size ≤ (Lib.bytesCells w 5 S).size := by simp [Lib.bytesCells]
  simp [World.frozen?, Lib.bytesWorld_at_new]
  omega
theorem bytes_keeps (w : World) (S : ByteArray) : Keeps No w (Lib.bytesWorld w 5 S) :=
  ⟨rfl, rfl, rfl, by rw [Lib.bytesWorld_size]; omega, fun k hk _ => Lib.bytesWorld_at_old w _ S k hk⟩

set_option maxRecDepth 100000 in
set_option maxHeartbeats 4000000 in
theorem walk (w : World) (va : Value) (A : List Nm) (at0 by0 : Int) (hL : Laid w w.heap.size) (hA : RdN w va A) (hby : 0 ≤ by0 ∧ by0 < 256) :
    Calls Tryz.prog 4 #[va, .int .i64 at0, .int .u8 by0] w fun e W' => e = .returned (.bool true) ∧ Keeps No w W' := by
  have HL := Lib.hid hL
  have HA := Lib.hid hA
  obtain ⟨aa, ac, rfl⟩ := hA.slice
  clear hL hA
  obtain ⟨i0, hi, hz0, hz1, hz2⟩ := info_parts Tryz.infoInt
  go_enter Tryz.func4, Tryz.ntmps4
  go_wp2_with fail
  refine (few_any w _ A HA.out).mono ?_
  rintro e w1 ⟨v1, rfl, ho1, hk1⟩
  obtain ⟨L, hL⟩ : ∃ L, L = fewL A := ⟨_, rfl⟩
  have hlen := fewL_length A
  have hle := fewL_le A
  rw [← hL] at ho1 hlen hle
  obtain ⟨fa, fc, rfl⟩ := ownsRow_slice ho1
  have H1 := Lib.hid ho1
  have K1 := Lib.hid hk1
  have Hle := Lib.hid hle
  have Hlen := Lib.hid hlen
  have L1 := Lib.hid (HL.out.kept K1.out (fun _ h => h.elim))
  have B1 := Lib.hid K1.out.size
  clear ho1 hk1 hle hlen hL
  go_wp2_with fail
  refine (made_any L1.out B1.out).mono ?_
  rintro e w2 ⟨p, b, l, v, rfl, hW, ho, hp, hb, hl, hk2⟩
  have I2 : Hid (LogIn w1 w2 w.heap.size l p b v g0 d0) := Lib.hid ⟨hW, ownsRow_less ho B1.out, fun i hi => by
    rcases hi with e | e | e | e
    · omega
    · omega
    · omega
    · exact (ho.lt i e).1, hk2⟩
  clear hW ho hp hb hl hk2
  obtain ⟨A1, z1, g1, d1, he1, G1, hr1', hx1, hl1, hf1'⟩ := append_good good0 L (fun t ht => by have := Hle.out t ht; omega) (by have := Hlen.out; simp [Sg.next]; omega) (by have := Hlen.out; simp; omega)
  have hz : (⟨0, [], 0⟩ : Sg).next = 0 := rfl
  rw [hz, Nat.zero_add] at hx1
  have hr1 : recsOf (A1 ++ [z1]) = L := by rw [hr1']; rfl
  have hf1 : (A1 ++ [z1]).head?.map Sg.first = some 0 := by rw [hf1']; rfl
  have HG1 := Lib.hid G1
  have Hr1 := Lib.hid hr1
  have Hf1 := Lib.hid hf1
  have Hx1 := Lib.hid hx1
  have He1 := Lib.hid he1
  have Hfew : Hid (g1.firsts.length ≤ 1000000 ∧ g1.firsts.length = A1.length + 1 ∧ A1.length ≤ 64) := Lib.hid (by have := G1.few; rw [G1.g]; refine ⟨?_, ?_, by omega⟩ <;> simp <;> omega)
  have HR1 : Hid (RdN w1 (.slice fa L.length fc) L) := Lib.hid (RdN.ofOwn H1.out)
  have Hblk : Hid (∀ i, (Value.slice fa L.length fc).ownBlock = some i → i < w1.heap.size) := Lib.hid (fun i hi => (H1.out.lt i hi).2)
  clear hz hr1 hf1 hr1' hf1' G1 he1 hl1 hx1
  -- nothing is to be turned
  by_cases hL0 : L.length = 0
  · have hl0 : ((L.length : Int) == 0) = true := by rw [hL0]; rfl
    have hLi : (L.length : Int) = 0 := by omega
    clear hl0 hL0
    go_wp2_with fail
    refine (awake_any (base := w.heap.size) (I2.out.laid L1.out) (Nat.le_trans B1.out I2.out.kp.size)).mono ?_
    rintro e wz ⟨rfl, hkz⟩
    have KZ := Lib.hid ((K1.out.trans I2.out.kp (fun _ _ h => h)).trans hkz (fun _ _ h => h))
    clear hkz
    go_wp2
    go_ret
    exact ⟨rfl, KZ.out⟩
  have hLne : ¬ (L.length : Int) = 0 := by omega
  by_cases hb0 : by0 = 0
  · subst hb0
    go_wp2_with fail
    refine (awake_any (base := w.heap.size) (I2.out.laid L1.out) (Nat.le_trans B1.out I2.out.kp.size)).mono ?_
    rintro e wz ⟨rfl, hkz⟩
    have KZ := Lib.hid ((K1.out.trans I2.out.kp (fun _ _ h => h)).trans hkz (fun _ _ h => h))
    clear hkz
    go_wp2
    go_ret
    exact ⟨rfl, KZ.out⟩
  obtain ⟨d2, hd2⟩ : ∃ d, d = (d1.sync g1.last).2 := ⟨_, rfl⟩
  have HS : Hid (g1.sync d1 = (0, d2)) := Lib.hid (by unfold Lg.sync; rw [hd2, sync_last HG1.out])
  obtain ⟨z2, hz2⟩ : ∃ q : Sg, q = ⟨z1.first, z1.recs, flen z1.recs⟩ := ⟨_, rfl⟩
  have HG2 : Hid (Good wN A1 z2 g1 d2) := Lib.hid (by rw [hz2, hd2]; exact HG1.out.synced)
  have Hr2 : Hid (recsOf (A1 ++ [z2]) = L) := Lib.hid (by rw [← Hr1.out, recsOf_snoc, recsOf_snoc, hz2])
  have Hf2 : Hid ((A1 ++ [z2]).head?.map Sg.first = some 0) := Lib.hid (by rw [← Hf1.out, hz2]; cases A1 <;> rfl)
  have Hx2 : Hid (z2.next = L.length) := Lib.hid (by rw [hz2]; exact Hx1.out)
  obtain ⟨k, hk, hkl⟩ := mod_at at0 L.length (by omega) (by have := Hlen.out; omega)
  clear hd2 hz2
  have hL30 : (L.length : Int) ≤ 30 := by have := Hlen.out; omega
  have hk0 : (0 : Int) ≤ (k : Int) := by omega
  have hki : (k : Int) < (L.length : Int) := by omega
  have hLb : ((L.length : Int) == 0) = false := by rw [beq_eq_false_iff_ne]; exact hLne
  have hbb : (by0 == 0) = false := by rw [beq_eq_false_iff_ne]; exact hb0
  go_wp2_with fail
  refine (I2.out.append_any L1.out B1.out _ (L.map toB) (RdN.str (HR1.out.kept' I2.out.kp (fun _ _ h => h))) (fun i hi hs => by have := I2.out.new i hs; have := Hblk.out i hi; omega) (by have := Hlen.out; simp [g0]; omega) (by have := Hlen.out; simp [g0]; omega) 0 g1 d1 He1.out).mono ?_
  rintro e w3 ⟨rfl, ⟨v3, h3⟩, _⟩
  have I3 := Lib.hid h3
  clear h3
  go_wp2_with fail
  refine (I3.out.sync_any L1.out 0 d2 HS.out).mono ?_
  rintro e w4 ⟨rfl, h4, _⟩
  have I4 := Lib.hid h4
  clear h4
  go_wp2_with fail
  refine (segs_any I4.out.log.log Hfew.out.1).mono ?_
  rintro e w5 ⟨s5, rfl, ho5, hk5⟩
  have I5 := Lib.hid (I4.out.step hk5)
  obtain ⟨N, hN⟩ : ∃ N, N = g1.firsts.length := ⟨_, rfl⟩
  have HN : Hid (N = A1.length + 1) := Lib.hid (by rw [hN]; exact Hfew.out.2.1)
  have hr5 : RdInts w5 s5 g1.firsts := Reads.ofOwn ho5 (fun u hu => intsV_one u _ hu)
  obtain ⟨nb, no, nc, rfl, hnc, hncm, _, hnx⟩ := RdInts.cell hr5 (by have := Hfew.out.2.1; omega)
  rw [← hN]
  have hgf : g1.firsts = (A1 ++ [z2]).map Sg.first := by rw [HG2.out.g]
  rw [hgf] at hnx
  have HX := Lib.hid hnx
  have hN66 : (N : Int) ≤ 66 := by have := HN.out; have := Hfew.out; omega
  clear hnx hgf hr5 ho5 hk5 hnc hncm hN
  go_upto_block 0 with fail
  go_cut [12] (fun s12 wx => w5 = wx ∧ ∃ (i : Nat) (s : Sg), s12 = .int .i64 i ∧ i ≤ A1.length ∧ (A1 ++ [z2])[i]? = some s ∧ s.first ≤ k ∧ k < s.next)
  case first =>
    go_wp2_with fail
    go_loop [12] (fun q => ∃ i : Nat, i ≤ A1.length ∧ q = .int .i64 i ∧ ∃ s, (A1 ++ [z2])[i]? = some s ∧ s.first ≤ k) (fun q => A1.length + 1 - (intOf q).toNat)
    case atStart =>
      refine ⟨0, Nat.zero_le _, rfl, ?_⟩
      have hf := Hf2.out
      cases hA1 : A1 ++ [z2] with
      | nil => rw [hA1] at hf; cases hf
      | cons a S =>
        rw [hA1] at hf
        exact ⟨a, rfl, by have : a.first = 0 := by simpa using hf
                          omega⟩
    case round =>
      obtain ⟨i, hil, rfl, s, hs, hsk⟩ := hrel
      have hi0 : (0 : Int) ≤ (i : Int) := by omega
      have hi66 : (i : Int) ≤ 66 := by have := Hfew.out; omega
      have Hs := Lib.hid (And.intro hs hsk)
      have hA1n : (A1 ++ [z2]).length = N := by rw [HN.out]; simp
      clear hs hsk
      by_cases hmore : i + 1 < N ∧ ∃ s2, (A1 ++ [z2])[i + 1]? = some s2 ∧ s2.first ≤ k
      · obtain ⟨hlt, s2, hs2, hk2⟩ := hmore
        have ca := HX.out (i + 1) s2.first (by rw [List.getElem?_map, hs2]; rfl)
        have hlti : (i : Int) + 1 < (N : Int) := by omega
        have hi1 : (0 : Int) ≤ (i : Int) + 1 := by omega
        have hdk : decide ((s2.first : Int) ≤ (k : Int)) = true := decide_eq_true (by omega)
        have hdk2 : (s2.first : Int) ≤ (k : Int) := by omega
        have Hs2 := Lib.hid (And.intro hs2 hk2)
        obtain ⟨F2, hF2⟩ : ∃ F, F = s2.first := ⟨_, rfl⟩
        rw [← hF2] at ca hdk hdk2
        clear hs2 hk2 hA1n hF2
        go_wp2
        go_round
        case rel => exact ⟨i + 1, by have := HN.out; omega, by go_num, s2, Hs2.out⟩
        case measure => simp [intOf]; omega
      · by_cases hlt : i + 1 < N
        · obtain ⟨s2, hs2⟩ : ∃ s2, (A1 ++ [z2])[i + 1]? = some s2 := ⟨_, List.getElem?_eq_getElem (by omega)⟩
          have hk2 : k < s2.first := Nat.lt_of_not_le fun h => hmore ⟨hlt, s2, hs2, h⟩
          have hnx : s.next = s2.first := by
            have h1 := (seg_here HG2.out Hr2.out Hf2.out Hx2.out i s Hs.out.1).b
            unfold bnds at h1
            rw [List.getElem?_append_left (by rw [List.length_map]; omega), List.getElem?_map, hs2] at h1
            exact (Option.some.inj h1).symm
          have ca := HX.out (i + 1) s2.first (by rw [List.getElem?_map, hs2]; rfl)
          have hlti : (i : Int) + 1 < (N : Int) := by omega
          have hi1 : (0 : Int) ≤ (i : Int) + 1 := by omega
          have hdk : decide ((s2.first : Int) ≤ (k : Int)) = false := decide_eq_false (by omega)
          have hdkn : decide (s2.first ≤ k) = false := decide_eq_false (by omega)
          have Hkn : Hid (k < s.next) := Lib.hid (by omega)
          obtain ⟨F2, hF2⟩ : ∃ F, F = s2.first := ⟨_, rfl⟩
          rw [← hF2] at ca hdk hdkn
          clear hs2 hk2 hA1n hF2 hmore hnx
          go_wp2_with fail
          go_meet
          exact ⟨rfl, i, s, rfl, hil, Hs.out.1, Hs.out.2, Hkn.out⟩
        · have hie : decide ((i : Int) + 1 < (N : Int)) = false := decide_eq_false (by omega)
          have Hkn : Hid (k < s.next) := Lib.hid (by
            have h1 := (seg_here HG2.out Hr2.out Hf2.out Hx2.out i s Hs.out.1).b
            unfold bnds at h1
            rw [List.getElem?_append_right (by rw [List.length_map]; omega)] at h1
            have h2 : i + 1 - ((A1 ++ [z2]).map Sg.first).length = 0 := by rw [List.length_map]; have := HN.out; omega
            rw [h2] at h1
            have h3 : L.length = s.next := Option.some.inj h1
            omega)
          clear hA1n hmore hlt
          go_wp2_with fail
          go_meet
          exact ⟨rfl, i, s, rfl, hil, Hs.out.1, Hs.out.2, Hkn.out⟩
  case rest =>
    obtain ⟨rfl, i, s, rfl, hil, hs, hsk, hks⟩ := hcut
    have hSA := seg_here HG2.out Hr2.out Hf2.out Hx2.out i s hs
    obtain ⟨X, Y, hXY, hXl, hsf⟩ := hSA.split
    have hsm : s ∈ A1 ++ [z2] := by rw [hXY]; simp
    have hsn : s.next = s.first + s.recs.length := rfl
    obtain ⟨j, hj⟩ : ∃ j, j = k - s.first := ⟨_, rfl⟩
    have hjl : j < s.recs.length := by omega
    obtain ⟨t, ht⟩ : ∃ t, s.recs[j]? = some t := ⟨_, List.getElem?_eq_getElem hjl⟩
    have hrl := HG2.out.rl s hsm
    have htl := hrl t (List.mem_of_getElem? ht)
    have hkF : k = s.first + j := by omega
    have hLt : L[k]? = some t := by rw [hkF, hSA.recs j hjl, ht]
    have ca := HX.out i s.first (by rw [List.getElem?_map, hs]; rfl)
    have HCa := Lib.hid ca
    have Hfind : Hid (findE d2.fs (fileNm wN s.first) = (⟨bts s.recs, s.k⟩, 0)) := Lib.hid (HG2.out.find hXY)
    have Hlt8 := Lib.hid (HG2.out.lt8 s hsm)
    have Hlong := Lib.hid (HG2.out.long s hsm)
    have Hrec : Hid (∀ j', j' < j → L[s.first + j']? = s.recs[j']?) := Lib.hid (fun j' h => hSA.recs j' (by omega))
    -- what is to be shown at the end
    obtain ⟨m, hm, hml⟩ := mod_at at0 (t.length + 4) (by omega) (by omega)
    have HP : Hid (∀ y : UInt8, (∀ x, (frames s.recs)[flen (s.recs.take j) + 3 + m]? = some x → x ≠ y) →
        ∃ d3 d4 d5, d2.truncate (fileNm wN s.first) 0 = (0, d3) ∧ d3.append (fileNm wN s.first) (turned (bts s.recs) (flen (s.recs.take j) + 3 + m) y) = (0, d4) ∧
          opThere d4 wN = (0, (X ++ s :: Y).map Sg.first, d4) ∧ opEnd wN ((X ++ s :: Y).map Sg.first) (opRun wN ((X ++ s :: Y).map Sg.first) d4) = (⟨wN, (X ++ [s]).map Sg.first, k⟩, L.take k, d5)) := Lib.hid (fun y hy => by
      obtain ⟨hp, hl, hlt⟩ := torn_parse s.recs j t ht hrl m hml _ rfl y hy
      obtain ⟨d4, ha, hT⟩ := torn_append HG2.out hXY (turned (bts s.recs) (flen (s.recs.take j) + 3 + m) y) (by rw [turned_size, bts_size]; exact Hlong.out)
      have hdt : (turned (bts s.recs) (flen (s.recs.take j) + 3 + m) y).data.toList = (frames s.recs).set (flen (s.recs.take j) + 3 + m) y := by
        unfold turned
        rw [bts_list]
      obtain ⟨d5, hO⟩ := hT.opened (s.recs.take j) (by rw [hdt, hp]) (by rw [turned_size, bts_size, ← frames_length s.recs]; exact hl)
      have hrk : recsOf X ++ s.recs.take j = L.take k := by
        have h1 : L = recsOf X ++ (s.recs ++ recsOf Y) := by rw [← Hr2.out, hXY]; simp [recsOf]
        rw [h1, hkF, hsf, List.take_length_add_append, List.take_append_of_le_length (by omega)]
      have hjt : s.first + (s.recs.take j).length = k := by rw [List.length_take]; omega
      rw [hrk, hjt] at hO
      exact ⟨_, d4, d5, torn_trunc HG2.out hXY, ha, hT.there, hO⟩)
    have HPl : Hid (flen (s.recs.take j) + 3 + m < (bts s.recs).size) := Lib.hid (by
      have hb := (torn_parse s.recs j t ht hrl m hml _ rfl 0)
      rw [bts_size]
      have h1 := frames_split s.recs j t ht
      have h2 := congrArg List.length h1
      rw [List.length_append, List.length_append, frameL_length, frames_length, frames_length] at h2
      omega)
    have HXl : Hid (((X ++ [s]).map Sg.first).length = i + 1) := Lib.hid (by simp; omega)
    obtain ⟨F, hF⟩ : ∃ F, F = s.first := ⟨_, rfl⟩
    obtain ⟨RS, hRS⟩ : ∃ R, R = s.recs := ⟨_, rfl⟩
    obtain ⟨sk, hskk⟩ : ∃ k, k = s.k := ⟨_, rfl⟩
    obtain ⟨there, hth⟩ : ∃ l, l = (X ++ s :: Y).map Sg.first := ⟨_, rfl⟩
    obtain ⟨FS, hFS⟩ : ∃ l, l = (X ++ [s]).map Sg.first := ⟨_, rfl⟩
    rw [← hth, ← hFS] at HP
    rw [← hFS] at HXl
    rw [← hF] at ca HCa Hfind Hlt8 Hrec HP hkF
    rw [← hRS] at Hfind Hlong Hrec HP HPl ht hjl hrl
    rw [← hskk] at Hfind
    have Hrl := Lib.hid hrl
    have hi0 : (0 : Int) ≤ (i : Int) := by omega
    have hiN : (i : Int) < (N : Int) := by have := HN.out; omega
    have hF0 : (0 : Int) ≤ (F : Int) := by omega
    have Hjl : Hid (j < RS.length) := Lib.hid hjl
    have Hkf := Lib.hid hkF
    have HLt := Lib.hid hLt
    have Htl := Lib.hid htl
    have Hm := Lib.hid hm
    have Hml := Lib.hid hml
    clear hs hsk hks hSA hXY hXl hsf hsm hsn hj ht hrl htl hF hRS hskk hth hFS hil hm hml hjl hkF hLt X Y
    go_wp2_with fail
    refine (rfile_any _ wN (by decide) F Hlt8.out).mono ?_
    rintro e wf ⟨rfl, mm, rfl⟩
    have KF : Hid (Keeps No w5 (w5.drewN mm)) := Lib.hid ((Keeps.refl (S := No) w5).drewN mm)
    go_wp2_with fail
    refine (read_any (I5.out.step KF.out).log.disk (fileNm wN F) _ _ Hfind.out).mono ?_
    rintro e wd ⟨rfl, hkd⟩
    have KD : Hid (Keeps No w5 wd) := Lib.hid (KF.out.trans hkd (fun _ _ h => h))
    clear hkd ca
    have ca := KD.out.cell HCa.out (fun h => h)
    go_wp2_with fail
    go_loopw [16, 17, 18, 19] (fun s16 q _ _ wq => ∃ jj : Nat, jj ≤ j ∧ q = .int .i64 (F + jj : Nat) ∧ s16 = .string (bts (RS.take jj)) ∧ Keeps No w5 wq) (fun _ q _ _ _ => j + F - (intOf q).toNat)
    case atStart => exact ⟨0, Nat.zero_le _, rfl, rfl, KD.out⟩
    case round =>
      obtain ⟨jj, hjj, rfl, rfl, hKq⟩ := hrel
      have KQ := Lib.hid hKq
      obtain ⟨kk, hkk⟩ : ∃ k, k = F + jj := ⟨_, rfl⟩
      rw [← hkk]
      have hkk0 : (0 : Int) ≤ (kk : Int) := by omega
      by_cases hjl : jj < j
      · obtain ⟨u, hu⟩ : ∃ u, RS[jj]? = some u := ⟨_, List.getElem?_eq_getElem (by have := Hjl.out; omega)⟩
        have hul := Hrl.out u (List.mem_of_getElem? hu)
        have hLu : L[kk]? = some u := by rw [hkk, Hrec.out jj hjl, hu]
        obtain ⟨fb, fo, fcc, he, _, _, _, hfx⟩ := RdN.cell HR1.out (by omega)
        simp only [Value.slice.injEq, true_and] at he
        obtain ⟨rfl, rfl⟩ := he
        have ct := (I5.out.kp.trans hKq (fun _ _ h => h)).cell (hfx kk u hLu) (fun h => h)
        have hkE : (kk : Int) < (k : Int) := by have := Hkf.out; omega
        have hkL : (kk : Int) < (L.length : Int) := by omega
        have Htk : Hid (RS.take (jj + 1) = RS.take jj ++ [u]) := Lib.hid (by
          obtain ⟨h1, h2⟩ := List.getElem?_eq_some_iff.1 hu
          rw [List.take_succ_eq_append_getElem h1, h2])
        have hcat : ∀ W : World, (Op.stringOp .add (bts (RS.take jj)) (frameB (toB u))).run Tryz.prog W = .ok (.string (bts (RS.take (jj + 1)))) W := fun W => by
          rw [run_string_add_sum W _ _ (by rw [bts_size, frameB_size]; have := Hlong.out; have := flen_take_le RS jj; omega), Htk.out, bts_snoc]
        have Hul : Hid (((toB u).size : Int) ≤ 65536) := Lib.hid (by rw [toB_size]; omega)
        obtain ⟨T, hT⟩ : ∃ T, T = toB u := ⟨_, rfl⟩
        rw [← hT] at hcat ct Hul
        obtain ⟨U, hU⟩ : ∃ U, U = bts (RS.take jj) := ⟨_, rfl⟩
        rw [← hU] at hcat ⊢
        obtain ⟨U2, hU2⟩ : ∃ U, U = bts (RS.take (jj + 1)) := ⟨_, rfl⟩
        rw [← hU2] at hcat
        have HU2 := Lib.hid hU2
        have Hkk := Lib.hid hkk
        clear hu hul hLu hfx hKq hkk hT hU hU2 ca hjj
        go_wp2_with fail
        refine (rframe_any _ T Hul.out).mono ?_
        rintro e wf ⟨rfl, hkf⟩
        have KF : Hid (Keeps No w5 wf) := Lib.hid (KQ.out.trans hkf (fun _ _ h => h))
        clear hkf
        go_wp2
        go_roundw
        case rel =>
          refine ⟨jj + 1, hjl, ?_, by rw [HU2.out], KF.out⟩
          rw [Hkk.out]
          go_num
        case measure => have := Hkk.out; simp [intOf]; omega
      · have hjj2 : jj = j := by omega
        subst hjj2
        have hkk2 : kk = k := by have := Hkf.out; omega
        subst hkk2
        have hkE2 : decide ((kk : Int) < (kk : Int)) = false := decide_eq_false (by omega)
        have hLt := HLt.out
        obtain ⟨fb, fo, fcc, he, _, _, _, hfx⟩ := RdN.cell HR1.out (by omega)
        simp only [Value.slice.injEq, true_and] at he
        obtain ⟨rfl, rfl⟩ := he
        have ct := (I5.out.kp.trans hKq (fun _ _ h => h)).cell (hfx kk t hLt) (fun h => h)
        obtain ⟨T, hT⟩ : ∃ T, T = toB t := ⟨_, rfl⟩
        have hTs : T.size = t.length := by rw [hT, toB_size]
        rw [← hT] at ct
        obtain ⟨Q, hQ⟩ : ∃ Q, Q = t.length + 4 := ⟨_, rfl⟩
        have hmq := Hm.out
        rw [← hQ] at hmq
        have hmq2 : m < Q := by rw [hQ]; exact Hml.out
        have hTQ : (T.size : Int) + 4 = (Q : Int) := by omega
        have hQ0 : ¬ (Q : Int) = 0 := by omega
        have hQb : (Q : Int) ≤ 70000 := by have := Htl.out; omega
        have hTb : (T.size : Int) ≤ 65536 := by have := Htl.out; omega
        obtain ⟨A0, hA0⟩ : ∃ A0, A0 = bts (RS.take jj) := ⟨_, rfl⟩
        have hAl : A0.size = flen (RS.take jj) := by rw [hA0, bts_size]
        rw [← hA0]
        obtain ⟨PP, hPP⟩ : ∃ P, P = flen (RS.take jj) + 3 + m := ⟨_, rfl⟩
        have hPl := HPl.out
        have hp := HP.out
        obtain ⟨U, hU⟩ : ∃ U, U = bts RS := ⟨_, rfl⟩
        have hUl : U.size = flen RS := by rw [hU, bts_size]
        have hUb : (U.size : Int) ≤ 100000 := by have := Hlong.out; omega
        have hUd : frames RS = U.data.toList := by rw [hU, bts_list]
        rw [← hPP, ← hU] at hPl hp
        rw [← hU]
        rw [hUd] at hp
        obtain ⟨A3, hA3, hA4⟩ : ∃ A3 : Nat, (A0.size : Int) + 3 = (A3 : Int) ∧ (A3 : Int) ≤ 200000 := ⟨A0.size + 3, by omega, by have := Hlong.out; have := flen_take_le RS jj; omega⟩
        have hAb : (A0.size : Int) ≤ 100000 := by have := Hlong.out; have := flen_take_le RS jj; omega
        have hAP : (A3 : Int) + (m : Int) = (PP : Int) := by omega
        have hm0 : (0 : Int) ≤ (m : Int) := by omega
        have hm9 : (m : Int) ≤ 70000 := by omega
        have hP0 : (0 : Int) ≤ (PP : Int) := by omega
        have hPU : (PP : Int) < (U.size : Int) := by omega
        have hPUd : decide ((U.size : Int) ≤ (PP : Int)) = false := decide_eq_false (by omega)
        have hcv : ∀ W : World, (convert 9 40 (.string U)).run Tryz.prog W = .ok (.slice (some ⟨W.heap.size, 0, none⟩) U.size (grownCap W U.size 0 5)) (Lib.bytesWorld W 5 U) := fun W =>
          Lib.run_convert_string_bytes (P := Tryz.prog) W 9 40 5 U Tryz.underlying9 Tryz.underlying40 Tryz.underlying5
        have HPL := Lib.hid hPl
        have HPP := Lib.hid hp
        have hki9 : (kk : Int) < (L.length : Int) := hki
        have HB0 := Lib.hid hb0
        clear hLt hfx hKq hT hTs hQ hmq2 hA0 hAl hPP hPl hp hU hUl hUd hkk hjl hjj ca HP HPl hLne hb0
        go_upto_region 22 with fail
        go_upto_region 23 with fail
        obtain ⟨gb, hgb⟩ : ∃ g, g = wr.heap.size := ⟨_, rfl⟩
        obtain ⟨cp, hcp⟩ : ∃ c, c = grownCap wr U.size 0 5 := ⟨_, rfl⟩
        have hPn := HPL.out
        obtain ⟨x, hx⟩ : ∃ x, U.data.toList[PP]? = some x := ⟨_, List.getElem?_eq_getElem (by simpa using hPn)⟩
        obtain ⟨by1, hby1⟩ : ∃ n : Nat, by0 = (n : Int) := Int.eq_ofNat_of_zero_le hby.1
        have hby2 : by1 < 256 := by have := hby.2; omega
        obtain ⟨y, hy⟩ : ∃ y : UInt8, y.toNat = x.toNat ^^^ by1 := ⟨UInt8.ofNat (x.toNat ^^^ by1), by
          have : x.toNat ^^^ by1 < 2 ^ 8 := Nat.xor_lt_two_pow x.toNat_lt hby2
          rw [UInt8.toNat_ofNat']
          omega⟩
        have hxor : bits .xor .u8 (x.toNat : Int) by0 = (y.toNat : Int) := by rw [hby1, u8_xor_nat _ _ x.toNat_lt hby2, hy]
        have hxy : x ≠ y := by
          intro e
          have h1 : x.toNat ^^^ by1 = x.toNat ^^^ 0 := by rw [Nat.xor_zero, ← hy, e]
          have h2 := xor_cancel h1
          have h3 := HB0.out
          omega
        obtain ⟨d3, d4, d5, ht3, ha4, hO1, hO2⟩ := HPP.out y (fun x' hx' => by rw [hx] at hx'; rw [← Option.some.inj hx']; exact hxy)
        have HT3 := Lib.hid ht3
        have HA4 := Lib.hid ha4
        have HO := Lib.hid (And.intro hO1 hO2)
        have cx : (Lib.bytesWorld wr 5 U).cell? ⟨gb, PP, none⟩ = some (.int .u8 (x.toNat : Int)) := by
          rw [hgb, Lib.bytesWorld_cell wr 5 U PP hPn]
          have : U.data.toList.getD PP 0 = x := by rw [List.getD_eq_getElem?_getD, hx]; rfl
          rw [this]
        have fx : (Lib.bytesWorld wr 5 U).frozen? ⟨gb, PP, none⟩ = false := by rw [hgb]; exact bytes_frozen wr U PP hPn
        have KW : Hid (Keeps No w5 ((Lib.bytesWorld wr 5 U).setCell ⟨gb, PP, none⟩ (.int .u8 (y.toNat : Int)))) := Lib.hid (KQ.out.trans ((bytes_keeps wr U).setCell (fun h => by simp only at h; omega) _) (fun _ _ h => h))
        have HCell : Hid (∀ i, i < U.size → ((Lib.bytesWorld wr 5 U).setCell ⟨gb, PP, none⟩ (.int .u8 (y.toNat : Int))).cell? ⟨gb, i, none⟩ = some (.int .u8 ((U.data.toList.set PP y).map fun b => (b.toNat : Int))[i]!)) := Lib.hid (fun i hi => by rw [hgb]; exact turned_cells wr U PP y i hi)
        have Hgp : Hid (gb ≠ p ∧ gb ≠ b) := Lib.hid (by
          have hl1 := I5.out.lt p (.inr (.inl rfl))
          have hl2 := I5.out.lt b (.inr (.inr (.inl rfl)))
          have hl3 := KQ.out.size
          exact ⟨by omega, by omega⟩)
        rw [← hgb, ← hcp]
        obtain ⟨wb, hwb⟩ : ∃ x, x = Lib.bytesWorld wr 5 U := ⟨_, rfl⟩
        rw [← hwb] at cx fx KW HCell ⊢
        obtain ⟨xb, hxb⟩ : ∃ n : Nat, n = x.toNat := ⟨_, rfl⟩
        obtain ⟨yb, hyb⟩ : ∃ n : Nat, n = y.toNat := ⟨_, rfl⟩
        rw [← hyb] at hxor KW HCell
        rw [← hxb] at hxor cx
        have hcv2 : Hid (∀ W : World, (∀ i, i < U.size → W.cell? ⟨gb, i, none⟩ = some (.int .u8 ((U.data.toList.set PP y).map fun b => (b.toNat : Int))[i]!)) → (convert 40 9 (.slice (some ⟨gb, 0, none⟩) U.size cp)).run Tryz.prog W = .ok (.string (turned U PP y)) W) := Lib.hid (fun W h => turned_run W U PP y gb cp h)
        obtain ⟨V, hV⟩ : ∃ V, V = turned U PP y := ⟨_, rfl⟩
        rw [← hV] at HA4 hcv2
        clear hcv hcp hwb hgb hPn hx hby1 hby2 hy hxy ht3 ha4 hO1 hO2 hxb hyb hV hPUd
        go_wp2_with fail
        refine (truncate_tot (I5.out.step KW.out).log.disk (fileNm wN F) 0 0 d3 HT3.out).mono ?_
        rintro e wt ⟨rfl, hdt, hkt⟩
        have I6 := Lib.hid ((I5.out.step KW.out).disked hkt hdt)
        have hconv := hcv2.out wt (fun i hi => hkt.cell (HCell.out i hi) (fun e => by have := Hgp.out; rcases e with e | e <;> (simp only at e; omega)))
        clear hdt hkt
        go_wp2_with fail
        refine (append_tot I6.out.log.disk (fileNm wN F) V 0 d4 HA4.out).mono ?_
        rintro e wp ⟨rfl, hda, hka⟩
        have I7 := Lib.hid (I6.out.disked hka hda)
        clear hda hka hconv
        go_wp2_with fail
        refine (I7.out.open_any L1.out B1.out wN (by kernel_rfl) there d4 HO.out.1 ⟨wN, FS, kk⟩ (L.take kk) d5 HO.out.2).mono ?_
        rintro e w8 ⟨l8, v8, ov8, rfl, h8, _, ho8, _, _⟩
        have hlk : (L.take kk).length = kk := by rw [List.length_take]; omega
        have I8 := Lib.hid h8
        have R8 := Lib.hid (RdN.ofOwn ho8)
        obtain ⟨a8, c8, rfl⟩ := ownsRow_slice ho8
        rw [hlk] at R8
        clear h8 ho8
        have HR2 : Hid (RdN w8 (.slice (some ⟨fb, fo, none⟩) kk fc) (L.take kk)) := Lib.hid ((HR1.out.take' rfl (by omega)).kept' I8.out.kp (fun _ _ h => h))
        have hnc : (kk : Int) ≤ (fc : Int) := by
          rcases HR1.out.shape with ⟨he, _⟩ | ⟨_, c', he, h1, _, _⟩
          · simp at he
          · simp only [Value.slice.injEq] at he
            obtain ⟨_, _, rfl⟩ := he
            omega
        go_wp2_with fail
        refine (same_any w8 (.slice a8 kk c8) (.slice (some ⟨fb, fo, none⟩) kk fc) (L.take kk) (L.take kk) R8.out HR2.out).mono ?_
        rintro e w9 ⟨rfl, hk9⟩
        rw [decide_eq_true rfl]
        have I9 := Lib.hid (I8.out.step hk9)
        clear hk9
        go_wp2_with fail
        refine (nextLog_any I9.out.log.log).mono ?_
        rintro e w10 ⟨rfl, h10⟩
        have h10 := h10.symm
        subst h10
        go_wp2_with fail
        refine (segs_any I9.out.log.log (by show FS.length ≤ _; rw [HXl.out]; have := HN.out; omega)).mono ?_
        rintro e w11 ⟨s11, rfl, ho11, hk11⟩
        have I11 := Lib.hid (I9.out.step hk11)
        obtain ⟨a11, c11, rfl⟩ := ownsRow_slice ho11
        have hfl : FS.length = i + 1 := HXl.out
        clear ho11 hk11
        rw [show (Lg.mk wN FS kk).firsts.length = i + 1 from hfl]
        clear hfl
        go_wp2_with fail
        refine (awake_any (base := w.heap.size) (I11.out.laid L1.out) (Nat.le_trans B1.out I11.out.kp.size)).mono ?_
        rintro e wz ⟨rfl, hkz⟩
        have KZ := Lib.hid ((K1.out.trans I11.out.kp (fun _ _ h => h)).trans hkz (fun _ _ h => h))
        clear hkz
        go_wp2
        go_ret
        exact ⟨rfl, KZ.out⟩
set_option maxRecDepth 100000 in
theorem lifted (os : Os) (started : os.Started) (H : Type) (enc : TypeId × Value → H) (F : Stop.Interp) :
    ReturnsInHanded {} Tryz.checked os 4 .any ((OpenSpec.ofChange Rows.walTornSpec).preRow enc Tryz.prog Tryz.f4 Rows.walTornRow.domain false Rows.walTornRow.laid) (((OpenSpec.ofChange Rows.walTornSpec).at F).post enc Tryz.prog Tryz.f4 false true false false) := by
  refine law_laid os started F (by kernel_rfl) Tryz.func4
    (wal_witness (x := ([.nil, .lit (.int .i64 0), .lit (.int .u8 0)], [], [])) #[.slice none 0 0, .int .i64 0, .int .u8 0] (by kernel_rfl) (by kernel_rfl) (by kernel_rfl) (by kernel_rfl) (by kernel_rfl) (by kernel_rfl) (by kernel_rfl))
    (by decide +kernel) rfl Tryz.underlying4 rfl (fun ds h => by match ds, h with | [d1, d2, d3], _ => rfl) ?_
  intro W base args ds p hval hA hL
  rw [Tryz.params4] at hA hval
  obtain ⟨v0, v1, v2, d0, d1, d2, p0, p1, p2, rfl, rfl, rfl, h0, h1, h2⟩ := trodAll_three hA
  obtain ⟨A, hAl⟩ := open_strs h0 (by obtain ⟨a, m, c, rfl⟩ := okWide_slice Tryz.underlying22 (hval 0 22 v0 rfl rfl); rfl)
  obtain ⟨k, rfl, rfl, rfl, hw⟩ := open_int Tryz.underlying3 (hval 1 3 v1 rfl rfl) h1
  obtain ⟨by', rfl, rfl, rfl, hw2⟩ := open_int Tryz.underlying5 (hval 2 5 v2 rfl rfl) h2
  have hb : 0 ≤ by' ∧ by' ≤ 255 := by simpa [Lit.wf, IntKind.min, IntKind.max, IntKind.signed, IntKind.bits] using hw2
  exact walk W v0 A k by' (laid_of hL) hAl ⟨hb.1, by omega⟩

theorem said : Rows.WalTornSaid :=
  OpenClaim.holds_of_cond 4 Tryz.f4 rfl rfl rfl rfl rfl rfl rfl ⟨rfl, rfl, rfl, rfl, rfl⟩ rfl rfl rfl rfl rfl (by kernel_rfl) Tryz.func4 (by kernel_rfl)
    (of_decide_eq_true (by kernel_rfl)) (by unfold Func.isWrapper; first | (rw [if_pos (by decide +kernel)]; kernel_rfl) | (rw [if_neg (by decide +kernel)]; exact ⟨rfl, rfl⟩))
    (fun os started H enc _ F => by rw [OpenClaim.pre_eq_preRow]; exact lifted os started H enc F)
theorem plain (f : FuncId) (fn : Func) (hf : Tryz.pinned.checked.prog.funcNamed "hedgerow/hedgerowlaw07.WalTorn" = some f) (hfn : Tryz.pinned.checked.prog.funcs[f]? = some fn) :
    true = Tryz.pinned.checked.prog.looks [] ∧ ∀ (j : Nat) t, fn.params[j]? = some t → Tryz.pinned.checked.prog.wantsStandIn t = false := by
  obtain rfl : f = 4 := Option.some.inj ((show Tryz.prog.funcNamed "hedgerow/hedgerowlaw07.WalTorn" = some 4 by kernel_rfl).symm.trans hf) |>.symm
  obtain rfl : fn = Tryz.f4 := (Option.some.inj (Tryz.func4.symm.trans hfn)).symm
  refine ⟨by kernel_rfl, fun j t ht => ?_⟩
  rw [Tryz.params4] at ht
  have hm : t ∈ [22, 3, 5] := by simpa using Array.mem_of_getElem? ht
  have hall : ([22, 3, 5].all fun u => !Tryz.prog.wantsStandIn u) = true := by kernel_rfl
  exact (show Tryz.prog.wantsStandIn t = false by simpa using List.all_eq_true.1 hall t hm)
theorem card : Rows.WalTornCardSaid :=
  Claim7.holds_tied_plain_at .later [] _ _ _ _ said (fun _ h => by cases h) (by kernel_rfl) (fun _ h => by cases h) walTorn_row_tie rfl ⟨rfl, rfl⟩ (by kernel_rfl) rfl plain (by kernel_rfl)
end Go.Proofs.YtghamhipcpgofaaGreatDoor.walTorn
