/-
  frame.All. No conditions of its own, but that the table of sums is laid.
-/
import Derived.Test.YtndjnkjcfdaegaaGreatDoorZh12
import Derived.Test.YtndjnkjcfdaegaaGreatDoorZh15
set_option linter.all false
namespace Go.Proofs.YtndjnkjcfdaegaaGreatDoor
open Go.RowKit

theorem flen_len (ts : List Nm) : ts.length * 7 ≤ flen ts := by
  induction ts with
  | nil => simp
  | cons t ts ih => simp only [flen, List.map_cons, List.sum_cons, List.length_cons] at *; omega
theorem flen_snoc (ts : List Nm) (t : Nm) : flen (ts ++ [t]) = flen ts + 7 + t.length := by simp [flen]; omega
/-- at each place that is come to the next frame begins, or none -/
theorem parse_at (s : Nm) (k : Nat) (hk : k ≤ (parse s).length) : firstF (s.drop (flen ((parse s).take k))) = (parse s)[k]? := by
  obtain ⟨r, h1, h2, h3⟩ := parse_parts s
  obtain ⟨ts, hts⟩ : ∃ ts, ts = parse s := ⟨_, rfl⟩
  rw [← hts] at h1 h3 hk ⊢
  have hd : s.drop (flen (ts.take k)) = frames (ts.drop k) ++ r := by
    have e : frames ts = frames (ts.take k) ++ frames (ts.drop k) := by rw [← frames_append, List.take_append_drop]
    rw [h1, e, List.append_assoc, List.drop_left' (frames_length _)]
  rw [hd]
  by_cases hlt : k < ts.length
  · rw [List.drop_eq_getElem_cons hlt, frames_cons, List.append_assoc, firstF_frame _ _ (h3 _ (List.getElem_mem hlt)), List.getElem?_eq_getElem hlt]
  · rw [List.drop_of_length_le (by omega), List.getElem?_eq_none (by omega)]
    exact h2
theorem flen_take_le (ts : List Nm) (k : Nat) : flen (ts.take k) ≤ flen ts := by
  have e : flen ts = flen (ts.take k) + flen (ts.drop k) := by rw [← flen_append, List.take_append_drop]
  omega

set_option maxRecDepth 100000 in
set_option maxHeartbeats 2000000 in
theorem all_any (w : World) (base : Nat) (hL : Laid w base) (hb : base ≤ w.heap.size) (s : ByteArray) (hs : s.size ≤ 4194304) :
    Calls Tryz.prog 41 #[.string s] w fun e w' => ∃ v, e = .returned (.tuple #[v, .int .i64 (flen (parse s.data.toList))]) ∧ OwnStr w' w.heap.size v (parse s.data.toList).length (parse s.data.toList) ∧ Keeps No w w' := by
  obtain ⟨i0, hi, hz0, hz1, hz2⟩ := info_parts Tryz.infoStr
  have hfl := parse_flen s.data.toList
  have hpa := parse_at s.data.toList
  have hdl : s.data.toList.length = s.size := by simp
  rw [hdl] at hfl
  obtain ⟨ts, hts⟩ : ∃ ts, ts = parse s.data.toList := ⟨_, rfl⟩
  rw [← hts] at hfl hpa ⊢
  have hln := flen_len ts
  have Hpa := Lib.hid hpa
  have HL := Lib.hid hL
  have Hb := Lib.hid hb
  clear hts hpa hL hb hdl
  go_enter Tryz.func41, Tryz.ntmps41
  go_wp2
  go_loopw [4, 5] (fun l q wr => ∃ k : Nat, k ≤ ts.length ∧ q = .int .i64 (flen (ts.take k)) ∧ OwnStr wr w.heap.size l (ts.take k).length (ts.take k) ∧ Keeps No w wr) (fun _ q _ => s.size + 1 - (intOf q).toNat)
  case atStart => exact ⟨0, Nat.zero_le _, rfl, World.ownsRow_nil _ _ _ _, Keeps.refl _⟩
  case round =>
    obtain ⟨k, hk, rfl, hrow, hK⟩ := hrel
    have hfirst := Hpa.out k hk
    have hle := flen_take_le ts k
    obtain ⟨At, hAt⟩ : ∃ n, n = flen (ts.take k) := ⟨_, rfl⟩
    rw [← hAt] at hfirst hle ⊢
    have Lr := Lib.hid (HL.out.kept hK (fun _ h => h.elim))
    by_cases hlt : k < ts.length
    · rw [List.getElem?_eq_getElem hlt] at hfirst
      have htk : ts.take (k + 1) = ts.take k ++ [ts[k]] := List.take_succ_eq_append_getElem hlt
      have hnx : flen (ts.take (k + 1)) = At + 7 + ts[k].length := by rw [htk, flen_snoc, hAt]
      have hnl := flen_take_le ts (k + 1)
      have Hown := Lib.hid hrow
      have HK := Lib.hid hK
      have hkl : (ts.take k).length = k := by rw [List.length_take]; omega
      obtain ⟨t, ht⟩ : ∃ t, t = ts[k] := ⟨_, rfl⟩
      rw [← ht] at hfirst htk hnx
      have Hnx := Lib.hid (And.intro htk hnx)
      have Hf := Lib.hid hfirst
      have Hle : Hid (At ≤ s.size ∧ k * 7 ≤ s.size ∧ (ts.take k).length = k ∧ At + 7 + t.length ≤ s.size) := Lib.hid ⟨by omega, by omega, hkl, by omega⟩
      obtain ⟨va, vc, rfl⟩ := ownsRow_slice hrow
      have hin : (At : Int) + 7 + t.length ≤ 4194304 := by have := Hle.out; omega
      clear hrow hK htk hnx ht hfirst hkl hAt hnl hle hfl hln
      go_wp2_with fail
      refine (first_ok wr base Lr.out s (by omega) At Hle.out.1 t Hf.out).mono ?_
      rintro e w1 ⟨rfl, hk1⟩
      have K1 := Lib.hid hk1
      have Ho1 := Lib.hid (hk1.owns Hown.out (fun _ _ h => h))
      clear hk1
      obtain ⟨Nx, hNx⟩ : ∃ n, n = At + 7 + t.length := ⟨_, rfl⟩
      rw [← hNx]
      have HNx := Lib.hid hNx
      clear hNx
      obtain ⟨m, hm⟩ : ∃ m, m = (ts.take k).length := ⟨_, rfl⟩
      have Hm := Lib.hid hm
      rw [← hm] at Ho1 ⊢
      clear hm
      go_wp2_with (at_builtin; refine wpList_append_own _ rfl _ _ 61 rfl w.heap.size 9 i0 (.string ⟨#[]⟩) 1 16 Tryz.underlying61 hi hz0 hz1 hz2 rfl (by decide) _ _ _ rfl (Ho1.out.alloc _) ⟨w1.heap.size, 0, none⟩ 1 1 [encStr t] rfl rfl (cell_one_new _ _ _) (by simp [Value.oneCell', encStr]) (by have := Hle.out; have := Hm.out; unfold maxLen; omega) (by have := Hle.out; have := Hm.out; omega) (by have := HK.out.size; have := K1.out.size; simp; omega) ?_; intro v' w2 hown2 hk2 _)
      have Ho2 := Lib.hid hown2
      have K2 : Hid (Keeps No w w2) := ((HK.out.trans K1.out (fun _ _ h => h)).alloc _).grown hk2 (fun i hi hlt => absurd hlt (Nat.not_lt.2 (Ho1.out.lt i hi).1))
      clear hown2 hk2
      go_wp2
      go_roundw
      case rel =>
        refine ⟨k + 1, by omega, by rw [Hnx.out.2, HNx.out], ?_, K2.out⟩
        have h := Ho2.out
        unfold OwnStr
        rw [Hnx.out.1, List.length_append, List.map_append, ← Hm.out]
        exact h
      case measure =>
        show s.size + 1 - ((Nx : Nat) : Int).toNat < s.size + 1 - ((At : Nat) : Int).toNat
        have := HNx.out
        have := Hle.out
        omega
    · have hkk : k = ts.length := by omega
      subst hkk
      rw [List.getElem?_eq_none (Nat.le_refl _)] at hfirst
      rw [List.take_length] at hrow hAt
      have Hown := Lib.hid hrow
      have HK := Lib.hid hK
      have Hf := Lib.hid hfirst
      have HAt := Lib.hid hAt
      obtain ⟨va, vc, rfl⟩ := ownsRow_slice hrow
      clear hrow hK hfirst hAt
      go_wp2_with fail
      refine (first_no wr base Lr.out s (by omega) At (by omega) Hf.out).mono ?_
      rintro e w1 ⟨ec, hec, rfl, hk1⟩
      have hec2 : (ec != 0) = true := by simpa using hec
      have hec3 : (ec == 0) = false := by simpa using hec
      have K1 := Lib.hid hk1
      clear hk1
      go_wp2
      go_ret2
      exact ⟨_, by rw [HAt.out]; rfl, K1.out.owns Hown.out (fun _ _ h => h), HK.out.trans K1.out (fun _ _ h => h)⟩
end Go.Proofs.YtndjnkjcfdaegaaGreatDoor
