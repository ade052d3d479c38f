/-
  The pool's List. No conditions of its own.
-/
import Derived.Test.YtpbpgjfdledgoaaGreatDoorZa23
import Derived.Test.YtpbpgjfdledgoaaGreatDoorZa31
namespace Go.Proofs.YtpbpgjfdledgoaaGreatDoor
open Go.RowKit Go.Shelf Go.Sort Go.Joins Go.Deep

def ixNam (k : Nat) (xi : Ix × Nat) : List Nam := bif xi.1.a then [⟨(k : Int), (xi.2 : Int), xi.1.g⟩] else []
/-- the names of the first k shards, and of the first i indices of the next one -/
def listK (p : Pl) (k : Nat) : List Nam := (p.zipIdx.take k).flatMap fun sk => listS sk.2 sk.1.all
def listI (k : Nat) (A : List Ix) (i : Nat) : List Nam := (A.zipIdx.take i).flatMap (ixNam k)
theorem listK_zero (p : Pl) : listK p 0 = [] := by simp [listK]
theorem listI_zero (k : Nat) (A : List Ix) : listI k A 0 = [] := by simp [listI]
theorem listI_succ (k : Nat) (A : List Ix) (i : Nat) (x : Ix) (h : A[i]? = some x) : listI k A (i + 1) = listI k A i ++ ixNam k (x, i) := by
  unfold listI
  rw [List.take_add_one, List.flatMap_append, List.getElem?_zipIdx, h]
  simp
theorem listK_succ (p : Pl) (k : Nat) (s : Sh) (h : p[k]? = some s) : listK p (k + 1) = listK p k ++ listI k s.all s.all.length := by
  unfold listK listI
  rw [List.take_add_one, List.flatMap_append, List.getElem?_zipIdx, h]
  simp only [Option.map_some, Option.toList_some, List.flatMap_cons, List.flatMap_nil, List.append_nil, Nat.zero_add]
  rw [List.take_of_length_le (l := s.all.zipIdx) (by rw [List.length_zipIdx]; exact Nat.le_refl _)]
  rfl
theorem listK_all (p : Pl) {k : Nat} (h : p.length ≤ k) : listK p k = listP p := by
  unfold listK listP
  rw [List.take_of_length_le (by rw [List.length_zipIdx]; exact h)]
theorem listI_len (k : Nat) (A : List Ix) : ∀ i, (listI k A i).length ≤ i
  | 0 => by simp [listI]
  | i + 1 => by
    cases h : A[i]? with
    | none =>
      have : listI k A (i + 1) = listI k A i := by
        unfold listI
        rw [List.take_add_one, List.getElem?_zipIdx, h]
        simp
      rw [this]
      have := listI_len k A i
      omega
    | some x =>
      rw [listI_succ k A i x h, List.length_append]
      have := listI_len k A i
      have : (ixNam k (x, i)).length ≤ 1 := by unfold ixNam; cases x.a <;> simp
      omega
section
variable {w : World} {base p g : Nat} {R : List Rp} {pl : Pl}
set_option maxRecDepth 100000 in
set_option maxHeartbeats 4000000 in
theorem poolList_any (h : PoolAt w base p g R pl) : Calls Tryz.prog 189 #[dP p] w fun e w' => ∃ v, e = .returned v ∧ OwnOf cNam 23 w' w.heap.size v (listP pl) ∧ Keeps No w w' := by
  obtain ⟨i0, hi, hz0, hz1, hz2⟩ := info_parts Tryz.infoID
  have c0 := h.boxCell
  have H := Lib.hid h
  have h16 := h.ok.1
  have hk2 : (pl.length : Int) ≤ 16 := by omega
  clear h h16
  go_enter Tryz.func189, Tryz.ntmps189
  go_wp2
  go_loopw [16, 3] (fun q v wr => ∃ k : Nat, k ≤ pl.length ∧ q = .int .i64 k ∧ OwnOf cNam 23 wr w.heap.size v (listK pl k) ∧ (listK pl k).length ≤ 16 * k ∧ Keeps No w wr) (fun q _ _ => pl.length - (intOf q).toNat)
  case atStart => exact ⟨0, Nat.zero_le _, rfl, by rw [listK_zero]; exact World.ownsRow_nil _ _ _ _, by rw [listK_zero]; simp, Keeps.refl _⟩
  case round =>
    obtain ⟨k, hk, rfl, hO, hLen, hK⟩ := hrel
    obtain ⟨oa, oc, rfl⟩ := ownsRow_slice hO
    have KJ := Lib.hid hK
    have OJ := Lib.hid hO
    by_cases hlt : k < pl.length
    · have hki : (k : Int) < (pl.length : Int) := by omega
      have hk0 : (0 : Int) ≤ (k : Int) := by omega
      have hs : pl[k]? = some pl[k] := List.getElem?_eq_getElem hlt
      obtain ⟨s, hs0⟩ : ∃ s, s = pl[k] := ⟨_, rfl⟩
      rw [← hs0] at hs
      have hP := H.out.no hK
      obtain ⟨r, hr, hsh, _⟩ := hP.place hs
      have hz : (R.zip pl)[k]? = some (r, s) := by rw [List.getElem?_zip_eq_some]; exact ⟨hr, hs⟩
      have d0 : cellsAt wr g (k * 2) 2 = some (shC (r, s)) := rowCells cSh hP.row k (r, s) hz
      have ha16 : (s.all.length : Int) ≤ 16 := by have := (H.out.ok.sh hs).n1; omega
      have la : r.a < wr.heap.size := hP.lt (.inr (.inr ⟨r, List.mem_of_getElem? hr, .inl rfl⟩))
      have lg : g < wr.heap.size := hP.lt (.inr (.inl rfl))
      have HA := Lib.hid hsh.all
      have HS := Lib.hid hs
      have HRR := Lib.hid hr
      have HLEN := Lib.hid hLen
      clear hs0 hs hP hr hsh hz hO hK hLen
      go_wp2
      refine wp_world ?_
      intro X0 hX0
      have KX : Hid (Keeps No wr X0) := Lib.hid (by rw [hX0]; exact (Keeps.refl wr).alloc _)
      have KW : Hid (Keeps No w X0) := Lib.hid (KJ.out.trans KX.out (fun _ _ h => h))
      have OX : Hid (OwnOf cNam 23 X0 w.heap.size (.slice oa (listK pl k).length oc) (listK pl k)) := Lib.hid (KX.out.owns OJ.out (fun _ _ h => h))
      have AX := Lib.hid (H.out.sh k r s HRR.out HS.out).all
      clear hX0 d0
      obtain ⟨M, hM⟩ : ∃ M, M = listK pl k := ⟨_, rfl⟩
      rw [← hM] at OX HLEN ⊢
      have HM := Lib.hid hM
      clear hM OJ
      obtain ⟨wk, hwk⟩ : ∃ x, x = wr := ⟨_, rfl⟩
      rw [← hwk] at KX KJ HA
      clear hwk la lg
      go_loopw [24, 3] (fun q v wj => ∃ i : Nat, i ≤ s.all.length ∧ q = .int .i64 i ∧ OwnOf cNam 23 wj w.heap.size v (M ++ listI k s.all i) ∧ Keeps No w wj) (fun q _ _ => s.all.length - (intOf q).toNat)
      case atStart => exact ⟨0, Nat.zero_le _, rfl, by rw [listI_zero, List.append_nil]; exact OX.out, KW.out⟩
      case round =>
        obtain ⟨i, hi2, rfl, hO, hK⟩ := hrel
        obtain ⟨ma, mc, rfl⟩ := ownsRow_slice hO
        have KI := Lib.hid hK
        have OI := Lib.hid hO
        have hi0 : (0 : Int) ≤ (i : Int) := by omega
        by_cases hil : i < s.all.length
        · have hii : (i : Int) < (s.all.length : Int) := by omega
          have hx : s.all[i]? = some s.all[i] := List.getElem?_eq_getElem hil
          obtain ⟨x, hx0⟩ : ∃ x, x = s.all[i] := ⟨_, rfl⟩
          rw [← hx0] at hx
          have HX := Lib.hid hx
          have cx : cellsAt wr r.a (i * 3) 3 = some (ixC x) := rowCells cIx (hK.heap AX.out (fun h => h)) i x hx
          have la : r.a < wr.heap.size := (Array.getElem?_eq_some_iff.1 (hK.heap AX.out (fun h => h))).1
          obtain ⟨N, hN⟩ : ∃ N, N = M ++ listI k s.all i := ⟨_, rfl⟩
          rw [← hN] at OI ⊢
          have HN := Lib.hid hN
          have hNl : Hid (N.length ≤ 1000) := Lib.hid (by
            have h1 := listI_len k s.all i
            have h2 := HLEN.out
            rw [hN, List.length_append]
            omega)
          have HB : Hid (w.heap.size ≤ wr.heap.size) := Lib.hid (hK.size)
          clear hO hK hx hx0 hN
          obtain ⟨T, hT⟩ : ∃ b, b = x.a := ⟨_, rfl⟩
          have HT := Lib.hid hT
          have hxe : ixC x = [.int .i64 x.g, .int .i64 x.b, .bool T] := by rw [hT]
          rw [hxe] at cx
          clear hT hxe
          cases T
          case false =>
            have HL : Hid (M ++ listI k s.all (i + 1) = N) := Lib.hid (by rw [listI_succ k _ _ _ HX.out, HN.out]; unfold ixNam; rw [← HT.out]; simp)
            go_wp2
            go_roundw
            case rel => exact ⟨i + 1, by omega, by go_num, by rw [HL.out]; exact OI.out.alloc _, KI.out.alloc _⟩
            case measure => simp [intOf]; omega
          case true =>
            have HL : Hid (M ++ listI k s.all (i + 1) = N ++ [⟨(k : Int), (i : Int), x.g⟩]) := Lib.hid (by rw [listI_succ k _ _ _ HX.out, HN.out]; unfold ixNam; rw [← HT.out]; simp)
            obtain ⟨nm, hnm⟩ : ∃ nm : Nam, nm = ⟨(k : Int), (i : Int), x.g⟩ := ⟨_, rfl⟩
            rw [← hnm] at HL
            go_upto_region 11 with fail
            refine wp_world ?_
            intro W1 hW1
            have c1 : W1.cell? ⟨wr.heap.size, 0, none⟩ = some (.int .i64 x.g) := by rw [hW1]; simp [go_sem]
            have K1 : Hid (Keeps No wr W1) := Lib.hid (by rw [hW1]; exact (Keeps.refl wr).alloc _)
            have O1 := Lib.hid (K1.out.owns OI.out (fun _ _ h => h))
            have HB1 : Hid (w.heap.size ≤ W1.heap.size) := Lib.hid (by have := K1.out.size; have := HB.out; omega)
            have hO' : (W1.alloc (.cells #[.int .i64 (k : Int), .int .i64 (i : Int), .int .i64 x.g] 23)).ownsRow w.heap.size 23 3 (.slice ma N.length mc) N.length (rowsOf cNam N) := O1.out.alloc _
            have hlit : Reads (W1.alloc (.cells #[.int .i64 (k : Int), .int .i64 (i : Int), .int .i64 x.g] 23)) 3 (.slice (some ⟨W1.heap.size, 0, none⟩) 1 1) 1 (namC nm) := by rw [hnm]; exact Reads.ofOwn (World.ownsRow_lit (base := 0) W1 #[.int .i64 (k : Int), .int .i64 (i : Int), .int .i64 x.g] 1 (Nat.zero_le _) (by unfold maxLen; omega) rfl) (cNam.one ⟨(k : Int), (i : Int), x.g⟩)
            clear hW1 hnm cx la
            go_wp2_with (at_builtin; refine wpList_append_reads rfl (.tmp 31) (.tmp 37) 28 rfl w.heap.size 23 i0 _ 3 24 Tryz.underlying28 hi hz0 hz1 hz2 rfl (by decide) _ N.length _ rfl hO' _ 1 _ rfl hlit (by have := hNl.out; unfold maxLen; omega) (by have := hNl.out; omega) (by have := HB1.out; simp; omega) ?_; intro v5 w5 hown5 hk5 hnew5 _)
            have O5 : Hid (OwnOf cNam 23 w5 w.heap.size v5 (N ++ [nm])) := Lib.hid (by
              unfold OwnOf
              rw [List.length_append, rowsOf_append, rowsOf_one]
              exact hown5)
            have K5 : Hid (Keeps No w w5) := Lib.hid ((KI.out.trans K1.out (fun _ _ h => h)).trans (T := Of (.slice ma N.length mc)) (((Keeps.refl W1).alloc _).trans hk5 (fun _ _ h => h)) (fun j hj h => by have := (OI.out.lt j h).1; omega))
            clear hown5 hk5 hnew5 hO' hlit
            go_wp2
            go_roundw
            case rel => exact ⟨i + 1, by omega, by go_num, by rw [HL.out]; exact O5.out, K5.out⟩
            case measure => simp [intOf]; omega
        · have hin : i = s.all.length := by omega
          have hii : ¬ ((i : Int) < (s.all.length : Int)) := by omega
          have HO := Lib.hid hO
          have HK := Lib.hid hK
          clear hO hK
          go_wp2
          have HL : Hid (M ++ listI k s.all i = listK pl (k + 1)) := Lib.hid (by rw [listK_succ pl k s HS.out, hin, HM.out])
          have HN : Hid ((listK pl (k + 1)).length ≤ 16 * (k + 1)) := Lib.hid (by rw [← HL.out, List.length_append]; have := listI_len k s.all i; have := HLEN.out; omega)
          refine ⟨⟨k + 1, by omega, by go_num, by rw [← HL.out]; exact HO.out, HN.out, HK.out⟩, ?_⟩
          simp [intOf]
          omega
    · have hkl : pl.length ≤ k := by omega
      have hki : ¬ ((k : Int) < (pl.length : Int)) := by omega
      clear hO hK
      go_wp2
      go_ret
      exact ⟨_, rfl, by rw [← listK_all pl hkl]; exact OJ.out, KJ.out⟩
end
end Go.Proofs.YtpbpgjfdledgoaaGreatDoor
