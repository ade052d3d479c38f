/-
  Whatever the deeds: DiskCopies returns true, and its arguments read behind the call as they read before. No conditions.
-/
import Derived.Test.YtdckdndjddflfaaDkAC
namespace Go.Proofs.Ytdckdndjddflfaa.diskCopies
open Go.ChangeShapes Go.WideShapes Go.ChangeAt Go.RowKit Go.Joins Go.Deep

set_option maxRecDepth 100000 in
set_option maxHeartbeats 4000000 in
theorem walk (v : Value) (l : List De) (u : Value) (m : List De) (w : World) (hv : RdOf cDe w v l) (hu : RdOf cDe w u m) : Calls Try.prog 10 #[v, u] w fun e w' => e = .returned (.bool true) ∧ Keeps No w w' := by
  have Hv := Lib.hid hv
  have Hu := Lib.hid hu
  clear hv hu
  go_enter Try.func10, Try.ntmps10
  go_wp2_with fail
  refine (new_any w).mono ?_
  rintro e w1 ⟨rfl, hd1, hk1⟩
  have hs1 := hk1.size
  have hlt1 := hd1.lt
  go_wp2_with fail
  refine calls_world ?_
  intro W hW
  have KW : Keeps No w1 W := by rw [hW]; exact (Keeps.refl _).alloc _
  have hsz : W.heap.size = w1.heap.size + 1 := by rw [hW]; simp
  have hqc : W.heap[w1.heap.size]? = some (.cells #[.slice none 0 0, .bool false, .int .i64 0, .bool false] 51 (0, 0)) := by rw [hW]; exact heap_alloc_new _ _
  have K0 := Lib.hid (hk1.trans KW (fun _ _ h => h))
  have DW := hd1.kept KW (fun h => h) (fun h => h)
  clear hW
  refine (few_any W v l (Hv.out.kept K0.out (fun _ _ h => h))).mono ?_
  rintro e w2 ⟨v', rfl, l', ho, h60, hsh, hk2⟩
  obtain ⟨va, vc, rfl⟩ := ownsRow_slice ho
  have K2 := Lib.hid (K0.out.trans hk2 (fun _ _ h => h))
  go_wp2_with fail
  refine (few_any w2 u m (Hu.out.kept K2.out (fun _ _ h => h))).mono ?_
  rintro e w3 ⟨u', rfl, m', ho3, h63, hsh3, hk3⟩
  obtain ⟨ua, uc, rfl⟩ := ownsRow_slice ho3
  have hs3 := hk3.size
  have hs2 := hk2.size
  have HB0 : Hid (BoX w3 (w.heap.size + 1) w.heap.size w1.heap.size w3.heap.size 0) := bo_new ((DW.kept hk2 (fun h => h) (fun h => h)).kept hk3 (fun h => h) (fun h => h)) (hk3.heap (hk2.heap hqc (fun h => h)) (fun h => h)) (by omega) (by omega) (by omega) (by omega) (Nat.le_refl _)
  have HO := Lib.hid (hk3.owns ho (fun _ _ h => h))
  have HO3 : Hid (OwnOf cDe 46 w3 W.heap.size (.slice ua m'.length uc) m') := OwnOf.base ho3 hs2
  have HS := Lib.hid hsh
  have HS3 := Lib.hid hsh3
  have K3 := Lib.hid (K2.out.trans hk3 (fun _ _ h => h))
  have Hlt : Hid (w.heap.size + 1 < W.heap.size ∧ w1.heap.size < W.heap.size ∧ w.heap.size ≤ w1.heap.size ∧ w.heap.size ≤ w3.heap.size) := ⟨by omega, by omega, by omega, by have := K3.out.size; omega⟩
  have HPQ : Hid (∀ i, i < w.heap.size → ¬ PQ (w.heap.size + 1) w.heap.size w1.heap.size w3.heap.size i) := fun i hi h => by
    have := Hlt.out
    rcases h with h | h | h | h <;> omega
  have HPR : Hid (∀ i, W.heap.size ≤ i → i < w3.heap.size → ¬ PQ (w.heap.size + 1) w.heap.size w1.heap.size w3.heap.size i) := fun i h1 h2 h => by
    have := Hlt.out
    rcases h with h | h | h | h <;> omega
  clear ho hsh hk1 hk3 hd1 hlt1 hs1 KW hsz hqc DW hs3 hk2 hs2 ho3 hsh3
  go_wp2
  go_loopw [7] (fun i wr => ∃ k : Nat, k ≤ l'.length ∧ i = .int .i64 k ∧ BoX wr (w.heap.size + 1) w.heap.size w1.heap.size w3.heap.size k ∧ (OwnOf cDe 46 wr W.heap.size (.slice va l'.length vc) l' ∧ OwnOf cDe 46 wr W.heap.size (.slice ua m'.length uc) m') ∧ Keeps No w wr) (fun i _ => l'.length - (intOf i).toNat)
  case atStart => exact ⟨0, Nat.zero_le _, rfl, HB0.out, ⟨HO.out, HO3.out⟩, K3.out⟩
  case round =>
    obtain ⟨k, hkl, rfl, ⟨v2, L, is, room, rr, dead, hbo⟩, ⟨hrow, hrow3⟩, hK⟩ := hrel
    have HB := Lib.hid hbo
    have HR := Lib.hid hrow
    have HR3 := Lib.hid hrow3
    have HK := Lib.hid hK
    clear hbo hrow hK hrow3
    by_cases hlt : k < l'.length
    · have hki : (k : Int) < (l'.length : Int) := by omega
      have hk0 : (0 : Int) ≤ (k : Int) := by omega
      have hk64 : (k : Int) ≤ 60 := by omega
      obtain ⟨g, off, rfl, _, _, hg⟩ := RdOf.addr cDe HR.out.reads (by omega)
      have c5 : cellsAt wr g (off + k * 5) 5 = some (dC l'[k].1) := RdOf.at cDe HR.out.reads k hlt
      have hwf := l'[k].2
      have hsz5 := HS.out _ (List.getElem_mem hlt)
      obtain ⟨d, hd⟩ : ∃ d, d = l'[k].1 := ⟨_, rfl⟩
      rw [← hd] at c5 hwf hsz5
      unfold dC at c5
      have hkc : k ≤ 1000 := by omega
      have Hlt2 := Lib.hid hlt
      clear hd hlt hkl
      go_wp2_with fail
      refine (step_any HB.out d hwf hsz5 hkc).mono ?_
      rintro e w4 ⟨rfl, v4, L4, is4, room4, rr4, dead4, hb4, hk4⟩
      have K4 : Hid (Keeps No w w4) := HK.out.trans hk4 (fun i hi h => HPQ.out i hi h)
      have R4 : Hid (OwnOf cDe 46 w4 W.heap.size (.slice (some ⟨g, off, none⟩) l'.length vc) l' ∧ OwnOf cDe 46 w4 W.heap.size (.slice ua m'.length uc) m') :=
        ⟨hk4.owns HR.out (fun i hi h => HPR.out i (HR.out.lt i hi).1 (HO.out.lt i hi).2 h), hk4.owns HR3.out (fun i hi h => HPR.out i (HR3.out.lt i hi).1 (HO3.out.lt i hi).2 h)⟩
      have B5 : Hid (BoX w4 (w.heap.size + 1) w.heap.size w1.heap.size w3.heap.size (k + 1)) := ⟨v4, L4, is4, room4, rr4, dead4, hb4⟩
      clear hb4 hk4 c5
      go_wp2
      go_roundw
      case rel => exact ⟨k + 1, Hlt2.out, by go_num, B5.out, R4.out, K4.out⟩
      case measure => have := Hlt2.out; simp [intOf]; omega
    · obtain rfl : k = l'.length := by omega
      obtain ⟨wq, hwq⟩ : ∃ x, x = wr := ⟨_, rfl⟩
      subst hwq
      have hki : ¬ (l'.length : Int) < (l'.length : Int) := by omega
      have hsw := HK.out.size
      have Hlen : Hid (l'.length ≤ 60) := h60
      clear hlt hkl HO HB0 HR
      go_wp2_with fail
      refine (copy_any HB.out.d).mono ?_
      rintro e w4 ⟨rfl, hd4, hk4⟩
      have hlt4 := hd4.lt
      have hs4 := hk4.size
      have B4 := Lib.hid (HB.out.no hk4)
      go_wp2_with fail
      refine (rcopy_any B4.out.r).mono ?_
      rintro e w5 ⟨v5, rfl, ho5, hk5⟩
      have hs5 := hk5.size
      obtain ⟨a5, n5, c5, he5⟩ : ∃ a n c, v5 = .slice a n c := by
        obtain ⟨a, c, he⟩ := ownsRow_slice ho5
        exact ⟨a, _, c, he⟩
      subst he5
      go_wp2_with fail
      refine calls_world ?_
      intro X hX
      have kX : Keeps No w5 X := by rw [hX]; exact (Keeps.refl _).alloc _
      have hqX : X.heap[w5.heap.size]? = some (.cells #[.slice a5 n5 c5, .bool is, .int .i64 rr, .bool dead] 51 (0, 0)) := by rw [hX]; exact heap_alloc_new _ _
      have hsX : X.heap.size = w5.heap.size + 1 := by rw [hX]; simp
      have BC : Hid (Bo X (wq.heap.size + 1) wq.heap.size w5.heap.size w4.heap.size (.slice a5 n5 c5) L is room rr dead l'.length) :=
        ⟨(hd4.kept hk5 (fun h => h) (fun h => h)).kept kX (fun h => h) (fun h => h),
          ⟨hqX, kX.owns ho5 (fun _ _ h => h), fun i hi e => by have := (ho5.lt i hi).2; omega, B4.out.r.few, by omega⟩, by omega, by omega, by omega, by omega, B4.out.room, B4.out.nm⟩
      have BD := Lib.hid ((B4.out.no hk5).no kX)
      have KX := Lib.hid (((HK.out.trans hk4 (fun _ _ h => h)).trans hk5 (fun _ _ h => h)).trans kX (fun _ _ h => h))
      have RX := Lib.hid (kX.owns (hk5.owns (hk4.owns HR3.out (fun _ _ h => h)) (fun _ _ h => h)) (fun _ _ h => h))
      have Hlx : Hid (w.heap.size ≤ wq.heap.size ∧ wq.heap.size + 1 < w4.heap.size ∧ w4.heap.size ≤ w5.heap.size ∧ w3.heap.size ≤ wq.heap.size) := ⟨by omega, by omega, by omega, by have := HB.out.r.low; omega⟩
      -- what turns the copy turns neither the first disk nor the deeds
      have HQ : Hid (∀ i, i < wq.heap.size → ¬ PQ (wq.heap.size + 1) wq.heap.size w5.heap.size w4.heap.size i) := fun i hi h => by
        have := Hlx.out
        rcases h with h | h | h | h <;> omega
      have HBk : Hid (∀ i, (i = w.heap.size + 1 ∨ i = w.heap.size ∨ i = w1.heap.size ∨ v2.ownBlock = some i) → i < wq.heap.size) := fun i h => by
        have h1 := HB.out.d.lt
        have h2 := (Array.getElem?_eq_some_iff.1 HB.out.r.cells).1
        rcases h with rfl | rfl | rfl | h
        · exact h1.1
        · exact h1.2
        · exact h2
        · exact (HB.out.r.own.lt i h).2
      clear hX kX hqX hsX ho5 hk5 hs5 hd4 hlt4 hs4 hk4 HR3
      refine (alike_any BC.out).mono ?_
      rintro e w6 ⟨rfl, hk6⟩
      have BC6 : Hid (Bo w6 (wq.heap.size + 1) wq.heap.size w5.heap.size w4.heap.size (.slice a5 n5 c5) L is room rr dead (l'.length + 0)) := BC.out.no hk6
      have BD6 := Lib.hid (BD.out.no hk6)
      have K6 := Lib.hid (KX.out.trans hk6 (fun _ _ h => h))
      have R6 := Lib.hid (hk6.owns RX.out (fun _ _ h => h))
      clear hk6
      go_wp2
      go_loopw [10] (fun i wr => ∃ k : Nat, k ≤ m'.length ∧ i = .int .i64 k ∧ BoX wr (wq.heap.size + 1) wq.heap.size w5.heap.size w4.heap.size (l'.length + k) ∧ Bo wr (w.heap.size + 1) w.heap.size w1.heap.size w3.heap.size v2 L is room rr dead l'.length ∧ OwnOf cDe 46 wr W.heap.size (.slice ua m'.length uc) m' ∧ Keeps No w wr) (fun i _ => m'.length - (intOf i).toNat)
      case atStart => exact ⟨0, Nat.zero_le _, rfl, ⟨_, _, _, _, _, _, BC6.out⟩, BD6.out, R6.out, K6.out⟩
      case round =>
        obtain ⟨k, hkl, rfl, ⟨v7, L7, is7, room7, rr7, dead7, hbc⟩, hbd, hrow, hKs⟩ := hrel
        have HC := Lib.hid hbc
        have HD := Lib.hid hbd
        have HR := Lib.hid hrow
        have HKs := Lib.hid hKs
        clear hbc hbd hrow hKs
        by_cases hlt : k < m'.length
        · have hki2 : (k : Int) < (m'.length : Int) := by omega
          have hk0 : (0 : Int) ≤ (k : Int) := by omega
          have hk64 : (k : Int) ≤ 60 := by omega
          obtain ⟨g, off, rfl, _, _, hg⟩ := RdOf.addr cDe HR.out.reads (by omega)
          have c8 : cellsAt wr g (off + k * 5) 5 = some (dC m'[k].1) := RdOf.at cDe HR.out.reads k hlt
          have hwf := m'[k].2
          have hsz5 := HS3.out _ (List.getElem_mem hlt)
          obtain ⟨d, hd⟩ : ∃ d, d = m'[k].1 := ⟨_, rfl⟩
          rw [← hd] at c8 hwf hsz5
          unfold dC at c8
          have hkc : l'.length + k ≤ 1000 := by have := Hlen.out; omega
          have Hlt2 := Lib.hid hlt
          clear hd hlt hkl
          go_wp2_with fail
          refine (step_any HC.out d hwf hsz5 hkc).mono ?_
          rintro e w8 ⟨rfl, v8, L8, is8, room8, rr8, dead8, hb8, hk8⟩
          have K8 : Hid (Keeps No w w8) := HKs.out.trans hk8 (fun i hi h => HQ.out i (Nat.lt_of_lt_of_le hi Hlx.out.1) h)
          have R8 : Hid (OwnOf cDe 46 w8 W.heap.size (.slice (some ⟨g, off, none⟩) m'.length uc) m') :=
            hk8.owns HR.out (fun i hi h => HQ.out i (Nat.lt_of_lt_of_le (HO3.out.lt i hi).2 Hlx.out.2.2.2) h)
          have D8 : Hid (Bo w8 (w.heap.size + 1) w.heap.size w1.heap.size w3.heap.size v2 L is room rr dead l'.length) := HD.out.kept hk8 (fun i hi => ⟨fun e => HQ.out i (HBk.out i (.inl e)) hi, fun e => HQ.out i (HBk.out i (.inr (.inl e))) hi, fun e => HQ.out i (HBk.out i (.inr (.inr (.inl e)))) hi, fun e => HQ.out i (HBk.out i (.inr (.inr (.inr e)))) hi⟩)
          have C8 : Hid (BoX w8 (wq.heap.size + 1) wq.heap.size w5.heap.size w4.heap.size (l'.length + (k + 1))) := ⟨v8, L8, is8, room8, rr8, dead8, hb8⟩
          clear hb8 hk8 c8
          go_wp2
          go_roundw
          case rel => exact ⟨k + 1, Hlt2.out, by go_num, C8.out, D8.out, R8.out, K8.out⟩
          case measure => have := Hlt2.out; simp [intOf]; omega
        · obtain rfl : k = m'.length := by omega
          have hki2 : ¬ (m'.length : Int) < (m'.length : Int) := by omega
          clear hlt hkl
          go_wp2_with fail
          refine (alike_any HD.out).mono ?_
          rintro e w9 ⟨rfl, hk9⟩
          have J9 := Lib.hid hk9
          clear hk9
          go_wp2_with fail
          refine (alike_any (HC.out.no J9.out)).mono ?_
          rintro e w10 ⟨rfl, hk10⟩
          have J10 : Hid (Keeps No wr w10) := J9.out.trans hk10 (fun _ _ h => h)
          clear hk10
          go_wp2_with fail
          refine (awake_any _).mono ?_
          rintro e w11 ⟨rfl, hk11⟩
          have K11 : Hid (Keeps No w w11) := HKs.out.trans (J10.out.trans hk11 (fun _ _ h => h)) (fun _ _ h => h)
          clear hk11
          go_wp2
          go_ret
          exact ⟨rfl, K11.out⟩

set_option maxRecDepth 100000 in
theorem lifted (os : Os) (started : os.Started) (H : Type) (enc : TypeId × Value → H) :
    ReturnsInHanded {} Try.checked os 10 .any (Rows.diskCopiesSpec.pre6 enc Try.prog Try.f10 Rows.diskCopiesRow.domain false) (Rows.diskCopiesSpec.post enc Try.prog Try.f10 false true false false) := by
  refine law_lifted os started H enc (by kernel_rfl) Try.func10
    (ChangeSpec.witness6 (enc := enc) (C := Try.checked) false ⟨#[], #[.slice none 0 0, .slice none 0 0], []⟩ 8 (by kernel_rfl) (by kernel_rfl) (by kernel_rfl) (by kernel_rfl))
    (by decide +kernel) rfl Try.underlying4 rfl (fun ds h => by match ds, h with | [d1, d2], _ => rfl) ?_
  intro W base args ds p hval hA
  rw [Try.params10] at hA hval
  obtain ⟨v0, v1, d0, d1, p0, p1, rfl, rfl, rfl, h0, h1⟩ := trodAll_two hA
  obtain ⟨l, hl⟩ := open_deeds h0 (by obtain ⟨a, m, c, rfl⟩ := okWide_slice Try.underlying43 (hval 0 43 v0 rfl rfl); rfl)
  obtain ⟨m, hm⟩ := open_deeds h1 (by obtain ⟨a, m, c, rfl⟩ := okWide_slice Try.underlying43 (hval 1 43 v1 rfl rfl); rfl)
  exact walk v0 l v1 m W hl hm

theorem holds : Rows.DiskCopiesSaid :=
  OpenClaim.holds_of_wide 10 Try.f10 rfl rfl rfl rfl rfl rfl rfl ⟨rfl, rfl, rfl, rfl, rfl⟩ rfl rfl rfl rfl rfl (by kernel_rfl) Try.func10 (by kernel_rfl)
    (of_decide_eq_true (by kernel_rfl)) (by unfold Func.isWrapper; first | (rw [if_pos (by decide +kernel)]; kernel_rfl) | (rw [if_neg (by decide +kernel)]; exact ⟨rfl, rfl⟩))
    (fun os started H enc _ => lifted os started H enc)
end Go.Proofs.Ytdckdndjddflfaa.diskCopies
