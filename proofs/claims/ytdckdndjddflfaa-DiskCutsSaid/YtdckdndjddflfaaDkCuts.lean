/-
  Whatever the bytes and the number: DiskCuts returns true, and its arguments read behind the call as they read before. No conditions.
-/
import Derived.Test.YtdckdndjddflfaaDkI
namespace Go.Proofs.Ytdckdndjddflfaa.diskCuts
open Go.ChangeShapes Go.WideShapes Go.ChangeAt Go.RowKit Go.Joins Go.Deep

/-- where the law's walk stands: its disk, and its box -/
structure At (w wi : World) (cs : List Value) (fs : Fs) (room : Int) : Prop where
  k : Keeps No w wi
  d : DiskAt wi (w.heap.size + 1 + 1) (w.heap.size + 1) fs room false
  q : cellsAt wi w.heap.size 0 3 = some cs
theorem At.two {w wi wj : World} {cs : List Value} {fs fs' : Fs} {room room' : Int} (h : At w wi cs fs room) (hk : Keeps (Two (w.heap.size + 1 + 1) (w.heap.size + 1)) wi wj) (hd : DiskAt wj (w.heap.size + 1 + 1) (w.heap.size + 1) fs' room' false) : At w wj cs fs' room' :=
  ⟨two_new h.k hk (by omega) (by omega), hd, cells_but hk (fun e => by rcases e with e | e <;> omega) h.q⟩
theorem At.no {w wi wj : World} {cs : List Value} {fs : Fs} {room : Int} (h : At w wi cs fs room) (hk : Keeps No wi wj) : At w wj cs fs room :=
  ⟨h.k.trans hk (fun _ _ h => h), h.d.kept hk (fun h => h) (fun h => h), hk.cellsAt h.q⟩
theorem with_none (s : ByteArray) : withS Fi.none s = ⟨s, 0⟩ := by
  have : (⟨#[]⟩ : ByteArray) ++ s = s := by apply ByteArray.ext; simp [ByteArray.data_append]
  show (⟨_, 0⟩ : Fi) = _
  rw [this]
abbrev nF : ByteArray := ⟨#[102]⟩
theorem nF_ok : NmOk nF := ⟨by decide, by decide⟩

set_option maxRecDepth 100000 in
set_option maxHeartbeats 8000000 in
theorem walk (s0 s1 s2 : ByteArray) (wa : s0.size ≤ 140737488355328) (wb : s1.size ≤ 140737488355328) (wc : s2.size ≤ 140737488355328) (n : Int) (w : World) : Calls Try.prog 6 #[.agg #[.string s0, .string s1, .string s2], .int .i64 n] w fun e w' => e = .returned (.bool true) ∧ Keeps No w w' := by
  have hw : IntKind.i64.wrap ((s0.size : Int) + (s1.size : Int)) = (s0.size : Int) + (s1.size : Int) := by rw [IntKind.wrap_i64]; omega
  have hw' : IntKind.i64.wrap ((s0.size : Int) + (s1.size : Int) + (s2.size : Int)) = (s0.size : Int) + (s1.size : Int) + (s2.size : Int) := by rw [IntKind.wrap_i64]; omega
  by_cases hbig : s0.size + s1.size + s2.size ≤ 100000
  · have hsm : decide ((100000 : Int) < (s0.size : Int) + (s1.size : Int) + (s2.size : Int)) = false := decide_eq_false (by omega)
    have hz : (s0 ++ s1).size = s0.size + s1.size := by simp
    have hcat : ∀ W : World, (Op.stringOp .add s0 s1).run Try.prog W = .ok (.string (s0 ++ s1)) W := fun W => run_string_add_sum W _ _ (by omega)
    have Hb := Lib.hid hbig
    have Hz := Lib.hid hz
    clear hbig wa wb wc hz
    obtain ⟨t, ht⟩ : ∃ t, t = s0 ++ s1 := ⟨_, rfl⟩
    rw [← ht] at hcat Hz
    have Ht := Lib.hid ht
    clear ht
    go_enter Try.func6, Try.ntmps6
    go_wp2_with fail
    refine (new_any _).mono ?_
    rintro e w1 ⟨rfl, h1, k1⟩
    have A1 : Hid (At w w1 [.string s0, .string s1, .string s2] [] 4611686018427387904) := ⟨((Keeps.refl (S := No) w).alloc _).trans k1 (fun _ _ h => h), by simpa using h1, k1.cellsAt (by simp [go_sem])⟩
    clear k1 h1
    have q0 := cellsAt_cell A1.out.q 0 _ rfl
    have q1 := cellsAt_cell A1.out.q 1 _ rfl
    go_wp2_with fail
    refine (append_all A1.out.d nF s0 Fi.none 6 (open_ok (find_no nF_ok rfl)) (.inr ⟨rfl, by decide⟩) nF_ok.2 ⟨by decide, by decide⟩ (by have := Hb.out; have : Fi.none.s.size = 0 := rfl; omega) (by have := Hb.out; omega) (by show 1 ≤ 64; omega)).mono ?_
    rintro e w2 ⟨rfl, h2, k2⟩
    rw [with_none] at h2
    have A2 : Hid (At w w2 [.string s0, .string s1, .string s2] [([102], ⟨s0, 0⟩)] (4611686018427387904 - s0.size)) := A1.out.two k2 h2
    clear h2 k2 q0 q1 A1
    go_wp2_with fail
    refine (sync_ok A2.out.d nF ⟨s0, 0⟩ (open_ok (find_ok nF_ok (one_get _ _))) (one_get _ _) nF_ok.2).mono ?_
    rintro e w3 ⟨rfl, h3, k3⟩
    have h3' := h3
    clear h3
    rw [show nF.data.toList = [102] from rfl, one_put] at h3'
    have A3 : Hid (At w w3 [.string s0, .string s1, .string s2] [([102], ⟨s0, s0.size⟩)] (4611686018427387904 - s0.size)) := A2.out.two (own_two k3) h3'
    clear h3' k3 A2
    have q1 := cellsAt_cell A3.out.q 1 _ rfl
    go_wp2_with fail
    refine (append_all A3.out.d nF s1 ⟨s0, s0.size⟩ 0 (open_ok (find_ok nF_ok (one_get _ _))) (.inl rfl) nF_ok.2 ⟨by have := Hb.out; show s0.size ≤ _; omega, Nat.le_refl _⟩ (by have := Hb.out; show (s0.size : Int) + _ ≤ _; omega) (by have := Hb.out; omega) (by rw [show nF.data.toList = [102] from rfl, one_put]; show 1 ≤ 64; omega)).mono ?_
    rintro e w4 ⟨rfl, h4, k4⟩
    rw [show nF.data.toList = [102] from rfl, one_put, show withS ⟨s0, s0.size⟩ s1 = ⟨t, s0.size⟩ by rw [Ht.out]] at h4
    have A4 : Hid (At w w4 [.string s0, .string s1, .string s2] [([102], ⟨t, s0.size⟩)] (4611686018427387904 - s0.size - s1.size)) := A3.out.two k4 h4
    clear h4 k4 q1 A3
    by_cases hr : n < 0 ∨ (t.size : Int) < n
    · go_wp2_with fail
      refine (truncate_range A4.out.d nF n ⟨t, s0.size⟩ 0 (open_ok (find_ok nF_ok (one_get _ _))) rfl hr).mono ?_
      rintro e w5 ⟨rfl, k5⟩
      have A5 := Lib.hid (A4.out.no k5)
      clear k5 A4
      have hcase : decide (n < 0) = true ∨ (decide (n < 0) = false ∧ decide ((t.size : Int) < n) = true) := by
        by_cases h : n < 0
        · exact .inl (decide_eq_true h)
        · exact .inr ⟨decide_eq_false h, decide_eq_true (by omega)⟩
      clear hr
      rcases hcase with hc | ⟨hc, hc2⟩
      all_goals
        go_wp2_with fail
        refine (read_any A5.out.d nF ⟨t, s0.size⟩ 0 (find_ok nF_ok (one_get _ _))).mono ?_
        rintro e w6 ⟨rfl, k6⟩
        have A6 := Lib.hid (A5.out.no k6)
        clear k6 A5
        go_wp2_with fail
        refine (awake_any _).mono ?_
        rintro e w7 ⟨rfl, k7⟩
        have hfin : Hid (Keeps No w w7) := A6.out.k.trans k7 (fun _ _ h => h)
        clear k7
        go_wp2
        go_ret
        exact ⟨rfl, hfin.out⟩
    · obtain ⟨K, rfl⟩ : ∃ K : Nat, n = (K : Int) := ⟨n.toNat, by omega⟩
      have hc : decide ((K : Int) < 0) = false := decide_eq_false (by omega)
      have hc2 : decide ((t.size : Int) < (K : Int)) = false := decide_eq_false (by omega)
      have hK0 : (0 : Int) ≤ (K : Int) := by omega
      have hK1 : (K : Int) ≤ (t.size : Int) := by omega
      have HK : Hid (K ≤ t.size) := Lib.hid (by omega)
      obtain ⟨J, hJ⟩ : ∃ J, J = min s0.size K := ⟨_, rfl⟩
      have hmin : min (K : Int) (s0.size : Int) = (J : Int) := by omega
      have hxs : (t.extract 0 K).size = K := by simp; omega
      have hcat2 : ∀ W : World, (Op.stringOp .add (t.extract 0 K) s2).run Try.prog W = .ok (.string (t.extract 0 K ++ s2)) W := fun W => run_string_add_sum W _ _ (by have := Hz.out; have := Hb.out; omega)
      have HJ : Hid (J ≤ K) := Lib.hid (by omega)
      have Hxs := Lib.hid hxs
      clear hr hxs
      go_wp2_with fail
      refine (truncate_ok A4.out.d nF ⟨t, s0.size⟩ (open_ok (find_ok nF_ok (one_get _ _))) (one_get _ _) nF_ok.2 K HK.out).mono ?_
      rintro e w5 ⟨rfl, h5, k5⟩
      rw [show nF.data.toList = [102] from rfl, one_put, show (⟨(⟨t, s0.size⟩ : Fi).s.extract 0 K, min (⟨t, s0.size⟩ : Fi).k K⟩ : Fi) = ⟨t.extract 0 K, J⟩ by rw [hJ]] at h5
      have A5 : Hid (At w w5 [.string s0, .string s1, .string s2] [([102], ⟨t.extract 0 K, J⟩)] (4611686018427387904 - s0.size - s1.size)) := A4.out.two (own_two k5) h5
      clear h5 k5 A4 hJ
      have q2 := cellsAt_cell A5.out.q 2 _ rfl
      go_wp2_with fail
      refine (append_all A5.out.d nF s2 ⟨t.extract 0 K, J⟩ 0 (open_ok (find_ok nF_ok (one_get _ _))) (.inl rfl) nF_ok.2 ⟨by have := Hb.out; have := Hz.out; have := Hxs.out; have := HK.out; show (t.extract 0 K).size ≤ _; omega, by have := Hxs.out; have := HJ.out; show J ≤ (t.extract 0 K).size; omega⟩ (by have := Hb.out; have := Hz.out; have := Hxs.out; have := HK.out; show ((t.extract 0 K).size : Int) + _ ≤ _; omega) (by have := Hb.out; omega) (by rw [show nF.data.toList = [102] from rfl, one_put]; show 1 ≤ 64; omega)).mono ?_
      rintro e w6 ⟨rfl, h6, k6⟩
      rw [show nF.data.toList = [102] from rfl, one_put] at h6
      have A6 : Hid (At w w6 [.string s0, .string s1, .string s2] [([102], ⟨t.extract 0 K ++ s2, J⟩)] (4611686018427387904 - s0.size - s1.size - s2.size)) := A5.out.two k6 h6
      clear h6 k6 A5 q2
      go_wp2_with fail
      refine (read_any A6.out.d nF ⟨t.extract 0 K ++ s2, J⟩ 0 (find_ok nF_ok (one_get _ _))).mono ?_
      rintro e w7 ⟨rfl, k7⟩
      have A7 := Lib.hid (A6.out.no k7)
      clear k7 A6
      go_wp2_with fail
      refine (size_any A7.out.d nF ⟨t.extract 0 K ++ s2, J⟩ 0 (find_ok nF_ok (one_get _ _))).mono ?_
      rintro e w8 ⟨rfl, k8⟩
      have A8 := Lib.hid (A7.out.no k8)
      clear k8 A7
      have q0 := cellsAt_cell A8.out.q 0 _ rfl
      have q2 := cellsAt_cell A8.out.q 2 _ rfl
      have K8 := Lib.hid A8.out.k
      clear A8
      go_wp2_with fail
      go_still_tail 36, (by kernel_rfl)
      change wpList _ _ _ _ _ (World.drew _)
      go_wp2_with fail
      refine (awake_any _).mono ?_
      rintro e w9 ⟨rfl, k9⟩
      have hfin : Hid (Keeps No w w9) := (K8.out.drew).trans k9 (fun _ _ h => h)
      clear k9
      go_wp2
      go_ret
      exact ⟨rfl, hfin.out⟩
  · have hsm : decide ((100000 : Int) < (s0.size : Int) + (s1.size : Int) + (s2.size : Int)) = true := decide_eq_true (by omega)
    clear wa wb wc hbig
    go_enter Try.func6, Try.ntmps6
    go_wp2_with fail
    refine (awake_any _).mono ?_
    rintro e w1 ⟨rfl, k1⟩
    have hfin : Hid (Keeps No w w1) := ((Keeps.refl (S := No) w).alloc _).trans k1 (fun _ _ h => h)
    clear k1
    go_wp2
    go_ret
    exact ⟨rfl, hfin.out⟩

set_option maxRecDepth 100000 in
theorem lifted (os : Os) (started : os.Started) (H : Type) (enc : TypeId × Value → H) :
    ReturnsInHanded {} Try.checked os 6 .any (Rows.diskCutsSpec.pre6 enc Try.prog Try.f6 Rows.diskCutsRow.domain false) (Rows.diskCutsSpec.post enc Try.prog Try.f6 false true false false) := by
  refine law_sized os started H enc (by kernel_rfl) Try.func6
    (ChangeSpec.witness6 (enc := enc) (C := Try.checked) false ⟨#[], #[.agg #[.string ByteArray.empty, .string ByteArray.empty, .string ByteArray.empty], .int .i64 0], []⟩ 8 (by kernel_rfl) (by kernel_rfl) (by kernel_rfl) (by kernel_rfl))
    (by decide +kernel) rfl Try.underlying4 rfl (fun ds h => by match ds, h with | [d1, d2], _ => rfl) ?_
  intro W base args ds p hval hA hsz
  rw [Try.params6] at hA hval
  obtain ⟨v0, v1, d0, d1, p0, p1, rfl, rfl, rfl, h0, h1⟩ := trodAll_two hA
  obtain ⟨a, b, c, rfl, rfl⟩ := open_arr3 (hval 0 40 v0 rfl rfl) h0
  obtain ⟨n, rfl, rfl, rfl, _⟩ := open_int Try.underlying3 (hval 1 3 v1 rfl rfl) h1
  obtain ⟨wa, wb, wc⟩ := arr3_sized (hsz 0 40 _ rfl rfl)
  exact walk a b c wa wb wc n W

theorem holds : Rows.DiskCutsSaid :=
  OpenClaim.holds_of_wide 6 Try.f6 rfl rfl rfl rfl rfl rfl rfl ⟨rfl, rfl, rfl, rfl, rfl⟩ rfl rfl rfl rfl rfl (by kernel_rfl) Try.func6 (by kernel_rfl)
    (of_decide_eq_true (by kernel_rfl)) (by unfold Func.isWrapper; first | (rw [if_pos (by decide +kernel)]; kernel_rfl) | (rw [if_neg (by decide +kernel)]; exact ⟨rfl, rfl⟩))
    (fun os started H enc _ => lifted os started H enc)
end Go.Proofs.Ytdckdndjddflfaa.diskCuts
