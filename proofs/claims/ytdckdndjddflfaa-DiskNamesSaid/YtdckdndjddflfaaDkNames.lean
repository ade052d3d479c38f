/-
  Whatever the names and the bytes: DiskNames returns true, and its arguments read behind the call as they read before. No conditions.
-/
import Derived.Test.YtdckdndjddflfaaDkI
namespace Go.Proofs.Ytdckdndjddflfaa.diskNames
open Go.ChangeShapes Go.WideShapes Go.ChangeAt Go.RowKit Go.Joins Go.Deep

/-- where the law's walk stands: its disk, and its box -/
structure At (w wi : World) (s0 s1 : ByteArray) (fs : Fs) (room : Int) : Prop where
  k : Keeps No w wi
  d : DiskAt wi (w.heap.size + 1 + 1) (w.heap.size + 1) fs room false
  q0 : wi.cell? ⟨w.heap.size, 0, none⟩ = some (.string s0)
  q1 : wi.cell? ⟨w.heap.size, 1, none⟩ = some (.string s1)
theorem At.two {w wi wj : World} {s0 s1 : ByteArray} {fs fs' : Fs} {room room' : Int} (h : At w wi s0 s1 fs room) (hk : Keeps (Two (w.heap.size + 1 + 1) (w.heap.size + 1)) wi wj) (hd : DiskAt wj (w.heap.size + 1 + 1) (w.heap.size + 1) fs' room' false) : At w wj s0 s1 fs' room' :=
  ⟨two_new h.k hk (by omega) (by omega), hd, hk.cell h.q0 (fun e => by rcases e with e | e <;> (have e' : w.heap.size = _ := e; omega)), hk.cell h.q1 (fun e => by rcases e with e | e <;> (have e' : w.heap.size = _ := e; omega))⟩
theorem At.no {w wi wj : World} {s0 s1 : ByteArray} {fs : Fs} {room : Int} (h : At w wi s0 s1 fs room) (hk : Keeps No wi wj) : At w wj s0 s1 fs room :=
  ⟨h.k.trans hk (fun _ _ h => h), h.d.kept hk (fun h => h) (fun h => h), hk.cell h.q0 (fun h => h), hk.cell h.q1 (fun h => h)⟩
theorem with_none (s : ByteArray) : withS Fi.none s = ⟨s, 0⟩ := by
  have : (⟨#[]⟩ : ByteArray) ++ s = s := by apply ByteArray.ext; simp [ByteArray.data_append]
  show (⟨_, 0⟩ : Fi) = _
  rw [this]

set_option maxRecDepth 100000 in
set_option maxHeartbeats 8000000 in
theorem walk (name to s0 s1 : ByteArray) (wa : s0.size ≤ 140737488355328) (wb : s1.size ≤ 140737488355328) (w : World) : Calls Try.prog 4 #[.string name, .string to, .agg #[.string s0, .string s1]] w fun e w' => e = .returned (.bool true) ∧ Keeps No w w' := by
  by_cases hbig : s0.size + s1.size ≤ 100000
  · have hw : IntKind.i64.wrap ((s0.size : Int) + (s1.size : Int)) = (s0.size : Int) + (s1.size : Int) := by rw [IntKind.wrap_i64]; omega
    have hsm : decide ((100000 : Int) < (s0.size : Int) + (s1.size : Int)) = false := decide_eq_false (by omega)
    have hz : (s0 ++ s1).size = s0.size + s1.size := by simp
    have hcat : ∀ W : World, (Op.stringOp .add s0 s1).run Try.prog W = .ok (.string (s0 ++ s1)) W := fun W => run_string_add_sum W _ _ (by omega)
    have Hb := Lib.hid hbig
    clear hbig wa wb
    by_cases hn : NmOk name
    · have hl1 : decide ((name.size : Int) < 1) = false := decide_eq_false (by have := hn.1; omega)
      have hl2 : decide ((32 : Int) < (name.size : Int)) = false := decide_eq_false (by have := hn.2; omega)
      have Hn := Lib.hid hn
      clear hn
      go_enter Try.func4, Try.ntmps4
      go_wp2_with fail
      refine (new_any _).mono ?_
      rintro e w1 ⟨rfl, h1, k1⟩
      have A1 : Hid (At w w1 s0 s1 [] 4611686018427387904) := ⟨((Keeps.refl (S := No) w).alloc _).trans k1 (fun _ _ h => h), by simpa using h1, k1.cell (by simp [go_sem]) (fun h => h), k1.cell (by simp [go_sem]) (fun h => h)⟩
      clear k1 h1
      have q0 := A1.out.q0
      go_wp2_with fail
      refine (append_all A1.out.d name s0 Fi.none 6 (open_ok (find_no Hn.out rfl)) (.inr ⟨rfl, by decide⟩) Hn.out.2 ⟨by decide, by decide⟩ (by have := Hb.out; have : Fi.none.s.size = 0 := rfl; omega) (by have := Hb.out; omega) (by show 1 ≤ 64; omega)).mono ?_
      rintro e w2 ⟨rfl, h2, k2⟩
      rw [with_none] at h2
      have A2 : Hid (At w w2 s0 s1 [(name.data.toList, ⟨s0, 0⟩)] (4611686018427387904 - s0.size)) := A1.out.two k2 h2
      clear h2 k2 q0 A1
      go_wp2_with fail
      refine (sync_ok A2.out.d name ⟨s0, 0⟩ (open_ok (find_ok Hn.out (one_get _ _))) (one_get _ _) Hn.out.2).mono ?_
      rintro e w3 ⟨rfl, h3, k3⟩
      rw [one_put] at h3
      have A3 : Hid (At w w3 s0 s1 [(name.data.toList, ⟨s0, s0.size⟩)] (4611686018427387904 - s0.size)) := A2.out.two (own_two k3) h3
      clear h3 k3 A2
      have q1 := A3.out.q1
      go_wp2_with fail
      refine (append_all A3.out.d name s1 ⟨s0, s0.size⟩ 0 (open_ok (find_ok Hn.out (one_get _ _))) (.inl rfl) Hn.out.2 ⟨by have := Hb.out; show s0.size ≤ _; omega, Nat.le_refl _⟩ (by have := Hb.out; show (s0.size : Int) + _ ≤ _; omega) (by have := Hb.out; omega) (by rw [one_put]; show 1 ≤ 64; omega)).mono ?_
      rintro e w4 ⟨rfl, h4, k4⟩
      rw [one_put] at h4
      have A4 : Hid (At w w4 s0 s1 [(name.data.toList, ⟨s0 ++ s1, s0.size⟩)] (4611686018427387904 - s0.size - s1.size)) := A3.out.two k4 h4
      clear h4 k4 q1 A3
      by_cases ht : NmOk to
      · by_cases heq : name = to
        · subst heq
          go_wp2_with fail
          refine (rename_no A4.out.d name name ⟨s0 ++ s1, s0.size⟩ ⟨s0 ++ s1, s0.size⟩ 0 (open_ok (find_ok Hn.out (one_get _ _))) (find_ok Hn.out (one_get _ _)) (.inl rfl)).mono ?_
          rintro e w5 ⟨rfl, k5⟩
          have A5 := Lib.hid (A4.out.no k5)
          clear k5 A4 ht
          go_wp2_with fail
          refine (read_any A5.out.d name ⟨s0 ++ s1, s0.size⟩ 0 (find_ok Hn.out (one_get _ _))).mono ?_
          rintro e w6 ⟨rfl, k6⟩
          have A6 := Lib.hid (A5.out.no k6)
          clear k6 A5
          have q0 := A6.out.q0
          have q1 := A6.out.q1
          go_wp2_with fail
          refine (awake_any _).mono ?_
          rintro e w7 ⟨rfl, k7⟩
          have hfin : Hid (Keeps No w w7) := A6.out.k.trans k7 (fun _ _ h => h)
          clear k7
          go_wp2
          go_ret
          exact ⟨rfl, hfin.out⟩
        · have hne := bytes_ne heq
          have hnm : ¬ name.data.toList = to.data.toList := fun e => heq (bytes_of e)
          have Ht := Lib.hid ht
          have Hnm := Lib.hid hnm
          clear ht heq hnm
          go_wp2_with fail
          refine (rename_ok A4.out.d name to ⟨s0 ++ s1, s0.size⟩ Fi.none (open_ok (find_ok Hn.out (one_get _ _))) (one_get _ _) Hn.out.2 (find_no Ht.out (one_get_ne Hnm.out _)) Ht.out.2).mono ?_
          rintro e w5 ⟨rfl, h5, k5⟩
          rw [one_del, nil_put] at h5
          have A5 : Hid (At w w5 s0 s1 [(to.data.toList, ⟨s0 ++ s1, s0.size⟩)] (4611686018427387904 - s0.size - s1.size)) := A4.out.two (own_two k5) h5
          clear h5 k5 A4
          go_wp2_with fail
          refine (read_any A5.out.d name Fi.none 6 (find_no Hn.out (one_get_ne (fun e => Hnm.out e.symm) _))).mono ?_
          rintro e w6 ⟨rfl, k6⟩
          have A6 := Lib.hid (A5.out.no k6)
          clear k6 A5
          go_wp2_with fail
          refine (size_any A6.out.d to ⟨s0 ++ s1, s0.size⟩ 0 (find_ok Ht.out (one_get _ _))).mono ?_
          rintro e w7 ⟨rfl, k7⟩
          have A7 := Lib.hid (A6.out.no k7)
          clear k7 A6
          go_wp2_with fail
          refine (crash_any A7.out.d 0).mono ?_
          rintro e w8 ⟨rfl, h8, k8⟩
          have hck : [(to.data.toList, (⟨s0 ++ s1, s0.size⟩ : Fi))].map (crashP 0) = [(to.data.toList, ⟨s0, s0.size⟩)] := by
            have e1 : crashK 0 ⟨s0 ++ s1, s0.size⟩ = s0.size := by
              unfold crashK
              show s0.size + (max 0 (min 0 (((s0 ++ s1).size : Int) - s0.size))).toNat = s0.size
              omega
            simp only [List.map_cons, List.map_nil, crashP, crashF, e1]
            rw [cut_back]
          rw [hck] at h8
          have A8 : Hid (At w w8 s0 s1 [(to.data.toList, ⟨s0, s0.size⟩)] 4611686018427387904) := A7.out.two k8 h8
          clear h8 k8 hck A7
          go_wp2_with fail
          refine (read_any A8.out.d to ⟨s0, s0.size⟩ 0 (find_ok Ht.out (one_get _ _))).mono ?_
          rintro e w9 ⟨rfl, k9⟩
          have A9 := Lib.hid (A8.out.no k9)
          clear k9 A8
          have q0 := A9.out.q0
          have q1 := A9.out.q1
          go_wp2_with fail
          refine (files_any A9.out.d).mono ?_
          rintro e w10 ⟨v, rfl, hv, k10⟩
          obtain ⟨va, vc, rfl⟩ := ownsRow_slice hv
          have A10 := Lib.hid (A9.out.no k10)
          clear k10 A9 hv q0 q1
          go_wp2_with fail
          refine (awake_any _).mono ?_
          rintro e w11 ⟨rfl, k11⟩
          have hfin : Hid (Keeps No w w11) := A10.out.k.trans k11 (fun _ _ h => h)
          clear k11
          go_wp2
          go_ret
          exact ⟨rfl, hfin.out⟩
      · have heq : ¬ name = to := fun e => ht (e ▸ Hn.out)
        have hne := bytes_ne heq
        have Ht := Lib.hid ht
        clear ht heq
        go_wp2_with fail
        refine (rename_no A4.out.d name to ⟨s0 ++ s1, s0.size⟩ Fi.none 1 (open_ok (find_ok Hn.out (one_get _ _))) (find_bad Ht.out) (.inr rfl)).mono ?_
        rintro e w5 ⟨rfl, k5⟩
        have A5 := Lib.hid (A4.out.no k5)
        clear k5 A4
        go_wp2_with fail
        refine (read_any A5.out.d name ⟨s0 ++ s1, s0.size⟩ 0 (find_ok Hn.out (one_get _ _))).mono ?_
        rintro e w6 ⟨rfl, k6⟩
        have A6 := Lib.hid (A5.out.no k6)
        clear k6 A5
        have q0 := A6.out.q0
        have q1 := A6.out.q1
        go_wp2_with fail
        refine (awake_any _).mono ?_
        rintro e w7 ⟨rfl, k7⟩
        have hfin : Hid (Keeps No w w7) := A6.out.k.trans k7 (fun _ _ h => h)
        clear k7
        go_wp2
        go_ret
        exact ⟨rfl, hfin.out⟩
    · have hcase : decide ((name.size : Int) < 1) = true ∨ (decide ((name.size : Int) < 1) = false ∧ decide ((32 : Int) < (name.size : Int)) = true) := by
        unfold NmOk at hn
        by_cases h : (name.size : Int) < 1
        · exact .inl (decide_eq_true h)
        · exact .inr ⟨decide_eq_false h, decide_eq_true (by omega)⟩
      have Hn := Lib.hid hn
      clear hn
      rcases hcase with hl1 | ⟨hl1, hl2⟩
      all_goals
        go_enter Try.func4, Try.ntmps4
        go_wp2_with fail
        refine (new_any _).mono ?_
        rintro e w1 ⟨rfl, h1, k1⟩
        have A1 : Hid (At w w1 s0 s1 [] 4611686018427387904) := ⟨((Keeps.refl (S := No) w).alloc _).trans k1 (fun _ _ h => h), by simpa using h1, k1.cell (by simp [go_sem]) (fun h => h), k1.cell (by simp [go_sem]) (fun h => h)⟩
        clear k1 h1
        have q0 := A1.out.q0
        go_wp2_with fail
        refine (append_err A1.out.d name s0 Fi.none 1 (open_ok (find_bad Hn.out)) (.inl rfl)).mono ?_
        rintro e w2 ⟨rfl, k2⟩
        have A2 := Lib.hid (A1.out.no k2)
        clear k2 q0 A1
        go_wp2_with fail
        refine (files_any A2.out.d).mono ?_
        rintro e w3 ⟨v, rfl, hv, k3⟩
        obtain ⟨va, vc, rfl⟩ := ownsRow_slice hv
        have A3 := Lib.hid (A2.out.no k3)
        clear k3 A2 hv
        go_wp2_with fail
        refine (awake_any _).mono ?_
        rintro e w4 ⟨rfl, k4⟩
        have hfin : Hid (Keeps No w w4) := A3.out.k.trans k4 (fun _ _ h => h)
        clear k4
        go_wp2
        go_ret
        exact ⟨rfl, hfin.out⟩
  · have hw : IntKind.i64.wrap ((s0.size : Int) + (s1.size : Int)) = (s0.size : Int) + (s1.size : Int) := by rw [IntKind.wrap_i64]; omega
    have hsm : decide ((100000 : Int) < (s0.size : Int) + (s1.size : Int)) = true := decide_eq_true (by omega)
    clear wa wb hbig
    go_enter Try.func4, Try.ntmps4
    go_wp2_with fail
    refine (awake_any _).mono ?_
    rintro e w1 ⟨rfl, k1⟩
    have hfin : Hid (Keeps No w w1) := ((Keeps.refl (S := No) w).alloc _).trans k1 (fun _ _ h => h)
    clear k1
    go_wp2
    go_ret
    exact ⟨rfl, hfin.out⟩

set_option maxRecDepth 100000 in
theorem lifted (os : Os) (started : os.Started) (H : Type) (enc : TypeId × Value → H) :
    ReturnsInHanded {} Try.checked os 4 .any (Rows.diskNamesSpec.pre6 enc Try.prog Try.f4 Rows.diskNamesRow.domain false) (Rows.diskNamesSpec.post enc Try.prog Try.f4 false true false false) := by
  refine law_sized os started H enc (by kernel_rfl) Try.func4
    (ChangeSpec.witness6 (enc := enc) (C := Try.checked) false ⟨#[], #[.string ByteArray.empty, .string ByteArray.empty, .agg #[.string ByteArray.empty, .string ByteArray.empty]], []⟩ 8 (by kernel_rfl) (by kernel_rfl) (by kernel_rfl) (by kernel_rfl))
    (by decide +kernel) rfl Try.underlying4 rfl (fun ds h => by match ds, h with | [d1, d2, d3], _ => rfl) ?_
  intro W base args ds p hval hA hsz
  rw [Try.params4] at hA hval
  obtain ⟨v0, v1, v2, d0, d1, d2, p0, p1, p2, rfl, rfl, rfl, h0, h1, h2⟩ := trodAll_three hA
  obtain ⟨s, rfl, _⟩ := ChangeMaps.open_string Try.underlying9 (hval 0 9 v0 rfl rfl) h0
  obtain ⟨t, rfl, _⟩ := ChangeMaps.open_string Try.underlying9 (hval 1 9 v1 rfl rfl) h1
  obtain ⟨a, b, rfl, rfl⟩ := open_arr2 (hval 2 22 v2 rfl rfl) h2
  obtain ⟨wa, wb⟩ := arr2_sized (hsz 2 22 _ rfl rfl)
  exact walk s t a b wa wb W

theorem holds : Rows.DiskNamesSaid :=
  OpenClaim.holds_of_wide 4 Try.f4 rfl rfl rfl rfl rfl rfl rfl ⟨rfl, rfl, rfl, rfl, rfl⟩ rfl rfl rfl rfl rfl (by kernel_rfl) Try.func4 (by kernel_rfl)
    (of_decide_eq_true (by kernel_rfl)) (by unfold Func.isWrapper; first | (rw [if_pos (by decide +kernel)]; kernel_rfl) | (rw [if_neg (by decide +kernel)]; exact ⟨rfl, rfl⟩))
    (fun os started H enc _ => lifted os started H enc)
end Go.Proofs.Ytdckdndjddflfaa.diskNames
