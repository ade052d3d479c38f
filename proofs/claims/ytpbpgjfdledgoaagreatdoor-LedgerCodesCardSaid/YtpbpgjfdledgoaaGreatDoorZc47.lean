/-
  LedgerCodes: the law's same, a record among its arguments, and its walk. No conditions of its own, but that the tables are laid.
-/
import Derived.Test.YtpbpgjfdledgoaaGreatDoorZc32
import Derived.Test.YtpbpgjfdledgoaaGreatDoorZc46
namespace Go.Proofs.YtpbpgjfdledgoaaGreatDoor
open Go.ChangeShapes Go.WideShapes Go.ChangeAt Go.RowKit Go.Joins Go.Deep

theorem cmEq_refl (c : Cm) : cmEq c c = true := by
  unfold cmEq
  rw [decide_eq_true rfl, (neq_iff c.id c.id).2 rfl, (bdEq_iff c.b c.b).2 rfl, decide_eq_true rfl]
  rfl
set_option maxRecDepth 100000 in
set_option maxHeartbeats 4000000 in
theorem sameL_any (w : World) (r : Lr) (v v' : Value) (hv : RdOf cNam w v r.ids) (hv' : RdOf cNam w v' r.ids) (hl : r.ids.length ≤ 1048576) : Calls Tryz.prog 15 #[lrV r v, lrV r v'] w fun e w' => e = .returned (.bool true) ∧ Keeps No w w' := by
  obtain ⟨va, vc, rfl⟩ := hv.slice
  obtain ⟨vb, vd, rfl⟩ := hv'.slice
  have HV := Lib.hid hv
  have HV' := Lib.hid hv'
  have ec : ∀ W', (binOp .eql 27 (.agg (cmC r.c).toArray) (.agg (cmC r.c).toArray)).run Tryz.prog W' = .ok (.bool true) W' := fun W' => by rw [← cmEq_refl r.c]; exact run_eqlCm r.c r.c W'
  clear hv hv'
  go_enter Tryz.func15, Tryz.ntmps15
  go_upto_region 1 with fail
  refine wp_world ?_
  intro W hW
  have KW : Hid (Keeps No w W) := Lib.hid (by rw [hW]; exact ((Keeps.refl w).alloc _).alloc _)
  have ca : cellsAt W w.heap.size 0 21 = some (lrC r (.slice va r.ids.length vc)) := by rw [hW]; simp [go_sem]
  have cb : cellsAt W (w.heap.size + 1) 0 21 = some (lrC r (.slice vb r.ids.length vd)) := by rw [hW]; simp [go_sem]
  obtain ⟨ga, hga⟩ : ∃ g, g = w.heap.size := ⟨_, rfl⟩
  obtain ⟨gb, hgb⟩ : ∃ g, g = w.heap.size + 1 := ⟨_, rfl⟩
  rw [← hgb] at cb ⊢
  rw [← hga] at ca ⊢
  have a0 := cellsAt_cell ca 0 _ rfl
  have a1 := cellsAt_cell ca 1 _ rfl
  have a2 := cellsAt_cell ca 2 _ rfl
  have a3 := cellsAt_cell ca 3 _ rfl
  have a20 := cellsAt_cell ca 20 _ rfl
  have aC : cellsAt W ga 4 16 = some (cmC r.c) := cellsAt_part ca 4 (cmC r.c) rfl (by simp)
  have b0 := cellsAt_cell cb 0 _ rfl
  have b1 := cellsAt_cell cb 1 _ rfl
  have b2 := cellsAt_cell cb 2 _ rfl
  have b3 := cellsAt_cell cb 3 _ rfl
  have b20 := cellsAt_cell cb 20 _ rfl
  have bC : cellsAt W gb 4 16 = some (cmC r.c) := cellsAt_part cb 4 (cmC r.c) rfl (by simp)
  simp only [Nat.zero_add] at a0 a1 a2 a3 a20 b0 b1 b2 b3 b20
  have CS := Lib.hid (sameIDs_eq W (.slice va r.ids.length vc) (.slice vb r.ids.length vd) r.ids (HV.out.kept KW.out (fun _ _ h => h)) (HV'.out.kept KW.out (fun _ _ h => h)) hl)
  clear hW hga hgb ca cb hl
  go_wp2_with fail
  (with_reducible refine CS.out.mono ?_)
  rintro e w1 ⟨rfl, hk⟩
  have K1 : Hid (Keeps No w w1) := Lib.hid (KW.out.trans hk (fun _ _ h => h))
  clear hk CS
  go_wp2
  go_ret
  exact ⟨rfl, K1.out⟩
section
variable {H : Type} {enc : TypeId × Value → H} {w : World} {base : Nat} {spare : Nat → Bool} {held : Bool} {n : Nat} {cs : List Value} {x : DataW H × List MemPlace}
theorem kLog : Tryz.prog.cellsOf 30 = 21 := by kernel_rfl
set_option maxRecDepth 100000 in
theorem trodLog (h : DataW.trod enc Tryz.prog w base spare held n 30 cs = some x) : ∃ (r : Lr) (v : Value), cs = lrC r v ∧ RdOf cNam w v r.ids := by
  obtain ⟨xs, m, _, _, hl, hxl, hf⟩ := DataW.trod_struct Tryz.underlying30 h
  rw [kLog] at hl
  match cs, hl with
  | [e0, e1, e2, e3, c0, c1, c2, c3, c4, c5, c6, c7, c8, c9, c10, c11, c12, c13, c14, c15, e20], _ =>
    match xs, hxl with
    | [x0, x1, x2, x3, x4, x5], _ =>
      have h0 := hf 0 _ rfl
      have h1 := hf 1 _ rfl
      have h2 := hf 2 _ rfl
      have h3 := hf 3 _ rfl
      have h4 := hf 4 _ rfl
      have h5 := hf 5 _ rfl
      simp [k1, kCm, kIds] at h0 h1 h2 h3 h4 h5
      obtain ⟨a0, rfl, _⟩ := one_ok (c := e0) h0
      obtain ⟨a1, rfl, _⟩ := one_ok (c := e1) h1
      obtain ⟨a2, rfl, _⟩ := one_ok (c := e2) h2
      obtain ⟨a3, rfl, _⟩ := one_ok (c := e3) h3
      obtain ⟨c, hc, hco⟩ := trodCm (cs := [c0, c1, c2, c3, c4, c5, c6, c7, c8, c9, c10, c11, c12, c13, c14, c15]) h4
      simp only [cmC, List.cons.injEq, and_true] at hc
      obtain ⟨rfl, rfl, rfl, rfl, rfl, rfl, rfl, rfl, rfl, rfl, rfl, rfl, rfl, rfl, rfl, rfl⟩ := hc
      obtain ⟨a, p, l, he, hr⟩ := trodIds (cs := [e20]) h5
      simp only [List.cons.injEq, and_true] at he
      subst he
      exact ⟨⟨a0, a1, a2, a3, c, l⟩, _, rfl, hr⟩
end
set_option maxRecDepth 100000 in
theorem open_log {H : Type} {enc : TypeId × Value → H} {W : World} {base : Nat} {v : Value} {d : DataW H} {ps : List MemPlace}
    (hv : Value.okWide Tryz.prog W .any base 30 v) (h : DataW.Trod enc Tryz.prog W 0 (fun _ => true) true 30 v d ps) : ∃ (r : Lr) (u : Value), v = lrV r u ∧ RdOf cNam W u r.ids := by
  obtain ⟨cs, rfl, _⟩ := okWide_struct Tryz.underlying30 hv
  obtain ⟨n, hn⟩ := h
  obtain ⟨r, u, hc, hr⟩ := trodLog hn
  refine ⟨r, u, ?_, hr⟩
  have : cs = (lrC r u).toArray := by simp [Value.cells] at hc; rw [← hc]
  rw [this]
end Go.Proofs.YtpbpgjfdledgoaaGreatDoor
namespace Go.Proofs.YtpbpgjfdledgoaaGreatDoor.ledgerCodes
open Go.ChangeShapes Go.WideShapes Go.ChangeAt Go.RowKit Go.Joins Go.Deep
theorem errB_enc (r : Lr) : errB (mayL r) = (encL r).2 := by
  unfold errB encL
  cases mayL r <;> rfl
theorem decL_few (s : Nm) : (decL s).1.ids.length ≤ 1048576 := by
  unfold decL
  cases h : doneR (recRaw (rdI (some s)).1 (rdI (some s)).2).2 && mayL (recRaw (rdI (some s)).1 (rdI (some s)).2).1 with
  | false => exact Nat.zero_le _
  | true =>
    rw [Bool.and_eq_true] at h
    have h2 := h.2
    simp only [cond_true]
    by_cases h5 : (recRaw (rdI (some s)).1 (rdI (some s)).2).1.k = 5
    · have := (may_sizes h2).2.2 h5
      omega
    · have : (recRaw (rdI (some s)).1 (rdI (some s)).2).1.ids.isEmpty = true := by
        rcases may_kinds h2 with e | e | e | e | e
        · rw [mayL_1 e] at h2; simp only [Bool.and_eq_true] at h2; exact h2.2.2.2.2
        · rw [mayL_2 e] at h2; simp only [Bool.and_eq_true] at h2; exact h2.2.2.2.2.2.2
        · rw [mayL_3 e] at h2; simp only [Bool.and_eq_true] at h2; exact h2.2.2.2
        · rw [mayL_4 e] at h2; simp only [Bool.and_eq_true] at h2; exact h2.2.2.2
        · exact absurd e h5
      rw [List.isEmpty_iff] at this
      rw [this]
      exact Nat.zero_le _
set_option maxRecDepth 100000 in
set_option maxHeartbeats 8000000 in
theorem walk (w : World) (r : Lr) (v : Value) (s : ByteArray) (hv : RdOf cNam w v r.ids) (hL : Laid w w.heap.size) :
    Calls Tryz.prog 3 #[lrV r v, .string s] w fun e W' => e = .returned (.bool true) ∧ Keeps No w W' := by
  obtain ⟨va, vc, rfl⟩ := hv.slice
  have HV := Lib.hid hv
  have CA := Lib.hid (fun W' (k : Keeps No w W') => ledAwake_any (hL.kept k (fun _ h => h.elim)) k.size)
  clear hL hv
  by_cases hN : 1100 < r.ids.length
  · have hNi : (1100 : Int) < (r.ids.length : Int) := by omega
    clear hN
    go_enter Tryz.func3, Tryz.ntmps3
    go_wp2_with fail
    (with_reducible refine (CA.out _ ((Keeps.refl w).alloc _)).mono ?_)
    rintro e w6 ⟨rfl, hk6⟩
    have KF : Hid (Keeps No w w6) := Lib.hid (((Keeps.refl w).alloc _).trans hk6 (fun _ _ h => h))
    clear hk6 CA HV
    go_wp2
    go_ret
    exact ⟨rfl, KF.out⟩
  by_cases hM : 9000 < s.size
  · have hNi : ¬ (1100 : Int) < (r.ids.length : Int) := by omega
    have hMi : (9000 : Int) < (s.size : Int) := by omega
    clear hN hM
    go_enter Tryz.func3, Tryz.ntmps3
    go_wp2_with fail
    (with_reducible refine (CA.out _ ((Keeps.refl w).alloc _)).mono ?_)
    rintro e w6 ⟨rfl, hk6⟩
    have KF : Hid (Keeps No w w6) := Lib.hid (((Keeps.refl w).alloc _).trans hk6 (fun _ _ h => h))
    clear hk6 CA HV
    go_wp2
    go_ret
    exact ⟨rfl, KF.out⟩
  have hNi : ¬ (1100 : Int) < (r.ids.length : Int) := by omega
  have hMi : ¬ (9000 : Int) < (s.size : Int) := by omega
  have HNM : Hid (r.ids.length ≤ 1100 ∧ s.size ≤ 9000) := Lib.hid ⟨by omega, by omega⟩
  clear hN hM
  obtain ⟨X, hX⟩ : ∃ X : ByteArray, X = toB (encL r).1 := ⟨_, rfl⟩
  obtain ⟨ec, hec⟩ : ∃ c, c = (encL r).2 := ⟨_, rfl⟩
  have CE := Lib.hid (fun W' (k : Keeps No w W') => encode_any W' r (.slice va r.ids.length vc) (HV.out.kept k (fun _ _ h => h)))
  have CR := Lib.hid (fun W' (k : Keeps No w W') => rencode_any W' r (.slice va r.ids.length vc) (HV.out.kept k (fun _ _ h => h)))
  have CK := Lib.hid (fun W' (k : Keeps No w W') => ledCheck_any W' r (.slice va r.ids.length vc) (HV.out.kept k (fun _ _ h => h)))
  unfold EncP at CR
  rw [show strB (encL r).1 = .string X by rw [hX]; rfl, ← hec] at CE CR
  rw [errB_enc, ← hec] at CK
  have HX := Lib.hid hX
  have HEC := Lib.hid hec
  have CD := Lib.hid (fun W' => decode_any W' s (by have := HNM.out.2; omega))
  have CQ := Lib.hid (fun W' => rdecode_any W' s (by have := HNM.out.2; omega))
  have HFW := Lib.hid (decL_few s.data.toList)
  obtain ⟨p, hp⟩ : ∃ p, p = decL s.data.toList := ⟨_, rfl⟩
  rw [← hp] at CD CQ HFW
  obtain ⟨y, gc⟩ := p
  clear hX hec hp
  go_enter Tryz.func3, Tryz.ntmps3
  go_upto_region 1 with fail
  refine wp_world ?_
  intro W0 hW0
  have K0 : Hid (Keeps No w W0) := Lib.hid (by rw [hW0]; exact (Keeps.refl w).alloc _)
  have c0 : cellsAt W0 w.heap.size 0 21 = some (lrC r (.slice va r.ids.length vc)) := by rw [hW0]; simp [go_sem]
  obtain ⟨G, hG⟩ : ∃ g, g = w.heap.size := ⟨_, rfl⟩
  rw [← hG] at c0 ⊢
  have x20 := cellsAt_cell c0 20 _ rfl
  simp only [Nat.zero_add] at x20
  clear hW0 hG
  go_wp2_with fail
  (with_reducible refine (CE.out _ K0.out).mono ?_)
  rintro e w1 ⟨rfl, hk⟩
  have K1 : Hid (Keeps No w w1) := Lib.hid (K0.out.trans hk (fun _ _ h => h))
  have c1 := hk.cellsAt c0
  clear hk c0 x20 CE K0
  go_wp2_with fail
  (with_reducible refine (CR.out _ K1.out).mono ?_)
  rintro e w2 ⟨rfl, hk⟩
  have K2 : Hid (Keeps No w w2) := Lib.hid (K1.out.trans hk (fun _ _ h => h))
  have c2 := hk.cellsAt c1
  clear hk c1 CR K1
  go_wp2_with fail
  (with_reducible refine (CD.out _).mono ?_)
  rintro e w3 ⟨v3, rfl, ho3, hk⟩
  obtain ⟨a3, d3, rfl⟩ := ownsRow_slice ho3
  have K3 : Hid (Keeps No w w3) := Lib.hid (K2.out.trans hk (fun _ _ h => h))
  have R3 := Lib.hid (OwnOf.reads ho3)
  have c3 := hk.cellsAt c2
  clear hk c2 CD K2 ho3
  go_upto_region 6 with fail
  refine wp_world ?_
  intro W4 hW4
  have k4 : Keeps No w3 W4 := by rw [hW4]; exact (Keeps.refl w3).alloc _
  have K4 : Hid (Keeps No w W4) := Lib.hid (K3.out.trans k4 (fun _ _ h => h))
  have c4 := k4.cellsAt c3
  have y4 : cellsAt W4 w3.heap.size 0 21 = some (lrC y (.slice a3 y.ids.length d3)) := by rw [hW4]; simp [go_sem]
  have R4 := Lib.hid (R3.out.kept k4 (fun _ _ h => h))
  obtain ⟨Y, hY⟩ : ∃ g, g = w3.heap.size := ⟨_, rfl⟩
  rw [← hY] at y4 ⊢
  clear hW4 k4 hY c3 R3 K3
  go_wp2_with fail
  (with_reducible refine (CQ.out _).mono ?_)
  rintro e w5 ⟨v5, rfl, ho5, hk⟩
  obtain ⟨a5, d5, rfl⟩ := ownsRow_slice ho5
  have K5 : Hid (Keeps No w w5) := Lib.hid (K4.out.trans hk (fun _ _ h => h))
  have R5 := Lib.hid (OwnOf.reads ho5)
  have c5 := hk.cellsAt c4
  have y5 := hk.cellsAt y4
  have R45 := Lib.hid (R4.out.kept hk (fun _ _ h => h))
  clear hk c4 y4 R4 K4 CQ ho5
  go_upto_region 7 with fail
  refine wp_world ?_
  intro W6 hW6
  have k6 : Keeps No w5 W6 := by rw [hW6]; exact (Keeps.refl w5).alloc _
  have K6 : Hid (Keeps No w W6) := Lib.hid (K5.out.trans k6 (fun _ _ h => h))
  have c6 := k6.cellsAt c5
  have y6 := k6.cellsAt y5
  have z6 : cellsAt W6 w5.heap.size 0 21 = some (lrC y (.slice a5 y.ids.length d5)) := by rw [hW6]; simp [go_sem]
  have RA := Lib.hid (R45.out.kept k6 (fun _ _ h => h))
  have RB := Lib.hid (R5.out.kept k6 (fun _ _ h => h))
  obtain ⟨Z, hZ⟩ : ∃ g, g = w5.heap.size := ⟨_, rfl⟩
  rw [← hZ] at z6 ⊢
  clear hW6 k6 hZ c5 y5 R45 R5 K5
  go_wp2_with fail
  (with_reducible refine (CK.out _ K6.out).mono ?_)
  rintro e w7 ⟨rfl, hk⟩
  have K7 : Hid (Keeps No w w7) := Lib.hid (K6.out.trans hk (fun _ _ h => h))
  have c7 := hk.cellsAt c6
  have y7 := hk.cellsAt y6
  have z7 := hk.cellsAt z6
  have CS := Lib.hid (sameL_any w7 y _ _ (RA.out.kept hk (fun _ _ h => h)) (RB.out.kept hk (fun _ _ h => h)) HFW.out)
  clear hk c6 y6 z6 CK K6 RA RB
  go_wp2_with fail
  (with_reducible refine CS.out.mono ?_)
  rintro e w8 ⟨rfl, hk⟩
  have K8 : Hid (Keeps No w w8) := Lib.hid (K7.out.trans hk (fun _ _ h => h))
  have c8 := hk.cellsAt c7
  clear hk c7 y7 z7 CS K7
  cases hm : mayL r with
  | false =>
    have he1 : ec = 1 := by rw [HEC.out]; unfold encL; rw [hm]; rfl
    clear HEC HX hm
    subst he1
    go_wp2_with fail
    (with_reducible refine (CA.out _ K8.out).mono ?_)
    rintro e w9 ⟨rfl, hk⟩
    have KF : Hid (Keeps No w w9) := Lib.hid (K8.out.trans hk (fun _ _ h => h))
    clear hk CA K8 c8
    go_wp2
    go_ret
    exact ⟨rfl, KF.out⟩
  | true =>
    have he0 : ec = 0 := by rw [HEC.out]; unfold encL; rw [hm]; rfl
    have hXd : X.data.toList = encT r := by rw [HX.out]; unfold encL; rw [hm]; simp [toB]
    have hXs : (X.size : Int) ≤ 140737488355328 := by
      have h1 : (encT r).length ≤ 1000000 := by
        have h2 := may_sizes hm
        have h3 := layI_le r.k
        have h4 := layI_le r.n
        have h5 := layI_le r.s
        have h6 := layI_le r.i
        have h7 := putCm_le r.c
        unfold encT
        rw [List.length_append]
        cases e1 : r.k == 1
        · cases e2 : r.k == 2
          · cases e3 : r.k == 3
            · cases e5 : r.k == 5
              · simp only [cond_false, List.length_nil]; omega
              · simp only [cond_false, cond_true]
                have := putL_len r.ids (h2.2.2 (by simpa using e5))
                omega
            · simp only [cond_false, cond_true]; omega
          · simp only [cond_false, cond_true, List.length_append]; omega
        · simp only [cond_true]; omega
      have h2 : X.size = (encT r).length := by rw [← hXd, Array.length_toList]; rfl
      omega
    have CD := Lib.hid (decode_any w8 X hXs)
    rw [hXd, decL_enc hm] at CD
    clear HEC HX hm hXd hXs
    subst he0
    go_wp2_with fail
    (with_reducible refine CD.out.mono ?_)
    rintro e w9 ⟨v9, rfl, ho9, hk⟩
    obtain ⟨a9, d9, rfl⟩ := ownsRow_slice ho9
    have K9 : Hid (Keeps No w w9) := Lib.hid (K8.out.trans hk (fun _ _ h => h))
    have R9 := Lib.hid (OwnOf.reads ho9)
    have c9 := hk.cellsAt c8
    clear hk c8 CD K8 ho9
    go_upto_region 12 with fail
    refine wp_world ?_
    intro WA hWA
    have kA : Keeps No w9 WA := by rw [hWA]; exact (Keeps.refl w9).alloc _
    have KA : Hid (Keeps No w WA) := Lib.hid (K9.out.trans kA (fun _ _ h => h))
    have cA := kA.cellsAt c9
    have yA : cellsAt WA w9.heap.size 0 21 = some (lrC r (.slice a9 r.ids.length d9)) := by rw [hWA]; simp [go_sem]
    have CS := Lib.hid (sameL_any WA r (.slice a9 r.ids.length d9) (.slice va r.ids.length vc) (R9.out.kept kA (fun _ _ h => h)) (HV.out.kept KA.out (fun _ _ h => h)) (by have := HNM.out.1; omega))
    obtain ⟨Q, hQ⟩ : ∃ g, g = w9.heap.size := ⟨_, rfl⟩
    rw [← hQ] at yA ⊢
    clear hWA kA hQ c9 R9 K9
    go_wp2_with fail
    (with_reducible refine CS.out.mono ?_)
    rintro e wB ⟨rfl, hk⟩
    have KB : Hid (Keeps No w wB) := Lib.hid (KA.out.trans hk (fun _ _ h => h))
    clear hk cA yA CS KA
    go_wp2_with fail
    (with_reducible refine (CA.out _ KB.out).mono ?_)
    rintro e wC ⟨rfl, hk⟩
    have KF : Hid (Keeps No w wC) := Lib.hid (KB.out.trans hk (fun _ _ h => h))
    clear hk CA KB
    go_wp2
    go_ret
    exact ⟨rfl, KF.out⟩
end Go.Proofs.YtpbpgjfdledgoaaGreatDoor.ledgerCodes
