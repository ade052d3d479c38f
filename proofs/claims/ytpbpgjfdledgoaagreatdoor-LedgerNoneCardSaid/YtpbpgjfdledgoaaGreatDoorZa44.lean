/-
  Texts in one: LhF, LhJ. No conditions of their own.
-/
import Derived.Test.YtpbpgjfdledgoaaGreatDoorZa41
import Derived.Test.YtpbpgjfdledgoaaGreatDoorZa43

/-
  A command and a name among a law's arguments (TjW's first part). No conditions of their own.
-/
namespace Go.Proofs.YtpbpgjfdledgoaaGreatDoor
open Go.ChangeShapes Go.WideShapes Go.ChangeAt Go.RowKit Go.Joins Go.Deep

section
variable {H : Type} {enc : TypeId × Value → H} {w : World} {base : Nat} {spare : Nat → Bool} {held : Bool} {n : Nat} {cs : List Value} {x : DataW H × List MemPlace}

theorem k1 : Tryz.prog.cellsOf 3 = 1 := by kernel_rfl
theorem kId : Tryz.prog.cellsOf 23 = 3 := by kernel_rfl
theorem kBd : Tryz.prog.cellsOf 25 = 11 := by kernel_rfl
theorem kCm : Tryz.prog.cellsOf 27 = 16 := by kernel_rfl
theorem wf_i64 {a : Int} (h : (Lit.int .i64 a).wf = true) : i64 a := by
  have h1 : decide ((-9223372036854775808 : Int) ≤ a) = true ∧ decide (a ≤ (9223372036854775807 : Int)) = true := by
    have h0 : (decide (IntKind.i64.min ≤ a) && decide (a ≤ IntKind.i64.max)) = true := h
    exact ⟨(Bool.and_eq_true_iff.1 h0).1, (Bool.and_eq_true_iff.1 h0).2⟩
  exact ⟨of_decide_eq_true h1.1, of_decide_eq_true h1.2⟩
theorem one_ok {y : DataW H × List MemPlace} {c : Value} (h : DataW.trod enc Tryz.prog w base spare held n 3 [c] = some y) : ∃ a, c = .int .i64 a ∧ i64 a := by
  obtain ⟨a, ha, _, hw⟩ := DataW.trod_int Tryz.underlying3 h
  exact ⟨a, by simpa using ha, wf_i64 hw⟩

set_option maxRecDepth 100000 in
theorem trodNam (h : DataW.trod enc Tryz.prog w base spare held n 23 cs = some x) : ∃ a : Nam, cs = namC a ∧ i64 a.s ∧ i64 a.i ∧ i64 a.g := by
  obtain ⟨y0, y1, y2, m, _, hl, h0, h1, h2⟩ := trod_struct3 Tryz.underlying23 h
  rw [kId] at hl
  match cs, hl with
  | [c0, c1, c2], _ =>
    simp only [k1] at h0 h1 h2
    obtain ⟨a0, rfl, w0⟩ := one_ok (c := c0) h0
    obtain ⟨a1, rfl, w1⟩ := one_ok (c := c1) h1
    obtain ⟨a2, rfl, w2⟩ := one_ok (c := c2) h2
    exact ⟨⟨a0, a1, a2⟩, rfl, w0, w1, w2⟩
set_option maxRecDepth 100000 in
theorem trodBd (h : DataW.trod enc Tryz.prog w base spare held n 25 cs = some x) : ∃ b : Bd, cs = bdC b ∧ b.ok := by
  obtain ⟨xs, m, _, _, hl, hxl, hf⟩ := DataW.trod_struct Tryz.underlying25 h
  rw [kBd] at hl
  match cs, hl with
  | [c0, c1, c2, c3, c4, c5, c6, c7, c8, c9, c10], _ =>
    match xs, hxl with
    | [x0, x1, x2, x3, x4, x5, x6, x7, x8], _ =>
      have h0 := hf 0 _ rfl
      have h1 := hf 1 _ rfl
      have h2 := hf 2 _ rfl
      have h3 := hf 3 _ rfl
      have h4 := hf 4 _ rfl
      have h5 := hf 5 _ rfl
      have h6 := hf 6 _ rfl
      have h7 := hf 7 _ rfl
      have h8 := hf 8 _ rfl
      simp [k1, kId] at h0 h1 h2 h3 h4 h5 h6 h7 h8
      obtain ⟨a, ha, z0, z1, z2⟩ := trodNam (cs := [c0, c1, c2]) h0
      simp only [namC, List.cons.injEq, and_true] at ha
      obtain ⟨rfl, rfl, rfl⟩ := ha
      obtain ⟨a1, rfl, z3⟩ := one_ok (c := c3) h1
      obtain ⟨a2, rfl, z4⟩ := one_ok (c := c4) h2
      obtain ⟨a3, rfl, z5⟩ := one_ok (c := c5) h3
      obtain ⟨a4, rfl, z6⟩ := one_ok (c := c6) h4
      obtain ⟨a5, rfl, z7⟩ := one_ok (c := c7) h5
      obtain ⟨a6, rfl, z8⟩ := one_ok (c := c8) h6
      obtain ⟨a7, rfl, z9⟩ := one_ok (c := c9) h7
      obtain ⟨a8, rfl, za⟩ := one_ok (c := c10) h8
      exact ⟨⟨a.s, a.i, a.g, a1, a2, a3, a4, a5, a6, a7, a8⟩, rfl, z0, z1, z2, z3, z4, z5, z6, z7, z8, z9, za⟩
set_option maxRecDepth 100000 in
theorem trodCm (h : DataW.trod enc Tryz.prog w base spare held n 27 cs = some x) : ∃ o : Cm, cs = cmC o ∧ o.ok := by
  obtain ⟨xs, m, _, _, hl, hxl, hf⟩ := DataW.trod_struct Tryz.underlying27 h
  rw [kCm] at hl
  match cs, hl with
  | [c0, c1, c2, c3, d0, d1, d2, d3, d4, d5, d6, d7, d8, d9, d10, c15], _ =>
    match xs, hxl with
    | [x0, x1, x2, x3], _ =>
      have h0 := hf 0 _ rfl
      have h1 := hf 1 _ rfl
      have h2 := hf 2 _ rfl
      have h3 := hf 3 _ rfl
      simp [k1, kId, kBd] at h0 h1 h2 h3
      obtain ⟨a0, rfl, z0⟩ := one_ok (c := c0) h0
      obtain ⟨a, ha, y0, y1, y2⟩ := trodNam (cs := [c1, c2, c3]) h1
      simp only [namC, List.cons.injEq, and_true] at ha
      obtain ⟨rfl, rfl, rfl⟩ := ha
      obtain ⟨b, hb, hbo⟩ := trodBd (cs := [d0, d1, d2, d3, d4, d5, d6, d7, d8, d9, d10]) h2
      simp only [bdC, List.cons.injEq, and_true] at hb
      obtain ⟨rfl, rfl, rfl, rfl, rfl, rfl, rfl, rfl, rfl, rfl, rfl⟩ := hb
      obtain ⟨a1, rfl, z1⟩ := one_ok (c := c15) h3
      exact ⟨⟨a0, a.s, a.i, a.g, b, a1⟩, rfl, z0, y0, y1, y2, hbo, z1⟩
end
set_option maxRecDepth 100000 in
theorem open_nam {H : Type} {enc : TypeId × Value → H} {W : World} {base : Nat} {v : Value} {d : DataW H} {ps : List MemPlace}
    (hv : Value.okWide Tryz.prog W .any base 23 v) (h : DataW.Trod enc Tryz.prog W 0 (fun _ => true) true 23 v d ps) : ∃ a : Nam, v = namV a ∧ i64 a.s ∧ i64 a.i ∧ i64 a.g := by
  obtain ⟨cs, rfl, _⟩ := okWide_struct Tryz.underlying23 hv
  obtain ⟨n, hn⟩ := h
  obtain ⟨a, hc, h1, h2, h3⟩ := trodNam hn
  refine ⟨a, ?_, h1, h2, h3⟩
  have : cs = (namC a).toArray := by simp [Value.cells] at hc; rw [← hc]
  rw [this]
set_option maxRecDepth 100000 in
theorem open_cmd {H : Type} {enc : TypeId × Value → H} {W : World} {base : Nat} {v : Value} {d : DataW H} {ps : List MemPlace}
    (hv : Value.okWide Tryz.prog W .any base 27 v) (h : DataW.Trod enc Tryz.prog W 0 (fun _ => true) true 27 v d ps) : ∃ c : Cm, v = cmV c ∧ c.ok := by
  obtain ⟨cs, rfl, _⟩ := okWide_struct Tryz.underlying27 hv
  obtain ⟨n, hn⟩ := h
  obtain ⟨c, hc, ho⟩ := trodCm hn
  refine ⟨c, ?_, ho⟩
  have : cs = (cmC c).toArray := by simp [Value.cells] at hc; rw [← hc]
  rw [this]
end Go.Proofs.YtpbpgjfdledgoaaGreatDoor

/-
  The walk of LedgerNone. No conditions of its own, but that the tables are laid.
-/
namespace Go.Proofs.YtpbpgjfdledgoaaGreatDoor.ledgerNone
open Go.ChangeShapes Go.WideShapes Go.ChangeAt Go.RowKit Go.Joins Go.Deep

set_option maxRecDepth 100000 in
set_option maxHeartbeats 4000000 in
theorem walk (w : World) (c : Cm) (a : Nam) (hL : Laid w w.heap.size) :
    Calls Tryz.prog 6 #[cmV c, namV a] w fun e W' => e = .returned (.bool true) ∧ Keeps No w W' := by
  have HL := Lib.hid hL
  clear hL
  go_enter Tryz.func6, Tryz.ntmps6
  go_upto_region 1 with fail
  refine wp_world ?_
  intro W0 hW0
  have K0 : Hid (Keeps No w W0) := Lib.hid (by rw [hW0]; exact ((Keeps.refl w).alloc _).alloc _)
  have b2 : cellsAt W0 w.heap.size 0 16 = some (cmC c) := by rw [hW0]; simp [go_sem]
  have b3 : cellsAt W0 (w.heap.size + 1) 0 3 = some (namC a) := by rw [hW0]; simp [go_sem]
  clear hW0
  go_wp2_with fail
  refine (small_any W0).mono ?_
  rintro e w1 ⟨rfl, hk1⟩
  have K1 : Hid (Keeps No w w1) := Lib.hid (K0.out.trans hk1 (fun _ _ h => h))
  replace b2 := hk1.cellsAt b2
  replace b3 := hk1.cellsAt b3
  clear hk1
  go_wp2_with fail
  refine (ledOpen_nil w1 zS zS_ok).mono ?_
  rintro e w2 ⟨rfl, hk2⟩
  have K2 : Hid (Keeps No w w2) := Lib.hid (K1.out.trans hk2 (fun _ _ h => h))
  replace b2 := hk2.cellsAt b2
  replace b3 := hk2.cellsAt b3
  clear hk2
  go_wp2_with fail
  refine (ledCall_nil w2 c).mono ?_
  rintro e w3 ⟨rfl, hk3⟩
  have K3 : Hid (Keeps No w w3) := Lib.hid (K2.out.trans hk3 (fun _ _ h => h))
  replace b3 := hk3.cellsAt b3
  clear hk3 b2
  go_upto_region 4 with fail
  refine wp_world ?_
  intro W4 hW4
  have k4 : Keeps No w3 W4 := by rw [hW4]; exact (Keeps.refl _).alloc _
  have b8 : cellsAt W4 w3.heap.size 0 16 = some [.int .i64 0, .int .i64 0, .int .i64 0, .int .i64 0, .int .i64 0, .int .i64 0, .int .i64 0, .int .i64 0, .int .i64 0, .int .i64 0, .int .i64 0, .int .i64 0, .int .i64 0, .int .i64 0, .int .i64 0, .int .i64 0] := by rw [hW4]; simp [go_sem, Cm.zero, Bd.zero]
  have K4 : Hid (Keeps No w W4) := Lib.hid (K3.out.trans k4 (fun _ _ h => h))
  replace b3 := k4.cellsAt b3
  clear hW4 k4
  go_wp2_with fail
  refine (ledBegin_nil W4).mono ?_
  rintro e w5 ⟨rfl, rfl⟩
  go_wp2_with fail
  refine (ledTick_nil w5).mono ?_
  rintro e w6 ⟨rfl, rfl⟩
  go_wp2_with fail
  have hv : RdOf cNam (w6.alloc (.cells #[.int .i64 a.s, .int .i64 a.i, .int .i64 a.g] 23)) (.slice (some ⟨w6.heap.size, 0, none⟩) 1 1) [a] := by
    have h := litR cNam w6 23 a
    unfold RdOf
    rw [rowsOf_one]
    exact h
  have CE := Lib.hid (ledEnd_nil _ _ [a] hv (by simp))
  clear hv
  refine CE.out.mono ?_
  rintro e w7 ⟨rfl, hk7⟩
  have K7 : Hid (Keeps No w w7) := Lib.hid ((K4.out.alloc _).trans hk7 (fun _ _ h => h))
  clear hk7 CE b3 b8
  go_wp2_with fail
  refine (ledBroken_nil w7).mono ?_
  rintro e w8 ⟨rfl, rfl⟩
  go_wp2_with fail
  refine (ledEpoch_nil w8).mono ?_
  rintro e w9 ⟨rfl, rfl⟩
  go_wp2_with fail
  refine (ledCmds_nil w9).mono ?_
  rintro e w10 ⟨rfl, rfl⟩
  go_wp2_with fail
  refine (ledWaiting_nil w10).mono ?_
  rintro e w11 ⟨rfl, rfl⟩
  go_wp2_with fail
  refine (ledAlive_nil w11).mono ?_
  rintro e w12 ⟨rfl, rfl⟩
  go_wp2_with fail
  refine (ledAwake_any (base := w.heap.size) (HL.out.kept K7.out (fun _ h => h.elim)) K7.out.size).mono ?_
  rintro e w13 ⟨rfl, hk13⟩
  have K13 := Lib.hid (K7.out.trans hk13 (fun _ _ h => h))
  clear hk13
  go_wp2
  go_ret
  exact ⟨rfl, K13.out⟩

end Go.Proofs.YtpbpgjfdledgoaaGreatDoor.ledgerNone

