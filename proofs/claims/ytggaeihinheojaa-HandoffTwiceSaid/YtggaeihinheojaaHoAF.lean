/-
  Whatever the state, the sender and the message: HandoffTwice returns true, and its arguments read behind the call as they read before. No conditions.
-/
import Derived.Test.YtggaeihinheojaaHoAE
namespace Go.Proofs.Ytggaeihinheojaa.handoffTwice
open Go.ChangeShapes Go.WideShapes Go.ChangeAt Go.RowKit

theorem small_lens {a b c d e : Nat} (h : smallB a b c d e = true) : a ≤ 1000 ∧ b ≤ 1000 ∧ c ≤ 1000 := by
  unfold smallB at h
  simp at h
  omega

set_option maxRecDepth 100000 in
set_option maxHeartbeats 4000000 in
theorem walk {ep t nx : Int} {own dead outs ins : Value} {xg : Option Addr} {ng cg : Nat} {lb : List Bd} {ld : List Idn} {lo : List Ou} {li : List Inn} (w : World) (hs : StReads w own dead outs ins lb ld lo li) (fr mk tt mn : Int) {cm bv ids : Value} {lm : List Bd} (hm : RdOf cBd w bv lm) :
    Calls Try.prog 4 #[stV ep t own dead outs ins (.slice xg ng cg) nx, .int .i64 fr, msgIn mk tt mn cm bv ids] w fun e w' => e = .returned (.bool true) ∧ Keeps No w w' := by
  obtain ⟨a1, k1', rfl⟩ := hs.own.slice
  obtain ⟨a2, k2, rfl⟩ := hs.dead.slice
  obtain ⟨a3, k3, rfl⟩ := hs.outs.slice
  obtain ⟨a4, k4, rfl⟩ := hs.ins.slice
  obtain ⟨a5, k5, rfl⟩ := hm.slice
  go_enter Try.func4, Try.ntmps4
  go_wp2_with fail
  refine (small_any ep t nx a1 a3 a4 a2 xg lb.length lo.length li.length ld.length ng k1' k3 k4 k2 cg _).mono ?_
  rintro e w1 ⟨rfl, hk1⟩
  have s1 : cellsAt w1 w.heap.size 0 8 = some [.int .i64 ep, .int .i64 t, .slice a1 lb.length k1', .slice a2 ld.length k2, .slice a3 lo.length k3, .slice a4 li.length k4, .slice xg ng cg, .int .i64 nx] := hk1.cellsAt (by simp [go_sem])
  have m1 : cellsAt w1 (w.heap.size + 1) 0 6 = some [.int .i64 mk, .int .i64 tt, .int .i64 mn, cm, .slice a5 lm.length k5, ids] := hk1.cellsAt (by simp [go_sem])
  have b1 : w1.cell? ⟨w.heap.size + 1, 4, none⟩ = some (.slice a5 lm.length k5) := cellsAt_cell m1 4 _ rfl
  have K1 : Hid (Keeps No w w1) := (((Keeps.refl _).alloc _).alloc _).trans hk1 (fun _ _ h => h)
  have hz := hk1.size
  simp only [World.size_alloc] at hz
  have l1 : w.heap.size < w1.heap.size := by omega
  have l2 : w.heap.size + 1 < w1.heap.size := by omega
  clear hk1 hz
  cases hsm : smallB lb.length lo.length li.length ld.length ng
  · go_wp2_with fail
    refine (awake_any w1).mono ?_
    rintro e w2 ⟨rfl, hk2⟩
    have hfin : Hid (Keeps No w w2) := K1.out.trans hk2 (fun _ _ h => h)
    clear hk2
    go_wp2
    go_ret
    exact ⟨rfl, hfin.out⟩
  · cases h9 : decide ((9 : Int) < (lm.length : Int))
    · obtain ⟨y1, y2, y3⟩ := small_lens hsm
      obtain ⟨k, n, f, b, ak, an, hH, hc⟩ := twice_any (w := w1) (ep := ep) (t := t) (nx := nx) (tt := tt) (own := .slice a1 lb.length k1') (dead := .slice a2 ld.length k2) (gh := .slice xg ng cg) (cm := cm) (ids := ids) (hs.own.kept K1.out (fun _ _ h => h)) (hs.outs.kept K1.out (fun _ _ h => h)) (hs.ins.kept K1.out (fun _ _ h => h)) (hm.kept K1.out (fun _ _ h => h)) y1 y2 y3 rfl rfl rfl fr mk mn
      have HH := Lib.hid hH
      have Hc := Lib.hid hc
      clear hH hc y1 y2 y3
      go_wp2_with fail
      refine (HH.out w1 (Keeps.refl _)).mono ?_
      rintro e w2 ⟨rfl, hk2⟩
      have s2 := hk2.cellsAt s1
      have m2 := hk2.cellsAt m1
      have hz := hk2.size
      have l3 : w.heap.size < w2.heap.size := by omega
      have l4 : w.heap.size + 1 < w2.heap.size := by omega
      have Hk2 := Lib.hid hk2
      have K2 : Hid (Keeps No w w2) := K1.out.trans hk2 (fun _ _ h => h)
      clear hk2 hz s1 m1 b1 l1 l2 HH
      rcases Hc.out with hfalse | ⟨htrue, hF⟩
      · rw [hfalse]
        clear hfalse Hc
        go_wp2_with fail
        refine (awake_any _).mono ?_
        rintro e w3 ⟨rfl, hk3⟩
        have hfin : Hid (Keeps No w w3) := ((K2.out.alloc _).alloc _).trans hk3 (fun _ _ h => h)
        clear hk3
        go_wp2
        go_ret
        exact ⟨rfl, hfin.out⟩
      rw [htrue]
      have HF := Lib.hid hF
      clear htrue hF Hc
      obtain ⟨A, hA⟩ : ∃ A, A = decide (0 < ak) := ⟨_, rfl⟩
      rw [← hA]
      have HA := Lib.hid hA
      clear hA
      go_wp2_with fail
      refine (HF.out _ ((Hk2.out.alloc _).alloc _)).mono ?_
      rintro e w3 ⟨hk3, hcase⟩
      have m3 := ((((Keeps.refl (S := No) w2).alloc _).alloc _).trans hk3 (fun _ _ h => h)).cellsAt m2
      have r3 : w3.cell? ⟨w2.heap.size, 0, none⟩ = some (.int .i64 k) := hk3.cell (by simp [go_sem]) (fun h => h)
      have x3 : cellsAt w3 (w2.heap.size + 1) 0 6 = some [.int .i64 ak, .int .i64 0, .int .i64 an, .slice none 0 0, .slice none 0 0, .slice none 0 0] := hk3.cellsAt (by simp [go_sem])
      have hz := hk3.size
      simp only [World.size_alloc] at hz
      have l5 : w2.heap.size < w3.heap.size := by omega
      have l6 : w2.heap.size + 1 < w3.heap.size := by omega
      have l7 : w.heap.size + 1 < w3.heap.size := by omega
      have K3 : Hid (Keeps No w w3) := ((K2.out.alloc _).alloc _).trans hk3 (fun _ _ h => h)
      clear hk3 hz s2 m2 l3 l4 Hk2 K2 HF
      rcases hcase with ⟨rfl, rfl⟩ | ⟨ow, vo, vi, lw', lo', li', rfl, hw', ho', hi', k', n', f', b', c2, n2, hH2, g7, g9⟩
      · go_wp2_with fail
        refine (awake_any _).mono ?_
        rintro e w4 ⟨rfl, hk4⟩
        have hfin : Hid (Keeps No w w4) := (K3.out.alloc _).trans hk4 (fun _ _ h => h)
        clear hk4
        go_wp2
        go_ret
        exact ⟨rfl, hfin.out⟩
      obtain ⟨z1, zk1, rfl⟩ := hw'.slice
      obtain ⟨z2, zk2, rfl⟩ := ho'.slice
      obtain ⟨z3, zk3, rfl⟩ := hi'.slice
      have HH2 := Lib.hid hH2
      have G7 := Lib.hid g7
      have G9 := Lib.hid g9
      have Hi' := Lib.hid hi'
      clear hH2 g7 g9 hw' ho' hi'
      go_wp2_with fail
      refine (HH2.out _ ((Keeps.refl _).alloc _)).mono ?_
      rintro e w4 ⟨rfl, hk4⟩
      have m4 := (((Keeps.refl (S := No) w3).alloc _).trans hk4 (fun _ _ h => h)).cellsAt m3
      have x4 := (((Keeps.refl (S := No) w3).alloc _).trans hk4 (fun _ _ h => h)).cellsAt x3
      have t4 : cellsAt w4 w3.heap.size 0 8 = some [.int .i64 ep, .int .i64 t, .slice z1 lw'.length zk1, .slice a2 ld.length k2, .slice z2 lo'.length zk2, .slice z3 li'.length zk3, .slice xg ng cg, .int .i64 nx] := hk4.cellsAt (by simp [go_sem])
      have kk0 : w4.cell? ⟨w.heap.size + 1, 0, none⟩ = some (.int .i64 mk) := cellsAt_cell m4 0 _ rfl
      have kk2 : w4.cell? ⟨w.heap.size + 1, 2, none⟩ = some (.int .i64 mn) := cellsAt_cell m4 2 _ rfl
      have hz := hk4.size
      simp only [World.size_alloc] at hz
      have l8 : w.heap.size + 1 < w4.heap.size := by omega
      have l9 : w2.heap.size + 1 < w4.heap.size := by omega
      have l10 : w3.heap.size < w4.heap.size := by omega
      have l8b : w.heap.size < w4.heap.size := by omega
      have l9b : w2.heap.size < w4.heap.size := by omega
      have l8c : w.heap.size + 1 < w4.heap.size + 1 := by omega
      have l9c : w2.heap.size + 1 < w4.heap.size + 1 := by omega
      have l10c : w3.heap.size < w4.heap.size + 1 := by omega
      have K4 : Hid (Keeps No w w4) := (K3.out.alloc _).trans hk4 (fun _ _ h => h)
      have K34 : Hid (Keeps No w3 w4) := ((Keeps.refl (S := No) w3).alloc _).trans hk4 (fun _ _ h => h)
      clear hk4 hz m3 x3 r3 l5 l6 l7 K3 HH2 m4
      by_cases h7 : mk = 7
      · obtain ⟨e1, rfl, rfl, e2⟩ := G7.out h7
        subst h7
        obtain rfl : A = true := by rw [HA.out, e2]
        rw [e1, e2]
        clear e1 e2 G7 G9 HA
        go_wp2_with fail
        refine (sameMsg0 _ _ _).mono ?_
        rintro e w5 ⟨rfl, hk5⟩
        have K5 : Hid (Keeps No w w5) := ((K4.out.alloc _).alloc _).trans hk5 (fun _ _ h => h)
        clear hk5
        go_wp2_with fail
        refine (awake_any _).mono ?_
        rintro e w6 ⟨rfl, hk6⟩
        have hfin : Hid (Keeps No w w6) := K5.out.trans hk6 (fun _ _ h => h)
        clear hk6
        go_wp2
        go_ret
        exact ⟨rfl, hfin.out⟩
      by_cases h9m : mk = 9
      · obtain ⟨rfl, rfl, e2, e3⟩ := G9.out h9m
        subst h9m
        obtain rfl : A = true := by rw [HA.out, e2]
        rw [e3, e2]
        clear e2 e3 G7 G9 HA h7
        rcases firstOf_cases (isIn fr mn) li' with ⟨hi, _⟩ | ⟨j, hi, _⟩
        all_goals
          have hd0 : decide ((0 : Int) ≤ firstOf (isIn fr mn) li') = decide ((0 : Int) ≤ firstOf (isIn fr mn) li') := rfl
          rw [hi] at hd0
          have Hi0 := Lib.hid hi
          clear hd0
          rw [hi]
          clear hi
          have hj0 : ∀ j : Nat, decide ((0 : Int) ≤ (j : Int)) = true := fun j => decide_eq_true (by omega)
          try rw [hj0 j]
          try rw [show decide ((0 : Int) ≤ -1) = false from rfl]
          go_wp2_with fail
          refine (rin_any (Hi'.out.kept ((K34.out.alloc _).alloc _) (fun _ _ h => h)) fr mn).mono ?_
          rintro e w5 ⟨rfl, hk5⟩
          rw [Hi0.out]
          have x5 := (((Keeps.refl (S := No) w4).alloc _).alloc _).trans hk5 (fun _ _ h => h) |>.cellsAt x4
          have y5 : cellsAt w5 (w4.heap.size + 1) 0 6 = some [.int .i64 c2, .int .i64 0, .int .i64 n2, .slice none 0 0, .slice none 0 0, .slice none 0 0] := hk5.cellsAt (by simp [go_sem])
          have K5 : Hid (Keeps No w w5) := ((K4.out.alloc _).alloc _).trans hk5 (fun _ _ h => h)
          clear hk5 x4 t4 kk0 kk2
          go_wp2_with fail
          refine (sameMsg0 _ _ _).mono ?_
          rintro e w6 ⟨rfl, hk6⟩
          have K6 : Hid (Keeps No w w6) := K5.out.trans hk6 (fun _ _ h => h)
          clear hk6
          go_wp2_with fail
          refine (awake_any _).mono ?_
          rintro e w7 ⟨rfl, hk7⟩
          have hfin : Hid (Keeps No w w7) := K6.out.trans hk7 (fun _ _ h => h)
          clear hk7
          go_wp2
          go_ret
          exact ⟨rfl, hfin.out⟩
      have e7 : (mk == 7) = false := by simpa using h7
      have e9 : (mk == 9) = false := by simpa using h9m
      clear h7 h9m G7 G9 HA
      go_wp2_with fail
      refine (awake_any _).mono ?_
      rintro e w5 ⟨rfl, hk5⟩
      have hfin : Hid (Keeps No w w5) := ((K4.out.alloc _).alloc _).trans hk5 (fun _ _ h => h)
      clear hk5
      go_wp2
      go_ret
      exact ⟨rfl, hfin.out⟩
    · go_wp2_with fail
      refine (awake_any w1).mono ?_
      rintro e w2 ⟨rfl, hk2⟩
      have hfin : Hid (Keeps No w w2) := K1.out.trans hk2 (fun _ _ h => h)
      clear hk2
      go_wp2
      go_ret
      exact ⟨rfl, hfin.out⟩

set_option maxRecDepth 100000 in
theorem lifted (os : Os) (started : os.Started) (H : Type) (enc : TypeId × Value → H) :
    ReturnsInHanded {} Try.checked os 4 .any (Rows.handoffTwiceSpec.pre6 enc Try.prog Try.f4 Rows.handoffTwiceRow.domain false) (Rows.handoffTwiceSpec.post enc Try.prog Try.f4 false true false false) := by
  refine law_lifted os started H enc (by kernel_rfl) Try.func4
    (ChangeSpec.witness6 (enc := enc) (C := Try.checked) false ⟨#[], #[.agg #[.int .i64 0, .int .i64 0, .slice none 0 0, .slice none 0 0, .slice none 0 0, .slice none 0 0, .slice none 0 0, .int .i64 0], .int .i64 0, .agg #[.int .i64 0, .int .i64 0, .int .i64 0, .slice none 0 0, .slice none 0 0, .slice none 0 0]], []⟩ 8 (by kernel_rfl) (by kernel_rfl) (by kernel_rfl) (by kernel_rfl))
    (by decide +kernel) rfl Try.underlying4 rfl (fun ds h => by match ds, h with | [d1, d2, d3], _ => rfl) ?_
  intro W base args ds p hval hA
  rw [Try.params4] at hA hval
  obtain ⟨v0, v1, v2, d0, d1, d2, p0, p1, p2, rfl, rfl, rfl, h0, h1, h2⟩ := trodAll_three hA
  obtain ⟨ep, t, nx, own, dead, outs, ins, xg, ng, cg, lb, ld, lo, li, rfl, hs⟩ := open_st (hval 0 28 v0 rfl rfl) h0
  obtain ⟨n, rfl, rfl, rfl, wn⟩ := open_int Try.underlying3 (hval 1 3 v1 rfl rfl) h1
  obtain ⟨k, tt, m, cm, bv, ids, lm, rfl, hm⟩ := open_msg (hval 2 31 v2 rfl rfl) h2
  exact walk W hs n k tt m hm

theorem holds : Rows.HandoffTwiceSaid :=
  OpenClaim.holds_of_wide 4 Try.f4 rfl rfl rfl rfl rfl rfl rfl ⟨rfl, rfl, rfl, rfl, rfl⟩ rfl rfl rfl rfl rfl (by kernel_rfl) Try.func4 (by kernel_rfl)
    (of_decide_eq_true (by kernel_rfl)) (by unfold Func.isWrapper; first | (rw [if_pos (by decide +kernel)]; kernel_rfl) | (rw [if_neg (by decide +kernel)]; exact ⟨rfl, rfl⟩))
    (fun os started H enc _ => lifted os started H enc)

end Go.Proofs.Ytggaeihinheojaa.handoffTwice
