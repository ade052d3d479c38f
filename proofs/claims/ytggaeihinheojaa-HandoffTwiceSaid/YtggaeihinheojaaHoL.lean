/-
  Whatever the state, the sender and the message: HandoffHears returns true, and its arguments read behind the call as they read before. No conditions.
-/
import Derived.Test.YtggaeihinheojaaHoK
namespace Go.Proofs.Ytggaeihinheojaa
open Go.ChangeShapes Go.WideShapes Go.ChangeAt Go.RowKit Go.Joins Go.Deep

section
variable {H : Type} {enc : TypeId × Value → H} {w : World} {base : Nat} {spare : Nat → Bool} {held : Bool} {n : Nat} {cs : List Value} {x : DataW H × List MemPlace}
theorem kSt : Try.prog.cellsOf 28 = 8 := by kernel_rfl
theorem kMsg : Try.prog.cellsOf 31 = 6 := by kernel_rfl
theorem kS1 : Try.prog.cellsOf 22 = 1 := by kernel_rfl
theorem kS2 : Try.prog.cellsOf 23 = 1 := by kernel_rfl
theorem kS3 : Try.prog.cellsOf 24 = 1 := by kernel_rfl
theorem kS4 : Try.prog.cellsOf 25 = 1 := by kernel_rfl
theorem kS5 : Try.prog.cellsOf 26 = 1 := by kernel_rfl
theorem kS6 : Try.prog.cellsOf 29 = 1 := by kernel_rfl
/-- a state's slices, as they read -/
structure StReads (w : World) (own dead outs ins : Value) (lb : List Bd) (ld : List Idn) (lo : List Ou) (li : List Inn) : Prop where
  own : RdOf cBd w own lb
  dead : RdOf cId w dead ld
  outs : RdOf cOu w outs lo
  ins : RdOf cIn w ins li
theorem shape_slice {t e : TypeId} (ht : Try.prog.underlying t = some (.slice e)) {c : Value} (h : DataW.trod enc Try.prog w base spare held n t [c] = some x) : ∃ a m k, c = .slice a m k := by
  rcases DataW.trod_slice ht h with ⟨h, _⟩ | ⟨a, len, cap, _, _, _, _, h, _⟩
  · exact ⟨none, 0, 0, by simpa using h⟩
  · exact ⟨some a, len, cap, by simpa using h⟩
theorem one_rows {α : Type} {C : Codec α} {c : Value} (h : ∃ (v : Value) (l : List α), [c] = [v] ∧ RdOf C w v l) : ∃ l : List α, RdOf C w c l := by
  obtain ⟨v, l, hv, hr⟩ := h
  obtain rfl : c = v := by simpa using hv
  exact ⟨l, hr⟩
set_option maxRecDepth 100000 in
theorem trodSt (h : DataW.trod enc Try.prog w base spare held n 28 cs = some x) : ∃ (ep t nx : Int) (own dead outs ins : Value) (xg : Option Addr) (ng cg : Nat) (lb : List Bd) (ld : List Idn) (lo : List Ou) (li : List Inn),
    cs = [.int .i64 ep, .int .i64 t, own, dead, outs, ins, .slice xg ng cg, .int .i64 nx] ∧ StReads w own dead outs ins lb ld lo li := by
  obtain ⟨xs, m, _, _, hl, hxl, hf⟩ := DataW.trod_struct Try.underlying28 h
  rw [kSt] at hl
  match cs, hl with
  | [c0, c1, c2, c3, c4, c5, c6, c7], _ =>
    match xs, hxl with
    | [x0, x1, x2, x3, x4, x5, x6, x7], _ =>
      have h0 := hf 0 _ rfl
      have h1 := hf 1 _ rfl
      have h2 := hf 2 _ rfl
      have h3 := hf 3 _ rfl
      have h4 := hf 4 _ rfl
      have h5 := hf 5 _ rfl
      have h6 := hf 6 _ rfl
      have h7 := hf 7 _ rfl
      simp [k1, kS1, kS2, kS3, kS4, kS5] at h0 h1 h2 h3 h4 h5 h6 h7
      obtain ⟨a0, rfl⟩ := one_field (c := c0) h0
      obtain ⟨a1, rfl⟩ := one_field (c := c1) h1
      obtain ⟨a7, rfl⟩ := one_field (c := c7) h7
      obtain ⟨lb, hb⟩ := one_rows (trodRows cBd Bd.zero Try.underlying22 kBd (fun h => trodBd h) h2)
      obtain ⟨ld, hd⟩ := one_rows (trodRows cId ⟨0, 0, 0⟩ Try.underlying23 kId (fun h => trodId h) h3)
      obtain ⟨lo, ho⟩ := one_rows (trodRows cOu ⟨0, 0, 0, Bd.zero⟩ Try.underlying24 kOu (fun h => trodOu h) h4)
      obtain ⟨li, hi⟩ := one_rows (trodRows cIn ⟨0, 0, Bd.zero⟩ Try.underlying25 kIn (fun h => trodIn h) h5)
      obtain ⟨xg, ng, cg, rfl⟩ := shape_slice Try.underlying26 h6
      exact ⟨a0, a1, a7, c2, c3, c4, c5, xg, ng, cg, lb, ld, lo, li, rfl, ⟨hb, hd, ho, hi⟩⟩
set_option maxRecDepth 100000 in
theorem trodMsg (h : DataW.trod enc Try.prog w base spare held n 31 cs = some x) : ∃ (k t m : Int) (cm bv ids : Value) (lb : List Bd), cs = [.int .i64 k, .int .i64 t, .int .i64 m, cm, bv, ids] ∧ RdOf cBd w bv lb := by
  obtain ⟨xs, m, _, _, hl, hxl, hf⟩ := DataW.trod_struct Try.underlying31 h
  rw [kMsg] at hl
  match cs, hl with
  | [c0, c1, c2, c3, c4, c5], _ =>
    match xs, hxl with
    | [x0, x1, x2, x3, x4, x5], _ =>
      have h0 := hf 0 _ rfl
      have h1 := hf 1 _ rfl
      have h2 := hf 2 _ rfl
      have h4 := hf 4 _ rfl
      simp [k1, kS1] at h0 h1 h2 h4
      obtain ⟨a0, rfl⟩ := one_field (c := c0) h0
      obtain ⟨a1, rfl⟩ := one_field (c := c1) h1
      obtain ⟨a2, rfl⟩ := one_field (c := c2) h2
      obtain ⟨lb, hb⟩ := one_rows (trodRows cBd Bd.zero Try.underlying22 kBd (fun h => trodBd h) h4)
      exact ⟨a0, a1, a2, c3, c4, c5, lb, rfl, hb⟩
end
set_option maxRecDepth 100000 in
theorem open_st {H : Type} {enc : TypeId × Value → H} {W : World} {base : Nat} {v : Value} {d : DataW H} {ps : List MemPlace}
    (hv : Value.okWide Try.prog W .any base 28 v) (h : DataW.Trod enc Try.prog W 0 (fun _ => true) true 28 v d ps) : ∃ (ep t nx : Int) (own dead outs ins : Value) (xg : Option Addr) (ng cg : Nat) (lb : List Bd) (ld : List Idn) (lo : List Ou) (li : List Inn),
    v = stV ep t own dead outs ins (.slice xg ng cg) nx ∧ StReads W own dead outs ins lb ld lo li := by
  obtain ⟨cs, rfl, _⟩ := okWide_struct Try.underlying28 hv
  obtain ⟨n, hn⟩ := h
  obtain ⟨ep, t, nx, own, dead, outs, ins, xg, ng, cg, lb, ld, lo, li, hc, hr⟩ := trodSt hn
  refine ⟨ep, t, nx, own, dead, outs, ins, xg, ng, cg, lb, ld, lo, li, ?_, hr⟩
  have : cs = [Value.int .i64 ep, .int .i64 t, own, dead, outs, ins, .slice xg ng cg, .int .i64 nx].toArray := by simp [Value.cells] at hc; rw [← hc]
  rw [this]
set_option maxRecDepth 100000 in
theorem open_msg {H : Type} {enc : TypeId × Value → H} {W : World} {base : Nat} {v : Value} {d : DataW H} {ps : List MemPlace}
    (hv : Value.okWide Try.prog W .any base 31 v) (h : DataW.Trod enc Try.prog W 0 (fun _ => true) true 31 v d ps) : ∃ (k t m : Int) (cm bv ids : Value) (lb : List Bd), v = msgIn k t m cm bv ids ∧ RdOf cBd W bv lb := by
  obtain ⟨cs, rfl, _⟩ := okWide_struct Try.underlying31 hv
  obtain ⟨n, hn⟩ := h
  obtain ⟨k, t, m, cm, bv, ids, lb, hc, hr⟩ := trodMsg hn
  refine ⟨k, t, m, cm, bv, ids, lb, ?_, hr⟩
  have : cs = [Value.int .i64 k, .int .i64 t, .int .i64 m, cm, bv, ids].toArray := by simp [Value.cells] at hc; rw [← hc]
  rw [this]
end Go.Proofs.Ytggaeihinheojaa

namespace Go.Proofs.Ytggaeihinheojaa.handoffHears
open Go.ChangeShapes Go.WideShapes Go.ChangeAt Go.RowKit

set_option maxRecDepth 100000 in
set_option maxHeartbeats 4000000 in
theorem walk {ep t nx : Int} {own dead outs ins : Value} {xg : Option Addr} {ng cg : Nat} {lb : List Bd} {ld : List Idn} {lo : List Ou} {li : List Inn} (w : World) (hs : StReads w own dead outs ins lb ld lo li) (fr mk tt mn : Int) {cm bv ids : Value} {lm : List Bd} (hm : RdOf cBd w bv lm) :
    Calls Try.prog 3 #[stV ep t own dead outs ins (.slice xg ng cg) nx, .int .i64 fr, msgIn mk tt mn cm bv ids] w fun e w' => e = .returned (.bool true) ∧ Keeps No w w' := by
  obtain ⟨a1, k1', rfl⟩ := hs.own.slice
  obtain ⟨a2, k2, rfl⟩ := hs.dead.slice
  obtain ⟨a3, k3, rfl⟩ := hs.outs.slice
  obtain ⟨a4, k4, rfl⟩ := hs.ins.slice
  obtain ⟨a5, k5, rfl⟩ := hm.slice
  go_enter Try.func3, Try.ntmps3
  go_wp2_with fail
  refine (small_any ep t nx a1 a3 a4 a2 xg lb.length lo.length li.length ld.length ng k1' k3 k4 k2 cg _).mono ?_
  rintro e w1 ⟨rfl, hk1⟩
  have s1 : cellsAt w1 w.heap.size 0 8 = some [.int .i64 ep, .int .i64 t, .slice a1 lb.length k1', .slice a2 ld.length k2, .slice a3 lo.length k3, .slice a4 li.length k4, .slice xg ng cg, .int .i64 nx] := hk1.cellsAt (by simp [go_sem])
  have m1 : cellsAt w1 (w.heap.size + 1) 0 6 = some [.int .i64 mk, .int .i64 tt, .int .i64 mn, cm, .slice a5 lm.length k5, ids] := hk1.cellsAt (by simp [go_sem])
  have b1 : w1.cell? ⟨w.heap.size + 1, 4, none⟩ = some (.slice a5 lm.length k5) := cellsAt_cell m1 4 _ rfl
  have K1 : Hid (Keeps No w w1) := (((Keeps.refl _).alloc _).alloc _).trans hk1 (fun _ _ h => h)
  have hz := hk1.size
  simp only [World.size_alloc] at hz
  have l1 : w.heap.size < w1.heap.size := by omega
  have l2 : w.heap.size + 1 < w1.heap.size := by omega
  clear hk1 hz
  cases hsm : smallB lb.length lo.length li.length ld.length ng
  · go_wp2_with fail
    refine (awake_any w1).mono ?_
    rintro e w2 ⟨rfl, hk2⟩
    have hfin : Hid (Keeps No w w2) := K1.out.trans hk2 (fun _ _ h => h)
    clear hk2
    go_wp2
    go_ret
    exact ⟨rfl, hfin.out⟩
  · cases h9 : decide ((9 : Int) < (lm.length : Int))
    · obtain ⟨k, n, f, b, ak, an, hp⟩ := hear_pair (w := w1) (ep := ep) (t := t) (nx := nx) (tt := tt) (own := .slice a1 lb.length k1') (dead := .slice a2 ld.length k2) (gh := .slice xg ng cg) (cm := cm) (ids := ids) (hs.outs.kept K1.out (fun _ _ h => h)) (hs.ins.kept K1.out (fun _ _ h => h)) (hm.kept K1.out (fun _ _ h => h)) fr mk mn
      have Hp := Lib.hid hp
      clear hp
      go_wp2_with fail
      refine Hp.out.1.mono ?_
      rintro e w2 ⟨rfl, hk2⟩
      have s2 := hk2.cellsAt s1
      have m2 := hk2.cellsAt m1
      have hz := hk2.size
      have l3 : w.heap.size < w2.heap.size := by omega
      have l4 : w.heap.size + 1 < w2.heap.size := by omega
      have Hk2 := Lib.hid hk2
      clear hk2 hz s1 m1 b1 l1 l2
      go_wp2_with fail
      refine (Hp.out.2 _ ((Hk2.out.alloc _).alloc _)).mono ?_
      rintro e w3 ⟨rfl, hk3⟩
      have r3 : cellsAt w3 w2.heap.size 0 24 = some [.int .i64 k, .int .i64 n, .int .i64 f, .slice none 0 0, .int .i64 b.s, .int .i64 b.i, .int .i64 b.g, .int .i64 b.m, .int .i64 b.x, .int .i64 b.y, .int .i64 b.vx, .int .i64 b.vy, .int .i64 b.hp, .int .i64 b.pw, .int .i64 b.lf, .slice none 0 0, .int .i64 0, .int .i64 0, .slice none 0 0, .slice none 0 0, .slice none 0 0, .slice none 0 0, .slice none 0 0, .int .i64 0] := hk3.cellsAt (by simp [go_sem])
      have x3 : cellsAt w3 (w2.heap.size + 1) 0 6 = some [.int .i64 ak, .int .i64 0, .int .i64 an, .slice none 0 0, .slice none 0 0, .slice none 0 0] := hk3.cellsAt (by simp [go_sem])
      have hz := hk3.size
      simp only [World.size_alloc] at hz
      have l5 : w2.heap.size < w3.heap.size := by omega
      have l6 : w2.heap.size + 1 < w3.heap.size := by omega
      have K3 : Hid (Keeps No w w3) := K1.out.trans (((Hk2.out.alloc _).alloc _).trans hk3 (fun _ _ h => h)) (fun _ _ h => h)
      clear hk3 hz s2 m2 l3 l4 Hp Hk2
      go_wp2_with fail
      refine (same_any k n f b _).mono ?_
      rintro e w4 ⟨rfl, hk4⟩
      have r4 : w4.cell? ⟨w3.heap.size, 0, none⟩ = some (.int .i64 k) := hk4.cell (by simp [go_sem]) (fun h => h)
      have y4 : cellsAt w4 (w3.heap.size + 1) 0 6 = some [.int .i64 ak, .int .i64 0, .int .i64 an, .slice none 0 0, .slice none 0 0, .slice none 0 0] := hk4.cellsAt (by simp [go_sem])
      have x4 : cellsAt w4 (w2.heap.size + 1) 0 6 = some [.int .i64 ak, .int .i64 0, .int .i64 an, .slice none 0 0, .slice none 0 0, .slice none 0 0] := (((Keeps.refl (S := No) w3).alloc _).alloc _).trans hk4 (fun _ _ h => h) |>.cellsAt x3
      have K4 : Hid (Keeps No w w4) := ((K3.out.alloc _).alloc _).trans hk4 (fun _ _ h => h)
      clear hk4 x3 r3 l5 l6
      go_wp2_with fail
      refine (sameMsg0 ak an _).mono ?_
      rintro e w5 ⟨rfl, hk5⟩
      have y5 : w5.cell? ⟨w3.heap.size + 1, 0, none⟩ = some (.int .i64 ak) := hk5.cell (cellsAt_cell y4 0 _ rfl) (fun h => h)
      have K5 : Hid (Keeps No w w5) := K4.out.trans hk5 (fun _ _ h => h)
      clear hk5 y4 x4 r4
      go_wp2_with fail
      refine (awake_any w5).mono ?_
      rintro e w6 ⟨rfl, hk6⟩
      have hfin : Hid (Keeps No w w6) := K5.out.trans hk6 (fun _ _ h => h)
      clear hk6
      go_wp2
      go_ret
      exact ⟨rfl, hfin.out⟩
    · go_wp2_with fail
      refine (awake_any w1).mono ?_
      rintro e w2 ⟨rfl, hk2⟩
      have hfin : Hid (Keeps No w w2) := K1.out.trans hk2 (fun _ _ h => h)
      clear hk2
      go_wp2
      go_ret
      exact ⟨rfl, hfin.out⟩

set_option maxRecDepth 100000 in
theorem lifted (os : Os) (started : os.Started) (H : Type) (enc : TypeId × Value → H) :
    ReturnsInHanded {} Try.checked os 3 .any (Rows.handoffHearsSpec.pre6 enc Try.prog Try.f3 Rows.handoffHearsRow.domain false) (Rows.handoffHearsSpec.post enc Try.prog Try.f3 false true false false) := by
  refine law_lifted os started H enc (by kernel_rfl) Try.func3
    (ChangeSpec.witness6 (enc := enc) (C := Try.checked) false ⟨#[], #[.agg #[.int .i64 0, .int .i64 0, .slice none 0 0, .slice none 0 0, .slice none 0 0, .slice none 0 0, .slice none 0 0, .int .i64 0], .int .i64 0, .agg #[.int .i64 0, .int .i64 0, .int .i64 0, .slice none 0 0, .slice none 0 0, .slice none 0 0]], []⟩ 8 (by kernel_rfl) (by kernel_rfl) (by kernel_rfl) (by kernel_rfl))
    (by decide +kernel) rfl Try.underlying4 rfl (fun ds h => by match ds, h with | [d1, d2, d3], _ => rfl) ?_
  intro W base args ds p hval hA
  rw [Try.params3] at hA hval
  obtain ⟨v0, v1, v2, d0, d1, d2, p0, p1, p2, rfl, rfl, rfl, h0, h1, h2⟩ := trodAll_three hA
  obtain ⟨ep, t, nx, own, dead, outs, ins, xg, ng, cg, lb, ld, lo, li, rfl, hs⟩ := open_st (hval 0 28 v0 rfl rfl) h0
  obtain ⟨n, rfl, rfl, rfl, wn⟩ := open_int Try.underlying3 (hval 1 3 v1 rfl rfl) h1
  obtain ⟨k, tt, m, cm, bv, ids, lm, rfl, hm⟩ := open_msg (hval 2 31 v2 rfl rfl) h2
  exact walk W hs n k tt m hm

theorem holds : Rows.HandoffHearsSaid :=
  OpenClaim.holds_of_wide 3 Try.f3 rfl rfl rfl rfl rfl rfl rfl ⟨rfl, rfl, rfl, rfl, rfl⟩ rfl rfl rfl rfl rfl (by kernel_rfl) Try.func3 (by kernel_rfl)
    (of_decide_eq_true (by kernel_rfl)) (by unfold Func.isWrapper; first | (rw [if_pos (by decide +kernel)]; kernel_rfl) | (rw [if_neg (by decide +kernel)]; exact ⟨rfl, rfl⟩))
    (fun os started H enc _ => lifted os started H enc)

end Go.Proofs.Ytggaeihinheojaa.handoffHears
