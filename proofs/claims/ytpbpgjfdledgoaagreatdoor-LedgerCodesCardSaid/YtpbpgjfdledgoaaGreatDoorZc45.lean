/-
  A command and a name among a law's arguments (TjW's first part). No conditions of their own.
-/
import Derived.Test.YtpbpgjfdledgoaaGreatDoorZc42
import Derived.Test.YtpbpgjfdledgoaaGreatDoorZc44
namespace Go.Proofs.YtpbpgjfdledgoaaGreatDoor
open Go.ChangeShapes Go.WideShapes Go.ChangeAt Go.RowKit Go.Joins Go.Deep

section
variable {H : Type} {enc : TypeId × Value → H} {w : World} {base : Nat} {spare : Nat → Bool} {held : Bool} {n : Nat} {cs : List Value} {x : DataW H × List MemPlace}

theorem k1 : Tryz.prog.cellsOf 3 = 1 := by kernel_rfl
theorem kId : Tryz.prog.cellsOf 23 = 3 := by kernel_rfl
theorem kBd : Tryz.prog.cellsOf 25 = 11 := by kernel_rfl
theorem kCm : Tryz.prog.cellsOf 27 = 16 := by kernel_rfl
theorem wf_i64 {a : Int} (h : (Lit.int .i64 a).wf = true) : i64 a := by
  have h1 : decide ((-9223372036854775808 : Int) ≤ a) = true ∧ decide (a ≤ (9223372036854775807 : Int)) = true := by
    have h0 : (decide (IntKind.i64.min ≤ a) && decide (a ≤ IntKind.i64.max)) = true := h
    exact ⟨(Bool.and_eq_true_iff.1 h0).1, (Bool.and_eq_true_iff.1 h0).2⟩
  exact ⟨of_decide_eq_true h1.1, of_decide_eq_true h1.2⟩
theorem one_ok {y : DataW H × List MemPlace} {c : Value} (h : DataW.trod enc Tryz.prog w base spare held n 3 [c] = some y) : ∃ a, c = .int .i64 a ∧ i64 a := by
  obtain ⟨a, ha, _, hw⟩ := DataW.trod_int Tryz.underlying3 h
  exact ⟨a, by simpa using ha, wf_i64 hw⟩

set_option maxRecDepth 100000 in
theorem trodNam (h : DataW.trod enc Tryz.prog w base spare held n 23 cs = some x) : ∃ a : Nam, cs = namC a ∧ i64 a.s ∧ i64 a.i ∧ i64 a.g := by
  obtain ⟨y0, y1, y2, m, _, hl, h0, h1, h2⟩ := trod_struct3 Tryz.underlying23 h
  rw [kId] at hl
  match cs, hl with
  | [c0, c1, c2], _ =>
    simp only [k1] at h0 h1 h2
    obtain ⟨a0, rfl, w0⟩ := one_ok (c := c0) h0
    obtain ⟨a1, rfl, w1⟩ := one_ok (c := c1) h1
    obtain ⟨a2, rfl, w2⟩ := one_ok (c := c2) h2
    exact ⟨⟨a0, a1, a2⟩, rfl, w0, w1, w2⟩
set_option maxRecDepth 100000 in
theorem trodBd (h : DataW.trod enc Tryz.prog w base spare held n 25 cs = some x) : ∃ b : Bd, cs = bdC b ∧ b.ok := by
  obtain ⟨xs, m, _, _, hl, hxl, hf⟩ := DataW.trod_struct Tryz.underlying25 h
  rw [kBd] at hl
  match cs, hl with
  | [c0, c1, c2, c3, c4, c5, c6, c7, c8, c9, c10], _ =>
    match xs, hxl with
    | [x0, x1, x2, x3, x4, x5, x6, x7, x8], _ =>
      have h0 := hf 0 _ rfl
      have h1 := hf 1 _ rfl
      have h2 := hf 2 _ rfl
      have h3 := hf 3 _ rfl
      have h4 := hf 4 _ rfl
      have h5 := hf 5 _ rfl
      have h6 := hf 6 _ rfl
      have h7 := hf 7 _ rfl
      have h8 := hf 8 _ rfl
      simp [k1, kId] at h0 h1 h2 h3 h4 h5 h6 h7 h8
      obtain ⟨a, ha, z0, z1, z2⟩ := trodNam (cs := [c0, c1, c2]) h0
      simp only [namC, List.cons.injEq, and_true] at ha
      obtain ⟨rfl, rfl, rfl⟩ := ha
      obtain ⟨a1, rfl, z3⟩ := one_ok (c := c3) h1
      obtain ⟨a2, rfl, z4⟩ := one_ok (c := c4) h2
      obtain ⟨a3, rfl, z5⟩ := one_ok (c := c5) h3
      obtain ⟨a4, rfl, z6⟩ := one_ok (c := c6) h4
      obtain ⟨a5, rfl, z7⟩ := one_ok (c := c7) h5
      obtain ⟨a6, rfl, z8⟩ := one_ok (c := c8) h6
      obtain ⟨a7, rfl, z9⟩ := one_ok (c := c9) h7
      obtain ⟨a8, rfl, za⟩ := one_ok (c := c10) h8
      exact ⟨⟨a.s, a.i, a.g, a1, a2, a3, a4, a5, a6, a7, a8⟩, rfl, z0, z1, z2, z3, z4, z5, z6, z7, z8, z9, za⟩
set_option maxRecDepth 100000 in
theorem trodCm (h : DataW.trod enc Tryz.prog w base spare held n 27 cs = some x) : ∃ o : Cm, cs = cmC o ∧ o.ok := by
  obtain ⟨xs, m, _, _, hl, hxl, hf⟩ := DataW.trod_struct Tryz.underlying27 h
  rw [kCm] at hl
  match cs, hl with
  | [c0, c1, c2, c3, d0, d1, d2, d3, d4, d5, d6, d7, d8, d9, d10, c15], _ =>
    match xs, hxl with
    | [x0, x1, x2, x3], _ =>
      have h0 := hf 0 _ rfl
      have h1 := hf 1 _ rfl
      have h2 := hf 2 _ rfl
      have h3 := hf 3 _ rfl
      simp [k1, kId, kBd] at h0 h1 h2 h3
      obtain ⟨a0, rfl, z0⟩ := one_ok (c := c0) h0
      obtain ⟨a, ha, y0, y1, y2⟩ := trodNam (cs := [c1, c2, c3]) h1
      simp only [namC, List.cons.injEq, and_true] at ha
      obtain ⟨rfl, rfl, rfl⟩ := ha
      obtain ⟨b, hb, hbo⟩ := trodBd (cs := [d0, d1, d2, d3, d4, d5, d6, d7, d8, d9, d10]) h2
      simp only [bdC, List.cons.injEq, and_true] at hb
      obtain ⟨rfl, rfl, rfl, rfl, rfl, rfl, rfl, rfl, rfl, rfl, rfl⟩ := hb
      obtain ⟨a1, rfl, z1⟩ := one_ok (c := c15) h3
      exact ⟨⟨a0, a.s, a.i, a.g, b, a1⟩, rfl, z0, y0, y1, y2, hbo, z1⟩
end
end Go.Proofs.YtpbpgjfdledgoaaGreatDoor
