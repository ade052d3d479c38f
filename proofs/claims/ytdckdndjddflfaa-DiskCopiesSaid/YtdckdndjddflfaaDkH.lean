/-
  disk.Copy of no disk; deeds among a law's arguments. No conditions of its own.
-/
import Derived.Test.YtdckdndjddflfaaDkG
import Derived.Test.YtdckdndjddflfaaLaw
import Derived.Deep.Strs
namespace Go.Proofs.Ytdckdndjddflfaa
open Go.ChangeShapes Go.WideShapes Go.ChangeAt Go.RowKit Go.Joins Go.Deep

theorem copy_nil (w : World) : Calls Try.prog 30 #[.pointer none] w fun e w' => e = .returned (dP (w.heap.size + 1)) ∧ DiskAt w' (w.heap.size + 1) w.heap.size [] 4611686018427387904 false ∧ Keeps No w w' := by
  go_enter Try.func30, Try.ntmps30
  go_wp2_with fail
  refine (new_any w).mono ?_
  rintro e w1 ⟨rfl, hq, hk1⟩
  have Q1 := Lib.hid hq
  have K1 := Lib.hid hk1
  clear hq hk1
  go_wp2_with fail
  refine (files_nil _).mono ?_
  rintro e w2 ⟨rfl, rfl⟩
  go_wp2
  go_loopw [26] (fun q wr => q = .int .i64 0 ∧ wr = w2) (fun _ _ => 0)
  case atStart => exact ⟨rfl, rfl⟩
  case round =>
    obtain ⟨rfl, rfl⟩ := hrel
    go_wp2
    go_ret
    exact ⟨rfl, Q1.out, K1.out⟩

/-- a deed -/
structure Deed where
  k : Int
  n : Int
  name : ByteArray
  to : ByteArray
  s : ByteArray
def dC (d : Deed) : List Value := [.int .i64 d.k, .int .i64 d.n, .string d.name, .string d.to, .string d.s]
structure DeedWf (d : Deed) : Prop where
  k : (Lit.int .i64 d.k).wf = true
  n : (Lit.int .i64 d.n).wf = true
  name : d.name.size ≤ maxLen
  to : d.to.size ≤ maxLen
  s : d.s.size ≤ maxLen
theorem kDeed : Try.prog.cellsOf 46 = 5 := by kernel_rfl
theorem kInt1 : Try.prog.cellsOf 3 = 1 := by kernel_rfl
theorem kStr1 : Try.prog.cellsOf 9 = 1 := by kernel_rfl
set_option maxRecDepth 100000 in
theorem trodDeed {H : Type} {enc : TypeId × Value → H} {w : World} {base : Nat} {spare : Nat → Bool} {held : Bool} {n : Nat} {cs : List Value} {x : DataW H × List MemPlace}
    (h : DataW.trod enc Try.prog w base spare held n 46 cs = some x) : ∃ d : Deed, cs = dC d ∧ DeedWf d := by
  obtain ⟨xs, m, _, _, hl, hxl, hf⟩ := DataW.trod_struct Try.underlying46 h
  rw [kDeed] at hl
  match cs, hl with
  | [c0, c1, c2, c3, c4], _ =>
    match xs, hxl with
    | [x0, x1, x2, x3, x4], _ =>
      have h0 := hf 0 _ rfl
      have h1 := hf 1 _ rfl
      have h2 := hf 2 _ rfl
      have h3 := hf 3 _ rfl
      have h4 := hf 4 _ rfl
      simp [kInt1, kStr1] at h0 h1 h2 h3 h4
      obtain ⟨a0, e0, _, w0⟩ := DataW.trod_int Try.underlying3 h0
      obtain ⟨a1, e1, _, w1⟩ := DataW.trod_int Try.underlying3 h1
      obtain ⟨s2, e2, _, w2⟩ := DataW.trod_string Try.underlying9 h2
      obtain ⟨s3, e3, _, w3⟩ := DataW.trod_string Try.underlying9 h3
      obtain ⟨s4, e4, _, w4⟩ := DataW.trod_string Try.underlying9 h4
      simp at e0 e1 e2 e3 e4
      subst e0 e1 e2 e3 e4
      exact ⟨⟨a0, a1, s2, s3, s4⟩, rfl, ⟨w0, w1, w2, w3, w4⟩⟩
set_option maxRecDepth 100000 in
theorem open_deed {H : Type} {enc : TypeId × Value → H} {W : World} {base : Nat} {v : Value} {d : DataW H} {ps : List MemPlace}
    (hv : Value.okWide Try.prog W .any base 46 v) (h : DataW.Trod enc Try.prog W 0 (fun _ => true) true 46 v d ps) :
    ∃ x : Deed, v = .agg #[.int .i64 x.k, .int .i64 x.n, .string x.name, .string x.to, .string x.s] ∧ DeedWf x := by
  obtain ⟨cs, rfl, _⟩ := okWide_struct Try.underlying46 hv
  obtain ⟨n, hn⟩ := h
  obtain ⟨x, hx, hw⟩ := trodDeed hn
  refine ⟨x, ?_, hw⟩
  have : cs = (dC x).toArray := by simp [Value.cells] at hx; rw [← hx]
  rw [this]
  rfl
end Go.Proofs.Ytdckdndjddflfaa
