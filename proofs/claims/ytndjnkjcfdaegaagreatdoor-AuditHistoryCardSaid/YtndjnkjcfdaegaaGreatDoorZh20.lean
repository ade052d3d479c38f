/-
  slices.Backward over a row of numbers, as an iterator. No conditions of its own.
-/
import Derived.Test.YtndjnkjcfdaegaaGreatDoorZh19
import Derived.RangeFuncNested
set_option linter.all false
namespace Go.Proofs.YtndjnkjcfdaegaaGreatDoor
open Go.RowKit Go.Shelf Go.Sort Go.Joins

attribute [local go_sem] Oper.semAt_some

/-- what a round must keep: all that lay, but two blocks -/
structure KeepsBut (n₀ p b : Nat) (A B : World) : Prop where
  size : A.heap.size ≤ B.heap.size
  block : ∀ k, k < n₀ → k ≠ p → k ≠ b → B.heap[k]? = A.heap[k]?
theorem KeepsBut.refl {n₀ p b : Nat} (A : World) : KeepsBut n₀ p b A A := ⟨Nat.le_refl _, fun _ _ _ _ => rfl⟩
theorem KeepsBut.trans {n₀ p b : Nat} {A B C : World} (h : KeepsBut n₀ p b A B) (k : KeepsBut n₀ p b B C) : KeepsBut n₀ p b A C :=
  ⟨Nat.le_trans h.size k.size, fun i hi hp hb => (k.block i hi hp hb).trans (h.block i hi hp hb)⟩
theorem KeepsBut.put {n₀ p b : Nat} {w : World} (hn : n₀ ≤ w.heap.size) (W : World) (l : Nat) (o o' : Obj) (hl : w.heap.size ≤ l) (h : W.heap[l]? = some o) (_ : o.isCells = false) (_ : o.isWalk = false) : KeepsBut n₀ p b W (W.putObj l o') :=
  have _ := h
  ⟨(grownBy_putObj' W l o').size, fun k hk _ _ => World.putObj_heap_other (by omega)⟩
theorem KeepsBut.cell {n₀ p b : Nat} {A B : World} (h : KeepsBut n₀ p b A B) {a : Addr} {v : Value} (hc : A.cell? a = some v) (hn : a.block < n₀) (hp : a.block ≠ p) (hb : a.block ≠ b) : B.cell? a = some v :=
  (World.cell?_of_block (w := A) (h.block a.block hn hp hb)).trans hc

/-- an index and a number -/
abbrev IxN := { x : Nat × Nat // x.2 ≤ 4611686018427387904 }
def ixEnc (x : IxN) : Array Value := #[.int .i64 x.1.1, .int .i64 x.1.2]
def numOf (x : IxN) : Nat := x.1.2

set_option maxRecDepth 100000 in
set_option maxHeartbeats 2000000 in
theorem back1_in (F : Fence) (n : Nat) (hf : F.fn 89) (hro : F.round = none) (hn1 : 1 ≤ n) (l Bx n₀ p b : Nat) (va : Option Addr) (vc : Nat) (L : List Nat) (hL : ∀ m ∈ L, m ≤ 4611686018427387904) (hN : (L.length : Int) ≤ 4611686018427387904) (J Jx : List IxN → World → Prop)
    (hY : ∀ pre x W, J pre W → pre.length < L.length → YieldAt F (n - 1) Tryz.prog l (ixEnc x) W fun e W' => (e = .returned (.bool true) ∧ J (pre ++ [x]) W' ∧ KeepsBut n₀ p b W W') ∨ (e = .returned (.bool false) ∧ Jx (pre ++ [x]) W'))
    (hBx : Bx < n₀ ∧ Bx ≠ p ∧ Bx ≠ b) (W : World) (hB : W.cell? ⟨Bx, 0, none⟩ = some (.slice va L.length vc))
    (hrow : 0 < L.length → ∃ q off, va = some ⟨q, off, none⟩ ∧ (q < n₀ ∧ q ≠ p ∧ q ≠ b) ∧ ∀ j m : Nat, L[j]? = some m → W.cell? ⟨q, off + j, none⟩ = some (.int .i64 m)) (h0 : J [] W) :
    CallsIn F n Tryz.prog 89 #[.func (.yield l) #[] #[], .pointer (some ⟨Bx, 0, none⟩)] W fun e W' => (∃ v, e = .returned v) ∧
      ((∃ ys, ys.map numOf = L.reverse ∧ J ys W') ∨ (∃ pre, True ∧ Jx pre W')) := by
  have HY := Lib.hid hY
  have HL := Lib.hid hL
  have Hrow := Lib.hid hrow
  clear hY hL hrow
  have hw1 : IntKind.i64.wrap ((L.length : Int) - 1) = (L.length : Int) - 1 := by rw [IntKind.wrap_i64]; omega
  refine callsIn_of_wp Tryz.func89 rfl hf ?_ hro
  simp only [Tryz.ntmps89, List.size_toArray, List.length_cons, List.length_nil, Nat.reduceAdd, Nat.reduceSub, Array.replicate_succ, Array.replicate_zero, List.push_toArray, List.append_toArray, List.nil_append, List.cons_append]
  gi_wp2
  gi_loopw [3] (fun i wr => ∃ (k M : Nat) (pre : List IxN), M + k = L.length ∧ i = .int .i64 ((M : Int) - 1) ∧ pre.map numOf = L.reverse.take k ∧ J pre wr ∧ KeepsBut n₀ p b W wr) (fun i _ => ((intOf i) + 1).toNat)
  case atStart => exact ⟨0, L.length, [], by omega, rfl, rfl, h0, KeepsBut.refl _⟩
  case round =>
    obtain ⟨k, M, pre, hMk, rfl, hpre, hJ, hK⟩ := hrel
    cases M with
    | zero =>
      have hk : k = L.length := by omega
      have Hpre : Hid (pre.map numOf = L.reverse) := Lib.hid (by rw [hpre, hk, List.take_of_length_le (by simp)])
      have he : ((0 : Nat) : Int) - 1 = -1 := rfl
      rw [he]
      clear hpre hMk hk
      gi_wp2
      refine bodyPost_end (results_none rfl _ _ _) rfl ?_
      exact ⟨⟨_, rfl⟩, .inl ⟨pre, Hpre.out, hJ⟩⟩
    | succ m =>
      obtain ⟨q, off, rfl, ⟨hq1, hq2, hq3⟩, hx⟩ := Hrow.out (by omega)
      have hml : m < L.length := by omega
      have hxm := hK.cell (hx m _ (List.getElem?_eq_getElem hml)) hq1 hq2 hq3
      have hb := hK.cell hB hBx.1 hBx.2.1 hBx.2.2
      have he : ((m + 1 : Nat) : Int) - 1 = (m : Int) := by omega
      rw [he]
      have hpl : pre.length = k := by
        have := congrArg List.length hpre
        rw [List.length_map, List.length_take, List.length_reverse] at this
        omega
      have Hnext : Hid (L.reverse.take (k + 1) = L.reverse.take k ++ [L[m]]) := by
        refine Lib.hid ?_
        rw [List.take_succ_eq_append_getElem (by rw [List.length_reverse]; omega), List.getElem_reverse]
        congr 2
        congr 1
        omega
      have hmb := HL.out _ (List.getElem_mem hml)
      obtain ⟨fn, tmps, assign, body, hy, hR⟩ := HY.out pre ⟨(m, L[m]), hmb⟩ wr hJ (by omega)
      have Hpre := Lib.hid hpre
      have hnum : numOf ⟨(m, L[m]), hmb⟩ = L[m] := rfl
      have Hnum := Lib.hid hnum
      unfold ixEnc at hy
      dsimp only at hy
      generalize (⟨(m, L[m]), hmb⟩ : IxN) = x at hR Hnum
      generalize L[m] = y at hxm hy Hnext Hnum
      have h0m : (0 : Int) ≤ (m : Int) := by omega
      have hm2 : (m : Int) < (L.length : Int) := by omega
      have hw2 : IntKind.i64.wrap ((m : Int) - 1) = (m : Int) - 1 := by rw [IntKind.wrap_i64]; omega
      have hK2 := Lib.hid hK
      have HR := Lib.hid hR
      have HM := Lib.hid hMk
      clear hx hpre hK hmb hnum hR hpl hMk
      gi_wp2
      refine HR.out.mono ?_
      rintro e W3 (⟨rfl, hJ3, hk3⟩ | ⟨rfl, hJx3⟩)
      · gi_wp2
        go_roundw
        case rel => exact ⟨k + 1, m, pre ++ [x], by have := HM.out; omega, rfl, by rw [Hnext.out, List.map_append, Hpre.out, List.map_cons, List.map_nil, Hnum.out], hJ3, hK2.out.trans hk3⟩
        case measure => simp [intOf]
      · gi_wp2
        refine bodyPost_ret (results_none rfl _ _ _) rfl ?_
        exact ⟨⟨_, rfl⟩, .inr ⟨pre ++ [x], trivial, hJx3⟩⟩

theorem back_stops (F : Fence) (n : Nat) (hf : F.fn 89) (hro : F.round = none) (hn1 : 1 ≤ n) (Bx n₀ p b : Nat) (va : Option Addr) (vc : Nat) (L : List Nat) (hL : ∀ m ∈ L, m ≤ 4611686018427387904) (hN : (L.length : Int) ≤ 4611686018427387904)
    (hBx : Bx < n₀ ∧ Bx ≠ p ∧ Bx ≠ b) (w : World) (hn : n₀ ≤ w.heap.size) (hB : w.cell? ⟨Bx, 0, none⟩ = some (.slice va L.length vc))
    (hrow : 0 < L.length → ∃ q off, va = some ⟨q, off, none⟩ ∧ (q < n₀ ∧ q ≠ p ∧ q ≠ b) ∧ ∀ j m : Nat, L[j]? = some m → w.cell? ⟨q, off + j, none⟩ = some (.int .i64 m)) :
    SeqStopsK F n Tryz.prog 89 #[.pointer (some ⟨Bx, 0, none⟩)] ixEnc (KeepsBut n₀ p b) (fun ys => ys.map numOf = L.reverse) (fun _ => True) L.length w := fun l J Jx W hW _ _ hY h0 =>
  back1_in F n hf hro hn1 l Bx n₀ p b va vc L hL hN J Jx hY hBx W ((hW.cell (p := ⟨Bx, 0, none⟩) (Nat.lt_of_lt_of_le hBx.1 hn)).trans hB)
    (fun h => by
      obtain ⟨q, off, e, hq, hx⟩ := hrow h
      exact ⟨q, off, e, hq, fun j m hj => (hW.cell (p := ⟨q, off + j, none⟩) (Nat.lt_of_lt_of_le hq.1 hn)).trans (hx j m hj)⟩) h0
/-- slices.Backward: the slice is boxed; the function value captures the box -/
theorem back_any (w : World) (v : Value) (va : Option Addr) (n c : Nat) (hv : v = .slice va n c) : Calls Tryz.prog 43 #[v] w fun e w' => e = .returned (.func (.func 89) #[] #[.pointer (some ⟨w.heap.size, 0, none⟩)]) ∧ w' = w.alloc (.cells #[v] 109) := by
  subst hv
  go_enter Tryz.func43, Tryz.ntmps43
  go_wp2
  go_ret
  exact ⟨rfl, rfl⟩
end Go.Proofs.YtndjnkjcfdaegaaGreatDoor
