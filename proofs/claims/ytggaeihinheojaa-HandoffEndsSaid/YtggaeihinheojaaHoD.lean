/-
  The document's Hear, way by way. No conditions of its own.
-/
import Derived.Test.YtggaeihinheojaaHoC
namespace Go.Proofs.Ytggaeihinheojaa
open Go.RowKit

section
variable {w : World} {ep t nx : Int} {own dead outs ins gh cm bv ids : Value} {tt : Int}

set_option maxRecDepth 100000 in
set_option maxHeartbeats 4000000 in
theorem rhear_1 {l : List Bd} (hb : RdOf cBd w bv l) (hl : ((l.length : Int) != 1) = true) (fr mn : Int) :
    Calls Try.prog 12 #[stV ep t own dead outs ins gh nx, .int .i64 fr, msgIn 7 tt mn cm bv ids] w fun e w' => e = .returned (.tuple #[recV 0 0 0 Bd.zero, msgV 0 0]) ∧ Keeps No w w' := by
  obtain ⟨va, vc, rfl⟩ := hb.slice
  go_enter Try.func12, Try.ntmps12
  go_wp2_with fail
  exact bodyPost_ret (v := .tuple #[recV 0 0 0 Bd.zero, msgV 0 0]) (by simp [results, Try.results12, go_sem, *, Bd.zero]) rfl ⟨rfl, (by first | exact ((((Keeps.refl _).alloc _).alloc _).alloc _).alloc _ | exact (((((Keeps.refl _).alloc _).alloc _).alloc _).alloc _).drew)⟩

set_option maxRecDepth 100000 in
set_option maxHeartbeats 4000000 in
theorem rhear_2 {l : List Inn} (hv : RdOf cIn w ins l) {b0 : Bd} (hb : RdOf cBd w bv [b0]) (fr mn : Int) (j : Nat) (hi : firstOf (isIn fr mn) l = j) :
    Calls Try.prog 12 #[stV ep t own dead outs ins gh nx, .int .i64 fr, msgIn 7 tt mn cm bv ids] w fun e w' => e = .returned (.tuple #[recV 0 0 0 Bd.zero, msgV 8 mn]) ∧ Keeps No w w' := by
  obtain ⟨va, vc, rfl⟩ := hb.slice
  obtain ⟨g, off, rfl, hc1, hc2, hg⟩ := RdOf.addr cBd hb (by simp)
  have g0 : cellsAt w g off 11 = some (bdC b0) := by
    have := RdOf.at cBd hb 0 (by simp)
    rw [Nat.zero_mul, Nat.add_zero] at this
    exact this
  clear hc1 hc2
  obtain ⟨l1, l2, l3, l4, l5, l6, l7, l8⟩ := lt8 hg
  have Hi := Lib.hid hi; clear hi
  go_enter Try.func12, Try.ntmps12
  go_wp2_with fail
  refine (rin_any (hv.kept (((((Keeps.refl _).alloc _).alloc _).alloc _).alloc _) (fun _ _ h => h)) fr mn).mono ?_
  rintro e w1 ⟨rfl, hk1⟩
  rw [Hi.out]
  have p2 : w1.cell? ⟨w.heap.size + 1, 2, none⟩ = some (.int .i64 mn) := hk1.cell (by simp [go_sem]) (fun h => h)
  have o2 : Open w1 (w.heap.size + 1 + 1) := hk1.opened (by simp [go_sem])
  have n2 : (rowD w1 (w.heap.size + 1 + 1)).size = 24 := hk1.rowSize (by simp [go_sem]) (by simp [go_sem])
  have o3 : Open w1 (w.heap.size + 1 + 1 + 1) := hk1.opened (by simp [go_sem])
  have n3 : (rowD w1 (w.heap.size + 1 + 1 + 1)).size = 6 := hk1.rowSize (by simp [go_sem]) (by simp [go_sem])
  have hk : Keeps No w w1 := (((((Keeps.refl _).alloc _).alloc _).alloc _).alloc _).trans hk1 (fun _ _ h => h)
  have Hk := Lib.hid hk
  clear hk hk1 g0 l1 l2 l3 l4 l5 l6 l7 l8
  go_wp2_with fail
  go_region
  all_goals
    go_wp2
    exact bodyPost_ret (v := .tuple #[recV 0 0 0 Bd.zero, msgV 8 mn]) (by simp [results, Try.results12, go_sem, *, Bd.zero]) rfl ⟨rfl, (by first | exact (Hk.out.row (by omega) _).row (by omega) _ | exact (((Hk.out.row (by omega) _).row (by omega) _)).drew | exact ((Hk.out.drew.row (by omega) _).row (by omega) _))⟩

set_option maxRecDepth 100000 in
set_option maxHeartbeats 4000000 in
theorem rhear_3 {l : List Inn} (hv : RdOf cIn w ins l) {b0 : Bd} (hb : RdOf cBd w bv [b0]) (fr mn : Int) (hi : firstOf (isIn fr mn) l = -1) :
    Calls Try.prog 12 #[stV ep t own dead outs ins gh nx, .int .i64 fr, msgIn 7 tt mn cm bv ids] w fun e w' => e = .returned (.tuple #[recV 6 mn fr b0, msgV 8 mn]) ∧ Keeps No w w' := by
  obtain ⟨va, vc, rfl⟩ := hb.slice
  obtain ⟨g, off, rfl, hc1, hc2, hg⟩ := RdOf.addr cBd hb (by simp)
  have g0 : cellsAt w g off 11 = some (bdC b0) := by
    have := RdOf.at cBd hb 0 (by simp)
    rw [Nat.zero_mul, Nat.add_zero] at this
    exact this
  clear hc1 hc2
  obtain ⟨l1, l2, l3, l4, l5, l6, l7, l8⟩ := lt8 hg
  have Hi := Lib.hid hi; clear hi
  go_enter Try.func12, Try.ntmps12
  go_wp2_with fail
  refine (rin_any (hv.kept (((((Keeps.refl _).alloc _).alloc _).alloc _).alloc _) (fun _ _ h => h)) fr mn).mono ?_
  rintro e w1 ⟨rfl, hk1⟩
  rw [Hi.out]
  have p2 : w1.cell? ⟨w.heap.size + 1, 2, none⟩ = some (.int .i64 mn) := hk1.cell (by simp [go_sem]) (fun h => h)
  have o2 : Open w1 (w.heap.size + 1 + 1) := hk1.opened (by simp [go_sem])
  have n2 : (rowD w1 (w.heap.size + 1 + 1)).size = 24 := hk1.rowSize (by simp [go_sem]) (by simp [go_sem])
  have o3 : Open w1 (w.heap.size + 1 + 1 + 1) := hk1.opened (by simp [go_sem])
  have n3 : (rowD w1 (w.heap.size + 1 + 1 + 1)).size = 6 := hk1.rowSize (by simp [go_sem]) (by simp [go_sem])
  have hk : Keeps No w w1 := (((((Keeps.refl _).alloc _).alloc _).alloc _).alloc _).trans hk1 (fun _ _ h => h)
  have p4 : w1.cell? ⟨w.heap.size + 1, 4, none⟩ = some (.slice (some ⟨g, off, none⟩) 1 vc) := hk1.cell (by simp [go_sem]) (fun h => h)
  have g1 : cellsAt w1 g off 11 = some (bdC b0) := hk.cellsAt g0
  have Hk := Lib.hid hk
  clear hk hk1 g0 l1 l2 l3 l4 l5 l6 l7 l8
  go_wp2_with fail
  go_region
  all_goals
    go_wp2
    exact bodyPost_ret (v := .tuple #[recV 6 mn fr b0, msgV 8 mn]) (by simp [results, Try.results12, go_sem, *]) rfl ⟨rfl, (by first | exact (Hk.out.row (by omega) _).row (by omega) _ | exact (((Hk.out.row (by omega) _).row (by omega) _)).drew | exact ((Hk.out.drew.row (by omega) _).row (by omega) _))⟩

set_option maxRecDepth 100000 in
set_option maxHeartbeats 4000000 in
theorem rhear_7 {l : List Inn} (hv : RdOf cIn w ins l) (fr mn : Int) (hi : firstOf (isIn fr mn) l = -1) :
    Calls Try.prog 12 #[stV ep t own dead outs ins gh nx, .int .i64 fr, msgIn 9 tt mn cm bv ids] w fun e w' => e = .returned (.tuple #[recV 0 0 0 Bd.zero, msgV 10 mn]) ∧ Keeps No w w' := by
  have Hi := Lib.hid hi; clear hi
  go_enter Try.func12, Try.ntmps12
  go_wp2_with fail
  refine (rin_any (hv.kept (((((Keeps.refl _).alloc _).alloc _).alloc _).alloc _) (fun _ _ h => h)) fr mn).mono ?_
  rintro e w1 ⟨rfl, hk1⟩
  rw [Hi.out]
  have p2 : w1.cell? ⟨w.heap.size + 1, 2, none⟩ = some (.int .i64 mn) := hk1.cell (by simp [go_sem]) (fun h => h)
  have o2 : Open w1 (w.heap.size + 1 + 1) := hk1.opened (by simp [go_sem])
  have n2 : (rowD w1 (w.heap.size + 1 + 1)).size = 24 := hk1.rowSize (by simp [go_sem]) (by simp [go_sem])
  have o3 : Open w1 (w.heap.size + 1 + 1 + 1) := hk1.opened (by simp [go_sem])
  have n3 : (rowD w1 (w.heap.size + 1 + 1 + 1)).size = 6 := hk1.rowSize (by simp [go_sem]) (by simp [go_sem])
  have hk : Keeps No w w1 := (((((Keeps.refl _).alloc _).alloc _).alloc _).alloc _).trans hk1 (fun _ _ h => h)
  have Hk := Lib.hid hk
  clear hk hk1
  go_wp2_with fail
  go_region
  all_goals
    go_wp2
    exact bodyPost_ret (v := .tuple #[recV 0 0 0 Bd.zero, msgV 10 mn]) (by simp [results, Try.results12, go_sem, *, Bd.zero]) rfl ⟨rfl, (by first | exact (Hk.out.row (by omega) _).row (by omega) _ | exact (((Hk.out.row (by omega) _).row (by omega) _)).drew | exact ((Hk.out.drew.row (by omega) _).row (by omega) _))⟩

set_option maxRecDepth 100000 in
set_option maxHeartbeats 4000000 in
theorem rhear_8 {l : List Inn} (hv : RdOf cIn w ins l) (fr mn : Int) (j : Nat) (hi : firstOf (isIn fr mn) l = j) :
    Calls Try.prog 12 #[stV ep t own dead outs ins gh nx, .int .i64 fr, msgIn 9 tt mn cm bv ids] w fun e w' => e = .returned (.tuple #[recV 7 mn fr Bd.zero, msgV 10 mn]) ∧ Keeps No w w' := by
  have Hi := Lib.hid hi; clear hi
  go_enter Try.func12, Try.ntmps12
  go_wp2_with fail
  refine (rin_any (hv.kept (((((Keeps.refl _).alloc _).alloc _).alloc _).alloc _) (fun _ _ h => h)) fr mn).mono ?_
  rintro e w1 ⟨rfl, hk1⟩
  rw [Hi.out]
  have p2 : w1.cell? ⟨w.heap.size + 1, 2, none⟩ = some (.int .i64 mn) := hk1.cell (by simp [go_sem]) (fun h => h)
  have o2 : Open w1 (w.heap.size + 1 + 1) := hk1.opened (by simp [go_sem])
  have n2 : (rowD w1 (w.heap.size + 1 + 1)).size = 24 := hk1.rowSize (by simp [go_sem]) (by simp [go_sem])
  have o3 : Open w1 (w.heap.size + 1 + 1 + 1) := hk1.opened (by simp [go_sem])
  have n3 : (rowD w1 (w.heap.size + 1 + 1 + 1)).size = 6 := hk1.rowSize (by simp [go_sem]) (by simp [go_sem])
  have hk : Keeps No w w1 := (((((Keeps.refl _).alloc _).alloc _).alloc _).alloc _).trans hk1 (fun _ _ h => h)
  have Hk := Lib.hid hk
  clear hk hk1
  go_wp2_with fail
  go_region
  all_goals
    go_wp2
    exact bodyPost_ret (v := .tuple #[recV 7 mn fr Bd.zero, msgV 10 mn]) (by simp [results, Try.results12, go_sem, *, Bd.zero]) rfl ⟨rfl, (by first | exact (Hk.out.row (by omega) _).row (by omega) _ | exact (((Hk.out.row (by omega) _).row (by omega) _)).drew | exact ((Hk.out.drew.row (by omega) _).row (by omega) _))⟩

set_option maxRecDepth 100000 in
set_option maxHeartbeats 4000000 in
theorem rhear_4 {l : List Ou} (hv : RdOf cOu w outs l) (fr mn : Int) (hi : firstOf (isOut mn 2) l = -1) :
    Calls Try.prog 12 #[stV ep t own dead outs ins gh nx, .int .i64 fr, msgIn 8 tt mn cm bv ids] w fun e w' => e = .returned (.tuple #[recV 0 0 0 Bd.zero, msgV 0 0]) ∧ Keeps No w w' := by
  obtain ⟨va, vc, rfl⟩ := hv.slice
  have hlb : (0 : Int) ≤ (l.length : Int) := by omega
  have Hi := Lib.hid hi; clear hi
  go_enter Try.func12, Try.ntmps12
  go_wp2_with fail
  refine (rout_any (hv.kept (((((Keeps.refl _).alloc _).alloc _).alloc _).alloc _) (fun _ _ h => h)) mn 2).mono ?_
  rintro e w1 ⟨rfl, hk1⟩
  rw [Hi.out]
  have p2 : w1.cell? ⟨w.heap.size + 1, 2, none⟩ = some (.int .i64 mn) := hk1.cell (by simp [go_sem]) (fun h => h)
  have o2 : Open w1 (w.heap.size + 1 + 1) := hk1.opened (by simp [go_sem])
  have n2 : (rowD w1 (w.heap.size + 1 + 1)).size = 24 := hk1.rowSize (by simp [go_sem]) (by simp [go_sem])
  have o3 : Open w1 (w.heap.size + 1 + 1 + 1) := hk1.opened (by simp [go_sem])
  have n3 : (rowD w1 (w.heap.size + 1 + 1 + 1)).size = 6 := hk1.rowSize (by simp [go_sem]) (by simp [go_sem])
  have hk : Keeps No w w1 := (((((Keeps.refl _).alloc _).alloc _).alloc _).alloc _).trans hk1 (fun _ _ h => h)
  have Hk := Lib.hid hk
  clear hk hk1
  go_wp2
  exact bodyPost_ret (v := .tuple #[recV 0 0 0 Bd.zero, msgV 0 0]) (by simp [results, Try.results12, go_sem, *, Bd.zero]) rfl ⟨rfl, (by first | exact (Hk.out.row (by omega) _).row (by omega) _ | exact (((Hk.out.row (by omega) _).row (by omega) _)).drew | exact ((Hk.out.drew.row (by omega) _).row (by omega) _))⟩

set_option maxRecDepth 100000 in
set_option maxHeartbeats 4000000 in
theorem rhear_5 {l : List Ou} (hv : RdOf cOu w outs l) (fr mn : Int) (j : Nat) (hj : j < l.length) (hi : firstOf (isOut mn 2) l = j) (ht : (l[j].to == fr) = false) :
    Calls Try.prog 12 #[stV ep t own dead outs ins gh nx, .int .i64 fr, msgIn 8 tt mn cm bv ids] w fun e w' => e = .returned (.tuple #[recV 0 0 0 Bd.zero, msgV 0 0]) ∧ Keeps No w w' := by
  obtain ⟨va, vc, rfl⟩ := hv.slice
  obtain ⟨g, off, rfl, hc1, hc2, hg⟩ := RdOf.addr cOu hv (by omega)
  have g0 : cellsAt w g (off + j * 14) 14 = some (ouC l[j]) := RdOf.at cOu hv j hj
  have gt : w.cell? ⟨g, off + j * 14 + 1, none⟩ = some (.int .i64 l[j].to) := cellsAt_cell g0 1 _ rfl
  have hj0 : (0 : Int) ≤ (j : Int) := by omega
  have hj1 : (j : Int) < (l.length : Int) := by omega
  have hd0 : decide ((0 : Int) ≤ (j : Int)) = true := decide_eq_true hj0
  have hd1 : decide ((j : Int) < 0) = false := decide_eq_false (by omega)
  clear hc1 hc2 g0
  have Hi := Lib.hid hi; clear hi
  go_enter Try.func12, Try.ntmps12
  go_wp2_with fail
  refine (rout_any (hv.kept (((((Keeps.refl _).alloc _).alloc _).alloc _).alloc _) (fun _ _ h => h)) mn 2).mono ?_
  rintro e w1 ⟨rfl, hk1⟩
  rw [Hi.out]
  have p2 : w1.cell? ⟨w.heap.size + 1, 2, none⟩ = some (.int .i64 mn) := hk1.cell (by simp [go_sem]) (fun h => h)
  have o2 : Open w1 (w.heap.size + 1 + 1) := hk1.opened (by simp [go_sem])
  have n2 : (rowD w1 (w.heap.size + 1 + 1)).size = 24 := hk1.rowSize (by simp [go_sem]) (by simp [go_sem])
  have o3 : Open w1 (w.heap.size + 1 + 1 + 1) := hk1.opened (by simp [go_sem])
  have n3 : (rowD w1 (w.heap.size + 1 + 1 + 1)).size = 6 := hk1.rowSize (by simp [go_sem]) (by simp [go_sem])
  have hk : Keeps No w w1 := (((((Keeps.refl _).alloc _).alloc _).alloc _).alloc _).trans hk1 (fun _ _ h => h)
  have p3 : w1.cell? ⟨w.heap.size, 4, none⟩ = some (.slice (some ⟨g, off, none⟩) l.length vc) := hk1.cell (by simp [go_sem]) (fun h => h)
  have gt1 : w1.cell? ⟨g, off + j * 14 + 1, none⟩ = some (.int .i64 l[j].to) := hk.cell gt (fun h => h)
  have Hk := Lib.hid hk
  clear hk hk1 gt
  go_wp2
  exact bodyPost_ret (v := .tuple #[recV 0 0 0 Bd.zero, msgV 0 0]) (by simp [results, Try.results12, go_sem, *, Bd.zero]) rfl ⟨rfl, (by first | exact (Hk.out.row (by omega) _).row (by omega) _ | exact (((Hk.out.row (by omega) _).row (by omega) _)).drew | exact ((Hk.out.drew.row (by omega) _).row (by omega) _))⟩

set_option maxRecDepth 100000 in
set_option maxHeartbeats 4000000 in
theorem rhear_6 {l : List Ou} (hv : RdOf cOu w outs l) (fr mn : Int) (j : Nat) (hj : j < l.length) (hi : firstOf (isOut mn 2) l = j) (ht : (l[j].to == fr) = true) :
    Calls Try.prog 12 #[stV ep t own dead outs ins gh nx, .int .i64 fr, msgIn 8 tt mn cm bv ids] w fun e w' => e = .returned (.tuple #[recV 4 mn 0 Bd.zero, msgV 9 mn]) ∧ Keeps No w w' := by
  obtain ⟨va, vc, rfl⟩ := hv.slice
  obtain ⟨g, off, rfl, hc1, hc2, hg⟩ := RdOf.addr cOu hv (by omega)
  have g0 : cellsAt w g (off + j * 14) 14 = some (ouC l[j]) := RdOf.at cOu hv j hj
  have gt : w.cell? ⟨g, off + j * 14 + 1, none⟩ = some (.int .i64 l[j].to) := cellsAt_cell g0 1 _ rfl
  have hj0 : (0 : Int) ≤ (j : Int) := by omega
  have hj1 : (j : Int) < (l.length : Int) := by omega
  have hd0 : decide ((0 : Int) ≤ (j : Int)) = true := decide_eq_true hj0
  have hd1 : decide ((j : Int) < 0) = false := decide_eq_false (by omega)
  clear hc1 hc2 g0
  have Hi := Lib.hid hi; clear hi
  go_enter Try.func12, Try.ntmps12
  go_wp2_with fail
  refine (rout_any (hv.kept (((((Keeps.refl _).alloc _).alloc _).alloc _).alloc _) (fun _ _ h => h)) mn 2).mono ?_
  rintro e w1 ⟨rfl, hk1⟩
  rw [Hi.out]
  have p2 : w1.cell? ⟨w.heap.size + 1, 2, none⟩ = some (.int .i64 mn) := hk1.cell (by simp [go_sem]) (fun h => h)
  have o2 : Open w1 (w.heap.size + 1 + 1) := hk1.opened (by simp [go_sem])
  have n2 : (rowD w1 (w.heap.size + 1 + 1)).size = 24 := hk1.rowSize (by simp [go_sem]) (by simp [go_sem])
  have o3 : Open w1 (w.heap.size + 1 + 1 + 1) := hk1.opened (by simp [go_sem])
  have n3 : (rowD w1 (w.heap.size + 1 + 1 + 1)).size = 6 := hk1.rowSize (by simp [go_sem]) (by simp [go_sem])
  have hk : Keeps No w w1 := (((((Keeps.refl _).alloc _).alloc _).alloc _).alloc _).trans hk1 (fun _ _ h => h)
  have p3 : w1.cell? ⟨w.heap.size, 4, none⟩ = some (.slice (some ⟨g, off, none⟩) l.length vc) := hk1.cell (by simp [go_sem]) (fun h => h)
  have gt1 : w1.cell? ⟨g, off + j * 14 + 1, none⟩ = some (.int .i64 l[j].to) := hk.cell gt (fun h => h)
  have Hk := Lib.hid hk
  clear hk hk1 gt
  go_wp2_with fail
  go_region
  all_goals
    go_wp2
    exact bodyPost_ret (v := .tuple #[recV 4 mn 0 Bd.zero, msgV 9 mn]) (by simp [results, Try.results12, go_sem, *, Bd.zero]) rfl ⟨rfl, (by first | exact (Hk.out.row (by omega) _).row (by omega) _ | exact (((Hk.out.row (by omega) _).row (by omega) _)).drew | exact ((Hk.out.drew.row (by omega) _).row (by omega) _))⟩

set_option maxRecDepth 100000 in
set_option maxHeartbeats 4000000 in
theorem rhear_9 {l : List Ou} (hv : RdOf cOu w outs l) (fr mn : Int) (hi : firstOf (isOut mn 3) l = -1) :
    Calls Try.prog 12 #[stV ep t own dead outs ins gh nx, .int .i64 fr, msgIn 10 tt mn cm bv ids] w fun e w' => e = .returned (.tuple #[recV 0 0 0 Bd.zero, msgV 0 0]) ∧ Keeps No w w' := by
  obtain ⟨va, vc, rfl⟩ := hv.slice
  have hlb : (0 : Int) ≤ (l.length : Int) := by omega
  have Hi := Lib.hid hi; clear hi
  go_enter Try.func12, Try.ntmps12
  go_wp2_with fail
  refine (rout_any (hv.kept (((((Keeps.refl _).alloc _).alloc _).alloc _).alloc _) (fun _ _ h => h)) mn 3).mono ?_
  rintro e w1 ⟨rfl, hk1⟩
  rw [Hi.out]
  have p2 : w1.cell? ⟨w.heap.size + 1, 2, none⟩ = some (.int .i64 mn) := hk1.cell (by simp [go_sem]) (fun h => h)
  have o2 : Open w1 (w.heap.size + 1 + 1) := hk1.opened (by simp [go_sem])
  have n2 : (rowD w1 (w.heap.size + 1 + 1)).size = 24 := hk1.rowSize (by simp [go_sem]) (by simp [go_sem])
  have o3 : Open w1 (w.heap.size + 1 + 1 + 1) := hk1.opened (by simp [go_sem])
  have n3 : (rowD w1 (w.heap.size + 1 + 1 + 1)).size = 6 := hk1.rowSize (by simp [go_sem]) (by simp [go_sem])
  have hk : Keeps No w w1 := (((((Keeps.refl _).alloc _).alloc _).alloc _).alloc _).trans hk1 (fun _ _ h => h)
  have Hk := Lib.hid hk
  clear hk hk1
  go_wp2
  exact bodyPost_ret (v := .tuple #[recV 0 0 0 Bd.zero, msgV 0 0]) (by simp [results, Try.results12, go_sem, *, Bd.zero]) rfl ⟨rfl, (by first | exact (Hk.out.row (by omega) _).row (by omega) _ | exact (((Hk.out.row (by omega) _).row (by omega) _)).drew | exact ((Hk.out.drew.row (by omega) _).row (by omega) _))⟩

set_option maxRecDepth 100000 in
set_option maxHeartbeats 4000000 in
theorem rhear_10 {l : List Ou} (hv : RdOf cOu w outs l) (fr mn : Int) (j : Nat) (hj : j < l.length) (hi : firstOf (isOut mn 3) l = j) (ht : (l[j].to == fr) = false) :
    Calls Try.prog 12 #[stV ep t own dead outs ins gh nx, .int .i64 fr, msgIn 10 tt mn cm bv ids] w fun e w' => e = .returned (.tuple #[recV 0 0 0 Bd.zero, msgV 0 0]) ∧ Keeps No w w' := by
  obtain ⟨va, vc, rfl⟩ := hv.slice
  obtain ⟨g, off, rfl, hc1, hc2, hg⟩ := RdOf.addr cOu hv (by omega)
  have g0 : cellsAt w g (off + j * 14) 14 = some (ouC l[j]) := RdOf.at cOu hv j hj
  have gt : w.cell? ⟨g, off + j * 14 + 1, none⟩ = some (.int .i64 l[j].to) := cellsAt_cell g0 1 _ rfl
  have hj0 : (0 : Int) ≤ (j : Int) := by omega
  have hj1 : (j : Int) < (l.length : Int) := by omega
  have hd0 : decide ((0 : Int) ≤ (j : Int)) = true := decide_eq_true hj0
  have hd1 : decide ((j : Int) < 0) = false := decide_eq_false (by omega)
  clear hc1 hc2 g0
  have Hi := Lib.hid hi; clear hi
  go_enter Try.func12, Try.ntmps12
  go_wp2_with fail
  refine (rout_any (hv.kept (((((Keeps.refl _).alloc _).alloc _).alloc _).alloc _) (fun _ _ h => h)) mn 3).mono ?_
  rintro e w1 ⟨rfl, hk1⟩
  rw [Hi.out]
  have p2 : w1.cell? ⟨w.heap.size + 1, 2, none⟩ = some (.int .i64 mn) := hk1.cell (by simp [go_sem]) (fun h => h)
  have o2 : Open w1 (w.heap.size + 1 + 1) := hk1.opened (by simp [go_sem])
  have n2 : (rowD w1 (w.heap.size + 1 + 1)).size = 24 := hk1.rowSize (by simp [go_sem]) (by simp [go_sem])
  have o3 : Open w1 (w.heap.size + 1 + 1 + 1) := hk1.opened (by simp [go_sem])
  have n3 : (rowD w1 (w.heap.size + 1 + 1 + 1)).size = 6 := hk1.rowSize (by simp [go_sem]) (by simp [go_sem])
  have hk : Keeps No w w1 := (((((Keeps.refl _).alloc _).alloc _).alloc _).alloc _).trans hk1 (fun _ _ h => h)
  have p3 : w1.cell? ⟨w.heap.size, 4, none⟩ = some (.slice (some ⟨g, off, none⟩) l.length vc) := hk1.cell (by simp [go_sem]) (fun h => h)
  have gt1 : w1.cell? ⟨g, off + j * 14 + 1, none⟩ = some (.int .i64 l[j].to) := hk.cell gt (fun h => h)
  have Hk := Lib.hid hk
  clear hk hk1 gt
  go_wp2
  exact bodyPost_ret (v := .tuple #[recV 0 0 0 Bd.zero, msgV 0 0]) (by simp [results, Try.results12, go_sem, *, Bd.zero]) rfl ⟨rfl, (by first | exact (Hk.out.row (by omega) _).row (by omega) _ | exact (((Hk.out.row (by omega) _).row (by omega) _)).drew | exact ((Hk.out.drew.row (by omega) _).row (by omega) _))⟩

set_option maxRecDepth 100000 in
set_option maxHeartbeats 4000000 in
theorem rhear_11 {l : List Ou} (hv : RdOf cOu w outs l) (fr mn : Int) (j : Nat) (hj : j < l.length) (hi : firstOf (isOut mn 3) l = j) (ht : (l[j].to == fr) = true) :
    Calls Try.prog 12 #[stV ep t own dead outs ins gh nx, .int .i64 fr, msgIn 10 tt mn cm bv ids] w fun e w' => e = .returned (.tuple #[recV 5 mn 0 Bd.zero, msgV 0 0]) ∧ Keeps No w w' := by
  obtain ⟨va, vc, rfl⟩ := hv.slice
  obtain ⟨g, off, rfl, hc1, hc2, hg⟩ := RdOf.addr cOu hv (by omega)
  have g0 : cellsAt w g (off + j * 14) 14 = some (ouC l[j]) := RdOf.at cOu hv j hj
  have gt : w.cell? ⟨g, off + j * 14 + 1, none⟩ = some (.int .i64 l[j].to) := cellsAt_cell g0 1 _ rfl
  have hj0 : (0 : Int) ≤ (j : Int) := by omega
  have hj1 : (j : Int) < (l.length : Int) := by omega
  have hd0 : decide ((0 : Int) ≤ (j : Int)) = true := decide_eq_true hj0
  have hd1 : decide ((j : Int) < 0) = false := decide_eq_false (by omega)
  clear hc1 hc2 g0
  have Hi := Lib.hid hi; clear hi
  go_enter Try.func12, Try.ntmps12
  go_wp2_with fail
  refine (rout_any (hv.kept (((((Keeps.refl _).alloc _).alloc _).alloc _).alloc _) (fun _ _ h => h)) mn 3).mono ?_
  rintro e w1 ⟨rfl, hk1⟩
  rw [Hi.out]
  have p2 : w1.cell? ⟨w.heap.size + 1, 2, none⟩ = some (.int .i64 mn) := hk1.cell (by simp [go_sem]) (fun h => h)
  have o2 : Open w1 (w.heap.size + 1 + 1) := hk1.opened (by simp [go_sem])
  have n2 : (rowD w1 (w.heap.size + 1 + 1)).size = 24 := hk1.rowSize (by simp [go_sem]) (by simp [go_sem])
  have o3 : Open w1 (w.heap.size + 1 + 1 + 1) := hk1.opened (by simp [go_sem])
  have n3 : (rowD w1 (w.heap.size + 1 + 1 + 1)).size = 6 := hk1.rowSize (by simp [go_sem]) (by simp [go_sem])
  have hk : Keeps No w w1 := (((((Keeps.refl _).alloc _).alloc _).alloc _).alloc _).trans hk1 (fun _ _ h => h)
  have p3 : w1.cell? ⟨w.heap.size, 4, none⟩ = some (.slice (some ⟨g, off, none⟩) l.length vc) := hk1.cell (by simp [go_sem]) (fun h => h)
  have gt1 : w1.cell? ⟨g, off + j * 14 + 1, none⟩ = some (.int .i64 l[j].to) := hk.cell gt (fun h => h)
  have Hk := Lib.hid hk
  clear hk hk1 gt
  go_wp2
  exact bodyPost_ret (v := .tuple #[recV 5 mn 0 Bd.zero, msgV 0 0]) (by simp [results, Try.results12, go_sem, *, Bd.zero]) rfl ⟨rfl, (by first | exact (Hk.out.row (by omega) _).row (by omega) _ | exact (((Hk.out.row (by omega) _).row (by omega) _)).drew | exact ((Hk.out.drew.row (by omega) _).row (by omega) _))⟩

set_option maxRecDepth 100000 in
set_option maxHeartbeats 4000000 in
theorem rhear_12 (mk fr mn : Int) (n7 : (mk == 7) = false) (n8 : (mk == 8) = false) (n9 : (mk == 9) = false) (n10 : (mk == 10) = false) :
    Calls Try.prog 12 #[stV ep t own dead outs ins gh nx, .int .i64 fr, msgIn mk tt mn cm bv ids] w fun e w' => e = .returned (.tuple #[recV 0 0 0 Bd.zero, msgV 0 0]) ∧ Keeps No w w' := by
  go_enter Try.func12, Try.ntmps12
  go_wp2_with fail
  exact bodyPost_ret (v := .tuple #[recV 0 0 0 Bd.zero, msgV 0 0]) (by simp [results, Try.results12, go_sem, *, Bd.zero]) rfl ⟨rfl, (by first | exact ((((Keeps.refl _).alloc _).alloc _).alloc _).alloc _ | exact (((((Keeps.refl _).alloc _).alloc _).alloc _).alloc _).drew)⟩

end
end Go.Proofs.Ytggaeihinheojaa
