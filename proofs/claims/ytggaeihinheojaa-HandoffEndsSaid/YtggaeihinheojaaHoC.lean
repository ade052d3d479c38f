/-
  handoff.Hear, and the document's, way by way. No conditions of its own.
-/
import Derived.Test.YtggaeihinheojaaHoB
import Derived.Deep.RegionHeld3
namespace Go.Proofs.Ytggaeihinheojaa
open Go.RowKit

/-- a message, by value -/
abbrev msgIn (mk tt mn : Int) (cm bv ids : Value) : Value := .agg #[.int .i64 mk, .int .i64 tt, .int .i64 mn, cm, bv, ids]

section
variable {w : World} {ep t nx : Int} {own dead outs ins gh cm bv ids : Value} {tt : Int}

set_option maxRecDepth 100000 in
set_option maxHeartbeats 4000000 in
theorem hear_1 {l : List Bd} (hb : RdOf cBd w bv l) (hl : ((l.length : Int) != 1) = true) (fr mn : Int) :
    Calls Try.prog 11 #[stV ep t own dead outs ins gh nx, .int .i64 fr, msgIn 7 tt mn cm bv ids] w fun e w' => e = .returned (.tuple #[recV 0 0 0 Bd.zero, .bool false, msgV 0 0, .bool false]) ∧ Keeps No w w' := by
  obtain ⟨va, vc, rfl⟩ := hb.slice
  go_enter Try.func11, Try.ntmps11
  go_wp2_with fail
  exact bodyPost_ret (v := .tuple #[recV 0 0 0 Bd.zero, .bool false, msgV 0 0, .bool false]) (by simp [results, Try.results11, go_sem, *, Bd.zero]) rfl ⟨rfl, (by first | exact (((((Keeps.refl _).alloc _).alloc _).alloc _).alloc _).alloc _ | exact ((((Keeps.refl _).alloc _).alloc _).alloc _).alloc _ | exact ((((((Keeps.refl _).alloc _).alloc _).alloc _).alloc _).alloc _).drew | exact (((((Keeps.refl _).alloc _).alloc _).alloc _).alloc _).drew)⟩

set_option maxRecDepth 100000 in
set_option maxHeartbeats 4000000 in
theorem hear_2 {l : List Inn} (hv : RdOf cIn w ins l) {b0 : Bd} (hb : RdOf cBd w bv [b0]) (fr mn : Int) (j : Nat) (hi : firstOf (isIn fr mn) l = j) :
    Calls Try.prog 11 #[stV ep t own dead outs ins gh nx, .int .i64 fr, msgIn 7 tt mn cm bv ids] w fun e w' => e = .returned (.tuple #[recV 0 0 0 Bd.zero, .bool false, msgV 8 mn, .bool true]) ∧ Keeps No w w' := by
  obtain ⟨va, vc, rfl⟩ := hb.slice
  obtain ⟨g, off, rfl, hc1, hc2, hg⟩ := RdOf.addr cBd hb (by simp)
  have g0 : cellsAt w g off 11 = some (bdC b0) := by
    have := RdOf.at cBd hb 0 (by simp)
    rw [Nat.zero_mul, Nat.add_zero] at this
    exact this
  clear hc1 hc2
  obtain ⟨l1, l2, l3, l4, l5, l6, l7, l8⟩ := lt8 hg
  have Hi := Lib.hid hi; clear hi
  go_enter Try.func11, Try.ntmps11
  go_wp2_with fail
  refine wp_world ?_
  intro W hW
  have hk : Keeps No w W := by rw [hW]; exact (((((Keeps.refl _).alloc _).alloc _).alloc _).alloc _).alloc _
  have F : ∀ w', Keeps No W w' → ((cellsAt w' (w.heap.size + 1 + 1 + 1 + 1) 0 24 = some [.int .i64 6, .int .i64 mn, .int .i64 fr, .slice none 0 0, .int .i64 b0.s, .int .i64 b0.i, .int .i64 b0.g, .int .i64 b0.m, .int .i64 b0.x, .int .i64 b0.y, .int .i64 b0.vx, .int .i64 b0.vy, .int .i64 b0.hp, .int .i64 b0.pw, .int .i64 b0.lf, .slice none 0 0, .int .i64 0, .int .i64 0, .slice none 0 0, .slice none 0 0, .slice none 0 0, .slice none 0 0, .slice none 0 0, .int .i64 0] ∧ cellsAt w' w.heap.size 0 8 = some [.int .i64 ep, .int .i64 t, own, dead, outs, ins, gh, .int .i64 nx] ∧ w'.cell? ⟨w.heap.size + 1, 2, none⟩ = some (.int .i64 mn)) ∧ Open w' (w.heap.size + 1 + 1) ∧ (rowD w' (w.heap.size + 1 + 1)).size = 24 ∧ Open w' (w.heap.size + 1 + 1 + 1) ∧ (rowD w' (w.heap.size + 1 + 1 + 1)).size = 6) := by
    have q : Open W (w.heap.size + 1 + 1) ∧ (rowD W (w.heap.size + 1 + 1)).size = 24 ∧ Open W (w.heap.size + 1 + 1 + 1) ∧ (rowD W (w.heap.size + 1 + 1 + 1)).size = 6 ∧ (cellsAt W (w.heap.size + 1 + 1 + 1 + 1) 0 24 = some [.int .i64 6, .int .i64 mn, .int .i64 fr, .slice none 0 0, .int .i64 b0.s, .int .i64 b0.i, .int .i64 b0.g, .int .i64 b0.m, .int .i64 b0.x, .int .i64 b0.y, .int .i64 b0.vx, .int .i64 b0.vy, .int .i64 b0.hp, .int .i64 b0.pw, .int .i64 b0.lf, .slice none 0 0, .int .i64 0, .int .i64 0, .slice none 0 0, .slice none 0 0, .slice none 0 0, .slice none 0 0, .slice none 0 0, .int .i64 0] ∧ cellsAt W w.heap.size 0 8 = some [.int .i64 ep, .int .i64 t, own, dead, outs, ins, gh, .int .i64 nx] ∧ W.cell? ⟨w.heap.size + 1, 2, none⟩ = some (.int .i64 mn)) := by
      rw [hW]
      refine ⟨?_, ?_, ?_, ?_, ?_, ?_, ?_⟩ <;> simp [go_sem]
    intro w' hkk
    exact ⟨⟨hkk.cellsAt q.2.2.2.2.1, hkk.cellsAt q.2.2.2.2.2.1, hkk.cell q.2.2.2.2.2.2 (fun h => h)⟩, hkk.opened q.1, hkk.rowSize q.1 q.2.1, hkk.opened q.2.2.1, hkk.rowSize q.2.2.1 q.2.2.2.1⟩
  have HF := Lib.hid F
  clear F hW
  obtain ⟨⟨p1, p2, p3⟩, _⟩ := HF.out W (Keeps.refl W)
  have Hk := Lib.hid hk
  clear hk g0 l1 l2 l3 l4 l5 l6 l7 l8
  go_region_held3 (fun w' => cellsAt w' (w.heap.size + 1 + 1 + 1 + 1) 0 24 = some [.int .i64 6, .int .i64 mn, .int .i64 fr, .slice none 0 0, .int .i64 b0.s, .int .i64 b0.i, .int .i64 b0.g, .int .i64 b0.m, .int .i64 b0.x, .int .i64 b0.y, .int .i64 b0.vx, .int .i64 b0.vy, .int .i64 b0.hp, .int .i64 b0.pw, .int .i64 b0.lf, .slice none 0 0, .int .i64 0, .int .i64 0, .slice none 0 0, .slice none 0 0, .slice none 0 0, .slice none 0 0, .slice none 0 0, .int .i64 0] ∧ cellsAt w' w.heap.size 0 8 = some [.int .i64 ep, .int .i64 t, own, dead, outs, ins, gh, .int .i64 nx] ∧ w'.cell? ⟨w.heap.size + 1, 2, none⟩ = some (.int .i64 mn)) (first | exact ⟨p1, p2, p3⟩ | exact ⟨cells_row p1 (by omega), cells_row p2 (by omega), cell_row p3 (by omega)⟩ | exact ⟨cells_row (cells_row p1 (by omega)) (by omega), cells_row (cells_row p2 (by omega)) (by omega), cell_row (cell_row p3 (by omega)) (by omega)⟩)
    (first
      | (go_at_call 32
         refine (in_any (hv.kept Hk.out.drew (fun _ _ h => h)) fr mn).mono ?_
         rintro e w1 ⟨rfl, hk1⟩
         rw [Hi.out]
         have Hk1 : Hid (Keeps No W w1) := ((Keeps.refl W).drew).trans hk1 (fun _ _ h => h)
         clear hk1 p1 p2 p3
         obtain ⟨⟨p1, p2, p3⟩, _⟩ := HF.out w1 Hk1.out)
      | (go_at_call 31
         refine (yes_ft 6 mn fr b0 8 w1).mono ?_
         rintro e w2 ⟨rfl, hk2⟩
         have Hk2 : Hid (Keeps No W w2) := Hk1.out.trans hk2 (fun _ _ h => h)
         clear hk2 p1 p2 p3
         obtain ⟨⟨p1, p2, p3⟩, o2, n2, o3, n3⟩ := HF.out w2 Hk2.out))
  all_goals
    go_wp2
    exact bodyPost_ret (v := .tuple #[recV 0 0 0 Bd.zero, .bool false, msgV 8 mn, .bool true]) (by simp [results, Try.results11, go_sem, *, Bd.zero]) rfl ⟨rfl, ((Hk.out.trans Hk2.out (fun _ _ h => h)).row (by omega) _).row (by omega) _⟩

set_option maxRecDepth 100000 in
set_option maxHeartbeats 4000000 in
theorem hear_3 {l : List Inn} (hv : RdOf cIn w ins l) {b0 : Bd} (hb : RdOf cBd w bv [b0]) (fr mn : Int) (hi : firstOf (isIn fr mn) l = -1) :
    Calls Try.prog 11 #[stV ep t own dead outs ins gh nx, .int .i64 fr, msgIn 7 tt mn cm bv ids] w fun e w' => e = .returned (.tuple #[recV 6 mn fr b0, .bool true, msgV 8 mn, .bool true]) ∧ Keeps No w w' := by
  obtain ⟨va, vc, rfl⟩ := hb.slice
  obtain ⟨g, off, rfl, hc1, hc2, hg⟩ := RdOf.addr cBd hb (by simp)
  have g0 : cellsAt w g off 11 = some (bdC b0) := by
    have := RdOf.at cBd hb 0 (by simp)
    rw [Nat.zero_mul, Nat.add_zero] at this
    exact this
  clear hc1 hc2
  obtain ⟨l1, l2, l3, l4, l5, l6, l7, l8⟩ := lt8 hg
  have Hi := Lib.hid hi; clear hi
  go_enter Try.func11, Try.ntmps11
  go_wp2_with fail
  refine wp_world ?_
  intro W hW
  have hk : Keeps No w W := by rw [hW]; exact (((((Keeps.refl _).alloc _).alloc _).alloc _).alloc _).alloc _
  have F : ∀ w', Keeps No W w' → ((cellsAt w' (w.heap.size + 1 + 1 + 1 + 1) 0 24 = some [.int .i64 6, .int .i64 mn, .int .i64 fr, .slice none 0 0, .int .i64 b0.s, .int .i64 b0.i, .int .i64 b0.g, .int .i64 b0.m, .int .i64 b0.x, .int .i64 b0.y, .int .i64 b0.vx, .int .i64 b0.vy, .int .i64 b0.hp, .int .i64 b0.pw, .int .i64 b0.lf, .slice none 0 0, .int .i64 0, .int .i64 0, .slice none 0 0, .slice none 0 0, .slice none 0 0, .slice none 0 0, .slice none 0 0, .int .i64 0] ∧ cellsAt w' w.heap.size 0 8 = some [.int .i64 ep, .int .i64 t, own, dead, outs, ins, gh, .int .i64 nx] ∧ w'.cell? ⟨w.heap.size + 1, 2, none⟩ = some (.int .i64 mn)) ∧ Open w' (w.heap.size + 1 + 1) ∧ (rowD w' (w.heap.size + 1 + 1)).size = 24 ∧ Open w' (w.heap.size + 1 + 1 + 1) ∧ (rowD w' (w.heap.size + 1 + 1 + 1)).size = 6) := by
    have q : Open W (w.heap.size + 1 + 1) ∧ (rowD W (w.heap.size + 1 + 1)).size = 24 ∧ Open W (w.heap.size + 1 + 1 + 1) ∧ (rowD W (w.heap.size + 1 + 1 + 1)).size = 6 ∧ (cellsAt W (w.heap.size + 1 + 1 + 1 + 1) 0 24 = some [.int .i64 6, .int .i64 mn, .int .i64 fr, .slice none 0 0, .int .i64 b0.s, .int .i64 b0.i, .int .i64 b0.g, .int .i64 b0.m, .int .i64 b0.x, .int .i64 b0.y, .int .i64 b0.vx, .int .i64 b0.vy, .int .i64 b0.hp, .int .i64 b0.pw, .int .i64 b0.lf, .slice none 0 0, .int .i64 0, .int .i64 0, .slice none 0 0, .slice none 0 0, .slice none 0 0, .slice none 0 0, .slice none 0 0, .int .i64 0] ∧ cellsAt W w.heap.size 0 8 = some [.int .i64 ep, .int .i64 t, own, dead, outs, ins, gh, .int .i64 nx] ∧ W.cell? ⟨w.heap.size + 1, 2, none⟩ = some (.int .i64 mn)) := by
      rw [hW]
      refine ⟨?_, ?_, ?_, ?_, ?_, ?_, ?_⟩ <;> simp [go_sem]
    intro w' hkk
    exact ⟨⟨hkk.cellsAt q.2.2.2.2.1, hkk.cellsAt q.2.2.2.2.2.1, hkk.cell q.2.2.2.2.2.2 (fun h => h)⟩, hkk.opened q.1, hkk.rowSize q.1 q.2.1, hkk.opened q.2.2.1, hkk.rowSize q.2.2.1 q.2.2.2.1⟩
  have HF := Lib.hid F
  clear F hW
  obtain ⟨⟨p1, p2, p3⟩, _⟩ := HF.out W (Keeps.refl W)
  have Hk := Lib.hid hk
  clear hk g0 l1 l2 l3 l4 l5 l6 l7 l8
  go_region_held3 (fun w' => cellsAt w' (w.heap.size + 1 + 1 + 1 + 1) 0 24 = some [.int .i64 6, .int .i64 mn, .int .i64 fr, .slice none 0 0, .int .i64 b0.s, .int .i64 b0.i, .int .i64 b0.g, .int .i64 b0.m, .int .i64 b0.x, .int .i64 b0.y, .int .i64 b0.vx, .int .i64 b0.vy, .int .i64 b0.hp, .int .i64 b0.pw, .int .i64 b0.lf, .slice none 0 0, .int .i64 0, .int .i64 0, .slice none 0 0, .slice none 0 0, .slice none 0 0, .slice none 0 0, .slice none 0 0, .int .i64 0] ∧ cellsAt w' w.heap.size 0 8 = some [.int .i64 ep, .int .i64 t, own, dead, outs, ins, gh, .int .i64 nx] ∧ w'.cell? ⟨w.heap.size + 1, 2, none⟩ = some (.int .i64 mn)) (first | exact ⟨p1, p2, p3⟩ | exact ⟨cells_row p1 (by omega), cells_row p2 (by omega), cell_row p3 (by omega)⟩ | exact ⟨cells_row (cells_row p1 (by omega)) (by omega), cells_row (cells_row p2 (by omega)) (by omega), cell_row (cell_row p3 (by omega)) (by omega)⟩)
    (first
      | (go_at_call 32
         refine (in_any (hv.kept Hk.out.drew (fun _ _ h => h)) fr mn).mono ?_
         rintro e w1 ⟨rfl, hk1⟩
         rw [Hi.out]
         have Hk1 : Hid (Keeps No W w1) := ((Keeps.refl W).drew).trans hk1 (fun _ _ h => h)
         clear hk1 p1 p2 p3
         obtain ⟨⟨p1, p2, p3⟩, _⟩ := HF.out w1 Hk1.out)
      | (go_at_call 31
         refine (yes_tt 6 mn fr b0 8 w1).mono ?_
         rintro e w2 ⟨rfl, hk2⟩
         have Hk2 : Hid (Keeps No W w2) := Hk1.out.trans hk2 (fun _ _ h => h)
         clear hk2 p1 p2 p3
         obtain ⟨⟨p1, p2, p3⟩, o2, n2, o3, n3⟩ := HF.out w2 Hk2.out))
  all_goals
    go_wp2
    exact bodyPost_ret (v := .tuple #[recV 6 mn fr b0, .bool true, msgV 8 mn, .bool true]) (by simp [results, Try.results11, go_sem, *]) rfl ⟨rfl, ((Hk.out.trans Hk2.out (fun _ _ h => h)).row (by omega) _).row (by omega) _⟩

set_option maxRecDepth 100000 in
set_option maxHeartbeats 4000000 in
theorem hear_7 {l : List Inn} (hv : RdOf cIn w ins l) (fr mn : Int) (hi : firstOf (isIn fr mn) l = -1) :
    Calls Try.prog 11 #[stV ep t own dead outs ins gh nx, .int .i64 fr, msgIn 9 tt mn cm bv ids] w fun e w' => e = .returned (.tuple #[recV 0 0 0 Bd.zero, .bool false, msgV 10 mn, .bool true]) ∧ Keeps No w w' := by
  have Hi := Lib.hid hi; clear hi
  go_enter Try.func11, Try.ntmps11
  go_wp2_with fail
  refine wp_world ?_
  intro W hW
  have hk : Keeps No w W := by rw [hW]; exact (((((Keeps.refl _).alloc _).alloc _).alloc _).alloc _).alloc _
  have F : ∀ w', Keeps No W w' → ((cellsAt w' (w.heap.size + 1 + 1 + 1 + 1) 0 24 = some [.int .i64 7, .int .i64 mn, .int .i64 fr, .slice none 0 0, .int .i64 0, .int .i64 0, .int .i64 0, .int .i64 0, .int .i64 0, .int .i64 0, .int .i64 0, .int .i64 0, .int .i64 0, .int .i64 0, .int .i64 0, .slice none 0 0, .int .i64 0, .int .i64 0, .slice none 0 0, .slice none 0 0, .slice none 0 0, .slice none 0 0, .slice none 0 0, .int .i64 0] ∧ cellsAt w' w.heap.size 0 8 = some [.int .i64 ep, .int .i64 t, own, dead, outs, ins, gh, .int .i64 nx] ∧ w'.cell? ⟨w.heap.size + 1, 2, none⟩ = some (.int .i64 mn)) ∧ Open w' (w.heap.size + 1 + 1) ∧ (rowD w' (w.heap.size + 1 + 1)).size = 24 ∧ Open w' (w.heap.size + 1 + 1 + 1) ∧ (rowD w' (w.heap.size + 1 + 1 + 1)).size = 6) := by
    have q : Open W (w.heap.size + 1 + 1) ∧ (rowD W (w.heap.size + 1 + 1)).size = 24 ∧ Open W (w.heap.size + 1 + 1 + 1) ∧ (rowD W (w.heap.size + 1 + 1 + 1)).size = 6 ∧ (cellsAt W (w.heap.size + 1 + 1 + 1 + 1) 0 24 = some [.int .i64 7, .int .i64 mn, .int .i64 fr, .slice none 0 0, .int .i64 0, .int .i64 0, .int .i64 0, .int .i64 0, .int .i64 0, .int .i64 0, .int .i64 0, .int .i64 0, .int .i64 0, .int .i64 0, .int .i64 0, .slice none 0 0, .int .i64 0, .int .i64 0, .slice none 0 0, .slice none 0 0, .slice none 0 0, .slice none 0 0, .slice none 0 0, .int .i64 0] ∧ cellsAt W w.heap.size 0 8 = some [.int .i64 ep, .int .i64 t, own, dead, outs, ins, gh, .int .i64 nx] ∧ W.cell? ⟨w.heap.size + 1, 2, none⟩ = some (.int .i64 mn)) := by
      rw [hW]
      refine ⟨?_, ?_, ?_, ?_, ?_, ?_, ?_⟩ <;> simp [go_sem]
    intro w' hkk
    exact ⟨⟨hkk.cellsAt q.2.2.2.2.1, hkk.cellsAt q.2.2.2.2.2.1, hkk.cell q.2.2.2.2.2.2 (fun h => h)⟩, hkk.opened q.1, hkk.rowSize q.1 q.2.1, hkk.opened q.2.2.1, hkk.rowSize q.2.2.1 q.2.2.2.1⟩
  have HF := Lib.hid F
  clear F hW
  obtain ⟨⟨p1, p2, p3⟩, _⟩ := HF.out W (Keeps.refl W)
  have Hk := Lib.hid hk
  clear hk
  go_region_held3 (fun w' => cellsAt w' (w.heap.size + 1 + 1 + 1 + 1) 0 24 = some [.int .i64 7, .int .i64 mn, .int .i64 fr, .slice none 0 0, .int .i64 0, .int .i64 0, .int .i64 0, .int .i64 0, .int .i64 0, .int .i64 0, .int .i64 0, .int .i64 0, .int .i64 0, .int .i64 0, .int .i64 0, .slice none 0 0, .int .i64 0, .int .i64 0, .slice none 0 0, .slice none 0 0, .slice none 0 0, .slice none 0 0, .slice none 0 0, .int .i64 0] ∧ cellsAt w' w.heap.size 0 8 = some [.int .i64 ep, .int .i64 t, own, dead, outs, ins, gh, .int .i64 nx] ∧ w'.cell? ⟨w.heap.size + 1, 2, none⟩ = some (.int .i64 mn)) (first | exact ⟨p1, p2, p3⟩ | exact ⟨cells_row p1 (by omega), cells_row p2 (by omega), cell_row p3 (by omega)⟩ | exact ⟨cells_row (cells_row p1 (by omega)) (by omega), cells_row (cells_row p2 (by omega)) (by omega), cell_row (cell_row p3 (by omega)) (by omega)⟩)
    (first
      | (go_at_call 32
         refine (in_any (hv.kept Hk.out.drew (fun _ _ h => h)) fr mn).mono ?_
         rintro e w1 ⟨rfl, hk1⟩
         rw [Hi.out]
         have Hk1 : Hid (Keeps No W w1) := ((Keeps.refl W).drew).trans hk1 (fun _ _ h => h)
         clear hk1 p1 p2 p3
         obtain ⟨⟨p1, p2, p3⟩, _⟩ := HF.out w1 Hk1.out)
      | (go_at_call 31
         refine (yes_ft 7 mn fr Bd.zero 10 w1).mono ?_
         rintro e w2 ⟨rfl, hk2⟩
         have Hk2 : Hid (Keeps No W w2) := Hk1.out.trans hk2 (fun _ _ h => h)
         clear hk2 p1 p2 p3
         obtain ⟨⟨p1, p2, p3⟩, o2, n2, o3, n3⟩ := HF.out w2 Hk2.out))
  all_goals
    go_wp2
    exact bodyPost_ret (v := .tuple #[recV 0 0 0 Bd.zero, .bool false, msgV 10 mn, .bool true]) (by simp [results, Try.results11, go_sem, *, Bd.zero]) rfl ⟨rfl, ((Hk.out.trans Hk2.out (fun _ _ h => h)).row (by omega) _).row (by omega) _⟩

set_option maxRecDepth 100000 in
set_option maxHeartbeats 4000000 in
theorem hear_8 {l : List Inn} (hv : RdOf cIn w ins l) (fr mn : Int) (j : Nat) (hi : firstOf (isIn fr mn) l = j) :
    Calls Try.prog 11 #[stV ep t own dead outs ins gh nx, .int .i64 fr, msgIn 9 tt mn cm bv ids] w fun e w' => e = .returned (.tuple #[recV 7 mn fr Bd.zero, .bool true, msgV 10 mn, .bool true]) ∧ Keeps No w w' := by
  have Hi := Lib.hid hi; clear hi
  go_enter Try.func11, Try.ntmps11
  go_wp2_with fail
  refine wp_world ?_
  intro W hW
  have hk : Keeps No w W := by rw [hW]; exact (((((Keeps.refl _).alloc _).alloc _).alloc _).alloc _).alloc _
  have F : ∀ w', Keeps No W w' → ((cellsAt w' (w.heap.size + 1 + 1 + 1 + 1) 0 24 = some [.int .i64 7, .int .i64 mn, .int .i64 fr, .slice none 0 0, .int .i64 0, .int .i64 0, .int .i64 0, .int .i64 0, .int .i64 0, .int .i64 0, .int .i64 0, .int .i64 0, .int .i64 0, .int .i64 0, .int .i64 0, .slice none 0 0, .int .i64 0, .int .i64 0, .slice none 0 0, .slice none 0 0, .slice none 0 0, .slice none 0 0, .slice none 0 0, .int .i64 0] ∧ cellsAt w' w.heap.size 0 8 = some [.int .i64 ep, .int .i64 t, own, dead, outs, ins, gh, .int .i64 nx] ∧ w'.cell? ⟨w.heap.size + 1, 2, none⟩ = some (.int .i64 mn)) ∧ Open w' (w.heap.size + 1 + 1) ∧ (rowD w' (w.heap.size + 1 + 1)).size = 24 ∧ Open w' (w.heap.size + 1 + 1 + 1) ∧ (rowD w' (w.heap.size + 1 + 1 + 1)).size = 6) := by
    have q : Open W (w.heap.size + 1 + 1) ∧ (rowD W (w.heap.size + 1 + 1)).size = 24 ∧ Open W (w.heap.size + 1 + 1 + 1) ∧ (rowD W (w.heap.size + 1 + 1 + 1)).size = 6 ∧ (cellsAt W (w.heap.size + 1 + 1 + 1 + 1) 0 24 = some [.int .i64 7, .int .i64 mn, .int .i64 fr, .slice none 0 0, .int .i64 0, .int .i64 0, .int .i64 0, .int .i64 0, .int .i64 0, .int .i64 0, .int .i64 0, .int .i64 0, .int .i64 0, .int .i64 0, .int .i64 0, .slice none 0 0, .int .i64 0, .int .i64 0, .slice none 0 0, .slice none 0 0, .slice none 0 0, .slice none 0 0, .slice none 0 0, .int .i64 0] ∧ cellsAt W w.heap.size 0 8 = some [.int .i64 ep, .int .i64 t, own, dead, outs, ins, gh, .int .i64 nx] ∧ W.cell? ⟨w.heap.size + 1, 2, none⟩ = some (.int .i64 mn)) := by
      rw [hW]
      refine ⟨?_, ?_, ?_, ?_, ?_, ?_, ?_⟩ <;> simp [go_sem]
    intro w' hkk
    exact ⟨⟨hkk.cellsAt q.2.2.2.2.1, hkk.cellsAt q.2.2.2.2.2.1, hkk.cell q.2.2.2.2.2.2 (fun h => h)⟩, hkk.opened q.1, hkk.rowSize q.1 q.2.1, hkk.opened q.2.2.1, hkk.rowSize q.2.2.1 q.2.2.2.1⟩
  have HF := Lib.hid F
  clear F hW
  obtain ⟨⟨p1, p2, p3⟩, _⟩ := HF.out W (Keeps.refl W)
  have Hk := Lib.hid hk
  clear hk
  go_region_held3 (fun w' => cellsAt w' (w.heap.size + 1 + 1 + 1 + 1) 0 24 = some [.int .i64 7, .int .i64 mn, .int .i64 fr, .slice none 0 0, .int .i64 0, .int .i64 0, .int .i64 0, .int .i64 0, .int .i64 0, .int .i64 0, .int .i64 0, .int .i64 0, .int .i64 0, .int .i64 0, .int .i64 0, .slice none 0 0, .int .i64 0, .int .i64 0, .slice none 0 0, .slice none 0 0, .slice none 0 0, .slice none 0 0, .slice none 0 0, .int .i64 0] ∧ cellsAt w' w.heap.size 0 8 = some [.int .i64 ep, .int .i64 t, own, dead, outs, ins, gh, .int .i64 nx] ∧ w'.cell? ⟨w.heap.size + 1, 2, none⟩ = some (.int .i64 mn)) (first | exact ⟨p1, p2, p3⟩ | exact ⟨cells_row p1 (by omega), cells_row p2 (by omega), cell_row p3 (by omega)⟩ | exact ⟨cells_row (cells_row p1 (by omega)) (by omega), cells_row (cells_row p2 (by omega)) (by omega), cell_row (cell_row p3 (by omega)) (by omega)⟩)
    (first
      | (go_at_call 32
         refine (in_any (hv.kept Hk.out.drew (fun _ _ h => h)) fr mn).mono ?_
         rintro e w1 ⟨rfl, hk1⟩
         rw [Hi.out]
         have Hk1 : Hid (Keeps No W w1) := ((Keeps.refl W).drew).trans hk1 (fun _ _ h => h)
         clear hk1 p1 p2 p3
         obtain ⟨⟨p1, p2, p3⟩, _⟩ := HF.out w1 Hk1.out)
      | (go_at_call 31
         refine (yes_tt 7 mn fr Bd.zero 10 w1).mono ?_
         rintro e w2 ⟨rfl, hk2⟩
         have Hk2 : Hid (Keeps No W w2) := Hk1.out.trans hk2 (fun _ _ h => h)
         clear hk2 p1 p2 p3
         obtain ⟨⟨p1, p2, p3⟩, o2, n2, o3, n3⟩ := HF.out w2 Hk2.out))
  all_goals
    go_wp2
    exact bodyPost_ret (v := .tuple #[recV 7 mn fr Bd.zero, .bool true, msgV 10 mn, .bool true]) (by simp [results, Try.results11, go_sem, *]) rfl ⟨rfl, ((Hk.out.trans Hk2.out (fun _ _ h => h)).row (by omega) _).row (by omega) _⟩

set_option maxRecDepth 100000 in
set_option maxHeartbeats 4000000 in
theorem hear_4 {l : List Ou} (hv : RdOf cOu w outs l) (fr mn : Int) (hi : firstOf (isOut mn 2) l = -1) :
    Calls Try.prog 11 #[stV ep t own dead outs ins gh nx, .int .i64 fr, msgIn 8 tt mn cm bv ids] w fun e w' => e = .returned (.tuple #[recV 0 0 0 Bd.zero, .bool false, msgV 0 0, .bool false]) ∧ Keeps No w w' := by
  obtain ⟨va, vc, rfl⟩ := hv.slice
  have hlb : (0 : Int) ≤ (l.length : Int) := by omega
  have Hi := Lib.hid hi; clear hi
  go_enter Try.func11, Try.ntmps11
  go_wp2_with fail
  refine (out_any (hv.kept ((((((Keeps.refl _).alloc _).alloc _).alloc _).alloc _).alloc _) (fun _ _ h => h)) mn 2).mono ?_
  rintro e w1 ⟨rfl, hk1⟩
  rw [Hi.out]
  have p1 : cellsAt w1 (w.heap.size + 1 + 1 + 1 + 1) 0 24 = some [.int .i64 4, .int .i64 mn, .int .i64 0, .slice none 0 0, .int .i64 0, .int .i64 0, .int .i64 0, .int .i64 0, .int .i64 0, .int .i64 0, .int .i64 0, .int .i64 0, .int .i64 0, .int .i64 0, .int .i64 0, .slice none 0 0, .int .i64 0, .int .i64 0, .slice none 0 0, .slice none 0 0, .slice none 0 0, .slice none 0 0, .slice none 0 0, .int .i64 0] := hk1.cellsAt (by simp [go_sem])
  have p2 : cellsAt w1 w.heap.size 0 8 = some [.int .i64 ep, .int .i64 t, own, dead, (.slice va l.length vc), ins, gh, .int .i64 nx] := hk1.cellsAt (by simp [go_sem])
  have p3 : w1.cell? ⟨w.heap.size, 4, none⟩ = some _ := cellsAt_cell p2 4 _ rfl
  have o2 : Open w1 (w.heap.size + 1 + 1) := hk1.opened (by simp [go_sem])
  have n2 : (rowD w1 (w.heap.size + 1 + 1)).size = 24 := hk1.rowSize (by simp [go_sem]) (by simp [go_sem])
  have o3 : Open w1 (w.heap.size + 1 + 1 + 1) := hk1.opened (by simp [go_sem])
  have n3 : (rowD w1 (w.heap.size + 1 + 1 + 1)).size = 6 := hk1.rowSize (by simp [go_sem]) (by simp [go_sem])
  have hk : Keeps No w w1 := ((((((Keeps.refl _).alloc _).alloc _).alloc _).alloc _).alloc _).trans hk1 (fun _ _ h => h)
  have Hk := Lib.hid hk
  clear hk hk1
  go_wp2_with fail
  refine (yes_ff 4 mn 0 Bd.zero 9 w1).mono ?_
  rintro e w2 ⟨rfl, hk2⟩
  have q2 : Open w2 (w.heap.size + 1 + 1) := hk2.opened o2
  have m2 : (rowD w2 (w.heap.size + 1 + 1)).size = 24 := hk2.rowSize o2 n2
  have q3 : Open w2 (w.heap.size + 1 + 1 + 1) := hk2.opened o3
  have m3 : (rowD w2 (w.heap.size + 1 + 1 + 1)).size = 6 := hk2.rowSize o3 n3
  have Hk2 : Hid (Keeps No w w2) := Hk.out.trans hk2 (fun _ _ h => h)
  clear hk2 o2 o3 n2 n3
  go_wp2
  exact bodyPost_ret (v := .tuple #[recV 0 0 0 Bd.zero, .bool false, msgV 0 0, .bool false]) (by simp [results, Try.results11, go_sem, *, Bd.zero]) rfl ⟨rfl, (Hk2.out.row (by omega) _).row (by omega) _⟩

set_option maxRecDepth 100000 in
set_option maxHeartbeats 4000000 in
theorem hear_5 {l : List Ou} (hv : RdOf cOu w outs l) (fr mn : Int) (j : Nat) (hj : j < l.length) (hi : firstOf (isOut mn 2) l = j) (ht : (l[j].to == fr) = false) :
    Calls Try.prog 11 #[stV ep t own dead outs ins gh nx, .int .i64 fr, msgIn 8 tt mn cm bv ids] w fun e w' => e = .returned (.tuple #[recV 0 0 0 Bd.zero, .bool false, msgV 0 0, .bool false]) ∧ Keeps No w w' := by
  obtain ⟨va, vc, rfl⟩ := hv.slice
  obtain ⟨g, off, rfl, hc1, hc2, hg⟩ := RdOf.addr cOu hv (by omega)
  have g0 : cellsAt w g (off + j * 14) 14 = some (ouC l[j]) := RdOf.at cOu hv j hj
  have gt : w.cell? ⟨g, off + j * 14 + 1, none⟩ = some (.int .i64 l[j].to) := cellsAt_cell g0 1 _ rfl
  have hj0 : (0 : Int) ≤ (j : Int) := by omega
  have hj1 : (j : Int) < (l.length : Int) := by omega
  have hd0 : decide ((0 : Int) ≤ (j : Int)) = true := decide_eq_true hj0
  have hd1 : decide ((j : Int) < 0) = false := decide_eq_false (by omega)
  clear hc1 hc2 g0
  have Hi := Lib.hid hi; clear hi
  go_enter Try.func11, Try.ntmps11
  go_wp2_with fail
  refine (out_any (hv.kept ((((((Keeps.refl _).alloc _).alloc _).alloc _).alloc _).alloc _) (fun _ _ h => h)) mn 2).mono ?_
  rintro e w1 ⟨rfl, hk1⟩
  rw [Hi.out]
  have p1 : cellsAt w1 (w.heap.size + 1 + 1 + 1 + 1) 0 24 = some [.int .i64 4, .int .i64 mn, .int .i64 0, .slice none 0 0, .int .i64 0, .int .i64 0, .int .i64 0, .int .i64 0, .int .i64 0, .int .i64 0, .int .i64 0, .int .i64 0, .int .i64 0, .int .i64 0, .int .i64 0, .slice none 0 0, .int .i64 0, .int .i64 0, .slice none 0 0, .slice none 0 0, .slice none 0 0, .slice none 0 0, .slice none 0 0, .int .i64 0] := hk1.cellsAt (by simp [go_sem])
  have p2 : cellsAt w1 w.heap.size 0 8 = some [.int .i64 ep, .int .i64 t, own, dead, (.slice (some ⟨g, off, none⟩) l.length vc), ins, gh, .int .i64 nx] := hk1.cellsAt (by simp [go_sem])
  have p3 : w1.cell? ⟨w.heap.size, 4, none⟩ = some _ := cellsAt_cell p2 4 _ rfl
  have o2 : Open w1 (w.heap.size + 1 + 1) := hk1.opened (by simp [go_sem])
  have n2 : (rowD w1 (w.heap.size + 1 + 1)).size = 24 := hk1.rowSize (by simp [go_sem]) (by simp [go_sem])
  have o3 : Open w1 (w.heap.size + 1 + 1 + 1) := hk1.opened (by simp [go_sem])
  have n3 : (rowD w1 (w.heap.size + 1 + 1 + 1)).size = 6 := hk1.rowSize (by simp [go_sem]) (by simp [go_sem])
  have hk : Keeps No w w1 := ((((((Keeps.refl _).alloc _).alloc _).alloc _).alloc _).alloc _).trans hk1 (fun _ _ h => h)
  have gt1 : w1.cell? ⟨g, off + j * 14 + 1, none⟩ = some (.int .i64 l[j].to) := hk.cell gt (fun h => h)
  have Hk := Lib.hid hk
  clear hk hk1 gt
  go_wp2_with fail
  refine (yes_ff 4 mn 0 Bd.zero 9 w1).mono ?_
  rintro e w2 ⟨rfl, hk2⟩
  have q2 : Open w2 (w.heap.size + 1 + 1) := hk2.opened o2
  have m2 : (rowD w2 (w.heap.size + 1 + 1)).size = 24 := hk2.rowSize o2 n2
  have q3 : Open w2 (w.heap.size + 1 + 1 + 1) := hk2.opened o3
  have m3 : (rowD w2 (w.heap.size + 1 + 1 + 1)).size = 6 := hk2.rowSize o3 n3
  have Hk2 : Hid (Keeps No w w2) := Hk.out.trans hk2 (fun _ _ h => h)
  clear hk2 o2 o3 n2 n3
  go_wp2
  exact bodyPost_ret (v := .tuple #[recV 0 0 0 Bd.zero, .bool false, msgV 0 0, .bool false]) (by simp [results, Try.results11, go_sem, *, Bd.zero]) rfl ⟨rfl, (Hk2.out.row (by omega) _).row (by omega) _⟩

set_option maxRecDepth 100000 in
set_option maxHeartbeats 4000000 in
theorem hear_6 {l : List Ou} (hv : RdOf cOu w outs l) (fr mn : Int) (j : Nat) (hj : j < l.length) (hi : firstOf (isOut mn 2) l = j) (ht : (l[j].to == fr) = true) :
    Calls Try.prog 11 #[stV ep t own dead outs ins gh nx, .int .i64 fr, msgIn 8 tt mn cm bv ids] w fun e w' => e = .returned (.tuple #[recV 4 mn 0 Bd.zero, .bool true, msgV 9 mn, .bool true]) ∧ Keeps No w w' := by
  obtain ⟨va, vc, rfl⟩ := hv.slice
  obtain ⟨g, off, rfl, hc1, hc2, hg⟩ := RdOf.addr cOu hv (by omega)
  have g0 : cellsAt w g (off + j * 14) 14 = some (ouC l[j]) := RdOf.at cOu hv j hj
  have gt : w.cell? ⟨g, off + j * 14 + 1, none⟩ = some (.int .i64 l[j].to) := cellsAt_cell g0 1 _ rfl
  have hj0 : (0 : Int) ≤ (j : Int) := by omega
  have hj1 : (j : Int) < (l.length : Int) := by omega
  have hd0 : decide ((0 : Int) ≤ (j : Int)) = true := decide_eq_true hj0
  have hd1 : decide ((j : Int) < 0) = false := decide_eq_false (by omega)
  clear hc1 hc2 g0
  have Hi := Lib.hid hi; clear hi
  go_enter Try.func11, Try.ntmps11
  go_wp2_with fail
  refine (out_any (hv.kept ((((((Keeps.refl _).alloc _).alloc _).alloc _).alloc _).alloc _) (fun _ _ h => h)) mn 2).mono ?_
  rintro e w1 ⟨rfl, hk1⟩
  rw [Hi.out]
  have p1 : cellsAt w1 (w.heap.size + 1 + 1 + 1 + 1) 0 24 = some [.int .i64 4, .int .i64 mn, .int .i64 0, .slice none 0 0, .int .i64 0, .int .i64 0, .int .i64 0, .int .i64 0, .int .i64 0, .int .i64 0, .int .i64 0, .int .i64 0, .int .i64 0, .int .i64 0, .int .i64 0, .slice none 0 0, .int .i64 0, .int .i64 0, .slice none 0 0, .slice none 0 0, .slice none 0 0, .slice none 0 0, .slice none 0 0, .int .i64 0] := hk1.cellsAt (by simp [go_sem])
  have p2 : cellsAt w1 w.heap.size 0 8 = some [.int .i64 ep, .int .i64 t, own, dead, (.slice (some ⟨g, off, none⟩) l.length vc), ins, gh, .int .i64 nx] := hk1.cellsAt (by simp [go_sem])
  have p3 : w1.cell? ⟨w.heap.size, 4, none⟩ = some _ := cellsAt_cell p2 4 _ rfl
  have o2 : Open w1 (w.heap.size + 1 + 1) := hk1.opened (by simp [go_sem])
  have n2 : (rowD w1 (w.heap.size + 1 + 1)).size = 24 := hk1.rowSize (by simp [go_sem]) (by simp [go_sem])
  have o3 : Open w1 (w.heap.size + 1 + 1 + 1) := hk1.opened (by simp [go_sem])
  have n3 : (rowD w1 (w.heap.size + 1 + 1 + 1)).size = 6 := hk1.rowSize (by simp [go_sem]) (by simp [go_sem])
  have hk : Keeps No w w1 := ((((((Keeps.refl _).alloc _).alloc _).alloc _).alloc _).alloc _).trans hk1 (fun _ _ h => h)
  have gt1 : w1.cell? ⟨g, off + j * 14 + 1, none⟩ = some (.int .i64 l[j].to) := hk.cell gt (fun h => h)
  have Hk := Lib.hid hk
  clear hk hk1 gt
  go_wp2_with fail
  refine (yes_tt 4 mn 0 Bd.zero 9 w1).mono ?_
  rintro e w2 ⟨rfl, hk2⟩
  have q2 : Open w2 (w.heap.size + 1 + 1) := hk2.opened o2
  have m2 : (rowD w2 (w.heap.size + 1 + 1)).size = 24 := hk2.rowSize o2 n2
  have q3 : Open w2 (w.heap.size + 1 + 1 + 1) := hk2.opened o3
  have m3 : (rowD w2 (w.heap.size + 1 + 1 + 1)).size = 6 := hk2.rowSize o3 n3
  have Hk2 : Hid (Keeps No w w2) := Hk.out.trans hk2 (fun _ _ h => h)
  clear hk2 o2 o3 n2 n3
  go_wp2
  exact bodyPost_ret (v := .tuple #[recV 4 mn 0 Bd.zero, .bool true, msgV 9 mn, .bool true]) (by simp [results, Try.results11, go_sem, *, Bd.zero]) rfl ⟨rfl, (Hk2.out.row (by omega) _).row (by omega) _⟩

set_option maxRecDepth 100000 in
set_option maxHeartbeats 4000000 in
theorem hear_9 {l : List Ou} (hv : RdOf cOu w outs l) (fr mn : Int) (hi : firstOf (isOut mn 3) l = -1) :
    Calls Try.prog 11 #[stV ep t own dead outs ins gh nx, .int .i64 fr, msgIn 10 tt mn cm bv ids] w fun e w' => e = .returned (.tuple #[recV 0 0 0 Bd.zero, .bool false, msgV 0 0, .bool false]) ∧ Keeps No w w' := by
  obtain ⟨va, vc, rfl⟩ := hv.slice
  have hlb : (0 : Int) ≤ (l.length : Int) := by omega
  have Hi := Lib.hid hi; clear hi
  go_enter Try.func11, Try.ntmps11
  go_wp2_with fail
  refine (out_any (hv.kept ((((((Keeps.refl _).alloc _).alloc _).alloc _).alloc _).alloc _) (fun _ _ h => h)) mn 3).mono ?_
  rintro e w1 ⟨rfl, hk1⟩
  rw [Hi.out]
  have p1 : cellsAt w1 (w.heap.size + 1 + 1 + 1 + 1) 0 24 = some [.int .i64 5, .int .i64 mn, .int .i64 0, .slice none 0 0, .int .i64 0, .int .i64 0, .int .i64 0, .int .i64 0, .int .i64 0, .int .i64 0, .int .i64 0, .int .i64 0, .int .i64 0, .int .i64 0, .int .i64 0, .slice none 0 0, .int .i64 0, .int .i64 0, .slice none 0 0, .slice none 0 0, .slice none 0 0, .slice none 0 0, .slice none 0 0, .int .i64 0] := hk1.cellsAt (by simp [go_sem])
  have p2 : cellsAt w1 w.heap.size 0 8 = some [.int .i64 ep, .int .i64 t, own, dead, (.slice va l.length vc), ins, gh, .int .i64 nx] := hk1.cellsAt (by simp [go_sem])
  have p3 : w1.cell? ⟨w.heap.size, 4, none⟩ = some _ := cellsAt_cell p2 4 _ rfl
  have o2 : Open w1 (w.heap.size + 1 + 1) := hk1.opened (by simp [go_sem])
  have n2 : (rowD w1 (w.heap.size + 1 + 1)).size = 24 := hk1.rowSize (by simp [go_sem]) (by simp [go_sem])
  have o3 : Open w1 (w.heap.size + 1 + 1 + 1) := hk1.opened (by simp [go_sem])
  have n3 : (rowD w1 (w.heap.size + 1 + 1 + 1)).size = 6 := hk1.rowSize (by simp [go_sem]) (by simp [go_sem])
  have hk : Keeps No w w1 := ((((((Keeps.refl _).alloc _).alloc _).alloc _).alloc _).alloc _).trans hk1 (fun _ _ h => h)
  have Hk := Lib.hid hk
  clear hk hk1
  go_wp2_with fail
  refine wp_region_any (by kernel_rfl) ?_
  change wpAny _ _ _ _ _ _ _ (World.drew _)
  refine wpAny_take (i := 1) (v := (.int .i64 (-1))) rfl (by kernel_rfl) (by kernel_rfl) (by kernel_rfl) (fun _ _ _ h => h) (Or.inl ⟨by rfl, fun w => by go_simp⟩) ?_
  refine wpAny_take (i := 2) (v := (.bool false)) rfl (by kernel_rfl) (by kernel_rfl) (by kernel_rfl) (fun _ _ _ h => h) (Or.inl ⟨by rfl, fun w => by go_simp⟩) ?_
  refine wpAny_take (i := 3) (v := (.bool false)) rfl (by kernel_rfl) (by kernel_rfl) (by kernel_rfl) (fun _ _ _ h => h) (Or.inl ⟨by rfl, fun w => by go_simp⟩) ?_
  refine wpAny_take (i := 4) (v := undef) rfl (by kernel_rfl) (by kernel_rfl) (by kernel_rfl) (fun _ _ _ h => h) (Or.inr ⟨by kernel_rfl, rfl⟩) ?_
  refine wpAny_take (i := 5) (v := undef) rfl (by kernel_rfl) (by kernel_rfl) (by kernel_rfl) (fun _ _ _ h => h) (Or.inr ⟨by kernel_rfl, rfl⟩) ?_
  refine wpAny_take (i := 6) (v := undef) rfl (by kernel_rfl) (by kernel_rfl) (by kernel_rfl) (fun _ _ _ h => h) (Or.inr ⟨by kernel_rfl, rfl⟩) ?_
  refine wpAny_take (i := 7) (v := undef) rfl (by kernel_rfl) (by kernel_rfl) (by kernel_rfl) (fun _ _ _ h => h) (Or.inr ⟨by kernel_rfl, rfl⟩) ?_
  refine wpAny_take (i := 8) (v := undef) rfl (by kernel_rfl) (by kernel_rfl) (by kernel_rfl) (fun _ _ _ h => h) (Or.inr ⟨by kernel_rfl, rfl⟩) ?_
  refine wpAny_take (i := 9) (v := undef) rfl (by kernel_rfl) (by kernel_rfl) (by kernel_rfl) (fun _ _ _ h => h) (Or.inr ⟨by kernel_rfl, rfl⟩) ?_
  refine wpAny_take (i := 10) (v := undef) rfl (by kernel_rfl) (by kernel_rfl) (by kernel_rfl) (fun _ _ _ h => h) (Or.inr ⟨by kernel_rfl, rfl⟩) ?_
  refine wpAny_take (i := 11) (v := undef) rfl (by kernel_rfl) (by kernel_rfl) (by kernel_rfl) (fun _ _ _ h => h) (Or.inr ⟨by kernel_rfl, rfl⟩) ?_
  refine wpAny_take (i := 12) (v := (.bool false)) rfl (by kernel_rfl) (by kernel_rfl) (by kernel_rfl) (fun _ _ _ h => h) (Or.inl ⟨by rfl, fun w => by go_simp⟩) ?_
  refine wpAny_ready (rs := [0]) (by kernel_rfl) (by simp) ?_
  refine AllReady.cons rfl (fun K hK => ?_) AllReady.nil
  go_simp
  refine hK _ _ ?_
  clear hK K
  refine wpAny_ready (rs := [13]) (by kernel_rfl) (by simp) ?_
  refine AllReady.cons rfl (fun K hK => ?_) AllReady.nil
  go_simp
  go_wp2_with (go_at_call 31; refine (yes_ff 5 mn 0 Bd.zero 0 w1.drew).mono ?_; rintro e w2 ⟨rfl, hk2'⟩; have hk2 : Keeps No w1 w2 := ((Keeps.refl w1).drew).trans hk2' (fun _ _ h => h); have q2 : Open w2 (w.heap.size + 1 + 1) := hk2.opened o2; have m2 : (rowD w2 (w.heap.size + 1 + 1)).size = 24 := hk2.rowSize o2 n2; have q3 : Open w2 (w.heap.size + 1 + 1 + 1) := hk2.opened o3; have m3 : (rowD w2 (w.heap.size + 1 + 1 + 1)).size = 6 := hk2.rowSize o3 n3; have Hk2 : Hid (Keeps No w w2) := Hk.out.trans hk2 (fun _ _ h => h); have p1' := hk2.cellsAt p1; clear hk2 hk2' o2 o3 n2 n3 p1; have p1 := p1'; clear p1')
  refine wpAny_take (i := 14) (v := (recV 0 0 0 Bd.zero)) rfl (by kernel_rfl) (by kernel_rfl) (by kernel_rfl) (fun _ _ _ h => h) (Or.inl ⟨by rfl, fun w => by go_simp⟩) ?_
  refine wpAny_take (i := 15) (v := (.bool false)) rfl (by kernel_rfl) (by kernel_rfl) (by kernel_rfl) (fun _ _ _ h => h) (Or.inl ⟨by rfl, fun w => by go_simp⟩) ?_
  refine wpAny_take (i := 16) (v := (msgV 0 0)) rfl (by kernel_rfl) (by kernel_rfl) (by kernel_rfl) (fun _ _ _ h => h) (Or.inl ⟨by rfl, fun w => by go_simp⟩) ?_
  refine wpAny_take (i := 17) (v := (.bool false)) rfl (by kernel_rfl) (by kernel_rfl) (by kernel_rfl) (fun _ _ _ h => h) (Or.inl ⟨by rfl, fun w => by go_simp⟩) ?_
  refine wpAny_ready (rs := [18]) (by kernel_rfl) (by simp) ?_
  refine AllReady.cons rfl (fun K hK => ?_) AllReady.nil
  go_simp
  refine hK _ _ ?_
  clear hK K
  refine wpAny_take (i := 19) (v := (.bool false)) rfl (by kernel_rfl) (by kernel_rfl) (by kernel_rfl) (fun _ _ _ h => h) (Or.inl ⟨by rfl, fun w => by go_simp⟩) ?_
  refine wpAny_ready (rs := [20]) (by kernel_rfl) (by simp) ?_
  refine AllReady.cons rfl (fun K hK => ?_) AllReady.nil
  go_simp
  refine hK _ _ ?_
  clear hK K
  refine wpAny_take (i := 21) (v := (.bool false)) rfl (by kernel_rfl) (by kernel_rfl) (by kernel_rfl) (fun _ _ _ h => h) (Or.inl ⟨by rfl, fun w => by go_simp⟩) ?_
  refine wpAny_done (by kernel_rfl) ?_ _
  go_wp2
  exact bodyPost_ret (v := .tuple #[recV 0 0 0 Bd.zero, .bool false, msgV 0 0, .bool false]) (by simp [results, Try.results11, go_sem, *, Bd.zero]) rfl ⟨rfl, (Hk2.out.row (by omega) _).row (by omega) _⟩

set_option maxRecDepth 100000 in
set_option maxHeartbeats 4000000 in
theorem hear_10 {l : List Ou} (hv : RdOf cOu w outs l) (fr mn : Int) (j : Nat) (hj : j < l.length) (hi : firstOf (isOut mn 3) l = j) (ht : (l[j].to == fr) = false) :
    Calls Try.prog 11 #[stV ep t own dead outs ins gh nx, .int .i64 fr, msgIn 10 tt mn cm bv ids] w fun e w' => e = .returned (.tuple #[recV 0 0 0 Bd.zero, .bool false, msgV 0 0, .bool false]) ∧ Keeps No w w' := by
  obtain ⟨va, vc, rfl⟩ := hv.slice
  obtain ⟨g, off, rfl, hc1, hc2, hg⟩ := RdOf.addr cOu hv (by omega)
  have g0 : cellsAt w g (off + j * 14) 14 = some (ouC l[j]) := RdOf.at cOu hv j hj
  have gt : w.cell? ⟨g, off + j * 14 + 1, none⟩ = some (.int .i64 l[j].to) := cellsAt_cell g0 1 _ rfl
  have hj0 : (0 : Int) ≤ (j : Int) := by omega
  have hj1 : (j : Int) < (l.length : Int) := by omega
  have hd0 : decide ((0 : Int) ≤ (j : Int)) = true := decide_eq_true hj0
  have hd1 : decide ((j : Int) < 0) = false := decide_eq_false (by omega)
  clear hc1 hc2 g0
  have Hi := Lib.hid hi; clear hi
  go_enter Try.func11, Try.ntmps11
  go_wp2_with fail
  refine (out_any (hv.kept ((((((Keeps.refl _).alloc _).alloc _).alloc _).alloc _).alloc _) (fun _ _ h => h)) mn 3).mono ?_
  rintro e w1 ⟨rfl, hk1⟩
  rw [Hi.out]
  have p1 : cellsAt w1 (w.heap.size + 1 + 1 + 1 + 1) 0 24 = some [.int .i64 5, .int .i64 mn, .int .i64 0, .slice none 0 0, .int .i64 0, .int .i64 0, .int .i64 0, .int .i64 0, .int .i64 0, .int .i64 0, .int .i64 0, .int .i64 0, .int .i64 0, .int .i64 0, .int .i64 0, .slice none 0 0, .int .i64 0, .int .i64 0, .slice none 0 0, .slice none 0 0, .slice none 0 0, .slice none 0 0, .slice none 0 0, .int .i64 0] := hk1.cellsAt (by simp [go_sem])
  have p2 : cellsAt w1 w.heap.size 0 8 = some [.int .i64 ep, .int .i64 t, own, dead, (.slice (some ⟨g, off, none⟩) l.length vc), ins, gh, .int .i64 nx] := hk1.cellsAt (by simp [go_sem])
  have p3 : w1.cell? ⟨w.heap.size, 4, none⟩ = some _ := cellsAt_cell p2 4 _ rfl
  have o2 : Open w1 (w.heap.size + 1 + 1) := hk1.opened (by simp [go_sem])
  have n2 : (rowD w1 (w.heap.size + 1 + 1)).size = 24 := hk1.rowSize (by simp [go_sem]) (by simp [go_sem])
  have o3 : Open w1 (w.heap.size + 1 + 1 + 1) := hk1.opened (by simp [go_sem])
  have n3 : (rowD w1 (w.heap.size + 1 + 1 + 1)).size = 6 := hk1.rowSize (by simp [go_sem]) (by simp [go_sem])
  have hk : Keeps No w w1 := ((((((Keeps.refl _).alloc _).alloc _).alloc _).alloc _).alloc _).trans hk1 (fun _ _ h => h)
  have gt1 : w1.cell? ⟨g, off + j * 14 + 1, none⟩ = some (.int .i64 l[j].to) := hk.cell gt (fun h => h)
  have Hk := Lib.hid hk
  clear hk hk1 gt
  go_wp2_with fail
  first
    | go_region_held3 (fun w' => cellsAt w' (w.heap.size + 1 + 1 + 1 + 1) 0 24 = some [.int .i64 5, .int .i64 mn, .int .i64 0, .slice none 0 0, .int .i64 0, .int .i64 0, .int .i64 0, .int .i64 0, .int .i64 0, .int .i64 0, .int .i64 0, .int .i64 0, .int .i64 0, .int .i64 0, .int .i64 0, .slice none 0 0, .int .i64 0, .int .i64 0, .slice none 0 0, .slice none 0 0, .slice none 0 0, .slice none 0 0, .slice none 0 0, .int .i64 0] ∧ w'.cell? ⟨w.heap.size, 4, none⟩ = some (.slice (some ⟨g, off, none⟩) l.length vc) ∧ w'.cell? ⟨g, off + j * 14 + 1, none⟩ = some (.int .i64 l[j].to)) (first | exact ⟨p1, p3, gt1⟩ | exact ⟨cells_row p1 (by omega), cell_row p3 (by omega), cell_row gt1 (by omega)⟩ | exact ⟨cells_row (cells_row p1 (by omega)) (by omega), cell_row (cell_row p3 (by omega)) (by omega), cell_row (cell_row gt1 (by omega)) (by omega)⟩)
        (first
          | (go_at_call 31
             refine (yes_ff 5 mn 0 Bd.zero 0 w1.drew).mono ?_
             rintro e w2 ⟨rfl, hk2'⟩
             have hk2 : Keeps No w1 w2 := ((Keeps.refl w1).drew).trans hk2' (fun _ _ h => h)
             have q2 : Open w2 (w.heap.size + 1 + 1) := hk2.opened o2
             have m2 : (rowD w2 (w.heap.size + 1 + 1)).size = 24 := hk2.rowSize o2 n2
             have q3 : Open w2 (w.heap.size + 1 + 1 + 1) := hk2.opened o3
             have m3 : (rowD w2 (w.heap.size + 1 + 1 + 1)).size = 6 := hk2.rowSize o3 n3
             have Hk2 : Hid (Keeps No w w2) := Hk.out.trans hk2 (fun _ _ h => h)
             have p1' := hk2.cellsAt p1
             have p3' := hk2.cell p3 (fun h => h)
             have gt1' := hk2.cell gt1 (fun h => h)
             clear hk2 hk2' o2 o3 n2 n3 p1 p3 gt1
             have p1 := p1'
             have p3 := p3'
             have gt1 := gt1'
             clear p1' p3' gt1'))
    | fail
  all_goals
    go_wp2
    exact bodyPost_ret (v := .tuple #[recV 0 0 0 Bd.zero, .bool false, msgV 0 0, .bool false]) (by simp [results, Try.results11, go_sem, *, Bd.zero]) rfl ⟨rfl, (Hk2.out.row (by omega) _).row (by omega) _⟩

set_option maxRecDepth 100000 in
set_option maxHeartbeats 4000000 in
theorem hear_11 {l : List Ou} (hv : RdOf cOu w outs l) (fr mn : Int) (j : Nat) (hj : j < l.length) (hi : firstOf (isOut mn 3) l = j) (ht : (l[j].to == fr) = true) :
    Calls Try.prog 11 #[stV ep t own dead outs ins gh nx, .int .i64 fr, msgIn 10 tt mn cm bv ids] w fun e w' => e = .returned (.tuple #[recV 5 mn 0 Bd.zero, .bool true, msgV 0 0, .bool false]) ∧ Keeps No w w' := by
  obtain ⟨va, vc, rfl⟩ := hv.slice
  obtain ⟨g, off, rfl, hc1, hc2, hg⟩ := RdOf.addr cOu hv (by omega)
  have g0 : cellsAt w g (off + j * 14) 14 = some (ouC l[j]) := RdOf.at cOu hv j hj
  have gt : w.cell? ⟨g, off + j * 14 + 1, none⟩ = some (.int .i64 l[j].to) := cellsAt_cell g0 1 _ rfl
  have hj0 : (0 : Int) ≤ (j : Int) := by omega
  have hj1 : (j : Int) < (l.length : Int) := by omega
  have hd0 : decide ((0 : Int) ≤ (j : Int)) = true := decide_eq_true hj0
  have hd1 : decide ((j : Int) < 0) = false := decide_eq_false (by omega)
  clear hc1 hc2 g0
  have Hi := Lib.hid hi; clear hi
  go_enter Try.func11, Try.ntmps11
  go_wp2_with fail
  refine (out_any (hv.kept ((((((Keeps.refl _).alloc _).alloc _).alloc _).alloc _).alloc _) (fun _ _ h => h)) mn 3).mono ?_
  rintro e w1 ⟨rfl, hk1⟩
  rw [Hi.out]
  have p1 : cellsAt w1 (w.heap.size + 1 + 1 + 1 + 1) 0 24 = some [.int .i64 5, .int .i64 mn, .int .i64 0, .slice none 0 0, .int .i64 0, .int .i64 0, .int .i64 0, .int .i64 0, .int .i64 0, .int .i64 0, .int .i64 0, .int .i64 0, .int .i64 0, .int .i64 0, .int .i64 0, .slice none 0 0, .int .i64 0, .int .i64 0, .slice none 0 0, .slice none 0 0, .slice none 0 0, .slice none 0 0, .slice none 0 0, .int .i64 0] := hk1.cellsAt (by simp [go_sem])
  have p2 : cellsAt w1 w.heap.size 0 8 = some [.int .i64 ep, .int .i64 t, own, dead, (.slice (some ⟨g, off, none⟩) l.length vc), ins, gh, .int .i64 nx] := hk1.cellsAt (by simp [go_sem])
  have p3 : w1.cell? ⟨w.heap.size, 4, none⟩ = some _ := cellsAt_cell p2 4 _ rfl
  have o2 : Open w1 (w.heap.size + 1 + 1) := hk1.opened (by simp [go_sem])
  have n2 : (rowD w1 (w.heap.size + 1 + 1)).size = 24 := hk1.rowSize (by simp [go_sem]) (by simp [go_sem])
  have o3 : Open w1 (w.heap.size + 1 + 1 + 1) := hk1.opened (by simp [go_sem])
  have n3 : (rowD w1 (w.heap.size + 1 + 1 + 1)).size = 6 := hk1.rowSize (by simp [go_sem]) (by simp [go_sem])
  have hk : Keeps No w w1 := ((((((Keeps.refl _).alloc _).alloc _).alloc _).alloc _).alloc _).trans hk1 (fun _ _ h => h)
  have gt1 : w1.cell? ⟨g, off + j * 14 + 1, none⟩ = some (.int .i64 l[j].to) := hk.cell gt (fun h => h)
  have Hk := Lib.hid hk
  clear hk hk1 gt
  go_wp2_with fail
  first
    | go_region_held3 (fun w' => cellsAt w' (w.heap.size + 1 + 1 + 1 + 1) 0 24 = some [.int .i64 5, .int .i64 mn, .int .i64 0, .slice none 0 0, .int .i64 0, .int .i64 0, .int .i64 0, .int .i64 0, .int .i64 0, .int .i64 0, .int .i64 0, .int .i64 0, .int .i64 0, .int .i64 0, .int .i64 0, .slice none 0 0, .int .i64 0, .int .i64 0, .slice none 0 0, .slice none 0 0, .slice none 0 0, .slice none 0 0, .slice none 0 0, .int .i64 0] ∧ w'.cell? ⟨w.heap.size, 4, none⟩ = some (.slice (some ⟨g, off, none⟩) l.length vc) ∧ w'.cell? ⟨g, off + j * 14 + 1, none⟩ = some (.int .i64 l[j].to)) (first | exact ⟨p1, p3, gt1⟩ | exact ⟨cells_row p1 (by omega), cell_row p3 (by omega), cell_row gt1 (by omega)⟩ | exact ⟨cells_row (cells_row p1 (by omega)) (by omega), cell_row (cell_row p3 (by omega)) (by omega), cell_row (cell_row gt1 (by omega)) (by omega)⟩)
        (first
          | (go_at_call 31
             refine (yes_tf 5 mn 0 Bd.zero 0 w1.drew).mono ?_
             rintro e w2 ⟨rfl, hk2'⟩
             have hk2 : Keeps No w1 w2 := ((Keeps.refl w1).drew).trans hk2' (fun _ _ h => h)
             have q2 : Open w2 (w.heap.size + 1 + 1) := hk2.opened o2
             have m2 : (rowD w2 (w.heap.size + 1 + 1)).size = 24 := hk2.rowSize o2 n2
             have q3 : Open w2 (w.heap.size + 1 + 1 + 1) := hk2.opened o3
             have m3 : (rowD w2 (w.heap.size + 1 + 1 + 1)).size = 6 := hk2.rowSize o3 n3
             have Hk2 : Hid (Keeps No w w2) := Hk.out.trans hk2 (fun _ _ h => h)
             have p1' := hk2.cellsAt p1
             have p3' := hk2.cell p3 (fun h => h)
             have gt1' := hk2.cell gt1 (fun h => h)
             clear hk2 hk2' o2 o3 n2 n3 p1 p3 gt1
             have p1 := p1'
             have p3 := p3'
             have gt1 := gt1'
             clear p1' p3' gt1'))
    | fail
  all_goals
    go_wp2
    exact bodyPost_ret (v := .tuple #[recV 5 mn 0 Bd.zero, .bool true, msgV 0 0, .bool false]) (by simp [results, Try.results11, go_sem, *, Bd.zero]) rfl ⟨rfl, (Hk2.out.row (by omega) _).row (by omega) _⟩

set_option maxRecDepth 100000 in
set_option maxHeartbeats 4000000 in
theorem hear_12 (mk fr mn : Int) (n7 : (mk == 7) = false) (n8 : (mk == 8) = false) (n9 : (mk == 9) = false) (n10 : (mk == 10) = false) :
    Calls Try.prog 11 #[stV ep t own dead outs ins gh nx, .int .i64 fr, msgIn mk tt mn cm bv ids] w fun e w' => e = .returned (.tuple #[recV 0 0 0 Bd.zero, .bool false, msgV 0 0, .bool false]) ∧ Keeps No w w' := by
  go_enter Try.func11, Try.ntmps11
  go_wp2_with fail
  exact bodyPost_ret (v := .tuple #[recV 0 0 0 Bd.zero, .bool false, msgV 0 0, .bool false]) (by simp [results, Try.results11, go_sem, *, Bd.zero]) rfl ⟨rfl, (by first | exact (((((Keeps.refl _).alloc _).alloc _).alloc _).alloc _).alloc _ | exact ((((Keeps.refl _).alloc _).alloc _).alloc _).alloc _ | exact ((((((Keeps.refl _).alloc _).alloc _).alloc _).alloc _).alloc _).drew | exact (((((Keeps.refl _).alloc _).alloc _).alloc _).alloc _).drew)⟩

end
end Go.Proofs.Ytggaeihinheojaa
