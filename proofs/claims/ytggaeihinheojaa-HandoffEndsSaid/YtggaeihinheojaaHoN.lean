/-
  The document's Tell. No conditions of its own.
-/
import Derived.Test.YtggaeihinheojaaHoM
import Derived.Deep.RegionHeld3
namespace Go.Proofs.Ytggaeihinheojaa
open Go.RowKit

section
variable {w : World} {ep t nx : Int} {own dead outs ins gh : Value}

set_option maxRecDepth 100000 in
set_option maxHeartbeats 2000000 in
theorem rtell_no {l : List Ou} (hv : RdOf cOu w outs l) (n : Int) (hf : firstOf (tellPr n) l = -1) :
    Calls Try.prog 20 #[stV ep t own dead outs ins gh nx, .int .i64 n] w fun e w' => e = .returned (.tuple #[.int .i64 0, msgV 0 0, .bool false]) ∧ Keeps No w w' := by
  have Hf := Lib.hid hf; clear hf
  go_enter Try.func20, Try.ntmps20
  go_wp2_with fail
  refine (under_any (hv.kept (((Keeps.refl _).alloc _).alloc _) (fun _ _ h => h)) n).mono ?_
  rintro e w1 ⟨rfl, hk1⟩
  rw [Hf.out]
  have o2 : Open w1 (w.heap.size + 1) := hk1.opened (by simp [go_sem])
  have n2 : (rowD w1 (w.heap.size + 1)).size = 6 := hk1.rowSize (by simp [go_sem]) (by simp [go_sem])
  have Hk := Lib.hid (show Keeps No w w1 from (((Keeps.refl _).alloc _).alloc _).trans hk1 (fun _ _ h => h))
  clear hk1
  go_wp2
  exact bodyPost_ret (v := .tuple #[.int .i64 0, msgV 0 0, .bool false]) (by simp [results, Try.results20, go_sem, o2]) rfl ⟨rfl, Hk.out.row (by omega) _⟩

set_option maxRecDepth 100000 in
set_option maxHeartbeats 4000000 in
theorem rtell_2 {l : List Ou} (hv : RdOf cOu w outs l) (n : Int) (j : Nat) (hj : j < l.length) (hf : firstOf (tellPr n) l = j) (hst : (l[j].st == 2) = true) :
    Calls Try.prog 20 #[stV ep t own dead outs ins gh nx, .int .i64 n] w fun e w' => (∃ v, e = .returned (.tuple #[.int .i64 l[j].to, msgIn 7 0 l[j].n (.slice none 0 0) v (.slice none 0 0), .bool true]) ∧ RdOf cBd w' v [l[j].b] ∧ ∀ k, v.ownBlock = some k → w.heap.size ≤ k) ∧ Keeps No w w' := by
  obtain ⟨va, vc, rfl⟩ := hv.slice
  obtain ⟨g, off, rfl, hc1, hc2, hg⟩ := RdOf.addr cOu hv (by omega)
  have g0 : cellsAt w g (off + j * 14) 14 = some (ouC l[j]) := RdOf.at cOu hv j hj
  have hj0 : (0 : Int) ≤ (j : Int) := by omega
  have hj1 : (j : Int) < (l.length : Int) := by omega
  have hd1 : decide ((j : Int) < 0) = false := decide_eq_false (by omega)
  have Hf := Lib.hid hf
  have Hst := Lib.hid hst
  clear hf hst hc1 hc2
  generalize ho : l[j] = o at *
  go_enter Try.func20, Try.ntmps20
  go_wp2_with fail
  refine (under_any (hv.kept (((Keeps.refl _).alloc _).alloc _) (fun _ _ h => h)) n).mono ?_
  rintro e w1 ⟨rfl, hk1⟩
  rw [Hf.out]
  have o2 : Open w1 (w.heap.size + 1) := hk1.opened (by simp [go_sem])
  have n2 : (rowD w1 (w.heap.size + 1)).size = 6 := hk1.rowSize (by simp [go_sem]) (by simp [go_sem])
  have p1 : w1.cell? ⟨w.heap.size, 4, none⟩ = some (.slice (some ⟨g, off, none⟩) l.length vc) := hk1.cell (by simp [go_sem]) (fun h => h)
  have hk : Keeps No w w1 := (((Keeps.refl _).alloc _).alloc _).trans hk1 (fun _ _ h => h)
  have p2 : cellsAt w1 g (off + j * 14) 14 = some (ouC o) := hk.cellsAt g0
  have p3 : w1.cell? ⟨g, off + j * 14 + 1, none⟩ = some (.int .i64 o.to) := cellsAt_cell p2 1 _ rfl
  have hne : ¬ g = w.heap.size + 1 := by omega
  have hsz := hk1.size
  simp only [World.size_alloc] at hsz
  have Hlt : Hid (w.heap.size + 1 < w1.heap.size) := by show _ < _; omega
  have Hk := Lib.hid hk
  clear hsz
  clear hk1 hk g0
  go_wp2_with fail
  go_region_held3 (fun w' => w'.cell? ⟨w.heap.size, 4, none⟩ = some (.slice (some ⟨g, off, none⟩) l.length vc) ∧ cellsAt w' g (off + j * 14) 14 = some (ouC o) ∧ w'.cell? ⟨g, off + j * 14 + 1, none⟩ = some (.int .i64 o.to)) (first | exact ⟨p1, p2, p3⟩ | exact ⟨cell_row p1 (by omega), cells_row p2 hne, cell_row p3 hne⟩)
    (first
      | (go_at_call 48
         refine (word_2 o Hst.out w1.drew).mono ?_
         rintro e w2 ⟨gw, rfl, hgw, hr, hk2⟩
         have Hgw : Hid (w1.heap.size ≤ gw) := hgw
         have Hr := Lib.hid hr
         clear hr hgw
         have hk3 : Keeps No w1 w2 := ((Keeps.refl w1).drew).trans hk2 (fun _ _ h => h)
         have q2 : Open w2 (w.heap.size + 1) := hk3.opened o2
         have m2 : (rowD w2 (w.heap.size + 1)).size = 6 := hk3.rowSize o2 n2
         have r1 := hk3.cell p1 (fun h => h)
         have r2 := hk3.cellsAt p2
         have r3 := hk3.cell p3 (fun h => h)
         have Hk2 : Hid (Keeps No w w2) := Hk.out.trans hk3 (fun _ _ h => h)
         clear p1 p2 p3 hk2 hk3 o2 n2
         have p1 := r1
         have p2 := r2
         have p3 := r3
         clear r1 r2 r3))
  all_goals
    clear p1 p2 p3
    go_wp2
    have hlt := Hlt.out
    have hgw := Hgw.out
    exact bodyPost_ret (v := .tuple #[.int .i64 o.to, msgIn 7 0 o.n (.slice none 0 0) (.slice (some ⟨gw, 0, none⟩) 1 1) (.slice none 0 0), .bool true]) (by simp [results, Try.results20, go_sem, q2]) rfl ⟨⟨_, rfl, Hr.out.kept ((Keeps.refl (S := Own (w.heap.size + 1)) w2).setRow (fun _ => rfl) _) (fun k hk he => by have hkg : gw = k := Option.some.inj hk; have hkh : k = w.heap.size + 1 := he; omega), fun k hk => by have hkg : gw = k := Option.some.inj hk; omega⟩, Hk2.out.row (by omega) _⟩

set_option maxRecDepth 100000 in
set_option maxHeartbeats 4000000 in
theorem rtell_9 {l : List Ou} (hv : RdOf cOu w outs l) (n : Int) (j : Nat) (hj : j < l.length) (hf : firstOf (tellPr n) l = j) (hst : (l[j].st == 2) = false) :
    Calls Try.prog 20 #[stV ep t own dead outs ins gh nx, .int .i64 n] w fun e w' => e = .returned (.tuple #[.int .i64 l[j].to, msgV 9 l[j].n, .bool true]) ∧ Keeps No w w' := by
  obtain ⟨va, vc, rfl⟩ := hv.slice
  obtain ⟨g, off, rfl, hc1, hc2, hg⟩ := RdOf.addr cOu hv (by omega)
  have g0 : cellsAt w g (off + j * 14) 14 = some (ouC l[j]) := RdOf.at cOu hv j hj
  have hj0 : (0 : Int) ≤ (j : Int) := by omega
  have hj1 : (j : Int) < (l.length : Int) := by omega
  have hd1 : decide ((j : Int) < 0) = false := decide_eq_false (by omega)
  have Hf := Lib.hid hf
  have Hst := Lib.hid hst
  clear hf hst hc1 hc2
  generalize ho : l[j] = o at *
  go_enter Try.func20, Try.ntmps20
  go_wp2_with fail
  refine (under_any (hv.kept (((Keeps.refl _).alloc _).alloc _) (fun _ _ h => h)) n).mono ?_
  rintro e w1 ⟨rfl, hk1⟩
  rw [Hf.out]
  have o2 : Open w1 (w.heap.size + 1) := hk1.opened (by simp [go_sem])
  have n2 : (rowD w1 (w.heap.size + 1)).size = 6 := hk1.rowSize (by simp [go_sem]) (by simp [go_sem])
  have p1 : w1.cell? ⟨w.heap.size, 4, none⟩ = some (.slice (some ⟨g, off, none⟩) l.length vc) := hk1.cell (by simp [go_sem]) (fun h => h)
  have hk : Keeps No w w1 := (((Keeps.refl _).alloc _).alloc _).trans hk1 (fun _ _ h => h)
  have p2 : cellsAt w1 g (off + j * 14) 14 = some (ouC o) := hk.cellsAt g0
  have p3 : w1.cell? ⟨g, off + j * 14 + 1, none⟩ = some (.int .i64 o.to) := cellsAt_cell p2 1 _ rfl
  have hne : ¬ g = w.heap.size + 1 := by omega
  have hsz := hk1.size
  simp only [World.size_alloc] at hsz
  have Hlt : Hid (w.heap.size + 1 < w1.heap.size) := by show _ < _; omega
  have Hk := Lib.hid hk
  clear hsz
  clear hk1 hk g0
  go_wp2_with fail
  go_region_held3 (fun w' => w'.cell? ⟨w.heap.size, 4, none⟩ = some (.slice (some ⟨g, off, none⟩) l.length vc) ∧ cellsAt w' g (off + j * 14) 14 = some (ouC o) ∧ w'.cell? ⟨g, off + j * 14 + 1, none⟩ = some (.int .i64 o.to)) (first | exact ⟨p1, p2, p3⟩ | exact ⟨cell_row p1 (by omega), cells_row p2 hne, cell_row p3 hne⟩)
    (first
      | (go_at_call 48
         refine (word_9 o Hst.out w1.drew).mono ?_
         rintro e w2 ⟨rfl, hk2⟩
         have hk3 : Keeps No w1 w2 := ((Keeps.refl w1).drew).trans hk2 (fun _ _ h => h)
         have q2 : Open w2 (w.heap.size + 1) := hk3.opened o2
         have m2 : (rowD w2 (w.heap.size + 1)).size = 6 := hk3.rowSize o2 n2
         have r1 := hk3.cell p1 (fun h => h)
         have r2 := hk3.cellsAt p2
         have r3 := hk3.cell p3 (fun h => h)
         have Hk2 : Hid (Keeps No w w2) := Hk.out.trans hk3 (fun _ _ h => h)
         clear p1 p2 p3 hk2 hk3 o2 n2
         have p1 := r1
         have p2 := r2
         have p3 := r3
         clear r1 r2 r3))
  all_goals
    clear p1 p2 p3
    go_wp2
    exact bodyPost_ret (v := .tuple #[.int .i64 o.to, msgV 9 o.n, .bool true]) (by simp [results, Try.results20, go_sem, q2]) rfl ⟨rfl, Hk2.out.row (by omega) _⟩

end
end Go.Proofs.Ytggaeihinheojaa
