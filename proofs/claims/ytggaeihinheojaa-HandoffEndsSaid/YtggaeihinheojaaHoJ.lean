/-
  Chapter 21's examples: true. No conditions of its own.
-/
import Derived.Test.YtggaeihinheojaaHoI
namespace Go.Proofs.Ytggaeihinheojaa
open Go.RowKit

def bdA : Bd := ⟨0, 0, 0, 1, 3, 0, 0, 0, 0, 0, 0⟩
def ouA : Ou := ⟨0, 1, 1, bdA⟩
def ouB : Ou := ⟨1, 1, 2, bdA⟩

theorem wr1 : wrap64 (0 + 1) = 0 + 1 := IntWalk.wrap64_in _ ⟨by omega, by omega⟩
set_option maxRecDepth 100000 in
set_option maxHeartbeats 4000000 in
theorem awake_any (w : World) : Calls Try.prog 10 #[] w fun e w' => e = .returned (.bool true) ∧ Keeps No w w' := by
  go_enter Try.func10, Try.ntmps10
  go_wp2_with fail
  refine (leave_any (l := []) (rdNil cOu _) (by simp) rfl rfl rfl rfl bdA 1).mono ?_
  rintro e w1 ⟨v1, rfl, hr1, hk1, _⟩
  have hr1' : RdOf cOu w1 v1 [ouA] := hr1
  obtain ⟨a1, c1, rfl⟩ := hr1'.slice
  clear hr1
  go_wp2_with fail
  refine (next_any (l := [ouA]) (hr1'.kept ((Keeps.refl (S := No) _).alloc _) (fun _ _ h => h)) (by simp) (fun _ => wr1)).mono ?_
  rintro e w2 ⟨rfl, hk2⟩
  have hmay : mayNext [ouA] 0 = true := by decide
  rw [hmay, cond_true]
  clear hmay
  have p2 : cellsAt w2 w1.heap.size 0 8 = some [.int .i64 0, .int .i64 0, .slice none 0 0, .slice none 0 0, .slice a1 1 c1, .slice none 0 0, .slice none 0 0, .int .i64 0] := hk2.cellsAt (by simp [go_sem])
  have l2 : w1.heap.size < w2.heap.size := by have := hk2.size; simp at this; omega
  have Hk1 := Lib.hid hk1; have Hk2 := Lib.hid hk2; clear hk1 hk2
  go_wp2_with fail
  refine (fold_ask (lo := [ouA]) (li := []) (nx := 0) (hr1'.kept ((((Keeps.refl (S := No) _).alloc _).trans Hk2.out (fun _ _ h => h)).alloc _) (fun _ _ h => h)) (rdNil cIn _) (by simp) (by simp) rfl rfl rfl (by decide) (fun _ => wr1) 0 (by simp) rfl).mono ?_
  rintro e w3 ⟨vo, vi, rfl, hro, hri, hk3, _⟩
  have hro' : RdOf cOu w3 vo [ouB] := hro
  obtain ⟨oa, oc, rfl⟩ := hro'.slice
  obtain ⟨ia, ic, rfl⟩ := hri.slice
  have Hk3 := Lib.hid hk3
  have Hr3 := Lib.hid hro'
  have Hi3 := Lib.hid hri
  clear hk3 hro hro' hri p2 l2 hr1'
  go_wp2_with fail
  refine (tell_any (l := [ouB]) (Hr3.out.kept ((Keeps.refl (S := No) _).alloc _) (fun _ _ h => h)) 1).mono ?_
  rintro e w4 ⟨hp, hk4⟩
  have hp' : ∃ v, e = .returned (.tuple #[toV 1 7 1 v, .bool true]) ∧ RdOf cBd w4 v [bdA] := by
    rcases hp with ⟨h, _⟩ | ⟨j, hj, _, _, v, he, hr, _⟩ | ⟨j, hj, _, h, _⟩
    · exact absurd h (by decide)
    · obtain rfl : j = 0 := by simp at hj; omega
      exact ⟨v, he, hr⟩
    · obtain rfl : j = 0 := by simp at hj; omega
      exact absurd h (by simp [ouB])
  clear hp
  obtain ⟨v, rfl, hrb⟩ := hp'
  obtain ⟨ba, bc, rfl⟩ := hrb.slice
  obtain ⟨gb, ob, rfl, _, _, hgb⟩ := RdOf.addr cBd hrb (by simp)
  have g4 : cellsAt w4 gb ob 11 = some (bdC bdA) := by
    have := RdOf.at cBd hrb 0 (by simp)
    rw [Nat.zero_mul, Nat.add_zero] at this
    exact this
  have p5 : cellsAt w4 w3.heap.size 0 8 = some [.int .i64 0, .int .i64 0, .slice none 0 0, .slice none 0 0, .slice oa 1 oc, .slice ia 0 ic, .slice none 0 0, .int .i64 1] := hk4.cellsAt (by simp [go_sem])
  have l5 : w3.heap.size < w4.heap.size := by have := hk4.size; simp at this; omega
  have Hk4 := Lib.hid hk4
  have Hg4 := Lib.hid g4
  have Hgb := Lib.hid hgb
  clear hk4 hrb g4 hgb
  go_wp2_with fail
  refine (hear_6 (l := [ouB]) (Hr3.out.kept ((((Keeps.refl (S := No) _).alloc _).trans Hk4.out (fun _ _ h => h)).alloc _) (fun _ _ h => h)) 1 1 0 (by simp) rfl rfl).mono ?_
  rintro e w5 ⟨rfl, hk5⟩
  have Hk5 := Lib.hid hk5
  clear hk5 p5 l5
  go_wp2_with fail
  refine (hear_7 (l := []) (rdNil cIn _) 0 1 rfl).mono ?_
  rintro e w6 ⟨rfl, hk6⟩
  have K5 := ((Hk5.out.alloc _).alloc _).trans hk6 (fun _ _ h => h)
  have K4 := (Hk4.out.alloc _).trans K5 (fun _ _ h => h)
  have K3 := (Hk3.out.alloc _).trans K4 (fun _ _ h => h)
  have K2 := (Hk2.out.alloc _).trans K3 (fun _ _ h => h)
  have K1 := (Hk1.out.alloc _).trans K2 (fun _ _ h => h)
  have hfin : Hid (Keeps No w w6) := ((Keeps.refl _).alloc _).trans K1 (fun _ _ h => h)
  have z1 : cellsAt w6 w.heap.size 0 11 = some (bdC bdA) := K1.cellsAt (by simp [go_sem, bdA])
  have z2 : w6.cell? ⟨w2.heap.size, 0, none⟩ = some (.int .i64 3) := K3.cell (by simp [go_sem]) (fun h => h)
  have z3 : w6.cell? ⟨w2.heap.size, 1, none⟩ = some (.int .i64 1) := K3.cell (by simp [go_sem]) (fun h => h)
  have z4 : w6.cell? ⟨w4.heap.size, 0, none⟩ = some (.int .i64 1) := K5.cell (by simp [go_sem]) (fun h => h)
  have z5 : w6.cell? ⟨w4.heap.size, 1, none⟩ = some (.int .i64 7) := K5.cell (by simp [go_sem]) (fun h => h)
  have z6 : w6.cell? ⟨w4.heap.size, 5, none⟩ = some (.slice (some ⟨gb, ob, none⟩) 1 bc) := K5.cell (by simp [go_sem]) (fun h => h)
  have z7 : cellsAt w6 gb ob 11 = some (bdC bdA) := (((Keeps.refl (S := No) w4).alloc _).trans K5 (fun _ _ h => h)).cellsAt Hg4.out
  have z8 : w6.cell? ⟨w5.heap.size, 0, none⟩ = some (.int .i64 4) := hk6.cell (by simp [go_sem]) (fun h => h)
  have z9 : w6.cell? ⟨w5.heap.size + 1, 0, none⟩ = some (.int .i64 9) := hk6.cell (by simp [go_sem]) (fun h => h)
  have y1 := block_lt_of_cell (cellsAt_cell z1 0 _ rfl)
  have y2 := block_lt_of_cell z2
  have y4 := block_lt_of_cell z4
  have y7 := block_lt_of_cell (cellsAt_cell z7 0 _ rfl)
  have y8 := block_lt_of_cell z8
  have y9 := block_lt_of_cell z9
  dsimp only at y1 y2 y4 y7 y8 y9
  clear K1 K2 K3 K4 K5 hk6 Hk1 Hk2 Hk3 Hk4 Hk5 Hr3 Hi3 Hg4 Hgb
  go_wp2
  go_quiet (fail)
  go_wp2
  go_ret
  exact ⟨rfl, ((hfin.out.alloc _).alloc _).drewN _⟩

end Go.Proofs.Ytggaeihinheojaa
