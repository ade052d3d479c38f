/-
  fixed.Add of two numbers. No conditions of their own.
-/
import Derived.Test.YtcjeocibnfoenaaGreatTiQ
namespace Go.Proofs.YtcjeocibnfoenaaGreat
open Go.RowKit Go.Joins Go.Deep Go.Sort

set_option maxRecDepth 100000 in
set_option maxHeartbeats 1000000 in
theorem add2_any (w : World) (g o c : Nat) (a b : Int) (h0 : w.cell? ⟨g, o, none⟩ = some (.int .i64 a)) (h1 : w.cell? ⟨g, o + 1, none⟩ = some (.int .i64 b)) : Calls Tryz.prog 54 #[.slice (some ⟨g, o, none⟩) 2 c] w fun e w' => e = .returned (.int .i64 (cl (cl a + cl b))) ∧ w' = w := by
  have bA := cl_bnd a
  have bB := cl_bnd b
  have HA := Lib.hid (fun W => clamp_any W a)
  have HB := Lib.hid (fun W => clamp_any W b)
  have HA2 := Lib.hid (fun W => clamp_any W (0 + cl a))
  have HS := Lib.hid (fun W => clamp_any W (cl a + cl b))
  rw [Int.zero_add, cl_cl] at HA2
  obtain ⟨A, hA⟩ : ∃ q, q = cl a := ⟨_, rfl⟩
  obtain ⟨B, hB⟩ : ∃ q, q = cl b := ⟨_, rfl⟩
  rw [← hA] at HA HA2 HS bA ⊢
  rw [← hB] at HB HS bB ⊢
  obtain ⟨R, hR⟩ : ∃ q, q = cl (A + B) := ⟨_, rfl⟩
  rw [← hR] at HS ⊢
  clear hA hB hR
  go_enter Tryz.func54, Tryz.ntmps54
  go_wp2
  go_loopw [8, 3] (fun q s wr => w = wr ∧ ((q = .int .i64 0 ∧ s = .int .i64 0) ∨ (q = .int .i64 1 ∧ s = .int .i64 A) ∨ (q = .int .i64 2 ∧ s = .int .i64 R))) (fun q _ _ => 2 - (intOf q).toNat)
  case atStart => exact ⟨rfl, .inl ⟨rfl, rfl⟩⟩
  case round =>
    obtain ⟨rfl, hrel⟩ := hrel
    rcases hrel with ⟨rfl, rfl⟩ | ⟨rfl, rfl⟩ | ⟨rfl, rfl⟩
    · go_wp2_with (first
        | (go_at_call 84; have hc := HA.out; with_reducible refine (hc _).mono ?_; rintro e w1 ⟨rfl, rfl⟩; clear hc)
        | (go_at_call 84; have hc := HA2.out; with_reducible refine (hc _).mono ?_; rintro e w1 ⟨rfl, rfl⟩; clear hc))
      go_roundw
      case rel => simp
      case measure => simp [intOf]
    · go_wp2_with (first
        | (go_at_call 84; have hc := HB.out; with_reducible refine (hc _).mono ?_; rintro e w1 ⟨rfl, rfl⟩; clear hc)
        | (go_at_call 84; have hc := HS.out; with_reducible refine (hc _).mono ?_; rintro e w1 ⟨rfl, rfl⟩; clear hc))
      go_roundw
      case rel => simp
      case measure => simp [intOf]
    · go_wp2
      go_ret
      exact ⟨rfl, rfl⟩
set_option maxRecDepth 100000 in
set_option maxHeartbeats 1000000 in
/-- two rows that read as the same list -/
theorem rsame_any (w : World) (va vb : Value) (l : List Bd) (ha : RdOf cBd w va l) (hb : RdOf cBd w vb l) (hl : l.length ≤ 1000) : Calls Tryz.prog 7 #[va, vb] w fun e w' => e = .returned (.bool true) ∧ Grown w w' := by
  obtain ⟨aa, ac, rfl⟩ := ha.slice
  obtain ⟨ba, bc, rfl⟩ := hb.slice
  have mx := mixed
  have HA := Lib.hid ha
  have HB := Lib.hid hb
  clear ha hb
  have hn : (l.length : Int) ≤ 1000 := by omega
  have hb0 : ((l.length : Int) == (l.length : Int)) = true := by simp
  clear hl
  go_enter Tryz.func7, Tryz.ntmps7
  go_wp2_with fail
  go_loopw [5] (fun q wr => ∃ i : Nat, i ≤ l.length ∧ q = .int .i64 i ∧ Grown w wr) (fun q _ => l.length - (intOf q).toNat)
  case atStart => exact ⟨0, Nat.zero_le _, rfl, Grown.same w⟩
  case round =>
    obtain ⟨i, hil, rfl, hG⟩ := hrel
    obtain ⟨wo, hwo⟩ : ∃ x : World, x = wr := ⟨_, rfl⟩
    subst hwo
    have GR := Lib.hid hG
    have hi0 : (0 : Int) ≤ (i : Int) := by omega
    by_cases hlt : i < l.length
    · have hlti : (i : Int) < (l.length : Int) := by omega
      obtain ⟨b1, o1, hva, _, _, _⟩ := RdOf.addr cBd HA.out (by omega)
      obtain ⟨b2, o2, hvb, _, _, _⟩ := RdOf.addr cBd HB.out (by omega)
      subst hva hvb
      have c1 := hG.keeps.cellsAt (RdOf.at cBd HA.out i hlt)
      have c2 := hG.keeps.cellsAt (RdOf.at cBd HB.out i hlt)
      obtain ⟨x, hx⟩ : ∃ x, x = l[i] := ⟨_, rfl⟩
      rw [← hx] at c1 c2
      have c1' : cellsAt wo b1 (o1 + i * 11) 11 = some (bdC x) := c1
      have c2' : cellsAt wo b2 (o2 + i * 11) 11 = some (bdC x) := c2
      have L1 : ∀ n os, cellsAt (grow (wo.drewN n) os) b1 (o1 + i * 11) 11 = some (bdC x) := fun n os => (Grown.keeps ⟨n, os, rfl⟩).cellsAt c1'
      have L2 : ∀ n os, cellsAt (grow (wo.drewN n) os) b2 (o2 + i * 11) 11 = some (bdC x) := fun n os => (Grown.keeps ⟨n, os, rfl⟩).cellsAt c2'
      clear c1 c2 hx hG c1' c2'
      go_wp2_with fail
      go_quiet_grown (fail)
      go_wp2
      go_roundw
      case rel => exact ⟨i + 1, by omega, by go_num, GR.out.trans ⟨_, _, rfl⟩⟩
      case measure => simp [intOf]; omega
    · have hlti : ¬ ((i : Int) < (l.length : Int)) := by omega
      clear hG
      go_wp2
      go_ret
      exact ⟨rfl, GR.out⟩
end Go.Proofs.YtcjeocibnfoenaaGreat
