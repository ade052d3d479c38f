/-
  The comparisons of the statements, of what is the same: true. No conditions of its own.
-/
import Derived.Test.YtggaeihinheojaaHoD
import Derived.Deep.QuietTactic
import Derived.BigQuiet
namespace Go.Proofs.Ytggaeihinheojaa
open Go.RowKit

/-- A name. -/
structure Idn where
  s : Int
  i : Int
  g : Int
/-- A command. -/
structure Cm where
  k : Int
  s : Int
  i : Int
  g : Int
  b : Bd
  m : Int
abbrev idC (a : Idn) : List Value := [.int .i64 a.s, .int .i64 a.i, .int .i64 a.g]
abbrev cmC (a : Cm) : List Value := [.int .i64 a.k, .int .i64 a.s, .int .i64 a.i, .int .i64 a.g, .int .i64 a.b.s, .int .i64 a.b.i, .int .i64 a.b.g, .int .i64 a.b.m, .int .i64 a.b.x, .int .i64 a.b.y, .int .i64 a.b.vx, .int .i64 a.b.vy, .int .i64 a.b.hp, .int .i64 a.b.pw, .int .i64 a.b.lf, .int .i64 a.m]
def cId : Codec Idn := ⟨idC, 3, fun _ => rfl, fun a u h => by simp [idC] at h; rcases h with rfl | rfl | rfl <;> rfl, by decide⟩
def cCm : Codec Cm := ⟨cmC, 16, fun _ => rfl, fun a u h => by simp [cmC] at h; rcases h with rfl | rfl | rfl | rfl | rfl | rfl | rfl | rfl | rfl | rfl | rfl | rfl | rfl | rfl | rfl | rfl <;> rfl, by decide⟩

set_option maxHeartbeats 1000000 in
theorem sameCmds (w : World) (u v : Value) (l : List Cm) (hu : RdOf cCm w u l) (hv : RdOf cCm w v l) :
    Calls Try.prog 35 #[u, v] w fun e w' => e = .returned (.bool true) ∧ ∃ m, w' = w.drewN m := by
  obtain ⟨a, c, rfl⟩ := hu.slice
  obtain ⟨a', c', rfl⟩ := hv.slice
  have hlen := RdOf.len cCm hu
  unfold maxLen at hlen
  go_enter Try.func35, Try.ntmps35
  go_wp2
  go_loopw [5] (fun i wr => ∃ k : Nat, k ≤ l.length ∧ i = .int .i64 k ∧ ∃ m, wr = w.drewN m) (fun i _ => l.length - (intOf i).toNat)
  case atStart => exact ⟨0, Nat.zero_le _, rfl, 0, rfl⟩
  case round =>
    obtain ⟨k, hk, rfl, m, rfl⟩ := hrel
    by_cases hlt : k < l.length
    · obtain ⟨b, off, rfl, _, _, hb⟩ := RdOf.addr cCm hu (by omega)
      obtain ⟨b', off', rfl, _, _, hb'⟩ := RdOf.addr cCm hv (by omega)
      have g0 : cellsAt w b (off + k * 16) 16 = some (cmC l[k]) := RdOf.at cCm hu k hlt
      have g1 : cellsAt w b' (off' + k * 16) 16 = some (cmC l[k]) := RdOf.at cCm hv k hlt
      have hi0 : (0 : Int) ≤ (k : Int) := by omega
      have hi1 : (k : Int) < (l.length : Int) := by omega
      go_wp2
      go_quiet (fail)
      go_wp2
      exact ⟨⟨k + 1, by omega, by go_num, _, rfl⟩, by simp [intOf]; omega⟩
    · go_wp2
      go_ret
      exact ⟨rfl, m, rfl⟩

set_option maxHeartbeats 1000000 in
theorem sameBds (w : World) (u v : Value) (l : List Bd) (hu : RdOf cBd w u l) (hv : RdOf cBd w v l) :
    Calls Try.prog 36 #[u, v] w fun e w' => e = .returned (.bool true) ∧ ∃ m, w' = w.drewN m := by
  obtain ⟨a, c, rfl⟩ := hu.slice
  obtain ⟨a', c', rfl⟩ := hv.slice
  have hlen := RdOf.len cBd hu
  unfold maxLen at hlen
  go_enter Try.func36, Try.ntmps36
  go_wp2
  go_loopw [5] (fun i wr => ∃ k : Nat, k ≤ l.length ∧ i = .int .i64 k ∧ ∃ m, wr = w.drewN m) (fun i _ => l.length - (intOf i).toNat)
  case atStart => exact ⟨0, Nat.zero_le _, rfl, 0, rfl⟩
  case round =>
    obtain ⟨k, hk, rfl, m, rfl⟩ := hrel
    by_cases hlt : k < l.length
    · obtain ⟨b, off, rfl, _, _, hb⟩ := RdOf.addr cBd hu (by omega)
      obtain ⟨b', off', rfl, _, _, hb'⟩ := RdOf.addr cBd hv (by omega)
      have g0 : cellsAt w b (off + k * 11) 11 = some (bdC l[k]) := RdOf.at cBd hu k hlt
      have g1 : cellsAt w b' (off' + k * 11) 11 = some (bdC l[k]) := RdOf.at cBd hv k hlt
      have hi0 : (0 : Int) ≤ (k : Int) := by omega
      have hi1 : (k : Int) < (l.length : Int) := by omega
      go_wp2
      go_quiet (fail)
      go_wp2
      exact ⟨⟨k + 1, by omega, by go_num, _, rfl⟩, by simp [intOf]; omega⟩
    · go_wp2
      go_ret
      exact ⟨rfl, m, rfl⟩

set_option maxHeartbeats 1000000 in
theorem sameIds (w : World) (u v : Value) (l : List Idn) (hu : RdOf cId w u l) (hv : RdOf cId w v l) :
    Calls Try.prog 37 #[u, v] w fun e w' => e = .returned (.bool true) ∧ ∃ m, w' = w.drewN m := by
  obtain ⟨a, c, rfl⟩ := hu.slice
  obtain ⟨a', c', rfl⟩ := hv.slice
  have hlen := RdOf.len cId hu
  unfold maxLen at hlen
  go_enter Try.func37, Try.ntmps37
  go_wp2
  go_loopw [5] (fun i wr => ∃ k : Nat, k ≤ l.length ∧ i = .int .i64 k ∧ ∃ m, wr = w.drewN m) (fun i _ => l.length - (intOf i).toNat)
  case atStart => exact ⟨0, Nat.zero_le _, rfl, 0, rfl⟩
  case round =>
    obtain ⟨k, hk, rfl, m, rfl⟩ := hrel
    by_cases hlt : k < l.length
    · obtain ⟨b, off, rfl, _, _, hb⟩ := RdOf.addr cId hu (by omega)
      obtain ⟨b', off', rfl, _, _, hb'⟩ := RdOf.addr cId hv (by omega)
      have g0 : cellsAt w b (off + k * 3) 3 = some (idC l[k]) := RdOf.at cId hu k hlt
      have g1 : cellsAt w b' (off' + k * 3) 3 = some (idC l[k]) := RdOf.at cId hv k hlt
      have hi0 : (0 : Int) ≤ (k : Int) := by omega
      have hi1 : (k : Int) < (l.length : Int) := by omega
      go_wp2
      go_quiet (fail)
      go_wp2
      exact ⟨⟨k + 1, by omega, by go_num, _, rfl⟩, by simp [intOf]; omega⟩
    · go_wp2
      go_ret
      exact ⟨rfl, m, rfl⟩

set_option maxRecDepth 100000 in
set_option maxHeartbeats 2000000 in
theorem same_any (k n f : Int) (b : Bd) (w : World) : Calls Try.prog 13 #[recV k n f b, recV k n f b] w fun e w' => e = .returned (.bool true) ∧ Keeps No w w' := by
  go_enter Try.func13, Try.ntmps13
  go_wp2
  go_ret
  exact ⟨rfl, ((Keeps.refl _).alloc _).alloc _⟩
set_option maxRecDepth 100000 in
set_option maxHeartbeats 2000000 in
/-- the same message, wherever its lists lie -/
theorem sameMsg (k t n : Int) (c c' b b' i i' : Value) (lc : List Cm) (lb : List Bd) (li : List Idn) (w : World) (hc : RdOf cCm w c lc) (hc' : RdOf cCm w c' lc) (hb : RdOf cBd w b lb) (hb' : RdOf cBd w b' lb) (hi : RdOf cId w i li) (hi' : RdOf cId w i' li) :
    Calls Try.prog 14 #[msgIn k t n c b i, msgIn k t n c' b' i'] w fun e w' => e = .returned (.bool true) ∧ Keeps No w w' := by
  obtain ⟨ca, cc, rfl⟩ := hc.slice
  obtain ⟨ca', cc', rfl⟩ := hc'.slice
  obtain ⟨ba, bc, rfl⟩ := hb.slice
  obtain ⟨ba', bc', rfl⟩ := hb'.slice
  obtain ⟨ia, ic, rfl⟩ := hi.slice
  obtain ⟨ia', ic', rfl⟩ := hi'.slice
  go_enter Try.func14, Try.ntmps14
  go_wp2_with fail
  refine (sameCmds _ _ _ lc (hc.kept (((Keeps.refl (S := No) w).alloc _).alloc _) (fun _ _ h => h)) (hc'.kept (((Keeps.refl (S := No) w).alloc _).alloc _) (fun _ _ h => h))).mono ?_
  rintro e w1 ⟨rfl, m1, rfl⟩
  go_wp2_with fail
  refine (sameBds _ _ _ lb (hb.kept ((((Keeps.refl (S := No) w).alloc _).alloc _).drewN m1) (fun _ _ h => h)) (hb'.kept ((((Keeps.refl (S := No) w).alloc _).alloc _).drewN m1) (fun _ _ h => h))).mono ?_
  rintro e w2 ⟨rfl, m2, rfl⟩
  go_wp2_with fail
  refine (sameIds _ _ _ li (hi.kept ((((Keeps.refl (S := No) w).alloc _).alloc _).drewN (m1 + m2)) (fun _ _ h => h)) (hi'.kept ((((Keeps.refl (S := No) w).alloc _).alloc _).drewN (m1 + m2)) (fun _ _ h => h))).mono ?_
  rintro e w3 ⟨rfl, m3, rfl⟩
  go_wp2
  go_ret
  exact ⟨rfl, (((Keeps.refl _).alloc _).alloc _).drewN _⟩
theorem rdNil {α : Type} (C : Codec α) (w : World) : RdOf C w (.slice none 0 0) ([] : List α) := Reads.nil w _
theorem sameMsg0 (k n : Int) (w : World) : Calls Try.prog 14 #[msgV k n, msgV k n] w fun e w' => e = .returned (.bool true) ∧ Keeps No w w' :=
  sameMsg k 0 n _ _ _ _ _ _ [] [] [] w (rdNil _ w) (rdNil _ w) (rdNil _ w) (rdNil _ w) (rdNil _ w) (rdNil _ w)

/-- a state without too much in it -/
def smallB (a b c d e : Nat) : Bool := decide (a ≤ 60) && (decide (b ≤ 60) && (decide (c ≤ 60) && (decide (d ≤ 60) && decide (e ≤ 20))))
set_option maxRecDepth 100000 in
set_option maxHeartbeats 2000000 in
theorem small_any (ep t nx : Int) (xo xu xi xd xg : Option Addr) (no nu ni nd ng co cu ci cd cg : Nat) (w : World) :
    Calls Try.prog 9 #[.agg #[.int .i64 ep, .int .i64 t, .slice xo no co, .slice xd nd cd, .slice xu nu cu, .slice xi ni ci, .slice xg ng cg, .int .i64 nx]] w fun e w' => e = .returned (.bool (smallB no nu ni nd ng)) ∧ Keeps No w w' := by
  cases h1 : decide ((no : Int) ≤ 60) <;> cases h2 : decide ((nu : Int) ≤ 60) <;> cases h3 : decide ((ni : Int) ≤ 60) <;> cases h4 : decide ((nd : Int) ≤ 60) <;> cases h5 : decide ((ng : Int) ≤ 20)
  all_goals
    have hfin : Hid (smallB no nu ni nd ng = (decide ((no : Int) ≤ 60) && (decide ((nu : Int) ≤ 60) && (decide ((ni : Int) ≤ 60) && (decide ((nd : Int) ≤ 60) && decide ((ng : Int) ≤ 20)))))) := by
      show _ = _
      unfold smallB
      congr 1
      · exact decide_eq_decide.2 (by omega)
      · congr 1
        · exact decide_eq_decide.2 (by omega)
        · congr 1
          · exact decide_eq_decide.2 (by omega)
          · congr 1
            · exact decide_eq_decide.2 (by omega)
            · exact decide_eq_decide.2 (by omega)
    go_enter Try.func9, Try.ntmps9
    go_wp2
    go_ret
    exact ⟨by rw [hfin.out, h1, h2, h3, h4, h5]; rfl, (Keeps.refl _).alloc _⟩

end Go.Proofs.Ytggaeihinheojaa
