/-
  hedgerowlaw21.mod, hedgerowref09.Before, Find. No conditions of their own.
-/
import Derived.Test.YtggaeihinheojaaHpE
import Derived.Deep.RegionHeld3
import Derived.BigQuiet
namespace Go.Proofs.Ytggaeihinheojaa
open Go.RowKit

theorem mod_any (k : Int) (n : Nat) (h0 : 0 < n) (h1 : n ≤ 1000) (w : World) : ∃ m : Nat, m < n ∧ Calls Try.prog 52 #[.int .i64 k, .int .i64 n] w fun e w' => e = .returned (.int .i64 m) ∧ w' = w := by
  have g1 := Int.tmod_lt_of_pos k (show (0 : Int) < n by omega)
  have g2 := Int.lt_tmod_of_pos k (show (0 : Int) < n by omega)
  have e : wrap64 (k.tmod n + n) = k.tmod n + n := IntWalk.wrap64_in _ ⟨by omega, by omega⟩
  have g3 := Int.tmod_lt_of_pos (k.tmod n + n) (show (0 : Int) < n by omega)
  have g4 := Int.tmod_nonneg (a := k.tmod n + n) n (by omega)
  have hz : ¬ (n : Int) = 0 := by omega
  have hz2 : ¬ n = 0 := by omega
  refine ⟨((k.tmod n + n).tmod n).toNat, by omega, ?_⟩
  have ht : (((k.tmod n + n).tmod n).toNat : Int) = (k.tmod n + n).tmod n := by omega
  rw [ht]
  have e2 : IntKind.i64.wrap (k.tmod n + n) = k.tmod n + n := by rw [IntKind.wrap_i64]; omega
  clear ht g1 g2 g3 g4
  go_enter Try.func52, Try.ntmps52
  go_wp2
  go_ret
  exact ⟨by simp [*], rfl⟩

set_option maxRecDepth 100000 in
theorem run_eqlID (x1 x2 x3 y1 y2 y3 : Int) (w : World) : (binOp .eql 35 (.agg #[.int .i64 x1, .int .i64 x2, .int .i64 x3]) (.agg #[.int .i64 y1, .int .i64 y2, .int .i64 y3])).run Try.prog w = .ok (.bool (x1 == y1 && (x2 == y2 && x3 == y3))) w := by
  cases h1 : (x1 == y1) <;> cases h2 : (x2 == y2) <;> cases h3 : (x3 == y3) <;> simp [go_sem, h1, h2, h3]
theorem cmp_id (a : Bd) (s i g : Int) : (cmpN a s i g == 0) = (a.s == s && (a.i == i && a.g == g)) := by
  rw [Bool.eq_iff_iff]
  simp [cmpN_eq]

set_option maxHeartbeats 1000000 in
theorem before_any (a : Bd) (s i g : Int) (w : World) : Calls Try.prog 57 #[.agg #[.int .i64 a.s, .int .i64 a.i, .int .i64 a.g], .agg #[.int .i64 s, .int .i64 i, .int .i64 g]] w fun e w' => e = .returned (.bool (decide (cmpN a s i g < 0))) ∧ Keeps No w w' := by
  have key : decide (cmpN a s i g < 0) = if (a.s != s) = true then decide (a.s < s) else if (a.i != i) = true then decide (a.i < i) else decide (a.g < g) := by
    rw [Bool.eq_iff_iff]
    by_cases h1 : a.s = s
    · by_cases h2 : a.i = i
      · simp [cmpN_lt, h1, h2]
      · simp [cmpN_lt, h1, h2]
    · simp [cmpN_lt, h1]
  rw [key]
  clear key
  cases h1 : (a.s != s)
  · cases h2 : (a.i != i)
    · go_enter Try.func57, Try.ntmps57
      go_wp2
      go_ret
      exact ⟨by simp, ((Keeps.refl w).alloc _).alloc _⟩
    · go_enter Try.func57, Try.ntmps57
      go_wp2
      go_ret
      exact ⟨by simp, ((Keeps.refl w).alloc _).alloc _⟩
  · go_enter Try.func57, Try.ntmps57
    go_wp2
    go_ret
    exact ⟨by simp, ((Keeps.refl w).alloc _).alloc _⟩

set_option maxRecDepth 100000 in
set_option maxHeartbeats 4000000 in
theorem rfind_any (w : World) (v : Value) (l : List Bd) (hv : RdOf cBd w v l) (hlen : l.length ≤ 1000) (s i g : Int) :
    Calls Try.prog 30 #[v, .agg #[.int .i64 s, .int .i64 i, .int .i64 g]] w fun e w' => e = .returned (.tuple #[.int .i64 (findAt s i g l), .bool (findIs s i g l)]) ∧ Keeps No w w' := by
  obtain ⟨va, vc, rfl⟩ := hv.slice
  have Hl := Lib.hid hlen
  have Hv := Lib.hid hv
  obtain ⟨P, hP⟩ : ∃ P, findAt s i g l = P := ⟨_, rfl⟩
  obtain ⟨T, hT⟩ : ∃ T, findIs s i g l = T := ⟨_, rfl⟩
  rw [hP, hT]
  have HP := Lib.hid hP
  have HT := Lib.hid hT
  clear hlen hv hP hT
  go_enter Try.func30, Try.ntmps30
  go_wp2
  refine wp_world ?_
  intro W hW
  have KW : Hid (Keeps No w W) := by rw [hW]; exact (Keeps.refl (S := No) w).alloc _
  have CB : Hid (cellsAt W w.heap.size 0 3 = some [.int .i64 s, .int .i64 i, .int .i64 g]) := by show cellsAt _ _ _ _ = _; rw [hW]; simp [go_sem]
  clear hW
  go_loopw [6] (fun x wr => ∃ k : Nat, k ≤ l.length ∧ x = .int .i64 k ∧ (∀ j, (h : j < k) → (h2 : j < l.length) → geN s i g l[j] = false) ∧ Keeps No W wr) (fun x _ => l.length - (intOf x).toNat)
  case atStart => exact ⟨0, Nat.zero_le _, rfl, fun j h => absurd h (Nat.not_lt_zero _), Keeps.refl _⟩
  case round =>
    obtain ⟨k, hk, rfl, hno, hK⟩ := hrel
    have Hno := Lib.hid hno
    have HK := Lib.hid hK
    have b0 : cellsAt wr w.heap.size 0 3 = some [.int .i64 s, .int .i64 i, .int .i64 g] := hK.cellsAt CB.out
    clear hno
    by_cases hlt : k < l.length
    · have hki : (k : Int) < (l.length : Int) := by omega
      have hk0 : (0 : Int) ≤ (k : Int) := by omega
      have hkb : (k : Int) ≤ 1000 := by have := Hl.out; omega
      have hr : RdOf cBd wr (.slice va l.length vc) l := Hv.out.kept (KW.out.trans hK (fun _ _ h => h)) (fun _ _ h => h)
      obtain ⟨gr, off, rfl, _, _, hg⟩ := RdOf.addr cBd hr (by omega)
      obtain ⟨a, ha⟩ : ∃ a, a = l[k] := ⟨_, rfl⟩
      have c11 : cellsAt wr gr (off + k * 11) 11 = some (bdC a) := by rw [ha]; exact RdOf.at cBd hr k hlt
      have c3 : cellsAt wr gr (off + k * 11) 3 = some [.int .i64 a.s, .int .i64 a.i, .int .i64 a.g] := cellsAt_part c11 0 [.int .i64 a.s, .int .i64 a.i, .int .i64 a.g] rfl (by simp)
      have Hlt := Lib.hid hlt
      have Ha : Hid (∃ h : k < l.length, a = l[k]'h) := ⟨hlt, ha⟩
      clear c11 hr hk hK
      clear ha
      clear hlt
      have hdk : decide (k < l.length) = true := decide_eq_true Hlt.out
      obtain ⟨bb, hbb⟩ : ∃ bb, decide (cmpN a s i g < 0) = bb := ⟨_, rfl⟩
      have Hbb := Lib.hid hbb
      clear hbb
      cases bb
      all_goals
        go_wp2_with fail
        go_region_held3 (fun w' => cellsAt w' gr (off + k * 11) 3 = some [.int .i64 a.s, .int .i64 a.i, .int .i64 a.g] ∧ cellsAt w' w.heap.size 0 3 = some [.int .i64 s, .int .i64 i, .int .i64 g]) (exact ⟨c3, b0⟩)
          (first
            | (go_at_call 57
               refine (before_any a s i g _).mono ?_
               rw [Hbb.out]
               rintro e w1 ⟨rfl, hk1⟩
               have hk2 : Keeps No wr w1 := ((Keeps.refl (S := No) wr).drew).trans hk1 (fun _ _ h => h)
               have K1 := Lib.hid hk2
               have c31 := hk2.cellsAt c3
               have b01 := hk2.cellsAt b0
               clear c3 b0 hk1 hk2
               have c3 := c31
               have b0 := b01
               clear c31 b01))
      · -- the place is found
        have hge : geN s i g a = true := by
          have := of_decide_eq_false Hbb.out
          unfold geN
          exact decide_eq_true (by omega)
        obtain ⟨hkl, hal⟩ := Ha.out
        obtain ⟨h1, h2⟩ := find_at s i g l k hkl Hno.out (by rw [← hal]; exact hge)
        rw [← hal, cmp_id] at h2
        obtain rfl : P = k := HP.out.symm.trans h1
        have h3 : T = (a.s == s && (a.i == i && a.g == g)) := HT.out.symm.trans h2
        obtain ⟨z, hz⟩ : ∃ z, z = (a.s == s && (a.i == i && a.g == g)) := ⟨_, rfl⟩
        rw [← hz] at h3
        obtain rfl : T = z := h3
        have heq : ∀ W, (binOp .eql 35 (.agg #[.int .i64 a.s, .int .i64 a.i, .int .i64 a.g]) (.agg #[.int .i64 s, .int .i64 i, .int .i64 g])).run Try.prog W = .ok (.bool T) W := fun W => by rw [hz]; exact run_eqlID _ _ _ _ _ _ W
        have KF : Hid (Keeps No w w1) := KW.out.trans (HK.out.trans K1.out (fun _ _ h => h)) (fun _ _ h => h)
        clear h1 h2 hal hge hkl hz
        go_wp2
        go_quiet (fail)
        go_wp2
        refine bodyPost_ret (v := .tuple #[.int .i64 P, .bool T]) ?_ rfl ⟨rfl, KF.out.drewN _⟩
        simp [results, Try.results30, go_sem, *]
      · have hno2 : Hid (∀ j, (h : j < k + 1) → (h2 : j < l.length) → geN s i g l[j] = false) := Lib.hid (fun j h h2 => by
          by_cases hj : j < k
          · exact Hno.out j hj h2
          · obtain rfl : j = k := by omega
            obtain ⟨_, hal⟩ := Ha.out
            rw [← hal]
            have := of_decide_eq_true Hbb.out
            unfold geN
            exact decide_eq_false (by omega))
        go_wp2
        go_roundw
        case rel => exact ⟨k + 1, Hlt.out, by go_num, hno2.out, HK.out.trans K1.out (fun _ _ h => h)⟩
        case measure => have := Hlt.out; simp [intOf]; omega
    · obtain rfl : k = l.length := by omega
      have hdk : decide (l.length < l.length) = false := decide_eq_false (by omega)
      obtain ⟨h1, h2⟩ := find_none s i g l (fun j h2 => Hno.out j h2 h2)
      obtain rfl : P = l.length := HP.out.symm.trans h1
      obtain rfl : T = false := HT.out.symm.trans h2
      clear h1 h2 hlt hk hK
      go_wp2
      go_quiet (fail)
      go_wp2
      go_quiet (fail)
      go_wp2
      refine bodyPost_ret (v := .tuple #[.int .i64 l.length, .bool false]) ?_ rfl ⟨rfl, ?_⟩
      · simp [results, Try.results30, go_sem, *]
      · exact ((KW.out.trans HK.out (fun _ _ h => h)).drewN _).drewN _
end Go.Proofs.Ytggaeihinheojaa
