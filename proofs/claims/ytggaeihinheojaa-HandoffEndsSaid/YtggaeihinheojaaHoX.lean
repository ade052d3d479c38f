/-
  parts.Compare and parts.Find over entities. No conditions of its own.
-/
import Derived.Test.YtggaeihinheojaaHoH
namespace Go.Proofs.Ytggaeihinheojaa
open Go.RowKit

/-- the order of numbers, and of names -/
def cmpI (a b : Int) : Int := if a < b then -1 else if b < a then 1 else 0
def or3 (x y z : Int) : Int := if x ≠ 0 then x else if y ≠ 0 then y else z
def cmpN (a : Bd) (s i g : Int) : Int := or3 (cmpI a.s s) (cmpI a.i i) (cmpI a.g g)

theorem nan_any (a : Int) (w : World) : Calls Try.prog 67 #[.int .i64 a] w fun e w' => e = .returned (.bool false) ∧ w' = w := by
  go_enter Try.func67, Try.ntmps67
  go_wp2
  go_ret
  exact ⟨by simp, rfl⟩

set_option maxHeartbeats 1000000 in
theorem cmp_any (a b : Int) (w : World) : Calls Try.prog 65 #[.int .i64 a, .int .i64 b] w fun e w' => e = .returned (.int .i64 (cmpI a b)) ∧ w' = w := by
  have hfin : Hid (cmpI a b = if a < b then -1 else if b < a then 1 else 0) := rfl
  go_enter Try.func65, Try.ntmps65
  go_wp2_with fail
  refine (nan_any _ _).mono ?_
  rintro e w' ⟨rfl, rfl⟩
  go_wp2_with fail
  refine (nan_any _ _).mono ?_
  rintro e w'' ⟨rfl, rfl⟩
  by_cases h1 : a < b
  · have e1 : cmpI a b = -1 := by rw [hfin.out, if_pos h1]
    have E1 := Lib.hid e1; clear e1
    go_wp2
    go_ret
    exact ⟨by rw [E1.out]; rfl, rfl⟩
  · by_cases h2 : b < a
    · have e1 : cmpI a b = 1 := by rw [hfin.out, if_neg h1, if_pos h2]
      have E1 := Lib.hid e1; clear e1
      go_wp2
      go_ret
      exact ⟨by rw [E1.out]; rfl, rfl⟩
    · have e1 : cmpI a b = 0 := by rw [hfin.out, if_neg h1, if_neg h2]
      have E1 := Lib.hid e1; clear e1
      go_wp2
      go_ret
      exact ⟨by rw [E1.out]; rfl, rfl⟩

set_option maxHeartbeats 1000000 in
theorem or_any (g : Nat) (x y z : Int) (w : World) (h0 : w.cell? ⟨g, 0, none⟩ = some (.int .i64 x)) (h1 : w.cell? ⟨g, 1, none⟩ = some (.int .i64 y)) (h2 : w.cell? ⟨g, 2, none⟩ = some (.int .i64 z)) :
    Calls Try.prog 64 #[.slice (some ⟨g, 0, none⟩) 3 3] w fun e w' => e = .returned (.int .i64 (or3 x y z)) ∧ w' = w := by
  have hx : Hid (x ≠ 0 → or3 x y z = x) := fun h => by unfold or3; rw [if_pos h]
  have hy : Hid (x = 0 → y ≠ 0 → or3 x y z = y) := fun h h2 => by unfold or3; rw [if_neg (by simpa using h), if_pos h2]
  have hz : Hid (x = 0 → y = 0 → or3 x y z = z) := fun h h2 => by unfold or3; rw [if_neg (by simpa using h), if_neg (by simpa using h2)]
  go_enter Try.func64, Try.ntmps64
  go_wp2
  go_loopw [8] (fun i wr => wr = w ∧ (i = .int .i64 0 ∨ (i = .int .i64 1 ∧ x = 0) ∨ (i = .int .i64 2 ∧ x = 0 ∧ y = 0) ∨ (i = .int .i64 3 ∧ x = 0 ∧ y = 0 ∧ z = 0))) (fun i _ => 3 - (intOf i).toNat)
  case atStart => exact ⟨rfl, .inl rfl⟩
  case round =>
    obtain ⟨rfl, hrel⟩ := hrel
    rcases hrel with rfl | ⟨rfl, q1⟩ | ⟨rfl, q1, q2⟩ | ⟨rfl, q1, q2, q3⟩
    · by_cases h : x = 0
      · have h' : (x == 0) = true := by simpa using h
        have Hh := Lib.hid h; clear h
        go_wp2
        go_roundw
        case rel => exact ⟨trivial, .inr (.inl ⟨by go_num, Hh.out⟩)⟩
        case measure => simp [intOf]
      · have e1 := Lib.hid (hx.out h)
        clear hx hy hz
        go_wp2
        go_ret
        exact ⟨by rw [e1.out]; rfl, rfl⟩
    · by_cases h : y = 0
      · have Q1 := Lib.hid q1; clear q1
        have Hh := Lib.hid h; clear h
        have h' : (y == 0) = true := by simpa using Hh.out
        go_wp2
        go_roundw
        case rel => exact ⟨trivial, .inr (.inr (.inl ⟨by go_num, Q1.out, Hh.out⟩))⟩
        case measure => simp [intOf]
      · have e1 := Lib.hid (hy.out q1 h)
        clear hx hy hz q1
        go_wp2
        go_ret
        exact ⟨by rw [e1.out]; rfl, rfl⟩
    · by_cases h : z = 0
      · have Q1 := Lib.hid q1; clear q1
        have Q2 := Lib.hid q2; clear q2
        have Hh := Lib.hid h; clear h
        have h' : (z == 0) = true := by simpa using Hh.out
        go_wp2
        go_roundw
        case rel => exact ⟨trivial, .inr (.inr (.inr ⟨by go_num, Q1.out, Q2.out, Hh.out⟩))⟩
        case measure => simp [intOf]
      · have e1 := Lib.hid (hz.out q1 q2)
        clear hx hy hz q1 q2
        go_wp2
        go_ret
        exact ⟨by rw [e1.out]; rfl, rfl⟩
    · have e1 := Lib.hid ((hz.out q1 q2).trans q3)
      clear hx hy hz q1 q2 q3
      go_wp2
      go_ret
      exact ⟨by rw [e1.out]; rfl, rfl⟩

set_option maxRecDepth 100000 in
set_option maxHeartbeats 4000000 in
theorem compare_any (a : Bd) (s i g : Int) (w : World) : Calls Try.prog 61 #[.agg #[.int .i64 a.s, .int .i64 a.i, .int .i64 a.g], .agg #[.int .i64 s, .int .i64 i, .int .i64 g]] w fun e w' => e = .returned (.int .i64 (cmpN a s i g)) ∧ Keeps No w w' := by
  have hfin : Hid (cmpN a s i g = or3 (cmpI a.s s) (cmpI a.i i) (cmpI a.g g)) := rfl
  go_enter Try.func61, Try.ntmps61
  go_wp2_with fail
  refine wp_world ?_
  intro W hW
  have hk : Hid (Keeps No w W) := by show Keeps No w W; rw [hW]; exact ((Keeps.refl _).alloc _).alloc _
  have c0 : W.cell? ⟨w.heap.size, 0, none⟩ = some (.int .i64 a.s) := by rw [hW]; simp [go_sem]
  have c1 : W.cell? ⟨w.heap.size, 1, none⟩ = some (.int .i64 a.i) := by rw [hW]; simp [go_sem]
  have c2 : W.cell? ⟨w.heap.size, 2, none⟩ = some (.int .i64 a.g) := by rw [hW]; simp [go_sem]
  have d0 : W.cell? ⟨w.heap.size + 1, 0, none⟩ = some (.int .i64 s) := by rw [hW]; simp [go_sem]
  have d1 : W.cell? ⟨w.heap.size + 1, 1, none⟩ = some (.int .i64 i) := by rw [hW]; simp [go_sem]
  have d2 : W.cell? ⟨w.heap.size + 1, 2, none⟩ = some (.int .i64 g) := by rw [hW]; simp [go_sem]
  clear hW
  have hq : ∀ x y z : Int, ((W.alloc (.cells #[.int .i64 x, .int .i64 y, .int .i64 z] 3)).drew).cell? ⟨W.heap.size, 0, none⟩ = some (.int .i64 x) ∧ ((W.alloc (.cells #[.int .i64 x, .int .i64 y, .int .i64 z] 3)).drew).cell? ⟨W.heap.size, 1, none⟩ = some (.int .i64 y) ∧ ((W.alloc (.cells #[.int .i64 x, .int .i64 y, .int .i64 z] 3)).drew).cell? ⟨W.heap.size, 2, none⟩ = some (.int .i64 z) := fun x y z => by
    refine ⟨?_, ?_, ?_⟩ <;> simp [go_sem]
  have Hq := Lib.hid hq; clear hq
  go_still_tail 15, (by kernel_rfl)
  still_call (cmp_any _ _ _)
  repeat still_step
  still_call (cmp_any _ _ _)
  repeat still_step
  still_call (cmp_any _ _ _)
  repeat still_step
  refine wpStill_nil ?_
  change wpList _ _ _ _ _ W.drew
  clear c0 c1 c2 d0 d1 d2
  go_wp2_with fail
  refine (or_any _ _ _ _ _ (Hq.out _ _ _).1 (Hq.out _ _ _).2.1 (Hq.out _ _ _).2.2).mono ?_
  rintro e w' ⟨rfl, rfl⟩
  go_wp2
  go_ret
  exact ⟨by rw [hfin.out]; rfl, (hk.out.alloc _).drew⟩

/-- is a name not ahead of this one? -/
def geN (s i g : Int) (b : Bd) : Bool := decide (0 ≤ cmpN b s i g)
/-- where a name is, or would be -/
def findAt (s i g : Int) (l : List Bd) : Nat := l.findIdx (geN s i g)
def findIs (s i g : Int) (l : List Bd) : Bool := match l[findAt s i g l]? with | some b => cmpN b s i g == 0 | none => false
theorem findAt_le (s i g : Int) (l : List Bd) : findAt s i g l ≤ l.length := List.findIdx_le_length
theorem find_at (s i g : Int) (l : List Bd) (k : Nat) (hk : k < l.length) (hno : ∀ j, (h : j < k) → (h2 : j < l.length) → geN s i g l[j] = false) (hp : geN s i g l[k] = true) : findAt s i g l = k ∧ findIs s i g l = (cmpN l[k] s i g == 0) := by
  have h1 : findAt s i g l = k := by
    unfold findAt
    rw [List.findIdx_eq hk]
    exact ⟨hp, fun j hj => by simpa using hno j hj (by omega)⟩
  refine ⟨h1, ?_⟩
  unfold findIs
  rw [h1, List.getElem?_eq_getElem hk]
theorem find_none (s i g : Int) (l : List Bd) (hno : ∀ j, (h2 : j < l.length) → geN s i g l[j] = false) : findAt s i g l = l.length ∧ findIs s i g l = false := by
  have h1 : findAt s i g l = l.length := by
    unfold findAt
    rw [List.findIdx_eq_length]
    intro x hx
    obtain ⟨j, hj, rfl⟩ := List.getElem_of_mem hx
    exact hno j hj
  refine ⟨h1, ?_⟩
  unfold findIs
  rw [h1, List.getElem?_eq_none (Nat.le_refl _)]

set_option maxRecDepth 100000 in
set_option maxHeartbeats 4000000 in
theorem find_any (w : World) (v : Value) (l : List Bd) (hv : RdOf cBd w v l) (hlen : l.length ≤ 1000) (s i g : Int) :
    Calls Try.prog 43 #[v, .agg #[.int .i64 s, .int .i64 i, .int .i64 g]] w fun e w' => e = .returned (.tuple #[.int .i64 (findAt s i g l), .bool (findIs s i g l)]) ∧ Keeps No w w' := by
  obtain ⟨va, vc, rfl⟩ := hv.slice
  have Hlen := Lib.hid hlen; clear hlen
  go_enter Try.func43, Try.ntmps43
  go_wp2
  go_loopw [11] (fun q wr => ∃ k : Nat, k ≤ l.length ∧ q = .int .i64 k ∧ (∀ j, (h : j < k) → (h2 : j < l.length) → geN s i g l[j] = false) ∧ Keeps No (w.alloc (.cells #[.int .i64 s, .int .i64 i, .int .i64 g] 35)) wr) (fun q _ => l.length - (intOf q).toNat)
  case atStart => exact ⟨0, Nat.zero_le _, rfl, fun j h => absurd h (Nat.not_lt_zero _), Keeps.refl _⟩
  case round =>
    obtain ⟨k, hk, rfl, hno, hkeep⟩ := hrel
    have Hno := Lib.hid hno; clear hno
    have Hw0 := Lib.hid (((Keeps.refl w).alloc _).trans hkeep (fun _ _ h => h))
    have cid : cellsAt wr w.heap.size 0 3 = some [.int .i64 s, .int .i64 i, .int .i64 g] := hkeep.cellsAt (by simp [go_sem])
    by_cases hlt : k < l.length
    · have hv' := hv.kept Hw0.out (fun _ _ h => h)
      obtain ⟨b, off, rfl, hc1, hc2, hb⟩ := RdOf.addr cBd hv' (by omega)
      have g0 : cellsAt wr b (off + k * 11) 11 = some (bdC l[k]) := RdOf.at cBd hv' k hlt
      clear hc1 hc2 hv'
      have HC : Hid (∀ o1, cellsAt (wr.alloc o1) w.heap.size 0 3 = some [.int .i64 s, .int .i64 i, .int .i64 g]) := fun o1 => ((Keeps.refl (S := No) wr).alloc o1).cellsAt cid
      have hkb : (k : Int) ≤ 999 := by have := Hlen.out; omega
      have hbx : w.heap.size < wr.heap.size := by have := hkeep.size; simp at this; omega
      have hfnd : Hid (geN s i g l[k] = true → findAt s i g l = k ∧ findIs s i g l = (cmpN l[k] s i g == 0)) := fun hp => find_at s i g l k hlt Hno.out hp
      have hnxt : Hid (geN s i g l[k] = false → ∀ j, (h : j < k + 1) → (h2 : j < l.length) → geN s i g l[j] = false) := fun hp j h h2 => by
        by_cases hj : j < k
        · exact Hno.out j hj h2
        · obtain rfl : j = k := by omega
          exact hp
      have hge : Hid (geN s i g l[k] = decide (0 ≤ cmpN l[k] s i g)) := rfl
      obtain ⟨o, ho⟩ : ∃ o, o = l[k] := ⟨_, rfl⟩
      rw [← ho] at g0 hfnd hnxt hge
      have Hkk := Lib.hid hkeep
      clear ho Hno hkeep
      go_wp2_with fail
      refine (compare_any _ _ _ _ _).mono ?_
      rintro e w1 ⟨rfl, hk1⟩
      have Hk1 := Lib.hid (show Keeps No w w1 from (Hw0.out.alloc _).trans hk1 (fun _ _ h => h))
      have Hk2 := Lib.hid (show Keeps No wr w1 from ((Keeps.refl wr).alloc _).trans hk1 (fun _ _ h => h))
      have Hk3 := Lib.hid ((Hkk.out.alloc _).trans hk1 (fun _ _ h => h))
      clear hk1 HC cid Hkk
      generalize cmpN o s i g = C at *
      by_cases hC : 0 ≤ C
      · have E := Lib.hid (hfnd.out (by rw [hge.out]; exact decide_eq_true hC))
        clear hfnd hnxt hge
        go_wp2
        exact bodyPost_ret (v := .tuple #[.int .i64 k, .bool (C == 0)]) (by simp [results, Try.results43, go_sem]) rfl ⟨by rw [E.out.1, E.out.2], Hk1.out⟩
      · have E := Lib.hid (hnxt.out (by rw [hge.out]; exact decide_eq_false hC))
        clear hfnd hnxt hge
        go_wp2
        go_roundw
        case rel => exact ⟨k + 1, by omega, by go_num, E.out, Hk3.out⟩
        case measure => simp [intOf]; omega
    · have E := Lib.hid (find_none s i g l (fun j hj => Hno.out j (by omega) hj))
      clear cid hkeep
      go_wp2
      exact bodyPost_ret (v := .tuple #[.int .i64 l.length, .bool false]) (by simp [results, Try.results43, go_sem]) rfl ⟨by rw [E.out.1, E.out.2], Hw0.out⟩

end Go.Proofs.Ytggaeihinheojaa
