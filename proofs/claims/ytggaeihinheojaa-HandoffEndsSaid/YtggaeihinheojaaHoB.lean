/-
  Handoff: the searches among Outs and Ins, in the program and in the document. No conditions of its own.
-/
import Derived.Test.YtggaeihinheojaaHoA
namespace Go.Proofs.Ytggaeihinheojaa
open Go.RowKit

/-- a state, by value -/
abbrev stV (ep t : Int) (own dead outs ins gh : Value) (nx : Int) : Value := .agg #[.int .i64 ep, .int .i64 t, own, dead, outs, ins, gh, .int .i64 nx]

theorem heap3_mid (w : World) (A B C : Obj) : (((w.alloc A).alloc B).alloc C).heap[w.heap.size + 1]? = some B := by
  have h := heap_alloc_new (w.alloc A) B
  rw [World.size_alloc] at h
  exact (Below.heap_alloc _ _ _ (by simp)).trans h
theorem heap3_new (w : World) (A B C : Obj) : (((w.alloc A).alloc B).alloc C).heap[w.heap.size + 1 + 1]? = some C := by
  have h := heap_alloc_new ((w.alloc A).alloc B) C
  rw [World.size_alloc, World.size_alloc] at h
  exact h
theorem keeps3 (w : World) (A B C : Obj) : Keeps No w (((w.alloc A).alloc B).alloc C) := (((Keeps.refl _).alloc _).alloc _).alloc _
/-- a slice among the fields of a state -/
theorem RdOf.slice {α : Type} {C : Codec α} {w : World} {v : Value} {l : List α} (h : RdOf C w v l) : ∃ a c, v = .slice a l.length c := Reads.slice h

section
variable {w : World} {ep t nx : Int} {own dead outs ins gh : Value}

set_option maxHeartbeats 400000 in
theorem out_any {l : List Ou} (hv : RdOf cOu w outs l) (a b : Int) : Calls Try.prog 33 #[stV ep t own dead outs ins gh nx, .int .i64 a, .int .i64 b] w fun e w' => e = .returned (.int .i64 (firstOf (isOut a b) l)) ∧ Keeps No w w' := by
  go_enter Try.func33, Try.ntmps33
  go_wp2_with fail
  refine (idxOut No _ _ l (hv.kept (keeps3 _ _ _ _) (fun _ _ h => h)) _ _ _ (isOut a b) (out1_answers No _ _ _ a b (heap3_mid _ _ _ _) (heap3_new _ _ _ _) (fun h => h) (fun h => h))).mono ?_
  rintro e w1 ⟨rfl, hk1⟩
  have hfin : Hid (Keeps No w w1) := (keeps3 _ _ _ _).trans hk1 (fun _ _ h => h)
  clear hk1
  go_wp2
  go_ret
  exact ⟨rfl, hfin.out⟩

set_option maxHeartbeats 400000 in
theorem in_any {l : List Inn} (hv : RdOf cIn w ins l) (a b : Int) : Calls Try.prog 32 #[stV ep t own dead outs ins gh nx, .int .i64 a, .int .i64 b] w fun e w' => e = .returned (.int .i64 (firstOf (isIn a b) l)) ∧ Keeps No w w' := by
  go_enter Try.func32, Try.ntmps32
  go_wp2_with fail
  refine (idxIn No _ _ l (hv.kept (keeps3 _ _ _ _) (fun _ _ h => h)) _ _ _ (isIn a b) (in1_answers No _ _ _ a b (heap3_mid _ _ _ _) (heap3_new _ _ _ _) (fun h => h) (fun h => h))).mono ?_
  rintro e w1 ⟨rfl, hk1⟩
  have hfin : Hid (Keeps No w w1) := (keeps3 _ _ _ _).trans hk1 (fun _ _ h => h)
  clear hk1
  go_wp2
  go_ret
  exact ⟨rfl, hfin.out⟩

set_option maxHeartbeats 1000000 in
theorem rout_any {l : List Ou} (hv : RdOf cOu w outs l) (a b : Int) : Calls Try.prog 34 #[stV ep t own dead outs ins gh nx, .int .i64 a, .int .i64 b] w fun e w' => e = .returned (.int .i64 (firstOf (isOut a b) l)) ∧ Keeps No w w' := by
  obtain ⟨va, vc, rfl⟩ := hv.slice
  have hlen := RdOf.len cOu hv
  unfold maxLen at hlen
  go_enter Try.func34, Try.ntmps34
  go_wp2
  go_loop [7] (fun i => ∃ k : Nat, k ≤ l.length ∧ i = .int .i64 k ∧ (∀ j, (h : j < k) → (h2 : j < l.length) → isOut a b l[j] = false)) (fun i => l.length - (intOf i).toNat)
  case atStart => exact ⟨0, Nat.zero_le _, rfl, fun j h => absurd h (Nat.not_lt_zero _)⟩
  case round =>
    obtain ⟨k, hk, rfl, hno⟩ := hrel
    have Hno := Lib.hid hno; clear hno
    by_cases hlt : k < l.length
    · obtain ⟨g, off, rfl, hc1, hc2, hg⟩ := RdOf.addr cOu hv (by omega)
      have g0 : cellsAt w g (off + k * 14) 14 = some (ouC l[k]) := RdOf.at cOu hv k hlt
      have ga : w.cell? ⟨g, off + k * 14, none⟩ = some (.int .i64 l[k].n) := cellsAt_cell g0 0 _ rfl
      have gb : w.cell? ⟨g, off + k * 14 + 2, none⟩ = some (.int .i64 l[k].st) := cellsAt_cell g0 2 _ rfl
      clear hc1 hc2 g0
      have hp : Hid (isOut a b l[k] = (l[k].n == a && l[k].st == b)) := rfl
      cases h1 : (l[k].n == a)
      · have Hno' : Hid (∀ j, (h : j < k + 1) → (h2 : j < l.length) → isOut a b l[j] = false) := fun j h h2 => by
          by_cases hj : j < k
          · exact Hno.out j hj h2
          · obtain rfl : j = k := by omega
            rw [hp.out, h1]; rfl
        go_wp2
        go_round
        case rel => exact ⟨k + 1, by omega, by go_num, Hno'.out⟩
        case measure => simp [intOf]; omega
      · cases h2 : (l[k].st == b)
        · have Hno' : Hid (∀ j, (h : j < k + 1) → (h2 : j < l.length) → isOut a b l[j] = false) := fun j h h3 => by
            by_cases hj : j < k
            · exact Hno.out j hj h3
            · obtain rfl : j = k := by omega
              rw [hp.out, h1, h2]; rfl
          go_wp2
          go_round
          case rel => exact ⟨k + 1, by omega, by go_num, Hno'.out⟩
          case measure => simp [intOf]; omega
        · have hfin : Hid (firstOf (isOut a b) l = k) := firstOf_at _ l k hlt Hno.out (by rw [hp.out, h1, h2]; rfl)
          go_wp2
          go_ret
          exact ⟨by rw [hfin.out]; rfl, (Keeps.refl _).alloc _⟩
    · have hfin : Hid (firstOf (isOut a b) l = -1) := firstOf_none _ l (fun j hj => Hno.out j (by omega) hj)
      go_wp2
      go_ret
      exact ⟨by rw [hfin.out]; rfl, (Keeps.refl _).alloc _⟩

set_option maxHeartbeats 1000000 in
theorem rin_any {l : List Inn} (hv : RdOf cIn w ins l) (a b : Int) : Calls Try.prog 16 #[stV ep t own dead outs ins gh nx, .int .i64 a, .int .i64 b] w fun e w' => e = .returned (.int .i64 (firstOf (isIn a b) l)) ∧ Keeps No w w' := by
  obtain ⟨va, vc, rfl⟩ := hv.slice
  have hlen := RdOf.len cIn hv
  unfold maxLen at hlen
  go_enter Try.func16, Try.ntmps16
  go_wp2
  go_loop [7] (fun i => ∃ k : Nat, k ≤ l.length ∧ i = .int .i64 k ∧ (∀ j, (h : j < k) → (h2 : j < l.length) → isIn a b l[j] = false)) (fun i => l.length - (intOf i).toNat)
  case atStart => exact ⟨0, Nat.zero_le _, rfl, fun j h => absurd h (Nat.not_lt_zero _)⟩
  case round =>
    obtain ⟨k, hk, rfl, hno⟩ := hrel
    have Hno := Lib.hid hno; clear hno
    by_cases hlt : k < l.length
    · obtain ⟨g, off, rfl, hc1, hc2, hg⟩ := RdOf.addr cIn hv (by omega)
      have g0 : cellsAt w g (off + k * 13) 13 = some (inC l[k]) := RdOf.at cIn hv k hlt
      have ga : w.cell? ⟨g, off + k * 13, none⟩ = some (.int .i64 l[k].f) := cellsAt_cell g0 0 _ rfl
      have gb : w.cell? ⟨g, off + k * 13 + 1, none⟩ = some (.int .i64 l[k].n) := cellsAt_cell g0 1 _ rfl
      clear hc1 hc2 g0
      have hp : Hid (isIn a b l[k] = (l[k].f == a && l[k].n == b)) := rfl
      cases h1 : (l[k].f == a)
      · have Hno' : Hid (∀ j, (h : j < k + 1) → (h2 : j < l.length) → isIn a b l[j] = false) := fun j h h2 => by
          by_cases hj : j < k
          · exact Hno.out j hj h2
          · obtain rfl : j = k := by omega
            rw [hp.out, h1]; rfl
        go_wp2
        go_round
        case rel => exact ⟨k + 1, by omega, by go_num, Hno'.out⟩
        case measure => simp [intOf]; omega
      · cases h2 : (l[k].n == b)
        · have Hno' : Hid (∀ j, (h : j < k + 1) → (h2 : j < l.length) → isIn a b l[j] = false) := fun j h h3 => by
            by_cases hj : j < k
            · exact Hno.out j hj h3
            · obtain rfl : j = k := by omega
              rw [hp.out, h1, h2]; rfl
          go_wp2
          go_round
          case rel => exact ⟨k + 1, by omega, by go_num, Hno'.out⟩
          case measure => simp [intOf]; omega
        · have hfin : Hid (firstOf (isIn a b) l = k) := firstOf_at _ l k hlt Hno.out (by rw [hp.out, h1, h2]; rfl)
          go_wp2
          go_ret
          exact ⟨by rw [hfin.out]; rfl, (Keeps.refl _).alloc _⟩
    · have hfin : Hid (firstOf (isIn a b) l = -1) := firstOf_none _ l (fun j hj => Hno.out j (by omega) hj)
      go_wp2
      go_ret
      exact ⟨by rw [hfin.out]; rfl, (Keeps.refl _).alloc _⟩

end
end Go.Proofs.Ytggaeihinheojaa
