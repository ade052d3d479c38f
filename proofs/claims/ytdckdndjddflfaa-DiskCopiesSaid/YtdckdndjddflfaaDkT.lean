/-
  The document's disk: open, down, fits, Cut. No conditions of its own.
-/
import Derived.Test.YtdckdndjddflfaaDkR
namespace Go.Proofs.Ytdckdndjddflfaa
open Go.RowKit

/-- what open finds -/
def openA (L : List Rf) (dead : Bool) (n : ByteArray) : Int × Int := bif (atE L n).2 != 1 && dead then (0, 12) else atE L n

section
variable {w : World} {q base : Nat} {v : Value} {L : List Rf} {is : Bool} {room : Int} {dead : Bool}

theorem RefAt.c1 (h : RefAt w q base v L is room dead) : w.cell? ⟨q, 1, none⟩ = some (.bool is) := by simp [World.cell?, h.cells]
theorem RefAt.c2 (h : RefAt w q base v L is room dead) : w.cell? ⟨q, 2, none⟩ = some (.int .i64 room) := by simp [World.cell?, h.cells]
theorem RefAt.c3 (h : RefAt w q base v L is room dead) : w.cell? ⟨q, 3, none⟩ = some (.bool dead) := by simp [World.cell?, h.cells]
theorem RefAt.opened (h : RefAt w q base v L is room dead) : Open w q := ⟨_, _, h.cells⟩
theorem RefAt.setIs (h : RefAt w q base v L is room dead) (b : Bool) : RefAt (w.setCell ⟨q, 1, none⟩ (.bool b)) q base v L b room dead :=
  ⟨heap_setCell_at h.cells _, ((Keeps.refl (S := Own q) w).setCell (p := ⟨q, 1, none⟩) (fun _ => (rfl : q = q)) _).owns h.own (fun i hi e => h.ne i hi e), h.ne, h.few, by simpa using h.low⟩
theorem RefAt.setRoom (h : RefAt w q base v L is room dead) (r : Int) : RefAt (w.setCell ⟨q, 2, none⟩ (.int .i64 r)) q base v L is r dead :=
  ⟨heap_setCell_at h.cells _, ((Keeps.refl (S := Own q) w).setCell (p := ⟨q, 2, none⟩) (fun _ => (rfl : q = q)) _).owns h.own (fun i hi e => h.ne i hi e), h.ne, h.few, by simpa using h.low⟩
theorem RefAt.setDead (h : RefAt w q base v L is room dead) (d : Bool) : RefAt (w.setCell ⟨q, 3, none⟩ (.bool d)) q base v L is room d :=
  ⟨heap_setCell_at h.cells _, ((Keeps.refl (S := Own q) w).setCell (p := ⟨q, 3, none⟩) (fun _ => (rfl : q = q)) _).owns h.own (fun i hi e => h.ne i hi e), h.ne, h.few, by simpa using h.low⟩

set_option maxRecDepth 100000 in
set_option maxHeartbeats 1000000 in
theorem ropen_any (h : RefAt w q base v L is room dead) (n : ByteArray) (i ec : Int) (hE : openA L dead n = (i, ec)) : Calls Try.prog 45 #[dP q, .string n] w fun e w' => e = .returned (.tuple #[.int .i64 i, .int .i64 ec]) ∧ w' = w := by
  obtain ⟨⟨i1, e1⟩, h1⟩ : ∃ x, atE L n = x := ⟨_, rfl⟩
  unfold openA at hE
  rw [h1] at hE
  have Hat := Lib.hid (at_any h n i1 e1 h1)
  have c3 := h.c3
  clear h h1
  cases ha : (e1 != 1)
  · rw [ha, Bool.false_and, cond_false] at hE
    simp only [Prod.mk.injEq] at hE
    obtain ⟨rfl, rfl⟩ := hE
    go_enter Try.func45, Try.ntmps45
    go_wp2_with fail
    refine Hat.out.mono ?_
    rintro e w1 ⟨rfl, rfl⟩
    go_wp2
    refine bodyPost_ret (v := .tuple #[.int .i64 i1, .int .i64 e1]) ?_ rfl ⟨rfl, rfl⟩
    simp [results, Try.results45, go_sem, *]
  · rw [ha, Bool.true_and] at hE
    cases dead
    · rw [cond_false] at hE
      simp only [Prod.mk.injEq] at hE
      obtain ⟨rfl, rfl⟩ := hE
      go_enter Try.func45, Try.ntmps45
      go_wp2_with fail
      refine Hat.out.mono ?_
      rintro e w1 ⟨rfl, rfl⟩
      go_wp2
      refine bodyPost_ret (v := .tuple #[.int .i64 i1, .int .i64 e1]) ?_ rfl ⟨rfl, rfl⟩
      simp [results, Try.results45, go_sem, *]
    · rw [cond_true] at hE
      simp only [Prod.mk.injEq] at hE
      obtain ⟨rfl, rfl⟩ := hE
      go_enter Try.func45, Try.ntmps45
      go_wp2_with fail
      refine Hat.out.mono ?_
      rintro e w1 ⟨rfl, rfl⟩
      go_wp2
      refine bodyPost_ret (v := .tuple #[.int .i64 0, .int .i64 12]) ?_ rfl ⟨rfl, rfl⟩
      simp [results, Try.results45, go_sem, *]

theorem rdown_any (h : RefAt w q base v L is room dead) : Calls Try.prog 48 #[dP q] w fun e w' => e = .returned (.int .i64 (bif dead then 12 else 0)) ∧ w' = w := by
  have c3 := h.c3
  cases dead
  all_goals
    go_enter Try.func48, Try.ntmps48
    go_wp2
    go_ret
    exact ⟨rfl, rfl⟩

/-- not cut: all is taken -/
theorem fits_free (h : RefAt w q base v L false room dead) (s : ByteArray) : Calls Try.prog 46 #[dP q, .string s] w fun e w' => e = .returned (.string s) ∧ w' = w := by
  have c1 := h.c1
  go_enter Try.func46, Try.ntmps46
  go_wp2
  go_ret
  exact ⟨rfl, rfl⟩
set_option maxHeartbeats 1000000 in
theorem fits_all (h : RefAt w q base v L true room dead) (s : ByteArray) (hs : (s.size : Int) ≤ room) (hr : room ≤ 9223372036854775807) : Calls Try.prog 46 #[dP q, .string s] w fun e w' => e = .returned (.string s) ∧ RefAt w' q base v L true (room - s.size) dead ∧ Keeps (Own q) w w' := by
  have c1 := h.c1
  have c2 := h.c2
  have f2 := h.opened.frozen 2
  have hlt : decide (room < (s.size : Int)) = false := decide_eq_false (by omega)
  have hw : IntKind.i64.wrap (room - (s.size : Int)) = room - (s.size : Int) := by rw [IntKind.wrap_i64]; omega
  have hw2 : wrap64 (room - (s.size : Int)) = room - (s.size : Int) := IntWalk.wrap64_in _ ⟨by omega, by omega⟩
  have H := Lib.hid h
  clear h hs hr
  go_enter Try.func46, Try.ntmps46
  go_wp2
  go_ret
  exact ⟨rfl, H.out.setRoom _, (Keeps.refl (S := Own q) w).setCell (p := ⟨q, 2, none⟩) (fun _ => (rfl : q = q)) _⟩
set_option maxHeartbeats 1000000 in
theorem fits_part {M : Nat} (h : RefAt w q base v L true M dead) (s : ByteArray) (hs : (M : Int) < (s.size : Int)) : Calls Try.prog 46 #[dP q, .string s] w fun e w' => e = .returned (.string (s.extract 0 M)) ∧ RefAt w' q base v L true 0 true ∧ Keeps (Own q) w w' := by
  have c1 := h.c1
  have c2 := h.c2
  have f2 := h.opened.frozen 2
  have c3 := h.c3
  have f3 := h.opened.frozen 3
  have hlt : M < s.size := by omega
  have hM0 : (0 : Int) ≤ (M : Int) := by omega
  have hM1 : (M : Int) ≤ (s.size : Int) := by omega
  have hx : (s.extract 0 M).size = M := by simp; omega
  have hw : IntKind.i64.wrap ((M : Int) - (M : Int)) = 0 := by rw [Int.sub_self]; rfl
  have H := Lib.hid h
  clear h hs
  go_enter Try.func46, Try.ntmps46
  go_wp2
  go_ret
  exact ⟨rfl, (H.out.setDead true).setRoom 0, ((Keeps.refl (S := Own q) w).setCell (p := ⟨q, 3, none⟩) (fun _ => (rfl : q = q)) _).setCell (p := ⟨q, 2, none⟩) (fun _ => (rfl : q = q)) _⟩
end
end Go.Proofs.Ytdckdndjddflfaa
