/-
  octet's reader, in memory: what each method makes of it. No conditions of its own.
-/
import Derived.Test.YtndjnkjcfdaegaaGreatDoorZh11
set_option linter.all false
namespace Go.Proofs.YtndjnkjcfdaegaaGreatDoor
open Go.RowKit Go.Joins

/-- a reader's box -/
def rdrC : Rdr → List Value
  | none => [.string ⟨#[]⟩, .bool true]
  | some s => [.string ⟨s.toArray⟩, .bool false]
structure RdrAt (w : World) (g : Nat) (r : Rdr) : Prop where
  box : w.heap[g]? = some (.cells (rdrC r).toArray 178 (0, 0))
  few : ∀ s, r = some s → (s.length : Int) ≤ 140737488355328
theorem RdrAt.kept {S : Nat → Prop} {w w' : World} {g : Nat} {r : Rdr} (h : RdrAt w g r) (k : Keeps S w w') (hg : ¬ S g) : RdrAt w' g r := ⟨k.heap h.box hg, h.few⟩
theorem Keeps.own {w w' : World} {g : Nat} (h : Keeps No w w') : Keeps (Own g) w w' := h.mono (fun _ _ h => h.elim)
theorem RdrAt.cells {w : World} {g : Nat} {r : Rdr} (h : RdrAt w g r) : ∃ x y, w.cell? ⟨g, 0, none⟩ = some x ∧ w.cell? ⟨g, 1, none⟩ = some y := by
  cases r with
  | none => exact ⟨_, _, by simp [World.cell?, h.box, rdrC]; rfl, by simp [World.cell?, h.box, rdrC]; rfl⟩
  | some s => exact ⟨_, _, by simp [World.cell?, h.box, rdrC]; rfl, by simp [World.cell?, h.box, rdrC]; rfl⟩
theorem RdrAt.lt {w : World} {g : Nat} {r : Rdr} (h : RdrAt w g r) : g < w.heap.size := (Array.getElem?_eq_some_iff.1 h.box).1
theorem RdrAt.size {w : World} {g : Nat} {s : Nm} (h : RdrAt w g (some s)) : ((⟨s.toArray⟩ : ByteArray).size : Int) ≤ 140737488355328 := by
  have := h.few s rfl
  have e : (⟨s.toArray⟩ : ByteArray).size = s.length := by simp [ByteArray.size]
  omega
theorem heap_setCell_two {w : World} {p : Nat} {x y : Value} {t : TypeId} (h : w.heap[p]? = some (.cells #[x, y] t (0, 0))) (u v : Value) : ((w.setCell ⟨p, 1, none⟩ v).setCell ⟨p, 0, none⟩ u).heap[p]? = some (.cells #[u, v] t (0, 0)) :=
  heap_setCell_at (heap_setCell_at h v) u
theorem rdI_some {s : Nm} : rdI (some s) = rdN s := rfl
theorem rdI_few {r : Rdr} (h : ∀ s, r = some s → (s.length : Int) ≤ 140737488355328) : ∀ s, (rdI r).2 = some s → (s.length : Int) ≤ 140737488355328 := by
  intro s hs
  cases r with
  | none => cases hs
  | some t =>
    rw [rdI_some] at hs
    unfold rdN at hs
    have := h t rfl
    cases hh : headI t with
    | none => rw [hh] at hs; cases hs
    | some p =>
      obtain ⟨n, k⟩ := p
      rw [hh] at hs
      simp only [Option.some.injEq] at hs
      subst hs
      rw [List.length_drop]
      omega
set_option maxRecDepth 100000 in
theorem rInt_any {w : World} {g : Nat} {r : Rdr} (h : RdrAt w g r) : Calls Tryz.prog 48 #[dP g] w fun e w' => e = .returned (.int .i64 (rdI r).1) ∧ RdrAt w' g (rdI r).2 ∧ Keeps (Own g) w w' := by
  have hlt := h.lt
  have HH := Lib.hid h
  cases r with
  | none =>
    have c1 : w.cell? ⟨g, 1, none⟩ = some (.bool true) := by simp [World.cell?, h.box, rdrC]
    clear h
    go_enter Tryz.func48, Tryz.ntmps48
    go_wp2
    go_ret
    exact ⟨rfl, HH.out, Keeps.refl _⟩
  | some s =>
    have hsz := h.size
    have c0 : w.cell? ⟨g, 0, none⟩ = some (.string ⟨s.toArray⟩) := by simp [World.cell?, h.box, rdrC]
    have c1 : w.cell? ⟨g, 1, none⟩ = some (.bool false) := by simp [World.cell?, h.box, rdrC]
    have HN : Hid (rdI (some s) = rdN s) := Lib.hid rfl
    have HC := octHead_any w ⟨s.toArray⟩ hsz
    have hst : (⟨s.toArray⟩ : ByteArray).data.toList = s := by simp
    rw [hst] at HC
    have HFew := Lib.hid (rdI_few h.few)
    have hss : (⟨s.toArray⟩ : ByteArray).size = s.length := by simp [ByteArray.size]
    obtain ⟨T, hT⟩ : ∃ T : ByteArray, T = ⟨s.toArray⟩ := ⟨_, rfl⟩
    have hbox := h.box
    rw [rdrC, ← hT] at hbox
    rw [← hT] at c0 HC hss hst
    cases hh : headI s with
    | none =>
      rw [hh] at HC
      have HR : Hid (rdI (some s) = (0, none)) := Lib.hid (by rw [HN.out]; unfold rdN; rw [hh])
      have HB := Lib.hid hbox
      have HS := Lib.hid hh
      have C := Lib.hid HC
      clear h hT hh hst hbox HC hss
      go_enter Tryz.func48, Tryz.ntmps48
      go_wp2_with fail
      refine C.out.mono ?_
      rintro e w1 ⟨rfl, hk⟩
      have K1 := Lib.hid hk
      have d0 := hk.cell c0 (fun h => h)
      have d1 := hk.cell c1 (fun h => h)
      have HB1 := Lib.hid (hk.heap HB.out (fun h => h))
      have f0 : w1.frozen? ⟨g, 0, none⟩ = false := frozen_of_row _ _ _ _ _ HB1.out
      have f1 : w1.frozen? ⟨g, 1, none⟩ = false := frozen_of_row _ _ _ _ _ HB1.out
      clear hk c0 c1
      simp only [headV]
      go_wp2
      go_ret
      refine ⟨by rw [HR.out]; rfl, ⟨?_, ?_⟩, ?_⟩
      · rw [HR.out]
        exact heap_setCell_two HB1.out _ _
      · rw [HR.out]
        intro s h
        cases h
      · exact ((K1.out.own.setCell (p := ⟨g, 1, none⟩) (fun _ => (rfl : g = g)) _).setCell (p := ⟨g, 0, none⟩) (fun _ => (rfl : g = g)) _)
    | some p =>
      obtain ⟨n, k⟩ := p
      rw [hh] at HC
      obtain ⟨hn1, hn2, hk1, hk2, hk9⟩ := headI_ok hh
      have HR : Hid (rdI (some s) = (n, some (s.drop k))) := Lib.hid (by rw [HN.out]; unfold rdN; rw [hh])
      have hsz2 : k ≤ T.size := by omega
      have hsz3 : (k : Int) ≤ (T.size : Int) := by omega
      have hk0 : (0 : Int) ≤ (k : Int) := by omega
      have HD : Hid (T.extract k T.size = ⟨(s.drop k).toArray⟩) := by
        refine Lib.hid ?_
        have h2 : (T.extract k T.size).data.toList = s.drop k := by rw [← ByteArray.toList_eq, Lib.extract_toList, hst, List.take_of_length_le (by rw [List.length_drop]; omega)]
        cases he : T.extract k T.size
        rw [he] at h2
        simp only at h2
        congr 1
        rw [← h2]
      have HB := Lib.hid hbox
      have C := Lib.hid HC
      clear h hT hh hst hbox HC hss
      go_enter Tryz.func48, Tryz.ntmps48
      go_wp2_with fail
      refine C.out.mono ?_
      rintro e w1 ⟨rfl, hk⟩
      have K1 := Lib.hid hk
      have d0 := hk.cell c0 (fun h => h)
      have d1 := hk.cell c1 (fun h => h)
      have HB1 := Lib.hid (hk.heap HB.out (fun h => h))
      have f0 : w1.frozen? ⟨g, 0, none⟩ = false := frozen_of_row _ _ _ _ _ HB1.out
      clear hk c0 c1
      simp only [headV]
      go_wp2
      go_ret
      refine ⟨by rw [HR.out]; rfl, ⟨?_, ?_⟩, ?_⟩
      · rw [HR.out, HD.out]
        exact heap_setCell_at HB1.out _
      · exact HFew.out
      · exact (K1.out.own.setCell (p := ⟨g, 0, none⟩) (fun _ => (rfl : g = g)) _)
theorem of_any (w : World) (s : ByteArray) (hs : (s.size : Int) ≤ 140737488355328) : Calls Tryz.prog 47 #[.string s] w fun e w' => e = .returned (dP w.heap.size) ∧ RdrAt w' w.heap.size (some s.data.toList) ∧ Keeps No w w' := by
  have Hs := Lib.hid hs
  clear hs
  go_enter Tryz.func47, Tryz.ntmps47
  go_wp2
  go_ret
  refine ⟨rfl, ⟨?_, ?_⟩, (Keeps.refl w).alloc _⟩
  · rw [heap_alloc_new]
    rfl
  · intro t ht
    cases ht
    have := Hs.out
    simpa using this
theorem left_any {w : World} {g : Nat} {r : Rdr} (h : RdrAt w g r) : Calls Tryz.prog 95 #[dP g] w fun e w' => e = .returned (.int .i64 (((r.getD []).length : Nat) : Int)) ∧ w = w' := by
  cases r with
  | none =>
    have c0 : w.cell? ⟨g, 0, none⟩ = some (.string ⟨#[]⟩) := by simp [World.cell?, h.box, rdrC]
    clear h
    go_enter Tryz.func95, Tryz.ntmps95
    go_wp2
    go_ret
    exact ⟨rfl, rfl⟩
  | some s =>
    have c0 : w.cell? ⟨g, 0, none⟩ = some (.string ⟨s.toArray⟩) := by simp [World.cell?, h.box, rdrC]
    have HL : Hid ((⟨s.toArray⟩ : ByteArray).size = s.length) := Lib.hid (by simp [ByteArray.size])
    obtain ⟨T, hT⟩ : ∃ T : ByteArray, T = ⟨s.toArray⟩ := ⟨_, rfl⟩
    rw [← hT] at c0 HL
    clear h hT
    go_enter Tryz.func95, Tryz.ntmps95
    go_wp2
    go_ret
    exact ⟨by rw [Option.getD_some, ← HL.out]; rfl, rfl⟩
theorem done_any {w : World} {g : Nat} {r : Rdr} (h : RdrAt w g r) : Calls Tryz.prog 52 #[dP g] w fun e w' => e = .returned (.int .i64 (bif doneR r then 0 else 2)) ∧ w = w' := by
  match r, h with
  | none, h =>
    have c0 : w.cell? ⟨g, 1, none⟩ = some (.bool true) := by simp [World.cell?, h.box, rdrC]
    clear h
    go_enter Tryz.func52, Tryz.ntmps52
    go_wp2
    go_ret
    exact ⟨rfl, rfl⟩
  | some [], h =>
    have c0 : w.cell? ⟨g, 0, none⟩ = some (.string ⟨#[]⟩) := by simp [World.cell?, h.box, rdrC]
    have c1 : w.cell? ⟨g, 1, none⟩ = some (.bool false) := by simp [World.cell?, h.box, rdrC]
    clear h
    go_enter Tryz.func52, Tryz.ntmps52
    go_wp2
    go_ret
    exact ⟨rfl, rfl⟩
  | some (x :: s), h =>
    have c0 : w.cell? ⟨g, 0, none⟩ = some (.string ⟨(x :: s).toArray⟩) := by simp [World.cell?, h.box, rdrC]
    have c1 : w.cell? ⟨g, 1, none⟩ = some (.bool false) := by simp [World.cell?, h.box, rdrC]
    have hl : (⟨(x :: s).toArray⟩ : ByteArray).toList = x :: s := by rw [ByteArray.toList_eq]
    obtain ⟨T, hT⟩ : ∃ T : ByteArray, T = ⟨(x :: s).toArray⟩ := ⟨_, rfl⟩
    rw [← hT] at c0 hl
    have h1 : T.toList.isEmpty = false := by rw [hl]; rfl
    have h2 : (!T.toList.isEmpty) = true := by rw [h1]; rfl
    clear h hT hl
    go_enter Tryz.func52, Tryz.ntmps52
    go_wp2
    go_ret
    exact ⟨rfl, rfl⟩
theorem RdrAt.bad {w : World} {g : Nat} {r : Rdr} (h : RdrAt w g r) : RdrAt ((w.setCell ⟨g, 1, none⟩ (.bool true)).setCell ⟨g, 0, none⟩ (.string ⟨#[]⟩)) g none := by
  refine ⟨?_, fun s hs => by cases hs⟩
  cases r with
  | none => exact heap_setCell_two h.box _ _
  | some s => exact heap_setCell_two h.box _ _
theorem count_any {w : World} {g : Nat} {r : Rdr} (h : RdrAt w g r) (m : Int) : Calls Tryz.prog 94 #[dP g, .int .i64 m] w fun e w' => e = .returned (.int .i64 (rdCount m r).1) ∧ RdrAt w' g (rdCount m r).2 ∧ Keeps (Own g) w w' := by
  have C := Lib.hid (rInt_any h)
  have hlt := h.lt
  obtain ⟨x, hx⟩ : ∃ x, x = rdI r := ⟨_, rfl⟩
  have HC : Hid (rdCount m r = bif decide (x.1 < 0) || decide (m < x.1) then (0, none) else x) := Lib.hid (by rw [hx]; rfl)
  rw [← hx] at C
  obtain ⟨n, r'⟩ := x
  clear h hx
  dsimp only at C HC
  by_cases h1 : n < 0
  · have HR : Hid (rdCount m r = (0, none)) := Lib.hid (by rw [HC.out, decide_eq_true h1]; rfl)
    clear HC
    go_enter Tryz.func94, Tryz.ntmps94
    go_wp2_with fail
    refine C.out.mono ?_
    rintro e w1 ⟨rfl, hr1, hk1⟩
    have R1 := Lib.hid hr1
    have K1 := Lib.hid hk1
    have f0 : w1.frozen? ⟨g, 0, none⟩ = false := frozen_of_row _ _ _ _ _ hr1.box
    have f1 : w1.frozen? ⟨g, 1, none⟩ = false := frozen_of_row _ _ _ _ _ hr1.box
    obtain ⟨x0, x1, d0, d1⟩ := hr1.cells
    clear hr1 hk1
    go_wp2
    go_ret
    exact ⟨by rw [HR.out]; rfl, by rw [HR.out]; exact R1.out.bad, ((K1.out.setCell (p := ⟨g, 1, none⟩) (fun _ => (rfl : g = g)) _).setCell (p := ⟨g, 0, none⟩) (fun _ => (rfl : g = g)) _)⟩
  · by_cases h2 : m < n
    · have HR : Hid (rdCount m r = (0, none)) := Lib.hid (by rw [HC.out, decide_eq_false h1, decide_eq_true h2]; rfl)
      clear HC
      go_enter Tryz.func94, Tryz.ntmps94
      go_wp2_with fail
      refine C.out.mono ?_
      rintro e w1 ⟨rfl, hr1, hk1⟩
      have R1 := Lib.hid hr1
      have K1 := Lib.hid hk1
      have f0 : w1.frozen? ⟨g, 0, none⟩ = false := frozen_of_row _ _ _ _ _ hr1.box
      have f1 : w1.frozen? ⟨g, 1, none⟩ = false := frozen_of_row _ _ _ _ _ hr1.box
      obtain ⟨x0, x1, d0, d1⟩ := hr1.cells
      clear hr1 hk1
      go_wp2
      go_ret
      exact ⟨by rw [HR.out]; rfl, by rw [HR.out]; exact R1.out.bad, ((K1.out.setCell (p := ⟨g, 1, none⟩) (fun _ => (rfl : g = g)) _).setCell (p := ⟨g, 0, none⟩) (fun _ => (rfl : g = g)) _)⟩
    · have HR : Hid (rdCount m r = (n, r')) := Lib.hid (by rw [HC.out, decide_eq_false h1, decide_eq_false h2]; rfl)
      clear HC
      go_enter Tryz.func94, Tryz.ntmps94
      go_wp2_with fail
      refine C.out.mono ?_
      rintro e w1 ⟨rfl, hr1, hk1⟩
      have R1 := Lib.hid hr1
      have K1 := Lib.hid hk1
      clear hr1 hk1
      go_wp2
      go_ret
      exact ⟨by rw [HR.out]; rfl, by rw [HR.out]; exact R1.out, K1.out⟩
/-- a reader is bad -/
def badR (r : Rdr) : Bool := !r.isSome
theorem bad_any {w : World} {g : Nat} {r : Rdr} (h : RdrAt w g r) : Calls Tryz.prog 96 #[dP g] w fun e w' => e = .returned (.bool (badR r)) ∧ w = w' := by
  have C1 := Lib.hid (left_any h)
  have C2 := Lib.hid (done_any h)
  match r, C1, C2 with
  | none, C1, C2 =>
    clear h
    go_enter Tryz.func96, Tryz.ntmps96
    go_wp2_with fail
    refine C1.out.mono ?_
    rintro e w1 ⟨rfl, rfl⟩
    simp only [Option.getD_none, List.length_nil, Int.natCast_zero]
    go_wp2_with fail
    refine C2.out.mono ?_
    rintro e w1 ⟨rfl, rfl⟩
    simp only [doneR, cond_false]
    go_wp2
    go_ret
    exact ⟨rfl, rfl⟩
  | some [], C1, C2 =>
    clear h
    go_enter Tryz.func96, Tryz.ntmps96
    go_wp2_with fail
    refine C1.out.mono ?_
    rintro e w1 ⟨rfl, rfl⟩
    simp only [Option.getD_some, List.length_nil, Int.natCast_zero]
    go_wp2_with fail
    refine C2.out.mono ?_
    rintro e w1 ⟨rfl, rfl⟩
    simp only [doneR, cond_true]
    go_wp2
    go_ret
    exact ⟨rfl, rfl⟩
  | some (x :: s), C1, C2 =>
    have hl : (((x :: s).length : Nat) : Int) ≠ 0 := by simp; omega
    obtain ⟨L, hL⟩ : ∃ L : Int, L = ((x :: s).length : Nat) := ⟨_, rfl⟩
    have C1' : Hid (Calls Tryz.prog 95 #[dP g] w fun e w' => e = .returned (.int .i64 L) ∧ w = w') := by rw [hL]; exact C1
    have hl2 : (L == 0) = false := by rw [hL]; simpa using hl
    clear h hl hL C1
    go_enter Tryz.func96, Tryz.ntmps96
    go_wp2_with fail
    refine C1'.out.mono ?_
    rintro e w1 ⟨rfl, rfl⟩
    go_wp2
    go_ret
    exact ⟨rfl, rfl⟩
end Go.Proofs.YtndjnkjcfdaegaaGreatDoor
