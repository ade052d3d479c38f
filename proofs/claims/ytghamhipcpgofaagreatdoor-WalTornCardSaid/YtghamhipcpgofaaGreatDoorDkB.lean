/-
  disk.New, find, open, Cut, Dead, Read, Size. No conditions of their own.
-/
import Derived.Test.YtghamhipcpgofaaGreatDoorDkA
namespace Go.Proofs.YtghamhipcpgofaaGreatDoor
open Go.RowKit

/-- what find finds: the file, and the error -/
def findE (fs : Fs) (n : ByteArray) : Fi × Int :=
  bif decide ((n.size : Int) < 1) then (Fi.none, 1) else bif decide ((32 : Int) < (n.size : Int)) then (Fi.none, 1) else
    match getF fs n.data.toList with
    | some f => (f, 0)
    | none => (Fi.none, 6)
/-- what open finds -/
def openE (fs : Fs) (dead : Bool) (n : ByteArray) : Fi × Int := bif (findE fs n).2 != 1 && dead then (Fi.none, 12) else findE fs n
theorem findE_cases (fs : Fs) (n : ByteArray) : (findE fs n = (Fi.none, 1)) ∨ (findE fs n = (Fi.none, 6) ∧ getF fs n.data.toList = none ∧ 1 ≤ n.size ∧ n.size ≤ 32) ∨ ∃ f, findE fs n = (f, 0) ∧ getF fs n.data.toList = some f ∧ 1 ≤ n.size ∧ n.size ≤ 32 := by
  unfold findE
  cases h1 : decide ((n.size : Int) < 1)
  · cases h2 : decide ((32 : Int) < (n.size : Int))
    · have e1 := of_decide_eq_false h1
      have e2 := of_decide_eq_false h2
      cases hg : getF fs n.data.toList with
      | none => exact .inr (.inl ⟨rfl, rfl, by omega, by omega⟩)
      | some f => exact .inr (.inr ⟨f, rfl, rfl, by omega, by omega⟩)
    · exact .inl rfl
  · exact .inl rfl

abbrev dP (p : Nat) : Value := .pointer (some ⟨p, 0, none⟩)

section
variable {w : World} {p b : Nat} {fs : Fs} {room : Int} {dead : Bool}

theorem new_any (w : World) : Calls Tryz.prog 28 #[] w fun e w' => e = .returned (dP (w.heap.size + 1)) ∧ DiskAt w' (w.heap.size + 1) w.heap.size [] 4611686018427387904 false ∧ Keeps No w w' := by
  have hmm := @run_makeMap Tryz.prog
  go_enter Tryz.func28, Tryz.ntmps28
  go_wp2
  go_ret
  refine ⟨rfl, ⟨?_, ?_, by simp, by simp, by simp, by omega, by omega⟩, ((Keeps.refl (S := No) w).alloc _).alloc _⟩
  · have := heap_alloc_new (w.alloc (.map #[] 0)) (.cells #[.map (some w.heap.size), .int .i64 4611686018427387904, .bool false] 70)
    simpa using this
  · exact own_kept (S := No) (World.ownsMap_made (H := Unit) w Tryz.prog 9 fileElem) ((Keeps.refl _).alloc _) (fun h => h)

set_option maxRecDepth 100000 in
set_option maxHeartbeats 1000000 in
theorem find_any (hd : DiskAt w p b fs room dead) (n : ByteArray) (fx : Fi) (ec : Int) (hE : findE fs n = (fx, ec)) : Calls Tryz.prog 35 #[dP p, .string n] w fun e w' => e = .returned (.tuple #[fV fx, .int .i64 ec]) ∧ Keeps No w w' := by
  have c0 := hd.cell0
  have lp := hd.lt.1
  have Hown := Lib.hid hd.own
  unfold findE at hE
  cases h1 : decide ((n.size : Int) < 1)
  · cases h2 : decide ((32 : Int) < (n.size : Int))
    · have hn : n.size ≤ maxLen := by
        have := of_decide_eq_false h2
        unfold maxLen
        omega
      have Hn := Lib.hid hn
      clear hn
      rw [h1, h2, cond_false, cond_false] at hE
      cases hg : getF fs n.data.toList with
      | none =>
        rw [hg] at hE
        simp only [Prod.mk.injEq] at hE
        have Hg := Lib.hid hg
        clear hg
        obtain ⟨rfl, rfl⟩ := hE
        go_enter Tryz.func35, Tryz.ntmps35
        go_wp2_with (at_lookup; refine wpList_files_none rfl _ _ rfl (own_kept Hown.out ((Keeps.refl (S := No) w).alloc _) (fun h => h)) rfl n rfl Hn.out Hg.out ?_)
        go_wp2
        refine bodyPost_ret (v := .tuple #[fV Fi.none, .int .i64 6]) ?_ rfl ⟨rfl, ((Keeps.refl (S := No) w).alloc _).alloc _⟩
        simp [results, Tryz.results35, go_sem, *]
      | some f =>
        rw [hg] at hE
        simp only [Prod.mk.injEq] at hE
        have Hg := Lib.hid hg
        clear hg
        obtain ⟨rfl, rfl⟩ := hE
        go_enter Tryz.func35, Tryz.ntmps35
        go_wp2_with (at_lookup; refine wpList_files_some rfl _ _ rfl (own_kept Hown.out ((Keeps.refl (S := No) w).alloc _) (fun h => h)) rfl n rfl Hn.out f Hg.out ?_)
        go_wp2
        refine bodyPost_ret (v := .tuple #[fV f, .int .i64 0]) ?_ rfl ⟨rfl, ((Keeps.refl (S := No) w).alloc _).alloc _⟩
        simp [results, Tryz.results35, go_sem, *]
    · rw [h1, h2, cond_false, cond_true] at hE
      simp only [Prod.mk.injEq] at hE
      obtain ⟨rfl, rfl⟩ := hE
      go_enter Tryz.func35, Tryz.ntmps35
      go_wp2
      refine bodyPost_ret (v := .tuple #[fV Fi.none, .int .i64 1]) ?_ rfl ⟨rfl, (Keeps.refl (S := No) w).alloc _⟩
      simp [results, Tryz.results35, go_sem, *]
  · rw [h1, cond_true] at hE
    simp only [Prod.mk.injEq] at hE
    obtain ⟨rfl, rfl⟩ := hE
    go_enter Tryz.func35, Tryz.ntmps35
    go_wp2
    refine bodyPost_ret (v := .tuple #[fV Fi.none, .int .i64 1]) ?_ rfl ⟨rfl, (Keeps.refl (S := No) w).alloc _⟩
    simp [results, Tryz.results35, go_sem, *]

/-- of no disk -/
theorem find_nil (w : World) (n : ByteArray) : Calls Tryz.prog 35 #[.pointer none, .string n] w fun e w' => e = .returned (.tuple #[fV Fi.none, .int .i64 1]) ∧ Keeps No w w' := by
  go_enter Tryz.func35, Tryz.ntmps35
  go_wp2
  refine bodyPost_ret (v := .tuple #[fV Fi.none, .int .i64 1]) ?_ rfl ⟨rfl, (Keeps.refl (S := No) w).alloc _⟩
  simp [results, Tryz.results35, go_sem, *]

set_option maxRecDepth 100000 in
set_option maxHeartbeats 1000000 in
theorem open_any (hd : DiskAt w p b fs room dead) (n : ByteArray) (fx : Fi) (ec : Int) (hE : openE fs dead n = (fx, ec)) : Calls Tryz.prog 40 #[dP p, .string n] w fun e w' => e = .returned (.tuple #[fV fx, .int .i64 ec]) ∧ Keeps No w w' := by
  obtain ⟨⟨f1, e1⟩, h1⟩ : ∃ x, findE fs n = x := ⟨_, rfl⟩
  unfold openE at hE
  rw [h1] at hE
  have Hf := Lib.hid h1
  have Hd := Lib.hid hd
  clear hd h1
  cases ha : (e1 != 1)
  · rw [ha, Bool.false_and, cond_false] at hE
    simp only [Prod.mk.injEq] at hE
    obtain ⟨rfl, rfl⟩ := hE
    go_enter Tryz.func40, Tryz.ntmps40
    go_wp2_with fail
    refine (find_any (Hd.out.kept ((Keeps.refl (S := No) w).alloc _) (fun h => h) (fun h => h)) n _ _ Hf.out).mono ?_
    rintro e w1 ⟨rfl, hk1⟩
    have p1 : cellsAt w1 w.heap.size 0 2 = some [.string ⟨#[]⟩, .int .i64 0] := hk1.cellsAt (by simp [go_sem])
    have o1 : Open w1 w.heap.size := hk1.opened (by simp [go_sem])
    have n1 : (rowD w1 w.heap.size).size = 2 := hk1.rowSize (by simp [go_sem]) (by simp [go_sem])
    have l1 : w.heap.size < w1.heap.size := by have := hk1.size; simp at this; omega
    have K1 := Lib.hid hk1
    clear hk1
    go_wp2
    refine bodyPost_ret (v := .tuple #[fV f1, .int .i64 e1]) ?_ rfl ⟨rfl, (((((Keeps.refl (S := No) w).alloc _).trans K1.out (fun _ _ h => h)).row (Nat.le_refl _) _).alloc _)⟩
    simp [results, Tryz.results40, go_sem, *]
  · rw [ha, Bool.true_and] at hE
    cases dead
    · rw [cond_false] at hE
      simp only [Prod.mk.injEq] at hE
      obtain ⟨rfl, rfl⟩ := hE
      go_enter Tryz.func40, Tryz.ntmps40
      go_wp2_with fail
      refine (find_any (Hd.out.kept ((Keeps.refl (S := No) w).alloc _) (fun h => h) (fun h => h)) n _ _ Hf.out).mono ?_
      rintro e w1 ⟨rfl, hk1⟩
      have o1 : Open w1 w.heap.size := hk1.opened (by simp [go_sem])
      have n1 : (rowD w1 w.heap.size).size = 2 := hk1.rowSize (by simp [go_sem]) (by simp [go_sem])
      have l1 : w.heap.size < w1.heap.size := by have := hk1.size; simp at this; omega
      have d1 := (Hd.out.kept (((Keeps.refl (S := No) w).alloc _).trans hk1 (fun _ _ h => h)) (fun h => h) (fun h => h))
      have c2 := d1.cell2
      have l2 := d1.lt.1
      have K1 := Lib.hid hk1
      clear hk1 d1
      go_wp2
      refine bodyPost_ret (v := .tuple #[fV f1, .int .i64 e1]) ?_ rfl ⟨rfl, (((((Keeps.refl (S := No) w).alloc _).trans K1.out (fun _ _ h => h)).row (Nat.le_refl _) _).alloc _)⟩
      simp [results, Tryz.results40, go_sem, *]
    · rw [cond_true] at hE
      simp only [Prod.mk.injEq] at hE
      obtain ⟨rfl, rfl⟩ := hE
      go_enter Tryz.func40, Tryz.ntmps40
      go_wp2_with fail
      refine (find_any (Hd.out.kept ((Keeps.refl (S := No) w).alloc _) (fun h => h) (fun h => h)) n _ _ Hf.out).mono ?_
      rintro e w1 ⟨rfl, hk1⟩
      have o1 : Open w1 w.heap.size := hk1.opened (by simp [go_sem])
      have n1 : (rowD w1 w.heap.size).size = 2 := hk1.rowSize (by simp [go_sem]) (by simp [go_sem])
      have l1 : w.heap.size < w1.heap.size := by have := hk1.size; simp at this; omega
      have d1 := (Hd.out.kept (((Keeps.refl (S := No) w).alloc _).trans hk1 (fun _ _ h => h)) (fun h => h) (fun h => h))
      have c2 := d1.cell2
      have l2 := d1.lt.1
      have K1 := Lib.hid hk1
      clear hk1 d1
      go_wp2
      refine bodyPost_ret (v := .tuple #[fV Fi.none, .int .i64 12]) ?_ rfl ⟨rfl, (((((Keeps.refl (S := No) w).alloc _).trans K1.out (fun _ _ h => h)).row (Nat.le_refl _) _).alloc _)⟩
      simp [results, Tryz.results40, go_sem, *]
theorem open_nil (w : World) (n : ByteArray) : Calls Tryz.prog 40 #[.pointer none, .string n] w fun e w' => e = .returned (.tuple #[fV Fi.none, .int .i64 1]) ∧ Keeps No w w' := by
  go_enter Tryz.func40, Tryz.ntmps40
  go_wp2_with fail
  refine (find_nil _ n).mono ?_
  rintro e w1 ⟨rfl, hk1⟩
  have o1 : Open w1 w.heap.size := hk1.opened (by simp [go_sem])
  have n1 : (rowD w1 w.heap.size).size = 2 := hk1.rowSize (by simp [go_sem]) (by simp [go_sem])
  have l1 : w.heap.size < w1.heap.size := by have := hk1.size; simp at this; omega
  have K1 := Lib.hid hk1
  clear hk1
  go_wp2
  refine bodyPost_ret (v := .tuple #[fV Fi.none, .int .i64 1]) ?_ rfl ⟨rfl, (((((Keeps.refl (S := No) w).alloc _).trans K1.out (fun _ _ h => h)).row (Nat.le_refl _) _).alloc _)⟩
  simp [results, Tryz.results40, go_sem, *]

set_option maxRecDepth 100000 in
set_option maxHeartbeats 1000000 in
theorem read_any (hd : DiskAt w p b fs room dead) (n : ByteArray) (fx : Fi) (ec : Int) (hE : findE fs n = (fx, ec)) : Calls Tryz.prog 14 #[dP p, .string n] w fun e w' => e = .returned (.tuple #[.string fx.s, .int .i64 ec]) ∧ Keeps No w w' := by
  have Hd := Lib.hid hd
  clear hd
  go_enter Tryz.func14, Tryz.ntmps14
  go_wp2_with fail
  refine (find_any Hd.out n _ _ hE).mono ?_
  rintro e w1 ⟨rfl, hk1⟩
  have K1 := Lib.hid hk1
  clear hk1
  go_wp2
  refine bodyPost_ret (v := .tuple #[.string fx.s, .int .i64 ec]) ?_ rfl ⟨rfl, K1.out.alloc _⟩
  simp [results, Tryz.results14, go_sem, *]
theorem read_nil (w : World) (n : ByteArray) : Calls Tryz.prog 14 #[.pointer none, .string n] w fun e w' => e = .returned (.tuple #[.string ⟨#[]⟩, .int .i64 1]) ∧ Keeps No w w' := by
  go_enter Tryz.func14, Tryz.ntmps14
  go_wp2_with fail
  refine (find_nil w n).mono ?_
  rintro e w1 ⟨rfl, hk1⟩
  have K1 := Lib.hid hk1
  clear hk1
  go_wp2
  refine bodyPost_ret (v := .tuple #[.string ⟨#[]⟩, .int .i64 1]) ?_ rfl ⟨rfl, K1.out.alloc _⟩
  simp [results, Tryz.results14, go_sem, *]
set_option maxRecDepth 100000 in
set_option maxHeartbeats 1000000 in
theorem size_any (hd : DiskAt w p b fs room dead) (n : ByteArray) (fx : Fi) (ec : Int) (hE : findE fs n = (fx, ec)) : Calls Tryz.prog 50 #[dP p, .string n] w fun e w' => e = .returned (.tuple #[.int .i64 fx.s.size, .int .i64 fx.k, .int .i64 ec]) ∧ Keeps No w w' := by
  have Hd := Lib.hid hd
  clear hd
  go_enter Tryz.func50, Tryz.ntmps50
  go_wp2_with fail
  refine (find_any Hd.out n _ _ hE).mono ?_
  rintro e w1 ⟨rfl, hk1⟩
  have K1 := Lib.hid hk1
  clear hk1
  go_wp2_with fail
  go_region
  all_goals
    go_wp2
    refine bodyPost_ret (v := .tuple #[.int .i64 fx.s.size, .int .i64 fx.k, .int .i64 ec]) ?_ rfl ⟨rfl, (K1.out.alloc _).drew⟩
    simp [results, Tryz.results50, go_sem, *]
theorem size_nil (w : World) (n : ByteArray) : Calls Tryz.prog 50 #[.pointer none, .string n] w fun e w' => e = .returned (.tuple #[.int .i64 0, .int .i64 0, .int .i64 1]) ∧ Keeps No w w' := by
  go_enter Tryz.func50, Tryz.ntmps50
  go_wp2_with fail
  refine (find_nil w n).mono ?_
  rintro e w1 ⟨rfl, hk1⟩
  have K1 := Lib.hid hk1
  clear hk1
  go_wp2_with fail
  go_region
  all_goals
    go_wp2
    refine bodyPost_ret (v := .tuple #[.int .i64 0, .int .i64 0, .int .i64 1]) ?_ rfl ⟨rfl, (K1.out.alloc _).drew⟩
    simp [results, Tryz.results50, go_sem, *]
end
end Go.Proofs.YtghamhipcpgofaaGreatDoor
