/-
  Texts in one: DkB, DkC, DkD. No conditions of their own.
-/
import Derived.Test.YtpbpgjfdledgoaaGreatDoorZc02
import Derived.StillTailTactics

/-
  disk.New, find, open, Cut, Dead, Read, Size. No conditions of their own.
-/
namespace Go.Proofs.YtpbpgjfdledgoaaGreatDoor
open Go.RowKit

/-- what find finds: the file, and the error -/
def findE (fs : Fs) (n : ByteArray) : Fi × Int :=
  bif decide ((n.size : Int) < 1) then (Fi.none, 1) else bif decide ((32 : Int) < (n.size : Int)) then (Fi.none, 1) else
    match getF fs n.data.toList with
    | some f => (f, 0)
    | none => (Fi.none, 6)
/-- what open finds -/
def openE (fs : Fs) (dead : Bool) (n : ByteArray) : Fi × Int := bif (findE fs n).2 != 1 && dead then (Fi.none, 12) else findE fs n
theorem findE_cases (fs : Fs) (n : ByteArray) : (findE fs n = (Fi.none, 1)) ∨ (findE fs n = (Fi.none, 6) ∧ getF fs n.data.toList = none ∧ 1 ≤ n.size ∧ n.size ≤ 32) ∨ ∃ f, findE fs n = (f, 0) ∧ getF fs n.data.toList = some f ∧ 1 ≤ n.size ∧ n.size ≤ 32 := by
  unfold findE
  cases h1 : decide ((n.size : Int) < 1)
  · cases h2 : decide ((32 : Int) < (n.size : Int))
    · have e1 := of_decide_eq_false h1
      have e2 := of_decide_eq_false h2
      cases hg : getF fs n.data.toList with
      | none => exact .inr (.inl ⟨rfl, rfl, by omega, by omega⟩)
      | some f => exact .inr (.inr ⟨f, rfl, rfl, by omega, by omega⟩)
    · exact .inl rfl
  · exact .inl rfl

abbrev dP (p : Nat) : Value := .pointer (some ⟨p, 0, none⟩)

section
variable {w : World} {p b : Nat} {fs : Fs} {room : Int} {dead : Bool}

theorem new_any (w : World) : Calls Tryz.prog 17 #[] w fun e w' => e = .returned (dP (w.heap.size + 1)) ∧ DiskAt w' (w.heap.size + 1) w.heap.size [] 4611686018427387904 false ∧ Keeps No w w' := by
  have hmm := @run_makeMap Tryz.prog
  go_enter Tryz.func17, Tryz.ntmps17
  go_wp2
  go_ret
  refine ⟨rfl, ⟨?_, ?_, by simp, by simp, by simp, by omega, by omega⟩, ((Keeps.refl (S := No) w).alloc _).alloc _⟩
  · have := heap_alloc_new (w.alloc (.map #[] 0)) (.cells #[.map (some w.heap.size), .int .i64 4611686018427387904, .bool false] 121)
    simpa using this
  · exact own_kept (S := No) (World.ownsMap_made (H := Unit) w Tryz.prog 9 fileElem) ((Keeps.refl _).alloc _) (fun h => h)

set_option maxRecDepth 100000 in
set_option maxHeartbeats 1000000 in
theorem find_any (hd : DiskAt w p b fs room dead) (n : ByteArray) (fx : Fi) (ec : Int) (hE : findE fs n = (fx, ec)) : Calls Tryz.prog 99 #[dP p, .string n] w fun e w' => e = .returned (.tuple #[fV fx, .int .i64 ec]) ∧ Keeps No w w' := by
  have c0 := hd.cell0
  have lp := hd.lt.1
  have Hown := Lib.hid hd.own
  unfold findE at hE
  cases h1 : decide ((n.size : Int) < 1)
  · cases h2 : decide ((32 : Int) < (n.size : Int))
    · have hn : n.size ≤ maxLen := by
        have := of_decide_eq_false h2
        unfold maxLen
        omega
      have Hn := Lib.hid hn
      clear hn
      rw [h1, h2, cond_false, cond_false] at hE
      cases hg : getF fs n.data.toList with
      | none =>
        rw [hg] at hE
        simp only [Prod.mk.injEq] at hE
        have Hg := Lib.hid hg
        clear hg
        obtain ⟨rfl, rfl⟩ := hE
        go_enter Tryz.func99, Tryz.ntmps99
        go_wp2_with (at_lookup; refine wpList_files_none rfl _ _ rfl (own_kept Hown.out ((Keeps.refl (S := No) w).alloc _) (fun h => h)) rfl n rfl Hn.out Hg.out ?_)
        go_wp2
        refine bodyPost_ret (v := .tuple #[fV Fi.none, .int .i64 6]) ?_ rfl ⟨rfl, ((Keeps.refl (S := No) w).alloc _).alloc _⟩
        simp [results, Tryz.results99, go_sem, *]
      | some f =>
        rw [hg] at hE
        simp only [Prod.mk.injEq] at hE
        have Hg := Lib.hid hg
        clear hg
        obtain ⟨rfl, rfl⟩ := hE
        go_enter Tryz.func99, Tryz.ntmps99
        go_wp2_with (at_lookup; refine wpList_files_some rfl _ _ rfl (own_kept Hown.out ((Keeps.refl (S := No) w).alloc _) (fun h => h)) rfl n rfl Hn.out f Hg.out ?_)
        go_wp2
        refine bodyPost_ret (v := .tuple #[fV f, .int .i64 0]) ?_ rfl ⟨rfl, ((Keeps.refl (S := No) w).alloc _).alloc _⟩
        simp [results, Tryz.results99, go_sem, *]
    · rw [h1, h2, cond_false, cond_true] at hE
      simp only [Prod.mk.injEq] at hE
      obtain ⟨rfl, rfl⟩ := hE
      go_enter Tryz.func99, Tryz.ntmps99
      go_wp2
      refine bodyPost_ret (v := .tuple #[fV Fi.none, .int .i64 1]) ?_ rfl ⟨rfl, (Keeps.refl (S := No) w).alloc _⟩
      simp [results, Tryz.results99, go_sem, *]
  · rw [h1, cond_true] at hE
    simp only [Prod.mk.injEq] at hE
    obtain ⟨rfl, rfl⟩ := hE
    go_enter Tryz.func99, Tryz.ntmps99
    go_wp2
    refine bodyPost_ret (v := .tuple #[fV Fi.none, .int .i64 1]) ?_ rfl ⟨rfl, (Keeps.refl (S := No) w).alloc _⟩
    simp [results, Tryz.results99, go_sem, *]

/-- of no disk -/
theorem find_nil (w : World) (n : ByteArray) : Calls Tryz.prog 99 #[.pointer none, .string n] w fun e w' => e = .returned (.tuple #[fV Fi.none, .int .i64 1]) ∧ Keeps No w w' := by
  go_enter Tryz.func99, Tryz.ntmps99
  go_wp2
  refine bodyPost_ret (v := .tuple #[fV Fi.none, .int .i64 1]) ?_ rfl ⟨rfl, (Keeps.refl (S := No) w).alloc _⟩
  simp [results, Tryz.results99, go_sem, *]

set_option maxRecDepth 100000 in
set_option maxHeartbeats 1000000 in
theorem open_any (hd : DiskAt w p b fs room dead) (n : ByteArray) (fx : Fi) (ec : Int) (hE : openE fs dead n = (fx, ec)) : Calls Tryz.prog 164 #[dP p, .string n] w fun e w' => e = .returned (.tuple #[fV fx, .int .i64 ec]) ∧ Keeps No w w' := by
  obtain ⟨⟨f1, e1⟩, h1⟩ : ∃ x, findE fs n = x := ⟨_, rfl⟩
  unfold openE at hE
  rw [h1] at hE
  have Hf := Lib.hid h1
  have Hd := Lib.hid hd
  clear hd h1
  cases ha : (e1 != 1)
  · rw [ha, Bool.false_and, cond_false] at hE
    simp only [Prod.mk.injEq] at hE
    obtain ⟨rfl, rfl⟩ := hE
    go_enter Tryz.func164, Tryz.ntmps164
    go_wp2_with fail
    refine (find_any (Hd.out.kept ((Keeps.refl (S := No) w).alloc _) (fun h => h) (fun h => h)) n _ _ Hf.out).mono ?_
    rintro e w1 ⟨rfl, hk1⟩
    have p1 : cellsAt w1 w.heap.size 0 2 = some [.string ⟨#[]⟩, .int .i64 0] := hk1.cellsAt (by simp [go_sem])
    have o1 : Open w1 w.heap.size := hk1.opened (by simp [go_sem])
    have n1 : (rowD w1 w.heap.size).size = 2 := hk1.rowSize (by simp [go_sem]) (by simp [go_sem])
    have l1 : w.heap.size < w1.heap.size := by have := hk1.size; simp at this; omega
    have K1 := Lib.hid hk1
    clear hk1
    go_wp2
    refine bodyPost_ret (v := .tuple #[fV f1, .int .i64 e1]) ?_ rfl ⟨rfl, (((((Keeps.refl (S := No) w).alloc _).trans K1.out (fun _ _ h => h)).row (Nat.le_refl _) _).alloc _)⟩
    simp [results, Tryz.results164, go_sem, *]
  · rw [ha, Bool.true_and] at hE
    cases dead
    · rw [cond_false] at hE
      simp only [Prod.mk.injEq] at hE
      obtain ⟨rfl, rfl⟩ := hE
      go_enter Tryz.func164, Tryz.ntmps164
      go_wp2_with fail
      refine (find_any (Hd.out.kept ((Keeps.refl (S := No) w).alloc _) (fun h => h) (fun h => h)) n _ _ Hf.out).mono ?_
      rintro e w1 ⟨rfl, hk1⟩
      have o1 : Open w1 w.heap.size := hk1.opened (by simp [go_sem])
      have n1 : (rowD w1 w.heap.size).size = 2 := hk1.rowSize (by simp [go_sem]) (by simp [go_sem])
      have l1 : w.heap.size < w1.heap.size := by have := hk1.size; simp at this; omega
      have d1 := (Hd.out.kept (((Keeps.refl (S := No) w).alloc _).trans hk1 (fun _ _ h => h)) (fun h => h) (fun h => h))
      have c2 := d1.cell2
      have l2 := d1.lt.1
      have K1 := Lib.hid hk1
      clear hk1 d1
      go_wp2
      refine bodyPost_ret (v := .tuple #[fV f1, .int .i64 e1]) ?_ rfl ⟨rfl, (((((Keeps.refl (S := No) w).alloc _).trans K1.out (fun _ _ h => h)).row (Nat.le_refl _) _).alloc _)⟩
      simp [results, Tryz.results164, go_sem, *]
    · rw [cond_true] at hE
      simp only [Prod.mk.injEq] at hE
      obtain ⟨rfl, rfl⟩ := hE
      go_enter Tryz.func164, Tryz.ntmps164
      go_wp2_with fail
      refine (find_any (Hd.out.kept ((Keeps.refl (S := No) w).alloc _) (fun h => h) (fun h => h)) n _ _ Hf.out).mono ?_
      rintro e w1 ⟨rfl, hk1⟩
      have o1 : Open w1 w.heap.size := hk1.opened (by simp [go_sem])
      have n1 : (rowD w1 w.heap.size).size = 2 := hk1.rowSize (by simp [go_sem]) (by simp [go_sem])
      have l1 : w.heap.size < w1.heap.size := by have := hk1.size; simp at this; omega
      have d1 := (Hd.out.kept (((Keeps.refl (S := No) w).alloc _).trans hk1 (fun _ _ h => h)) (fun h => h) (fun h => h))
      have c2 := d1.cell2
      have l2 := d1.lt.1
      have K1 := Lib.hid hk1
      clear hk1 d1
      go_wp2
      refine bodyPost_ret (v := .tuple #[fV Fi.none, .int .i64 12]) ?_ rfl ⟨rfl, (((((Keeps.refl (S := No) w).alloc _).trans K1.out (fun _ _ h => h)).row (Nat.le_refl _) _).alloc _)⟩
      simp [results, Tryz.results164, go_sem, *]
theorem open_nil (w : World) (n : ByteArray) : Calls Tryz.prog 164 #[.pointer none, .string n] w fun e w' => e = .returned (.tuple #[fV Fi.none, .int .i64 1]) ∧ Keeps No w w' := by
  go_enter Tryz.func164, Tryz.ntmps164
  go_wp2_with fail
  refine (find_nil _ n).mono ?_
  rintro e w1 ⟨rfl, hk1⟩
  have o1 : Open w1 w.heap.size := hk1.opened (by simp [go_sem])
  have n1 : (rowD w1 w.heap.size).size = 2 := hk1.rowSize (by simp [go_sem]) (by simp [go_sem])
  have l1 : w.heap.size < w1.heap.size := by have := hk1.size; simp at this; omega
  have K1 := Lib.hid hk1
  clear hk1
  go_wp2
  refine bodyPost_ret (v := .tuple #[fV Fi.none, .int .i64 1]) ?_ rfl ⟨rfl, (((((Keeps.refl (S := No) w).alloc _).trans K1.out (fun _ _ h => h)).row (Nat.le_refl _) _).alloc _)⟩
  simp [results, Tryz.results164, go_sem, *]

set_option maxRecDepth 100000 in
set_option maxHeartbeats 1000000 in
theorem read_any (hd : DiskAt w p b fs room dead) (n : ByteArray) (fx : Fi) (ec : Int) (hE : findE fs n = (fx, ec)) : Calls Tryz.prog 32 #[dP p, .string n] w fun e w' => e = .returned (.tuple #[.string fx.s, .int .i64 ec]) ∧ Keeps No w w' := by
  have Hd := Lib.hid hd
  clear hd
  go_enter Tryz.func32, Tryz.ntmps32
  go_wp2_with fail
  refine (find_any Hd.out n _ _ hE).mono ?_
  rintro e w1 ⟨rfl, hk1⟩
  have K1 := Lib.hid hk1
  clear hk1
  go_wp2
  refine bodyPost_ret (v := .tuple #[.string fx.s, .int .i64 ec]) ?_ rfl ⟨rfl, K1.out.alloc _⟩
  simp [results, Tryz.results32, go_sem, *]
set_option maxRecDepth 100000 in
set_option maxHeartbeats 1000000 in
theorem size_any (hd : DiskAt w p b fs room dead) (n : ByteArray) (fx : Fi) (ec : Int) (hE : findE fs n = (fx, ec)) : Calls Tryz.prog 106 #[dP p, .string n] w fun e w' => e = .returned (.tuple #[.int .i64 fx.s.size, .int .i64 fx.k, .int .i64 ec]) ∧ Keeps No w w' := by
  have Hd := Lib.hid hd
  clear hd
  go_enter Tryz.func106, Tryz.ntmps106
  go_wp2_with fail
  refine (find_any Hd.out n _ _ hE).mono ?_
  rintro e w1 ⟨rfl, hk1⟩
  have K1 := Lib.hid hk1
  clear hk1
  go_wp2_with fail
  go_region
  all_goals
    go_wp2
    refine bodyPost_ret (v := .tuple #[.int .i64 fx.s.size, .int .i64 fx.k, .int .i64 ec]) ?_ rfl ⟨rfl, (K1.out.alloc _).drew⟩
    simp [results, Tryz.results106, go_sem, *]
end
end Go.Proofs.YtpbpgjfdledgoaaGreatDoor

/-
  disk.Append, Sync, Truncate, Rename, Remove, Cut. No conditions of their own.
-/
namespace Go.Proofs.YtpbpgjfdledgoaaGreatDoor
open Go.RowKit

/-- the disk's two blocks -/
def Two (p b : Nat) : Nat → Prop := fun i => i = p ∨ i = b
abbrev withS (f : Fi) (s : ByteArray) : Fi := ⟨f.s ++ s, f.k⟩

section
variable {w : World} {p b : Nat} {fs : Fs} {room : Int} {dead : Bool}

theorem openE_cases (fs : Fs) (dead : Bool) (n : ByteArray) : openE fs dead n = (Fi.none, 1) ∨ (dead = true ∧ openE fs dead n = (Fi.none, 12) ∧ 1 ≤ n.size ∧ n.size ≤ 32) ∨ (dead = false ∧ openE fs dead n = (Fi.none, 6) ∧ getF fs n.data.toList = none ∧ 1 ≤ n.size ∧ n.size ≤ 32) ∨ ∃ f, dead = false ∧ openE fs dead n = (f, 0) ∧ getF fs n.data.toList = some f ∧ 1 ≤ n.size ∧ n.size ≤ 32 := by
  unfold openE
  rcases findE_cases fs n with h | ⟨h, hg, h1, h2⟩ | ⟨f, h, hg, h1, h2⟩
  · rw [h]
    exact .inl rfl
  · rw [h]
    cases dead
    · exact .inr (.inr (.inl ⟨rfl, rfl, hg, h1, h2⟩))
    · exact .inr (.inl ⟨rfl, rfl, h1, h2⟩)
  · rw [h]
    cases dead
    · exact .inr (.inr (.inr ⟨f, rfl, rfl, hg, h1, h2⟩))
    · exact .inr (.inl ⟨rfl, rfl, h1, h2⟩)

/-- the disk's map is another one -/
theorem DiskAt.turned {w' : World} {fs' : Fs} (h : DiskAt w p b fs room dead) (hk : Keeps (Own b) w w') (ho : w'.ownsMap Tryz.prog 9 fileElem b fs'.length (dOf fs')) (h64 : fs'.length ≤ 64) (hok : ∀ x ∈ fs', FileOk x.2) (hnm : ∀ x ∈ fs', x.1.length ≤ 32) : DiskAt w' p b fs' room dead :=
  ⟨hk.heap h.cells (fun e => h.ne e), ho, h64, hok, hnm, h.r0, h.r1⟩
theorem DiskAt.putF_ok (h : DiskAt w p b fs room dead) {n : ByteArray} {f : Fi} (hn : n.size ≤ 32) (hf : FileOk f) : (∀ x ∈ putF fs n.data.toList f, FileOk x.2) ∧ ∀ x ∈ putF fs n.data.toList f, x.1.length ≤ 32 := by
  refine ⟨fun x hx => ?_, fun x hx => ?_⟩
  · rcases mem_putF hx with rfl | hx
    · exact hf
    · exact h.ok x hx
  · rcases mem_putF hx with rfl | hx
    · simpa using hn
    · exact h.nm x hx
theorem DiskAt.delF_ok (h : DiskAt w p b fs room dead) (n : Nm) : (∀ x ∈ delF fs n, FileOk x.2) ∧ ∀ x ∈ delF fs n, x.1.length ≤ 32 :=
  ⟨fun x hx => h.ok x (List.mem_filter.1 hx).1, fun x hx => h.nm x (List.mem_filter.1 hx).1⟩

set_option maxRecDepth 100000 in
set_option maxHeartbeats 1000000 in
/-- Sync of what cannot be synced -/
theorem sync_err (hd : DiskAt w p b fs room dead) (n : ByteArray) (fx : Fi) (ec : Int) (hE : openE fs dead n = (fx, ec)) (he : (ec == 0) = false) : Calls Tryz.prog 88 #[dP p, .string n] w fun e w' => e = .returned (.int .i64 ec) ∧ Keeps No w w' := by
  have Hd := Lib.hid hd
  clear hd
  go_enter Tryz.func88, Tryz.ntmps88
  go_wp2_with fail
  refine (open_any Hd.out n _ _ hE).mono ?_
  rintro e w1 ⟨rfl, hk1⟩
  have K1 := Lib.hid hk1
  clear hk1
  go_wp2
  go_ret
  exact ⟨rfl, K1.out.alloc _⟩

set_option maxRecDepth 100000 in
set_option maxHeartbeats 1000000 in
theorem sync_ok (hd : DiskAt w p b fs room dead) (n : ByteArray) (f : Fi) (hE : openE fs dead n = (f, 0)) (hg : getF fs n.data.toList = some f) (hn : n.size ≤ 32) : Calls Tryz.prog 88 #[dP p, .string n] w fun e w' => e = .returned (.int .i64 0) ∧ DiskAt w' p b (putF fs n.data.toList ⟨f.s, f.s.size⟩) room dead ∧ Keeps (Own b) w w' := by
  have Hd := Lib.hid hd
  have Hn := Lib.hid hn
  have Hok := Lib.hid (hd.putF_ok hn (f := ⟨f.s, f.s.size⟩) ⟨(hd.get_ok hg).1, Nat.le_refl _⟩)
  have Hlen := Lib.hid (putF_length_some (f := ⟨f.s, f.s.size⟩) hg)
  clear hd hn hg
  go_enter Tryz.func88, Tryz.ntmps88
  go_wp2_with fail
  refine (open_any Hd.out n _ _ hE).mono ?_
  rintro e w1 ⟨rfl, hk1⟩
  have D1 := Lib.hid (Hd.out.kept hk1 (fun h => h) (fun h => h))
  have c0 := D1.out.cell0
  have l1 := D1.out.lt.1
  have K1 := Lib.hid hk1
  clear hk1
  go_wp2
  refine wp_world ?_
  intro W hW
  have KW : Hid (Keeps No w1 W) := by rw [hW]; exact (Keeps.refl (S := No) w1).alloc _
  have DW : Hid (DiskAt W p b fs room dead) := D1.out.kept KW.out (fun h => h) (fun h => h)
  have cW : cellsAt W w1.heap.size 0 2 = some [.string f.s, .int .i64 f.s.size] := by rw [hW]; simp [go_sem]
  have c0W := DW.out.cell0
  clear hW c0 l1
  go_still_tail 6, (by kernel_rfl)
  change wpList _ _ _ _ _ (World.drew _)
  refine wpList_files_put rfl (.tmp 22) (.tmp 23) (.tmp 24) rfl DW.out.drew.own DW.out.few rfl n rfl (Nat.le_trans Hn.out (by unfold maxLen; omega)) ⟨f.s, f.s.size⟩ rfl ?_
  intro w2 ho2 hk2
  have D2 := Lib.hid (DW.out.drew.turned hk2 ho2 (Nat.le_trans Hlen.out DW.out.few) Hok.out.1 Hok.out.2)
  have K2 := Lib.hid ((((K1.out.trans KW.out (fun _ _ h => h)).mono (T := Own b) (fun _ _ h => h.elim)).drew).trans hk2 (fun _ _ h => h))
  clear ho2 hk2
  go_wp2
  go_ret
  exact ⟨rfl, D2.out, K2.out⟩


theorem len_run (h : DiskAt w p b fs room dead) : (Builtin.len_ #[119] 3 #[.map (some b)]).run Tryz.prog w = .ok (.int .i64 fs.length) w := by
  have := h.own.len Tryz.underlying119 3
  rw [dOf_size] at this
  exact this
theorem heap_setCell_at {w : World} {p i : Nat} {cs : Array Value} {t : TypeId} (h : w.heap[p]? = some (.cells cs t (0, 0))) (v : Value) : (w.setCell ⟨p, i, none⟩ v).heap[p]? = some (.cells (cs.setIfInBounds i v) t (0, 0)) := by
  have hp := (Array.getElem?_eq_some_iff.1 h).1
  simp [World.setCell, Array.getElem?_modify, h]
theorem DiskAt.setRoom (h : DiskAt w p b fs room dead) (r : Int) (h0 : 0 ≤ r) (h1 : r ≤ 9223372036854775807) : DiskAt (w.setCell ⟨p, 1, none⟩ (.int .i64 r)) p b fs r dead :=
  ⟨heap_setCell_at h.cells _, own_kept h.own ((Keeps.refl (S := Own p) w).setCell (p := ⟨p, 1, none⟩) (fun _ => (rfl : p = p)) _) (fun e => h.ne (Eq.symm e)), h.few, h.ok, h.nm, h0, h1⟩
theorem DiskAt.setDead (h : DiskAt w p b fs room dead) (d : Bool) : DiskAt (w.setCell ⟨p, 2, none⟩ (.bool d)) p b fs room d :=
  ⟨heap_setCell_at h.cells _, own_kept h.own ((Keeps.refl (S := Own p) w).setCell (p := ⟨p, 2, none⟩) (fun _ => (rfl : p = p)) _) (fun e => h.ne (Eq.symm e)), h.few, h.ok, h.nm, h.r0, h.r1⟩

set_option maxRecDepth 100000 in
set_option maxHeartbeats 1000000 in
theorem append_all (hd : DiskAt w p b fs room false) (n s : ByteArray) (f : Fi) (ec : Int) (hE : openE fs false n = (f, ec)) (hec : ec = 0 ∨ ec = 6 ∧ fs.length < 64) (hn : n.size ≤ 32) (hf : FileOk f) (hroom : (f.s.size : Int) + s.size ≤ 4194304) (hM : (s.size : Int) ≤ room)
    (h64 : (putF fs n.data.toList (withS f s)).length ≤ 64) :
    Calls Tryz.prog 82 #[dP p, .string n, .string s] w fun e w' => e = .returned (.int .i64 0) ∧ DiskAt w' p b (putF fs n.data.toList (withS f s)) (room - s.size) false ∧ Keeps (Two p b) w w' := by
  have Hd := Lib.hid hd
  have Hn := Lib.hid hn
  have hf1 := hf.1
  have hr0 := hd.r0
  have hr1 := hd.r1
  have hw : IntKind.i64.wrap (4194304 - (f.s.size : Int)) = 4194304 - (f.s.size : Int) := by rw [IntKind.wrap_i64]; omega
  have hw2 : IntKind.i64.wrap (room - (s.size : Int)) = room - (s.size : Int) := by rw [IntKind.wrap_i64]; omega
  have hg : decide (4194304 - (f.s.size : Int) < (s.size : Int)) = false := decide_eq_false (by omega)
  have hz : (f.s ++ s).size = f.s.size + s.size := by simp
  have Hok := Lib.hid (hd.putF_ok hn (f := withS f s) ⟨by show (f.s ++ s).size ≤ _; omega, by have := hf.2; show f.k ≤ (f.s ++ s).size; omega⟩)
  have Hrr : Hid (0 ≤ room - (s.size : Int) ∧ room - (s.size : Int) ≤ 9223372036854775807) := by constructor <;> omega
  have H64 := Lib.hid h64
  have hs0 : (0 : Int) ≤ (s.size : Int) := by omega
  have hex : s.extract 0 s.size = s := by simp
  have hcat : ∀ W : World, (Op.stringOp .add f.s s).run Tryz.prog W = .ok (.string (f.s ++ s)) W := fun W => run_string_add_sum W _ _ (by omega)
  have hlast : decide ((s.size : Int) < (s.size : Int)) = false := decide_eq_false (by omega)
  clear hd hn hf1 hr0 hr1 hf h64
  rcases hec with rfl | ⟨rfl, hlen⟩
  all_goals
    try have hln : decide ((64 : Int) ≤ (fs.length : Int)) = false := decide_eq_false (by omega)
    try clear hlen
    go_enter Tryz.func82, Tryz.ntmps82
    go_wp2_with fail
    refine (open_any Hd.out n _ _ hE).mono ?_
    rintro e w1 ⟨rfl, hk1⟩
    have D1 := Lib.hid (Hd.out.kept hk1 (fun h => h) (fun h => h))
    have c0 := D1.out.cell0
    have c1 := D1.out.cell1
    have l1 := D1.out.lt.1
    have K1 := Lib.hid hk1
    clear hk1
    have hl := fun ob => len_run (D1.out.kept ((Keeps.refl (S := No) w1).alloc ob) (fun h => h) (fun h => h))
    go_wp2
    refine wp_world ?_
    intro W hW
    have KW : Hid (Keeps No w1 W) := by rw [hW]; exact (Keeps.refl (S := No) w1).alloc _
    have DW : Hid (DiskAt W p b fs room false) := D1.out.kept KW.out (fun h => h) (fun h => h)
    have cW : W.heap[w1.heap.size]? = some (.cells #[.string f.s, .int .i64 f.k] 133 (0, 0)) := by rw [hW]; exact heap_alloc_new _ _
    have cA : W.cell? ⟨w1.heap.size, 0, none⟩ = some (.string f.s) := by simp [World.cell?, cW]
    have fA : W.frozen? ⟨w1.heap.size, 0, none⟩ = false := frozen_of_row W w1.heap.size 0 _ _ cW
    clear hW c0 l1 c1 hl
    go_still_tail 7, (by kernel_rfl)
    change wpList _ _ _ _ _ (World.drew _)
    go_wp2
    refine wp_world ?_
    intro W2 hW2
    have K2 : Hid (Keeps No w1 W2) := by rw [hW2]; exact (KW.out.drew).setCell (p := ⟨w1.heap.size, 0, none⟩) (fun h => absurd h (Nat.lt_irrefl _)) _
    have D2 : Hid (DiskAt W2 p b fs room false) := D1.out.kept K2.out (fun h => h) (fun h => h)
    have cW2 : cellsAt W2 w1.heap.size 0 2 = some [.string (f.s ++ s), .int .i64 f.k] := by
      have h : W2.heap[w1.heap.size]? = some (.cells #[.string (f.s ++ s), .int .i64 f.k] 133 (0, 0)) := by rw [hW2]; exact heap_setCell_at (w := W) (i := 0) cW (.string (f.s ++ s))
      unfold cellsAt
      rw [h]
      rfl
    have c0W := D2.out.cell0
    clear hW2 cW cA fA KW DW
    go_still_tail 6, (by kernel_rfl)
    change wpList _ _ _ _ _ (World.drew _)
    refine wpList_files_put rfl (.tmp 57) (.tmp 58) (.tmp 59) rfl D2.out.drew.own D2.out.few rfl n rfl (Nat.le_trans Hn.out (by unfold maxLen; omega)) (withS f (s)) rfl ?_
    intro w3 ho3 hk3
    have D3 := Lib.hid (D2.out.drew.turned hk3 ho3 H64.out Hok.out.1 Hok.out.2)
    have K3 : Hid (Keeps (Two p b) w w3) := (((K1.out.trans K2.out (fun _ _ h => h)).mono (T := Two p b) (fun _ _ h => h.elim)).drew).trans hk3 (fun _ _ h => .inr h)
    have c1 := D3.out.cell1
    have f1 := D3.out.opened.frozen 1
    have f2 := D3.out.opened.frozen 2
    have c2 := D3.out.cell2
    clear ho3 hk3 cW2 c0W
    go_wp2
    go_ret
    exact ⟨rfl, D3.out.setRoom _ Hrr.out.1 Hrr.out.2, K3.out.setCell (p := ⟨p, 1, none⟩) (fun _ => .inl rfl) _⟩

set_option maxRecDepth 100000 in
set_option maxHeartbeats 1000000 in
theorem append_part {M : Nat} (hd : DiskAt w p b fs M false) (n s : ByteArray) (f : Fi) (ec : Int) (hE : openE fs false n = (f, ec)) (hec : ec = 0 ∨ ec = 6 ∧ fs.length < 64) (hn : n.size ≤ 32) (hf : FileOk f) (hroom : (f.s.size : Int) + s.size ≤ 4194304) (hM : (M : Int) < (s.size : Int))
    (h64 : (putF fs n.data.toList (withS f (s.extract 0 M))).length ≤ 64) :
    Calls Tryz.prog 82 #[dP p, .string n, .string s] w fun e w' => e = .returned (.int .i64 12) ∧ DiskAt w' p b (putF fs n.data.toList (withS f (s.extract 0 M))) 0 true ∧ Keeps (Two p b) w w' := by
  have Hd := Lib.hid hd
  have Hn := Lib.hid hn
  have hf1 := hf.1
  have hw : IntKind.i64.wrap (4194304 - (f.s.size : Int)) = 4194304 - (f.s.size : Int) := by rw [IntKind.wrap_i64]; omega
  have hw2 : IntKind.i64.wrap ((M : Int) - (M : Int)) = 0 := by rw [Int.sub_self]; rfl
  have hg : decide (4194304 - (f.s.size : Int) < (s.size : Int)) = false := decide_eq_false (by omega)
  have hzx : (s.extract 0 M).size = M := by simp; omega
  have hz : (f.s ++ s.extract 0 M).size = f.s.size + M := by rw [ByteArray.size_append, hzx]
  have Hok := Lib.hid (hd.putF_ok hn (f := withS f (s.extract 0 M)) ⟨by show (f.s ++ s.extract 0 M).size ≤ _; omega, by have := hf.2; show f.k ≤ (f.s ++ s.extract 0 M).size; omega⟩)
  have H64 := Lib.hid h64
  have hs0 : (0 : Int) ≤ (M : Int) := by omega
  have hs1 : (M : Int) ≤ (s.size : Int) := by omega
  have hcat : ∀ W : World, (Op.stringOp .add f.s (s.extract 0 M)).run Tryz.prog W = .ok (.string (f.s ++ s.extract 0 M)) W := fun W => run_string_add_sum W _ _ (by omega)
  have hlast : decide ((M : Int) < (s.size : Int)) = true := decide_eq_true hM
  clear hd hn hf1 hf h64 hz hzx
  rcases hec with rfl | ⟨rfl, hlen⟩
  all_goals
    try have hln : decide ((64 : Int) ≤ (fs.length : Int)) = false := decide_eq_false (by omega)
    try clear hlen
    go_enter Tryz.func82, Tryz.ntmps82
    go_wp2_with fail
    refine (open_any Hd.out n _ _ hE).mono ?_
    rintro e w1 ⟨rfl, hk1⟩
    have D1 := Lib.hid (Hd.out.kept hk1 (fun h => h) (fun h => h))
    have c0 := D1.out.cell0
    have c1 := D1.out.cell1
    have l1 := D1.out.lt.1
    have K1 := Lib.hid hk1
    clear hk1
    have hl := fun ob => len_run (D1.out.kept ((Keeps.refl (S := No) w1).alloc ob) (fun h => h) (fun h => h))
    go_wp2
    refine wp_world ?_
    intro W hW
    have KW : Hid (Keeps No w1 W) := by rw [hW]; exact (Keeps.refl (S := No) w1).alloc _
    have DW : Hid (DiskAt W p b fs M false) := D1.out.kept KW.out (fun h => h) (fun h => h)
    have cW : W.heap[w1.heap.size]? = some (.cells #[.string f.s, .int .i64 f.k] 133 (0, 0)) := by rw [hW]; exact heap_alloc_new _ _
    have cA : W.cell? ⟨w1.heap.size, 0, none⟩ = some (.string f.s) := by simp [World.cell?, cW]
    have fA : W.frozen? ⟨w1.heap.size, 0, none⟩ = false := frozen_of_row W w1.heap.size 0 _ _ cW
    clear hW c0 l1 c1 hl
    go_still_tail 7, (by kernel_rfl)
    change wpList _ _ _ _ _ (World.drew _)
    go_wp2
    refine wp_world ?_
    intro W2 hW2
    have K2 : Hid (Keeps No w1 W2) := by rw [hW2]; exact (KW.out.drew).setCell (p := ⟨w1.heap.size, 0, none⟩) (fun h => absurd h (Nat.lt_irrefl _)) _
    have D2 : Hid (DiskAt W2 p b fs M false) := D1.out.kept K2.out (fun h => h) (fun h => h)
    have cW2 : cellsAt W2 w1.heap.size 0 2 = some [.string (f.s ++ s.extract 0 M), .int .i64 f.k] := by
      have h : W2.heap[w1.heap.size]? = some (.cells #[.string (f.s ++ s.extract 0 M), .int .i64 f.k] 133 (0, 0)) := by rw [hW2]; exact heap_setCell_at (w := W) (i := 0) cW (.string (f.s ++ s.extract 0 M))
      unfold cellsAt
      rw [h]
      rfl
    have c0W := D2.out.cell0
    clear hW2 cW cA fA KW DW
    go_still_tail 6, (by kernel_rfl)
    change wpList _ _ _ _ _ (World.drew _)
    refine wpList_files_put rfl (.tmp 57) (.tmp 58) (.tmp 59) rfl D2.out.drew.own D2.out.few rfl n rfl (Nat.le_trans Hn.out (by unfold maxLen; omega)) (withS f (s.extract 0 M)) rfl ?_
    intro w3 ho3 hk3
    have D3 := Lib.hid (D2.out.drew.turned hk3 ho3 H64.out Hok.out.1 Hok.out.2)
    have K3 : Hid (Keeps (Two p b) w w3) := (((K1.out.trans K2.out (fun _ _ h => h)).mono (T := Two p b) (fun _ _ h => h.elim)).drew).trans hk3 (fun _ _ h => .inr h)
    have c1 := D3.out.cell1
    have f1 := D3.out.opened.frozen 1
    have f2 := D3.out.opened.frozen 2
    have c2 := D3.out.cell2
    clear ho3 hk3 cW2 c0W
    go_wp2
    go_ret
    exact ⟨rfl, (D3.out.setRoom 0 (by omega) (by omega)).setDead true, (K3.out.setCell (p := ⟨p, 1, none⟩) (fun _ => .inl rfl) _).setCell (p := ⟨p, 2, none⟩) (fun _ => .inl rfl) _⟩
end
end Go.Proofs.YtpbpgjfdledgoaaGreatDoor

/-
  disk.Append where it refuses, Truncate, Rename, Remove, Cut; all of them of no disk. No conditions of their own.
-/
namespace Go.Proofs.YtpbpgjfdledgoaaGreatDoor
open Go.RowKit

section
variable {w : World} {p b : Nat} {fs : Fs} {room : Int} {dead : Bool}

theorem append_nil (w : World) (n : ByteArray) (s : ByteArray) : Calls Tryz.prog 82 #[.pointer none, .string n, .string s] w fun e w' => e = .returned (.int .i64 1) ∧ Keeps No w w' := by
  go_enter Tryz.func82, Tryz.ntmps82
  go_wp2_with fail
  refine (open_nil w n).mono ?_
  rintro e w1 ⟨rfl, hk1⟩
  have K1 := Lib.hid hk1
  clear hk1
  go_wp2
  go_ret
  exact ⟨rfl, K1.out.alloc _⟩

set_option maxRecDepth 100000 in
set_option maxHeartbeats 1000000 in
theorem append_err (hd : DiskAt w p b fs room dead) (n : ByteArray) (s : ByteArray) (fx : Fi) (ec : Int) (hE : openE fs dead n = (fx, ec)) (he : ec = 1 ∨ ec = 12) : Calls Tryz.prog 82 #[dP p, .string n, .string s] w fun e w' => e = .returned (.int .i64 ec) ∧ Keeps No w w' := by
  have Hd := Lib.hid hd
  clear hd
  rcases he with rfl | rfl
  all_goals
    go_enter Tryz.func82, Tryz.ntmps82
    go_wp2_with fail
    refine (open_any Hd.out n _ _ hE).mono ?_
    rintro e w1 ⟨rfl, hk1⟩
    have K1 := Lib.hid hk1
    clear hk1
    go_wp2
    go_ret
    exact ⟨rfl, K1.out.alloc _⟩

set_option maxRecDepth 100000 in
set_option maxHeartbeats 1000000 in
theorem append_full1 (hd : DiskAt w p b fs room dead) (n : ByteArray) (s : ByteArray) (fx : Fi) (ec : Int) (hE : openE fs dead n = (fx, ec)) (he : ec = 6) (h64 : 64 ≤ fs.length) : Calls Tryz.prog 82 #[dP p, .string n, .string s] w fun e w' => e = .returned (.int .i64 8) ∧ Keeps No w w' := by
  have Hd := Lib.hid hd
  clear hd
  subst he
  have hln : decide ((64 : Int) ≤ (fs.length : Int)) = true := decide_eq_true (by omega)
  clear h64
  go_enter Tryz.func82, Tryz.ntmps82
  go_wp2_with fail
  refine (open_any Hd.out n _ _ hE).mono ?_
  rintro e w1 ⟨rfl, hk1⟩
  have D1 := Hd.out.kept hk1 (fun h => h) (fun h => h)
  have hl := fun ob => len_run (D1.kept ((Keeps.refl (S := No) w1).alloc ob) (fun h => h) (fun h => h))
  have c0 := D1.cell0
  have l1 := D1.lt.1
  clear D1
  have K1 := Lib.hid hk1
  clear hk1
  go_wp2
  go_ret
  exact ⟨rfl, K1.out.alloc _⟩

set_option maxRecDepth 100000 in
set_option maxHeartbeats 1000000 in
theorem append_full2 (hd : DiskAt w p b fs room dead) (n : ByteArray) (s : ByteArray) (fx : Fi) (ec : Int) (hE : openE fs dead n = (fx, ec)) (hec : ec = 0 ∨ ec = 6 ∧ fs.length < 64) (hf : fx.s.size ≤ 4194304) (hbig : 4194304 < (fx.s.size : Int) + s.size) : Calls Tryz.prog 82 #[dP p, .string n, .string s] w fun e w' => e = .returned (.int .i64 8) ∧ Keeps No w w' := by
  have Hd := Lib.hid hd
  clear hd
  have hw : IntKind.i64.wrap (4194304 - (fx.s.size : Int)) = 4194304 - (fx.s.size : Int) := by rw [IntKind.wrap_i64]; omega
  have hg : decide (4194304 - (fx.s.size : Int) < (s.size : Int)) = true := decide_eq_true (by omega)
  clear hf hbig
  rcases hec with rfl | ⟨rfl, hlen⟩
  all_goals
    try have hln : decide ((64 : Int) ≤ (fs.length : Int)) = false := decide_eq_false (by omega)
    try clear hlen
    go_enter Tryz.func82, Tryz.ntmps82
    go_wp2_with fail
    refine (open_any Hd.out n _ _ hE).mono ?_
    rintro e w1 ⟨rfl, hk1⟩
    have D1 := Hd.out.kept hk1 (fun h => h) (fun h => h)
    have hl := fun ob => len_run (D1.kept ((Keeps.refl (S := No) w1).alloc ob) (fun h => h) (fun h => h))
    have c0 := D1.cell0
    have l1 := D1.lt.1
    clear D1
    have K1 := Lib.hid hk1
    clear hk1
    go_wp2
    go_ret
    exact ⟨rfl, K1.out.alloc _⟩

set_option maxRecDepth 100000 in
set_option maxHeartbeats 1000000 in
theorem truncate_err (hd : DiskAt w p b fs room dead) (n : ByteArray) (k : Int) (fx : Fi) (ec : Int) (hE : openE fs dead n = (fx, ec)) (he : (ec != 0) = true) : Calls Tryz.prog 85 #[dP p, .string n, .int .i64 k] w fun e w' => e = .returned (.int .i64 ec) ∧ Keeps No w w' := by
  have Hd := Lib.hid hd
  clear hd
  go_enter Tryz.func85, Tryz.ntmps85
  go_wp2_with fail
  refine (open_any Hd.out n _ _ hE).mono ?_
  rintro e w1 ⟨rfl, hk1⟩
  have K1 := Lib.hid hk1
  clear hk1
  go_wp2
  go_ret
  exact ⟨rfl, K1.out.alloc _⟩

set_option maxRecDepth 100000 in
set_option maxHeartbeats 1000000 in
theorem truncate_range (hd : DiskAt w p b fs room dead) (n : ByteArray) (k : Int) (fx : Fi) (ec : Int) (hE : openE fs dead n = (fx, ec)) (he : ec = 0) (hk : k < 0 ∨ (fx.s.size : Int) < k) : Calls Tryz.prog 85 #[dP p, .string n, .int .i64 k] w fun e w' => e = .returned (.int .i64 5) ∧ Keeps No w w' := by
  have Hd := Lib.hid hd
  clear hd
  subst he
  rcases hk with hk | hk
  · have h1 : decide (k < 0) = true := decide_eq_true hk
    clear hk
    go_enter Tryz.func85, Tryz.ntmps85
    go_wp2_with fail
    refine (open_any Hd.out n _ _ hE).mono ?_
    rintro e w1 ⟨rfl, hk1⟩
    have K1 := Lib.hid hk1
    clear hk1
    go_wp2
    go_ret
    exact ⟨rfl, K1.out.alloc _⟩
  · have h1 : decide (k < 0) = false := decide_eq_false (by omega)
    have h2 : decide ((fx.s.size : Int) < k) = true := decide_eq_true hk
    clear hk
    go_enter Tryz.func85, Tryz.ntmps85
    go_wp2_with fail
    refine (open_any Hd.out n _ _ hE).mono ?_
    rintro e w1 ⟨rfl, hk1⟩
    have K1 := Lib.hid hk1
    clear hk1
    go_wp2
    go_ret
    exact ⟨rfl, K1.out.alloc _⟩

set_option maxRecDepth 100000 in
set_option maxHeartbeats 1000000 in
theorem truncate_ok (hd : DiskAt w p b fs room dead) (n : ByteArray) (f : Fi) (hE : openE fs dead n = (f, 0)) (hg : getF fs n.data.toList = some f) (hn : n.size ≤ 32) (K : Nat) (hK : K ≤ f.s.size) : Calls Tryz.prog 85 #[dP p, .string n, .int .i64 K] w fun e w' => e = .returned (.int .i64 0) ∧ DiskAt w' p b (putF fs n.data.toList ⟨f.s.extract 0 K, min f.k K⟩) room dead ∧ Keeps (Own b) w w' := by
  have Hd := Lib.hid hd
  have Hn := Lib.hid hn
  have hxs : (f.s.extract 0 K).size = K := by simp; omega
  have Hok := Lib.hid (hd.putF_ok hn (f := ⟨f.s.extract 0 K, min f.k K⟩) ⟨by show (f.s.extract 0 K).size ≤ _; have := (hd.get_ok hg).1; omega, by show min f.k K ≤ (f.s.extract 0 K).size; omega⟩)
  have Hlen := Lib.hid (putF_length_some (f := ⟨f.s.extract 0 K, min f.k K⟩) hg)
  have h1 : decide ((K : Int) < 0) = false := decide_eq_false (by omega)
  have h2 : decide ((f.s.size : Int) < (K : Int)) = false := decide_eq_false (by omega)
  have h3 : (0 : Int) ≤ (K : Int) := by omega
  have h4 : (K : Int) ≤ (f.s.size : Int) := by omega
  clear hd hn hg hxs
  obtain ⟨J, hJ⟩ : ∃ J, J = min f.k K := ⟨_, rfl⟩
  rw [← hJ] at Hok Hlen ⊢
  have hcase : (¬ K < f.k ∧ J = f.k) ∨ (K < f.k ∧ J = K) := by omega
  clear hJ hK
  rcases hcase with ⟨hc, rfl⟩ | ⟨hc, rfl⟩
  all_goals
    go_enter Tryz.func85, Tryz.ntmps85
    go_wp2_with fail
    refine (open_any Hd.out n _ _ hE).mono ?_
    rintro e w1 ⟨rfl, hk1⟩
    have D1 := Lib.hid (Hd.out.kept hk1 (fun h => h) (fun h => h))
    have c0 := D1.out.cell0
    have l1 := D1.out.lt.1
    have K1 := Lib.hid hk1
    clear hk1
    go_wp2
    refine wp_world ?_
    intro W hW
    have KW : Hid (Keeps No w1 W) := by rw [hW]; exact (Keeps.refl (S := No) w1).alloc _
    have DW : Hid (DiskAt W p b fs room dead) := D1.out.kept KW.out (fun h => h) (fun h => h)
    have cW : W.heap[w1.heap.size]? = some (.cells #[.string f.s, .int .i64 f.k] 133 (0, 0)) := by rw [hW]; exact heap_alloc_new _ _
    have cC : cellsAt W w1.heap.size 0 2 = some [.string f.s, .int .i64 f.k] := by unfold cellsAt; rw [cW]; rfl
    have cA : W.cell? ⟨w1.heap.size, 0, none⟩ = some (.string f.s) := by simp [World.cell?, cW]
    have cB : W.cell? ⟨w1.heap.size, 1, none⟩ = some (.int .i64 f.k) := by simp [World.cell?, cW]
    have c0W := DW.out.cell0
    clear hW cW c0 l1
    go_still_tail 14, (by kernel_rfl)
    change wpList _ _ _ _ _ (World.drew _)
    refine wpList_files_put rfl (.tmp 30) (.tmp 31) (.tmp 40) rfl DW.out.drew.own DW.out.few rfl n rfl (Nat.le_trans Hn.out (by unfold maxLen; omega)) ⟨f.s.extract 0 _, _⟩ rfl ?_
    intro w2 ho2 hk2
    have D2 := Lib.hid (DW.out.drew.turned hk2 ho2 (Nat.le_trans Hlen.out DW.out.few) Hok.out.1 Hok.out.2)
    have K2 := Lib.hid ((((K1.out.trans KW.out (fun _ _ h => h)).mono (T := Own b) (fun _ _ h => h.elim)).drew).trans hk2 (fun _ _ h => h))
    clear ho2 hk2
    go_wp2
    go_ret
    exact ⟨rfl, D2.out, K2.out⟩

set_option maxRecDepth 100000 in
set_option maxHeartbeats 1000000 in
theorem remove_err (hd : DiskAt w p b fs room dead) (n : ByteArray) (fx : Fi) (ec : Int) (hE : openE fs dead n = (fx, ec)) (he : (ec == 0) = false) : Calls Tryz.prog 87 #[dP p, .string n] w fun e w' => e = .returned (.int .i64 ec) ∧ Keeps No w w' := by
  have Hd := Lib.hid hd
  clear hd
  go_enter Tryz.func87, Tryz.ntmps87
  go_wp2_with fail
  refine (open_any Hd.out n _ _ hE).mono ?_
  rintro e w1 ⟨rfl, hk1⟩
  have K1 := Lib.hid hk1
  clear hk1
  go_wp2
  go_ret
  exact ⟨rfl, K1.out.alloc _⟩

set_option maxRecDepth 100000 in
set_option maxHeartbeats 1000000 in
theorem remove_ok (hd : DiskAt w p b fs room dead) (n : ByteArray) (f : Fi) (hE : openE fs dead n = (f, 0)) (hn : n.size ≤ 32) : Calls Tryz.prog 87 #[dP p, .string n] w fun e w' => e = .returned (.int .i64 0) ∧ DiskAt w' p b (delF fs n.data.toList) room dead ∧ Keeps (Own b) w w' := by
  have Hd := Lib.hid hd
  have Hn := Lib.hid hn
  have Hok := Lib.hid (hd.delF_ok n.data.toList)
  have Hlen := Lib.hid (delF_le fs n.data.toList)
  clear hd hn
  go_enter Tryz.func87, Tryz.ntmps87
  go_wp2_with fail
  refine (open_any Hd.out n _ _ hE).mono ?_
  rintro e w1 ⟨rfl, hk1⟩
  have D1 := Lib.hid (Hd.out.kept hk1 (fun h => h) (fun h => h))
  have c0 := D1.out.cell0
  have l1 := D1.out.lt.1
  have K1 := Lib.hid hk1
  clear hk1
  go_wp2_with (at_delete; refine wpList_files_del rfl _ _ rfl (D1.out.kept ((Keeps.refl (S := No) w1).alloc _) (fun h => h) (fun h => h)).own rfl n rfl (Nat.le_trans Hn.out (by unfold maxLen; omega)) ?_; intro w2 ho2 hk2)
  have D2 := Lib.hid ((D1.out.kept ((Keeps.refl (S := No) w1).alloc _) (fun h => h) (fun h => h)).turned hk2 ho2 (Nat.le_trans Hlen.out D1.out.few) Hok.out.1 Hok.out.2)
  have K2 := Lib.hid (((K1.out.mono (T := Own b) (fun _ _ h => h.elim)).alloc _).trans hk2 (fun _ _ h => h))
  clear ho2 hk2
  go_wp2
  go_ret
  exact ⟨rfl, D2.out, K2.out⟩

end
end Go.Proofs.YtpbpgjfdledgoaaGreatDoor

