/-
  disk.Append, Sync, Truncate, Rename, Remove, Cut. No conditions of their own.
-/
import Derived.Test.YtghamhipcpgofaaGreatDoorDkB
import Derived.StillTailTactics
namespace Go.Proofs.YtghamhipcpgofaaGreatDoor
open Go.RowKit

/-- the disk's two blocks -/
def Two (p b : Nat) : Nat → Prop := fun i => i = p ∨ i = b
abbrev withS (f : Fi) (s : ByteArray) : Fi := ⟨f.s ++ s, f.k⟩

section
variable {w : World} {p b : Nat} {fs : Fs} {room : Int} {dead : Bool}

theorem openE_cases (fs : Fs) (dead : Bool) (n : ByteArray) : openE fs dead n = (Fi.none, 1) ∨ (dead = true ∧ openE fs dead n = (Fi.none, 12) ∧ 1 ≤ n.size ∧ n.size ≤ 32) ∨ (dead = false ∧ openE fs dead n = (Fi.none, 6) ∧ getF fs n.data.toList = none ∧ 1 ≤ n.size ∧ n.size ≤ 32) ∨ ∃ f, dead = false ∧ openE fs dead n = (f, 0) ∧ getF fs n.data.toList = some f ∧ 1 ≤ n.size ∧ n.size ≤ 32 := by
  unfold openE
  rcases findE_cases fs n with h | ⟨h, hg, h1, h2⟩ | ⟨f, h, hg, h1, h2⟩
  · rw [h]
    exact .inl rfl
  · rw [h]
    cases dead
    · exact .inr (.inr (.inl ⟨rfl, rfl, hg, h1, h2⟩))
    · exact .inr (.inl ⟨rfl, rfl, h1, h2⟩)
  · rw [h]
    cases dead
    · exact .inr (.inr (.inr ⟨f, rfl, rfl, hg, h1, h2⟩))
    · exact .inr (.inl ⟨rfl, rfl, h1, h2⟩)

/-- the disk's map is another one -/
theorem DiskAt.turned {w' : World} {fs' : Fs} (h : DiskAt w p b fs room dead) (hk : Keeps (Own b) w w') (ho : w'.ownsMap Tryz.prog 9 fileElem b fs'.length (dOf fs')) (h64 : fs'.length ≤ 64) (hok : ∀ x ∈ fs', FileOk x.2) (hnm : ∀ x ∈ fs', x.1.length ≤ 32) : DiskAt w' p b fs' room dead :=
  ⟨hk.heap h.cells (fun e => h.ne e), ho, h64, hok, hnm, h.r0, h.r1⟩
theorem DiskAt.putF_ok (h : DiskAt w p b fs room dead) {n : ByteArray} {f : Fi} (hn : n.size ≤ 32) (hf : FileOk f) : (∀ x ∈ putF fs n.data.toList f, FileOk x.2) ∧ ∀ x ∈ putF fs n.data.toList f, x.1.length ≤ 32 := by
  refine ⟨fun x hx => ?_, fun x hx => ?_⟩
  · rcases mem_putF hx with rfl | hx
    · exact hf
    · exact h.ok x hx
  · rcases mem_putF hx with rfl | hx
    · simpa using hn
    · exact h.nm x hx
theorem DiskAt.delF_ok (h : DiskAt w p b fs room dead) (n : Nm) : (∀ x ∈ delF fs n, FileOk x.2) ∧ ∀ x ∈ delF fs n, x.1.length ≤ 32 :=
  ⟨fun x hx => h.ok x (List.mem_filter.1 hx).1, fun x hx => h.nm x (List.mem_filter.1 hx).1⟩

set_option maxRecDepth 100000 in
set_option maxHeartbeats 1000000 in
/-- Sync of what cannot be synced -/
theorem sync_err (hd : DiskAt w p b fs room dead) (n : ByteArray) (fx : Fi) (ec : Int) (hE : openE fs dead n = (fx, ec)) (he : (ec == 0) = false) : Calls Tryz.prog 38 #[dP p, .string n] w fun e w' => e = .returned (.int .i64 ec) ∧ Keeps No w w' := by
  have Hd := Lib.hid hd
  clear hd
  go_enter Tryz.func38, Tryz.ntmps38
  go_wp2_with fail
  refine (open_any Hd.out n _ _ hE).mono ?_
  rintro e w1 ⟨rfl, hk1⟩
  have K1 := Lib.hid hk1
  clear hk1
  go_wp2
  go_ret
  exact ⟨rfl, K1.out.alloc _⟩

set_option maxRecDepth 100000 in
set_option maxHeartbeats 1000000 in
theorem sync_ok (hd : DiskAt w p b fs room dead) (n : ByteArray) (f : Fi) (hE : openE fs dead n = (f, 0)) (hg : getF fs n.data.toList = some f) (hn : n.size ≤ 32) : Calls Tryz.prog 38 #[dP p, .string n] w fun e w' => e = .returned (.int .i64 0) ∧ DiskAt w' p b (putF fs n.data.toList ⟨f.s, f.s.size⟩) room dead ∧ Keeps (Own b) w w' := by
  have Hd := Lib.hid hd
  have Hn := Lib.hid hn
  have Hok := Lib.hid (hd.putF_ok hn (f := ⟨f.s, f.s.size⟩) ⟨(hd.get_ok hg).1, Nat.le_refl _⟩)
  have Hlen := Lib.hid (putF_length_some (f := ⟨f.s, f.s.size⟩) hg)
  clear hd hn hg
  go_enter Tryz.func38, Tryz.ntmps38
  go_wp2_with fail
  refine (open_any Hd.out n _ _ hE).mono ?_
  rintro e w1 ⟨rfl, hk1⟩
  have D1 := Lib.hid (Hd.out.kept hk1 (fun h => h) (fun h => h))
  have c0 := D1.out.cell0
  have l1 := D1.out.lt.1
  have K1 := Lib.hid hk1
  clear hk1
  go_wp2
  refine wp_world ?_
  intro W hW
  have KW : Hid (Keeps No w1 W) := by rw [hW]; exact (Keeps.refl (S := No) w1).alloc _
  have DW : Hid (DiskAt W p b fs room dead) := D1.out.kept KW.out (fun h => h) (fun h => h)
  have cW : cellsAt W w1.heap.size 0 2 = some [.string f.s, .int .i64 f.s.size] := by rw [hW]; simp [go_sem]
  have c0W := DW.out.cell0
  clear hW c0 l1
  go_still_tail 6, (by kernel_rfl)
  change wpList _ _ _ _ _ (World.drew _)
  refine wpList_files_put rfl (.tmp 22) (.tmp 23) (.tmp 24) rfl DW.out.drew.own DW.out.few rfl n rfl (Nat.le_trans Hn.out (by unfold maxLen; omega)) ⟨f.s, f.s.size⟩ rfl ?_
  intro w2 ho2 hk2
  have D2 := Lib.hid (DW.out.drew.turned hk2 ho2 (Nat.le_trans Hlen.out DW.out.few) Hok.out.1 Hok.out.2)
  have K2 := Lib.hid ((((K1.out.trans KW.out (fun _ _ h => h)).mono (T := Own b) (fun _ _ h => h.elim)).drew).trans hk2 (fun _ _ h => h))
  clear ho2 hk2
  go_wp2
  go_ret
  exact ⟨rfl, D2.out, K2.out⟩


theorem len_run (h : DiskAt w p b fs room dead) : (Builtin.len_ #[68] 3 #[.map (some b)]).run Tryz.prog w = .ok (.int .i64 fs.length) w := by
  have := h.own.len Tryz.underlying68 3
  rw [dOf_size] at this
  exact this
theorem heap_setCell_at {w : World} {p i : Nat} {cs : Array Value} {t : TypeId} (h : w.heap[p]? = some (.cells cs t (0, 0))) (v : Value) : (w.setCell ⟨p, i, none⟩ v).heap[p]? = some (.cells (cs.setIfInBounds i v) t (0, 0)) := by
  have hp := (Array.getElem?_eq_some_iff.1 h).1
  simp [World.setCell, Array.getElem?_modify, h]
theorem DiskAt.setRoom (h : DiskAt w p b fs room dead) (r : Int) (h0 : 0 ≤ r) (h1 : r ≤ 9223372036854775807) : DiskAt (w.setCell ⟨p, 1, none⟩ (.int .i64 r)) p b fs r dead :=
  ⟨heap_setCell_at h.cells _, own_kept h.own ((Keeps.refl (S := Own p) w).setCell (p := ⟨p, 1, none⟩) (fun _ => (rfl : p = p)) _) (fun e => h.ne (Eq.symm e)), h.few, h.ok, h.nm, h0, h1⟩
theorem DiskAt.setDead (h : DiskAt w p b fs room dead) (d : Bool) : DiskAt (w.setCell ⟨p, 2, none⟩ (.bool d)) p b fs room d :=
  ⟨heap_setCell_at h.cells _, own_kept h.own ((Keeps.refl (S := Own p) w).setCell (p := ⟨p, 2, none⟩) (fun _ => (rfl : p = p)) _) (fun e => h.ne (Eq.symm e)), h.few, h.ok, h.nm, h.r0, h.r1⟩

set_option maxRecDepth 100000 in
set_option maxHeartbeats 1000000 in
theorem append_all (hd : DiskAt w p b fs room false) (n s : ByteArray) (f : Fi) (ec : Int) (hE : openE fs false n = (f, ec)) (hec : ec = 0 ∨ ec = 6 ∧ fs.length < 64) (hn : n.size ≤ 32) (hf : FileOk f) (hroom : (f.s.size : Int) + s.size ≤ 4194304) (hM : (s.size : Int) ≤ room)
    (h64 : (putF fs n.data.toList (withS f s)).length ≤ 64) :
    Calls Tryz.prog 19 #[dP p, .string n, .string s] w fun e w' => e = .returned (.int .i64 0) ∧ DiskAt w' p b (putF fs n.data.toList (withS f s)) (room - s.size) false ∧ Keeps (Two p b) w w' := by
  have Hd := Lib.hid hd
  have Hn := Lib.hid hn
  have hf1 := hf.1
  have hr0 := hd.r0
  have hr1 := hd.r1
  have hw : IntKind.i64.wrap (4194304 - (f.s.size : Int)) = 4194304 - (f.s.size : Int) := by rw [IntKind.wrap_i64]; omega
  have hw2 : IntKind.i64.wrap (room - (s.size : Int)) = room - (s.size : Int) := by rw [IntKind.wrap_i64]; omega
  have hg : decide (4194304 - (f.s.size : Int) < (s.size : Int)) = false := decide_eq_false (by omega)
  have hz : (f.s ++ s).size = f.s.size + s.size := by simp
  have Hok := Lib.hid (hd.putF_ok hn (f := withS f s) ⟨by show (f.s ++ s).size ≤ _; omega, by have := hf.2; show f.k ≤ (f.s ++ s).size; omega⟩)
  have Hrr : Hid (0 ≤ room - (s.size : Int) ∧ room - (s.size : Int) ≤ 9223372036854775807) := by constructor <;> omega
  have H64 := Lib.hid h64
  have hs0 : (0 : Int) ≤ (s.size : Int) := by omega
  have hex : s.extract 0 s.size = s := by simp
  have hcat : ∀ W : World, (Op.stringOp .add f.s s).run Tryz.prog W = .ok (.string (f.s ++ s)) W := fun W => run_string_add_sum W _ _ (by omega)
  have hlast : decide ((s.size : Int) < (s.size : Int)) = false := decide_eq_false (by omega)
  clear hd hn hf1 hr0 hr1 hf h64
  rcases hec with rfl | ⟨rfl, hlen⟩
  all_goals
    try have hln : decide ((64 : Int) ≤ (fs.length : Int)) = false := decide_eq_false (by omega)
    try clear hlen
    go_enter Tryz.func19, Tryz.ntmps19
    go_wp2_with fail
    refine (open_any Hd.out n _ _ hE).mono ?_
    rintro e w1 ⟨rfl, hk1⟩
    have D1 := Lib.hid (Hd.out.kept hk1 (fun h => h) (fun h => h))
    have c0 := D1.out.cell0
    have c1 := D1.out.cell1
    have l1 := D1.out.lt.1
    have K1 := Lib.hid hk1
    clear hk1
    have hl := fun ob => len_run (D1.out.kept ((Keeps.refl (S := No) w1).alloc ob) (fun h => h) (fun h => h))
    go_wp2
    refine wp_world ?_
    intro W hW
    have KW : Hid (Keeps No w1 W) := by rw [hW]; exact (Keeps.refl (S := No) w1).alloc _
    have DW : Hid (DiskAt W p b fs room false) := D1.out.kept KW.out (fun h => h) (fun h => h)
    have cW : W.heap[w1.heap.size]? = some (.cells #[.string f.s, .int .i64 f.k] 63 (0, 0)) := by rw [hW]; exact heap_alloc_new _ _
    have cA : W.cell? ⟨w1.heap.size, 0, none⟩ = some (.string f.s) := by simp [World.cell?, cW]
    have fA : W.frozen? ⟨w1.heap.size, 0, none⟩ = false := frozen_of_row W w1.heap.size 0 _ _ cW
    clear hW c0 l1 c1 hl
    go_still_tail 7, (by kernel_rfl)
    change wpList _ _ _ _ _ (World.drew _)
    go_wp2
    refine wp_world ?_
    intro W2 hW2
    have K2 : Hid (Keeps No w1 W2) := by rw [hW2]; exact (KW.out.drew).setCell (p := ⟨w1.heap.size, 0, none⟩) (fun h => absurd h (Nat.lt_irrefl _)) _
    have D2 : Hid (DiskAt W2 p b fs room false) := D1.out.kept K2.out (fun h => h) (fun h => h)
    have cW2 : cellsAt W2 w1.heap.size 0 2 = some [.string (f.s ++ s), .int .i64 f.k] := by
      have h : W2.heap[w1.heap.size]? = some (.cells #[.string (f.s ++ s), .int .i64 f.k] 63 (0, 0)) := by rw [hW2]; exact heap_setCell_at (w := W) (i := 0) cW (.string (f.s ++ s))
      unfold cellsAt
      rw [h]
      rfl
    have c0W := D2.out.cell0
    clear hW2 cW cA fA KW DW
    go_still_tail 6, (by kernel_rfl)
    change wpList _ _ _ _ _ (World.drew _)
    refine wpList_files_put rfl (.tmp 57) (.tmp 58) (.tmp 59) rfl D2.out.drew.own D2.out.few rfl n rfl (Nat.le_trans Hn.out (by unfold maxLen; omega)) (withS f (s)) rfl ?_
    intro w3 ho3 hk3
    have D3 := Lib.hid (D2.out.drew.turned hk3 ho3 H64.out Hok.out.1 Hok.out.2)
    have K3 : Hid (Keeps (Two p b) w w3) := (((K1.out.trans K2.out (fun _ _ h => h)).mono (T := Two p b) (fun _ _ h => h.elim)).drew).trans hk3 (fun _ _ h => .inr h)
    have c1 := D3.out.cell1
    have f1 := D3.out.opened.frozen 1
    have f2 := D3.out.opened.frozen 2
    have c2 := D3.out.cell2
    clear ho3 hk3 cW2 c0W
    go_wp2
    go_ret
    exact ⟨rfl, D3.out.setRoom _ Hrr.out.1 Hrr.out.2, K3.out.setCell (p := ⟨p, 1, none⟩) (fun _ => .inl rfl) _⟩

set_option maxRecDepth 100000 in
set_option maxHeartbeats 1000000 in
theorem append_part {M : Nat} (hd : DiskAt w p b fs M false) (n s : ByteArray) (f : Fi) (ec : Int) (hE : openE fs false n = (f, ec)) (hec : ec = 0 ∨ ec = 6 ∧ fs.length < 64) (hn : n.size ≤ 32) (hf : FileOk f) (hroom : (f.s.size : Int) + s.size ≤ 4194304) (hM : (M : Int) < (s.size : Int))
    (h64 : (putF fs n.data.toList (withS f (s.extract 0 M))).length ≤ 64) :
    Calls Tryz.prog 19 #[dP p, .string n, .string s] w fun e w' => e = .returned (.int .i64 12) ∧ DiskAt w' p b (putF fs n.data.toList (withS f (s.extract 0 M))) 0 true ∧ Keeps (Two p b) w w' := by
  have Hd := Lib.hid hd
  have Hn := Lib.hid hn
  have hf1 := hf.1
  have hw : IntKind.i64.wrap (4194304 - (f.s.size : Int)) = 4194304 - (f.s.size : Int) := by rw [IntKind.wrap_i64]; omega
  have hw2 : IntKind.i64.wrap ((M : Int) - (M : Int)) = 0 := by rw [Int.sub_self]; rfl
  have hg : decide (4194304 - (f.s.size : Int) < (s.size : Int)) = false := decide_eq_false (by omega)
  have hzx : (s.extract 0 M).size = M := by simp; omega
  have hz : (f.s ++ s.extract 0 M).size = f.s.size + M := by rw [ByteArray.size_append, hzx]
  have Hok := Lib.hid (hd.putF_ok hn (f := withS f (s.extract 0 M)) ⟨by show (f.s ++ s.extract 0 M).size ≤ _; omega, by have := hf.2; show f.k ≤ (f.s ++ s.extract 0 M).size; omega⟩)
  have H64 := Lib.hid h64
  have hs0 : (0 : Int) ≤ (M : Int) := by omega
  have hs1 : (M : Int) ≤ (s.size : Int) := by omega
  have hcat : ∀ W : World, (Op.stringOp .add f.s (s.extract 0 M)).run Tryz.prog W = .ok (.string (f.s ++ s.extract 0 M)) W := fun W => run_string_add_sum W _ _ (by omega)
  have hlast : decide ((M : Int) < (s.size : Int)) = true := decide_eq_true hM
  clear hd hn hf1 hf h64 hz hzx
  rcases hec with rfl | ⟨rfl, hlen⟩
  all_goals
    try have hln : decide ((64 : Int) ≤ (fs.length : Int)) = false := decide_eq_false (by omega)
    try clear hlen
    go_enter Tryz.func19, Tryz.ntmps19
    go_wp2_with fail
    refine (open_any Hd.out n _ _ hE).mono ?_
    rintro e w1 ⟨rfl, hk1⟩
    have D1 := Lib.hid (Hd.out.kept hk1 (fun h => h) (fun h => h))
    have c0 := D1.out.cell0
    have c1 := D1.out.cell1
    have l1 := D1.out.lt.1
    have K1 := Lib.hid hk1
    clear hk1
    have hl := fun ob => len_run (D1.out.kept ((Keeps.refl (S := No) w1).alloc ob) (fun h => h) (fun h => h))
    go_wp2
    refine wp_world ?_
    intro W hW
    have KW : Hid (Keeps No w1 W) := by rw [hW]; exact (Keeps.refl (S := No) w1).alloc _
    have DW : Hid (DiskAt W p b fs M false) := D1.out.kept KW.out (fun h => h) (fun h => h)
    have cW : W.heap[w1.heap.size]? = some (.cells #[.string f.s, .int .i64 f.k] 63 (0, 0)) := by rw [hW]; exact heap_alloc_new _ _
    have cA : W.cell? ⟨w1.heap.size, 0, none⟩ = some (.string f.s) := by simp [World.cell?, cW]
    have fA : W.frozen? ⟨w1.heap.size, 0, none⟩ = false := frozen_of_row W w1.heap.size 0 _ _ cW
    clear hW c0 l1 c1 hl
    go_still_tail 7, (by kernel_rfl)
    change wpList _ _ _ _ _ (World.drew _)
    go_wp2
    refine wp_world ?_
    intro W2 hW2
    have K2 : Hid (Keeps No w1 W2) := by rw [hW2]; exact (KW.out.drew).setCell (p := ⟨w1.heap.size, 0, none⟩) (fun h => absurd h (Nat.lt_irrefl _)) _
    have D2 : Hid (DiskAt W2 p b fs M false) := D1.out.kept K2.out (fun h => h) (fun h => h)
    have cW2 : cellsAt W2 w1.heap.size 0 2 = some [.string (f.s ++ s.extract 0 M), .int .i64 f.k] := by
      have h : W2.heap[w1.heap.size]? = some (.cells #[.string (f.s ++ s.extract 0 M), .int .i64 f.k] 63 (0, 0)) := by rw [hW2]; exact heap_setCell_at (w := W) (i := 0) cW (.string (f.s ++ s.extract 0 M))
      unfold cellsAt
      rw [h]
      rfl
    have c0W := D2.out.cell0
    clear hW2 cW cA fA KW DW
    go_still_tail 6, (by kernel_rfl)
    change wpList _ _ _ _ _ (World.drew _)
    refine wpList_files_put rfl (.tmp 57) (.tmp 58) (.tmp 59) rfl D2.out.drew.own D2.out.few rfl n rfl (Nat.le_trans Hn.out (by unfold maxLen; omega)) (withS f (s.extract 0 M)) rfl ?_
    intro w3 ho3 hk3
    have D3 := Lib.hid (D2.out.drew.turned hk3 ho3 H64.out Hok.out.1 Hok.out.2)
    have K3 : Hid (Keeps (Two p b) w w3) := (((K1.out.trans K2.out (fun _ _ h => h)).mono (T := Two p b) (fun _ _ h => h.elim)).drew).trans hk3 (fun _ _ h => .inr h)
    have c1 := D3.out.cell1
    have f1 := D3.out.opened.frozen 1
    have f2 := D3.out.opened.frozen 2
    have c2 := D3.out.cell2
    clear ho3 hk3 cW2 c0W
    go_wp2
    go_ret
    exact ⟨rfl, (D3.out.setRoom 0 (by omega) (by omega)).setDead true, (K3.out.setCell (p := ⟨p, 1, none⟩) (fun _ => .inl rfl) _).setCell (p := ⟨p, 2, none⟩) (fun _ => .inl rfl) _⟩
end
end Go.Proofs.YtghamhipcpgofaaGreatDoor
