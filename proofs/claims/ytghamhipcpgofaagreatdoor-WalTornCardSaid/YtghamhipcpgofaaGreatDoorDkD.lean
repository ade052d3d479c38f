/-
  disk.Append where it refuses, Truncate, Rename, Remove, Cut; all of them of no disk. No conditions of their own.
-/
import Derived.Test.YtghamhipcpgofaaGreatDoorDkC
namespace Go.Proofs.YtghamhipcpgofaaGreatDoor
open Go.RowKit

theorem cells_but {S : Nat → Prop} {a w : World} (h : Keeps S a w) {b o n : Nat} {l : List Value} (hn : ¬ S b) (hc : cellsAt a b o n = some l) : cellsAt w b o n = some l := by
  have hb : b < a.heap.size := by
    unfold cellsAt at hc
    split at hc
    · rename_i hh
      exact (Array.getElem?_eq_some_iff.1 hh).1
    · cases hc
  unfold cellsAt at hc ⊢
  rw [h.block b hb hn]
  exact hc

section
variable {w : World} {p b : Nat} {fs : Fs} {room : Int} {dead : Bool}

theorem append_nil (w : World) (n : ByteArray) (s : ByteArray) : Calls Tryz.prog 19 #[.pointer none, .string n, .string s] w fun e w' => e = .returned (.int .i64 1) ∧ Keeps No w w' := by
  go_enter Tryz.func19, Tryz.ntmps19
  go_wp2_with fail
  refine (open_nil w n).mono ?_
  rintro e w1 ⟨rfl, hk1⟩
  have K1 := Lib.hid hk1
  clear hk1
  go_wp2
  go_ret
  exact ⟨rfl, K1.out.alloc _⟩

theorem sync_nil (w : World) (n : ByteArray) : Calls Tryz.prog 38 #[.pointer none, .string n] w fun e w' => e = .returned (.int .i64 1) ∧ Keeps No w w' := by
  go_enter Tryz.func38, Tryz.ntmps38
  go_wp2_with fail
  refine (open_nil w n).mono ?_
  rintro e w1 ⟨rfl, hk1⟩
  have K1 := Lib.hid hk1
  clear hk1
  go_wp2
  go_ret
  exact ⟨rfl, K1.out.alloc _⟩

theorem truncate_nil (w : World) (n : ByteArray) (k : Int) : Calls Tryz.prog 18 #[.pointer none, .string n, .int .i64 k] w fun e w' => e = .returned (.int .i64 1) ∧ Keeps No w w' := by
  go_enter Tryz.func18, Tryz.ntmps18
  go_wp2_with fail
  refine (open_nil w n).mono ?_
  rintro e w1 ⟨rfl, hk1⟩
  have K1 := Lib.hid hk1
  clear hk1
  go_wp2
  go_ret
  exact ⟨rfl, K1.out.alloc _⟩

theorem remove_nil (w : World) (n : ByteArray) : Calls Tryz.prog 46 #[.pointer none, .string n] w fun e w' => e = .returned (.int .i64 1) ∧ Keeps No w w' := by
  go_enter Tryz.func46, Tryz.ntmps46
  go_wp2_with fail
  refine (open_nil w n).mono ?_
  rintro e w1 ⟨rfl, hk1⟩
  have K1 := Lib.hid hk1
  clear hk1
  go_wp2
  go_ret
  exact ⟨rfl, K1.out.alloc _⟩

set_option maxRecDepth 100000 in
set_option maxHeartbeats 1000000 in
theorem append_err (hd : DiskAt w p b fs room dead) (n : ByteArray) (s : ByteArray) (fx : Fi) (ec : Int) (hE : openE fs dead n = (fx, ec)) (he : ec = 1 ∨ ec = 12) : Calls Tryz.prog 19 #[dP p, .string n, .string s] w fun e w' => e = .returned (.int .i64 ec) ∧ Keeps No w w' := by
  have Hd := Lib.hid hd
  clear hd
  rcases he with rfl | rfl
  all_goals
    go_enter Tryz.func19, Tryz.ntmps19
    go_wp2_with fail
    refine (open_any Hd.out n _ _ hE).mono ?_
    rintro e w1 ⟨rfl, hk1⟩
    have K1 := Lib.hid hk1
    clear hk1
    go_wp2
    go_ret
    exact ⟨rfl, K1.out.alloc _⟩

set_option maxRecDepth 100000 in
set_option maxHeartbeats 1000000 in
theorem append_full1 (hd : DiskAt w p b fs room dead) (n : ByteArray) (s : ByteArray) (fx : Fi) (ec : Int) (hE : openE fs dead n = (fx, ec)) (he : ec = 6) (h64 : 64 ≤ fs.length) : Calls Tryz.prog 19 #[dP p, .string n, .string s] w fun e w' => e = .returned (.int .i64 8) ∧ Keeps No w w' := by
  have Hd := Lib.hid hd
  clear hd
  subst he
  have hln : decide ((64 : Int) ≤ (fs.length : Int)) = true := decide_eq_true (by omega)
  clear h64
  go_enter Tryz.func19, Tryz.ntmps19
  go_wp2_with fail
  refine (open_any Hd.out n _ _ hE).mono ?_
  rintro e w1 ⟨rfl, hk1⟩
  have D1 := Hd.out.kept hk1 (fun h => h) (fun h => h)
  have hl := fun ob => len_run (D1.kept ((Keeps.refl (S := No) w1).alloc ob) (fun h => h) (fun h => h))
  have c0 := D1.cell0
  have l1 := D1.lt.1
  clear D1
  have K1 := Lib.hid hk1
  clear hk1
  go_wp2
  go_ret
  exact ⟨rfl, K1.out.alloc _⟩

set_option maxRecDepth 100000 in
set_option maxHeartbeats 1000000 in
theorem append_full2 (hd : DiskAt w p b fs room dead) (n : ByteArray) (s : ByteArray) (fx : Fi) (ec : Int) (hE : openE fs dead n = (fx, ec)) (hec : ec = 0 ∨ ec = 6 ∧ fs.length < 64) (hf : fx.s.size ≤ 4194304) (hbig : 4194304 < (fx.s.size : Int) + s.size) : Calls Tryz.prog 19 #[dP p, .string n, .string s] w fun e w' => e = .returned (.int .i64 8) ∧ Keeps No w w' := by
  have Hd := Lib.hid hd
  clear hd
  have hw : IntKind.i64.wrap (4194304 - (fx.s.size : Int)) = 4194304 - (fx.s.size : Int) := by rw [IntKind.wrap_i64]; omega
  have hg : decide (4194304 - (fx.s.size : Int) < (s.size : Int)) = true := decide_eq_true (by omega)
  clear hf hbig
  rcases hec with rfl | ⟨rfl, hlen⟩
  all_goals
    try have hln : decide ((64 : Int) ≤ (fs.length : Int)) = false := decide_eq_false (by omega)
    try clear hlen
    go_enter Tryz.func19, Tryz.ntmps19
    go_wp2_with fail
    refine (open_any Hd.out n _ _ hE).mono ?_
    rintro e w1 ⟨rfl, hk1⟩
    have D1 := Hd.out.kept hk1 (fun h => h) (fun h => h)
    have hl := fun ob => len_run (D1.kept ((Keeps.refl (S := No) w1).alloc ob) (fun h => h) (fun h => h))
    have c0 := D1.cell0
    have l1 := D1.lt.1
    clear D1
    have K1 := Lib.hid hk1
    clear hk1
    go_wp2
    go_ret
    exact ⟨rfl, K1.out.alloc _⟩

set_option maxRecDepth 100000 in
set_option maxHeartbeats 1000000 in
theorem truncate_err (hd : DiskAt w p b fs room dead) (n : ByteArray) (k : Int) (fx : Fi) (ec : Int) (hE : openE fs dead n = (fx, ec)) (he : (ec != 0) = true) : Calls Tryz.prog 18 #[dP p, .string n, .int .i64 k] w fun e w' => e = .returned (.int .i64 ec) ∧ Keeps No w w' := by
  have Hd := Lib.hid hd
  clear hd
  go_enter Tryz.func18, Tryz.ntmps18
  go_wp2_with fail
  refine (open_any Hd.out n _ _ hE).mono ?_
  rintro e w1 ⟨rfl, hk1⟩
  have K1 := Lib.hid hk1
  clear hk1
  go_wp2
  go_ret
  exact ⟨rfl, K1.out.alloc _⟩

set_option maxRecDepth 100000 in
set_option maxHeartbeats 1000000 in
theorem truncate_range (hd : DiskAt w p b fs room dead) (n : ByteArray) (k : Int) (fx : Fi) (ec : Int) (hE : openE fs dead n = (fx, ec)) (he : ec = 0) (hk : k < 0 ∨ (fx.s.size : Int) < k) : Calls Tryz.prog 18 #[dP p, .string n, .int .i64 k] w fun e w' => e = .returned (.int .i64 5) ∧ Keeps No w w' := by
  have Hd := Lib.hid hd
  clear hd
  subst he
  rcases hk with hk | hk
  · have h1 : decide (k < 0) = true := decide_eq_true hk
    clear hk
    go_enter Tryz.func18, Tryz.ntmps18
    go_wp2_with fail
    refine (open_any Hd.out n _ _ hE).mono ?_
    rintro e w1 ⟨rfl, hk1⟩
    have K1 := Lib.hid hk1
    clear hk1
    go_wp2
    go_ret
    exact ⟨rfl, K1.out.alloc _⟩
  · have h1 : decide (k < 0) = false := decide_eq_false (by omega)
    have h2 : decide ((fx.s.size : Int) < k) = true := decide_eq_true hk
    clear hk
    go_enter Tryz.func18, Tryz.ntmps18
    go_wp2_with fail
    refine (open_any Hd.out n _ _ hE).mono ?_
    rintro e w1 ⟨rfl, hk1⟩
    have K1 := Lib.hid hk1
    clear hk1
    go_wp2
    go_ret
    exact ⟨rfl, K1.out.alloc _⟩

set_option maxRecDepth 100000 in
set_option maxHeartbeats 1000000 in
theorem truncate_ok (hd : DiskAt w p b fs room dead) (n : ByteArray) (f : Fi) (hE : openE fs dead n = (f, 0)) (hg : getF fs n.data.toList = some f) (hn : n.size ≤ 32) (K : Nat) (hK : K ≤ f.s.size) : Calls Tryz.prog 18 #[dP p, .string n, .int .i64 K] w fun e w' => e = .returned (.int .i64 0) ∧ DiskAt w' p b (putF fs n.data.toList ⟨f.s.extract 0 K, min f.k K⟩) room dead ∧ Keeps (Own b) w w' := by
  have Hd := Lib.hid hd
  have Hn := Lib.hid hn
  have hxs : (f.s.extract 0 K).size = K := by simp; omega
  have Hok := Lib.hid (hd.putF_ok hn (f := ⟨f.s.extract 0 K, min f.k K⟩) ⟨by show (f.s.extract 0 K).size ≤ _; have := (hd.get_ok hg).1; omega, by show min f.k K ≤ (f.s.extract 0 K).size; omega⟩)
  have Hlen := Lib.hid (putF_length_some (f := ⟨f.s.extract 0 K, min f.k K⟩) hg)
  have h1 : decide ((K : Int) < 0) = false := decide_eq_false (by omega)
  have h2 : decide ((f.s.size : Int) < (K : Int)) = false := decide_eq_false (by omega)
  have h3 : (0 : Int) ≤ (K : Int) := by omega
  have h4 : (K : Int) ≤ (f.s.size : Int) := by omega
  clear hd hn hg hxs
  obtain ⟨J, hJ⟩ : ∃ J, J = min f.k K := ⟨_, rfl⟩
  rw [← hJ] at Hok Hlen ⊢
  have hcase : (¬ K < f.k ∧ J = f.k) ∨ (K < f.k ∧ J = K) := by omega
  clear hJ hK
  rcases hcase with ⟨hc, rfl⟩ | ⟨hc, rfl⟩
  all_goals
    go_enter Tryz.func18, Tryz.ntmps18
    go_wp2_with fail
    refine (open_any Hd.out n _ _ hE).mono ?_
    rintro e w1 ⟨rfl, hk1⟩
    have D1 := Lib.hid (Hd.out.kept hk1 (fun h => h) (fun h => h))
    have c0 := D1.out.cell0
    have l1 := D1.out.lt.1
    have K1 := Lib.hid hk1
    clear hk1
    go_wp2
    refine wp_world ?_
    intro W hW
    have KW : Hid (Keeps No w1 W) := by rw [hW]; exact (Keeps.refl (S := No) w1).alloc _
    have DW : Hid (DiskAt W p b fs room dead) := D1.out.kept KW.out (fun h => h) (fun h => h)
    have cW : W.heap[w1.heap.size]? = some (.cells #[.string f.s, .int .i64 f.k] 63 (0, 0)) := by rw [hW]; exact heap_alloc_new _ _
    have cC : cellsAt W w1.heap.size 0 2 = some [.string f.s, .int .i64 f.k] := by unfold cellsAt; rw [cW]; rfl
    have cA : W.cell? ⟨w1.heap.size, 0, none⟩ = some (.string f.s) := by simp [World.cell?, cW]
    have cB : W.cell? ⟨w1.heap.size, 1, none⟩ = some (.int .i64 f.k) := by simp [World.cell?, cW]
    have c0W := DW.out.cell0
    clear hW cW c0 l1
    go_still_tail 14, (by kernel_rfl)
    change wpList _ _ _ _ _ (World.drew _)
    refine wpList_files_put rfl (.tmp 30) (.tmp 31) (.tmp 40) rfl DW.out.drew.own DW.out.few rfl n rfl (Nat.le_trans Hn.out (by unfold maxLen; omega)) ⟨f.s.extract 0 _, _⟩ rfl ?_
    intro w2 ho2 hk2
    have D2 := Lib.hid (DW.out.drew.turned hk2 ho2 (Nat.le_trans Hlen.out DW.out.few) Hok.out.1 Hok.out.2)
    have K2 := Lib.hid ((((K1.out.trans KW.out (fun _ _ h => h)).mono (T := Own b) (fun _ _ h => h.elim)).drew).trans hk2 (fun _ _ h => h))
    clear ho2 hk2
    go_wp2
    go_ret
    exact ⟨rfl, D2.out, K2.out⟩

set_option maxRecDepth 100000 in
set_option maxHeartbeats 1000000 in
theorem remove_err (hd : DiskAt w p b fs room dead) (n : ByteArray) (fx : Fi) (ec : Int) (hE : openE fs dead n = (fx, ec)) (he : (ec == 0) = false) : Calls Tryz.prog 46 #[dP p, .string n] w fun e w' => e = .returned (.int .i64 ec) ∧ Keeps No w w' := by
  have Hd := Lib.hid hd
  clear hd
  go_enter Tryz.func46, Tryz.ntmps46
  go_wp2_with fail
  refine (open_any Hd.out n _ _ hE).mono ?_
  rintro e w1 ⟨rfl, hk1⟩
  have K1 := Lib.hid hk1
  clear hk1
  go_wp2
  go_ret
  exact ⟨rfl, K1.out.alloc _⟩

set_option maxRecDepth 100000 in
set_option maxHeartbeats 1000000 in
theorem remove_ok (hd : DiskAt w p b fs room dead) (n : ByteArray) (f : Fi) (hE : openE fs dead n = (f, 0)) (hn : n.size ≤ 32) : Calls Tryz.prog 46 #[dP p, .string n] w fun e w' => e = .returned (.int .i64 0) ∧ DiskAt w' p b (delF fs n.data.toList) room dead ∧ Keeps (Own b) w w' := by
  have Hd := Lib.hid hd
  have Hn := Lib.hid hn
  have Hok := Lib.hid (hd.delF_ok n.data.toList)
  have Hlen := Lib.hid (delF_le fs n.data.toList)
  clear hd hn
  go_enter Tryz.func46, Tryz.ntmps46
  go_wp2_with fail
  refine (open_any Hd.out n _ _ hE).mono ?_
  rintro e w1 ⟨rfl, hk1⟩
  have D1 := Lib.hid (Hd.out.kept hk1 (fun h => h) (fun h => h))
  have c0 := D1.out.cell0
  have l1 := D1.out.lt.1
  have K1 := Lib.hid hk1
  clear hk1
  go_wp2_with (at_delete; refine wpList_files_del rfl _ _ rfl (D1.out.kept ((Keeps.refl (S := No) w1).alloc _) (fun h => h) (fun h => h)).own rfl n rfl (Nat.le_trans Hn.out (by unfold maxLen; omega)) ?_; intro w2 ho2 hk2)
  have D2 := Lib.hid ((D1.out.kept ((Keeps.refl (S := No) w1).alloc _) (fun h => h) (fun h => h)).turned hk2 ho2 (Nat.le_trans Hlen.out D1.out.few) Hok.out.1 Hok.out.2)
  have K2 := Lib.hid (((K1.out.mono (T := Own b) (fun _ _ h => h.elim)).alloc _).trans hk2 (fun _ _ h => h))
  clear ho2 hk2
  go_wp2
  go_ret
  exact ⟨rfl, D2.out, K2.out⟩

theorem getF_del_ne {fs : Fs} {n m : Nm} (h : getF fs m = none) : getF (delF fs n) m = none := by
  unfold getF delF at *
  simp at h ⊢
  intro a x hx _
  exact h a x hx

end
end Go.Proofs.YtghamhipcpgofaaGreatDoor
