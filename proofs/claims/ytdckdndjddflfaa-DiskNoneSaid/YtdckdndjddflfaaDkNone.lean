/-
  Whatever the deed: DiskNone returns true, and its argument reads behind the call as it read before. No conditions.
-/
import Derived.Test.YtdckdndjddflfaaDkH
namespace Go.Proofs.Ytdckdndjddflfaa.diskNone
open Go.ChangeShapes Go.WideShapes Go.ChangeAt Go.RowKit Go.Joins Go.Deep

set_option maxRecDepth 100000 in
set_option maxHeartbeats 4000000 in
theorem walk (x : Deed) (w : World) : Calls Try.prog 11 #[.agg #[.int .i64 x.k, .int .i64 x.n, .string x.name, .string x.to, .string x.s]] w fun e w' => e = .returned (.bool true) ∧ Keeps No w w' := by
  go_enter Try.func11, Try.ntmps11
  go_wp2_with fail
  refine (crash_nil _ _).mono ?_
  rintro e w1 ⟨rfl, rfl⟩
  go_wp2_with fail
  refine (cut_nil _ _).mono ?_
  rintro e w2 ⟨rfl, rfl⟩
  go_wp2_with fail
  refine (read_nil _ _).mono ?_
  rintro e w3 ⟨rfl, hk3⟩
  have x3 : cellsAt w3 w.heap.size 0 5 = some [.int .i64 x.k, .int .i64 x.n, .string x.name, .string x.to, .string x.s] := hk3.cellsAt (by simp [go_sem])
  have y2 : w3.cell? ⟨w.heap.size, 2, none⟩ = some (.string x.name) := cellsAt_cell x3 2 _ rfl
  have K3 : Hid (Keeps No w w3) := ((Keeps.refl (S := No) w).alloc _).trans hk3 (fun _ _ h => h)
  clear hk3
  go_wp2_with fail
  refine (size_nil _ _).mono ?_
  rintro e w4 ⟨rfl, hk4⟩
  have x4 := hk4.cellsAt x3
  have K4 : Hid (Keeps No w w4) := K3.out.trans hk4 (fun _ _ h => h)
  clear hk4 x3 y2 K3
  go_wp2_with fail
  refine (copy_nil _).mono ?_
  rintro e w5 ⟨rfl, h5, hk5⟩
  have x5 := hk5.cellsAt x4
  have K5 : Hid (Keeps No w w5) := K4.out.trans hk5 (fun _ _ h => h)
  have H5 := Lib.hid h5
  clear hk5 x4 K4 h5
  have z1 : w5.cell? ⟨w.heap.size, 1, none⟩ = some (.int .i64 x.n) := cellsAt_cell x5 1 _ rfl
  have z2 : w5.cell? ⟨w.heap.size, 2, none⟩ = some (.string x.name) := cellsAt_cell x5 2 _ rfl
  have z3 : w5.cell? ⟨w.heap.size, 3, none⟩ = some (.string x.to) := cellsAt_cell x5 3 _ rfl
  have z4 : w5.cell? ⟨w.heap.size, 4, none⟩ = some (.string x.s) := cellsAt_cell x5 4 _ rfl
  go_wp2_with fail
  refine (dead_nil _).mono ?_
  rintro e w6 ⟨rfl, rfl⟩
  go_wp2_with fail
  refine (append_nil _ _ _).mono ?_
  rintro e w7 ⟨rfl, hk7⟩
  have x7 := hk7.cellsAt x5
  have K7 : Hid (Keeps No w w7) := K5.out.trans hk7 (fun _ _ h => h)
  have H7 := Lib.hid (H5.out.kept hk7 (fun h => h) (fun h => h))
  clear hk7 x5 K5 H5 z1 z2 z3 z4
  have z2 : w7.cell? ⟨w.heap.size, 2, none⟩ = some (.string x.name) := cellsAt_cell x7 2 _ rfl
  go_wp2_with fail
  refine (sync_nil _ _).mono ?_
  rintro e w8 ⟨rfl, hk8⟩
  have x8 := hk8.cellsAt x7
  have K8 : Hid (Keeps No w w8) := K7.out.trans hk8 (fun _ _ h => h)
  have H8 := Lib.hid (H7.out.kept hk8 (fun h => h) (fun h => h))
  clear hk8 x7 K7 H7 z2
  have z2 : w8.cell? ⟨w.heap.size, 2, none⟩ = some (.string x.name) := cellsAt_cell x8 2 _ rfl
  have z1 : w8.cell? ⟨w.heap.size, 1, none⟩ = some (.int .i64 x.n) := cellsAt_cell x8 1 _ rfl
  go_wp2_with fail
  refine (truncate_nil _ _ _).mono ?_
  rintro e w9 ⟨rfl, hk9⟩
  have x9 := hk9.cellsAt x8
  have K9 : Hid (Keeps No w w9) := K8.out.trans hk9 (fun _ _ h => h)
  have H9 := Lib.hid (H8.out.kept hk9 (fun h => h) (fun h => h))
  clear hk9 x8 K8 H8 z1 z2
  have z2 : w9.cell? ⟨w.heap.size, 2, none⟩ = some (.string x.name) := cellsAt_cell x9 2 _ rfl
  have z3 : w9.cell? ⟨w.heap.size, 3, none⟩ = some (.string x.to) := cellsAt_cell x9 3 _ rfl
  go_wp2_with fail
  refine (rename_nil _ _ _).mono ?_
  rintro e w10 ⟨rfl, hk10⟩
  have x10 := hk10.cellsAt x9
  have K10 : Hid (Keeps No w w10) := K9.out.trans hk10 (fun _ _ h => h)
  have H10 := Lib.hid (H9.out.kept hk10 (fun h => h) (fun h => h))
  clear hk10 x9 K9 H9 z3 z2
  have z2 : w10.cell? ⟨w.heap.size, 2, none⟩ = some (.string x.name) := cellsAt_cell x10 2 _ rfl
  go_wp2_with fail
  refine (remove_nil _ _).mono ?_
  rintro e w11 ⟨rfl, hk11⟩
  have K11 : Hid (Keeps No w w11) := K10.out.trans hk11 (fun _ _ h => h)
  have H11 := Lib.hid (H10.out.kept hk11 (fun h => h) (fun h => h))
  clear hk11 x10 K10 H10 z2
  have he : ((⟨#[]⟩ : ByteArray).toList == (⟨#[]⟩ : ByteArray).toList) = true := by kernel_rfl
  go_wp2_with fail
  refine (files_nil _).mono ?_
  rintro e w12 ⟨rfl, rfl⟩
  go_wp2_with fail
  refine (files_any H11.out).mono ?_
  rintro e w13 ⟨v, rfl, hv, hk13⟩
  obtain ⟨va, vc, rfl⟩ := ownsRow_slice hv
  have K13 : Hid (Keeps No w w13) := K11.out.trans hk13 (fun _ _ h => h)
  clear hk13 hv K11 H11
  go_wp2_with fail
  refine (awake_any _).mono ?_
  rintro e w14 ⟨rfl, hk14⟩
  have hfin : Hid (Keeps No w w14) := K13.out.trans hk14 (fun _ _ h => h)
  clear hk14 K13
  go_wp2
  go_ret
  exact ⟨rfl, hfin.out⟩

set_option maxRecDepth 100000 in
theorem lifted (os : Os) (started : os.Started) (H : Type) (enc : TypeId × Value → H) :
    ReturnsInHanded {} Try.checked os 11 .any (Rows.diskNoneSpec.pre6 enc Try.prog Try.f11 Rows.diskNoneRow.domain false) (Rows.diskNoneSpec.post enc Try.prog Try.f11 false true false false) := by
  refine law_lifted os started H enc (by kernel_rfl) Try.func11
    (ChangeSpec.witness6 (enc := enc) (C := Try.checked) false ⟨#[], #[.agg #[.int .i64 0, .int .i64 0, .string ByteArray.empty, .string ByteArray.empty, .string ByteArray.empty]], []⟩ 8 (by kernel_rfl) (by kernel_rfl) (by kernel_rfl) (by kernel_rfl))
    (by decide +kernel) rfl Try.underlying4 rfl (fun ds h => by match ds, h with | [d1], _ => rfl) ?_
  intro W base args ds p hval hA
  rw [Try.params11] at hA hval
  obtain ⟨v0, d0, rfl, rfl, h0⟩ := trodAll_one hA
  obtain ⟨x, rfl, _⟩ := open_deed (hval 0 46 v0 rfl rfl) h0
  exact walk x W

theorem holds : Rows.DiskNoneSaid :=
  OpenClaim.holds_of_wide 11 Try.f11 rfl rfl rfl rfl rfl rfl rfl ⟨rfl, rfl, rfl, rfl, rfl⟩ rfl rfl rfl rfl rfl (by kernel_rfl) Try.func11 (by kernel_rfl)
    (of_decide_eq_true (by kernel_rfl)) (by unfold Func.isWrapper; first | (rw [if_pos (by decide +kernel)]; kernel_rfl) | (rw [if_neg (by decide +kernel)]; exact ⟨rfl, rfl⟩))
    (fun os started H enc _ => lifted os started H enc)
end Go.Proofs.Ytdckdndjddflfaa.diskNone
