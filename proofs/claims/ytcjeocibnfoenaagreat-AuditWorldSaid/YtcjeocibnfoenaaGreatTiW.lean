/-
  The document's Far. No conditions of their own.
-/
import Derived.Test.YtcjeocibnfoenaaGreatTiV
namespace Go.Proofs.YtcjeocibnfoenaaGreat
open Go.RowKit Go.Joins Go.Deep Go.Sort

set_option maxRecDepth 100000 in
set_option maxHeartbeats 1000000 in
theorem rfar_any (w : World) (x y u v : Int) : Calls Tryz.prog 99 #[.int .i64 x, .int .i64 y, .int .i64 u, .int .i64 v] w fun e w' => e = .returned (.int .i64 (far x y u v)) ∧ Grown w w' := by
  have bX := cl_bnd x
  have bY := cl_bnd y
  have bU := cl_bnd u
  have bV := cl_bnd v
  have CX := Lib.hid (fun W => rclamp_any W x)
  have CY := Lib.hid (fun W => rclamp_any W y)
  have CU := Lib.hid (fun W => rclamp_any W u)
  have CV := Lib.hid (fun W => rclamp_any W v)
  unfold far
  obtain ⟨X, hX⟩ : ∃ q, q = cl x := ⟨_, rfl⟩
  obtain ⟨Y, hY⟩ : ∃ q, q = cl y := ⟨_, rfl⟩
  obtain ⟨U, hU⟩ : ∃ q, q = cl u := ⟨_, rfl⟩
  obtain ⟨V, hV⟩ : ∃ q, q = cl v := ⟨_, rfl⟩
  rw [← hX] at CX bX ⊢
  rw [← hY] at CY bY ⊢
  rw [← hU] at CU bU ⊢
  rw [← hV] at CV bV ⊢
  clear hX hY hU hV
  have SA := Lib.hid (fun W => rsize_any W (X - U) (by omega) (by omega))
  have SB := Lib.hid (fun W => rsize_any W (Y - V) (by omega) (by omega))
  obtain ⟨A, hA⟩ : ∃ q, q = max (X - U) (-(X - U)) := ⟨_, rfl⟩
  obtain ⟨B, hB⟩ : ∃ q, q = max (Y - V) (-(Y - V)) := ⟨_, rfl⟩
  have hM : max (max (max (X - U) (-(X - U))) (Y - V)) (-(Y - V)) = max A B := by omega
  rw [hM]
  rw [← hA] at SA
  rw [← hB] at SB
  clear hM hA hB
  have wA : IntKind.i64.wrap (X - U) = X - U := by rw [IntKind.wrap_i64]; omega
  have wB : IntKind.i64.wrap (Y - V) = Y - V := by rw [IntKind.wrap_i64]; omega
  have mx := mixed
  go_enter Tryz.func99, Tryz.ntmps99
  go_wp2_with (first
    | (go_at_call 67; have hc := CX.out; with_reducible refine (hc _).mono ?_; rintro e w1 ⟨rfl, rfl⟩; clear hc)
    | (go_at_call 67; have hc := CY.out; with_reducible refine (hc _).mono ?_; rintro e w1 ⟨rfl, rfl⟩; clear hc)
    | (go_at_call 67; have hc := CU.out; with_reducible refine (hc _).mono ?_; rintro e w1 ⟨rfl, rfl⟩; clear hc)
    | (go_at_call 67; have hc := CV.out; with_reducible refine (hc _).mono ?_; rintro e w1 ⟨rfl, rfl⟩; clear hc)
    | (go_at_call 116; have hc := SA.out; with_reducible refine (hc _).mono ?_; rintro e w1 ⟨rfl, rfl⟩; clear hc)
    | (go_at_call 116; have hc := SB.out; with_reducible refine (hc _).mono ?_; rintro e w1 ⟨rfl, rfl⟩; clear hc))
  all_goals go_ret
  all_goals exact ⟨by first | rfl | (simp; omega), Grown.same _⟩
end Go.Proofs.YtcjeocibnfoenaaGreat
