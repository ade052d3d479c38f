/-
  Whatever the packet and the number: NetNone returns true, and each argument reads behind the call as it read before. No conditions.
-/
import Derived.Test.YtneikamjlbfglaaNetArgs
namespace Go.Proofs.Ytneikamjlbfglaa.netNone
open Go.ChangeShapes Go.WideShapes Go.ChangeAt Go.RowKit Go.Joins

set_option maxHeartbeats 1000000 in
theorem walk (p : Pk) (k : Int) (w : World) : Calls Try.prog 8 #[.agg #[.int .i64 p.f, .int .i64 p.t, .string p.s], .int .i64 k] w fun e w' => e = .returned (.bool true) ∧ Keeps No w w' := by
  have hn := eql_nilFunc
  go_enter Try.func8, Try.ntmps8
  go_wp2_with fail
  refine (send_nil _ _).mono ?_
  rintro e w1 ⟨rfl, rfl⟩
  go_wp2_with fail
  refine (take_nil k _).mono ?_
  rintro e w2 ⟨rfl, hk2⟩
  have hk : Keeps No w w2 := ((((Keeps.refl (S := No) w).alloc _).alloc _)).trans hk2 (fun _ _ h => h)
  clear hk2
  unfold noPk
  go_wp2_with fail
  refine (new_on 2 (by omega) (by omega) (w2.alloc (.cells #[.int .i64 0, .int .i64 0, .string ByteArray.empty] 34)) _ (Keeps.refl _)).mono ?_
  rintro e w3 ⟨b, rfl, h3⟩
  go_wp2_with fail
  refine (send_on (h3.later ((Keeps.refl _).alloc _)) (by simp) _ [⟨0, 1, ⟨#[]⟩⟩] (Reads.lit w3 ⟨0, 1, ⟨#[]⟩⟩) rfl).mono ?_
  rintro e w4 ⟨rfl, h4⟩
  have h4' : NetOn (w2.alloc (.cells #[.int .i64 0, .int .i64 0, .string ByteArray.empty] 34)) w4 b 2 [⟨0, 1, ⟨#[]⟩⟩] := h4
  clear h4 h3
  have hq := h4'.keeps.heap (heap_alloc_new w2 _) (fun h => h)
  obtain ⟨q0, q1, q2, _, _, _⟩ := cells3 hq
  have hse : (ByteArray.empty.toList == (⟨#[]⟩ : ByteArray).toList) = true := by kernel_rfl
  go_wp2_with fail
  refine (double_nil k _).mono ?_
  rintro e w5 ⟨rfl, rfl⟩
  go_wp2_with fail
  refine (to_any k _).mono ?_
  rintro e w6 ⟨rfl, hw6⟩
  go_wp2_with fail
  refine (lose_nil _ _).mono ?_
  rintro e w7 ⟨rfl, hw7⟩
  go_wp2_with fail
  refine (len_nil _).mono ?_
  rintro e w8 ⟨rfl, hw8⟩
  go_wp2_with fail
  refine (list_nil _).mono ?_
  rintro e w9 ⟨rfl, hw9⟩
  go_wp2_with fail
  refine (lose_none _ b).mono ?_
  rintro e w10 ⟨rfl, hw10⟩
  subst hw10 hw9 hw8 hw7 hw6
  have h6 := h4'.later ((Keeps.refl w4).alloc (.cells #[.int .i64 k] 3))
  go_wp2_with fail
  refine (len_on h6).mono ?_
  rintro e w11 ⟨rfl, rfl⟩
  go_wp2_with fail
  refine (awake_any _).mono ?_
  rintro e w12 ⟨rfl, hk12⟩
  have hfin : Hid (Keeps No w w12) := (((hk.alloc _).trans h6.keeps (fun _ _ h => h))).trans hk12 (fun _ _ h => h)
  go_wp2
  go_ret
  exact ⟨rfl, hfin.out⟩

set_option maxRecDepth 100000 in
theorem lifted (os : Os) (started : os.Started) (H : Type) (enc : TypeId × Value → H) :
    ReturnsInHanded {} Try.checked os 8 .any (Rows.netNoneSpec.pre6 enc Try.prog Try.f8 Rows.netNoneRow.domain false) (Rows.netNoneSpec.post enc Try.prog Try.f8 false true false false) := by
  refine law_lifted os started H enc (by kernel_rfl) Try.func8
    (ChangeSpec.witness6 (enc := enc) (C := Try.checked) false ⟨#[], #[.agg #[.int .i64 0, .int .i64 0, .string ByteArray.empty], .int .i64 0], []⟩ 8 (by kernel_rfl) (by kernel_rfl) (by kernel_rfl) (by kernel_rfl))
    (by decide +kernel) rfl Try.underlying4 rfl (fun ds h => by match ds, h with | [d1, d2], _ => rfl) ?_
  intro W base args ds p hval hA
  rw [Try.params8] at hA hval
  obtain ⟨v0, v1, d0, d1, p0, p1, rfl, rfl, rfl, h0, h1⟩ := trodAll_two hA
  obtain ⟨q, rfl, _⟩ := open_pk (hval 0 34 v0 rfl rfl) h0
  obtain ⟨k, rfl, rfl, rfl, _⟩ := open_int Try.underlying3 (hval 1 3 v1 rfl rfl) h1
  exact walk q k W

theorem holds : Rows.NetNoneSaid :=
  OpenClaim.holds_of_wide 8 Try.f8 rfl rfl rfl rfl rfl rfl rfl ⟨rfl, rfl, rfl, rfl, rfl⟩ rfl rfl rfl rfl rfl (by kernel_rfl) Try.func8 (by kernel_rfl)
    (of_decide_eq_true (by kernel_rfl)) (by unfold Func.isWrapper; first | (rw [if_pos (by decide +kernel)]; kernel_rfl) | (rw [if_neg (by decide +kernel)]; exact ⟨rfl, rfl⟩))
    (fun os started H enc _ => lifted os started H enc)
end Go.Proofs.Ytneikamjlbfglaa.netNone
