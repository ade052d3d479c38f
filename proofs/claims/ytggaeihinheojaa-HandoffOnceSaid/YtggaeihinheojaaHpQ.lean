/-
  HandoffOnce: each entity has just one owner at all times. No conditions.
-/
import Derived.Test.YtggaeihinheojaaHpP
namespace Go.Proofs.Ytggaeihinheojaa.handoffOnce
open Go.ChangeShapes Go.WideShapes Go.ChangeAt Go.RowKit Go.Joins Go.Deep

set_option maxRecDepth 100000 in
set_option maxHeartbeats 4000000 in
theorem walk {w : World} {v : Value} {l : List Tu} (hv : RdOf cTu w v l) : Calls Try.prog 6 #[v] w fun e w' => e = .returned (.bool true) ∧ Keeps No w w' := by
  have Hv := Lib.hid hv
  clear hv
  go_enter Try.func6, Try.ntmps6
  go_wp2_with (first
    | (go_at_call 26; refine (played_any Hv.out).mono ?_; rintro e w1 ⟨g, V, ms, W, rfl, _, _, hk1, _⟩; have K1 := Lib.hid hk1; clear hk1)
    | (go_at_call 10; refine (awake_any _).mono ?_; rintro e w2 ⟨rfl, hk2⟩; have K2 : Hid (Keeps No w w2) := K1.out.trans hk2 (fun _ _ h => h); clear hk2))
  go_ret
  exact ⟨rfl, K2.out⟩

set_option maxRecDepth 100000 in
theorem lifted (os : Os) (started : os.Started) (H : Type) (enc : TypeId × Value → H) :
    ReturnsInHanded {} Try.checked os 6 .any (Rows.handoffOnceSpec.pre6 enc Try.prog Try.f6 Rows.handoffOnceRow.domain false) (Rows.handoffOnceSpec.post enc Try.prog Try.f6 false true false false) := by
  refine law_lifted os started H enc (by kernel_rfl) Try.func6
    (ChangeSpec.witness6 (enc := enc) (C := Try.checked) false ⟨#[], #[.slice none 0 0], []⟩ 8 (by kernel_rfl) (by kernel_rfl) (by kernel_rfl) (by kernel_rfl))
    (by decide +kernel) rfl Try.underlying4 rfl (fun ds h => by match ds, h with | [d1], _ => rfl) ?_
  intro W base args ds p hval hA
  rw [Try.params6] at hA hval
  obtain ⟨v0, d0, rfl, rfl, h0⟩ := trodAll_one hA
  obtain ⟨l, hl⟩ := open_turns h0 (by obtain ⟨a, m, c, rfl⟩ := okWide_slice Try.underlying66 (hval 0 66 v0 rfl rfl); rfl)
  exact walk hl

theorem holds : Rows.HandoffOnceSaid :=
  OpenClaim.holds_of_wide 6 Try.f6 rfl rfl rfl rfl rfl rfl rfl ⟨rfl, rfl, rfl, rfl, rfl⟩ rfl rfl rfl rfl rfl (by kernel_rfl) Try.func6 (by kernel_rfl)
    (of_decide_eq_true (by kernel_rfl)) (by unfold Func.isWrapper; first | (rw [if_pos (by decide +kernel)]; kernel_rfl) | (rw [if_neg (by decide +kernel)]; exact ⟨rfl, rfl⟩))
    (fun os started H enc _ => lifted os started H enc)
end Go.Proofs.Ytggaeihinheojaa.handoffOnce
