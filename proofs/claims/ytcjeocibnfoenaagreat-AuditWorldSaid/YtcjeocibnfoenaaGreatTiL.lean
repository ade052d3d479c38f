/-
  The leaves of the document's program: Clamp, half, Bit, Far, near, into. No conditions of their own.
-/
import Derived.Test.YtcjeocibnfoenaaGreatTiJ
namespace Go.Proofs.YtcjeocibnfoenaaGreat
open Go.RowKit Go.Joins Go.Deep Go.Sort

theorem rclamp_any (w : World) (n : Int) : Calls Tryz.prog 67 #[.int .i64 n] w fun e w' => e = .returned (.int .i64 (cl n)) ∧ w' = w := by
  by_cases h : n < -1073741824
  · rw [cl_lo h]
    have h2 : ¬ 1073741824 < n := by omega
    go_enter Tryz.func67, Tryz.ntmps67
    go_wp2
    go_ret
    exact ⟨rfl, rfl⟩
  · by_cases k : 1073741824 < n
    · rw [cl_hi k]
      go_enter Tryz.func67, Tryz.ntmps67
      go_wp2
      go_ret
      exact ⟨rfl, rfl⟩
    · rw [cl_in (by omega) (by omega)]
      go_enter Tryz.func67, Tryz.ntmps67
      go_wp2
      go_ret
      exact ⟨rfl, rfl⟩
theorem half_any (w : World) (n : Int) (hn : i64 n) : Calls Tryz.prog 98 #[.int .i64 n] w fun e w' => e = .returned (.int .i64 (n / 2)) ∧ w' = w := by
  obtain ⟨h1, h2⟩ := hn
  by_cases h : n < 0
  · have hd : decide (n < 0) = true := decide_eq_true h
    by_cases ho : n % 2 = 0
    · have hm : n.tmod 2 = 0 := by rw [Int.tmod_eq_emod]; split <;> omega
      have hq : n.tdiv 2 = n / 2 := by rw [Int.tdiv_eq_ediv]; split <;> omega
      obtain ⟨q, hq2⟩ : ∃ q, q = n / 2 := ⟨_, rfl⟩
      rw [← hq2] at hq ⊢
      have hq3 : -9223372036854775808 ≤ q := by omega
      have hq4 : q ≤ 9223372036854775807 := by omega
      clear hq2 ho
      go_enter Tryz.func98, Tryz.ntmps98
      go_wp2
      go_ret
      exact ⟨rfl, rfl⟩
    · have hm : n.tmod 2 = -1 := by rw [Int.tmod_eq_emod]; split <;> omega
      have hq : (n - 1).tdiv 2 = n / 2 := by rw [Int.tdiv_eq_ediv]; split <;> omega
      obtain ⟨q, hq2⟩ : ∃ q, q = n / 2 := ⟨_, rfl⟩
      rw [← hq2] at hq ⊢
      have hq3 : -9223372036854775808 ≤ q := by omega
      have hq4 : q ≤ 9223372036854775807 := by omega
      have hn1 : -9223372036854775807 ≤ n := by omega
      clear hq2 ho
      go_enter Tryz.func98, Tryz.ntmps98
      go_wp2
      go_ret
      exact ⟨rfl, rfl⟩
  · have hd : decide (n < 0) = false := decide_eq_false h
    have h0 : 0 ≤ n := by omega
    have hq : n.tdiv 2 = n / 2 := Int.tdiv_eq_ediv_of_nonneg h0
    obtain ⟨q, hq2⟩ : ∃ q, n / 2 = q := ⟨_, rfl⟩
    rw [hq2] at hq ⊢
    have hq3 : 0 ≤ q := by omega
    have hq4 : q ≤ 9223372036854775807 := by omega
    go_enter Tryz.func98, Tryz.ntmps98
    go_wp2
    go_ret
    exact ⟨rfl, rfl⟩
theorem half_ok {n : Int} (h : i64 n) : i64 (n / 2) := by unfold i64 at *; omega
def bitC (c : Int) : Prop := c = 1 ∨ c = 2 ∨ c = 4 ∨ c = 8 ∨ c = 16
set_option maxHeartbeats 1000000 in
theorem bit_any (w : World) (m c : Int) (hm : i64 m) (hc : bitC c) : Calls Tryz.prog 62 #[.int .i64 m, .int .i64 c] w fun e w' => e = .returned (.bool (hasB m c)) ∧ w' = w := by
  have HM := Lib.hid hm
  have HC := Lib.hid hc
  clear hm hc
  go_enter Tryz.func62, Tryz.ntmps62
  go_wp2_with fail
  go_loopw [0, 1] (fun s0 s1 wr => ∃ x d : Int, s0 = .int .i64 x ∧ s1 = .int .i64 d ∧ i64 x ∧ bitC d ∧ hasB x d = hasB m c ∧ w = wr) (fun _ s1 _ => (intOf s1).toNat)
  case atStart => exact ⟨m, c, rfl, rfl, HM.out, HC.out, rfl, rfl⟩
  case round =>
    obtain ⟨x, d, rfl, rfl, hx, hd, hh, rfl⟩ := hrel
    have HX := Lib.hid hx
    have HH := Lib.hid hh
    have HF := Lib.hid (half_any w x hx)
    have HK := Lib.hid (half_ok hx)
    obtain ⟨hx1, hx2⟩ := hx
    clear hh
    obtain ⟨q, hq⟩ : ∃ q, q = x / 2 := ⟨_, rfl⟩
    have HQ := Lib.hid hq
    rw [← hq] at HF HK
    clear hq
    rcases hd with rfl | rfl | rfl | rfl | rfl
    · by_cases ho : x % 2 = 0
      · have e1 : Hid (hasB m c = false) := Lib.hid (by rw [← HH.out]; unfold hasB; rw [Int.ediv_one]; exact decide_eq_false (by omega))
        have hmm : x.tmod 2 = 0 := by rw [Int.tmod_eq_emod]; split <;> omega
        clear ho
        go_wp2
        go_ret
        exact ⟨by rw [e1.out]; rfl, rfl⟩
      · have e1 : Hid (hasB m c = true) := Lib.hid (by rw [← HH.out]; unfold hasB; rw [Int.ediv_one]; exact decide_eq_true (by omega))
        have hmm : x.tmod 2 = 1 ∨ x.tmod 2 = -1 := by rw [Int.tmod_eq_emod]; split <;> omega
        clear ho
        rcases hmm with hmm | hmm
        · go_wp2
          go_ret
          exact ⟨by rw [e1.out]; rfl, rfl⟩
        · go_wp2
          go_ret
          exact ⟨by rw [e1.out]; rfl, rfl⟩
    all_goals
      go_wp2_with fail
      refine HF.out.mono ?_
      rintro e w1 ⟨rfl, h1⟩
      have h1 := h1.symm
      subst h1
      go_wp2
      go_roundw
      case measure => simp [intOf]
    case rel => exact ⟨q, 1, rfl, rfl, HK.out, .inl rfl, by rw [← HH.out, HQ.out]; unfold hasB; congr 1; apply propext; omega, by first | rfl | trivial⟩
    case rel => exact ⟨q, 2, rfl, rfl, HK.out, .inr (.inl rfl), by rw [← HH.out, HQ.out]; unfold hasB; congr 1; apply propext; omega, by first | rfl | trivial⟩
    case rel => exact ⟨q, 4, rfl, rfl, HK.out, .inr (.inr (.inl rfl)), by rw [← HH.out, HQ.out]; unfold hasB; congr 1; apply propext; omega, by first | rfl | trivial⟩
    case rel => exact ⟨q, 8, rfl, rfl, HK.out, .inr (.inr (.inr (.inl rfl))), by rw [← HH.out, HQ.out]; unfold hasB; congr 1; apply propext; omega, by first | rfl | trivial⟩
end Go.Proofs.YtcjeocibnfoenaaGreat
