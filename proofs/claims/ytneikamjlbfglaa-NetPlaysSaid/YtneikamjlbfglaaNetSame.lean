/-
  hedgerowref18.Same over equal lists only draws.
-/
import Derived.Test.YtneikamjlbfglaaNetF
namespace Go.Proofs.Ytneikamjlbfglaa
open Go.RowKit

set_option maxHeartbeats 1000000 in
theorem same_quiet (w : World) (u v : Value) (l : List Pk) (hu : PkReads w u l) (hv : PkReads w v l) :
    Calls Try.prog 18 #[u, v] w fun e w' => e = .returned (.bool true) ∧ ∃ m, w' = w.drewN m := by
  obtain ⟨a, c, rfl⟩ := hu.slice
  obtain ⟨a', c', rfl⟩ := hv.slice
  have hlen : l.length ≤ maxLen := by
    rcases hv.shape with ⟨_, h0⟩ | ⟨_, c', he, h1, h2, _⟩
    · simp [h0]
    · omega
  unfold maxLen at hlen
  go_enter Try.func18, Try.ntmps18
  go_wp2
  go_loopw [5] (fun i wr => ∃ k : Nat, k ≤ l.length ∧ i = .int .i64 k ∧ ∃ m, wr = w.drewN m) (fun i _ => l.length - (intOf i).toNat)
  case atStart => exact ⟨0, Nat.zero_le _, rfl, 0, rfl⟩
  case round =>
    obtain ⟨k, hk, rfl, m, rfl⟩ := hrel
    by_cases hlt : k < l.length
    · have hu' := hu
      have hv' := hv
      obtain ⟨b, off, d, he, _, _, _, _⟩ := hu'.addr (by rw [pkCells_length]; omega)
      simp only [Value.slice.injEq, true_and] at he
      obtain ⟨rfl, rfl⟩ := he
      obtain ⟨b', off', d', he, _, _, _, _⟩ := hv'.addr (by rw [pkCells_length]; omega)
      simp only [Value.slice.injEq, true_and] at he
      obtain ⟨rfl, rfl⟩ := he
      obtain ⟨g0, g1, g2⟩ := hu'.pk k hlt
      obtain ⟨g0', g1', g2'⟩ := hv'.pk k hlt
      have hi0 : (0 : Int) ≤ (k : Int) := by omega
      have hi1 : (k : Int) < (l.length : Int) := by omega
      go_wp2
      go_quiet (fail)
      go_wp2
      exact ⟨⟨k + 1, by omega, by go_num, _, rfl⟩, by simp [intOf]; omega⟩
    · go_wp2
      go_ret
      exact ⟨rfl, m, rfl⟩

end Go.Proofs.Ytneikamjlbfglaa
