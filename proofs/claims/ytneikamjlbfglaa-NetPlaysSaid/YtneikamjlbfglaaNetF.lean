/-
  hedgerowref18.Same over equal lists; nets beside other memory of the call's own.
-/
import Derived.Test.YtneikamjlbfglaaNetArgs
import Derived.Deep.QuietTactic
import Derived.BigQuiet
namespace Go.Proofs.Ytneikamjlbfglaa
open Go.RowKit

set_option maxHeartbeats 1000000 in
theorem same_yes (w : World) (u v : Value) (l : List Pk) (hu : PkReads w u l) (hv : PkReads w v l) :
    Calls Try.prog 18 #[u, v] w fun e w' => e = .returned (.bool true) ∧ Keeps No w w' := by
  obtain ⟨a, c, rfl⟩ := hu.slice
  obtain ⟨a', c', rfl⟩ := hv.slice
  have hlen : l.length ≤ maxLen := by
    rcases hv.shape with ⟨_, h0⟩ | ⟨_, c', he, h1, h2, _⟩
    · simp [h0]
    · omega
  unfold maxLen at hlen
  go_enter Try.func18, Try.ntmps18
  go_wp2
  go_loopw [5] (fun i wr => ∃ k : Nat, k ≤ l.length ∧ i = .int .i64 k ∧ Keeps No w wr) (fun i _ => l.length - (intOf i).toNat)
  case atStart => exact ⟨0, Nat.zero_le _, rfl, Keeps.refl _⟩
  case round =>
    obtain ⟨k, hk, rfl, hkr⟩ := hrel
    by_cases hlt : k < l.length
    · have hu' := hu.kept hkr (fun _ _ h => h)
      have hv' := hv.kept hkr (fun _ _ h => h)
      obtain ⟨b, off, d, he, _, _, _, _⟩ := hu'.addr (by rw [pkCells_length]; omega)
      simp only [Value.slice.injEq, true_and] at he
      obtain ⟨rfl, rfl⟩ := he
      obtain ⟨b', off', d', he, _, _, _, _⟩ := hv'.addr (by rw [pkCells_length]; omega)
      simp only [Value.slice.injEq, true_and] at he
      obtain ⟨rfl, rfl⟩ := he
      obtain ⟨g0, g1, g2⟩ := hu'.pk k hlt
      obtain ⟨g0', g1', g2'⟩ := hv'.pk k hlt
      have hi0 : (0 : Int) ≤ (k : Int) := by omega
      have hi1 : (k : Int) < (l.length : Int) := by omega
      go_wp2
      go_quiet (fail)
      go_wp2
      exact ⟨⟨k + 1, by omega, by go_num, hkr.drewN _⟩, by simp [intOf]; omega⟩
    · go_wp2
      go_ret
      exact ⟨rfl, hkr⟩

/-- A net, and a row of packets of the call's own beside it. -/
structure Beside (w0 w : World) (b : Nat) (N : Int) (ps : List Pk) (sv : Value) (qs : List Pk) : Prop where
  net : ∃ v, NetAt w b N v ps ∧ ∀ k, sv.ownBlock = some k → k ≠ b ∧ v.ownBlock ≠ some k
  row : PkOwn w w0.heap.size sv qs
  keeps : Keeps No w0 w
  base : w0.heap.size ≤ b

theorem Beside.on {w0 w : World} {b : Nat} {N : Int} {ps qs : List Pk} {sv : Value} (h : Beside w0 w b N ps sv qs) : NetOn w0 w b N ps :=
  let ⟨v, hv, _⟩ := h.net; ⟨⟨v, hv⟩, h.keeps, h.base⟩
theorem Beside.later {w0 w w' : World} {b : Nat} {N : Int} {ps qs : List Pk} {sv : Value} (h : Beside w0 w b N ps sv qs) (k : Keeps No w w') : Beside w0 w' b N ps sv qs := by
  obtain ⟨⟨v, hv, ha⟩, hr, hk, hb⟩ := h
  exact ⟨⟨v, hv.kept k (fun h => h) (fun _ _ h => h), ha⟩, k.owns hr (fun _ _ h => h), hk.trans k (fun _ _ h => h), hb⟩
/-- a method of the net's -/
theorem Beside.turn {w0 w w' : World} {b : Nat} {N : Int} {ps qs ps' : List Pk} {sv : Value} (h : Beside w0 w b N ps sv qs) (t : ∀ v, NetAt w b N v ps → Turned w w' b N v ps') : Beside w0 w' b N ps' sv qs := by
  obtain ⟨⟨v, hv, ha⟩, hr, hk, hb⟩ := h
  obtain ⟨⟨v', hv', hn⟩, hkk⟩ := t v hv
  refine ⟨⟨v', hv', fun k hs => ⟨(ha k hs).1, fun he => ?_⟩⟩, hkk.owns hr (fun k hs hf => ?_), hk.trans hkk (fun i hi hf => ?_), hb⟩
  · rcases hn k he with h1 | h1
    · exact (ha k hs).2 h1
    · have := (hr.lt k hs).2; omega
  · rcases hf with rfl | hf
    · exact (ha k hs).1 rfl
    · exact (ha k hs).2 hf
  · rcases hf with rfl | hf
    · omega
    · have := (hv.own.lt i hf).1; omega
/-- an append to the row -/
theorem Beside.row_turn {w0 w w' : World} {b : Nat} {N : Int} {ps qs qs' : List Pk} {sv sv' : Value} (h : Beside w0 w b N ps sv qs) (hr' : PkOwn w' w0.heap.size sv' qs') (k : Keeps (Of sv) w w')
    (hn : ∀ k, sv'.ownBlock = some k → sv.ownBlock = some k ∨ w.heap.size ≤ k) : Beside w0 w' b N ps sv' qs' := by
  obtain ⟨⟨v, hv, ha⟩, hr, hk, hb⟩ := h
  refine ⟨⟨v, hv.kept k (fun hs => (ha b hs).1 rfl) (fun i hi hs => (ha i hs).2 hi), fun i hs => ?_⟩, hr', hk.trans k (fun i hi hf => ?_), hb⟩
  · rcases hn i hs with h1 | h1
    · exact ha i h1
    · exact ⟨by have := hv.lt; omega, fun he => by have := (hv.own.lt i he).2; omega⟩
  · have := (hr.lt i hf).1; omega
end Go.Proofs.Ytneikamjlbfglaa
