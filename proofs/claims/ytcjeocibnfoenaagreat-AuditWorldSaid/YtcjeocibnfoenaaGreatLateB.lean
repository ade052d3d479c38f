/-
  Small laws beside Late. No conditions of their own.
-/
import Derived.Test.YtcjeocibnfoenaaGreatLate
namespace Go.Proofs.YtcjeocibnfoenaaGreat

theorem noLate_of {late : Nat → Bool} {listed : Array Bool} (h : ((List.range listed.size).all fun j => !late j || !listed.getD j false) = true) : NoLate late listed := by
  intro j hj
  by_cases hl : j < listed.size
  · rw [List.all_eq_true] at h
    have := h j (List.mem_range.2 hl)
    rw [hj] at this
    simpa using this
  · simp [Array.getD_eq_getD_getElem?, hl]
/-- a late one has come up -/
theorem late_come {late : Nat → Bool} {listed : Array Bool} {p : Prop} (k : Nat) (hk : late k = true) (h : (listed.setIfInBounds k true).getD k false = true) : NoLate late (listed.setIfInBounds k true) → p := fun hn => by
  rw [hn k hk] at h
  cases h
theorem put_of {K : Act → World → Prop} {x : Option Nat} {d : Nat} {a : Act} {v : Value} {w : World} (hd : x = some d) (h : K ⟨a.tmps.setIfInBounds d v, a.defers⟩ w) : K (a.put x v) w := by
  rw [hd]; exact h
end Go.Proofs.YtcjeocibnfoenaaGreat
