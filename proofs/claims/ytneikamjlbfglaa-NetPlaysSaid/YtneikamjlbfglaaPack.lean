/-
  Some things that lie side by side, taken as one thing: plain lemmas on worlds, over any program. No conditions.
-/
import Derived.Test.YtneikamjlbfglaaMem
namespace Go.Proofs.Ytneikamjlbfglaa
open Go.RowKit

/-- Some things, as one. -/
def All (R : List Thing) : Thing := fun w F => (∀ A ∈ R, Lies A) ∧ ∃ G : Nat → Nat → Prop, (∀ (i : Nat) (A : Thing), R[i]? = some A → A w (G i)) ∧ (∀ i j k, i < R.length → j < R.length → G i k → G j k → i = j) ∧ ∀ k, F k ↔ ∃ i, i < R.length ∧ G i k

theorem all_lies (R : List Thing) : Lies (All R) := by
  refine ⟨?_, ?_⟩
  · rintro w F ⟨hl, G, h1, h2, h3⟩ k hk
    obtain ⟨i, hi, hg⟩ := (h3 k).1 hk
    exact (hl _ (List.getElem_mem hi)).lt (h1 i _ (List.getElem?_eq_getElem hi)) k hg
  · rintro w w' F S ⟨hl, G, h1, h2, h3⟩ hk hd
    refine ⟨hl, G, fun i A hA => ?_, h2, h3⟩
    have hi := (List.getElem?_eq_some_iff.1 hA).1
    exact (hl _ (List.mem_of_getElem? hA)).keep (h1 i A hA) hk (fun k hg => hd k ((h3 k).2 ⟨i, hi, hg⟩))

theorem Mem.pack {w0 w : World} {L : List Thing} (R : List Thing) (h : Mem w0 w (L ++ R)) : Mem w0 w (L ++ [All R]) := by
  obtain ⟨hk, hl, ⟨F, h1, h2, h3⟩⟩ := h
  have hR : ∀ (i : Nat) (A : Thing), R[i]? = some A → A w (F (L.length + i)) := fun i A hA => h1 _ _ (by rw [List.getElem?_append_right (by omega), Nat.add_sub_cancel_left]; exact hA)
  refine ⟨hk, ?_, ⟨fun j k => if j = L.length then ∃ i, i < R.length ∧ F (L.length + i) k else F j k, ?_, ?_, ?_⟩⟩
  · intro A hA
    simp only [List.mem_append, List.mem_singleton] at hA
    rcases hA with hA | rfl
    · exact hl A (List.mem_append_left _ hA)
    · exact all_lies R
  · intro j A hA
    by_cases hj : j = L.length
    · subst hj
      rw [List.getElem?_append_right (Nat.le_refl _), Nat.sub_self, List.getElem?_cons_zero] at hA
      cases hA
      simp only [if_true]
      refine ⟨fun A hA => hl A (List.mem_append_right _ hA), fun i => F (L.length + i), hR, fun i j k hi hj hf hg => ?_, fun k => Iff.rfl⟩
      have := h3 _ _ k (by simp; omega) (by simp; omega) hf hg
      omega
    · simp only [hj, if_false]
      have hjl : j < L.length := by
        have := (List.getElem?_eq_some_iff.1 hA).1
        simp at this
        omega
      refine h1 j A ?_
      rw [List.getElem?_append_left hjl] at hA ⊢
      exact hA
  · intro j k hj hf
    simp at hj
    by_cases hjl : j = L.length
    · simp only [hjl, if_true] at hf
      obtain ⟨i, hi, hf⟩ := hf
      exact h2 _ k (by simp; omega) hf
    · simp only [hjl, if_false] at hf
      exact h2 _ k (by simp; omega) hf
  · intro j j' k hj hj' hf hf'
    simp at hj hj'
    by_cases hjl : j = L.length <;> by_cases hjl' : j' = L.length
    · omega
    · simp only [hjl, if_true, hjl', if_false] at hf hf'
      obtain ⟨i, hi, hf⟩ := hf
      have := h3 _ _ k (by simp; omega) (by simp; omega) hf hf'
      omega
    · simp only [hjl', if_true, hjl, if_false] at hf hf'
      obtain ⟨i, hi, hf'⟩ := hf'
      have := h3 _ _ k (by simp; omega) (by simp; omega) hf hf'
      omega
    · simp only [hjl, hjl', if_false] at hf hf'
      exact h3 _ _ k (by simp; omega) (by simp; omega) hf hf'

theorem Mem.unpack {w0 w : World} {L : List Thing} (R : List Thing) (h : Mem w0 w (L ++ [All R])) : Mem w0 w (L ++ R) := by
  obtain ⟨hk, hl, ⟨F, h1, h2, h3⟩⟩ := h
  have hA := h1 L.length (All R) (by rw [List.getElem?_append_right (Nat.le_refl _), Nat.sub_self]; rfl)
  obtain ⟨hlR, G, g1, g2, g3⟩ := hA
  refine ⟨hk, ?_, ⟨fun j k => if j < L.length then F j k else G (j - L.length) k, ?_, ?_, ?_⟩⟩
  · intro A hA
    rcases List.mem_append.1 hA with hA | hA
    · exact hl A (List.mem_append_left _ hA)
    · exact hlR A hA
  · intro j A hA
    by_cases hj : j < L.length
    · simp only [hj, if_true]
      rw [List.getElem?_append_left hj] at hA
      exact h1 j A (by rw [List.getElem?_append_left hj]; exact hA)
    · simp only [hj, if_false]
      rw [List.getElem?_append_right (by omega)] at hA
      exact g1 _ A hA
  · intro j k hj hf
    rw [List.length_append] at hj
    by_cases hjl : j < L.length
    · simp only [hjl, if_true] at hf
      exact h2 _ k (by simp; omega) hf
    · simp only [hjl, if_false] at hf
      exact h2 L.length k (by simp) ((g3 k).2 ⟨_, by omega, hf⟩)
  · intro j j' k hj hj' hf hf'
    rw [List.length_append] at hj hj'
    by_cases hjl : j < L.length <;> by_cases hjl' : j' < L.length
    · simp only [hjl, hjl', if_true] at hf hf'
      exact h3 _ _ k (by simp; omega) (by simp; omega) hf hf'
    · simp only [hjl, if_true, hjl', if_false] at hf hf'
      have := h3 j L.length k (by simp; omega) (by simp) hf ((g3 k).2 ⟨_, by omega, hf'⟩)
      omega
    · simp only [hjl', if_true, hjl, if_false] at hf hf'
      have := h3 L.length j' k (by simp) (by simp; omega) ((g3 k).2 ⟨_, by omega, hf⟩) hf'
      omega
    · simp only [hjl, hjl', if_false] at hf hf'
      have := g2 _ _ k (by omega) (by omega) hf hf'
      omega

end Go.Proofs.Ytneikamjlbfglaa
