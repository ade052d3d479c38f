/-
  A world of three shards, as data: what asking comes to, at the first that stands at the door. Plain lemmas. No conditions of its own.
-/
import Derived.Test.YtggaeihinheojaaHpC
namespace Go.Proofs.Ytggaeihinheojaa

theorem ask_data {W : Wd} {T k : Nat} (hO : Ok W T) (hk : k < 3) (hm : mayNext (W.s k).outs (W.s k).nx = true) :
    ∃ (j : Nat) (hj : j < (W.s k).outs.length) (D : Nat), firstOf isKept (W.s k).outs = j ∧ (W.s k).outs[j].st = 1 ∧ D < 3 ∧ D ≠ k ∧ (W.s k).outs[j].to = (D : Int) ∧
      firstOf (tellPr ((W.s k).nx + 1)) ((W.s k).outs.set j ⟨(W.s k).nx + 1, (W.s k).outs[j].to, 2, (W.s k).outs[j].b⟩) = j ∧
      Rest W ((W.setS k ((W.s k).ask ((W.s k).outs.set j ⟨(W.s k).nx + 1, (W.s k).outs[j].to, 2, (W.s k).outs[j].b⟩))).push k D (7, (W.s k).nx + 1, [(W.s k).outs[j].b])) T 1 := by
  unfold mayNext at hm
  simp only [Bool.and_eq_true, decide_eq_true_eq] at hm
  obtain ⟨hkept, hu, _⟩ := hm
  rcases firstOf_cases isKept (W.s k).outs with ⟨_, hno⟩ | ⟨j, hf, hj, hp, hb⟩
  · unfold keptOf at hkept
    rw [List.any_eq_true] at hkept
    obtain ⟨o, ho, hk1⟩ := hkept
    rw [hno o ho] at hk1
    cases hk1
  · have hst : (W.s k).outs[j].st = 1 := by simpa [isKept] using hp
    have hsplit : (W.s k).outs = (W.s k).outs.take j ++ (W.s k).outs[j] :: (W.s k).outs.drop (j + 1) := by
      rw [List.getElem_cons_drop, List.take_append_drop]
    have hset : (W.s k).outs.set j ⟨(W.s k).nx + 1, (W.s k).outs[j].to, 2, (W.s k).outs[j].b⟩ = (W.s k).outs.take j ++ (⟨(W.s k).nx + 1, (W.s k).outs[j].to, 2, (W.s k).outs[j].b⟩ : Ou) :: (W.s k).outs.drop (j + 1) := by
      rw [List.set_eq_take_append_cons_drop, if_pos hj]
    obtain ⟨D, hD3, hDk, hto⟩ := (hO.S.outs k hk _ (List.getElem_mem hj)).tgt
    have hA : ∀ p ∈ (W.s k).outs.take j, p.st ≠ 1 := by
      intro p hp h1
      obtain ⟨i, hi, rfl⟩ := List.getElem_of_mem hp
      rw [List.length_take] at hi
      rw [List.getElem_take] at h1
      have := hb i (by omega) (by omega)
      simp [isKept, h1] at this
    obtain ⟨_, _, hrest⟩ := rest_ask hO hk hsplit hst hA (by omega) hto
    refine ⟨j, hj, D, hf, hst, hD3, hDk, hto, ?_, by rw [hset]; exact hrest⟩
    refine firstOf_at _ _ j (by simpa using hj) ?_ (by simp [tellPr])
    intro i hi h2
    rw [List.getElem_set_ne (by omega)]
    have hil : i < (W.s k).outs.length := by omega
    have ho := (hO.S.outs k hk _ (List.getElem_mem hil)).st
    have hne := hb i hi hil
    unfold tellPr
    simp [isKept] at hne
    rcases ho with ⟨h1, _⟩ | ⟨_, _, h3⟩
    · exact absurd h1 hne
    · have : ¬ (W.s k).outs[i].n = ((W.s k).nx : Int) + 1 := by omega
      simp [this]
end Go.Proofs.Ytggaeihinheojaa
