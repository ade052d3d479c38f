/-
  A disk that gets full, as plain data. No conditions of its own.
-/
import Derived.Test.YtghamhipcpgofaaGreatDoorWaS
namespace Go.Proofs.YtghamhipcpgofaaGreatDoor
open Go.RowKit

section
variable {nm : ByteArray} {A : List Sg} {z : Sg} {g : Lg} {d : Ds}
/-- no segment more -/
theorem lay_stuck (h : Good nm A z g d) (s : ByteArray) (h4 : ¬ flen z.recs < 4096) (hA : A.length = 63) : g.lay d s = (8, g, (d.sync g.last).2) := by
  have hlk : d.look g.last = ⟨bts z.recs, z.k⟩ := by rw [h.last]; exact h.look (X := A) (Y := []) rfl
  have hz1 : 1 ≤ z.recs.length := by
    cases hr : z.recs with
    | nil => rw [hr] at h4; exact absurd (by decide) h4
    | cons _ _ => simp
  have hS := h.synced
  have hn2 : g.next = z.next := by rw [h.g]
  unfold Lg.lay
  rw [hlk]
  dsimp only
  rw [bts_size, decide_eq_false h4, cond_false, hn2, decide_eq_false (by have := h.lim; omega), cond_false]
  have h8 : z.next < 100000000 := by have := h.lim; omega
  have hname : g.file z.next = fileNm nm z.next := by rw [h.g]; rfl
  have hno : getF (d.sync g.last).2.fs (fileNm nm z.next).data.toList = none := by
    rw [hS.fs]
    exact getF_none_of h8 (fun s hs => ⟨hS.lt8 s hs, by have := hS.low s hs; show s.first ≠ z.first + z.recs.length; have e : (Sg.mk z.first z.recs (flen z.recs)).first = z.first := rfl; omega⟩)
  have hop : openE (d.sync g.last).2.fs (d.sync g.last).2.dead (fileNm nm z.next) = (Fi.none, 6) := by
    unfold openE
    rw [hS.dead, Bool.and_false, cond_false]
    exact find_no (by rw [fileNm_size _ h8]; omega) (by rw [fileNm_size _ h8]; have := h.nm2; omega) hno
  have hlen : (d.sync g.last).2.fs.length = A.length + 1 := by rw [hS.fs]; simp
  have hap : (d.sync g.last).2.append (fileNm nm z.next) (frameB s) = (8, (d.sync g.last).2) := by
    unfold Ds.append
    rw [hop]
    dsimp only
    have h1 : decide (64 ≤ (d.sync g.last).2.fs.length) = true := decide_eq_true (by omega)
    rw [h1]
    rfl
  rw [hname, hap]
  rfl
theorem Good.files (h : Good nm A z g d) : d.fs.length = A.length + 1 := by rw [h.fs]; simp
end

/-- so many great records stand behind the others -/
def BigIn (L : List Nm) (g : Lg) (d : Ds) (k : Nat) : Prop :=
  ∃ A z, Good wN A z g d ∧ (recsOf (A ++ [z])).length = L.length + k ∧ z.next = L.length + k ∧ k ≤ A.length + 1 ∧ (k = 0 ∨ 4096 ≤ flen z.recs)
def BigEnd (L : List Nm) (g : Lg) (d : Ds) (k : Nat) : Prop :=
  ∃ A z, Good wN A z g d ∧ (recsOf (A ++ [z])).length = L.length + k ∧ z.next = L.length + k ∧ A.length = 63 ∧ ¬ flen z.recs < 4096
theorem one_lay (g : Lg) (d : Ds) (T : Nm) (hT : T.length ≤ 65536) (e : Int) (g' : Lg) (d' : Ds) (h : g.lay d (toB T) = (e, g', d')) : g.append d [toB T] = (e, g', d') := by
  unfold Lg.append
  have : [toB T].any longB = false := by
    simp [longB, toB_size]
    omega
  rw [this, cond_false, layAll, h]
  dsimp only [layAll]
  cases he : (e == 0)
  · rfl
  · have : e = 0 := by simpa using he
    subst this
    rfl
theorem big_step {L : List Nm} {T : Nm} {g : Lg} {d : Ds} {k : Nat} (h : BigIn L g d k) (hL : L.length ≤ 30) (hT : 4096 ≤ T.length) (hT2 : T.length ≤ 5100) :
    k ≤ 64 ∧ ((∃ g' d', g.append d [toB T] = (0, g', d') ∧ BigIn L g' d' (k + 1)) ∨ (∃ d', g.append d [toB T] = (8, g, d') ∧ BigEnd L g d' k)) := by
  obtain ⟨A, z, G, hr, hn, hk, hz⟩ := h
  have hf := G.few
  refine ⟨by omega, ?_⟩
  by_cases hc : flen z.recs < 4096 ∨ A.length < 63
  · obtain ⟨g', d', he, G'⟩ := lay_good G T (by omega) (by omega) hc
    refine .inl ⟨g', d', one_lay g d T (by omega) _ _ _ he, _, _, G', ?_, ?_, ?_, ?_⟩
    · rw [recs_layS, List.length_append, hr]; rfl
    · rw [next_layS, hn]; rfl
    · unfold layS
      by_cases h4 : flen z.recs < 4096
      · rw [decide_eq_true h4, cond_true]
        show k + 1 ≤ A.length + 1
        have : k = 0 := by omega
        omega
      · rw [decide_eq_false h4, cond_false]
        simp
        omega
    · right
      unfold layS
      cases decide (flen z.recs < 4096)
      · show 4096 ≤ flen [T]
        simp [flen]
        omega
      · show 4096 ≤ flen (z.recs ++ [T])
        rw [flen_append]
        simp [flen]
        omega
  · have h4 : ¬ flen z.recs < 4096 := by omega
    have hA : A.length = 63 := by omega
    refine .inr ⟨_, one_lay g d T (by omega) _ _ _ (lay_stuck G (toB T) h4 hA), A, ⟨z.first, z.recs, flen z.recs⟩, G.synced, ?_, hn, hA, h4⟩
    rw [recsOf_snoc] at hr ⊢
    exact hr
theorem big_again {L : List Nm} {T : Nm} {g : Lg} {d : Ds} {k : Nat} (h : BigEnd L g d k) (hT2 : T.length ≤ 5100) : ∃ d', g.append d [toB T] = (8, g, d') ∧ BigEnd L g d' k := by
  obtain ⟨A, z, G, hr, hn, hA, h4⟩ := h
  refine ⟨_, one_lay g d T (by omega) _ _ _ (lay_stuck G (toB T) h4 hA), A, ⟨z.first, z.recs, flen z.recs⟩, G.synced, ?_, hn, hA, h4⟩
  rw [recsOf_snoc] at hr ⊢
  exact hr
theorem BigEnd.facts {L : List Nm} {g : Lg} {d : Ds} {k : Nat} (h : BigEnd L g d k) : d.fs.length = 64 ∧ (g.all d).length = L.length + k ∧ g.next = L.length + k ∧ g.firsts.length = 64 := by
  obtain ⟨A, z, G, hr, hn, hA, h4⟩ := h
  refine ⟨by rw [G.files, hA], by rw [all_good G, hr], by rw [G.g]; exact hn, by rw [G.g]; simp [hA]⟩
theorem BigIn.facts {L : List Nm} {g : Lg} {d : Ds} {k : Nat} (h : BigIn L g d k) (hL : L.length ≤ 30) : g.next ≤ 100 ∧ g.firsts.length ≤ 64 := by
  obtain ⟨A, z, G, hr, hn, hk, hz⟩ := h
  have hf := G.few
  rw [G.g]
  refine ⟨by show z.next ≤ _; omega, by simp; omega⟩
end Go.Proofs.YtghamhipcpgofaaGreatDoor
