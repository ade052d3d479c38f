/-
  Segments that are dropped, as plain data. No conditions of its own.
-/
import Derived.Test.YtghamhipcpgofaaGreatDoorWaR
namespace Go.Proofs.YtghamhipcpgofaaGreatDoor
open Go.RowKit

section
variable {nm : ByteArray} {A : List Sg} {z : Sg} {g : Lg} {d : Ds}
theorem drop_one {s : Sg} (h : Good nm (s :: A) z g d) : Good nm A z ⟨nm, g.firsts.drop 1, g.next⟩ (d.remove (fileNm nm s.first)).2 := by
  have hr := h.rising
  have hfs := h.fs
  rw [List.cons_append, List.map_cons] at hfs
  have hrem : (d.remove (fileNm nm s.first)).2 = d.with ((A ++ [z]).map (Sg.file nm)) := by
    unfold Ds.remove
    rw [h.open (X := []) (Y := A ++ [z]) rfl]
    rw [hfs] at hr
    have hdel : delF d.fs (fileNm nm s.first).data.toList = (A ++ [z]).map (Sg.file nm) := by
      rw [hfs]
      exact delF_mid (A := []) (n := segNm nm.data.toList s.first) hr
    rw [hdel]
    rfl
  rw [hrem]
  have hmem : ∀ x ∈ A ++ [z], x ∈ (s :: A) ++ [z] := fun x hx => List.mem_cons_of_mem _ hx
  refine ⟨by rw [h.g]; simp, rfl, h.dead, h.room, ?_, h.lim, h.nm1, h.nm2, by have := h.few; simp at this; omega, fun a ha => h.full a (by simp [ha]), h.zs, fun x hx => h.short x (hmem x hx), linked_tail (X := [s]) h.link, fun x hx => h.rl x (hmem x hx), h.zk⟩
  have := h.up
  rw [List.cons_append, List.pairwise_cons] at this
  exact this.2
theorem drop_good : ∀ (k : Nat) {A : List Sg} {g : Lg} {d : Ds}, Good nm A z g d → k ≤ A.length → Good nm (A.drop k) z ⟨nm, g.firsts.drop k, g.next⟩ (rmAll nm (g.firsts.take k) d)
  | 0, A, g, d, h, _ => by
    have : g = ⟨nm, g.firsts, g.next⟩ := by rw [h.g]
    rw [List.drop_zero, List.drop_zero, List.take_zero, ← this]
    exact h
  | k + 1, [], _, _, _, hk => by simp at hk
  | k + 1, s :: A, g, d, h, hk => by
    have h1 := drop_one h
    have h2 := drop_good k h1 (by simpa using hk)
    have hf : g.firsts = s.first :: (A ++ [z]).map Sg.first := by rw [h.g]; rfl
    have e : rmAll nm (g.firsts.take (k + 1)) d = rmAll nm ((g.firsts.drop 1).take k) (d.remove (fileNm nm s.first)).2 := by
      rw [hf]
      rfl
    rw [e, List.drop_succ_cons]
    have e2 : g.firsts.drop (k + 1) = (g.firsts.drop 1).drop k := by rw [List.drop_drop, Nat.add_comm]
    rw [e2]
    exact h2
/-- the number of a segment's first record is the number of all that stand ahead of it -/
theorem first_recs : ∀ (X Y : List Sg) (s : Sg), Linked (X ++ s :: Y) → (X ++ s :: Y).head?.map Sg.first = some 0 → s.first = (recsOf X).length
  | [], Y, s, _, h => by simpa [recsOf] using h
  | x :: X, Y, s, hl, h => by
    suffices ∀ (X : List Sg) (x : Sg), Linked (x :: X ++ s :: Y) → s.first = x.first + (recsOf (x :: X)).length by
      have hx : x.first = 0 := by simpa using h
      have := this X x hl
      omega
    intro X
    induction X with
    | nil => intro x hl; have := hl.1; simp [recsOf, Sg.next] at this ⊢; omega
    | cons y X ih =>
      intro x hl
      have h1 : x.next = y.first := hl.1
      have h2 := ih y hl.2
      simp [recsOf, Sg.next] at h1 h2 ⊢
      omega
theorem recs_drop (A : List Sg) (z : Sg) (k : Nat) (hk : k ≤ A.length) (hl : Linked (A ++ [z])) (h0 : (A ++ [z]).head?.map Sg.first = some 0) (f : Nat) (hf : ((A ++ [z]).map Sg.first)[k]? = some f) :
    recsOf (A.drop k ++ [z]) = (recsOf (A ++ [z])).drop f ∧ f ≤ (recsOf (A ++ [z])).length := by
  rw [List.getElem?_map, Option.map_eq_some_iff] at hf
  obtain ⟨s, hs, rfl⟩ := hf
  have hsp : A ++ [z] = (A ++ [z]).take k ++ (A ++ [z]).drop k := (List.take_append_drop k _).symm
  have hd : (A ++ [z]).drop k = A.drop k ++ [z] := List.drop_append_of_le_length hk
  have hc : (A ++ [z]).drop k = s :: (A ++ [z]).drop (k + 1) := by
    obtain ⟨hlt, rfl⟩ := List.getElem?_eq_some_iff.1 hs
    exact List.drop_eq_getElem_cons hlt
  have hfr := first_recs ((A ++ [z]).take k) ((A ++ [z]).drop (k + 1)) s (by rw [← hc, ← hsp]; exact hl) (by rw [← hc, ← hsp]; exact h0)
  have hall : recsOf (A ++ [z]) = recsOf ((A ++ [z]).take k) ++ recsOf (A.drop k ++ [z]) := by
    conv => lhs; rw [hsp]
    rw [hd]
    simp [recsOf]
  rw [hall, hfr]
  exact ⟨by simp, by simp⟩
end
end Go.Proofs.YtghamhipcpgofaaGreatDoor
