/-
  A log that is as it should be: records laid, read, opened again, dropped. No conditions of its own.
-/
import Derived.Test.YtghamhipcpgofaaGreatDoorWaQ
namespace Go.Proofs.YtghamhipcpgofaaGreatDoor
open Go.RowKit

def recsOf (S : List Sg) : List Nm := S.flatMap Sg.recs
theorem recsOf_snoc (A : List Sg) (z : Sg) : recsOf (A ++ [z]) = recsOf A ++ z.recs := by simp [recsOf]
theorem recs_layS (A : List Sg) (z : Sg) (t : Nm) : recsOf ((layS A z t).1 ++ [(layS A z t).2]) = recsOf (A ++ [z]) ++ [t] := by
  unfold layS
  cases decide (flen z.recs < 4096) <;> simp [recsOf]
theorem next_layS (A : List Sg) (z : Sg) (t : Nm) : (layS A z t).2.next = z.next + 1 := by
  unfold layS
  cases decide (flen z.recs < 4096)
  · rfl
  · simp [Sg.next]; omega
theorem len_layS (A : List Sg) (z : Sg) (t : Nm) : (layS A z t).1.length ≤ A.length + 1 := by
  unfold layS
  cases decide (flen z.recs < 4096) <;> simp
theorem first_layS (A : List Sg) (z : Sg) (t : Nm) : ((layS A z t).1 ++ [(layS A z t).2]).head?.map Sg.first = (A ++ [z]).head?.map Sg.first := by
  unfold layS
  cases decide (flen z.recs < 4096) <;> cases A <;> simp

section
variable {nm : ByteArray} {A : List Sg} {z : Sg} {g : Lg} {d : Ds}
/-- records are laid -/
theorem layAll_good : ∀ (L : List Nm) {A : List Sg} {z : Sg} {g : Lg} {d : Ds}, Good nm A z g d → (∀ t ∈ L, t.length ≤ 65536) → z.next + L.length ≤ 1000000 → A.length + L.length ≤ 63 →
    ∃ A' z' g' d', layAll (L.map toB) g d = (0, g', d') ∧ Good nm A' z' g' d' ∧ recsOf (A' ++ [z']) = recsOf (A ++ [z]) ++ L ∧ z'.next = z.next + L.length ∧ A'.length ≤ A.length + L.length ∧ (A' ++ [z']).head?.map Sg.first = (A ++ [z]).head?.map Sg.first
  | [], A, z, g, d, h, _, _, _ => ⟨A, z, g, d, rfl, h, by simp, by simp, by simp, rfl⟩
  | t :: L, A, z, g, d, h, hl, hn, ha => by
    simp only [List.length_cons] at hn ha
    obtain ⟨g1, d1, he, h1⟩ := lay_good h t (hl t (by simp)) (by omega) (.inr (by omega))
    have hx := next_layS A z t
    have hy := len_layS A z t
    obtain ⟨A', z', g', d', h2, h3, h4, h5, h6, h7⟩ := layAll_good L h1 (fun x hx => hl x (by simp [hx])) (by omega) (by omega)
    refine ⟨A', z', g', d', ?_, h3, ?_, ?_, ?_, ?_⟩
    · rw [List.map_cons, layAll, he]
      exact h2
    · rw [h4, recs_layS, List.append_assoc]; rfl
    · simp only [List.length_cons]; omega
    · simp only [List.length_cons]; omega
    · rw [h7, first_layS]
theorem append_good (h : Good nm A z g d) (L : List Nm) (hl : ∀ t ∈ L, t.length ≤ 65536) (hn : z.next + L.length ≤ 1000000) (ha : A.length + L.length ≤ 63) :
    ∃ A' z' g' d', g.append d (L.map toB) = (0, g', d') ∧ Good nm A' z' g' d' ∧ recsOf (A' ++ [z']) = recsOf (A ++ [z]) ++ L ∧ z'.next = z.next + L.length ∧ A'.length ≤ A.length + L.length ∧ (A' ++ [z']).head?.map Sg.first = (A ++ [z]).head?.map Sg.first := by
  obtain ⟨A', z', g', d', h2, h3⟩ := layAll_good L h hl hn ha
  refine ⟨A', z', g', d', ?_, h3⟩
  unfold Lg.append
  have : (L.map toB).any longB = false := by
    rw [List.any_eq_false]
    intro x hx
    obtain ⟨t, ht, rfl⟩ := List.mem_map.1 hx
    have := hl t ht
    simp [longB, toB_size]
    omega
  rw [this, cond_false, h2]
theorem good0 : Good wN [] ⟨0, [], 0⟩ g0 d0 :=
  ⟨rfl, by kernel_rfl, rfl, by decide, by simp, by decide, by decide, by decide, by decide, by simp, by decide, (fun s hs X t hx => by rw [List.mem_singleton.1 hs] at hx; have := congrArg List.length hx; simp at this), trivial, (fun s hs t ht => by rw [List.mem_singleton.1 hs] at ht; cases ht), by decide⟩

theorem bts_list (L : List Nm) : (bts L).data.toList = frames L := by simp [bts]
theorem recs_good (h : Good nm A z g d) {X Y : List Sg} {s : Sg} (hs : A ++ [z] = X ++ s :: Y) : g.recs d s.first = s.recs := by
  unfold Lg.recs
  have : g.file s.first = fileNm nm s.first := by unfold Lg.file; rw [h.g]
  rw [this, h.look hs, bts_list, parse_all _ (h.rl s (by rw [hs]; simp))]
/-- all records are there -/
theorem all_good (h : Good nm A z g d) : g.all d = recsOf (A ++ [z]) := by
  unfold Lg.all recsOf
  have hf : g.firsts = (A ++ [z]).map Sg.first := by rw [h.g]
  rw [hf, List.flatMap_map]
  suffices ∀ (Y X : List Sg), A ++ [z] = X ++ Y → Y.flatMap (fun s => g.recs d s.first) = Y.flatMap Sg.recs from this (A ++ [z]) [] rfl
  intro Y
  induction Y with
  | nil => intro X _; rfl
  | cons s Y ih =>
    intro X hX
    rw [List.flatMap_cons, List.flatMap_cons, recs_good h hX, ih (X ++ [s]) (by rw [hX]; simp)]

theorem there_good (h : Good nm A z g d) : opThere d nm = (0, (A ++ [z]).map Sg.first, d) := by
  have hs : segsOf nm.data.toList (namesOf d.fs) = (A ++ [z]).map Sg.first := by
    unfold segsOf namesOf
    rw [h.fs, List.map_map]
    have h8 := h.lt8
    generalize A ++ [z] = S at h8
    induction S with
    | nil => rfl
    | cons s S ih =>
      rw [List.map_cons, List.filterMap_cons]
      have : segOf nm.data.toList (((·.1) ∘ Sg.file nm) s) = some s.first := segOf_segNm _ (h8 s (by simp))
      rw [this, ih (fun x hx => h8 x (by simp [hx]))]
      rfl
  unfold opThere
  rw [hs]
  have : ((A ++ [z]).map Sg.first).isEmpty = false := by cases A <;> rfl
  rw [this, cond_false]
theorem putF_same {X Y : Fs} {n : Nm} {f : Fi} (h : Rising (X ++ (n, f) :: Y)) : putF (X ++ (n, f) :: Y) n f = X ++ (n, f) :: Y := putF_mid h
/-- a whole segment is cut nowhere -/
theorem trunc_good (h : Good nm A z g d) {X Y : List Sg} {s : Sg} (hs : A ++ [z] = X ++ s :: Y) : (d.truncate (fileNm nm s.first) (flen s.recs)).2 = d := by
  have hk : s.k ≤ flen s.recs := by
    have hm : s ∈ A ++ [z] := by rw [hs]; simp
    rcases List.mem_append.1 hm with hm | hm
    · rw [(h.full s hm).2.2]; exact Nat.le_refl _
    · rw [List.mem_singleton.1 hm]; exact h.zk
  unfold Ds.truncate
  rw [h.open hs]
  dsimp only
  rw [bts_size, decide_eq_false (by omega : ¬ ((flen s.recs : Int) < 0)), decide_eq_false (by omega : ¬ ((flen s.recs : Int) < (flen s.recs : Int)))]
  have hx : (bts s.recs).extract 0 (flen s.recs) = bts s.recs := by
    rw [← bts_size]
    apply ByteArray.ext
    rw [ByteArray.data_extract]
    exact Array.extract_size
  have hm : min s.k (flen s.recs) = s.k := Nat.min_eq_left hk
  have hp : putF d.fs (fileNm nm s.first).data.toList ⟨bts s.recs, s.k⟩ = d.fs := by
    have hr := h.rising
    rw [h.fs, hs, List.map_append, List.map_cons] at hr ⊢
    exact putF_same hr
  show (bif (0 : Int) == 0 then (bif false || false then (5, d) else (0, d.with (putF d.fs (fileNm nm s.first).data.toList ⟨(bts s.recs).extract 0 ((flen s.recs : Int)).toNat, min s.k ((flen s.recs : Int)).toNat⟩))) else (0, d)).2 = d
  rw [Int.toNat_natCast, hx, hm, hp]
  rfl
theorem run_good (h : Good nm A z g d) : ∀ (Y X : List Sg) (n : Nat), A ++ [z] = X ++ Y → (Y.head?.map Sg.first).getD n = n →
    (Y.map Sg.first).foldl (opStep nm) ⟨true, X.map Sg.first, n, recsOf X, d⟩ = ⟨true, (X ++ Y).map Sg.first, (Y.getLast?.map Sg.next).getD n, recsOf (X ++ Y), d⟩
  | [], X, n, _, _ => by simp
  | s :: Y, X, n, hX, hn => by
    have hn : s.first = n := by simpa using hn
    have hstep : opStep nm ⟨true, X.map Sg.first, n, recsOf X, d⟩ s.first = ⟨true, (X ++ [s]).map Sg.first, s.next, recsOf (X ++ [s]), d⟩ := by
      unfold opStep OpSt.recs
      dsimp only
      rw [h.look hX, bts_list, parse_all _ (h.rl s (by rw [hX]; simp)), bts_size, trunc_good h hX, decide_eq_true hn, decide_eq_true rfl, ← hn]
      simp [recsOf, Sg.next]
    rw [List.map_cons, List.foldl_cons, hstep, run_good h Y (X ++ [s]) s.next (by rw [hX]; simp) ?_]
    · cases Y with
      | nil => simp
      | cons b Y =>
        obtain ⟨q, hq⟩ : ∃ q, (b :: Y).getLast? = some q := ⟨_, List.getLast?_eq_some_getLast (by simp)⟩
        rw [List.getLast?_cons_cons, hq, List.append_assoc]
        rfl
    · cases Y with
      | nil => rfl
      | cons b Y =>
        have hl := h.link
        rw [hX] at hl
        have := (linked_tail hl).1
        simpa using this.symm
/-- it is opened again -/
theorem open_good (h : Good nm A z g d) : opEnd nm ((A ++ [z]).map Sg.first) (opRun nm ((A ++ [z]).map Sg.first) d) = (g, recsOf (A ++ [z]), (d.sync g.last).2) := by
  have hrun : opRun nm ((A ++ [z]).map Sg.first) d = ⟨true, (A ++ [z]).map Sg.first, z.next, recsOf (A ++ [z]), d⟩ := by
    unfold opRun
    have := run_good h (A ++ [z]) [] (((A ++ [z]).map Sg.first).headD 0) rfl (by cases A <;> simp)
    simpa [recsOf] using this
  unfold opEnd
  rw [hrun]
  dsimp only
  have hg : (⟨nm, (A ++ [z]).map Sg.first, z.next⟩ : Lg) = g := h.g.symm
  have hl : fileNm nm (lastN ((A ++ [z]).map Sg.first)) = g.last := by unfold Lg.last; rw [h.g]
  rw [hg, hl, List.drop_length]
  rfl
theorem reopened (h : Good nm A z g d) : Good nm A ⟨z.first, z.recs, flen z.recs⟩ g (d.sync g.last).2 := h.synced
end
theorem RdN.take' {w : World} {a : Option Addr} {n c k : Nat} {L : List Nm} (h : RdN w (.slice a n c) L) (hn : n = L.length) (hk : k ≤ n) : RdN w (.slice a k c) (L.take k) := by
  subst hn
  have := Reads.take h hk
  have hl : (L.take k).length = k := by rw [List.length_take]; omega
  unfold RdN
  rw [hl, List.map_take]
  simpa using this
theorem RdN.drop' {w : World} {b off n c k : Nat} {L : List Nm} (h : RdN w (.slice (some ⟨b, off, none⟩) n c) L) (hn : n = L.length) (hk : k ≤ n) : RdN w (.slice (some ⟨b, off + k, none⟩) (n - k) (c - k)) (L.drop k) := by
  subst hn
  have hl : (L.drop k).length = L.length - k := List.length_drop
  rcases h.shape with ⟨he, _⟩ | ⟨ad, c', he, hnc, hcm, hx⟩
  · simp at he
  · simp only [Value.slice.injEq, Option.some.injEq, true_and] at he
    obtain ⟨rfl, rfl⟩ := he
    refine ⟨by simp, by intro u hu; obtain ⟨t, _, rfl⟩ := List.mem_map.1 hu; rfl, .inr ⟨⟨b, off + k, none⟩, c - k, by rw [hl], by omega, by omega, fun j u hj => ?_⟩⟩
    rw [List.map_drop, List.getElem?_drop] at hj
    have := hx (k + j) u hj
    rw [Addr.add_lit] at this ⊢
    rwa [Nat.add_assoc]
theorem RdN.over {w : World} {a : Addr} {n k : Nat} {L : List Nm} (hn : n = L.length) (hk : n ≤ k) : RdN w (.slice (some a) (n - k) 0) (L.drop k) := by
  have hl : L.drop k = [] := List.drop_eq_nil_of_le (by omega)
  have h0 : n - k = 0 := by omega
  rw [hl, h0]
  exact ⟨rfl, by simp, .inr ⟨a, 0, rfl, Nat.le_refl _, by unfold maxLen; omega, by simp⟩⟩
end Go.Proofs.YtghamhipcpgofaaGreatDoor
