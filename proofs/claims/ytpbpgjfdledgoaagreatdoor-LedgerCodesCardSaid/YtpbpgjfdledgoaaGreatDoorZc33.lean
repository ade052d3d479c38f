/-
  A pool of names, as data: what each method makes of it. Plain. No conditions of its own.
-/
import Derived.Test.YtpbpgjfdledgoaaGreatDoorZc12
namespace Go.Proofs.YtpbpgjfdledgoaaGreatDoor

/-- an index: its generation, how far it is set aside, whether it is somebody's -/
structure Ix where
  g : Int
  b : Int
  a : Bool
/-- a shard's indices, and those that are free -/
structure Sh where
  all : List Ix
  free : List Nat
abbrev Pl := List Sh

def plNew (n ids : Nat) : Pl := List.replicate n ⟨List.replicate ids ⟨0, 0, false⟩, List.range ids⟩
/-- the shard at k -/
def shAt (p : Pl) (k : Int) : Option Sh := bif decide (0 ≤ k) && decide (k < (p.length : Int)) then p[k.toNat]? else none
/-- the index at i -/
def ixIn (s : Sh) (i : Int) : Option Ix := bif decide (0 ≤ i) && decide (i < (s.all.length : Int)) then s.all[i.toNat]? else none
def ixAt (p : Pl) (k i : Int) : Option Ix := match shAt p k with
  | some s => ixIn s i
  | none => none
/-- an index is put in its place -/
def Sh.put (s : Sh) (i : Nat) (x : Ix) : Sh := ⟨s.all.set i x, s.free⟩
def plPut (p : Pl) (k : Nat) (s : Sh) : Pl := p.set k s
/-- the index that comes next -/
def headS (s : Sh) : Int × Bool × Int := match s.free with
  | [] => (0, false, 8)
  | i :: _ => ((i : Int), (match s.all[i]? with | some x => decide (x.g < x.b) | none => false), 0)
def headP (p : Pl) (k : Int) : Int × Bool × Int := match shAt p k with
  | none => (0, false, 1)
  | some s => headS s
def genP (p : Pl) (k i : Int) : Int := match ixAt p k i with
  | some x => x.g
  | none => 0
def reserveP (p : Pl) (k i : Int) : Int × Pl := match shAt p k with
  | none => (1, p)
  | some s => match ixIn s i with
    | none => (1, p)
    | some x => bif decide (x.b = 1048576) then (5, p) else (0, plPut p k.toNat (s.put i.toNat ⟨x.g, min (x.b + 8) 1048576, x.a⟩))
def aliveI (x : Ix) (g : Int) : Bool := x.a && decide (x.g = g)
def aliveP (p : Pl) (a : Nam) : Bool := match ixAt p a.s a.i with
  | none => false
  | some x => aliveI x a.g
/-- has a shard an index free? -/
def freeHas (s : Sh) (i : Int) : Bool := s.free.any (fun k => decide ((k : Int) = i))
def freeNot (s : Sh) (i : Int) : List Nat := s.free.filter (fun k => !decide ((k : Int) = i))
def takeS' (s : Sh) (x : Ix) (i g : Int) : Int × Sh :=
  bif decide (g < 0) then (1, s) else
  bif !freeHas s i then (14, s) else
  bif decide (g < x.g) || decide (x.b ≤ g) then (9, s) else
  (0, ⟨s.all.set i.toNat ⟨g, x.b, true⟩, freeNot s i⟩)
def takeP (p : Pl) (a : Nam) : Int × Pl := match shAt p a.s with
  | none => (1, p)
  | some s => match ixIn s a.i with
    | none => (1, p)
    | some x => ((takeS' s x a.i a.g).1, plPut p a.s.toNat (takeS' s x a.i a.g).2)
def freeS (s : Sh) (x : Ix) (i g : Int) : Int × Sh :=
  bif decide (g < 0) then (1, s) else
  bif !aliveI x g then (9, s) else
  (0, ⟨s.all.set i.toNat ⟨x.g + 1, x.b, false⟩, bif decide (x.g + 1 < 1048576) then s.free ++ [i.toNat] else s.free⟩)
def freeP (p : Pl) (a : Nam) : Int × Pl := match shAt p a.s with
  | none => (1, p)
  | some s => match ixIn s a.i with
    | none => (1, p)
    | some x => ((freeS s x a.i a.g).1, plPut p a.s.toNat (freeS s x a.i a.g).2)
/-- what is set aside is given up -/
def ixUp (x : Ix) : Ix := bif decide (x.g < x.b) then ⟨x.b, x.b, x.a⟩ else x
def lapseAll (A : List Ix) (l : List Nat) : List Ix := l.foldl (fun A i => A.modify i ixUp) A
def full (A : List Ix) (i : Nat) : Bool := match A[i]? with | some x => decide (x.g = 1048576) | none => false
def lapseS (s : Sh) : Sh := ⟨lapseAll s.all s.free, s.free.filter (fun i => !full (lapseAll s.all s.free) i)⟩
def lapseP (p : Pl) : Pl := p.map lapseS
/-! ### what stays so -/
structure Ix.ok (x : Ix) : Prop where
  g0 : 0 ≤ x.g
  g1 : x.g ≤ 1048576
  b0 : 0 ≤ x.b
  b1 : x.b ≤ 1048576
  al : x.a = true → x.g < 1048576
structure Sh.ok (s : Sh) : Prop where
  ix : ∀ x ∈ s.all, x.ok
  n0 : 1 ≤ s.all.length
  n1 : s.all.length ≤ 16
  nd : s.free.Nodup
  fr : ∀ i ∈ s.free, ∃ x, s.all[i]? = some x ∧ x.a = false ∧ x.g < 1048576
def plOk (p : Pl) : Prop := p.length ≤ 16 ∧ ∀ s ∈ p, s.ok
theorem nodup_le : ∀ (n : Nat) (l : List Nat), l.Nodup → (∀ i ∈ l, i < n) → l.length ≤ n
  | 0, l, _, h => by
    cases l with
    | nil => exact Nat.le_refl _
    | cons i l => exact absurd (h i (List.mem_cons_self ..)) (Nat.not_lt_zero _)
  | n + 1, l, hn, h => by
    have h1 := nodup_le n (l.erase n) (hn.erase n) fun i hi => by
      have h2 := h i (List.mem_of_mem_erase hi)
      have h3 : i ≠ n := by
        rintro rfl
        exact (hn.not_mem_erase) hi
      omega
    have h4 := List.length_erase_le (a := n) (l := l)
    by_cases hm : n ∈ l
    · have := List.length_erase_of_mem hm
      omega
    · rw [List.erase_of_not_mem hm] at h1
      omega
theorem Sh.ok.few {s : Sh} (h : s.ok) : s.free.length ≤ 16 := by
  have h1 : s.free.length ≤ s.all.length := by
    refine nodup_le _ _ h.nd fun i hi => ?_
    obtain ⟨x, hx, _⟩ := h.fr i hi
    exact (List.getElem?_eq_some_iff.1 hx).1
  exact Nat.le_trans h1 h.n1
theorem shAt_some {p : Pl} {k : Int} {s : Sh} (h : shAt p k = some s) : ∃ n : Nat, k = n ∧ p[n]? = some s := by
  unfold shAt at h
  cases hb : decide (0 ≤ k) && decide (k < (p.length : Int)) with
  | false => rw [hb] at h; cases h
  | true =>
    rw [hb, cond_true] at h
    simp only [Bool.and_eq_true, decide_eq_true_eq] at hb
    exact ⟨k.toNat, by omega, h⟩
theorem shAt_none {p : Pl} {k : Int} (h : shAt p k = none) : k < 0 ∨ (p.length : Int) ≤ k := by
  unfold shAt at h
  cases hb : decide (0 ≤ k) && decide (k < (p.length : Int)) with
  | false =>
    simp only [Bool.and_eq_false_iff, decide_eq_false_iff_not] at hb
    omega
  | true =>
    rw [hb, cond_true] at h
    simp only [Bool.and_eq_true, decide_eq_true_eq] at hb
    rw [List.getElem?_eq_none_iff] at h
    omega
theorem ixIn_some {s : Sh} {i : Int} {x : Ix} (h : ixIn s i = some x) : ∃ n : Nat, i = n ∧ s.all[n]? = some x := by
  unfold ixIn at h
  cases hb : decide (0 ≤ i) && decide (i < (s.all.length : Int)) with
  | false => rw [hb] at h; cases h
  | true =>
    rw [hb, cond_true] at h
    simp only [Bool.and_eq_true, decide_eq_true_eq] at hb
    exact ⟨i.toNat, by omega, h⟩
theorem ixIn_none {s : Sh} {i : Int} (h : ixIn s i = none) : i < 0 ∨ (s.all.length : Int) ≤ i := by
  unfold ixIn at h
  cases hb : decide (0 ≤ i) && decide (i < (s.all.length : Int)) with
  | false =>
    simp only [Bool.and_eq_false_iff, decide_eq_false_iff_not] at hb
    omega
  | true =>
    rw [hb, cond_true] at h
    simp only [Bool.and_eq_true, decide_eq_true_eq] at hb
    rw [List.getElem?_eq_none_iff] at h
    omega
theorem shAt_nat {p : Pl} {n : Nat} {s : Sh} (h : p[n]? = some s) : shAt p (n : Int) = some s := by
  have hlt := (List.getElem?_eq_some_iff.1 h).1
  unfold shAt
  rw [show (decide (0 ≤ (n : Int)) && decide ((n : Int) < (p.length : Int))) = true by simp; omega, cond_true]
  simpa using h
theorem ixIn_nat {s : Sh} {n : Nat} {x : Ix} (h : s.all[n]? = some x) : ixIn s (n : Int) = some x := by
  have hlt := (List.getElem?_eq_some_iff.1 h).1
  unfold ixIn
  rw [show (decide (0 ≤ (n : Int)) && decide ((n : Int) < (s.all.length : Int))) = true by simp; omega, cond_true]
  simpa using h
theorem plOk.sh {p : Pl} (h : plOk p) {n : Nat} {s : Sh} (hs : p[n]? = some s) : s.ok := h.2 s (List.mem_of_getElem? hs)
theorem Sh.ok.at {s : Sh} (h : s.ok) {n : Nat} {x : Ix} (hx : s.all[n]? = some x) : x.ok := h.ix x (List.mem_of_getElem? hx)
theorem plOk.put {p : Pl} (h : plOk p) (n : Nat) {s : Sh} (hs : s.ok) : plOk (plPut p n s) := by
  refine ⟨by rw [plPut, List.length_set]; exact h.1, fun t ht => ?_⟩
  rcases List.mem_or_eq_of_mem_set ht with h1 | h1
  · exact h.2 t h1
  · rw [h1]; exact hs
theorem Sh.ok.put {s : Sh} (h : s.ok) (n : Nat) {x : Ix} (hx : x.ok) {y : Ix} (hy : s.all[n]? = some y) (ha : x.a = y.a) (hg : x.g = y.g) : (s.put n x).ok := by
  have hlt := (List.getElem?_eq_some_iff.1 hy).1
  refine ⟨fun t ht => ?_, by simp [Sh.put]; exact h.n0, by simp [Sh.put]; exact h.n1, h.nd, fun i hi => ?_⟩
  · rcases List.mem_or_eq_of_mem_set ht with h1 | h1
    · exact h.ix t h1
    · rw [h1]; exact hx
  · obtain ⟨z, hz, hza, hzg⟩ := h.fr i hi
    by_cases hin : i = n
    · subst hin
      refine ⟨x, by simp [Sh.put, hlt], ?_⟩
      rw [hy] at hz
      cases hz
      rw [ha, hg]; exact ⟨hza, hzg⟩
    · exact ⟨z, by simp [Sh.put, Ne.symm hin]; exact hz, hza, hzg⟩
theorem plOk_new {n ids : Nat} (hn : n ≤ 16) (h0 : 1 ≤ ids) (h1 : ids ≤ 16) : plOk (plNew n ids) := by
  refine ⟨by simp [plNew]; exact hn, fun s hs => ?_⟩
  rw [plNew, List.mem_replicate] at hs
  rw [hs.2]
  refine ⟨fun x hx => ?_, by simp; exact h0, by simp; exact h1, List.nodup_range, fun i hi => ?_⟩
  · rw [List.mem_replicate] at hx
    rw [hx.2]
    exact ⟨by simp, by simp, by simp, by simp, fun h => by cases h⟩
  · refine ⟨⟨0, 0, false⟩, ?_, rfl, by decide⟩
    have := List.mem_range.1 hi
    simp [this]
theorem plOk.reserve {p : Pl} (h : plOk p) (k i : Int) : plOk (reserveP p k i).2 := by
  unfold reserveP
  split
  · exact h
  · rename_i s hs
    split
    · exact h
    · rename_i x hx
      cases hb : decide (x.b = 1048576)
      · obtain ⟨n, rfl, hn⟩ := shAt_some hs
        obtain ⟨m, rfl, hm⟩ := ixIn_some hx
        have hx2 := (h.sh hn).at hm
        exact h.put _ ((h.sh hn).put _ ⟨hx2.g0, hx2.g1, by have := hx2.b0; simp only; omega, by simp only; omega, hx2.al⟩ (y := x) (by simpa using hm) rfl rfl)
      · exact h
theorem plOk.take {p : Pl} (h : plOk p) (a : Nam) : plOk (takeP p a).2 := by
  unfold takeP
  split
  · exact h
  · rename_i s hs
    split
    · exact h
    · rename_i x hx
      obtain ⟨n, hn0, hn⟩ := shAt_some hs
      obtain ⟨m, hm0, hm⟩ := ixIn_some hx
      have ok := h.sh hn
      have hx2 := ok.at hm
      refine h.put _ ?_
      unfold takeS'
      cases h1 : decide (a.g < 0)
      · cases h2 : !freeHas s a.i
        · cases h3 : decide (a.g < x.g) || decide (x.b ≤ a.g)
          · simp only [cond_false]
            simp only [Bool.or_eq_false_iff, decide_eq_false_iff_not] at h3
            simp only [decide_eq_false_iff_not] at h1
            have hlt := (List.getElem?_eq_some_iff.1 hm).1
            refine ⟨fun t ht => ?_, by simpa using ok.n0, by simpa using ok.n1, ok.nd.filter _, fun i hi => ?_⟩
            · rcases List.mem_or_eq_of_mem_set ht with h4 | h4
              · exact ok.ix t h4
              · rw [h4]
                have := hx2.b1
                exact ⟨by simp only; omega, by simp only; omega, hx2.b0, hx2.b1, fun _ => by simp only; omega⟩
            · simp only [freeNot, List.mem_filter, Bool.not_eq_true', decide_eq_false_iff_not] at hi
              obtain ⟨z, hz, hza, hzg⟩ := ok.fr i hi.1
              refine ⟨z, ?_, hza, hzg⟩
              rw [List.getElem?_set, if_neg (by omega)]
              exact hz
          · exact ok
        · exact ok
      · exact ok
theorem plOk.free {p : Pl} (h : plOk p) (a : Nam) : plOk (freeP p a).2 := by
  unfold freeP
  split
  · exact h
  · rename_i s hs
    split
    · exact h
    · rename_i x hx
      obtain ⟨n, hn0, hn⟩ := shAt_some hs
      obtain ⟨m, hm0, hm⟩ := ixIn_some hx
      have ok := h.sh hn
      have hx2 := ok.at hm
      refine h.put _ ?_
      unfold freeS
      cases h1 : decide (a.g < 0)
      · cases h2 : !aliveI x a.g
        · simp only [cond_false]
          simp only [aliveI, Bool.not_eq_false', Bool.and_eq_true, decide_eq_true_eq] at h2
          have hlt := (List.getElem?_eq_some_iff.1 hm).1
          have hal := hx2.al h2.1
          have hmm : a.i.toNat = m := by omega
          have hnf : m ∉ s.free := fun hmem => by
            obtain ⟨z, hz, hza, _⟩ := ok.fr m hmem
            rw [hm] at hz
            cases hz
            rw [h2.1] at hza
            cases hza
          have hfr : ∀ i ∈ s.free, ∃ y, (s.all.set a.i.toNat ⟨x.g + 1, x.b, false⟩)[i]? = some y ∧ y.a = false ∧ y.g < 1048576 := fun i hi => by
            obtain ⟨z, hz, hza, hzg⟩ := ok.fr i hi
            refine ⟨z, ?_, hza, hzg⟩
            rw [List.getElem?_set, if_neg (by rintro rfl; exact hnf (hmm ▸ hi))]
            exact hz
          refine ⟨fun t ht => ?_, by simpa using ok.n0, by simpa using ok.n1, ?_, ?_⟩
          · rcases List.mem_or_eq_of_mem_set ht with h4 | h4
            · exact ok.ix t h4
            · rw [h4]
              have := hx2.g0
              exact ⟨by simp only; omega, by simp only; omega, hx2.b0, hx2.b1, fun h => by cases h⟩
          · cases hc : decide (x.g + 1 < 1048576)
            · exact ok.nd
            · simp only [cond_true]
              rw [List.nodup_append]
              refine ⟨ok.nd, by simp, fun i hi j hj => ?_⟩
              simp only [List.mem_singleton] at hj
              rintro rfl
              exact hnf (by rw [← hmm, ← hj]; exact hi)
          · cases hc : decide (x.g + 1 < 1048576)
            · exact hfr
            · simp only [cond_true]
              intro i hi
              rcases List.mem_append.1 hi with hi | hi
              · exact hfr i hi
              · simp only [List.mem_singleton] at hi
                subst hi
                exact ⟨⟨x.g + 1, x.b, false⟩, by simp [hmm, hlt], rfl, by simpa using hc⟩
        · exact ok
      · exact ok
theorem ixUp_ok {x : Ix} (h : x.ok) (ha : x.a = false) : (ixUp x).ok := by
  unfold ixUp
  cases hb : decide (x.g < x.b)
  · exact h
  · exact ⟨h.b0, h.b1, h.b0, h.b1, fun h2 => by simp only [cond_true] at h2; rw [ha] at h2; cases h2⟩
theorem ixUp_a (x : Ix) : (ixUp x).a = x.a := by
  unfold ixUp
  cases decide (x.g < x.b) <;> rfl
theorem lapseAll_length : ∀ (l : List Nat) (A : List Ix), (lapseAll A l).length = A.length
  | [], _ => rfl
  | i :: l, A => by
    show (lapseAll (A.modify i ixUp) l).length = A.length
    rw [lapseAll_length l, List.length_modify]
theorem lapseAll_get : ∀ (l : List Nat) (A : List Ix) (i : Nat) (x : Ix), A[i]? = some x → ∃ y, (lapseAll A l)[i]? = some y ∧ y.a = x.a
  | [], _, _, x, h => ⟨x, h, rfl⟩
  | j :: l, A, i, x, h => by
    by_cases hij : j = i
    · obtain ⟨y, hy, hya⟩ := lapseAll_get l (A.modify j ixUp) i (ixUp x) (by simp [hij, h])
      exact ⟨y, hy, by rw [hya, ixUp_a]⟩
    · exact lapseAll_get l (A.modify j ixUp) i x (by simp [hij, h])
theorem lapseAll_at : ∀ (l : List Nat) (A : List Ix) (i : Nat), l.Nodup → (lapseAll A l)[i]? = A[i]?.map (fun x => bif decide (i ∈ l) then ixUp x else x)
  | [], A, i, _ => by simp [lapseAll]
  | j :: l, A, i, hn => by
    rw [List.nodup_cons] at hn
    show (lapseAll (A.modify j ixUp) l)[i]? = _
    rw [lapseAll_at l _ i hn.2, List.getElem?_modify]
    by_cases hij : j = i
    · subst hij
      rw [decide_eq_false hn.1, decide_eq_true (List.mem_cons_self ..)]
      cases A[j]? <;> simp
    · by_cases hl : i ∈ l
      · rw [decide_eq_true hl, decide_eq_true (List.mem_cons_of_mem _ hl)]
        cases A[i]? <;> simp [hij]
      · rw [decide_eq_false hl, decide_eq_false (by simp [hl, Ne.symm hij])]
        cases A[i]? <;> simp [hij]
theorem lapseAll_ok : ∀ (l : List Nat) (A : List Ix), (∀ x ∈ A, x.ok) → (∀ i ∈ l, ∃ x, A[i]? = some x ∧ x.a = false) → ∀ x ∈ lapseAll A l, x.ok
  | [], _, h, _ => h
  | j :: l, A, h, hl => by
    refine lapseAll_ok l (A.modify j ixUp) (fun x hx => ?_) (fun i hi => ?_)
    · obtain ⟨i, hi, rfl⟩ := List.getElem_of_mem hx
      rw [List.length_modify] at hi
      by_cases hij : j = i
      · subst hij
        obtain ⟨y, hy, hya⟩ := hl j (List.mem_cons_self ..)
        rw [List.getElem_modify, if_pos rfl]
        have := (List.getElem?_eq_some_iff.1 hy).2
        rw [this]
        exact ixUp_ok (h y (List.mem_of_getElem? hy)) hya
      · rw [List.getElem_modify, if_neg hij]
        exact h _ (List.getElem_mem hi)
    · obtain ⟨y, hy, hya⟩ := hl i (List.mem_cons_of_mem _ hi)
      by_cases hij : j = i
      · exact ⟨ixUp y, by simp [hij, hy], by rw [ixUp_a, hya]⟩
      · exact ⟨y, by simp [hij, hy], hya⟩
theorem Sh.ok.lapse {s : Sh} (h : s.ok) : (lapseS s).ok := by
  refine ⟨lapseAll_ok _ _ h.ix (fun i hi => by obtain ⟨x, hx, hxa, _⟩ := h.fr i hi; exact ⟨x, hx, hxa⟩), by rw [lapseS, lapseAll_length]; exact h.n0, by rw [lapseS, lapseAll_length]; exact h.n1, h.nd.filter _, fun i hi => ?_⟩
  simp only [lapseS, List.mem_filter] at hi
  obtain ⟨x, hx, hxa, _⟩ := h.fr i hi.1
  obtain ⟨y, hy, hya⟩ := lapseAll_get s.free s.all i x hx
  refine ⟨y, hy, by rw [hya, hxa], ?_⟩
  have hfull := hi.2
  unfold full at hfull
  rw [hy] at hfull
  simp only [Bool.not_eq_true', decide_eq_false_iff_not] at hfull
  have := (lapseAll_ok s.free s.all h.ix (fun i hi => by obtain ⟨x, hx, hxa, _⟩ := h.fr i hi; exact ⟨x, hx, hxa⟩) y (List.mem_of_getElem? hy)).g1
  omega
theorem plOk.lapse {p : Pl} (h : plOk p) : plOk (lapseP p) := by
  refine ⟨by rw [lapseP, List.length_map]; exact h.1, fun s hs => ?_⟩
  obtain ⟨t, ht, rfl⟩ := List.mem_map.1 hs
  exact (h.2 t ht).lapse
end Go.Proofs.YtpbpgjfdledgoaaGreatDoor
