/-
  A segment with a byte that is another one, as plain data: what is read of it, and of the log. No conditions of its own.
-/
import Derived.Test.YtghamhipcpgofaaGreatDoorWbB
namespace Go.Proofs.YtghamhipcpgofaaGreatDoor
open Go.RowKit

theorem frames_split (R : List Nm) (j : Nat) (t : Nm) (ht : R[j]? = some t) : frames R = frames (R.take j) ++ (frameL t ++ frames (R.drop (j + 1))) := by
  obtain ⟨hlt, he⟩ := List.getElem?_eq_some_iff.1 ht
  conv => lhs; rw [← List.take_append_drop j R, List.drop_eq_getElem_cons hlt, he]
  rw [frames_append, frames_cons]
theorem set_mid {α : Type} (A : List α) (a : List α) (x y : α) (b : List α) (P : Nat) (hP : P = A.length + a.length) : (A ++ (a ++ x :: b)).set P y = A ++ (a ++ y :: b) := by
  subst hP
  rw [List.set_append_right _ _ (by omega), Nat.add_sub_cancel_left, List.set_append_right _ _ (by omega), Nat.sub_self]
  rfl
theorem torn_parse (R : List Nm) (j : Nat) (t : Nm) (ht : R[j]? = some t) (hrl : ∀ t ∈ R, t.length ≤ 65536) (m : Nat) (hm : m < t.length + 4) (P : Nat) (hP : P = flen (R.take j) + 3 + m) (y : UInt8)
    (hy : ∀ x, (frames R)[P]? = some x → x ≠ y) : parse ((frames R).set P y) = R.take j ∧ flen (R.take j) < (frames R).length ∧ P < (frames R).length := by
  have hs := frames_split R j t ht
  have hl := frameL_length t
  have hP2 : P = (frames (R.take j)).length + (3 + m) := by rw [frames_length]; omega
  have hlt : P < (frames R).length := by rw [hs, List.length_append, List.length_append, hl]; omega
  obtain ⟨x, hx⟩ : ∃ x, (frameL t)[3 + m]? = some x := ⟨_, List.getElem?_eq_getElem (by omega)⟩
  obtain ⟨hlt2, he2⟩ := List.getElem?_eq_some_iff.1 hx
  have hsp : frameL t = (frameL t).take (3 + m) ++ x :: (frameL t).drop (3 + m + 1) := by
    rw [← he2, ← List.drop_eq_getElem_cons hlt2, List.take_append_drop]
  obtain ⟨a, ha⟩ : ∃ a, a = (frameL t).take (3 + m) := ⟨_, rfl⟩
  obtain ⟨b, hb⟩ : ∃ b, b = (frameL t).drop (3 + m + 1) := ⟨_, rfl⟩
  rw [← ha, ← hb] at hsp
  have hal : a.length = 3 + m := by rw [ha, List.length_take]; omega
  have hxP : (frames R)[P]? = some x := by
    rw [hs, hP2, List.getElem?_append_right (by omega), Nat.add_sub_cancel_left, List.getElem?_append_left (by omega), hx]
  refine ⟨?_, by rw [← frames_length]; rw [hs, List.length_append, List.length_append, hl]; omega, hlt⟩
  rw [hs, hsp, List.append_assoc, List.cons_append, set_mid _ a x y _ P (by omega)]
  have hr := firstF_turned t a b (frames (R.drop (j + 1))) x y (hrl t (List.mem_of_getElem? ht)) hsp (by omega) (hy x hxP)
  rw [parse_frames _ _ (fun u hu => hrl u (List.mem_of_mem_take hu))]
  rw [List.append_assoc, List.cons_append] at hr
  rw [parse_none hr, List.append_nil]

/-- THE DISK OF A LOG ONE OF WHOSE SEGMENTS HAS OTHER BYTES. -/
structure Torn (nm : ByteArray) (X : List Sg) (s : Sg) (Y : List Sg) (U : ByteArray) (d : Ds) : Prop where
  fs : d.fs = X.map (Sg.file nm) ++ (segNm nm.data.toList s.first, ⟨U, 0⟩) :: Y.map (Sg.file nm)
  dead : d.dead = false
  up : (X ++ s :: Y).Pairwise fun a b => a.first < b.first
  lt8 : ∀ x ∈ X ++ s :: Y, x.first < 100000000
  nm1 : 1 ≤ nm.size
  nm2 : nm.size ≤ 16
  rl : ∀ x ∈ X, ∀ t ∈ x.recs, t.length ≤ 65536
  k : ∀ x ∈ X, x.k ≤ flen x.recs
  link : Linked (X ++ s :: Y)
section
variable {nm : ByteArray} {A X Y : List Sg} {s z : Sg} {g : Lg} {d : Ds} {U : ByteArray}
def otherFile (nm : ByteArray) (s : Sg) (f : Fi) : Nm × Fi := (segNm nm.data.toList s.first, f)
theorem rising_other (nm : ByteArray) (f : Fi) (up : (X ++ s :: Y).Pairwise fun a b => a.first < b.first) (h8 : ∀ x ∈ X ++ s :: Y, x.first < 100000000) :
    Rising (X.map (Sg.file nm) ++ (segNm nm.data.toList s.first, f) :: Y.map (Sg.file nm)) := by
  have h := rising_of nm up h8
  rw [List.map_append, List.map_cons] at h
  unfold Rising at h ⊢
  rw [List.pairwise_append, List.pairwise_cons] at h ⊢
  obtain ⟨h1, ⟨h2, h3⟩, h4⟩ := h
  refine ⟨h1, ⟨fun a ha => h2 a ha, h3⟩, fun a ha b hb => ?_⟩
  rcases List.mem_cons.1 hb with rfl | hb
  · exact h4 a ha (Sg.file nm s) (by simp)
  · exact h4 a ha b (List.mem_cons_of_mem _ hb)
theorem Torn.rising (h : Torn nm X s Y U d) : Rising d.fs := by rw [h.fs]; exact rising_other nm _ h.up h.lt8
theorem Torn.find (h : Torn nm X s Y U d) : findE d.fs (fileNm nm s.first) = (⟨U, 0⟩, 0) := by
  have h8 := h.lt8 s (by simp)
  refine find_at (by rw [fileNm_size _ h8]; omega) (by rw [fileNm_size _ h8]; have := h.nm2; omega) ?_
  have hr := h.rising
  rw [h.fs] at hr ⊢
  exact getF_mid hr
theorem Torn.findX (h : Torn nm X s Y U d) {X1 X2 : List Sg} {x : Sg} (hX : X = X1 ++ x :: X2) : findE d.fs (fileNm nm x.first) = (⟨bts x.recs, x.k⟩, 0) := by
  have h8 := h.lt8 x (by rw [hX]; simp)
  refine find_at (by rw [fileNm_size _ h8]; omega) (by rw [fileNm_size _ h8]; have := h.nm2; omega) ?_
  have hr := h.rising
  rw [h.fs, hX, List.map_append, List.map_cons, List.append_assoc, List.cons_append] at hr ⊢
  exact getF_mid hr
theorem Torn.truncX (h : Torn nm X s Y U d) {X1 X2 : List Sg} {x : Sg} (hX : X = X1 ++ x :: X2) : (d.truncate (fileNm nm x.first) (flen x.recs)).2 = d := by
  have hk : x.k ≤ flen x.recs := h.k x (by rw [hX]; simp)
  have hop : openE d.fs d.dead (fileNm nm x.first) = (⟨bts x.recs, x.k⟩, 0) := by
    unfold openE
    rw [h.dead, Bool.and_false, cond_false, h.findX hX]
  unfold Ds.truncate
  rw [hop]
  dsimp only
  rw [bts_size, decide_eq_false (by omega : ¬ ((flen x.recs : Int) < 0)), decide_eq_false (by omega : ¬ ((flen x.recs : Int) < (flen x.recs : Int)))]
  have hx : (bts x.recs).extract 0 (flen x.recs) = bts x.recs := by
    rw [← bts_size]
    apply ByteArray.ext
    rw [ByteArray.data_extract]
    exact Array.extract_size
  have hm : min x.k (flen x.recs) = x.k := Nat.min_eq_left hk
  have hp : putF d.fs (fileNm nm x.first).data.toList ⟨bts x.recs, x.k⟩ = d.fs := by
    have hr := h.rising
    rw [h.fs, hX, List.map_append, List.map_cons, List.append_assoc, List.cons_append] at hr ⊢
    exact putF_same hr
  show (bif (0 : Int) == 0 then (bif false || false then (5, d) else (0, d.with (putF d.fs (fileNm nm x.first).data.toList ⟨(bts x.recs).extract 0 ((flen x.recs : Int)).toNat, min x.k ((flen x.recs : Int)).toNat⟩))) else (0, d)).2 = d
  rw [Int.toNat_natCast, hx, hm, hp]
  rfl
theorem Torn.runX (h : Torn nm X s Y U d) : ∀ (X2 X1 : List Sg) (n : Nat), X = X1 ++ X2 → (X2 ++ [s]).head?.map Sg.first = some n →
    (X2.map Sg.first).foldl (opStep nm) ⟨true, X1.map Sg.first, n, recsOf X1, d⟩ = ⟨true, X.map Sg.first, s.first, recsOf X, d⟩
  | [], X1, n, hX, hn => by
    have hn : s.first = n := by simpa using hn
    rw [List.append_nil] at hX
    rw [hX, hn]
    rfl
  | x :: X2, X1, n, hX, hn => by
    have hn : x.first = n := by simpa using hn
    have hlk : d.look (fileNm nm x.first) = ⟨bts x.recs, x.k⟩ := by unfold Ds.look; rw [h.findX hX]
    have hstep : opStep nm ⟨true, X1.map Sg.first, n, recsOf X1, d⟩ x.first = ⟨true, (X1 ++ [x]).map Sg.first, x.next, recsOf (X1 ++ [x]), d⟩ := by
      unfold opStep OpSt.recs
      dsimp only
      rw [hlk, bts_list, parse_all _ (h.rl x (by rw [hX]; simp)), bts_size, h.truncX hX, decide_eq_true hn, decide_eq_true rfl, ← hn]
      simp [recsOf, Sg.next]
    rw [List.map_cons, List.foldl_cons, hstep]
    refine h.runX X2 (X1 ++ [x]) x.next (by rw [hX]; simp) ?_
    have hl := h.link
    rw [hX, List.append_assoc] at hl
    have hl := linked_tail hl
    cases X2 with
    | nil => simpa using hl.1.symm
    | cons b X2 => simpa using hl.1.symm
theorem run_false : ∀ (F : List Nat) (f : List Nat) (n : Nat) (o : List Nm) (d : Ds), F.foldl (opStep nm) ⟨false, f, n, o, d⟩ = ⟨false, f, n, o, d⟩
  | [], _, _, _, _ => rfl
  | a :: F, f, n, o, d => by rw [List.foldl_cons]; exact run_false F f n o d
theorem Torn.there (h : Torn nm X s Y U d) : opThere d nm = (0, (X ++ s :: Y).map Sg.first, d) := by
  have hs : segsOf nm.data.toList (namesOf d.fs) = (X ++ s :: Y).map Sg.first := by
    have hn : namesOf d.fs = (X ++ s :: Y).map fun x => segNm nm.data.toList x.first := by
      unfold namesOf
      rw [h.fs]
      simp [Sg.file, Function.comp_def]
    unfold segsOf
    rw [hn]
    have h8 := h.lt8
    generalize X ++ s :: Y = S at h8
    induction S with
    | nil => rfl
    | cons x S ih =>
      rw [List.map_cons, List.filterMap_cons, segOf_segNm _ (h8 x (by simp)), ih (fun y hy => h8 y (by simp [hy]))]
      rfl
  unfold opThere
  rw [hs]
  have : ((X ++ s :: Y).map Sg.first).isEmpty = false := by cases X <;> rfl
  rw [this, cond_false]
/-- WHAT IS OPENED: the segments up to the torn one, of it what stands ahead. -/
theorem Torn.opened (h : Torn nm X s Y U d) (R : List Nm) (hp : parse U.data.toList = R) (hl : flen R < U.size) :
    ∃ d', opEnd nm ((X ++ s :: Y).map Sg.first) (opRun nm ((X ++ s :: Y).map Sg.first) d) = (⟨nm, (X ++ [s]).map Sg.first, s.first + R.length⟩, recsOf X ++ R, d') := by
  have hlk : d.look (fileNm nm s.first) = ⟨U, 0⟩ := by unfold Ds.look; rw [h.find]
  have hhd : ((X ++ s :: Y).map Sg.first).headD 0 = ((X ++ [s]).head?.map Sg.first).getD 0 := by cases X <;> simp
  have hrun : ∃ d', opRun nm ((X ++ s :: Y).map Sg.first) d = ⟨false, (X ++ [s]).map Sg.first, s.first + R.length, recsOf X ++ R, d'⟩ := by
    unfold opRun
    rw [List.map_append, List.foldl_append, ← List.map_append]
    obtain ⟨n, hn⟩ : ∃ n, (X ++ [s]).head?.map Sg.first = some n := by cases X <;> simp
    rw [hhd, hn]
    have := h.runX X [] n rfl hn
    simp only [List.map_nil, recsOf, List.flatMap_nil, Option.getD_some] at this ⊢
    rw [this, List.map_cons, List.foldl_cons]
    have hstep : opStep nm ⟨true, X.map Sg.first, s.first, List.flatMap Sg.recs X, d⟩ s.first = ⟨false, (X ++ [s]).map Sg.first, s.first + R.length, List.flatMap Sg.recs X ++ R, (d.truncate (fileNm nm s.first) (flen R)).2⟩ := by
      unfold opStep OpSt.recs
      dsimp only
      rw [hlk, hp, decide_eq_true rfl, decide_eq_false (by show ¬ flen R = U.size; omega)]
      simp
    rw [hstep, run_false]
    exact ⟨_, rfl⟩
  obtain ⟨d', hd⟩ := hrun
  unfold opEnd
  rw [hd]
  exact ⟨_, rfl⟩
/-- a segment's bytes are struck, and others written -/
theorem torn_trunc (h : Good nm A z g d) (hs : A ++ [z] = X ++ s :: Y) : d.truncate (fileNm nm s.first) 0 = (0, d.with (X.map (Sg.file nm) ++ (segNm nm.data.toList s.first, ⟨⟨#[]⟩, 0⟩) :: Y.map (Sg.file nm))) := by
  unfold Ds.truncate
  rw [h.open hs]
  dsimp only
  have hr := h.rising
  rw [h.fs, hs, List.map_append, List.map_cons] at hr
  have hp : ∀ f, putF d.fs (fileNm nm s.first).data.toList f = X.map (Sg.file nm) ++ (segNm nm.data.toList s.first, f) :: Y.map (Sg.file nm) := fun f => by
    rw [h.fs, hs, List.map_append, List.map_cons]
    exact putF_mid (n := segNm nm.data.toList s.first) hr
  have hx : (bts s.recs).extract 0 0 = ⟨#[]⟩ := by apply ByteArray.ext; simp
  have h1 : decide (((bts s.recs).size : Int) < 0) = false := decide_eq_false (by omega)
  have h2 : decide ((0 : Int) < 0) = false := rfl
  rw [h1, h2, hp]
  show (0, d.with (X.map (Sg.file nm) ++ (segNm nm.data.toList s.first, ⟨(bts s.recs).extract 0 0, min s.k 0⟩) :: Y.map (Sg.file nm))) = _
  rw [hx, Nat.min_zero]
theorem torn_append (h : Good nm A z g d) (hs : A ++ [z] = X ++ s :: Y) (U : ByteArray) (hU : U.size ≤ 100000) :
    ∃ d4, (d.with (X.map (Sg.file nm) ++ (segNm nm.data.toList s.first, ⟨⟨#[]⟩, 0⟩) :: Y.map (Sg.file nm))).append (fileNm nm s.first) U = (0, d4) ∧ Torn nm X s Y U d4 := by
  have up := h.up
  have lt8 := h.lt8
  have lk := h.link
  rw [hs] at up lt8 lk
  have hk : ∀ x ∈ A ++ [z], x.k ≤ flen x.recs := fun x hx => by
    rcases List.mem_append.1 hx with hx | hx
    · rw [(h.full x hx).2.2]; exact Nat.le_refl _
    · rw [List.mem_singleton.1 hx]; exact h.zk
  have h8 := lt8 s (by simp)
  have hr := fun f => rising_other (X := X) (Y := Y) (s := s) nm f up lt8
  have hmem : ∀ x ∈ X, x ∈ A ++ [z] := fun x hx => by rw [hs]; simp [hx]
  have hop : openE (X.map (Sg.file nm) ++ (segNm nm.data.toList s.first, (⟨⟨#[]⟩, 0⟩ : Fi)) :: Y.map (Sg.file nm)) d.dead (fileNm nm s.first) = (⟨⟨#[]⟩, 0⟩, 0) := by
    unfold openE
    rw [h.dead, Bool.and_false, cond_false]
    exact find_at (by rw [fileNm_size _ h8]; omega) (by rw [fileNm_size _ h8]; have := h.nm2; omega) (getF_mid (hr _))
  have hroom := h.room
  have hlim := h.lim
  unfold Ds.append Ds.with
  dsimp only
  rw [hop]
  dsimp only
  have h1 : decide ((4194304 : Nat) < (⟨#[]⟩ : ByteArray).size + U.size) = false := decide_eq_false (by have : (⟨#[]⟩ : ByteArray).size = 0 := rfl; omega)
  have h2 : decide ((U.size : Int) ≤ d.room) = true := decide_eq_true (by omega)
  have hp : ∀ f, putF (X.map (Sg.file nm) ++ (segNm nm.data.toList s.first, (⟨⟨#[]⟩, 0⟩ : Fi)) :: Y.map (Sg.file nm)) (fileNm nm s.first).data.toList f = X.map (Sg.file nm) ++ (segNm nm.data.toList s.first, f) :: Y.map (Sg.file nm) := fun f => putF_mid (n := segNm nm.data.toList s.first) (hr _)
  have hw : withS ⟨⟨#[]⟩, 0⟩ U = ⟨U, 0⟩ := by
    have : (⟨#[]⟩ : ByteArray) ++ U = U := by apply ByteArray.ext; simp [ByteArray.data_append]
    show (⟨_, 0⟩ : Fi) = _
    rw [this]
  rw [h1, h2, hp, hw]
  exact ⟨_, rfl, rfl, rfl, up, lt8, h.nm1, h.nm2, fun x hx => h.rl x (hmem x hx), fun x hx => hk x (hmem x hx), lk⟩
end
end Go.Proofs.YtghamhipcpgofaaGreatDoor
