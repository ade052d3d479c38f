/-
  The document's files beside the program's, as plain lists. No conditions of its own.
-/
import Derived.Test.YtdckdndjddflfaaDkT
import Derived.Test.YtdckdndjddflfaaDkP
namespace Go.Proofs.Ytdckdndjddflfaa
open Go.RowKit Go.WideShapes

/-- a file of the document's, as the program has it -/
def fiOf (r : Rf) : Fi := ⟨r.sure ++ r.loose, r.sure.size⟩
def nfOf (r : Rf) : Nm × Fi := (r.name.data.toList, fiOf r)
abbrev fsOf (L : List Rf) : Fs := L.map nfOf

theorem isRf_eq {n : ByteArray} {r : Rf} : isRf n r = true ↔ r.name = n := by
  unfold isRf
  rw [beq_iff_eq, ByteArray.toList_eq, ByteArray.toList_eq]
  exact ⟨bytes_of, fun h => by rw [h]⟩
theorem isRf_nm (n : ByteArray) (r : Rf) : isNm n.data.toList (nfOf r) = isRf n r := by
  unfold isNm isRf nfOf
  rw [ByteArray.toList_eq, ByteArray.toList_eq]

/-- WHERE A NAME STANDS: in both the same -/
theorem both_find (L : List Rf) (n : ByteArray) : (findE (fsOf L) n = (Fi.none, 1) ∧ atE L n = (0, 1)) ∨
    (findE (fsOf L) n = (Fi.none, 6) ∧ atE L n = (0, 6) ∧ getF (fsOf L) n.data.toList = none ∧ 1 ≤ n.size ∧ n.size ≤ 32) ∨
    ∃ A r B, L = A ++ r :: B ∧ r.name = n ∧ findE (fsOf L) n = (fiOf r, 0) ∧ atE L n = ((A.length : Int), 0) ∧ getF (fsOf L) n.data.toList = some (fiOf r) ∧ 1 ≤ n.size ∧ n.size ≤ 32 := by
  unfold findE atE
  cases h1 : decide ((n.size : Int) < 1)
  · cases h2 : decide ((32 : Int) < (n.size : Int))
    · have e1 := of_decide_eq_false h1
      have e2 := of_decide_eq_false h2
      simp only [cond_false]
      rcases firstOf_cases (isRf n) L with ⟨h, hall⟩ | ⟨k, h, hk, hp, hb⟩
      · refine .inr (.inl ?_)
        have hg : getF (fsOf L) n.data.toList = none := by
          unfold getF
          rw [List.find?_map, Option.map_map, Option.map_eq_none_iff, List.find?_eq_none]
          intro r hr
          show ¬ isNm n.data.toList (nfOf r) = true
          rw [isRf_nm, hall r hr]
          decide
        rw [hg, h]
        exact ⟨rfl, rfl, rfl, by omega, by omega⟩
      · refine .inr (.inr ⟨L.take k, L[k], L.drop (k + 1), ?_, isRf_eq.1 hp, ?_⟩)
        · rw [← List.drop_eq_getElem_cons hk, List.take_append_drop]
        · have hg : getF (fsOf L) n.data.toList = some (fiOf L[k]) := by
            unfold getF
            have e : fsOf L = fsOf (L.take k) ++ nfOf L[k] :: fsOf (L.drop (k + 1)) := by
              rw [← List.map_cons, ← List.map_append, ← List.drop_eq_getElem_cons hk, List.take_append_drop]
            rw [e, List.find?_append]
            have : (fsOf (L.take k)).find? (isNm n.data.toList) = none := by
              rw [List.find?_eq_none]
              intro x hx
              obtain ⟨r, hr, rfl⟩ := List.mem_map.1 hx
              rw [isRf_nm]
              obtain ⟨j, hj, rfl⟩ := List.getElem_of_mem hr
              rw [List.getElem_take, hb j (by simp at hj; omega) (by simp at hj; omega)]
              decide
            rw [this, List.find?_cons, isRf_nm, hp]
            rfl
          rw [hg, h, show ((k : Int) == -1) = false from beq_false_of_ne (by omega), List.length_take, Nat.min_eq_left (by omega)]
          exact ⟨rfl, rfl, rfl, by omega, by omega⟩
    · exact .inl ⟨rfl, rfl⟩
  · exact .inl ⟨rfl, rfl⟩

/-- .. of what is to be changed -/
theorem both_open (L : List Rf) (dead : Bool) (n : ByteArray) : (∃ ec, openE (fsOf L) dead n = (Fi.none, ec) ∧ openA L dead n = (0, ec) ∧ (ec = 1 ∨ ec = 12)) ∨
    (dead = false ∧ openE (fsOf L) dead n = (Fi.none, 6) ∧ openA L dead n = (0, 6) ∧ getF (fsOf L) n.data.toList = none ∧ 1 ≤ n.size ∧ n.size ≤ 32) ∨
    ∃ A r B, dead = false ∧ L = A ++ r :: B ∧ r.name = n ∧ openE (fsOf L) dead n = (fiOf r, 0) ∧ openA L dead n = ((A.length : Int), 0) ∧ getF (fsOf L) n.data.toList = some (fiOf r) ∧ 1 ≤ n.size ∧ n.size ≤ 32 := by
  unfold openE openA
  rcases both_find L n with ⟨h1, h2⟩ | ⟨h1, h2, hg, hn⟩ | ⟨A, r, B, hL, hr, h1, h2, hg, hn⟩
  · rw [h1, h2]
    exact .inl ⟨1, rfl, rfl, .inl rfl⟩
  · rw [h1, h2]
    cases dead
    · exact .inr (.inl ⟨rfl, rfl, rfl, hg, hn⟩)
    · exact .inl ⟨12, rfl, rfl, .inr rfl⟩
  · rw [h1, h2]
    cases dead
    · exact .inr (.inr ⟨A, r, B, rfl, hL, hr, rfl, rfl, hg, hn⟩)
    · exact .inl ⟨12, rfl, rfl, .inr rfl⟩

theorem fsOf_mid (A : List Rf) (r : Rf) (B : List Rf) : fsOf (A ++ r :: B) = fsOf A ++ (r.name.data.toList, fiOf r) :: fsOf B := by
  simp [fsOf, nfOf]
/-- a file is another one -/
theorem put_mid {A B : List Rf} {r x : Rf} (h : Rising (fsOf (A ++ r :: B))) (hx : x.name = r.name) : putF (fsOf (A ++ r :: B)) r.name.data.toList (fiOf x) = fsOf (A ++ x :: B) := by
  rw [fsOf_mid] at h ⊢
  rw [putF_mid h, fsOf_mid, hx]
/-- it is gone -/
theorem del_mid {A B : List Rf} {r : Rf} (h : Rising (fsOf (A ++ r :: B))) : delF (fsOf (A ++ r :: B)) r.name.data.toList = fsOf (A ++ B) := by
  rw [fsOf_mid] at h ⊢
  rw [delF_mid h]
  simp [fsOf]
/-- a new one -/
theorem put_new {L : List Rf} (h : Rising (fsOf L)) {n : ByteArray} (hg : getF (fsOf L) n.data.toList = none) : ∃ A B, L = A ++ B ∧ (∀ a ∈ A, bytesBefore a.name.data.toList n.data.toList = true) ∧ (∀ c ∈ B, bytesBefore c.name.data.toList n.data.toList = false) ∧
    ∀ x : Rf, x.name = n → putF (fsOf L) n.data.toList (fiOf x) = fsOf (A ++ x :: B) := by
  obtain ⟨A', B', he, h1, h2⟩ := split_new h hg
  obtain ⟨A, B, rfl, rfl, rfl⟩ := List.map_eq_append_iff.1 he
  refine ⟨A, B, rfl, fun a ha => h1 (nfOf a) (List.mem_map_of_mem ha), fun c hc => before_asymm (h2 (nfOf c) (List.mem_map_of_mem hc)), fun x hx => ?_⟩
  rw [he, putF_new h1 h2, fsOf_mid, hx]

/-- a file behind a crash -/
def crashR (keep : Int) (r : Rf) : Rf := ⟨r.name, r.sure ++ (bif decide (keep ≤ 0) then ⟨#[]⟩ else bif decide (keep < (r.loose.size : Int)) then r.loose.extract 0 keep.toNat else r.loose), ⟨#[]⟩⟩
theorem fi_sure (n s : ByteArray) : fiOf ⟨n, s, ⟨#[]⟩⟩ = ⟨s, s.size⟩ := by
  unfold fiOf
  have : s ++ (⟨#[]⟩ : ByteArray) = s := by
    apply ByteArray.ext
    simp [ByteArray.data_append]
  rw [this]
theorem cat_extract (a b : ByteArray) (m : Nat) : (a ++ b).extract 0 (a.size + m) = a ++ b.extract 0 m := by
  apply ByteArray.ext
  simp only [ByteArray.data_extract, ByteArray.data_append]
  rw [Array.extract_append]
  have h1 : a.data.size = a.size := rfl
  have h2 : a.data.extract 0 (a.size + m) = a.data := by
    rw [Array.extract_eq_self_of_le]
    omega
  rw [h2, h1]
  simp
theorem fi_crash (keep : Int) (r : Rf) : fiOf (crashR keep r) = crashF keep (fiOf r) := by
  unfold crashR
  rw [fi_sure]
  obtain ⟨nm, s, l⟩ := r
  have hsz : (s ++ l).size = s.size + l.size := by simp
  have hx : ∀ m : Nat, m ≤ l.size → crashK keep ⟨s ++ l, s.size⟩ = s.size + m → (⟨s ++ l.extract 0 m, (s ++ l.extract 0 m).size⟩ : Fi) = crashF keep ⟨s ++ l, s.size⟩ := by
    intro m hm hk
    unfold crashF
    rw [hk]
    show _ = (⟨(s ++ l).extract 0 (s.size + m), s.size + m⟩ : Fi)
    rw [cat_extract s l m]
    have : (s ++ l.extract 0 m).size = s.size + m := by simp; omega
    rw [this]
  show (⟨s ++ _, _⟩ : Fi) = crashF keep ⟨s ++ l, s.size⟩
  have hk : crashK keep ⟨s ++ l, s.size⟩ = s.size + (max 0 (min keep (l.size : Int))).toNat := by
    unfold crashK
    show s.size + (max 0 (min keep (((s ++ l).size : Int) - s.size))).toNat = _
    rw [hsz]
    congr 3
    omega
  rcases Int.lt_or_le 0 keep with h0 | h0
  · rw [decide_eq_false (show ¬ keep ≤ 0 by omega), cond_false]
    rcases Int.lt_or_le keep l.size with h1 | h1
    · rw [decide_eq_true h1, cond_true]
      exact hx keep.toNat (by omega) (by rw [hk]; omega)
    · rw [decide_eq_false (show ¬ keep < (l.size : Int) by omega), cond_false]
      have h2 := hx l.size (Nat.le_refl _) (by rw [hk]; omega)
      have h3 : l.extract 0 l.size = l := by simp
      rw [h3] at h2
      exact h2
  · rw [decide_eq_true h0, cond_true]
    have h2 := hx 0 (Nat.zero_le _) (by rw [hk]; omega)
    have h3 : l.extract 0 0 = ⟨#[]⟩ := by
      apply ByteArray.ext
      simp
    rw [h3] at h2
    exact h2
theorem fs_crash (keep : Int) (L : List Rf) : (fsOf L).map (crashP keep) = fsOf (L.map (crashR keep)) := by
  unfold fsOf
  rw [List.map_map, List.map_map]
  refine List.map_congr_left (fun r _ => ?_)
  show (r.name.data.toList, crashF keep (fiOf r)) = nfOf (crashR keep r)
  unfold nfOf
  rw [fi_crash]
  rfl
end Go.Proofs.Ytdckdndjddflfaa
