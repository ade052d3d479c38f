/-
  Texts in one: WaE, WaF. No conditions of their own.
-/
import Derived.Test.YtndjnkjcfdaegaaGreatDoorZh17
import Derived.Lib.SmallJoins
import Derived.Deep.Onto
set_option linter.all false

/-
  wal's right and segments. No conditions of their own, but that the tables are laid.
-/
namespace Go.Proofs.YtndjnkjcfdaegaaGreatDoor
open Go.RowKit Go.Shelf Go.Sort Go.Joins

/-- a letter that a log's name may have -/
def okC (c : UInt8) : Bool := (decide (97 ≤ c.toNat) && decide (c.toNat ≤ 122)) || (decide (48 ≤ c.toNat) && decide (c.toNat ≤ 57))
/-- may a log have a name? -/
def rightB (name : ByteArray) : Bool := name.data.toList.all okC && (decide (1 ≤ name.size) && decide (name.size ≤ 16))
theorem keeps_bytes (w : World) (e : TypeId) (s : ByteArray) : Keeps No w (Lib.bytesWorld w e s) := Keeps.ofBelow (below_bytesWorld w.heap.size w e s (Nat.le_refl _))

set_option maxRecDepth 100000 in
set_option maxHeartbeats 2000000 in
theorem right_any (w : World) (name : ByteArray) (hn : (name.size : Int) ≤ 140737488355328) (r : Bool) (hr : rightB name = r) : Calls Tryz.prog 36 #[.string name] w fun e w' => e = .returned (.bool r) ∧ Keeps No w w' := by
  have hcv := Lib.run_convert_string_bytes (P := Tryz.prog) w 9 163 5 name Tryz.underlying9 Tryz.underlying163 Tryz.underlying5
  have hcell := Lib.bytesWorld_cell w 5 name
  have hkb := keeps_bytes w 5 name
  generalize grownCap w name.size 0 5 = cap at hcv
  generalize Lib.bytesWorld w 5 name = W at hcv hcell hkb
  have Hcell := Lib.hid hcell
  have HK := Lib.hid hkb
  have Hr := Lib.hid hr
  clear hcell hkb hr
  go_enter Tryz.func36, Tryz.ntmps36
  go_wp2
  go_loop [8] (fun q => ∃ k : Nat, k ≤ name.size ∧ q = .int .i64 k ∧ (name.data.toList.take k).all okC = true) (fun q => name.size - (intOf q).toNat)
  case atStart => exact ⟨0, Nat.zero_le _, rfl, rfl⟩
  case round =>
    obtain ⟨k, hk, rfl, hall⟩ := hrel
    by_cases hlt : k < name.size
    · have hc := Hcell.out k hlt
      have hlt' : k < name.data.toList.length := by simpa using hlt
      have htk : name.data.toList.take (k + 1) = name.data.toList.take k ++ [name.data.toList[k]] := List.take_succ_eq_append_getElem hlt'
      have hg : name.data.toList.getD k 0 = name.data.toList[k] := by simp [List.getD, hlt]
      have hmem : name.data.toList[k] ∈ name.data.toList := List.getElem_mem hlt'
      rw [hg] at hc
      obtain ⟨c, hce⟩ : ∃ c, c = name.data.toList[k] := ⟨_, rfl⟩
      rw [← hce] at hc htk hmem
      have hz := c.toNat_lt
      obtain ⟨n, hn2⟩ : ∃ n, n = c.toNat := ⟨_, rfl⟩
      rw [← hn2] at hc hz
      have hk0 : (0 : Int) ≤ (k : Int) := by omega
      have Htk := Lib.hid htk
      have Hall := Lib.hid hall
      have Hmem := Lib.hid hmem
      have Hn2 := Lib.hid hn2
      clear hce hg htk hall hmem hn2
      have hcase : (n < 48 ∨ (57 < n ∧ n < 97) ∨ 122 < n) ∨ (48 ≤ n ∧ n ≤ 57) ∨ (97 ≤ n ∧ n ≤ 122) := by omega
      rcases hcase with hbad | hgood
      · have Hf : Hid (r = false) := by
          refine Lib.hid ?_
          rw [← Hr.out]
          unfold rightB
          have : name.data.toList.all okC = false := by
            rw [List.all_eq_false]
            refine ⟨c, Hmem.out, ?_⟩
            unfold okC
            have := Hn2.out
            simp only [Bool.or_eq_true, Bool.and_eq_true, decide_eq_true_eq]
            omega
          rw [this, Bool.false_and]
        rcases hbad with hb | ⟨hb, hb2⟩ | hb
        all_goals
          (try have a1 : (n : Int) < 97 := by omega)
          (try have a1 : ¬ (n : Int) < 97 := by omega)
          (try have a2 : (122 : Int) < (n : Int) := by omega)
          (try have a2 : ¬ (122 : Int) < (n : Int) := by omega)
          (try have a3 : (n : Int) < 48 := by omega)
          (try have a3 : ¬ (n : Int) < 48 := by omega)
          (try have a4 : (57 : Int) < (n : Int) := by omega)
          (try have a4 : ¬ (57 : Int) < (n : Int) := by omega)
          go_wp2
          go_ret
          exact ⟨by rw [Hf.out]; rfl, HK.out⟩
      · have hok : Hid ((name.data.toList.take (k + 1)).all okC = true) := by
          refine Lib.hid ?_
          rw [Htk.out, List.all_append, Hall.out]
          have : okC c = true := by
            unfold okC
            have := Hn2.out
            simp only [Bool.or_eq_true, Bool.and_eq_true, decide_eq_true_eq]
            omega
          simp [this]
        rcases hgood with ⟨hb, hb2⟩ | ⟨hb, hb2⟩
        all_goals
          (try have a1 : (n : Int) < 97 := by omega)
          (try have a1 : ¬ (n : Int) < 97 := by omega)
          (try have a2 : (122 : Int) < (n : Int) := by omega)
          (try have a2 : ¬ (122 : Int) < (n : Int) := by omega)
          (try have a3 : (n : Int) < 48 := by omega)
          (try have a3 : ¬ (n : Int) < 48 := by omega)
          (try have a4 : (57 : Int) < (n : Int) := by omega)
          (try have a4 : ¬ (57 : Int) < (n : Int) := by omega)
          go_wp2
          go_round
          case rel => exact ⟨k + 1, by omega, by go_num, hok.out⟩
          case measure => simp [intOf]; omega
    · obtain rfl : k = name.size := by omega
      have Hf : Hid (r = (decide (1 ≤ name.size) && decide (name.size ≤ 16))) := by
        refine Lib.hid ?_
        rw [← Hr.out]
        unfold rightB
        rw [List.take_of_length_le (by simp)] at hall
        rw [hall, Bool.true_and]
      clear hall hlt
      by_cases h1 : 1 ≤ name.size
      · by_cases h2 : name.size ≤ 16
        · have b1 : (1 : Int) ≤ (name.size : Int) := by omega
          have b2 : (name.size : Int) ≤ 16 := by omega
          go_wp2
          go_ret
          exact ⟨by rw [Hf.out, decide_eq_true h1, decide_eq_true h2]; rfl, HK.out⟩
        · have b1 : (1 : Int) ≤ (name.size : Int) := by omega
          have b2 : ¬ (name.size : Int) ≤ 16 := by omega
          go_wp2
          go_ret
          exact ⟨by rw [Hf.out, decide_eq_true h1, decide_eq_false h2]; rfl, HK.out⟩
      · have b1 : ¬ (1 : Int) ≤ (name.size : Int) := by omega
        go_wp2
        go_ret
        exact ⟨by rw [Hf.out, decide_eq_false h1]; rfl, HK.out⟩

/-- the number of the segment of a log, by its file's name -/
def segOf (name f : Nm) : Option Nat :=
  bif Lib.hasPrefix f (name ++ [46]) then (bif decide ((Lib.trimPrefix f (name ++ [46])).length = 8) then Lib.decNat (Lib.trimPrefix f (name ++ [46])) else none) else none
def segsOf (name : Nm) (fs : List Nm) : List Nat := fs.filterMap (segOf name)
def digitsL : Nm := [48, 49, 50, 51, 52, 53, 54, 55, 56, 57]
set_option maxRecDepth 100000 in
theorem digit_iff (c : UInt8) : digitsL.contains c = (Lib.digitVal c).isSome := by
  have h : ∀ n : Fin 256, digitsL.contains (UInt8.ofNat n.1) = (Lib.digitVal (UInt8.ofNat n.1)).isSome := by decide
  have := h ⟨c.toNat, c.toNat_lt⟩
  simpa using this
theorem decFrom_some : ∀ (l : Nm) (a : Nat), (Lib.decFrom a l).isSome = l.all digitsL.contains
  | [], a => rfl
  | c :: l, a => by
    rw [Lib.decFrom, List.all_cons, digit_iff]
    cases h : Lib.digitVal c with
    | none => rfl
    | some d => simp [decFrom_some l]
theorem dropWhile_nil (p : UInt8 → Bool) : ∀ l : Nm, l.dropWhile p = [] ↔ ∀ c ∈ l, p c = true
  | [] => by simp
  | c :: l => by
    rw [List.dropWhile_cons]
    cases h : p c
    · simp [h]
    · simp [h, dropWhile_nil p l]
theorem trim_nil (l cs : Nm) : Lib.trimS l cs = [] ↔ l.all cs.contains = true := by
  unfold Lib.trimS Lib.trimLeftS Lib.trimRightS
  constructor
  · intro h
    rw [dropWhile_nil] at h
    rw [List.all_eq_true]
    intro c hc
    by_cases hm : c ∈ (l.reverse.dropWhile (cs.contains ·)).reverse
    · exact h c hm
    · have h2 : c ∈ l.reverse := List.mem_reverse.2 hc
      rw [← List.takeWhile_append_dropWhile (p := (cs.contains ·)) (l := l.reverse)] at h2
      rcases List.mem_append.1 h2 with h3 | h3
      · exact (List.all_eq_true.1 (List.all_takeWhile (l := l.reverse) (p := (cs.contains ·)))) c h3
      · exact absurd (List.mem_reverse.2 h3) hm
  · intro h
    rw [List.all_eq_true] at h
    have : l.reverse.dropWhile (cs.contains ·) = [] := by
      rw [dropWhile_nil]
      intro c hc
      exact h c (List.mem_reverse.1 hc)
    rw [this]
    rfl
theorem atoi_digits {l : Nm} {n : Nat} (h : Lib.decNat l = some n) : Lib.atoi l = some (n : Int) := by
  cases l with
  | nil => cases h
  | cons c r =>
    have hd : (Lib.digitVal c).isSome = true := by
      unfold Lib.decNat at h
      have h2 : (Lib.decFrom 0 (c :: r)).isSome = true := by
        simp at h
        rw [h]
        rfl
      rw [decFrom_some, List.all_cons, digit_iff] at h2
      simp only [Bool.and_eq_true] at h2
      exact h2.1
    have hc1 : (c == 45) = false := by
      cases h3 : (c == 45)
      · rfl
      · rw [eq_of_beq h3] at hd
        cases hd
    have hc2 : (c == 43) = false := by
      cases h3 : (c == 43)
      · rfl
      · rw [eq_of_beq h3] at hd
        cases hd
    simp [Lib.atoi, hc1, hc2, h]
theorem decNat_lt {l : Nm} {n : Nat} (h : Lib.decNat l = some n) (hl : l.length = 8) : n < 100000000 := by
  have step : ∀ (l : Nm) (a n : Nat), Lib.decFrom a l = some n → n < (a + 1) * 10 ^ l.length := by
    intro l
    induction l with
    | nil =>
      intro a n h
      simp [Lib.decFrom] at h
      simp
      omega
    | cons c r ih =>
      intro a n h
      rw [Lib.decFrom] at h
      cases hd : Lib.digitVal c with
      | none => rw [hd] at h; cases h
      | some d =>
        rw [hd] at h
        have h1 := ih _ _ h
        have h2 : d ≤ 9 := by
          unfold Lib.digitVal at hd
          split at hd
          · simp at hd; omega
          · cases hd
        have h3 : (a * 10 + d + 1) * 10 ^ r.length ≤ ((a + 1) * 10) * 10 ^ r.length := Nat.mul_le_mul_right _ (by omega)
        rw [List.length_cons, Nat.pow_succ, Nat.mul_comm (10 ^ r.length), ← Nat.mul_assoc]
        omega
  unfold Lib.decNat at h
  split at h
  · cases h
  · have := step l 0 n h
    rw [hl] at this
    simpa using this
theorem segOf_lt {name f : Nm} {n : Nat} (h : segOf name f = some n) : n < 100000000 := by
  unfold segOf at h
  cases h1 : Lib.hasPrefix f (name ++ [46])
  · rw [h1] at h; cases h
  · rw [h1, cond_true] at h
    by_cases h2 : (Lib.trimPrefix f (name ++ [46])).length = 8
    · rw [decide_eq_true h2, cond_true] at h
      exact decNat_lt h h2
    · rw [decide_eq_false h2, cond_false] at h
      cases h
theorem Tryz.infoInt : (Tryz.prog.info? 3).map (fun i => (i.zero, i.size, i.bytes)) = some (some (.int .i64 0), 1, 8) := by kernel_rfl

set_option maxRecDepth 100000 in
set_option maxHeartbeats 4000000 in
theorem segments_any {w : World} {l p b : Nat} {d : Ds} (hd : DAt w p b d) (name : ByteArray) (hnm : (name.size : Int) ≤ 1000) (c0 : w.cell? ⟨l, 0, none⟩ = some (dP p)) (c1 : w.cell? ⟨l, 1, none⟩ = some (.string name)) :
    Calls Tryz.prog 37 #[dP l] w fun e w' => ∃ v, e = .returned v ∧ OwnInts w' w.heap.size v (segsOf name.data.toList (namesOf d.fs)) ∧ Keeps No w w' := by
  obtain ⟨i0, hi, hz0, hz1, hz2⟩ := info_parts Tryz.infoInt
  have hll := block_lt_of_cell c0
  dsimp only at hll
  have Hd := Lib.hid hd
  have Hnames : Hid (∀ f ∈ d.fs, f.1.length ≤ 32) := Lib.hid hd.nm
  have Hfew : Hid (d.fs.length ≤ 64) := Lib.hid hd.few
  obtain ⟨P, hP⟩ : ∃ P : ByteArray, P = name ++ ⟨#[46]⟩ := ⟨_, rfl⟩
  have hcat : ∀ W : World, (Op.stringOp .add name ⟨#[46]⟩).run Tryz.prog W = .ok (.string P) W := fun W => by rw [hP]; exact run_string_add_sum W _ _ (by have : (⟨#[46]⟩ : ByteArray).size = 1 := rfl; omega)
  have HP : Hid (P.data.toList = name.data.toList ++ [46]) := by rw [hP]; exact Lib.hid (by simp [ByteArray.data_append])
  clear hd hP
  go_enter Tryz.func37, Tryz.ntmps37
  go_wp2_with fail
  refine (files_any Hd.out).mono ?_
  rintro e w1 ⟨v, rfl, hv, hk1⟩
  have Hv := Lib.hid hv
  have K1 := Lib.hid hk1
  have d1 := hk1.cell c1 (fun h => h)
  clear c1 hv hk1
  have c1 := d1
  clear d1
  obtain ⟨va, vc, rfl⟩ := ownsRow_slice Hv.out
  clear c0
  go_wp2
  go_loopw [3, 16] (fun o q wr => ∃ k : Nat, k ≤ d.fs.length ∧ q = .int .i64 k ∧ OwnInts wr w1.heap.size o (segsOf name.data.toList ((namesOf d.fs).take k)) ∧ Keeps No w1 wr) (fun _ q _ => d.fs.length - (intOf q).toNat)
  case atStart => exact ⟨0, Nat.zero_le _, rfl, World.ownsRow_nil _ _ _ _, Keeps.refl _⟩
  case round =>
    obtain ⟨k, hk, rfl, ho, hK⟩ := hrel
    by_cases hlt : k < d.fs.length
    · obtain ⟨g, cap, hvv, hgb, hgl⟩ := row_some Hv.out (by omega)
      simp only [Value.slice.injEq, true_and] at hvv
      obtain ⟨rfl, rfl⟩ := hvv
      have cn := hK.cell (name_cell Hv.out k hlt) (fun h => h)
      have c2 := hK.cell c1 (fun h => h)
      have hnl := Hnames.out _ (List.getElem_mem hlt)
      have htk : segsOf name.data.toList ((namesOf d.fs).take (k + 1)) = segsOf name.data.toList ((namesOf d.fs).take k) ++ (segOf name.data.toList d.fs[k].1).toList := by
        unfold segsOf
        rw [List.take_succ_eq_append_getElem (by simpa [namesOf] using hlt), List.filterMap_append]
        simp only [namesOf, List.getElem_map]
        cases hso : segOf name.data.toList d.fs[k].1 <;> simp [hso]
      obtain ⟨f, hf⟩ : ∃ f, f = d.fs[k].1 := ⟨_, rfl⟩
      rw [← hf] at cn hnl htk
      have hol : (segsOf name.data.toList ((namesOf d.fs).take k)).length ≤ 64 := by
        refine Nat.le_trans (List.length_filterMap_le _ _) ?_
        rw [List.length_take]
        have := Hfew.out
        omega
      obtain ⟨os, hos⟩ : ∃ os, os = segsOf name.data.toList ((namesOf d.fs).take k) := ⟨_, rfl⟩
      rw [← hos] at ho htk hol
      have Htk := Lib.hid htk
      have Ho := Lib.hid ho
      have HK := Lib.hid hK
      have hk0 : (0 : Int) ≤ (k : Int) := by omega
      have hki : (k : Int) < (d.fs.length : Int) := by omega
      have hk1 : (k : Int) ≤ 64 := by have := Hfew.out; omega
      have hgr : g < wr.heap.size := by have := HK.out.size; omega
      have hlr : l < wr.heap.size := by have := HK.out.size; have := K1.out.size; omega
      obtain ⟨oa, oc, rfl⟩ := ownsRow_slice ho
      have hcp := Tryz.strings_CutPrefix ⟨f.toArray⟩ P wr
      obtain ⟨hp, hhp⟩ : ∃ h, h = Lib.hasPrefix (⟨f.toArray⟩ : ByteArray).data.toList P.data.toList := ⟨_, rfl⟩
      obtain ⟨tp, htp⟩ : ∃ t : ByteArray, t = ⟨(Lib.trimPrefix (⟨f.toArray⟩ : ByteArray).data.toList P.data.toList).toArray⟩ := ⟨_, rfl⟩
      rw [← hhp, ← htp] at hcp
      replace hcp := hcp.mono (R' := fun e w' => e = .returned (.tuple #[.string tp, .bool hp]) ∧ wr = w') (fun e w' ⟨h1, h2⟩ => ⟨h1, h2.symm⟩)
      have hso : segOf name.data.toList f = bif hp then (bif decide (tp.size = 8) then Lib.decNat tp.data.toList else none) else none := by
        unfold segOf
        rw [hhp, htp, HP.out]
        rfl
      have htl : tp.size ≤ 32 := by
        rw [htp, HP.out]
        show (Lib.trimPrefix f _).length ≤ 32
        unfold Lib.trimPrefix
        split
        · rw [List.length_drop]; omega
        · exact hnl
      have Hso := Lib.hid hso
      clear hf hos htk ho hK hnl hhp htp hso
      -- what is passed over
      cases hp with
      | false =>
        have Hn : Hid (segOf name.data.toList f = none) := Lib.hid (by rw [Hso.out]; rfl)
        go_wp2_with (go_at_call 81; refine hcp.mono ?_; rintro e w' ⟨rfl, rfl⟩)
        go_roundw
        case rel =>
          refine ⟨k + 1, by omega, by go_num, ?_, HK.out⟩
          rw [Htk.out, Hn.out]
          simpa using Ho.out
        case measure => simp [intOf]; omega
      | true =>
        by_cases h8 : tp.size = 8
        · have h8i : (tp.size : Int) = 8 := by omega
          have h8b : ((tp.size : Int) != 8) = false := by simp [h8i]
          have h8c : ((tp.size : Int) == 8) = true := by simp [h8i]
          obtain ⟨T, hT⟩ : ∃ T : ByteArray, T = ⟨(Lib.trimS tp.data.toList digitsL).toArray⟩ := ⟨_, rfl⟩
          have htr := Any.strings_Trim_laid Tryz.lays160 (by kernel_rfl) tp ⟨#[48, 49, 50, 51, 52, 53, 54, 55, 56, 57]⟩ wr (by omega) (by decide) (ascii_of_all (by decide))
          have htr2 : Calls Tryz.prog 82 #[.string tp, .string ⟨#[48, 49, 50, 51, 52, 53, 54, 55, 56, 57]⟩] wr fun e w' => e = .returned (.string T) ∧ Below wr.heap.size wr w' := by rw [hT]; exact htr
          have hnone := decFrom_some tp.data.toList 0
          have hne : tp.data.toList.isEmpty = false := by
            cases hl : tp.data.toList with
            | nil =>
              have : tp.data.toList.length = 8 := by simpa using h8
              rw [hl] at this
              cases this
            | cons => rfl
          have hdn : Lib.decNat tp.data.toList = Lib.decFrom 0 tp.data.toList := by unfold Lib.decNat; rw [hne]; rfl
          have Hso2 : Hid (segOf name.data.toList f = Lib.decFrom 0 tp.data.toList) := Lib.hid (by rw [Hso.out, decide_eq_true h8, cond_true, cond_true, hdn])
          clear htr
          cases hdf : Lib.decFrom 0 tp.data.toList with
          | none =>
            have hT2 : (T.toList.isEmpty) = false := by
              rw [ByteArray.toList_eq, hT]
              cases hx : Lib.trimS tp.data.toList digitsL with
              | nil =>
                rw [trim_nil, ← hnone, hdf] at hx
                cases hx
              | cons => rfl
            have hT3 : (!T.toList.isEmpty) = true := by rw [hT2]; rfl
            have hT4 : ¬ T.toList = [] := by intro h; rw [h] at hT2; cases hT2
            have Hn : Hid (segOf name.data.toList f = none) := Lib.hid (by rw [Hso2.out, hdf])
            clear hT hnone hne hdn hdf h8
            go_wp2_with (go_at_call 81; refine hcp.mono ?_; rintro e w' ⟨rfl, rfl⟩)
            refine htr2.mono ?_
            rintro e w2 ⟨rfl, hb2⟩
            have K2 : Hid (Keeps No wr w2) := Lib.hid (Keeps.ofBelow hb2)
            clear hb2 htr2
            go_wp2
            go_roundw
            case rel =>
              refine ⟨k + 1, by omega, by go_num, ?_, HK.out.trans K2.out (fun _ _ h => h)⟩
              rw [Htk.out, Hn.out]
              simpa using K2.out.owns Ho.out (fun _ _ h => h)
            case measure => simp [intOf]; omega
          | some n =>
            have hT2 : T = ⟨#[]⟩ := by
              rw [hT]
              have hx : Lib.trimS tp.data.toList digitsL = [] := by rw [trim_nil, ← hnone, hdf]; rfl
              rw [hx]
            have hnn : n < 100000000 := decNat_lt (l := tp.data.toList) (by rw [hdn, hdf]) (by simpa using h8)
            have hat := atoi_digits (l := tp.data.toList) (n := n) (by rw [hdn, hdf])
            have Hn : Hid (segOf name.data.toList f = some n) := Lib.hid (by rw [Hso2.out, hdf])
            have Hat := Lib.hid hat
            subst hT2
            clear hT hnone hne hdn hdf h8 hat
            go_wp2_with (go_at_call 81; refine hcp.mono ?_; rintro e w' ⟨rfl, rfl⟩)
            refine htr2.mono ?_
            rintro e w2 ⟨rfl, hb2⟩
            have K2 : Hid (Keeps No wr w2) := Lib.hid (Keeps.ofBelow hb2)
            clear hb2 htr2
            go_wp2_with fail
            refine (Tryz.strconv_Atoi tp n (by omega) Hat.out w2).mono ?_
            rintro e w3 ⟨rfl, t3, hw3⟩
            have K3 : Hid (Keeps No wr w3) := by rw [hw3]; exact Lib.hid (K2.out.trans (keeps_bytes w2 _ t3) (fun _ _ h => h))
            have Ho3 := Lib.hid (K3.out.owns Ho.out (fun _ _ h => h))
            clear hw3
            go_wp2_with (at_builtin; refine wpList_append_own _ rfl _ _ 109 rfl w1.heap.size 3 i0 (.int .i64 0) 1 8 Tryz.underlying109 hi hz0 hz1 hz2 rfl (by decide) _ _ _ rfl (Ho3.out.alloc _) ⟨w3.heap.size, 0, none⟩ 1 1 [.int .i64 n] rfl rfl (cell_one_new _ _ _) (by simp [Value.oneCell']) (by unfold maxLen; omega) (by omega) (by have := HK.out.size; have := K3.out.size; simp; omega) ?_; intro v' w4 hown4 hk4 _)
            have Ho4 := Lib.hid hown4
            have K4 : Hid (Keeps No w1 w4) := Lib.hid (((HK.out.trans K3.out (fun _ _ h => h)).alloc _).grown hk4 (fun i hi2 hlt2 => absurd hlt2 (Nat.not_lt.2 (Ho3.out.lt i hi2).1)))
            clear hown4 hk4
            go_wp2
            go_roundw
            case rel =>
              refine ⟨k + 1, by omega, by go_num, ?_, K4.out⟩
              unfold OwnInts
              rw [Htk.out, Hn.out, List.length_append, intsV_append]
              exact Ho4.out
            case measure => simp [intOf]; omega
        · have Hn : Hid (segOf name.data.toList f = none) := Lib.hid (by rw [Hso.out, decide_eq_false h8]; rfl)
          have h8i : ¬ (tp.size : Int) = 8 := by omega
          have h8b : ((tp.size : Int) != 8) = true := by simpa using h8i
          go_wp2_with (go_at_call 81; refine hcp.mono ?_; rintro e w' ⟨rfl, rfl⟩)
          go_roundw
          case rel =>
            refine ⟨k + 1, by omega, by go_num, ?_, HK.out⟩
            rw [Htk.out, Hn.out]
            simpa using Ho.out
          case measure => simp [intOf]; omega
    · have hkk : k = d.fs.length := by omega
      subst hkk
      have hnl : (namesOf d.fs).take d.fs.length = namesOf d.fs := List.take_of_length_le (by simp [namesOf])
      rw [hnl] at ho
      have Ho := Lib.hid ho
      have HK := Lib.hid hK
      obtain ⟨oa, oc, rfl⟩ := ownsRow_slice ho
      clear ho hK hnl
      go_wp2
      go_ret
      exact ⟨_, rfl, Ho.out.mono K1.out.size, K1.out.trans HK.out (fun _ _ h => h)⟩
end Go.Proofs.YtndjnkjcfdaegaaGreatDoor

/-
  The log as data: what its methods make of it; wal's First, Next, Segments, Sync, lay. No conditions of their own, but that the tables are laid.
-/
namespace Go.Proofs.YtndjnkjcfdaegaaGreatDoor
open Go.RowKit Go.Shelf Go.Sort Go.Joins

def Lg.last (g : Lg) : ByteArray := fileNm g.name (lastN g.firsts)
def Lg.file (g : Lg) (n : Nat) : ByteArray := fileNm g.name n
def frameB (s : ByteArray) : ByteArray := ⟨(frameL s.data.toList).toArray⟩
/-- what is read of a file -/
def Ds.look (d : Ds) (n : ByteArray) : Fi := (findE d.fs n).1
def Lg.sync (g : Lg) (d : Ds) : Int × Ds := d.sync g.last
/-- one record is laid -/
def Lg.lay (g : Lg) (d : Ds) (s : ByteArray) : Int × Lg × Ds :=
  bif decide ((d.look g.last).s.size < 4096) then
    (bif (d.append g.last (frameB s)).1 == 0 then (0, ⟨g.name, g.firsts, g.next + 1⟩, (d.append g.last (frameB s)).2) else ((d.append g.last (frameB s)).1, g, (d.append g.last (frameB s)).2))
  else bif decide (99999999 < g.next) then (8, g, d) else
    (bif ((d.sync g.last).2.append (g.file g.next) (frameB s)).1 == 0 then (0, ⟨g.name, g.firsts ++ [g.next], g.next + 1⟩, ((d.sync g.last).2.append (g.file g.next) (frameB s)).2)
     else (((d.sync g.last).2.append (g.file g.next) (frameB s)).1, g, ((d.sync g.last).2.append (g.file g.next) (frameB s)).2))

/-- THE LOG AND ITS DISK. -/
structure WLog (w : World) (base l p b : Nat) (v : Value) (g : Lg) (d : Ds) : Prop where
  log : LogAt w base l p v g
  disk : DAt w p b d
  bp : base ≤ p
  bb : base ≤ b
  vp : ¬ v.ownBlock = some p
  vb : ¬ v.ownBlock = some b
  lb : l ≠ b
section
variable {w : World} {base l p b : Nat} {v : Value} {g : Lg} {d : Ds}
theorem WLog.no {w' : World} (h : WLog w base l p b v g d) (k : Keeps No w w') : WLog w' base l p b v g d :=
  ⟨h.log.no k, h.disk.kept k (fun h => h) (fun h => h), h.bp, h.bb, h.vp, h.vb, h.lb⟩
theorem WLog.kept {S : Nat → Prop} {w' : World} (h : WLog w base l p b v g d) (k : Keeps S w w') (hS : ∀ i, LogS l p b v i → ¬ S i) : WLog w' base l p b v g d :=
  ⟨h.log.kept k (hS l (.inl rfl)) (fun i hi => hS i (.inr (.inr (.inr hi)))), h.disk.kept k (hS p (.inr (.inl rfl))) (hS b (.inr (.inr (.inl rfl)))), h.bp, h.bb, h.vp, h.vb, h.lb⟩
/-- the disk alone is another one -/
theorem WLog.disked {w' : World} {d' : Ds} (h : WLog w base l p b v g d) (k : Keeps (Two p b) w w') (hd : DAt w' p b d') : WLog w' base l p b v g d' :=
  ⟨h.log.kept k (fun hs => by rcases hs with e | e; exact h.log.lp e; exact h.lb e) (fun i hi hs => by rcases hs with e | e; exact h.vp (e ▸ hi); exact h.vb (e ▸ hi)), hd, h.bp, h.bb, h.vp, h.vb, h.lb⟩
theorem two_log {w' : World} (k : Keeps (Two p b) w w') : Keeps (LogS l p b v) w w' := k.mono (fun i _ h => by rcases h with h | h; exact .inr (.inl h); exact .inr (.inr (.inl h)))
theorem no_log {w' : World} (k : Keeps No w w') : Keeps (LogS l p b v) w w' := k.mono (fun _ _ h => h.elim)
theorem WLog.laid {w' : World} (h : WLog w base l p b v g d) (hL : Laid w base) (k : Keeps (LogS l p b v) w w') : Laid w' base :=
  hL.kept k (fun i hi => by rcases hi with e | e | e | e; exact e ▸ h.log.bl; exact e ▸ h.bp; exact e ▸ h.bb; exact h.log.bv i e)

theorem firstLog_any (h : LogAt w base l p v g) (F : Nat) (hF : g.firsts[0]? = some F) : Calls Tryz.prog 20 #[dP l] w fun e w' => e = .returned (.int .i64 F) ∧ w' = w := by
  obtain ⟨q, off, c, rfl, h1, h2, h3, hx⟩ := RdInts.cell h.rd h.ne
  have c2 := h.cell2
  have d0 : w.cell? ⟨q, off, none⟩ = some (.int .i64 F) := hx 0 F hF
  have hn := h.ne
  have hn2 : (0 : Int) < (g.firsts.length : Int) := by omega
  clear hx hF h
  go_enter Tryz.func20, Tryz.ntmps20
  go_wp2
  go_ret
  exact ⟨rfl, rfl⟩
set_option maxRecDepth 100000 in
set_option maxHeartbeats 1000000 in
theorem syncLog_any (hL : Laid w base) (h : WLog w base l p b v g d) (ec : Int) (d' : Ds) (hE : g.sync d = (ec, d')) :
    Calls Tryz.prog 60 #[dP l] w fun e w' => e = .returned (.int .i64 ec) ∧ WLog w' base l p b v g d' ∧ Keeps (Two p b) w w' := by
  have c0 := h.log.cell0
  have H := Lib.hid h
  have HL := Lib.hid hL
  have HE := Lib.hid hE
  have hll := h.log.lt
  clear h hL hE
  go_enter Tryz.func60, Tryz.ntmps60
  go_wp2_with fail
  go_region_held3 (fun w' => w'.cell? ⟨l, 0, none⟩ = some (dP p)) (exact c0)
    (first
      | (go_at_call 46
         refine (last_any (HL.out.kept ((Keeps.refl (S := No) w).drew) (fun _ h => h.elim)) (H.out.log.no ((Keeps.refl (S := No) w).drew))).mono ?_
         rintro e w1 ⟨rfl, hk1⟩
         have K1 : Hid (Keeps No w w1) := Lib.hid (((Keeps.refl (S := No) w).drew).trans hk1 (fun _ _ h => h))
         have H1 := Lib.hid (H.out.no K1.out)
         have d0 := K1.out.cell c0 (fun h => h)
         clear hk1 c0
         have c0 := d0
         clear d0)
      | (go_at_call 45
         refine (sync_tot H1.out.disk _ ec d' HE.out).mono ?_
         rintro e w2 ⟨rfl, hd2, hk2⟩
         have K2 : Hid (Keeps (Two p b) w w2) := Lib.hid ((K1.out.mono (fun _ _ h => h.elim)).trans hk2 (fun _ _ h => h))
         have H2 := Lib.hid (H1.out.disked hk2 hd2)
         have c0 := H2.out.log.cell0
         clear hk2 hd2))
  go_wp2
  go_ret
  exact ⟨rfl, H2.out, K2.out⟩

/-- a row that comes to be is the old one, or a new one -/
def Newer (w : World) (v v' : Value) : Prop := ∀ k, v'.ownBlock = some k → v.ownBlock = some k ∨ w.heap.size ≤ k
def LayPost (w : World) (base l p b : Nat) (v : Value) (ec : Int) (g' : Lg) (d' : Ds) (e : Ending) (w' : World) : Prop :=
  e = .returned (.int .i64 ec) ∧ ∃ v', WLog w' base l p b v' g' d' ∧ OwnInts w' base v' g'.firsts ∧ Newer w v v' ∧ Keeps (LogS l p b v) w w'
theorem WLog.nexted {n : Nat} (h : WLog w base l p b v g d) (hn : n ≤ 4611686018427387904) : WLog (w.setCell ⟨l, 3, none⟩ (.int .i64 n)) base l p b v ⟨g.name, g.firsts, n⟩ d :=
  have k : Keeps (Own l) w (w.setCell ⟨l, 3, none⟩ (.int .i64 n)) := (Keeps.refl (S := Own l) w).setCell (p := ⟨l, 3, none⟩) (fun _ => (rfl : l = l)) _
  ⟨⟨heap_setCell_at h.log.cells _, h.log.rd.kept k (fun _ hi e => h.log.vl (e ▸ hi)), h.log.ne, h.log.nm, h.log.few, hn, h.log.bl, h.log.bv, h.log.vl, h.log.lp⟩,
    h.disk.kept k (fun e => h.log.lp e.symm) (fun e => h.lb e.symm), h.bp, h.bb, h.vp, h.vb, h.lb⟩

theorem WLog.pushed (h : WLog w base l p b v g d) (hb : base ≤ w.heap.size) {w' : World} {v' : Value} (k : Keeps (Of v) w w') (ho : w'.ownsRow base 3 1 v' (g.firsts.length + 1) (intsV g.firsts ++ [.int .i64 g.next]))
    (hnew : Newer w v v') (hn : g.next + 1 ≤ 4611686018427387904) :
    WLog ((w'.setCell ⟨l, 2, none⟩ v').setCell ⟨l, 3, none⟩ (.int .i64 ((g.next + 1 : Nat) : Int))) base l p b v' ⟨g.name, g.firsts ++ [g.next], g.next + 1⟩ d ∧
    OwnInts ((w'.setCell ⟨l, 2, none⟩ v').setCell ⟨l, 3, none⟩ (.int .i64 ((g.next + 1 : Nat) : Int))) base v' (g.firsts ++ [g.next]) ∧
    Keeps (LogS l p b v) w ((w'.setCell ⟨l, 2, none⟩ v').setCell ⟨l, 3, none⟩ (.int .i64 ((g.next + 1 : Nat) : Int))) := by
  have ne : ∀ q, q < w.heap.size → ¬ v.ownBlock = some q → ¬ v'.ownBlock = some q := fun q hq hv hv' => by rcases hnew q hv' with e | e; exact hv e; omega
  have lv := ne l h.log.lt h.log.vl
  have pv := ne p h.disk.lt.1 h.vp
  have bv := ne b h.disk.lt.2 h.vb
  have kk : Keeps (Own l) w' ((w'.setCell ⟨l, 2, none⟩ v').setCell ⟨l, 3, none⟩ (.int .i64 ((g.next + 1 : Nat) : Int))) := ((Keeps.refl (S := Own l) w').setCell (p := ⟨l, 2, none⟩) (fun _ => (rfl : l = l)) _).setCell (p := ⟨l, 3, none⟩) (fun _ => (rfl : l = l)) _
  have hc := k.heap h.log.cells (fun e => h.log.vl e)
  have ho2 : OwnInts w' base v' (g.firsts ++ [g.next]) := by
    unfold OwnInts
    rw [List.length_append, intsV_append]
    exact ho
  have ho3 : OwnInts ((w'.setCell ⟨l, 2, none⟩ v').setCell ⟨l, 3, none⟩ (.int .i64 ((g.next + 1 : Nat) : Int))) base v' (g.firsts ++ [g.next]) := kk.owns ho2 (fun i hi e => lv (e ▸ hi))
  refine ⟨⟨⟨heap_setCell_at (heap_setCell_at hc v') _, Reads.ofOwn ho3 (fun u hu => intsV_one u _ hu), by simp, h.log.nm, ?_, hn, h.log.bl, ?_, lv, h.log.lp⟩, ?_, h.bp, h.bb, pv, bv, h.lb⟩, ho3, ?_⟩
  · intro n hn'
    rcases List.mem_append.1 hn' with e | e
    · exact h.log.few n e
    · rw [List.mem_singleton.1 e]; omega
  · intro i hi
    rcases hnew i hi with e | e
    · exact h.log.bv i e
    · omega
  · exact (h.disk.kept k (fun e => h.vp e) (fun e => h.vb e)).kept kk (fun e => h.log.lp e.symm) (fun e => h.lb e.symm)
  · exact (k.mono (fun i _ e => .inr (.inr (.inr e)))).trans kk (fun i _ e => .inl e)

set_option maxRecDepth 100000 in
set_option maxHeartbeats 4000000 in
theorem lay_any (hL : Laid w base) (hb : base ≤ w.heap.size) (h : WLog w base l p b v g d) (ho : OwnInts w base v g.firsts) (s : ByteArray) (hs : (s.size : Int) ≤ 65536) (hnx : g.next + 1 ≤ 4611686018427387904) (hfl : g.firsts.length ≤ 1000000)
    (ec : Int) (g' : Lg) (d' : Ds) (hE : g.lay d s = (ec, g', d')) : Calls Tryz.prog 108 #[dP l, .string s] w (LayPost w base l p b v ec g' d') := by
  have Hb := Lib.hid hb
  obtain ⟨i0, hi, hz0, hz1, hz2⟩ := info_parts Tryz.infoInt
  obtain ⟨va, vc, rfl⟩ := ownsRow_slice ho
  obtain ⟨⟨fx, fe⟩, hfind⟩ : ∃ x, findE d.fs g.last = x := ⟨_, rfl⟩
  have hfok : fx.s.size ≤ 4194304 := by
    rcases findE_cases d.fs g.last with hc | ⟨hc, _⟩ | ⟨f, hc, hg, _⟩
    · rw [hc] at hfind; obtain ⟨rfl, rfl⟩ := Prod.mk.inj hfind; decide
    · rw [hc] at hfind; obtain ⟨rfl, rfl⟩ := Prod.mk.inj hfind; decide
    · rw [hc] at hfind; obtain ⟨rfl, rfl⟩ := Prod.mk.inj hfind; exact (h.disk.get_ok hg).1
  have hlook : d.look g.last = fx := by unfold Ds.look; rw [hfind]
  unfold Lg.lay at hE
  rw [hlook] at hE
  have HE := Lib.hid hE
  have Hfind := Lib.hid hfind
  have H := Lib.hid h
  have HL := Lib.hid hL
  have Ho := Lib.hid ho
  have Hnx := Lib.hid hnx
  have Hfl := Lib.hid hfl
  obtain ⟨F, hF⟩ : ∃ F, F = frameB s := ⟨_, rfl⟩
  have HF := Lib.hid hF
  have hFF : (⟨(frameL s.data.toList).toArray⟩ : ByteArray) = F := hF.symm
  have c0 := h.log.cell0
  have hll := h.log.lt
  clear hb hE hfind h hL ho hnx hfl hlook hF
  go_enter Tryz.func108, Tryz.ntmps108
  go_wp2_with fail
  refine (frame_ok w base HL.out Hb.out s hs).mono ?_
  rintro e w1 ⟨rfl, hk1⟩
  rw [hFF]
  have H1 := Lib.hid (H.out.no hk1)
  have K1 := Lib.hid hk1
  have L1 := Lib.hid (HL.out.kept hk1 (fun _ h => h.elim))
  have d0 := hk1.cell c0 (fun h => h)
  clear hk1 c0 hFF
  have hl1 : l < w1.heap.size := H1.out.log.lt
  go_wp2_with fail
  go_region_held3 (fun w' => w'.cell? ⟨l, 0, none⟩ = some (dP p)) (exact d0)
    (first
      | (go_at_call 46
         refine (last_any (L1.out.kept ((Keeps.refl (S := No) w1).drew) (fun _ h => h.elim)) (H1.out.log.no ((Keeps.refl (S := No) w1).drew))).mono ?_
         rintro e w2 ⟨rfl, hk2⟩
         have K2 : Hid (Keeps No w w2) := Lib.hid ((K1.out.drew).trans hk2 (fun _ _ h => h))
         have H2 := Lib.hid (H.out.no K2.out)
         have c0 := H2.out.log.cell0
         clear hk2 d0
         have d0 := c0
         clear c0)
      | (go_at_call 157
         refine (size_any H2.out.disk _ fx fe Hfind.out).mono ?_
         rintro e w3 ⟨rfl, hk3⟩
         have K3 : Hid (Keeps No w w3) := Lib.hid (K2.out.trans hk3 (fun _ _ h => h))
         have H3 := Lib.hid (H.out.no K3.out)
         have c0 := H3.out.log.cell0
         clear hk3 d0
         have d0 := c0
         clear c0))
  have L3 := Lib.hid (HL.out.kept K3.out (fun _ h => h.elim))
  have hl3 : l < w3.heap.size := H3.out.log.lt
  clear K1 K2 H1 H2 L1 hl1 Hfind
  by_cases hlt : fx.s.size < 4096
  · have hlti : (fx.s.size : Int) < 4096 := by omega
    obtain ⟨⟨ea, da⟩, hap⟩ : ∃ x, d.append g.last (frameB s) = x := ⟨_, rfl⟩
    have hE2 := HE.out
    rw [decide_eq_true hlt, cond_true, hap] at hE2
    dsimp only at hE2
    rw [← HF.out] at hap
    have Hap := Lib.hid hap
    have HE2 := Lib.hid hE2
    clear hap hE2 HE hlt
    go_wp2_with fail
    go_region_held3 (fun w' => w'.cell? ⟨l, 0, none⟩ = some (dP p)) (exact d0)
      (first
        | (go_at_call 46
           refine (last_any (L3.out.kept ((Keeps.refl (S := No) w3).drew) (fun _ h => h.elim)) (H3.out.log.no ((Keeps.refl (S := No) w3).drew))).mono ?_
           rintro e w4 ⟨rfl, hk4⟩
           have K4 : Hid (Keeps No w w4) := Lib.hid ((K3.out.drew).trans hk4 (fun _ _ h => h))
           have H4 := Lib.hid (H.out.no K4.out)
           have c0 := H4.out.log.cell0
           clear hk4 d0
           have d0 := c0
           clear c0)
        | (go_at_call 38
           refine (append_tot H4.out.disk _ F ea da Hap.out).mono ?_
           rintro e w5 ⟨rfl, hd5, hk5⟩
           have K5 : Hid (Keeps (Two p b) w w5) := Lib.hid ((K4.out.mono (fun _ _ h => h.elim)).trans hk5 (fun _ _ h => h))
           have H5 := Lib.hid (H4.out.disked hk5 hd5)
           have Ho5 : Hid (OwnInts w5 base (.slice va g.firsts.length vc) g.firsts) := Lib.hid (K5.out.owns Ho.out (fun i hi hs => by rcases hs with e | e; exact H.out.vp (e ▸ hi); exact H.out.vb (e ▸ hi)))
           have c0 := H5.out.log.cell0
           clear hk5 hd5 d0
           have d0 := c0
           clear c0))
    have c3 := H5.out.log.cell3
    have f3 := H5.out.log.opened.frozen 3
    have hl5 : l < w5.heap.size := H5.out.log.lt
    clear K4 H4 L3 H3 K3 hl3 Hap
    by_cases hea : ea = 0
    · subst hea
      have h0 : ((0 : Int) != 0) = false := rfl
      have hg1 : (g.next : Int) + 1 ≤ 4611686018427387904 := by have := Hnx.out; omega
      have hg0 : (0 : Int) ≤ (g.next : Int) := by omega
      go_wp2
      go_ret
      have hE3 := HE2.out
      have e1 : ((0 : Int) == 0) = true := rfl
      rw [e1, cond_true] at hE3
      simp only [Prod.mk.injEq] at hE3
      obtain ⟨rfl, rfl, rfl⟩ := hE3
      exact ⟨rfl, _, H5.out.nexted Hnx.out, ((Keeps.refl (S := Own l) w5).setCell (p := ⟨l, 3, none⟩) (fun _ => (rfl : l = l)) _).owns Ho5.out (fun i hi hs => H5.out.log.vl (hs ▸ hi)), fun k hk => .inl hk, (two_log K5.out).setCell (p := ⟨l, 3, none⟩) (fun _ => .inl rfl) _⟩
    · have h0 : (ea != 0) = true := by simpa using hea
      have h1 : (ea == 0) = false := by simpa using hea
      go_wp2
      go_ret
      have hE3 := HE2.out
      rw [h1, cond_false] at hE3
      simp only [Prod.mk.injEq] at hE3
      obtain ⟨rfl, rfl, rfl⟩ := hE3
      exact ⟨rfl, _, H5.out, Ho5.out, fun k hk => .inl hk, two_log K5.out⟩
  · have hlti : ¬ (fx.s.size : Int) < 4096 := by omega
    have hE2 := HE.out
    rw [decide_eq_false hlt, cond_false] at hE2
    have HE2 := Lib.hid hE2
    have c3 := H3.out.log.cell3
    clear hE2 HE hlt
    by_cases hbig : 99999999 < g.next
    · have hbi : (99999999 : Int) < (g.next : Int) := by omega
      go_wp2
      go_ret
      have hE3 := HE2.out
      rw [decide_eq_true hbig, cond_true] at hE3
      simp only [Prod.mk.injEq] at hE3
      obtain ⟨rfl, rfl, rfl⟩ := hE3
      exact ⟨rfl, _, H3.out, K3.out.owns Ho.out (fun _ _ h => h), fun k hk => .inl hk, no_log K3.out⟩
    · have hbi : ¬ (99999999 : Int) < (g.next : Int) := by omega
      have hE3 := HE2.out
      rw [decide_eq_false hbig, cond_false] at hE3
      obtain ⟨⟨es, ds⟩, hsy⟩ : ∃ x, d.sync g.last = x := ⟨_, rfl⟩
      rw [hsy] at hE3
      dsimp only at hE3
      obtain ⟨⟨ea, da⟩, hap⟩ : ∃ x, ds.append (g.file g.next) (frameB s) = x := ⟨_, rfl⟩
      rw [hap] at hE3
      dsimp only at hE3
      rw [← HF.out] at hap
      have HE3 := Lib.hid hE3
      have Hap := Lib.hid hap
      have Hsy := Lib.hid hsy
      clear hE3 hap hsy HE2 hbig
      go_wp2_with fail
      go_region_held3 (fun w' => w'.cell? ⟨l, 0, none⟩ = some (dP p)) (exact d0)
        (first
          | (go_at_call 46
             refine (last_any (L3.out.kept ((Keeps.refl (S := No) w3).drew) (fun _ h => h.elim)) (H3.out.log.no ((Keeps.refl (S := No) w3).drew))).mono ?_
             rintro e w4 ⟨rfl, hk4⟩
             have K4 : Hid (Keeps No w w4) := Lib.hid ((K3.out.drew).trans hk4 (fun _ _ h => h))
             have H4 := Lib.hid (H.out.no K4.out)
             have c0 := H4.out.log.cell0
             clear hk4 d0
             have d0 := c0
             clear c0)
          | (go_at_call 45
             refine (sync_tot H4.out.disk _ es ds Hsy.out).mono ?_
             rintro e w5 ⟨rfl, hd5, hk5⟩
             have K5 : Hid (Keeps (Two p b) w w5) := Lib.hid ((K4.out.mono (fun _ _ h => h.elim)).trans hk5 (fun _ _ h => h))
             have H5 := Lib.hid (H4.out.disked hk5 hd5)
             have L5 := Lib.hid (H.out.laid HL.out (two_log K5.out))
             have c0 := H5.out.log.cell0
             clear hk5 hd5 d0
             have d0 := c0
             clear c0))
      clear c3
      have c3 := H5.out.log.cell3
      have c1 := H5.out.log.cell1
      have hl5 : l < w5.heap.size := H5.out.log.lt
      have hnm : Hid ((g.name.size : Int) ≤ 1000) := Lib.hid (by have := H.out.log.nm; omega)
      clear K4 H4 L3 H3 K3 hl3 Hsy
      go_wp2_with fail
      go_region_held3 (fun w' => w'.cell? ⟨l, 0, none⟩ = some (dP p) ∧ w'.cell? ⟨l, 3, none⟩ = some (.int .i64 g.next)) (exact ⟨d0, c3⟩)
        (first
          | (go_at_call 39
             refine (file_any _ base (L5.out.kept ((Keeps.refl (S := No) w5).drew) (fun _ h => h.elim)) l g.name hnm.out c1 g.next (by have := Hnx.out; omega)).mono ?_
             rintro e w6 ⟨rfl, hk6⟩
             have hk56 : Keeps No w5 w6 := ((Keeps.refl (S := No) w5).drew).trans hk6 (fun _ _ h => h)
             have K6 : Hid (Keeps (Two p b) w w6) := Lib.hid (K5.out.trans hk56 (fun _ _ h => h.elim))
             have H6 := Lib.hid (H5.out.no hk56)
             have e0 := H6.out.log.cell0
             have e3 := H6.out.log.cell3
             clear hk6 hk56 d0 c3 c1
             have d0 := e0
             have c3 := e3
             clear e0 e3)
          | (go_at_call 38
             refine (append_tot H6.out.disk _ F ea da Hap.out).mono ?_
             rintro e w7 ⟨rfl, hd7, hk7⟩
             have K7 : Hid (Keeps (Two p b) w w7) := Lib.hid (K6.out.trans hk7 (fun _ _ h => h))
             have H7 := Lib.hid (H6.out.disked hk7 hd7)
             have e0 := H7.out.log.cell0
             have e3 := H7.out.log.cell3
             clear hk7 hd7 d0 c3
             have d0 := e0
             have c3 := e3
             clear e0 e3))
      have Ho7 : Hid (OwnInts w7 base (.slice va g.firsts.length vc) g.firsts) := Lib.hid (K7.out.owns Ho.out (fun i hi hs => by rcases hs with e | e; exact H.out.vp (e ▸ hi); exact H.out.vb (e ▸ hi)))
      have hl7 : l < w7.heap.size := H7.out.log.lt
      clear K6 H6 K5 H5 L5 hl5 Hap
      by_cases hea : ea = 0
      · subst hea
        have h0 : ((0 : Int) != 0) = false := rfl
        have c2 := H7.out.log.cell2
        have f2 := H7.out.log.opened.frozen 2
        go_wp2_with fail
        have Hk : Hid (Keeps No w7 ((w7.alloc (.cells #[.int .i64 g.next] 3)).drew)) := Lib.hid (((Keeps.refl (S := No) w7).alloc _).drew)
        have Hown : Hid (OwnInts ((w7.alloc (.cells #[.int .i64 g.next] 3)).drew) base (.slice va g.firsts.length vc) g.firsts) := Lib.hid (Hk.out.owns Ho7.out (fun _ _ h => h))
        have Hrd : Hid (Reads ((w7.alloc (.cells #[.int .i64 g.next] 3)).drew) 1 (.slice (some ⟨w7.heap.size, 0, none⟩) 1 1) 1 [.int .i64 g.next]) := Lib.hid (Reads.kept (S := No) ((Keeps.refl _).drew) (Reads.ofOwn (World.ownsRow_lit w7 #[.int .i64 g.next] 1 (Nat.zero_le _) (by unfold maxLen; omega) rfl) (by simp [Value.oneCell'])) (fun _ _ h => h))
        have Hb7 : Hid (base ≤ w7.heap.size) := Lib.hid (by have := Hb.out; have := K7.out.size; omega)
        go_region_law (refine step_append_reads rfl (.tmp 79) (.tmp 84) 109 rfl base 3 i0 _ 1 8 Tryz.underlying109 hi hz0 hz1 hz2 rfl (by decide) (.slice va g.firsts.length vc) g.firsts.length (intsV g.firsts) rfl Hown.out _ 1 [.int .i64 g.next] rfl Hrd.out (by have := Hfl.out; unfold maxLen; omega) (by have := Hfl.out; omega) (by have := Hb7.out; simp; omega) ?_
                       intro v' w8 ho8 hk8 hb8 _
                       obtain ⟨wa, wc, rfl⟩ := ownsRow_slice ho8
                       have K8 : Hid (Keeps (Of (.slice va g.firsts.length vc)) w7 w8) := Lib.hid ((Hk.out.mono (fun _ _ h => h.elim)).trans hk8 (fun _ _ h => h))
                       have HN : Hid (Newer w7 (.slice va g.firsts.length vc) (.slice wa (g.firsts.length + 1) wc)) := Lib.hid (fun q hq => by rcases hb8 q hq with e | e; exact .inl e; exact .inr (Nat.le_trans Hk.out.size e))
                       have HW := Lib.hid (H7.out.pushed Hb7.out K8.out ho8 HN.out Hnx.out)
                       have hh8 := K8.out.heap H7.out.log.cells (fun e => H7.out.log.vl e)
                       have k2 : w8.cell? ⟨l, 2, none⟩ = some (.slice va g.firsts.length vc) := by rw [cell_of_row w8 l 2 _ _ _ hh8]; rfl
                       have k3 : w8.cell? ⟨l, 3, none⟩ = some (.int .i64 g.next) := by rw [cell_of_row w8 l 3 _ _ _ hh8]; rfl
                       have q2 := frozen_of_row w8 l 2 _ _ hh8
                       have q3 := frozen_of_row w8 l 3 _ _ hh8
                       have hl8 : l < w8.heap.size := (Array.getElem?_eq_some_iff.1 hh8).1
                       clear hh8 ho8 hk8 hb8)
        all_goals
          have hg1 : (g.next : Int) + 1 ≤ 4611686018427387904 := by have := Hnx.out; omega
          have hg0 : (0 : Int) ≤ (g.next : Int) := by omega
          go_wp2
          go_ret
          have hE4 := HE3.out
          have e1 : ((0 : Int) == 0) = true := rfl
          rw [e1, cond_true] at hE4
          simp only [Prod.mk.injEq] at hE4
          obtain ⟨rfl, rfl, rfl⟩ := hE4
          exact ⟨rfl, _, HW.out.1, HW.out.2.1, fun k hk => by rcases HN.out k hk with e | e; exact .inl e; exact .inr (Nat.le_trans K7.out.size e), (two_log K7.out).trans HW.out.2.2 (fun _ _ h => h)⟩
      · have h0 : (ea != 0) = true := by simpa using hea
        have h1 : (ea == 0) = false := by simpa using hea
        go_wp2
        go_ret
        have hE4 := HE3.out
        rw [h1, cond_false] at hE4
        simp only [Prod.mk.injEq] at hE4
        obtain ⟨rfl, rfl, rfl⟩ := hE4
        exact ⟨rfl, _, H7.out, Ho7.out, fun k hk => .inl hk, two_log K7.out⟩
end
end Go.Proofs.YtndjnkjcfdaegaaGreatDoor

