/-
  wal's right and segments. No conditions of their own, but that the tables are laid.
-/
import Derived.Test.YtghamhipcpgofaaGreatDoorWaD
import Derived.Lib.ConvBytes
import Derived.Lib.SmallJoins
import Derived.Deep.Onto
namespace Go.Proofs.YtghamhipcpgofaaGreatDoor
open Go.RowKit Go.Shelf Go.Sort Go.Joins

/-- a letter that a log's name may have -/
def okC (c : UInt8) : Bool := (decide (97 ≤ c.toNat) && decide (c.toNat ≤ 122)) || (decide (48 ≤ c.toNat) && decide (c.toNat ≤ 57))
/-- may a log have a name? -/
def rightB (name : ByteArray) : Bool := name.data.toList.all okC && (decide (1 ≤ name.size) && decide (name.size ≤ 16))
theorem keeps_bytes (w : World) (e : TypeId) (s : ByteArray) : Keeps No w (Lib.bytesWorld w e s) := Keeps.ofBelow (below_bytesWorld w.heap.size w e s (Nat.le_refl _))

set_option maxRecDepth 100000 in
set_option maxHeartbeats 2000000 in
theorem right_any (w : World) (name : ByteArray) (hn : (name.size : Int) ≤ 140737488355328) (r : Bool) (hr : rightB name = r) : Calls Tryz.prog 41 #[.string name] w fun e w' => e = .returned (.bool r) ∧ Keeps No w w' := by
  have hcv := Lib.run_convert_string_bytes (P := Tryz.prog) w 9 40 5 name Tryz.underlying9 Tryz.underlying40 Tryz.underlying5
  have hcell := Lib.bytesWorld_cell w 5 name
  have hkb := keeps_bytes w 5 name
  generalize grownCap w name.size 0 5 = cap at hcv
  generalize Lib.bytesWorld w 5 name = W at hcv hcell hkb
  have Hcell := Lib.hid hcell
  have HK := Lib.hid hkb
  have Hr := Lib.hid hr
  clear hcell hkb hr
  go_enter Tryz.func41, Tryz.ntmps41
  go_wp2
  go_loop [8] (fun q => ∃ k : Nat, k ≤ name.size ∧ q = .int .i64 k ∧ (name.data.toList.take k).all okC = true) (fun q => name.size - (intOf q).toNat)
  case atStart => exact ⟨0, Nat.zero_le _, rfl, rfl⟩
  case round =>
    obtain ⟨k, hk, rfl, hall⟩ := hrel
    by_cases hlt : k < name.size
    · have hc := Hcell.out k hlt
      have hlt' : k < name.data.toList.length := by simpa using hlt
      have htk : name.data.toList.take (k + 1) = name.data.toList.take k ++ [name.data.toList[k]] := List.take_succ_eq_append_getElem hlt'
      have hg : name.data.toList.getD k 0 = name.data.toList[k] := by simp [List.getD, hlt]
      have hmem : name.data.toList[k] ∈ name.data.toList := List.getElem_mem hlt'
      rw [hg] at hc
      obtain ⟨c, hce⟩ : ∃ c, c = name.data.toList[k] := ⟨_, rfl⟩
      rw [← hce] at hc htk hmem
      have hz := c.toNat_lt
      obtain ⟨n, hn2⟩ : ∃ n, n = c.toNat := ⟨_, rfl⟩
      rw [← hn2] at hc hz
      have hk0 : (0 : Int) ≤ (k : Int) := by omega
      have Htk := Lib.hid htk
      have Hall := Lib.hid hall
      have Hmem := Lib.hid hmem
      have Hn2 := Lib.hid hn2
      clear hce hg htk hall hmem hn2
      have hcase : (n < 48 ∨ (57 < n ∧ n < 97) ∨ 122 < n) ∨ (48 ≤ n ∧ n ≤ 57) ∨ (97 ≤ n ∧ n ≤ 122) := by omega
      rcases hcase with hbad | hgood
      · have Hf : Hid (r = false) := by
          refine Lib.hid ?_
          rw [← Hr.out]
          unfold rightB
          have : name.data.toList.all okC = false := by
            rw [List.all_eq_false]
            refine ⟨c, Hmem.out, ?_⟩
            unfold okC
            have := Hn2.out
            simp only [Bool.or_eq_true, Bool.and_eq_true, decide_eq_true_eq]
            omega
          rw [this, Bool.false_and]
        rcases hbad with hb | ⟨hb, hb2⟩ | hb
        all_goals
          (try have a1 : (n : Int) < 97 := by omega)
          (try have a1 : ¬ (n : Int) < 97 := by omega)
          (try have a2 : (122 : Int) < (n : Int) := by omega)
          (try have a2 : ¬ (122 : Int) < (n : Int) := by omega)
          (try have a3 : (n : Int) < 48 := by omega)
          (try have a3 : ¬ (n : Int) < 48 := by omega)
          (try have a4 : (57 : Int) < (n : Int) := by omega)
          (try have a4 : ¬ (57 : Int) < (n : Int) := by omega)
          go_wp2
          go_ret
          exact ⟨by rw [Hf.out]; rfl, HK.out⟩
      · have hok : Hid ((name.data.toList.take (k + 1)).all okC = true) := by
          refine Lib.hid ?_
          rw [Htk.out, List.all_append, Hall.out]
          have : okC c = true := by
            unfold okC
            have := Hn2.out
            simp only [Bool.or_eq_true, Bool.and_eq_true, decide_eq_true_eq]
            omega
          simp [this]
        rcases hgood with ⟨hb, hb2⟩ | ⟨hb, hb2⟩
        all_goals
          (try have a1 : (n : Int) < 97 := by omega)
          (try have a1 : ¬ (n : Int) < 97 := by omega)
          (try have a2 : (122 : Int) < (n : Int) := by omega)
          (try have a2 : ¬ (122 : Int) < (n : Int) := by omega)
          (try have a3 : (n : Int) < 48 := by omega)
          (try have a3 : ¬ (n : Int) < 48 := by omega)
          (try have a4 : (57 : Int) < (n : Int) := by omega)
          (try have a4 : ¬ (57 : Int) < (n : Int) := by omega)
          go_wp2
          go_round
          case rel => exact ⟨k + 1, by omega, by go_num, hok.out⟩
          case measure => simp [intOf]; omega
    · obtain rfl : k = name.size := by omega
      have Hf : Hid (r = (decide (1 ≤ name.size) && decide (name.size ≤ 16))) := by
        refine Lib.hid ?_
        rw [← Hr.out]
        unfold rightB
        rw [List.take_of_length_le (by simp)] at hall
        rw [hall, Bool.true_and]
      clear hall hlt
      by_cases h1 : 1 ≤ name.size
      · by_cases h2 : name.size ≤ 16
        · have b1 : (1 : Int) ≤ (name.size : Int) := by omega
          have b2 : (name.size : Int) ≤ 16 := by omega
          go_wp2
          go_ret
          exact ⟨by rw [Hf.out, decide_eq_true h1, decide_eq_true h2]; rfl, HK.out⟩
        · have b1 : (1 : Int) ≤ (name.size : Int) := by omega
          have b2 : ¬ (name.size : Int) ≤ 16 := by omega
          go_wp2
          go_ret
          exact ⟨by rw [Hf.out, decide_eq_true h1, decide_eq_false h2]; rfl, HK.out⟩
      · have b1 : ¬ (1 : Int) ≤ (name.size : Int) := by omega
        go_wp2
        go_ret
        exact ⟨by rw [Hf.out, decide_eq_false h1]; rfl, HK.out⟩

/-- the number of the segment of a log, by its file's name -/
def segOf (name f : Nm) : Option Nat :=
  bif Lib.hasPrefix f (name ++ [46]) then (bif decide ((Lib.trimPrefix f (name ++ [46])).length = 8) then Lib.decNat (Lib.trimPrefix f (name ++ [46])) else none) else none
def segsOf (name : Nm) (fs : List Nm) : List Nat := fs.filterMap (segOf name)
def digitsL : Nm := [48, 49, 50, 51, 52, 53, 54, 55, 56, 57]
set_option maxRecDepth 100000 in
theorem digit_iff (c : UInt8) : digitsL.contains c = (Lib.digitVal c).isSome := by
  have h : ∀ n : Fin 256, digitsL.contains (UInt8.ofNat n.1) = (Lib.digitVal (UInt8.ofNat n.1)).isSome := by decide
  have := h ⟨c.toNat, c.toNat_lt⟩
  simpa using this
theorem decFrom_some : ∀ (l : Nm) (a : Nat), (Lib.decFrom a l).isSome = l.all digitsL.contains
  | [], a => rfl
  | c :: l, a => by
    rw [Lib.decFrom, List.all_cons, digit_iff]
    cases h : Lib.digitVal c with
    | none => rfl
    | some d => simp [decFrom_some l]
theorem dropWhile_nil (p : UInt8 → Bool) : ∀ l : Nm, l.dropWhile p = [] ↔ ∀ c ∈ l, p c = true
  | [] => by simp
  | c :: l => by
    rw [List.dropWhile_cons]
    cases h : p c
    · simp [h]
    · simp [h, dropWhile_nil p l]
theorem trim_nil (l cs : Nm) : Lib.trimS l cs = [] ↔ l.all cs.contains = true := by
  unfold Lib.trimS Lib.trimLeftS Lib.trimRightS
  constructor
  · intro h
    rw [dropWhile_nil] at h
    rw [List.all_eq_true]
    intro c hc
    by_cases hm : c ∈ (l.reverse.dropWhile (cs.contains ·)).reverse
    · exact h c hm
    · have h2 : c ∈ l.reverse := List.mem_reverse.2 hc
      rw [← List.takeWhile_append_dropWhile (p := (cs.contains ·)) (l := l.reverse)] at h2
      rcases List.mem_append.1 h2 with h3 | h3
      · exact (List.all_eq_true.1 (List.all_takeWhile (l := l.reverse) (p := (cs.contains ·)))) c h3
      · exact absurd (List.mem_reverse.2 h3) hm
  · intro h
    rw [List.all_eq_true] at h
    have : l.reverse.dropWhile (cs.contains ·) = [] := by
      rw [dropWhile_nil]
      intro c hc
      exact h c (List.mem_reverse.1 hc)
    rw [this]
    rfl
theorem atoi_digits {l : Nm} {n : Nat} (h : Lib.decNat l = some n) : Lib.atoi l = some (n : Int) := by
  cases l with
  | nil => cases h
  | cons c r =>
    have hd : (Lib.digitVal c).isSome = true := by
      unfold Lib.decNat at h
      have h2 : (Lib.decFrom 0 (c :: r)).isSome = true := by
        simp at h
        rw [h]
        rfl
      rw [decFrom_some, List.all_cons, digit_iff] at h2
      simp only [Bool.and_eq_true] at h2
      exact h2.1
    have hc1 : (c == 45) = false := by
      cases h3 : (c == 45)
      · rfl
      · rw [eq_of_beq h3] at hd
        cases hd
    have hc2 : (c == 43) = false := by
      cases h3 : (c == 43)
      · rfl
      · rw [eq_of_beq h3] at hd
        cases hd
    simp [Lib.atoi, hc1, hc2, h]
theorem decNat_lt {l : Nm} {n : Nat} (h : Lib.decNat l = some n) (hl : l.length = 8) : n < 100000000 := by
  have step : ∀ (l : Nm) (a n : Nat), Lib.decFrom a l = some n → n < (a + 1) * 10 ^ l.length := by
    intro l
    induction l with
    | nil =>
      intro a n h
      simp [Lib.decFrom] at h
      simp
      omega
    | cons c r ih =>
      intro a n h
      rw [Lib.decFrom] at h
      cases hd : Lib.digitVal c with
      | none => rw [hd] at h; cases h
      | some d =>
        rw [hd] at h
        have h1 := ih _ _ h
        have h2 : d ≤ 9 := by
          unfold Lib.digitVal at hd
          split at hd
          · simp at hd; omega
          · cases hd
        have h3 : (a * 10 + d + 1) * 10 ^ r.length ≤ ((a + 1) * 10) * 10 ^ r.length := Nat.mul_le_mul_right _ (by omega)
        rw [List.length_cons, Nat.pow_succ, Nat.mul_comm (10 ^ r.length), ← Nat.mul_assoc]
        omega
  unfold Lib.decNat at h
  split at h
  · cases h
  · have := step l 0 n h
    rw [hl] at this
    simpa using this
theorem segOf_lt {name f : Nm} {n : Nat} (h : segOf name f = some n) : n < 100000000 := by
  unfold segOf at h
  cases h1 : Lib.hasPrefix f (name ++ [46])
  · rw [h1] at h; cases h
  · rw [h1, cond_true] at h
    by_cases h2 : (Lib.trimPrefix f (name ++ [46])).length = 8
    · rw [decide_eq_true h2, cond_true] at h
      exact decNat_lt h h2
    · rw [decide_eq_false h2, cond_false] at h
      cases h
theorem Tryz.infoInt : (Tryz.prog.info? 3).map (fun i => (i.zero, i.size, i.bytes)) = some (some (.int .i64 0), 1, 8) := by kernel_rfl

set_option maxRecDepth 100000 in
set_option maxHeartbeats 4000000 in
theorem segments_any {w : World} {l p b : Nat} {d : Ds} (hd : DAt w p b d) (name : ByteArray) (hnm : (name.size : Int) ≤ 1000) (c0 : w.cell? ⟨l, 0, none⟩ = some (dP p)) (c1 : w.cell? ⟨l, 1, none⟩ = some (.string name)) :
    Calls Tryz.prog 42 #[dP l] w fun e w' => ∃ v, e = .returned v ∧ OwnInts w' w.heap.size v (segsOf name.data.toList (namesOf d.fs)) ∧ Keeps No w w' := by
  obtain ⟨i0, hi, hz0, hz1, hz2⟩ := info_parts Tryz.infoInt
  have hll := block_lt_of_cell c0
  dsimp only at hll
  have Hd := Lib.hid hd
  have Hnames : Hid (∀ f ∈ d.fs, f.1.length ≤ 32) := Lib.hid hd.nm
  have Hfew : Hid (d.fs.length ≤ 64) := Lib.hid hd.few
  obtain ⟨P, hP⟩ : ∃ P : ByteArray, P = name ++ ⟨#[46]⟩ := ⟨_, rfl⟩
  have hcat : ∀ W : World, (Op.stringOp .add name ⟨#[46]⟩).run Tryz.prog W = .ok (.string P) W := fun W => by rw [hP]; exact run_string_add_sum W _ _ (by have : (⟨#[46]⟩ : ByteArray).size = 1 := rfl; omega)
  have HP : Hid (P.data.toList = name.data.toList ++ [46]) := by rw [hP]; exact Lib.hid (by simp [ByteArray.data_append])
  clear hd hP
  go_enter Tryz.func42, Tryz.ntmps42
  go_wp2_with fail
  refine (files_any Hd.out).mono ?_
  rintro e w1 ⟨v, rfl, hv, hk1⟩
  have Hv := Lib.hid hv
  have K1 := Lib.hid hk1
  have d1 := hk1.cell c1 (fun h => h)
  clear c1 hv hk1
  have c1 := d1
  clear d1
  obtain ⟨va, vc, rfl⟩ := ownsRow_slice Hv.out
  clear c0
  go_wp2
  go_loopw [3, 16] (fun o q wr => ∃ k : Nat, k ≤ d.fs.length ∧ q = .int .i64 k ∧ OwnInts wr w1.heap.size o (segsOf name.data.toList ((namesOf d.fs).take k)) ∧ Keeps No w1 wr) (fun _ q _ => d.fs.length - (intOf q).toNat)
  case atStart => exact ⟨0, Nat.zero_le _, rfl, World.ownsRow_nil _ _ _ _, Keeps.refl _⟩
  case round =>
    obtain ⟨k, hk, rfl, ho, hK⟩ := hrel
    by_cases hlt : k < d.fs.length
    · obtain ⟨g, cap, hvv, hgb, hgl⟩ := row_some Hv.out (by omega)
      simp only [Value.slice.injEq, true_and] at hvv
      obtain ⟨rfl, rfl⟩ := hvv
      have cn := hK.cell (name_cell Hv.out k hlt) (fun h => h)
      have c2 := hK.cell c1 (fun h => h)
      have hnl := Hnames.out _ (List.getElem_mem hlt)
      have htk : segsOf name.data.toList ((namesOf d.fs).take (k + 1)) = segsOf name.data.toList ((namesOf d.fs).take k) ++ (segOf name.data.toList d.fs[k].1).toList := by
        unfold segsOf
        rw [List.take_succ_eq_append_getElem (by simpa [namesOf] using hlt), List.filterMap_append]
        simp only [namesOf, List.getElem_map]
        cases hso : segOf name.data.toList d.fs[k].1 <;> simp [hso]
      obtain ⟨f, hf⟩ : ∃ f, f = d.fs[k].1 := ⟨_, rfl⟩
      rw [← hf] at cn hnl htk
      have hol : (segsOf name.data.toList ((namesOf d.fs).take k)).length ≤ 64 := by
        refine Nat.le_trans (List.length_filterMap_le _ _) ?_
        rw [List.length_take]
        have := Hfew.out
        omega
      obtain ⟨os, hos⟩ : ∃ os, os = segsOf name.data.toList ((namesOf d.fs).take k) := ⟨_, rfl⟩
      rw [← hos] at ho htk hol
      have Htk := Lib.hid htk
      have Ho := Lib.hid ho
      have HK := Lib.hid hK
      have hk0 : (0 : Int) ≤ (k : Int) := by omega
      have hki : (k : Int) < (d.fs.length : Int) := by omega
      have hk1 : (k : Int) ≤ 64 := by have := Hfew.out; omega
      have hgr : g < wr.heap.size := by have := HK.out.size; omega
      have hlr : l < wr.heap.size := by have := HK.out.size; have := K1.out.size; omega
      obtain ⟨oa, oc, rfl⟩ := ownsRow_slice ho
      have hcp := Tryz.strings_CutPrefix ⟨f.toArray⟩ P wr
      obtain ⟨hp, hhp⟩ : ∃ h, h = Lib.hasPrefix (⟨f.toArray⟩ : ByteArray).data.toList P.data.toList := ⟨_, rfl⟩
      obtain ⟨tp, htp⟩ : ∃ t : ByteArray, t = ⟨(Lib.trimPrefix (⟨f.toArray⟩ : ByteArray).data.toList P.data.toList).toArray⟩ := ⟨_, rfl⟩
      rw [← hhp, ← htp] at hcp
      replace hcp := hcp.mono (R' := fun e w' => e = .returned (.tuple #[.string tp, .bool hp]) ∧ wr = w') (fun e w' ⟨h1, h2⟩ => ⟨h1, h2.symm⟩)
      have hso : segOf name.data.toList f = bif hp then (bif decide (tp.size = 8) then Lib.decNat tp.data.toList else none) else none := by
        unfold segOf
        rw [hhp, htp, HP.out]
        rfl
      have htl : tp.size ≤ 32 := by
        rw [htp, HP.out]
        show (Lib.trimPrefix f _).length ≤ 32
        unfold Lib.trimPrefix
        split
        · rw [List.length_drop]; omega
        · exact hnl
      have Hso := Lib.hid hso
      clear hf hos htk ho hK hnl hhp htp hso
      -- what is passed over
      cases hp with
      | false =>
        have Hn : Hid (segOf name.data.toList f = none) := Lib.hid (by rw [Hso.out]; rfl)
        go_wp2_with (go_at_call 51; refine hcp.mono ?_; rintro e w' ⟨rfl, rfl⟩)
        go_roundw
        case rel =>
          refine ⟨k + 1, by omega, by go_num, ?_, HK.out⟩
          rw [Htk.out, Hn.out]
          simpa using Ho.out
        case measure => simp [intOf]; omega
      | true =>
        by_cases h8 : tp.size = 8
        · have h8i : (tp.size : Int) = 8 := by omega
          have h8b : ((tp.size : Int) != 8) = false := by simp [h8i]
          have h8c : ((tp.size : Int) == 8) = true := by simp [h8i]
          obtain ⟨T, hT⟩ : ∃ T : ByteArray, T = ⟨(Lib.trimS tp.data.toList digitsL).toArray⟩ := ⟨_, rfl⟩
          have htr := Any.strings_Trim_laid Tryz.lays160 (by kernel_rfl) tp ⟨#[48, 49, 50, 51, 52, 53, 54, 55, 56, 57]⟩ wr (by omega) (by decide) (ascii_of_all (by decide))
          have htr2 : Calls Tryz.prog 52 #[.string tp, .string ⟨#[48, 49, 50, 51, 52, 53, 54, 55, 56, 57]⟩] wr fun e w' => e = .returned (.string T) ∧ Below wr.heap.size wr w' := by rw [hT]; exact htr
          have hnone := decFrom_some tp.data.toList 0
          have hne : tp.data.toList.isEmpty = false := by
            cases hl : tp.data.toList with
            | nil =>
              have : tp.data.toList.length = 8 := by simpa using h8
              rw [hl] at this
              cases this
            | cons => rfl
          have hdn : Lib.decNat tp.data.toList = Lib.decFrom 0 tp.data.toList := by unfold Lib.decNat; rw [hne]; rfl
          have Hso2 : Hid (segOf name.data.toList f = Lib.decFrom 0 tp.data.toList) := Lib.hid (by rw [Hso.out, decide_eq_true h8, cond_true, cond_true, hdn])
          clear htr
          cases hdf : Lib.decFrom 0 tp.data.toList with
          | none =>
            have hT2 : (T.toList.isEmpty) = false := by
              rw [ByteArray.toList_eq, hT]
              cases hx : Lib.trimS tp.data.toList digitsL with
              | nil =>
                rw [trim_nil, ← hnone, hdf] at hx
                cases hx
              | cons => rfl
            have hT3 : (!T.toList.isEmpty) = true := by rw [hT2]; rfl
            have hT4 : ¬ T.toList = [] := by intro h; rw [h] at hT2; cases hT2
            have Hn : Hid (segOf name.data.toList f = none) := Lib.hid (by rw [Hso2.out, hdf])
            clear hT hnone hne hdn hdf h8
            go_wp2_with (go_at_call 51; refine hcp.mono ?_; rintro e w' ⟨rfl, rfl⟩)
            refine htr2.mono ?_
            rintro e w2 ⟨rfl, hb2⟩
            have K2 : Hid (Keeps No wr w2) := Lib.hid (Keeps.ofBelow hb2)
            clear hb2 htr2
            go_wp2
            go_roundw
            case rel =>
              refine ⟨k + 1, by omega, by go_num, ?_, HK.out.trans K2.out (fun _ _ h => h)⟩
              rw [Htk.out, Hn.out]
              simpa using K2.out.owns Ho.out (fun _ _ h => h)
            case measure => simp [intOf]; omega
          | some n =>
            have hT2 : T = ⟨#[]⟩ := by
              rw [hT]
              have hx : Lib.trimS tp.data.toList digitsL = [] := by rw [trim_nil, ← hnone, hdf]; rfl
              rw [hx]
            have hnn : n < 100000000 := decNat_lt (l := tp.data.toList) (by rw [hdn, hdf]) (by simpa using h8)
            have hat := atoi_digits (l := tp.data.toList) (n := n) (by rw [hdn, hdf])
            have Hn : Hid (segOf name.data.toList f = some n) := Lib.hid (by rw [Hso2.out, hdf])
            have Hat := Lib.hid hat
            subst hT2
            clear hT hnone hne hdn hdf h8 hat
            go_wp2_with (go_at_call 51; refine hcp.mono ?_; rintro e w' ⟨rfl, rfl⟩)
            refine htr2.mono ?_
            rintro e w2 ⟨rfl, hb2⟩
            have K2 : Hid (Keeps No wr w2) := Lib.hid (Keeps.ofBelow hb2)
            clear hb2 htr2
            go_wp2_with fail
            refine (Tryz.strconv_Atoi tp n (by omega) Hat.out w2).mono ?_
            rintro e w3 ⟨rfl, t3, hw3⟩
            have K3 : Hid (Keeps No wr w3) := by rw [hw3]; exact Lib.hid (K2.out.trans (keeps_bytes w2 _ t3) (fun _ _ h => h))
            have Ho3 := Lib.hid (K3.out.owns Ho.out (fun _ _ h => h))
            clear hw3
            go_wp2_with (at_builtin; refine wpList_append_own _ rfl _ _ 30 rfl w1.heap.size 3 i0 (.int .i64 0) 1 8 Tryz.underlying30 hi hz0 hz1 hz2 rfl (by decide) _ _ _ rfl (Ho3.out.alloc _) ⟨w3.heap.size, 0, none⟩ 1 1 [.int .i64 n] rfl rfl (cell_one_new _ _ _) (by simp [Value.oneCell']) (by unfold maxLen; omega) (by omega) (by have := HK.out.size; have := K3.out.size; simp; omega) ?_; intro v' w4 hown4 hk4 _)
            have Ho4 := Lib.hid hown4
            have K4 : Hid (Keeps No w1 w4) := Lib.hid (((HK.out.trans K3.out (fun _ _ h => h)).alloc _).grown hk4 (fun i hi2 hlt2 => absurd hlt2 (Nat.not_lt.2 (Ho3.out.lt i hi2).1)))
            clear hown4 hk4
            go_wp2
            go_roundw
            case rel =>
              refine ⟨k + 1, by omega, by go_num, ?_, K4.out⟩
              unfold OwnInts
              rw [Htk.out, Hn.out, List.length_append, intsV_append]
              exact Ho4.out
            case measure => simp [intOf]; omega
        · have Hn : Hid (segOf name.data.toList f = none) := Lib.hid (by rw [Hso.out, decide_eq_false h8]; rfl)
          have h8i : ¬ (tp.size : Int) = 8 := by omega
          have h8b : ((tp.size : Int) != 8) = true := by simpa using h8i
          go_wp2_with (go_at_call 51; refine hcp.mono ?_; rintro e w' ⟨rfl, rfl⟩)
          go_roundw
          case rel =>
            refine ⟨k + 1, by omega, by go_num, ?_, HK.out⟩
            rw [Htk.out, Hn.out]
            simpa using Ho.out
          case measure => simp [intOf]; omega
    · have hkk : k = d.fs.length := by omega
      subst hkk
      have hnl : (namesOf d.fs).take d.fs.length = namesOf d.fs := List.take_of_length_le (by simp [namesOf])
      rw [hnl] at ho
      have Ho := Lib.hid ho
      have HK := Lib.hid hK
      obtain ⟨oa, oc, rfl⟩ := ownsRow_slice ho
      clear ho hK hnl
      go_wp2
      go_ret
      exact ⟨_, rfl, Ho.out.mono K1.out.size, K1.out.trans HK.out (fun _ _ h => h)⟩
end Go.Proofs.YtghamhipcpgofaaGreatDoor
