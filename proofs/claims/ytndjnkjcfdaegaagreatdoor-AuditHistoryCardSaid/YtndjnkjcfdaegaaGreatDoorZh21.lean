/-
  Texts in one: WaK, WaM, WaN. No conditions of their own.
-/
import Derived.Test.YtndjnkjcfdaegaaGreatDoorZh20
import Derived.Test.YtndjnkjcfdaegaaGreatDoorZh09
set_option linter.all false

/-
  wal.Open as data, and its walk. No conditions of their own, but that the tables are laid.
-/
namespace Go.Proofs.YtndjnkjcfdaegaaGreatDoor
open Go.RowKit Go.Shelf Go.Sort Go.Joins

attribute [local go_sem] Oper.semAt_some

section
variable {F : Fence} {n : Nat} {P : Program}
/-- a range over an iterator of two, whose variable is assigned to one slot -/
theorem range_two {α : Type} {g : Operand} {p1 p2 : Tmp} {assign body : Code} {Q : Exit → Act → World → Prop} {T : Array Value} {w : World}
    (hro : F.round = none) (h1 : 1 ≤ n) {gf : Nat} {lb : Array Value} (hg : Act.eval ⟨T, []⟩ g = .func (.func gf) #[] lb) (hFg : F.fn gf) (eg : ∀ args w, (callFunc gf args).run P w = .ok (.enter gf args) w)
    {e1 e2 : α → Value} {Kp : World → World → Prop} {S Sp : List α → Prop} {N : Nat} (hseq : SeqStopsK F (n - 1) P gf lb (fun x => #[e1 x, e2 x]) Kp S Sp N w)
    (hKt : ∀ {A B C : World}, Kp A B → Kp B C → Kp A C) (hKb : ∀ (W : World) (l : Nat) (o o' : Obj), w.heap.size ≤ l → W.heap[l]? = some o → o.isCells = false → o.isWalk = false → Kp W (W.putObj l o'))
    (I : List α → World → Prop) (hI : OwnFrom w.heap.size I) (h0 : I [] w) (d : Nat) (v : α → Value)
    (hassign : ∀ (l : Nat) (x : α) (W : World) (K : Act → World → Prop), K ⟨((T.setIfInBounds p1 (e1 x)).setIfInBounds p2 (e2 x)).setIfInBounds d (v x), []⟩ W →
      assign.wpIn (F.inRound l) (n - 1 - 1) P (Exit.then K (fun _ _ _ => False)) ⟨(T.setIfInBounds p1 (e1 x)).setIfInBounds p2 (e2 x), []⟩ W)
    (hbody : ∀ (l : Nat) (pre : List α) (x : α) (W : World), I pre W → pre.length < N → body.wpIn (F.inRound l) (n - 1 - 1) P (ownPostG w.heap.size Kp I (fun _ _ _ => False) (pre ++ [x]) W) ⟨((T.setIfInBounds p1 (e1 x)).setIfInBounds p2 (e2 x)).setIfInBounds d (v x), []⟩ W)
    (hdone : ∀ (D : Nat) (xs : List α) (W : World), w.heap.size ≤ D → S xs → I xs W → W.heap[D]? = some (.deferred (some [])) → Q .normal ⟨T, [{ target := .collected D, args := #[] }]⟩ W) :
    (Code.rangeFunc g #[p1, p2] assign body).wpIn F n P Q ⟨T, []⟩ w :=
  wpIn_rangeFunc_ownG hro h1 hg hFg eg hseq hKt hKb (Below.refl _ _) (fun _ => rfl) I (fun _ _ _ => False) hI (fun _ _ _ _ _ hs _ _ => hs) h0 _ (fun l x W K hK => by simpa using hassign l x W K hK) hbody
    (fun D xs W h1 h2 h3 h4 => hdone D xs W h1 h2 h3 h4) (fun _ _ _ _ _ _ h _ => h.elim)
end
/-- rows of two kinds lie in two blocks -/
theorem rows_apart {w : World} {b1 b2 s1 s2 : Nat} {e1 e2 : TypeId} {v1 v2 : Value} {n1 n2 : Nat} {x1 x2 : List Value} (h1 : w.ownsRow b1 e1 s1 v1 n1 x1) (h2 : w.ownsRow b2 e2 s2 v2 n2 x2) (he : e1 ≠ e2) : ∀ k, v1.ownBlock = some k → ¬ v2.ownBlock = some k := by
  intro k hk1 hk2
  rcases h1.2 with ⟨rfl, _⟩ | ⟨g, _, _, rfl, _, hh, _⟩
  · cases hk1
  · rcases h2.2 with ⟨rfl, _⟩ | ⟨g', _, _, rfl, _, hh', _⟩
    · cases hk2
    · cases hk1
      cases hk2
      rw [hh] at hh'
      simp only [Option.some.injEq, Obj.cells.injEq] at hh'
      exact he hh'.2.1
theorem ownsRow_less {w : World} {b1 b2 s : Nat} {e : TypeId} {v : Value} {n : Nat} {xs : List Value} (h : w.ownsRow b1 e s v n xs) (hb : b2 ≤ b1) : w.ownsRow b2 e s v n xs := by
  refine ⟨h.1, ?_⟩
  rcases h.2 with h2 | ⟨g, cap, cur, rfl, hg, r⟩
  · exact .inl h2
  · exact .inr ⟨g, cap, cur, rfl, Nat.le_trans hb hg, r⟩
/-- where a log that is being opened stands -/
structure OpSt where
  whole : Bool
  firsts : List Nat
  next : Nat
  out : List Nm
  d : Ds
def OpSt.recs (name : ByteArray) (st : OpSt) (n : Nat) : List Nm := parse (st.d.look (fileNm name n)).s.data.toList
/-- one segment is read -/
def opStep (name : ByteArray) (st : OpSt) (n : Nat) : OpSt :=
  bif st.whole && decide (n = st.next) then
    ⟨decide (flen (st.recs name n) = (st.d.look (fileNm name n)).s.size), st.firsts ++ [n], st.next + (st.recs name n).length, st.out ++ st.recs name n, (st.d.truncate (fileNm name n) (flen (st.recs name n))).2⟩
  else ⟨false, st.firsts, st.next, st.out, st.d⟩
/-- the segments that are there; where there is none, one is made -/
def opThere (d : Ds) (name : ByteArray) : Int × List Nat × Ds :=
  bif (segsOf name.data.toList (namesOf d.fs)).isEmpty then ((d.append (fileNm name 0) ⟨#[]⟩).1, [0], (d.append (fileNm name 0) ⟨#[]⟩).2) else (0, segsOf name.data.toList (namesOf d.fs), d)
def opRun (name : ByteArray) (there : List Nat) (d : Ds) : OpSt := there.foldl (opStep name) ⟨true, [], there.headD 0, [], d⟩
/-- what is opened: the log, its records, the disk -/
def opEnd (name : ByteArray) (there : List Nat) (st : OpSt) : Lg × List Nm × Ds :=
  (⟨name, st.firsts, st.next⟩, st.out, ((rmAll name (there.drop st.firsts.length).reverse st.d).sync (fileNm name (lastN st.firsts))).2)

theorem opStep_firsts (name : ByteArray) (st : OpSt) (n : Nat) : (opStep name st n).firsts = st.firsts ∨ (opStep name st n).firsts = st.firsts ++ [n] := by
  unfold opStep
  cases st.whole && decide (n = st.next)
  · exact .inl rfl
  · exact .inr rfl

theorem opFold_grows (name : ByteArray) : ∀ (L : List Nat) (st : OpSt), st.firsts.length ≤ (L.foldl (opStep name) st).firsts.length
  | [], _ => Nat.le_refl _
  | n :: L, st => by
    refine Nat.le_trans ?_ (opFold_grows name L (opStep name st n))
    rcases opStep_firsts name st n with h | h <;> rw [h]
    · exact Nat.le_refl _
    · simp
theorem opRun_ne (name : ByteArray) (there : List Nat) (d : Ds) (h : 0 < there.length) : 0 < (opRun name there d).firsts.length := by
  cases there with
  | nil => cases h
  | cons a r =>
    unfold opRun
    rw [List.foldl_cons]
    refine Nat.lt_of_lt_of_le ?_ (opFold_grows name r _)
    have : (opStep name ⟨true, [], List.headD (a :: r) 0, [], d⟩ a).firsts = [a] := by
      unfold opStep
      simp
    rw [this]
    exact Nat.zero_lt_one
/-- the log that is being opened at l: behind the world wS all that was turned is the log and the disk -/
structure OpAt (wS wr : World) (l p b : Nat) (name : ByteArray) (v ov : Value) (st : OpSt) (k : Nat) : Prop where
  kp : Keeps (Core l p b) wS wr
  disk : DAt wr p b st.d
  cl : wr.heap[l]? = some (.cells #[dP p, .string name, v, .int .i64 st.next] lT (0, 0))
  row : OwnInts wr wS.heap.size v st.firsts
  out : OwnStr wr wS.heap.size ov st.out.length st.out
  bf : st.firsts.length ≤ k
  bo : (st.out.length : Int) ≤ (k : Int) * 599187
  bn : (st.next : Int) ≤ 100000000 + (k : Int) * 599187
  bl : ∀ n ∈ st.firsts, n < 100000000

theorem OpAt.skip {wS wr : World} {l p b : Nat} {name : ByteArray} {v ov : Value} {s : OpSt} {k : Nat} (h : OpAt wS wr l p b name v ov s k) : OpAt wS wr l p b name v ov ⟨false, s.firsts, s.next, s.out, s.d⟩ (k + 1) :=
  ⟨h.kp, h.disk, h.cl, h.row, h.out, by have := h.bf; show s.firsts.length ≤ _; omega, by have := h.bo; show (s.out.length : Int) ≤ _; omega, by have := h.bn; show (s.next : Int) ≤ _; omega, h.bl⟩

/-- what Open opens -/
def OpenPost (w : World) (base p b : Nat) (g : Lg) (out : List Nm) (d' : Ds) (e : Ending) (w' : World) : Prop :=
  ∃ (l : Nat) (v ov : Value), e = .returned (.tuple #[dP l, ov, .int .i64 0]) ∧ WLog w' base l p b v g d' ∧ OwnInts w' w.heap.size v g.firsts ∧ OwnStr w' w.heap.size ov out.length out ∧ w.heap.size ≤ l ∧ (∀ k, ov.ownBlock = some k → ¬ LogS l p b v k) ∧ Keeps (Two p b) w w'

/-- the segments that are there, in memory -/
structure ThereAt (wA : World) (p b B : Nat) (there : List Nat) (d1 : Ds) (s8 : Value) (wx : World) : Prop where
  rd : RdInts wx s8 there
  kp : Keeps (Two p b) wA wx
  disk : DAt wx p b d1
  tb : ∀ k, s8.ownBlock = some k → B < k
  ne : 0 < there.length
  few : there.length ≤ 64
  lt : ∀ n ∈ there, n < 100000000
theorem segs_few {w : World} {p b : Nat} {d : Ds} (h : DAt w p b d) (name : Nm) : (segsOf name (namesOf d.fs)).length ≤ 64 ∧ ∀ n ∈ segsOf name (namesOf d.fs), n < 100000000 := by
  refine ⟨Nat.le_trans (List.length_filterMap_le _ _) (by simpa [namesOf] using h.few), fun n hn => ?_⟩
  unfold segsOf at hn
  obtain ⟨f, _, hf⟩ := List.mem_filterMap.1 hn
  exact segOf_lt hf

set_option maxRecDepth 100000 in
set_option maxHeartbeats 8000000 in
theorem openLog_any {w : World} {base p b : Nat} {d : Ds} (hL : Laid w base) (hb : base ≤ w.heap.size) (hd : DAt w p b d) (hbp : base ≤ p) (hbb : base ≤ b) (name : ByteArray) (hr : rightB name = true) (there : List Nat) (d1 : Ds) (hth : opThere d name = (0, there, d1))
    (st : OpSt) (hst : opRun name there d1 = st) (g : Lg) (out : List Nm) (d' : Ds) (hend : opEnd name there st = (g, out, d')) :
    Calls Tryz.prog 18 #[dP p, .string name] w (OpenPost w base p b g out d') := by
  have hnm : Hid (1 ≤ name.size ∧ name.size ≤ 16) := Lib.hid (by
    unfold rightB at hr
    simp only [Bool.and_eq_true, decide_eq_true_eq] at hr
    exact hr.2)
  obtain ⟨i0, hi, hz0, hz1, hz2⟩ := info_parts Tryz.infoInt
  obtain ⟨j0, hj, jz0, jz1, jz2⟩ := info_parts Tryz.infoStr
  have Hb := Lib.hid hb
  have HL := Lib.hid hL
  have Hd := Lib.hid hd
  have Hbp := Lib.hid (And.intro hbp hbb)
  have Hr := Lib.hid hr
  have Hth := Lib.hid hth
  have Hst := Lib.hid hst
  have Hend := Lib.hid hend
  clear hb hL hd hbp hbb hr hth hst hend
  refine (callsIn_wide (n := 8)).1 ?_
  refine callsIn_of_wp_marks Tryz.func18 rfl trivial ?_ rfl
  refine (wpIn_wide (n := 8)).2 ?_
  simp only [Tryz.ntmps18, List.size_toArray, List.length_cons, List.length_nil, Nat.reduceAdd, Nat.reduceSub, Array.replicate_succ, Array.replicate_zero, List.push_toArray, List.append_toArray, List.nil_append, List.cons_append]
  go_wp2_with fail
  refine (right_any _ name (by have := hnm.out; omega) true Hr.out).mono ?_
  rintro e w1 ⟨rfl, hk1⟩
  have K1 : Hid (Keeps No w w1) := Lib.hid (((Keeps.refl (S := No) w).alloc _).trans hk1 (fun _ _ h => h))
  have b0 : w1.cell? ⟨w.heap.size, 0, none⟩ = some (dP p) := hk1.cell (cell_one_new _ _ _ 0 _ rfl) (fun h => h)
  have hs1 : w.heap.size < w1.heap.size := by have := hk1.size; simp at this; omega
  clear hk1
  go_wp2_with fail
  obtain ⟨l, hl⟩ : ∃ l, w1.heap.size = l := ⟨_, rfl⟩
  obtain ⟨B0, hB0⟩ : ∃ B, w.heap.size = B := ⟨_, rfl⟩
  obtain ⟨wA, hwA⟩ : ∃ W, W = ((w1.alloc (.cells #[dP p, .string name, .slice none 0 0, .int .i64 0] lT)).alloc (.cells #[dP l] 60)) := ⟨_, rfl⟩
  have KA : Hid (Keeps No w wA) := by rw [hwA]; exact Lib.hid ((K1.out.alloc _).alloc _)
  have k1A : Keeps No w1 wA := by rw [hwA]; exact ((Keeps.refl (S := No) w1).alloc _).alloc _
  have a0 : wA.cell? ⟨B0, 0, none⟩ = some (dP p) := by rw [← hB0]; exact k1A.cell b0 (fun h => h)
  have acl : wA.heap[l]? = some (.cells #[dP p, .string name, .slice none 0 0, .int .i64 0] lT (0, 0)) := by rw [hwA, ← hl]; exact ((Keeps.refl (S := No) _).alloc _).heap (heap_alloc_new _ _) (fun h => h)
  have a2 : wA.cell? ⟨l + 1, 0, none⟩ = some (dP l) := by
    have h := heap_alloc_new (w1.alloc (.cells #[dP p, .string name, .slice none 0 0, .int .i64 0] lT)) (.cells #[dP l] 60)
    rw [World.size_alloc, hl, ← hwA] at h
    simp [World.cell?, h]
  have hsz : wA.heap.size = l + 2 := by rw [hwA]; simp [hl]
  have hBl : B0 < l := by omega
  have hDA := Lib.hid (Hd.out.kept KA.out (fun h => h) (fun h => h))
  have hpb : p < B0 ∧ b < B0 := by have := Hd.out.lt; omega
  rw [hl, hB0, ← hwA]
  have Hl := Lib.hid (And.intro hl hB0)
  clear hwA hl hB0 k1A b0 hs1
  refine (segments_any hDA.out name (by have := hnm.out; omega) (by simp [World.cell?, acl]) (by simp [World.cell?, acl])).mono ?_
  rintro e w2 ⟨sv, rfl, hs2, hk2⟩
  have hsf := segs_few hDA.out name.data.toList
  obtain ⟨segs, hsegs⟩ : ∃ L, L = segsOf name.data.toList (namesOf d.fs) := ⟨_, rfl⟩
  have hth := Hth.out
  unfold opThere at hth
  rw [← hsegs] at hs2 hsf hth
  obtain ⟨sa, sc, rfl⟩ := ownsRow_slice hs2
  have Hs2 := Lib.hid hs2
  have K2 := Lib.hid hk2
  have Hsf := Lib.hid hsf
  have Hth2 := Lib.hid hth
  have HD2 := Lib.hid (hDA.out.kept hk2 (fun h => h) (fun h => h))
  clear hs2 hk2 hsf hth hsegs
  go_upto_if 35 with fail
  go_cut [8, 9] from 36 to 44 (fun s8 s9 wx => ThereAt wA p b (l + 1) there d1 s8 wx)
  case first =>
    by_cases hne : 0 < segs.length
    · have he : segs.isEmpty = false := by cases segs with | nil => cases hne | cons => rfl
      have hne2 : ¬ (segs.length : Int) = 0 := by omega
      have hne3 : ((segs.length : Int) == 0) = false := by simpa using hne2
      have hth := Hth2.out
      rw [he, cond_false] at hth
      simp only [Prod.mk.injEq, true_and] at hth
      obtain ⟨rfl, rfl⟩ := hth
      go_wp2_with fail
      go_meet
      case rel => exact ⟨Reads.ofOwn Hs2.out (fun u hu => intsV_one u _ hu), K2.out.mono (fun _ _ h => h.elim), HD2.out, fun k hk => by have := (Hs2.out.lt k hk).1; omega, hne, Hsf.out.1, Hsf.out.2⟩
    · have hs0 : segs = [] := List.eq_nil_of_length_eq_zero (by omega)
      subst hs0
      have hth := Hth2.out
      simp only [List.isEmpty_nil, cond_true, Prod.mk.injEq] at hth
      obtain ⟨he, rfl, rfl⟩ := hth
      have Hap : Hid (d.append (fileNm name 0) ⟨#[]⟩ = (0, (d.append (fileNm name 0) ⟨#[]⟩).2)) := Lib.hid (Prod.ext he rfl)
      have LA := Lib.hid ((HL.out.kept KA.out (fun _ h => h.elim)).kept K2.out (fun _ h => h.elim))
      have c1 : w2.cell? ⟨l, 1, none⟩ = some (.string name) := K2.out.cell (by simp [World.cell?, acl]) (fun h => h)
      have e0 := K2.out.cell a0 (fun h => h)
      have e2 := K2.out.cell a2 (fun h => h)
      have hl2 : l + 1 < w2.heap.size := by have := K2.out.size; omega
      have hB2 : B0 < w2.heap.size := by omega
      clear he hne
      go_wp2_with fail
      go_region_held3 (fun w' => w'.cell? ⟨B0, 0, none⟩ = some (dP p) ∧ w'.cell? ⟨l + 1, 0, none⟩ = some (dP l)) (exact ⟨e0, e2⟩)
        (first
          | (go_at_call 39
             refine (file_any _ base (LA.out.kept ((Keeps.refl (S := No) w2).drew) (fun _ h => h.elim)) l name (by have := hnm.out; omega) c1 0 (by omega)).mono ?_
             rintro e w3 ⟨rfl, hk3⟩
             have K3 : Hid (Keeps No w2 w3) := Lib.hid (((Keeps.refl (S := No) w2).drew).trans hk3 (fun _ _ h => h))
             have f0 := K3.out.cell e0 (fun h => h)
             have f2 := K3.out.cell e2 (fun h => h)
             clear hk3 e0 e2 c1
             have e0 := f0
             have e2 := f2
             clear f0 f2)
          | (go_at_call 38
             refine (append_tot (HD2.out.kept K3.out (fun h => h) (fun h => h)) (fileNm name 0) ⟨#[]⟩ 0 _ Hap.out).mono ?_
             rintro e w4 ⟨rfl, hd4, hk4⟩
             have K4 : Hid (Keeps (Two p b) wA w4) := Lib.hid (((K2.out.trans K3.out (fun _ _ h => h)).mono (fun _ _ h => h.elim)).trans hk4 (fun _ _ h => h))
             have HD4 := Lib.hid hd4
             have f0 := hk4.cell e0 (fun e => by rcases e with e | e; (have e' : B0 = p := e; omega); (have e' : B0 = b := e; omega))
             have f2 := hk4.cell e2 (fun e => by rcases e with e | e; (have e' : l + 1 = p := e; omega); (have e' : l + 1 = b := e; omega))
             clear hk4 hd4 e0 e2
             have e0 := f0
             have e2 := f2
             clear f0 f2))
      have hl4 : l + 1 < w4.heap.size := by have := K4.out.size; omega
      go_wp2_with fail
      go_meet
      case rel => exact ⟨Reads.ofOwn (World.ownsRow_lit w4 #[.int .i64 0] 1 (Nat.zero_le _) (by unfold maxLen; omega) rfl) (fun u hu => intsV_one u _ hu), K4.out.alloc _, HD4.out.kept ((Keeps.refl (S := No) w4).alloc _) (fun h => h) (fun h => h), fun k hk => by cases hk; omega, by decide, by decide, fun n hn => by rw [List.mem_singleton.1 hn]; omega⟩
  case rest =>
    obtain ⟨wb, hwb⟩ : ∃ x : World, x = wc := ⟨_, rfl⟩
    subst hwb
    obtain ⟨ta, tc, rfl⟩ := hcut.rd.slice
    obtain ⟨tq, toff, tc', hte, htc, _, htq, htx⟩ := RdInts.cell hcut.rd hcut.ne
    simp only [Value.slice.injEq, true_and] at hte
    obtain ⟨rfl, rfl⟩ := hte
    have hne := hcut.ne
    obtain ⟨t0, ht0⟩ : ∃ n, there[0]? = some n := ⟨there[0], List.getElem?_eq_getElem hne⟩
    have ht00 : wb.cell? ⟨tq, toff, none⟩ = some (.int .i64 t0) := htx 0 t0 ht0
    have hkp := hcut.kp
    have np : ∀ k, B0 ≤ k → ¬ Two p b k := fun k hk e => by rcases e with e | e <;> omega
    have x0 := hkp.cell a0 (np _ (Nat.le_refl _))
    have x2 := hkp.cell a2 (np _ (by show B0 ≤ l + 1; omega))
    have xl := hkp.heap acl (np _ (by omega))
    have fl : wb.frozen? ⟨l, 3, none⟩ = false := frozen_of_row wb l 3 _ _ xl
    have x3 : wb.cell? ⟨l, 3, none⟩ = some (.int .i64 0) := by simp [World.cell?, xl]
    have hlb : l + 1 < wb.heap.size := by have := hkp.size; omega
    have Hcut := Lib.hid hcut
    have Hxl := Lib.hid xl
    have Ht0 := Lib.hid ht0
    have Htc := Lib.hid htc
    have Htx := Lib.hid htx
    have hnl : tq ≠ l := by have := hcut.tb tq rfl; omega
    have hnl2 : ¬ l = tq := fun e => hnl e.symm
    have hnp : ¬ tq = p := by have := hcut.tb tq rfl; omega
    have hnb : ¬ tq = b := by have := hcut.tb tq rfl; omega
    have hn0 : (0 : Int) < (there.length : Int) := by omega
    clear hcut hkp xl ht0 htx htc Hs2 K2 Hsf Hth2 HD2
    go_wp2_with fail
    go_region_held3 (fun w' => w'.cell? ⟨tq, toff, none⟩ = some (.int .i64 t0) ∧ w'.cell? ⟨l + 1, 0, none⟩ = some (dP l)) (simp [*, World.cell?_setCell_far]) (fail)
    obtain ⟨wS, hwS⟩ : ∃ W, W = (wb.setCell ⟨l, 3, none⟩ (.int .i64 t0)).drew := ⟨_, rfl⟩
    have kS : Keeps (Own l) wb wS := by rw [hwS]; exact ((Keeps.refl (S := Own l) wb).setCell (p := ⟨l, 3, none⟩) (fun _ => (rfl : l = l)) _).drew
    have KS : Hid (Keeps (Core l p b) wA wS) := Lib.hid ((two_core Hcut.out.kp).trans kS (fun _ _ e => .inl e))
    have s0 : wS.cell? ⟨B0, 0, none⟩ = some (dP p) := kS.cell x0 (fun e => by have e' : B0 = l := e; omega)
    have s2 : wS.cell? ⟨l + 1, 0, none⟩ = some (dP l) := kS.cell x2 (fun e => by have e' : l + 1 = l := e; omega)
    have hSl : wS.heap[l]? = some (.cells #[dP p, .string name, .slice none 0 0, .int .i64 t0] lT (0, 0)) := by rw [hwS]; exact heap_setCell_at (i := 3) Hxl.out _
    have HDS : Hid (DAt wS p b d1) := Lib.hid (Hcut.out.disk.kept kS (fun e => by have e' : p = l := e; omega) (fun e => by have e' : b = l := e; omega))
    have Hts : Hid (∀ (j n : Nat), there[j]? = some n → wS.cell? ⟨tq, toff + j, none⟩ = some (.int .i64 n)) := Lib.hid (fun j n hj => kS.cell (Htx.out j n hj) (fun e => hnl e))
    have Hst0 : Hid (OpAt wS wS l p b name (.slice none 0 0) (.slice none 0 0) ⟨true, [], t0, [], d1⟩ 0) := Lib.hid ⟨Keeps.refl _, HDS.out, hSl, World.ownsRow_nil _ _ _ _, World.ownsRow_nil _ _ _ _, by simp, by simp, by have := Hcut.out.lt t0 (List.mem_of_getElem? Ht0.out); show (t0 : Int) ≤ _; omega, fun n hn => absurd hn List.not_mem_nil⟩
    have hszS : wb.heap.size = wS.heap.size := by rw [hwS]; simp
    have hlS : l + 1 < wS.heap.size := by omega
    have htqS : tq < wS.heap.size := by omega
    have Hfew : Hid (there.length ≤ 64 ∧ ∀ n ∈ there, n < 100000000) := Lib.hid ⟨Hcut.out.few, Hcut.out.lt⟩
    have hfewi : (there.length : Int) ≤ 64 := by have := Hcut.out.few; omega
    have LS : Hid (Laid wS base) := Lib.hid ((HL.out.kept KA.out (fun _ h => h.elim)).kept KS.out (fun i hi => by have := Hb.out; have := Hbp.out; have := Hl.out; rcases hi with e | e | e <;> omega))
    rw [← hwS]
    have Hhead : Hid (there.headD 0 = t0) := Lib.hid (by have := Ht0.out; cases there with | nil => cases this | cons a r => simpa using this)
    clear hwS kS x0 x2 fl x3 hlb Hxl ht00 hszS Htx HDS hSl a0 acl a2 hDA hne
    go_wp2
    go_loopw [10, 11, 52] (fun ov wh q wr => ∃ (k : Nat) (v : Value) (s : OpSt), k ≤ there.length ∧ q = .int .i64 k ∧ wh = .bool s.whole ∧ (there.take k).foldl (opStep name) ⟨true, [], t0, [], d1⟩ = s ∧ OpAt wS wr l p b name v ov s k) (fun _ _ q _ => there.length - (intOf q).toNat)
    case atStart => exact ⟨0, _, _, Nat.zero_le _, rfl, rfl, rfl, Hst0.out⟩
    case round =>
      obtain ⟨k, v, s, hk, rfl, rfl, hfold, hop⟩ := hrel
      obtain ⟨va, vc, rfl⟩ := ownsRow_slice hop.row
      obtain ⟨oa, oc, rfl⟩ := ownsRow_slice hop.out
      have hk0 : (0 : Int) ≤ (k : Int) := by omega
      by_cases hlt : k < there.length
      · have hki : (k : Int) < (there.length : Int) := by omega
        have hkp := hop.kp
        have hnc : ∀ i, ¬ i = l → ¬ i = p → ¬ i = b → ¬ Core l p b i := fun i h1 h2 h3 e => by rcases e with e | e | e; exact h1 e; exact h2 e; exact h3 e
        have cn := hkp.cell (Hts.out k _ (List.getElem?_eq_getElem hlt)) (hnc tq hnl hnp hnb)
        have y0 := hkp.cell s0 (hnc B0 (by omega) (by omega) (by omega))
        have y2 := hkp.cell s2 (hnc (l + 1) (by omega) (by omega) (by omega))
        have y3 : wr.cell? ⟨l, 3, none⟩ = some (.int .i64 s.next) := by simp [World.cell?, hop.cl]
        have y1 : wr.cell? ⟨l, 1, none⟩ = some (.string name) := by simp [World.cell?, hop.cl]
        have hlr : l + 1 < wr.heap.size := by have := hkp.size; omega
        have hfold2 : (there.take (k + 1)).foldl (opStep name) ⟨true, [], t0, [], d1⟩ = opStep name s there[k] := by
          rw [List.take_succ_eq_append_getElem hlt, List.foldl_append, hfold]
          rfl
        have hn8 := Hfew.out.2 _ (List.getElem_mem hlt)
        generalize there[k] = n at cn hfold2 hn8
        have Hfold2 := Lib.hid hfold2
        have Hop := Lib.hid hop
        clear hfold2 hfold hop hkp
        cases hwh : s.whole with
        | false =>
          have hx : opStep name s n = ⟨false, s.firsts, s.next, s.out, s.d⟩ := by unfold opStep; rw [hwh, Bool.false_and, cond_false]
          have Hx := Lib.hid hx
          clear hx
          go_wp2
          go_roundw
          case rel =>
            refine ⟨k + 1, .slice va s.firsts.length vc, ⟨false, s.firsts, s.next, s.out, s.d⟩, by omega, by go_num, rfl, by rw [Hfold2.out, Hx.out], ?_⟩
            exact Hop.out.skip
          case measure => simp [intOf]; omega
        | true =>
          by_cases hnn : n = s.next
          · subst hnn
            have hb1 : ((s.next : Int) != (s.next : Int)) = false := by simp
            obtain ⟨⟨fx, fe⟩, hfind⟩ : ∃ x, findE s.d.fs (fileNm name s.next) = x := ⟨_, rfl⟩
            have hlook : s.d.look (fileNm name s.next) = fx := by unfold Ds.look; rw [hfind]
            have Hfx : Hid (fx.s.size ≤ 4194304) := Lib.hid (hlook ▸ (look_ok Hop.out.disk (fileNm name s.next)).1)
            have Hx : Hid (opStep name s s.next = ⟨decide (flen (parse fx.s.data.toList) = fx.s.size), s.firsts ++ [s.next], s.next + (parse fx.s.data.toList).length, s.out ++ parse fx.s.data.toList, (s.d.truncate (fileNm name s.next) (flen (parse fx.s.data.toList))).2⟩) := Lib.hid (by
              unfold opStep OpSt.recs
              rw [hwh, hlook, decide_eq_true rfl, Bool.and_true, cond_true])
            have Hfind := Lib.hid hfind
            have Lr := Lib.hid (LS.out.kept Hop.out.kp (fun i hi => by have := Hb.out; have := Hbp.out; have := Hl.out; rcases hi with e | e | e <;> omega))
            have hnext : Hid ((s.next : Int) ≤ 4611686018427387904) := Lib.hid (by have := hn8; omega)
            clear hlook hfind
            go_wp2_with fail
            go_region_held3 (fun w' => w'.cell? ⟨B0, 0, none⟩ = some (dP p) ∧ w'.cell? ⟨l + 1, 0, none⟩ = some (dP l)) (exact ⟨y0, y2⟩)
              (first
                | (go_at_call 39
                   refine (file_any _ base (Lr.out.kept ((Keeps.refl (S := No) wr).drew) (fun _ h => h.elim)) l name (by have := hnm.out; omega) y1 s.next hnext.out).mono ?_
                   rintro e w3 ⟨rfl, hk3⟩
                   have K3 : Hid (Keeps No wr w3) := Lib.hid (((Keeps.refl (S := No) wr).drew).trans hk3 (fun _ _ h => h))
                   have f0 := K3.out.cell y0 (fun h => h)
                   have f2 := K3.out.cell y2 (fun h => h)
                   clear hk3 y0 y2 y1
                   have y0 := f0
                   have y2 := f2
                   clear f0 f2)
                | (go_at_call 40
                   refine (read_any (Hop.out.disk.kept K3.out (fun h => h) (fun h => h)) _ fx fe Hfind.out).mono ?_
                   rintro e w4 ⟨rfl, hk4⟩
                   have K4 : Hid (Keeps No wr w4) := Lib.hid (K3.out.trans hk4 (fun _ _ h => h))
                   have f0 := hk4.cell y0 (fun h => h)
                   have f2 := hk4.cell y2 (fun h => h)
                   clear hk4 y0 y2
                   have y0 := f0
                   have y2 := f2
                   clear f0 f2))
            go_wp2_with fail
            refine (all_any _ base (Lr.out.kept K4.out (fun _ h => h.elim)) (by have := Hb.out; have := Hl.out; have := K4.out.size; omega) fx.s Hfx.out).mono ?_
            rintro e w5 ⟨rv, rfl, hr5, hk5⟩
            have K5 : Hid (Keeps No wr w5) := Lib.hid (K4.out.trans hk5 (fun _ _ h => h))
            obtain ⟨R, hR⟩ : ∃ R, R = parse fx.s.data.toList := ⟨_, rfl⟩
            rw [← hR] at hr5 Hx
            obtain ⟨ra, rc, rfl⟩ := ownsRow_slice hr5
            have Hr5 : Hid (Reads w5 1 (.slice ra R.length rc) R.length (R.map encStr)) := Lib.hid (Reads.ofOwn hr5 (by intro u hu; obtain ⟨t, _, rfl⟩ := List.mem_map.1 hu; rfl))
            have HrB : Hid (∀ k, (Value.slice ra R.length rc).ownBlock = some k → wr.heap.size ≤ k) := Lib.hid (fun k hk => by have := (hr5.lt k hk).1; have := K4.out.size; omega)
            have f0 := hk5.cell y0 (fun h => h)
            have f2 := hk5.cell y2 (fun h => h)
            have HR := Lib.hid hR
            clear hk5 y0 y2 hr5 K3 K4
            have y0 := f0
            have y2 := f2
            clear f0 f2
            rw [← hR]
            clear hR
            have z2 : w5.cell? ⟨l, 2, none⟩ = some (.slice va s.firsts.length vc) := K5.out.cell (by simp [World.cell?, Hop.out.cl]) (fun h => h)
            have z3 : w5.cell? ⟨l, 3, none⟩ = some (.int .i64 s.next) := K5.out.cell y3 (fun h => h)
            obtain ⟨Nx, hNx⟩ : ∃ N, N = s.next + R.length := ⟨_, rfl⟩
            have hRl : Hid ((R.length : Int) ≤ 599187) := Lib.hid (by
              have h1 := parse_length fx.s.data.toList
              have h2 := Hfx.out
              have h3 : fx.s.data.toList.length = fx.s.size := by simp
              rw [← HR.out] at h1
              omega)
            have hw1 : IntKind.i64.wrap ((s.next : Int) + (R.length : Int)) = (Nx : Int) := by have := hRl.out; have := hn8; rw [IntKind.wrap_i64]; omega
            have HNx := Lib.hid hNx
            have hl5 : l + 1 < w5.heap.size := by have := K5.out.size; omega
            clear hNx y3
            go_wp2_with fail
            refine wp_region_noPanic ?_
            refine wp_region_late (fun w' => w'.cell? ⟨l + 1, 0, none⟩ = some (dP l)) (fun w' => w'.cell? ⟨l, 2, none⟩ = some (.slice va s.firsts.length vc) ∧ w'.cell? ⟨l, 3, none⟩ = some (.int .i64 s.next)) (fun j => j == 21 || j == 24) (by kernel_rfl) ?_
            refine Todo.of [0, 1, 2, 3, 4, 5, 6, 9, 10, 11, 12, 13, 14, 15, 16, 17] ?_
            repeat ((first | (refine Todo.w (v := ?_) ?_ y2 ⟨z2, z3⟩ ?_; rotate_left; focus (intro w hSw; (try dsimp only at hSw); go_simp; (try rfl); done)) | (refine Todo.l (v := ?_) ?_ y2 ⟨z2, z3⟩ ?_; rotate_left; focus (intro w hSw; (try dsimp only at hSw); go_simp; (try rfl); done))); try simp only [List.setIfInBounds_toArray, List.set_cons_zero, List.set_cons_succ])
            refine Todo.nil ?_
            have Hk7 : Hid (Keeps No w5 ((w5.alloc (.cells #[.int .i64 s.next] 3)).drew)) := Lib.hid (((Keeps.refl (S := No) w5).alloc _).drew)
            have H5 : Hid (OwnInts w5 wS.heap.size (.slice va s.firsts.length vc) s.firsts ∧ OwnStr w5 wS.heap.size (.slice oa s.out.length oc) s.out.length s.out) := Lib.hid ⟨K5.out.owns Hop.out.row (fun _ _ h => h), K5.out.owns Hop.out.out (fun _ _ h => h)⟩
            have g2 := Hk7.out.cell y2 (fun h => h)
            have g3 := Hk7.out.cell z2 (fun h => h)
            have g4 := Hk7.out.cell z3 (fun h => h)
            refine onlyL 7 (fun K hK => ?_)
            go_simp
            refine hK.out _ _ g2 (fun _ => ⟨g3, g4⟩) ?_
            clear hK K y2 z2 z3
            try simp only [Act.put, List.setIfInBounds_toArray, List.set_cons_zero, List.set_cons_succ]
            have Hown : Hid (OwnInts ((w5.alloc (.cells #[.int .i64 s.next] 3)).drew) wS.heap.size (.slice va s.firsts.length vc) s.firsts) := Lib.hid (Hk7.out.owns H5.out.1 (fun _ _ h => h))
            have Hrd : Hid (Reads ((w5.alloc (.cells #[.int .i64 s.next] 3)).drew) 1 (.slice (some ⟨w5.heap.size, 0, none⟩) 1 1) 1 [.int .i64 s.next]) := Lib.hid (Reads.kept (S := No) ((Keeps.refl _).drew) (Reads.ofOwn (World.ownsRow_lit w5 #[.int .i64 s.next] 1 (Nat.zero_le _) (by unfold maxLen; omega) rfl) (by simp [Value.oneCell'])) (fun _ _ h => h))
            have B1 : Hid (s.firsts.length + 1 ≤ maxLen) := Lib.hid (by have := Hop.out.bf; have := Hfew.out.1; unfold maxLen; omega)
            have B2 : Hid ((s.firsts.length + 1) * 8 ≤ 140737488355328) := Lib.hid (by have := Hop.out.bf; have := Hfew.out.1; omega)
            have B3 : Hid (wS.heap.size ≤ ((w5.alloc (.cells #[.int .i64 s.next] 3)).drew).heap.size) := Lib.hid (by have := Hop.out.kp.size; have := K5.out.size; have := Hk7.out.size; omega)
            have HB : Hid (wS.heap.size ≤ w5.heap.size) := Lib.hid (by have := Hop.out.kp.size; have := K5.out.size; omega)
            refine onlyL 8 (fun K hK => ?_)
            refine step_append_reads (by rfl) (.tmp 84) (.tmp 86) 109 (by rfl) wS.heap.size 3 i0 _ 1 8 Tryz.underlying109 hi hz0 hz1 hz2 (by rfl) (by decide) (.slice va s.firsts.length vc) s.firsts.length (intsV s.firsts) (by rfl) Hown.out _ 1 [.int .i64 s.next] (by rfl) Hrd.out B1.out B2.out B3.out ?_
            intro v' w8 ho8 hk8 hb8 _
            obtain ⟨ea, ec, rfl⟩ := ownsRow_slice ho8
            have K8 : Hid (Keeps (Of (.slice va s.firsts.length vc)) w5 w8) := Lib.hid ((Hk7.out.mono (fun _ _ h => h.elim)).trans hk8 (fun _ _ h => h))
            have Ho8 := Lib.hid ho8
            have nv : ∀ i, i < wS.heap.size → ¬ Of (.slice va s.firsts.length vc) i := fun i hi2 e => by have := (H5.out.1.lt i e).1; omega
            have q2 := hk8.cell g2 (nv _ (by show l + 1 < _; omega))
            have q3 := hk8.cell g3 (nv _ (by show l < _; omega))
            have q4 := hk8.cell g4 (nv _ (by show l < _; omega))
            refine put_of (d := 87) rfl ?_
            simp only [List.setIfInBounds_toArray, List.set_cons_zero, List.set_cons_succ]
            refine hK.out _ _ q2 (fun _ => ⟨q3, q4⟩) ?_
            clear hK K ho8 hk8 hb8 g2 g3 g4
            have Happ : Hid (∀ i, (Value.slice va s.firsts.length vc).ownBlock = some i → ¬ (Value.slice oa s.out.length oc).ownBlock = some i) := Lib.hid (rows_apart H5.out.1 H5.out.2 (by decide))
            have Hr8 : Hid (Reads w8 1 (.slice ra R.length rc) R.length (R.map encStr)) := Lib.hid (Reads.kept K8.out Hr5.out (fun i hi e => by have := HrB.out i hi; have := (Hop.out.row.lt i e).2; omega))
            have Ho9 : Hid (OwnStr w8 wS.heap.size (.slice oa s.out.length oc) s.out.length s.out) := Lib.hid (K8.out.owns H5.out.2 (fun i hi e => Happ.out i e hi))
            have C1 : Hid (s.out.length + R.length ≤ maxLen) := Lib.hid (by have := Hop.out.bo; have := hRl.out; unfold maxLen; omega)
            have C2 : Hid ((s.out.length + R.length) * 16 ≤ 140737488355328) := Lib.hid (by have := Hop.out.bo; have := hRl.out; omega)
            have C3 : Hid (wS.heap.size ≤ w8.heap.size) := Lib.hid (by have := K8.out.size; have := HB.out; omega)
            refine onlyL 18 (fun K hK => ?_)
            refine step_append_reads (by rfl) (.tmp 95) (.tmp 96) 61 (by rfl) wS.heap.size 9 j0 _ 1 16 Tryz.underlying61 hj jz0 jz1 jz2 (by rfl) (by decide) (.slice oa s.out.length oc) s.out.length (s.out.map encStr) (by rfl) Ho9.out _ R.length (R.map encStr) (by rfl) Hr8.out C1.out C2.out C3.out ?_
            intro v' w9 ho9 hk9 hb9 _
            have ho9b : OwnStr w9 wS.heap.size v' (s.out ++ R).length (s.out ++ R) := by
              have e1 : (s.out ++ R).length = s.out.length + R.length := List.length_append
              unfold OwnStr
              rw [e1, List.map_append]
              exact ho9
            have K9 : Hid (Keeps (fun i => Of (.slice va s.firsts.length vc) i ∨ Of (.slice oa s.out.length oc) i) w5 w9) := Lib.hid ((K8.out.mono (fun _ _ h => .inl h)).trans hk9 (fun _ _ h => .inr h))
            obtain ⟨pa, pc, rfl⟩ := ownsRow_slice ho9
            have Ho9b := Lib.hid ho9b
            have no9 : ∀ i, i < wS.heap.size → ¬ Of (.slice oa s.out.length oc) i := fun i hi2 e => by have := (H5.out.2.lt i e).1; omega
            have Ho8' : Hid (OwnInts w9 wS.heap.size (.slice ea (s.firsts.length + 1) ec) (s.firsts ++ [s.next])) := Lib.hid (by
              refine hk9.owns ?_ (fun i hi e => ?_)
              · have e2 : (s.firsts ++ [s.next]).length = s.firsts.length + 1 := by simp
                rw [e2]
                unfold intsV
                rw [List.map_append]
                exact Ho8.out
              · exact rows_apart Ho8.out Ho9.out (by decide) i hi e)
            have r2 := hk9.cell q2 (no9 _ (by show l + 1 < _; omega))
            have r3 := hk9.cell q3 (no9 _ (by show l < _; omega))
            have r4 := hk9.cell q4 (no9 _ (by show l < _; omega))
            have hcl5 := K5.out.heap Hop.out.cl (fun h => h)
            have hcl9 := K9.out.heap hcl5 (fun e => by rcases e with e | e; exact nv l (by omega) e; exact no9 l (by omega) e)
            have fz2 : w9.frozen? ⟨l, 2, none⟩ = false := frozen_of_row w9 l 2 _ _ hcl9
            have Hcl9 := Lib.hid hcl9
            refine put_of (d := 97) rfl ?_
            simp only [List.setIfInBounds_toArray, List.set_cons_zero, List.set_cons_succ]
            refine hK.out _ _ r2 (fun _ => ⟨r3, r4⟩) ?_
            clear hK K ho9 hk9 hb9 q2 q3 q4 hcl5 hcl9 ho9b
            refine Todo.of [19, 20] ?_
            repeat ((first | (refine Todo.w (v := ?_) ?_ r2 ⟨r3, r4⟩ ?_; rotate_left; focus (intro w hSw; (try dsimp only at hSw); go_simp; (try rfl); done)) | (refine Todo.l (v := ?_) ?_ r2 ⟨r3, r4⟩ ?_; rotate_left; focus (intro w hSw; (try dsimp only at hSw); go_simp; (try rfl); done))); try simp only [List.setIfInBounds_toArray, List.set_cons_zero, List.set_cons_succ])
            refine Todo.nil ?_
            refine onlyL 21 (fun K hK => ?_)
            go_simp
            have u2 : (w9.setCell ⟨l, 2, none⟩ (.slice ea (s.firsts.length + 1) ec)).cell? ⟨l + 1, 0, none⟩ = some (dP l) := ((Keeps.refl (S := Own l) w9).setCell (p := ⟨l, 2, none⟩) (fun _ => (rfl : l = l)) _).cell r2 (fun e => by have e' : l + 1 = l := e; omega)
            have Hcl10 : Hid ((w9.setCell ⟨l, 2, none⟩ (.slice ea (s.firsts.length + 1) ec)).heap[l]? = some (.cells #[dP p, .string name, .slice ea (s.firsts.length + 1) ec, .int .i64 s.next] lT (0, 0))) := Lib.hid (heap_setCell_at (i := 2) Hcl9.out _)
            have fz3 := frozen_of_row (w9.setCell ⟨l, 2, none⟩ (.slice ea (s.firsts.length + 1) ec)) l 3 _ _ Hcl10.out
            have K10 : Hid (Keeps (Own l) w9 (w9.setCell ⟨l, 2, none⟩ (.slice ea (s.firsts.length + 1) ec))) := Lib.hid ((Keeps.refl (S := Own l) w9).setCell (p := ⟨l, 2, none⟩) (fun _ => (rfl : l = l)) _)
            have u3 : (w9.setCell ⟨l, 2, none⟩ (.slice ea (s.firsts.length + 1) ec)).cell? ⟨l, 3, none⟩ = some (.int .i64 s.next) := by simp [World.cell?, Hcl10.out]
            refine hK.out _ _ u2 (fun hn => by have h2 : true = false := hn 21 rfl; cases h2) ?_
            obtain ⟨w10, hw10⟩ : ∃ W, W = w9.setCell ⟨l, 2, none⟩ (.slice ea (s.firsts.length + 1) ec) := ⟨_, rfl⟩
            rw [← hw10] at u2 u3 Hcl10 fz3 K10 ⊢
            clear hK K r2 r3 r4 fz2 hw10
            refine takeW (i := 22) (d := 100) (v := dP l) rfl rfl (by kernel_rfl) (by kernel_rfl) (by kernel_rfl) rfl (fun _ _ _ h => h) (Or.inl ⟨by rfl, fun w hSw => by (try dsimp only at hSw); go_simp⟩) u2 (fun hn => by have h2 : true = false := hn 21 rfl; cases h2) ?_
            simp only [List.setIfInBounds_toArray, List.set_cons_zero, List.set_cons_succ]
            refine takeW (i := 23) (d := 101) (v := .pointer (some ⟨l, 3, none⟩)) rfl rfl (by kernel_rfl) (by kernel_rfl) (by kernel_rfl) rfl (fun _ _ _ h => h) (Or.inl ⟨by rfl, fun w hSw => by (try dsimp only at hSw); go_simp⟩) u2 (fun hn => by have h2 : true = false := hn 21 rfl; cases h2) ?_
            simp only [List.setIfInBounds_toArray, List.set_cons_zero, List.set_cons_succ]
            refine onlyL 24 (fun K hK => ?_)
            go_simp
            have v2 : (w10.setCell ⟨l, 3, none⟩ (.int .i64 Nx)).cell? ⟨l + 1, 0, none⟩ = some (dP l) := ((Keeps.refl (S := Own l) w10).setCell (p := ⟨l, 3, none⟩) (fun _ => (rfl : l = l)) _).cell u2 (fun e => by have e' : l + 1 = l := e; omega)
            have Hcl11 : Hid ((w10.setCell ⟨l, 3, none⟩ (.int .i64 Nx)).heap[l]? = some (.cells #[dP p, .string name, .slice ea (s.firsts.length + 1) ec, .int .i64 Nx] lT (0, 0))) := Lib.hid (heap_setCell_at (i := 3) Hcl10.out _)
            have K11 : Hid (Keeps (Own l) w9 (w10.setCell ⟨l, 3, none⟩ (.int .i64 Nx))) := Lib.hid (K10.out.trans ((Keeps.refl (S := Own l) w10).setCell (p := ⟨l, 3, none⟩) (fun _ => (rfl : l = l)) _) (fun _ _ h => h))
            refine hK.out _ _ v2 (fun hn => by have h2 : true = false := hn 21 rfl; cases h2) ?_
            obtain ⟨w11, hw11⟩ : ∃ W, W = w10.setCell ⟨l, 3, none⟩ (.int .i64 Nx) := ⟨_, rfl⟩
            rw [← hw11] at v2 Hcl11 K11 ⊢
            clear hK K u2 u3 fz3 hw11
            refine onlyL 25 (fun K hK => ?_)
            go_simp
            refine hK.out _ _ v2 (fun hn => by have h2 : true = false := hn 21 rfl; cases h2) ?_
            clear hK K
            refine doneL (by kernel_rfl) ?_ _
            refine NoPanic.normal ?_
            have h5s : wr.heap.size ≤ w5.heap.size := K5.out.size
            have ho1 : ∀ i, Of (.slice va s.firsts.length vc) i → wS.heap.size ≤ i := fun i e => (Hop.out.row.lt i e).1
            have ho2 : ∀ i, Of (.slice oa s.out.length oc) i → wS.heap.size ≤ i := fun i e => (Hop.out.out.lt i e).1
            have KW : Hid (Keeps (fun i => i = l ∨ wS.heap.size ≤ i) wr w11) := Lib.hid (((K5.out.mono (fun _ _ h => h.elim)).trans K9.out (T := fun i => Of (.slice va s.firsts.length vc) i ∨ Of (.slice oa s.out.length oc) i) (fun i _ e => by rcases e with e | e; exact .inr (ho1 i e); exact .inr (ho2 i e))).trans K11.out (fun i _ e => .inl e))
            have H11 : Hid (OwnInts w11 wS.heap.size (.slice ea (s.firsts.length + 1) ec) (s.firsts ++ [s.next]) ∧ OwnStr w11 wS.heap.size (.slice pa (s.out.length + R.length) pc) (s.out ++ R).length (s.out ++ R)) := Lib.hid ⟨K11.out.owns Ho8'.out (fun i hi e => by have := (Ho8'.out.lt i hi).1; have e' : i = l := e; omega), K11.out.owns Ho9b.out (fun i hi e => by have := (Ho9b.out.lt i hi).1; have e' : i = l := e; omega)⟩
            have D11 : Hid (DAt w11 p b s.d) := Lib.hid (Hop.out.disk.kept KW.out (fun e => by rcases e with e | e <;> omega) (fun e => by rcases e with e | e <;> omega))
            have KS11 : Hid (Keeps (Core l p b) wS w11) := Lib.hid (Hop.out.kp.trans KW.out (fun i hi e => by rcases e with e | e; exact .inl e; omega))
            have L11 : Hid (Laid w11 base) := Lib.hid (LS.out.kept KS11.out (fun i hi => by have := Hb.out; have := Hbp.out; have := Hl.out; rcases hi with e | e | e <;> omega))
            have v1 : w11.cell? ⟨l, 1, none⟩ = some (.string name) := by simp [World.cell?, Hcl11.out]
            have v0 : w11.cell? ⟨B0, 0, none⟩ = some (dP p) := KS11.out.cell s0 (hnc B0 (by omega) (by omega) (by omega))
            obtain ⟨FL, hFL⟩ : ∃ n, n = flen R := ⟨_, rfl⟩
            obtain ⟨T, hT⟩ : ∃ t, t = fx.s := ⟨_, rfl⟩
            obtain ⟨d3, hd3⟩ : ∃ t, t = (s.d.truncate (fileNm name s.next) (flen R)) := ⟨_, rfl⟩
            obtain ⟨te, td⟩ := d3
            have htr : s.d.truncate (fileNm name s.next) (flen R) = (te, td) := hd3.symm
            have Htr := Lib.hid htr
            have hx := Hx.out
            rw [htr] at hx
            rw [← hFL] at hx Htr ⊢
            rw [← hT] at hx ⊢
            dsimp only at hx
            obtain ⟨q, hq⟩ : ∃ q, q = decide (FL = T.size) := ⟨_, rfl⟩
            have hq2 : ((FL : Int) == (T.size : Int)) = q := by
              rw [hq]
              by_cases hft : FL = T.size
              · rw [hft]; simp
              · have hft2 : ¬ (FL : Int) = (T.size : Int) := by omega
                rw [decide_eq_false hft]; simpa using hft2
            rw [← hq] at hx
            have Hx2 := Lib.hid hx
            clear hx hd3 htr hFL hT hq h5s ho1 ho2
            go_wp2_with fail
            go_region_held3 (fun w' => w'.cell? ⟨B0, 0, none⟩ = some (dP p) ∧ w'.cell? ⟨l + 1, 0, none⟩ = some (dP l)) (exact ⟨v0, v2⟩)
              (first
                | (go_at_call 39
                   refine (file_any _ base (L11.out.kept ((Keeps.refl (S := No) w11).drew) (fun _ h => h.elim)) l name (by have := hnm.out; omega) v1 s.next hnext.out).mono ?_
                   rintro e w12 ⟨rfl, hk12⟩
                   have K12 : Hid (Keeps No w11 w12) := Lib.hid (((Keeps.refl (S := No) w11).drew).trans hk12 (fun _ _ h => h))
                   have f0 := K12.out.cell v0 (fun h => h)
                   have f2 := K12.out.cell v2 (fun h => h)
                   clear hk12 v0 v2 v1
                   have v0 := f0
                   have v2 := f2
                   clear f0 f2)
                | (go_at_call 42
                   refine (truncate_tot (D11.out.kept K12.out (fun h => h) (fun h => h)) _ _ te td Htr.out).mono ?_
                   rintro e w13 ⟨rfl, hd13, hk13⟩
                   have K13 : Hid (Keeps (Two p b) w11 w13) := Lib.hid ((K12.out.mono (fun _ _ h => h.elim)).trans hk13 (fun _ _ h => h))
                   have D13 := Lib.hid hd13
                   have f0 := hk13.cell v0 (fun e => by rcases e with e | e; (have e' : B0 = p := e; omega); (have e' : B0 = b := e; omega))
                   have f2 := hk13.cell v2 (fun e => by rcases e with e | e; (have e' : l + 1 = p := e; omega); (have e' : l + 1 = b := e; omega))
                   clear hk13 hd13 v0 v2
                   have v0 := f0
                   have v2 := f2
                   clear f0 f2))
            have nt : ∀ i, B0 ≤ i → ¬ Two p b i := fun i hi2 e => by rcases e with e | e <;> omega
            have hS0 : B0 ≤ wS.heap.size := by omega
            have Hnew : Hid (OpAt wS w13 l p b name (.slice ea (s.firsts.length + 1) ec) (.slice pa (s.out.length + R.length) pc) ⟨q, s.firsts ++ [s.next], Nx, s.out ++ R, td⟩ (k + 1)) := Lib.hid ⟨KS11.out.trans K13.out (fun _ _ e => .inr e), D13.out, K13.out.heap Hcl11.out (nt l (by omega)), K13.out.owns H11.out.1 (fun i hi2 e => by have := (H11.out.1.lt i hi2).1; exact nt i (by omega) e), K13.out.owns H11.out.2 (fun i hi2 e => by have := (H11.out.2.lt i hi2).1; exact nt i (by omega) e), by have := Hop.out.bf; show (s.firsts ++ [s.next]).length ≤ _; simp; omega, by have := Hop.out.bo; have := hRl.out; show ((s.out ++ R).length : Int) ≤ _; rw [List.length_append]; omega, by have := Hop.out.bn; have := hRl.out; have := HNx.out; show (Nx : Int) ≤ _; omega, fun n hn => by rcases List.mem_append.1 hn with hn | hn; exact Hop.out.bl n hn; (rw [List.mem_singleton.1 hn]; exact hn8)⟩
            go_wp2_with fail
            go_roundw
            case rel =>
              refine ⟨k + 1, .slice ea (s.firsts.length + 1) ec, ⟨q, s.firsts ++ [s.next], Nx, s.out ++ R, td⟩, by omega, by go_num, rfl, by rw [Hfold2.out, Hx2.out, HNx.out], ?_⟩
              exact Hnew.out
            case measure => simp [intOf]; omega
          · have hx : opStep name s n = ⟨false, s.firsts, s.next, s.out, s.d⟩ := by unfold opStep; rw [hwh, decide_eq_false hnn, Bool.and_false, cond_false]
            have Hx := Lib.hid hx
            have hne1 : ¬ (n : Int) = (s.next : Int) := by omega
            have hne2 : ((n : Int) != (s.next : Int)) = true := by rw [bne_iff_ne]; exact hne1
            clear hx
            go_wp2
            go_roundw
            case rel =>
              refine ⟨k + 1, .slice va s.firsts.length vc, ⟨false, s.firsts, s.next, s.out, s.d⟩, by omega, by go_num, rfl, by rw [Hfold2.out, Hx.out], ?_⟩
              exact Hop.out.skip
            case measure => simp [intOf]; omega
      · have hkl : k = there.length := by omega
        subst hkl
        have hki : ¬ ((there.length : Int) < (there.length : Int)) := by omega
        have hst := Hst.out
        unfold opRun at hst
        rw [Hhead.out, ← List.take_length (l := there), hfold] at hst
        subst hst
        have hff : Hid (s.firsts.length ≤ there.length) := Lib.hid hop.bf
        have h0f : (0 : Int) ≤ (s.firsts.length : Int) := by omega
        have hfi : (s.firsts.length : Int) ≤ (there.length : Int) := by have := hop.bf; omega
        have hkp := hop.kp
        have hnc : ∀ i, ¬ i = l → ¬ i = p → ¬ i = b → ¬ Core l p b i := fun i h1 h2 h3 e => by rcases e with e | e | e; exact h1 e; exact h2 e; exact h3 e
        have y0 := hkp.cell s0 (hnc B0 (by omega) (by omega) (by omega))
        have y2 := hkp.cell s2 (hnc (l + 1) (by omega) (by omega) (by omega))
        have y1 : wr.cell? ⟨l, 2, none⟩ = some (.slice va s.firsts.length vc) := by simp [World.cell?, hop.cl]
        have hlr : l + 1 < wr.heap.size := by have := hkp.size; omega
        have Hop := Lib.hid hop
        clear hfold hop hkp hlt
        obtain ⟨L, hL⟩ : ∃ L, L = there.drop s.firsts.length := ⟨_, rfl⟩
        have hLl : there.length - s.firsts.length = L.length := by rw [hL, List.length_drop]
        have HLd := Lib.hid hL
        have HLl := Lib.hid hLl
        clear hL hLl
        go_wp2_with fail
        all_goals
          (rw [HLl.out]
           refine (back_any wr _ _ _ _ rfl).mono ?_
           rintro e wB ⟨rfl, hwB⟩
           have KB : Hid (Keeps No wr wB) := by rw [hwB]; exact Lib.hid ((Keeps.refl (S := No) wr).alloc _)
           have hcB := cell_one_new wr _ 109 0 _ rfl |> (hwB ▸ ·)
           have hszB : wr.heap.size < wB.heap.size := by rw [hwB]; simp
           have b0 := KB.out.cell y0 (fun h => h)
           have b2 := KB.out.cell y2 (fun h => h)
           have b1 := KB.out.cell (show wr.cell? ⟨l, 1, none⟩ = some (.string name) by simp [World.cell?, Hop.out.cl]) (fun h => h)
           have np' : ∀ i, B0 ≤ i → ¬ Two p b i := fun i hi2 e => by rcases e with e | e <;> omega
           have LB : Hid (Laid wB base) := Lib.hid ((LS.out.kept Hop.out.kp (fun i hi => by have := Hb.out; have := Hbp.out; have := Hl.out; rcases hi with e | e | e <;> omega)).kept KB.out (fun _ h => h.elim))
           have DB : Hid (DAt wB p b s.d) := Lib.hid (Hop.out.disk.kept KB.out (fun h => h) (fun h => h))
           have htB := Hop.out.kp.size
           have hxB : ∀ (j m : Nat), L[j]? = some m → wB.cell? ⟨tq, toff + s.firsts.length + j, none⟩ = some (.int .i64 m) := fun j m hj => by
             rw [HLd.out, List.getElem?_drop] at hj
             have := KB.out.cell (Hop.out.kp.cell (Hts.out _ _ hj) (hnc tq hnl hnp hnb)) (fun h => h)
             rwa [← Nat.add_assoc] at this
           have hLb : ∀ m ∈ L, m ≤ 4611686018427387904 := fun m hm => by
             rw [HLd.out] at hm
             have := Hfew.out.2 m (List.mem_of_mem_drop hm)
             omega
           clear y0 y2 y1 hwB
           go_wp2_with fail
           refine (wpIn_wide (n := 8)).1 ?_
           refine range_two (α := IxN) (e1 := fun x => .int .i64 x.1.1) (e2 := fun x => .int .i64 x.1.2) (Kp := KeepsBut wB.heap.size p b) (n := 8) rfl (by decide) rfl trivial (enters_of Tryz.func89 (by kernel_rfl) rfl)
             (back_stops Fence.wide (8 - 1) trivial rfl (by decide) wr.heap.size wB.heap.size p b _ _ L hLb (by have := HLl.out; have := Hfew.out.1; omega) ⟨hszB, by omega, by omega⟩ wB (Nat.le_refl _) hcB (fun hp => ⟨_, _, rfl, ⟨by omega, hnp, hnb⟩, fun j m hj => by first | exact hxB j m hj | (have := Htc.out; have := HLl.out; omega)⟩))
             (fun h k => h.trans k) (fun W i o o' h1 h2 h3 h4 => KeepsBut.put (Nat.le_refl _) W i o o' h1 h2 h3 h4)
             (fun pre W => DAt W p b (rmAll name (pre.map numOf) s.d) ∧ Keeps (Two p b) wB W) ?own ?start 19 (fun x => .int .i64 (numOf x)) ?assign ?body ?done
           case own =>
             rintro pre W W' row ⟨hD, hK⟩ hg hr
             have kk : Keeps (fun i => row = some i) W W' := (Keeps.refl W).grown hg (fun k e _ => e)
             exact ⟨hD.kept kk (fun e => by have := (hr p e).1; omega) (fun e => by have := (hr b e).1; omega), hK.trans kk (fun i hi e => by have := (hr i e).1; omega)⟩
           case start => exact ⟨DB.out, Keeps.refl _⟩
           case assign =>
             intro l x W K hK
             simp only [List.setIfInBounds_toArray, List.set_cons_zero, List.set_cons_succ] at hK ⊢
             gi_wp2
             exact hK
           case body =>
             rintro lq pre x W ⟨hD, hK⟩ hlt
             have e0 := hK.cell b0 (np' B0 (by omega))
             have e2 := hK.cell b2 (np' (l + 1) (by omega))
             have e1 := hK.cell b1 (np' l (by omega))
             have LW : Hid (Laid W base) := Lib.hid (LB.out.kept hK (fun i hi => by have := Hbp.out; rcases hi with e | e <;> omega))
             have HF := Lib.hid (file_any W.drew base (LW.out.kept ((Keeps.refl (S := No) W).drew) (fun _ h => h.elim)) l name (by have := hnm.out; omega) e1 (numOf x) (by have := x.2; unfold numOf; omega))
             obtain ⟨⟨er, dr⟩, hrm⟩ : ∃ y, (rmAll name (pre.map numOf) s.d).remove (fileNm name (numOf x)) = y := ⟨_, rfl⟩
             have Hrm := Lib.hid hrm
             have DW := Lib.hid hD
             have HKW := Lib.hid hK
             have Hfin : Hid (∀ w2 w3 : World, Keeps No W w2 → DAt w3 p b dr → Keeps (Two p b) w2 w3 → ∀ a : Act, ownPostG wB.heap.size (KeepsBut wB.heap.size p b) (fun pre W => DAt W p b (rmAll name (pre.map numOf) s.d) ∧ Keeps (Two p b) wB W) (fun _ _ _ => False) (pre ++ [x]) W .normal a w3) := Lib.hid (fun w2 w3 k2 hd3 hk3 a => by
               have k3 : Keeps (Two p b) W w3 := (k2.mono (fun _ _ h => h.elim)).trans hk3 (fun _ _ h => h)
               refine ⟨⟨k3.size, fun i o hi ho _ => k3.heap ho (np' i (by omega))⟩, ⟨k3.size, fun i hi h1 h2 => k3.block i (by have := HKW.out.size; omega) (fun e => by rcases e with e | e; exact h1 e; exact h2 e)⟩, ?_, HKW.out.trans k3 (fun _ _ h => h)⟩
               rw [List.map_append, List.map_cons, List.map_nil, rmAll_snoc, Hrm.out]
               exact hd3)
             clear hrm hD hK
             simp only [List.setIfInBounds_toArray, List.set_cons_zero, List.set_cons_succ]
             gi_wp2
             gi_region_with ((first
               | (refine ⟨trivial, (CallsIn.inRound lq (callsIn_wide.2 HF.out)).mono ?_⟩
                  rintro e w2 ⟨rfl, hk2⟩
                  have K2 : Hid (Keeps No W w2) := Lib.hid (((Keeps.refl (S := No) W).drew).trans hk2 (fun _ _ h => h))
                  have f0 := hk2.cell (p := ⟨B0, 0, none⟩) e0 (fun h => h)
                  clear hk2)
               | (refine ⟨trivial, (CallsIn.inRound lq (callsIn_wide.2 (remove_tot (DW.out.kept K2.out (fun h => h) (fun h => h)) _ er dr Hrm.out))).mono ?_⟩
                  rintro e w3 ⟨rfl, hd3, hk3⟩)))
             all_goals
               gi_wp2
               exact Hfin.out w2 w3 K2.out hd3 hk3 _
           case done =>
             rintro D xs W hD hxs ⟨hDW, hKW⟩ hdef
             have hend := Hend.out
             unfold opEnd at hend
             rw [← HLd.out] at hend
             simp only [Prod.mk.injEq] at hend
             obtain ⟨rfl, rfl, hdd⟩ := hend
             rw [hxs] at hDW
             obtain ⟨⟨es, ds⟩, hsy⟩ : ∃ y, (rmAll name L.reverse s.d).sync (fileNm name (lastN s.firsts)) = y := ⟨_, rfl⟩
             rw [hsy] at hdd
             have hdd : ds = d' := hdd
             subst hdd
             have Hsy := Lib.hid hsy
             have hv : ∀ i, (Value.slice va s.firsts.length vc).ownBlock = some i → wS.heap.size ≤ i := fun i hi => (Hop.out.row.lt i hi).1
             have hov : ∀ i, (Value.slice oa s.out.length oc).ownBlock = some i → wS.heap.size ≤ i := fun i hi => (Hop.out.out.lt i hi).1
             have hrow : OwnInts W wS.heap.size (.slice va s.firsts.length vc) s.firsts := hKW.owns (KB.out.owns Hop.out.row (fun _ _ h => h)) (fun i hi => np' i (by have := hv i hi; omega))
             have hout : OwnStr W wS.heap.size (.slice oa s.out.length oc) s.out.length s.out := hKW.owns (KB.out.owns Hop.out.out (fun _ _ h => h)) (fun i hi => np' i (by have := hov i hi; omega))
             have hlog : WLog W base l p b (.slice va s.firsts.length vc) ⟨name, s.firsts, s.next⟩ (rmAll name L.reverse s.d) :=
               ⟨⟨hKW.heap (KB.out.heap Hop.out.cl (fun h => h)) (np' l (by omega)), Reads.ofOwn hrow (fun u hu => intsV_one u _ hu), Hst.out ▸ opRun_ne name there d1 (by omega), hnm.out.2, fun n hn => by have := Hop.out.bl n hn; omega,
                 by have := Hop.out.bn; show s.next ≤ _; omega, by have := Hb.out; have := Hl.out; omega, fun i hi => by have := hv i hi; have := Hb.out; have := Hl.out; omega, fun e => by have := hv _ e; omega, by omega⟩,
                 hDW, Hbp.out.1, Hbp.out.2, fun e => by have := hv _ e; omega, fun e => by have := hv _ e; omega, by omega⟩
             have hT : ∀ i, i < w.heap.size → Core l p b i → Two p b i := fun i hi e => by rcases e with e | e | e; (have e' : i = l := e; have := Hl.out; omega); exact .inl e; exact .inr e
             have hK0 : Keeps (Two p b) w W := (((((KA.out.mono (fun _ _ h => h.elim)).trans KS.out hT).trans Hop.out.kp hT).trans KB.out (fun _ _ h => h.elim)).trans hKW (fun _ _ h => h))
             have Hap := Lib.hid (rows_apart hrow hout (by decide))
             have e0 := hKW.cell b0 (np' B0 (by omega))
             have e2 := hKW.cell b2 (np' (l + 1) (by omega))
             have LW : Hid (Laid W base) := Lib.hid (LB.out.kept hKW (fun i hi => by have := Hbp.out; rcases hi with e | e <;> omega))
             have Hlog := Lib.hid hlog
             have Hrow := Lib.hid hrow
             have Hout := Lib.hid hout
             have HK0 := Lib.hid hK0
             have Hv := Lib.hid (And.intro hv hov)
             have Hdef := Lib.hid hdef
             have hDB : wB.heap.size ≤ D := hD
             clear hlog hrow hout hK0 hv hov hsy hDW hKW hdef hD
             go_wp2_with fail
             go_region_held3 (fun w' => w'.cell? ⟨B0, 0, none⟩ = some (dP p) ∧ w'.cell? ⟨l + 1, 0, none⟩ = some (dP l)) (exact ⟨e0, e2⟩)
               (first
                 | (go_at_call 46
                    refine (last_any (w := W.drew) (LW.out.kept ((Keeps.refl (S := No) W).drew) (fun _ h => h.elim)) (Hlog.out.log.no ((Keeps.refl (S := No) W).drew))).mono ?_
                    rintro e wL ⟨rfl, hkL⟩
                    have KL : Hid (Keeps No W wL) := Lib.hid (((Keeps.refl (S := No) W).drew).trans hkL (fun _ _ h => h))
                    have f0 := KL.out.cell e0 (fun h => h)
                    have f2 := KL.out.cell e2 (fun h => h)
                    clear hkL e0 e2
                    have e0 := f0
                    have e2 := f2
                    clear f0 f2)
                 | (go_at_call 45
                    refine (sync_tot (Hlog.out.disk.kept KL.out (fun h => h) (fun h => h)) _ es ds Hsy.out).mono ?_
                    rintro e wY ⟨rfl, hdY, hkY⟩
                    have KY : Hid (Keeps (Two p b) W wY) := Lib.hid ((KL.out.mono (fun _ _ h => h.elim)).trans hkY (fun _ _ h => h))
                    have DY := Lib.hid hdY
                    have f0 := hkY.cell e0 (np' B0 (by omega))
                    have f2 := hkY.cell e2 (np' (l + 1) (by omega))
                    clear hkY hdY e0 e2
                    have e0 := f0
                    have e2 := f2
                    clear f0 f2))
             have hdY := KY.out.heap Hdef.out (np' D (by omega))
             clear e0 e2 b0 b2 b1 hxB
             go_wp2_with fail
             have kF : Keeps (fun i => i = D) wY (wY.putObj D (.deferred none)) := (Keeps.refl wY).grown (grownBy_putObj' wY D _) (fun k e _ => by cases e; rfl)
             have hLS : ∀ i, LogS l p b (.slice va s.firsts.length vc) i → i < D := fun i hi => by
               rcases hi with e | e | e | e
               · have := hszB; omega
               · omega
               · omega
               · have := (Hop.out.row.lt i e).2; omega
             refine ⟨by simp, .inl ⟨_, _, rfl, run_takeDeferred hdY, ?_⟩⟩
             refine ⟨_, results_tmp3 rfl _ _ _, l, .slice va s.firsts.length vc, .slice oa s.out.length oc, rfl, ?_, ?_, ?_, ?_, ?_, ?_⟩
             · exact (Hlog.out.disked KY.out DY.out).kept kF (fun i hi e => by have := hLS i hi; have e' : i = D := e; omega)
             · refine ownsRow_less (kF.owns (KY.out.owns Hrow.out (fun i hi => np' i (by have := Hv.out.1 i hi; omega))) (fun i hi e => ?_)) (by have := Hl.out; omega)
               have := hLS i (.inr (.inr (.inr hi)))
               have e' : i = D := e
               omega
             · refine ownsRow_less (kF.owns (KY.out.owns Hout.out (fun i hi => np' i (by have := Hv.out.2 i hi; omega))) (fun i hi e => ?_)) (by have := Hl.out; omega)
               have := (Hop.out.out.lt i hi).2
               have e' : i = D := e
               omega
             · have := Hl.out; omega
             · intro i hi hs
               rcases hs with e | e | e | e
               · have := Hv.out.2 i hi; omega
               · have := Hv.out.2 i hi; omega
               · have := Hv.out.2 i hi; omega
               · exact Hap.out i e hi
             · exact (HK0.out.trans KY.out (fun _ _ h => h)).trans kF (fun i hi e => by have e' : i = D := e; have := Hl.out; omega))
end Go.Proofs.YtndjnkjcfdaegaaGreatDoor

/-
  The law's helpers: same, few, made. No conditions of their own, but that the tables are laid.
-/
namespace Go.Proofs.YtndjnkjcfdaegaaGreatDoor
open Go.RowKit Go.Shelf Go.Sort Go.Joins

/-- texts in a row -/
abbrev RdN (w : World) (v : Value) (L : List Nm) : Prop := Reads w 1 v L.length (L.map encStr)
def toB (t : Nm) : ByteArray := ⟨t.toArray⟩
theorem RdN.cell {w : World} {v : Value} {l : List Nm} (h : RdN w v l) (hl : 0 < l.length) : ∃ b off c, v = .slice (some ⟨b, off, none⟩) l.length c ∧ l.length ≤ c ∧ c ≤ maxLen ∧ b < w.heap.size ∧ ∀ (j : Nat) (s : Nm), l[j]? = some s → w.cell? ⟨b, off + j, none⟩ = some (.string (toB s)) := by
  obtain ⟨b, off, c, hv, h1, h2, h3, h4⟩ := h.addr (by simpa using hl)
  exact ⟨b, off, c, hv, h1, h2, h3, fun j n hj => h4 j _ (by rw [List.getElem?_map, hj]; rfl)⟩
theorem RdN.len {w : World} {v : Value} {l : List Nm} (h : RdN w v l) : l.length ≤ maxLen := by
  rcases h.shape with ⟨_, h0⟩ | ⟨_, c', he, h1, h2, _⟩
  · simp [h0]
  · omega
theorem RdN.ofOwn {w : World} {base : Nat} {v : Value} {L : List Nm} (h : OwnStr w base v L.length L) : RdN w v L := Reads.ofOwn h (by intro u hu; obtain ⟨t, _, rfl⟩ := List.mem_map.1 hu; rfl)
theorem toB_size (t : Nm) : (toB t).size = t.length := by simp [toB, ByteArray.size]

def wN : ByteArray := ⟨#[119]⟩
def g0 : Lg := ⟨wN, [0], 0⟩
def d0 : Ds := ⟨[([119, 46, 48, 48, 48, 48, 48, 48, 48, 48], ⟨⟨#[]⟩, 0⟩)], 4611686018427387904, false⟩
end Go.Proofs.YtndjnkjcfdaegaaGreatDoor

/-
  The law's awake. No conditions of its own, but that the tables are laid.
-/
namespace Go.Proofs.YtndjnkjcfdaegaaGreatDoor
open Go.RowKit Go.Shelf Go.Sort Go.Joins

/-- a log that was made behind the world w0, in w -/
structure LogIn (w0 w : World) (base l p b : Nat) (v : Value) (g : Lg) (d : Ds) : Prop where
  log : WLog w base l p b v g d
  own : OwnInts w base v g.firsts
  new : ∀ i, LogS l p b v i → w0.heap.size ≤ i
  kp : Keeps No w0 w
section
variable {w0 w : World} {base l p b : Nat} {v : Value} {g : Lg} {d : Ds}
theorem LogIn.step {w' : World} (h : LogIn w0 w base l p b v g d) (k : Keeps No w w') : LogIn w0 w' base l p b v g d :=
  ⟨h.log.no k, k.owns h.own (fun _ _ h => h), h.new, h.kp.trans k (fun _ _ h => h)⟩
theorem LogIn.laid (h : LogIn w0 w base l p b v g d) (hL : Laid w0 base) : Laid w base := hL.kept h.kp (fun _ h => h.elim)
theorem LogIn.lt (h : LogIn w0 w base l p b v g d) : ∀ i, LogS l p b v i → i < w.heap.size := by
  intro i hi
  rcases hi with e | e | e | e
  · have := h.log.log.lt; omega
  · have := h.log.disk.lt; omega
  · have := h.log.disk.lt; omega
  · exact (h.own.lt i e).2
theorem LogIn.disked {w' : World} {d' : Ds} (h : LogIn w0 w base l p b v g d) (k : Keeps (Two p b) w w') (hd : DAt w' p b d') : LogIn w0 w' base l p b v g d' :=
  ⟨h.log.disked k hd, k.owns h.own (fun i hi e => by rcases e with e | e; exact h.log.vp (e ▸ hi); exact h.log.vb (e ▸ hi)), h.new,
    h.kp.trans k (fun i hi e => by
      rcases e with e | e
      · have := h.new i (.inr (.inl e)); omega
      · have := h.new i (.inr (.inr (.inl e))); omega)⟩
theorem LogIn.crash_any (h : LogIn w0 w base l p b v g d) (keep : Int) :
    Calls Tryz.prog 11 #[dP p, .int .i64 keep] w fun e w' => e = .returned (.tuple #[]) ∧ LogIn w0 w' base l p b v g (d.crash keep) ∧ Keeps (Two p b) w w' := by
  refine (crash_tot h.log.disk keep).mono ?_
  rintro e w' ⟨rfl, hd, hk⟩
  exact ⟨rfl, h.disked hk hd, hk⟩
/-- it is opened again -/
theorem LogIn.open_any (h : LogIn w0 w base l p b v g d) (hL : Laid w0 base) (hb : base ≤ w0.heap.size) (name : ByteArray) (hr : rightB name = true) (there : List Nat) (d1 : Ds) (hth : opThere d name = (0, there, d1)) (g' : Lg) (out : List Nm) (d' : Ds)
    (hend : opEnd name there (opRun name there d1) = (g', out, d')) :
    Calls Tryz.prog 18 #[dP p, .string name] w fun e w' => ∃ (l' : Nat) (v' ov : Value), e = .returned (.tuple #[dP l', ov, .int .i64 0]) ∧ LogIn w0 w' base l' p b v' g' d' ∧ LogIn w0 w' base l p b v g d' ∧ OwnStr w' w.heap.size ov out.length out ∧ w.heap.size ≤ l' ∧ Keeps (Two p b) w w' := by
  refine (openLog_any (h.laid hL) (Nat.le_trans hb h.kp.size) h.log.disk h.log.bp h.log.bb name hr there d1 hth _ rfl g' out d' hend).mono ?_
  rintro e w' ⟨l', v', ov, rfl, hW, ho, hov, hl', _, hk⟩
  refine ⟨l', v', ov, rfl, ⟨hW, ownsRow_less ho (Nat.le_trans hb h.kp.size), fun i hi => ?_, (h.disked hk hW.disk).kp⟩, h.disked hk hW.disk, hov, hl', hk⟩
  rcases hi with e | e | e | e
  · have := h.kp.size; omega
  · exact h.new i (.inr (.inl e))
  · exact h.new i (.inr (.inr (.inl e)))
  · have := (ho.lt i e).1; have := h.kp.size; omega
end

end Go.Proofs.YtndjnkjcfdaegaaGreatDoor

