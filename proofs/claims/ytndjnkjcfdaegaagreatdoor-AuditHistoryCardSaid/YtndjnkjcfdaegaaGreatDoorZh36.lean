/-
  Texts in one: WaO, WaP, WaQ, WaR, LgW, LhG, LhI. No conditions of their own.
-/
import Derived.Test.YtndjnkjcfdaegaaGreatDoorZh21
import Derived.Test.YtndjnkjcfdaegaaGreatDoorZh35
import Derived.Stop.LaidErr
set_option linter.all false

/-
  What a row's list gives, and texts that come in. No conditions of its own.
-/
namespace Go.Proofs.YtndjnkjcfdaegaaGreatDoor
open Go.ChangeShapes Go.WideShapes Go.ChangeAt Go.RowKit Go.Joins Go.Deep

theorem gNib : Tryz.prog.globalNamed "hedgerow/frame.nibble" = some 0 := by kernel_rfl
theorem gPow : Tryz.prog.globalNamed "internal/strconv.uint64pow10" = some 5 := by kernel_rfl
abbrev laidWal : List (String × DataW Unit) := Rows.auditHistoryRow.laid
theorem laid_of {W : World} (h : laidMetH Tryz.prog laidWal W) : Laid W W.heap.size := by
  rw [MakeChecks.laidMetH_plain _ _ _ (by kernel_rfl)] at h
  have hn : Lib.TabIs Tryz.prog W "hedgerow/frame.nibble" .u32 (nibL.map fun n : Nat => (n : Int)) :=
    Lib.tabIs_of_head gNib (by kernel_rfl : (Tryz.prog.globals[0]?).map (·.type) = some 283) Tryz.underlying283 Tryz.underlying231 (by kernel_rfl) (by kernel_rfl) h
  have hp : Lib.TabIs Tryz.prog W "internal/strconv.uint64pow10" .u64 Lib.pow10Tab :=
    Lib.tabIs_of_head gPow (by kernel_rfl : (Tryz.prog.globals[5]?).map (·.type) = some 329) Tryz.underlying329 Tryz.underlying260 (by kernel_rfl) (by kernel_rfl) h.tail.tail.tail
  have hc : ∀ i, i < 16 → W.cell? ⟨0, i, none⟩ = some (.int .u32 (nib i)) := by
    intro i hi
    have := hn.cell gNib i (by simpa [nibL] using hi)
    rw [this]
    congr 2
    have hall : ∀ j : Fin 16, (nibL.map fun n : Nat => (n : Int)).getD j.1 0 = ((nib j.1 : Nat) : Int) := by decide
    exact hall ⟨i, hi⟩
  exact ⟨hc, hp, block_lt_of_cell (hc 0 (by decide)), block_lt_of_cell (hp.cell gPow 0 (by decide))⟩

/-- A WORLD FOR THE WITNESS. -/
theorem wal_witness {H : Type} {enc : TypeId × Value → H} {os : Os} {f : FuncId} {fn : Func} {s : ChangeSpec} {x : List (DataW H) × List (DataW H) × List MemPlace} (args : Array Value)
    (hsh : ((World.laidAll Tryz.prog os laidWal).forCall (fun _ _ => 0) ⟨#[], args, []⟩).variablesZipB Tryz.prog = true)
    (hr : (((World.laidAll Tryz.prog os laidWal).forCall (fun _ _ => 0) ⟨#[], args, []⟩).heap.toList.drop Tryz.prog.globals.size).take ((begin Tryz.prog (fun _ _ => 0) default).world.heap.size - Tryz.prog.globals.size) = (begin Tryz.prog (fun _ _ => 0) default).world.heap.toList.drop Tryz.prog.globals.size)
    (hok : Input.okWideB Tryz.prog ((World.laidAll Tryz.prog os laidWal).forCall (fun _ _ => 0) ⟨#[], args, []⟩) f ⟨#[], args, []⟩ = true)
    (hx : DataW.whole enc Tryz.prog ((World.laidAll Tryz.prog os laidWal).forCall (fun _ _ => 0) ⟨#[], args, []⟩).memory fn.params.toList s.vars false args.toList 8 = some x)
    (hsz : (OpenSpec.ofChange s).bare.sizedB enc Tryz.prog fn false ((World.laidAll Tryz.prog os laidWal).forCall (fun _ _ => 0) ⟨#[], args, []⟩).memory args 8 = true)
    (hf : (World.holding Tryz.prog os ⟨#[], #[], []⟩).layFits Tryz.prog laidWal [] = true)
    (hi : (World.holding Tryz.prog os ⟨#[], #[], []⟩).layIfaces Tryz.prog laidWal (World.laidAll Tryz.prog os laidWal) = true) :
    ∃ (w : World) (tape : Tape) (i : Input), w.os = os ∧ (w.forCall tape i).Shaped Tryz.checked.prog ∧ i.vars = [] ∧ Input.okWide Tryz.checked.prog (w.forCall tape i) .any w.heap.size f i ∧
      (OpenSpec.ofChange s).preRow enc Tryz.checked.prog fn [] false laidWal (w.forCall tape i).memory i.args ∧ ({} : Assume).holds Tryz.checked.prog (lone (Frame.enter Tryz.checked.prog f i.args .normal) [] (w.forCall tape i)) :=
  witness_laid (C := Tryz.checked) false (World.laidAll Tryz.prog os laidWal) args (World.laidAll_os _ _ _) (World.shaped_of_ZipB hsh hr) hok
    (OpenSpec.preRow_of_cond 8 hx (by simp) (fun k hk => by cases hk) hsz (by rw [MakeChecks.laidMetH_plain _ _ _ (by kernel_rfl)]; exact laidMet_laidAll _ hf hi))
end Go.Proofs.YtndjnkjcfdaegaaGreatDoor

/-
  The names of segments, as plain lists: eight digits; their order; a name's number. No conditions of its own.
-/
namespace Go.Proofs.YtndjnkjcfdaegaaGreatDoor
open Go.RowKit

/-- a number in so many digits -/
def dgs : Nat → Nat → Nm
  | 0, _ => []
  | k + 1, n => dgs k (n / 10) ++ [UInt8.ofNat (48 + n % 10)]
theorem dgs_length : ∀ k n : Nat, (dgs k n).length = k
  | 0, _ => rfl
  | k + 1, n => by unfold dgs; rw [List.length_append, dgs_length k]; rfl
theorem repeat_one (m : Nat) : Lib.repeatL [48] m = List.replicate m 48 := by
  induction m with
  | zero => rfl
  | succ m ih => rw [Lib.repeatL, ih, List.replicate_succ]; rfl
theorem dgs_pad : ∀ (k n : Nat), 1 ≤ k → n < 10 ^ k → (Lib.decDigits n).length ≤ k ∧ List.replicate (k - (Lib.decDigits n).length) 48 ++ Lib.decDigits n = dgs k n
  | 0, _, h, _ => by omega
  | 1, n, _, h => by
    have h1 : n < 10 := by simpa using h
    rw [Lib.decDigits_one h1]
    refine ⟨Nat.le_refl _, ?_⟩
    simp [dgs, Nat.mod_eq_of_lt h1]
  | k + 2, n, _, h => by
    by_cases h1 : n < 10
    · obtain ⟨_, ih⟩ := dgs_pad (k + 1) 0 (by omega) (Nat.pow_pos (by omega))
      rw [Lib.decDigits_one (by omega : (0 : Nat) < 10)] at ih
      rw [Lib.decDigits_one h1]
      refine ⟨by simp, ?_⟩
      have e : n / 10 = 0 := by omega
      have e2 : n % 10 = n := by omega
      rw [dgs, e, ← ih, e2]
      simp only [List.length_cons, List.length_nil, Nat.zero_add]
      rw [show k + 2 - 1 = k + 1 - 1 + 1 by omega, List.replicate_succ']
      rfl
    · have h10 : n / 10 < 10 ^ (k + 1) := by
        rw [Nat.div_lt_iff_lt_mul (by omega)]
        rw [Nat.pow_succ] at h
        exact h
      obtain ⟨hl, ih⟩ := dgs_pad (k + 1) (n / 10) (by omega) h10
      rw [Lib.decDigits, dif_neg h1]
      refine ⟨by rw [List.length_append]; simp; omega, ?_⟩
      rw [dgs, ← ih, List.length_append]
      simp only [List.length_cons, List.length_nil, Nat.zero_add]
      rw [show k + 2 - ((Lib.decDigits (n / 10)).length + 1) = k + 1 - (Lib.decDigits (n / 10)).length by omega, List.append_assoc]
theorem segNm_dgs (name : Nm) {n : Nat} (h : n < 100000000) : segNm name n = name ++ [46] ++ dgs 8 n := by
  unfold segNm
  rw [Lib.itoa_nonneg, repeat_one, List.append_assoc, (dgs_pad 8 n (by omega) (by simpa using h)).2]

theorem bb_same : ∀ (x u v : Nm), bytesBefore (x ++ u) (x ++ v) = bytesBefore u v
  | [], _, _ => rfl
  | a :: x, u, v => by
    simp only [List.cons_append, bytesBefore, bb_same x u v]
    simp
theorem bb_head : ∀ (x y u v : Nm), x.length = y.length → bytesBefore x y = true → bytesBefore (x ++ u) (y ++ v) = true
  | [], [], _, _, _, h => by simp [bytesBefore] at h
  | a :: x, b :: y, u, v, hl, h => by
    simp only [List.cons_append, bytesBefore, Bool.or_eq_true, Bool.and_eq_true] at h ⊢
    rcases h with h | ⟨h1, h2⟩
    · exact .inl h
    · exact .inr ⟨h1, bb_head x y u v (by simpa using hl) h2⟩
theorem digit_lt {a b : Nat} (h : a < b) (hb : b < 10) : (UInt8.ofNat (48 + a) < UInt8.ofNat (48 + b)) := by
  have : ∀ (a b : Fin 10), a < b → UInt8.ofNat (48 + a.1) < UInt8.ofNat (48 + b.1) := by decide
  exact this ⟨a, by omega⟩ ⟨b, hb⟩ h
theorem dgs_before : ∀ (k a b : Nat), a < b → b < 10 ^ k → bytesBefore (dgs k a) (dgs k b) = true
  | 0, a, b, h, hb => by simp at hb; omega
  | k + 1, a, b, h, hb => by
    unfold dgs
    have h10 : b / 10 < 10 ^ k := by
      rw [Nat.div_lt_iff_lt_mul (by omega)]
      rw [Nat.pow_succ] at hb
      exact hb
    by_cases he : a / 10 = b / 10
    · rw [he, bb_same]
      have hd := digit_lt (a := a % 10) (b := b % 10) (by omega) (by omega)
      unfold bytesBefore
      rw [decide_eq_true hd]
      rfl
    · exact bb_head _ _ _ _ (by rw [dgs_length, dgs_length]) (dgs_before k _ _ (by omega) h10)
theorem segNm_before (name : Nm) {a b : Nat} (h : a < b) (hb : b < 100000000) : bytesBefore (segNm name a) (segNm name b) = true := by
  rw [segNm_dgs name (by omega : a < 100000000), segNm_dgs name hb, bb_same]
  exact dgs_before 8 a b h (by simpa using hb)
theorem dgs_read : ∀ (k n acc : Nat), n < 10 ^ k → Lib.decFrom acc (dgs k n) = some (acc * 10 ^ k + n)
  | 0, n, acc, h => by simp at h; subst h; simp [dgs, Lib.decFrom]
  | k + 1, n, acc, h => by
    have h10 : n / 10 < 10 ^ k := by
      rw [Nat.div_lt_iff_lt_mul (by omega)]
      rw [Nat.pow_succ] at h
      exact h
    have snoc : ∀ (l : Nm) (a m : Nat) (c : UInt8) (d : Nat), Lib.decFrom a l = some m → Lib.digitVal c = some d → Lib.decFrom a (l ++ [c]) = some (m * 10 + d) := by
      intro l
      induction l with
      | nil => intro a m c d h hd; simp [Lib.decFrom] at h; subst h; simp [Lib.decFrom, hd]
      | cons x l ih =>
        intro a m c d h hd
        simp only [List.cons_append, Lib.decFrom] at h ⊢
        cases hx : Lib.digitVal x with
        | none => rw [hx] at h; cases h
        | some y => rw [hx] at h; exact ih _ _ _ _ h hd
    have hd : Lib.digitVal (UInt8.ofNat (48 + n % 10)) = some (n % 10) := by
      have : ∀ j : Fin 10, Lib.digitVal (UInt8.ofNat (48 + j.1)) = some j.1 := by decide
      exact this ⟨n % 10, by omega⟩
    unfold dgs
    rw [snoc _ _ _ _ _ (dgs_read k (n / 10) acc h10) hd, Nat.pow_succ, Nat.add_mul, Nat.mul_assoc]
    congr 1
    omega
theorem segOf_segNm (name : Nm) {n : Nat} (h : n < 100000000) : segOf name (segNm name n) = some n := by
  rw [segNm_dgs name h]
  unfold segOf
  have hp : Lib.hasPrefix (name ++ [46] ++ dgs 8 n) (name ++ [46]) = true := by simp [Lib.hasPrefix]
  have ht : Lib.trimPrefix (name ++ [46] ++ dgs 8 n) (name ++ [46]) = dgs 8 n := by unfold Lib.trimPrefix; rw [hp]; simp
  rw [hp, ht, cond_true, dgs_length, decide_eq_true rfl, cond_true]
  unfold Lib.decNat
  have hne : (dgs 8 n).isEmpty = false := by
    have := dgs_length 8 n
    cases h2 : dgs 8 n with
    | nil => rw [h2] at this; cases this
    | cons _ _ => rfl
  rw [hne, dgs_read 8 n 0 (by simpa using h)]
  simp
theorem fileNm_inj {name : ByteArray} {a b : Nat} (ha : a < 100000000) (hb : b < 100000000) (h : segNm name.data.toList a = segNm name.data.toList b) : a = b := by
  have h1 := segOf_segNm name.data.toList ha
  rw [h, segOf_segNm _ hb] at h1
  exact (Option.some.inj h1).symm
theorem segNm_length (name : Nm) {n : Nat} (h : n < 100000000) : (segNm name n).length = name.length + 9 := by
  rw [segNm_dgs name h, List.length_append, List.length_append, dgs_length]; rfl
end Go.Proofs.YtndjnkjcfdaegaaGreatDoor

/-
  A log that is as it should be, as plain data: segments that hold the frames of their records. No conditions of its own.
-/
namespace Go.Proofs.YtndjnkjcfdaegaaGreatDoor
open Go.RowKit

/-- a segment: its number, its records, how much of its file is sure -/
structure Sg where
  first : Nat
  recs : List Nm
  k : Nat
def Sg.next (s : Sg) : Nat := s.first + s.recs.length
def bts (L : List Nm) : ByteArray := ⟨(frames L).toArray⟩
def Sg.file (nm : ByteArray) (s : Sg) : Nm × Fi := (segNm nm.data.toList s.first, ⟨bts s.recs, s.k⟩)
theorem bts_size (L : List Nm) : (bts L).size = flen L := by
  show (frames L).toArray.size = _
  rw [List.size_toArray, frames_length]
theorem bts_snoc (L : List Nm) (t : Nm) : bts L ++ frameB (toB t) = bts (L ++ [t]) := by
  unfold bts frameB toB
  rw [frames_append, frames_one]
  apply ByteArray.ext
  rw [ByteArray.data_append]
  simp
theorem frameB_size (t : Nm) : (frameB (toB t)).size = t.length + 7 := by
  show (frameL (toB t).data.toList).toArray.size = _
  rw [List.size_toArray, frameL_length]
  simp [toB]

/-- each begins where the one ahead of it ends -/
def Linked : List Sg → Prop
  | a :: b :: r => a.next = b.first ∧ Linked (b :: r)
  | _ => True
theorem linked_same {z z' : Sg} (hz : z'.first = z.first) : ∀ {A : List Sg}, Linked (A ++ [z]) → Linked (A ++ [z'])
  | [], _ => trivial
  | [_], h => ⟨by rw [hz]; exact h.1, trivial⟩
  | _ :: b :: r, h => ⟨h.1, linked_same hz (A := b :: r) h.2⟩
theorem linked_push {z z' w : Sg} (hz : z'.first = z.first) (hw : z'.next = w.first) : ∀ {A : List Sg}, Linked (A ++ [z]) → Linked (A ++ [z'] ++ [w])
  | [], _ => ⟨hw, trivial⟩
  | [_], h => ⟨by rw [hz]; exact h.1, hw, trivial⟩
  | _ :: b :: r, h => ⟨h.1, linked_push hz hw (A := b :: r) h.2⟩
theorem linked_tail : ∀ {X Y : List Sg}, Linked (X ++ Y) → Linked Y
  | [], _, h => h
  | [_], [], _ => trivial
  | [_], _ :: _, h => h.2
  | _ :: b :: X, _, h => linked_tail (X := b :: X) h.2
/-- THE LOG g ON THE DISK d HAS THE SEGMENTS A, z. -/
structure Good (nm : ByteArray) (A : List Sg) (z : Sg) (g : Lg) (d : Ds) : Prop where
  g : g = ⟨nm, (A ++ [z]).map Sg.first, z.next⟩
  fs : d.fs = (A ++ [z]).map (Sg.file nm)
  dead : d.dead = false
  room : 4611686018427387904 - 70000 * (z.next : Int) ≤ d.room
  up : (A ++ [z]).Pairwise fun a b => a.first < b.first
  lim : z.next ≤ 1000000
  nm1 : 1 ≤ nm.size
  nm2 : nm.size ≤ 16
  few : A.length < 64
  full : ∀ a ∈ A, 4096 ≤ flen a.recs ∧ flen a.recs ≤ 100000 ∧ a.k = flen a.recs
  zs : flen z.recs ≤ 100000
  short : ∀ s ∈ A ++ [z], ∀ X t, s.recs = X ++ [t] → flen X < 4096
  link : Linked (A ++ [z])
  rl : ∀ s ∈ A ++ [z], ∀ t ∈ s.recs, t.length ≤ 65536
  zk : z.k ≤ flen z.recs

section
variable {nm : ByteArray} {A : List Sg} {z : Sg} {g : Lg} {d : Ds}
theorem Good.low (h : Good nm A z g d) : ∀ s ∈ A ++ [z], s.first ≤ z.first := by
  intro s hs
  rcases List.mem_append.1 hs with hs | hs
  · exact Nat.le_of_lt ((List.pairwise_append.1 h.up).2.2 s hs z (by simp))
  · rw [List.mem_singleton.1 hs]; exact Nat.le_refl _
theorem Good.lt8 (h : Good nm A z g d) : ∀ s ∈ A ++ [z], s.first < 100000000 := by
  intro s hs
  have := h.low s hs
  have := h.lim
  unfold Sg.next at this
  omega
theorem rising_of {S : List Sg} (nm : ByteArray) (up : S.Pairwise fun a b => a.first < b.first) (h8 : ∀ s ∈ S, s.first < 100000000) : Rising (S.map (Sg.file nm)) := by
  unfold Rising
  rw [List.pairwise_map]
  refine List.Pairwise.imp_of_mem ?_ up
  intro a b ha hb hab
  exact segNm_before _ hab (h8 b hb)
theorem Good.rising (h : Good nm A z g d) : Rising d.fs := by rw [h.fs]; exact rising_of nm h.up h.lt8
theorem fileNm_size (nm : ByteArray) {n : Nat} (h : n < 100000000) : (fileNm nm n).size = nm.size + 9 := by
  show (segNm nm.data.toList n).toArray.size = _
  rw [List.size_toArray, segNm_length _ h]
  simp
theorem findW_at {fs : Fs} {n : ByteArray} {f : Fi} (h1 : 1 ≤ n.size) (h2 : n.size ≤ 32) (hg : getF fs n.data.toList = some f) : findE fs n = (f, 0) := by
  unfold findE
  rw [decide_eq_false (by omega), cond_false, decide_eq_false (by omega), cond_false, hg]
theorem find_no {fs : Fs} {n : ByteArray} (h1 : 1 ≤ n.size) (h2 : n.size ≤ 32) (hg : getF fs n.data.toList = none) : findE fs n = (Fi.none, 6) := by
  unfold findE
  rw [decide_eq_false (by omega), cond_false, decide_eq_false (by omega), cond_false, hg]
theorem Good.find (h : Good nm A z g d) {X Y : List Sg} {s : Sg} (hs : A ++ [z] = X ++ s :: Y) : findE d.fs (fileNm nm s.first) = (⟨bts s.recs, s.k⟩, 0) := by
  have hm : s ∈ A ++ [z] := by rw [hs]; simp
  have h8 := h.lt8 s hm
  refine findW_at (by rw [fileNm_size _ h8]; omega) (by rw [fileNm_size _ h8]; have := h.nm2; omega) ?_
  have hr := h.rising
  rw [h.fs, hs, List.map_append, List.map_cons] at hr
  rw [h.fs, hs, List.map_append, List.map_cons]
  exact getF_mid hr
theorem Good.open (h : Good nm A z g d) {X Y : List Sg} {s : Sg} (hs : A ++ [z] = X ++ s :: Y) : openE d.fs d.dead (fileNm nm s.first) = (⟨bts s.recs, s.k⟩, 0) := by
  unfold openE
  rw [h.dead, Bool.and_false, cond_false, h.find hs]
theorem Good.last (h : Good nm A z g d) : g.last = fileNm nm z.first := by
  unfold Lg.last
  rw [h.g]
  show fileNm nm (lastN ((A ++ [z]).map Sg.first)) = _
  rw [List.map_append]
  simp [lastN]
theorem Good.look (h : Good nm A z g d) {X Y : List Sg} {s : Sg} (hs : A ++ [z] = X ++ s :: Y) : d.look (fileNm nm s.first) = ⟨bts s.recs, s.k⟩ := by unfold Ds.look; rw [h.find hs]
theorem Good.put (h : Good nm A z g d) (f : Fi) : putF d.fs (fileNm nm z.first).data.toList f = A.map (Sg.file nm) ++ [(segNm nm.data.toList z.first, f)] := by
  have hr := h.rising
  rw [h.fs, List.map_append, List.map_cons, List.map_nil] at hr
  rw [h.fs, List.map_append, List.map_cons, List.map_nil]
  exact putF_mid hr
theorem getF_none_of {S : List Sg} {nm : ByteArray} {n : Nat} (hn : n < 100000000) (h8 : ∀ s ∈ S, s.first < 100000000 ∧ s.first ≠ n) : getF (S.map (Sg.file nm)) (segNm nm.data.toList n) = none := by
  unfold getF
  rw [Option.map_eq_none_iff, List.find?_eq_none]
  intro p hp
  obtain ⟨s, hs, rfl⟩ := List.mem_map.1 hp
  obtain ⟨h1, h2⟩ := h8 s hs
  intro he
  exact h2 (fileNm_inj h1 hn (by simpa [isNm, Sg.file] using he))

def layS (A : List Sg) (z : Sg) (t : Nm) : List Sg × Sg :=
  bif decide (flen z.recs < 4096) then (A, ⟨z.first, z.recs ++ [t], z.k⟩) else (A ++ [⟨z.first, z.recs, flen z.recs⟩], ⟨z.next, [t], 0⟩)
theorem snoc_inj {α : Type} {X Y : List α} {a b : α} (h : X ++ [a] = Y ++ [b]) : X = Y ∧ a = b := by
  have := List.append_inj' h rfl
  exact ⟨this.1, by simpa using this.2⟩
theorem append_last (h : Good nm A z g d) (s : ByteArray) (hs : (s.size : Int) ≤ 70000) (hr : 70000 ≤ d.room) : d.append g.last s = (0, ⟨A.map (Sg.file nm) ++ [(segNm nm.data.toList z.first, ⟨bts z.recs ++ s, z.k⟩)], d.room - s.size, false⟩) := by
  unfold Ds.append
  rw [h.last, h.open (X := A) (Y := []) rfl]
  dsimp only
  have h1 : decide ((4194304 : Nat) < (bts z.recs).size + s.size) = false := decide_eq_false (by rw [bts_size]; have := h.zs; omega)
  have h2 : decide ((s.size : Int) ≤ d.room) = true := decide_eq_true (by omega)
  rw [h1, h2, h.put]
  rfl
theorem sync_last (h : Good nm A z g d) : d.sync g.last = (0, d.with (A.map (Sg.file nm) ++ [(segNm nm.data.toList z.first, ⟨bts z.recs, flen z.recs⟩)])) := by
  unfold Ds.sync
  rw [h.last, h.open (X := A) (Y := []) rfl]
  dsimp only
  rw [h.put, bts_size]
  rfl
/-- the last one is sure -/
theorem Good.synced (h : Good nm A z g d) : Good nm A ⟨z.first, z.recs, flen z.recs⟩ g (d.sync g.last).2 := by
  rw [sync_last h]
  refine ⟨by rw [h.g]; simp; rfl, by simp [Sg.file], h.dead, h.room, ?_, h.lim, h.nm1, h.nm2, h.few, h.full, h.zs, ?_, linked_same (z := z) (by rfl) h.link, ?_, Nat.le_refl _⟩
  · have := h.up
    rw [List.pairwise_append] at this ⊢
    exact ⟨this.1, by simp, fun a ha b hb => by rw [List.mem_singleton.1 hb]; exact this.2.2 a ha z (by simp)⟩
  · intro s hs
    rcases List.mem_append.1 hs with hs | hs
    · exact h.short s (by simp [hs])
    · rw [List.mem_singleton.1 hs]; exact h.short z (by simp)
  · intro s hs
    rcases List.mem_append.1 hs with hs | hs
    · exact h.rl s (by simp [hs])
    · rw [List.mem_singleton.1 hs]; exact h.rl z (by simp)
theorem lay_good (h : Good nm A z g d) (t : Nm) (ht : t.length ≤ 65536) (hn : z.next + 1 ≤ 1000000) (hf : flen z.recs < 4096 ∨ A.length < 63) :
    ∃ g' d', g.lay d (toB t) = (0, g', d') ∧ Good nm (layS A z t).1 (layS A z t).2 g' d' := by
  have hroom : 70000 + 70000 ≤ d.room := by have := h.room; omega
  have hfs : ((frameB (toB t)).size : Int) ≤ 70000 := by rw [frameB_size]; omega
  have hlk : d.look g.last = ⟨bts z.recs, z.k⟩ := by rw [h.last]; exact h.look (X := A) (Y := []) rfl
  unfold Lg.lay
  rw [hlk]
  dsimp only
  rw [bts_size]
  by_cases h4 : flen z.recs < 4096
  · rw [decide_eq_true h4, cond_true, append_last h _ hfs (by omega)]
    dsimp only
    refine ⟨_, _, rfl, ?_⟩
    have he : layS A z t = (A, ⟨z.first, z.recs ++ [t], z.k⟩) := by unfold layS; rw [decide_eq_true h4, cond_true]
    rw [he]
    dsimp only
    have hnx : Sg.next ⟨z.first, z.recs ++ [t], z.k⟩ = z.next + 1 := by simp [Sg.next]; omega
    refine ⟨?_, ?_, rfl, ?_, ?_, by rw [hnx]; exact hn, h.nm1, h.nm2, h.few, h.full, by show flen (z.recs ++ [t]) ≤ _; rw [flen_snoc]; omega, ?_, linked_same (z := z) (by rfl) h.link, ?_, by show z.k ≤ flen (z.recs ++ [t]); have := h.zk; rw [flen_snoc]; omega⟩
    · rw [h.g, hnx]; simp
    · rw [bts_snoc]; simp [Sg.file]
    · rw [hnx, frameB_size]; have := h.room; show _ ≤ d.room - _; omega
    · have := h.up
      rw [List.pairwise_append] at this ⊢
      exact ⟨this.1, by simp, fun a ha b hb => by rw [List.mem_singleton.1 hb]; exact this.2.2 a ha z (by simp)⟩
    · intro s hs X t' hx
      rcases List.mem_append.1 hs with hs | hs
      · exact h.short s (by simp [hs]) X t' hx
      · rw [List.mem_singleton.1 hs] at hx
        obtain ⟨rfl, _⟩ := snoc_inj (show z.recs ++ [t] = X ++ [t'] from hx)
        exact h4
    · intro s hs x hx
      rcases List.mem_append.1 hs with hs | hs
      · exact h.rl s (by simp [hs]) x hx
      · rw [List.mem_singleton.1 hs] at hx
        rcases List.mem_append.1 (show x ∈ z.recs ++ [t] from hx) with hx | hx
        · exact h.rl z (by simp) x hx
        · rw [List.mem_singleton.1 hx]; exact ht
  · have hz1 : 1 ≤ z.recs.length := by
      cases hr : z.recs with
      | nil => rw [hr] at h4; exact absurd (by decide) h4
      | cons _ _ => simp
    have hA : A.length < 63 := by rcases hf with hf | hf <;> omega
    have hS := h.synced
    have hn2 : g.next = z.next := by rw [h.g]
    rw [decide_eq_false h4, cond_false, hn2, decide_eq_false (by have := h.lim; omega), cond_false]
    have h8 : z.next < 100000000 := by have := h.lim; omega
    have hname : g.file z.next = fileNm nm z.next := by rw [h.g]; rfl
    have hno : getF (d.sync g.last).2.fs (fileNm nm z.next).data.toList = none := by
      rw [hS.fs]
      exact getF_none_of h8 (fun s hs => ⟨hS.lt8 s hs, by have := hS.low s hs; show s.first ≠ z.first + z.recs.length; have e : (Sg.mk z.first z.recs (flen z.recs)).first = z.first := rfl; omega⟩)
    have hop : openE (d.sync g.last).2.fs (d.sync g.last).2.dead (fileNm nm z.next) = (Fi.none, 6) := by
      unfold openE
      rw [hS.dead, Bool.and_false, cond_false]
      exact find_no (by rw [fileNm_size _ h8]; omega) (by rw [fileNm_size _ h8]; have := h.nm2; omega) hno
    have hput : ∀ f, putF (d.sync g.last).2.fs (fileNm nm z.next).data.toList f = (d.sync g.last).2.fs ++ [(segNm nm.data.toList z.next, f)] := by
      intro f
      have := putF_new (A := (d.sync g.last).2.fs) (B := []) (n := segNm nm.data.toList z.next) (f := f) (fun a ha => by
        rw [hS.fs] at ha
        obtain ⟨s, hs, rfl⟩ := List.mem_map.1 ha
        refine segNm_before _ ?_ h8
        have := hS.low s hs
        show s.first < z.first + z.recs.length
        have e : (Sg.mk z.first z.recs (flen z.recs)).first = z.first := rfl
        omega) (fun c hc => absurd hc List.not_mem_nil)
      rw [List.append_nil] at this
      exact this
    have hlen : (d.sync g.last).2.fs.length = A.length + 1 := by rw [hS.fs]; simp
    have hroom2 : (d.sync g.last).2.room = d.room := by rw [sync_last h]
    have hap : (d.sync g.last).2.append (fileNm nm z.next) (frameB (toB t)) = (0, ⟨(d.sync g.last).2.fs ++ [(segNm nm.data.toList z.next, ⟨frameB (toB t), 0⟩)], d.room - (frameB (toB t)).size, false⟩) := by
      unfold Ds.append
      rw [hop]
      dsimp only
      have h1 : decide (64 ≤ (d.sync g.last).2.fs.length) = false := decide_eq_false (by omega)
      have h2 : decide ((4194304 : Nat) < Fi.none.s.size + (frameB (toB t)).size) = false := decide_eq_false (by have : Fi.none.s.size = 0 := rfl; omega)
      have h3 : decide (((frameB (toB t)).size : Int) ≤ (d.sync g.last).2.room) = true := decide_eq_true (by omega)
      rw [h1, h2, h3, hput, hroom2]
      have h5 : withS Fi.none (frameB (toB t)) = ⟨frameB (toB t), 0⟩ := by
        show (⟨(⟨#[]⟩ : ByteArray) ++ frameB (toB t), 0⟩ : Fi) = _
        congr 1
      rw [h5]
      rfl
    rw [hname, hap]
    dsimp only
    refine ⟨_, _, rfl, ?_⟩
    have he : layS A z t = (A ++ [⟨z.first, z.recs, flen z.recs⟩], ⟨z.next, [t], 0⟩) := by unfold layS; rw [decide_eq_false h4, cond_false]
    rw [he]
    dsimp only
    have hnx : Sg.next ⟨z.next, [t], 0⟩ = z.next + 1 := rfl
    refine ⟨?_, ?_, rfl, ?_, ?_, by rw [hnx]; exact hn, h.nm1, h.nm2, by simp; omega, ?_, ?_, ?_, ?_, ?_, Nat.zero_le _⟩
    · rw [h.g, hnx]; simp
    · rw [hS.fs]
      have : bts [t] = frameB (toB t) := by unfold bts frameB toB; rw [frames_one]
      simp [Sg.file, this]
    · rw [hnx, frameB_size]; have := h.room; show _ ≤ d.room - _; omega
    · rw [List.pairwise_append]
      refine ⟨hS.up, by simp, fun a ha b hb => ?_⟩
      rw [List.mem_singleton.1 hb]
      have := hS.low a ha
      show a.first < z.first + z.recs.length
      have e : (Sg.mk z.first z.recs (flen z.recs)).first = z.first := rfl
      omega
    · intro a ha
      rcases List.mem_append.1 ha with ha | ha
      · exact h.full a ha
      · rw [List.mem_singleton.1 ha]; exact ⟨by show 4096 ≤ flen z.recs; omega, h.zs, rfl⟩
    · show flen [t] ≤ _; simp [flen]; omega
    · intro s hs X t' hx
      rcases List.mem_append.1 hs with hs | hs
      · exact hS.short s hs X t' hx
      · rw [List.mem_singleton.1 hs] at hx
        obtain ⟨rfl, _⟩ := snoc_inj (show [] ++ [t] = X ++ [t'] from hx)
        decide
    · exact linked_push (z := z) (by rfl) (by rfl) h.link
    · intro s hs x hx
      rcases List.mem_append.1 hs with hs | hs
      · exact hS.rl s hs x hx
      · rw [List.mem_singleton.1 hs] at hx
        rw [List.mem_singleton.1 (show x ∈ [t] from hx)]; exact ht
end
end Go.Proofs.YtndjnkjcfdaegaaGreatDoor

/-
  A log that is as it should be: records laid, read, opened again, dropped. No conditions of its own.
-/
namespace Go.Proofs.YtndjnkjcfdaegaaGreatDoor
open Go.RowKit

def recsOf (S : List Sg) : List Nm := S.flatMap Sg.recs
theorem recsOf_snoc (A : List Sg) (z : Sg) : recsOf (A ++ [z]) = recsOf A ++ z.recs := by simp [recsOf]
theorem recs_layS (A : List Sg) (z : Sg) (t : Nm) : recsOf ((layS A z t).1 ++ [(layS A z t).2]) = recsOf (A ++ [z]) ++ [t] := by
  unfold layS
  cases decide (flen z.recs < 4096) <;> simp [recsOf]
theorem next_layS (A : List Sg) (z : Sg) (t : Nm) : (layS A z t).2.next = z.next + 1 := by
  unfold layS
  cases decide (flen z.recs < 4096)
  · rfl
  · simp [Sg.next]; omega
theorem len_layS (A : List Sg) (z : Sg) (t : Nm) : (layS A z t).1.length ≤ A.length + 1 := by
  unfold layS
  cases decide (flen z.recs < 4096) <;> simp
theorem first_layS (A : List Sg) (z : Sg) (t : Nm) : ((layS A z t).1 ++ [(layS A z t).2]).head?.map Sg.first = (A ++ [z]).head?.map Sg.first := by
  unfold layS
  cases decide (flen z.recs < 4096) <;> cases A <;> simp

section
variable {nm : ByteArray} {A : List Sg} {z : Sg} {g : Lg} {d : Ds}
/-- records are laid -/
theorem layAll_good : ∀ (L : List Nm) {A : List Sg} {z : Sg} {g : Lg} {d : Ds}, Good nm A z g d → (∀ t ∈ L, t.length ≤ 65536) → z.next + L.length ≤ 1000000 → A.length + L.length ≤ 63 →
    ∃ A' z' g' d', layAll (L.map toB) g d = (0, g', d') ∧ Good nm A' z' g' d' ∧ recsOf (A' ++ [z']) = recsOf (A ++ [z]) ++ L ∧ z'.next = z.next + L.length ∧ A'.length ≤ A.length + L.length ∧ (A' ++ [z']).head?.map Sg.first = (A ++ [z]).head?.map Sg.first
  | [], A, z, g, d, h, _, _, _ => ⟨A, z, g, d, rfl, h, by simp, by simp, by simp, rfl⟩
  | t :: L, A, z, g, d, h, hl, hn, ha => by
    simp only [List.length_cons] at hn ha
    obtain ⟨g1, d1, he, h1⟩ := lay_good h t (hl t (by simp)) (by omega) (.inr (by omega))
    have hx := next_layS A z t
    have hy := len_layS A z t
    obtain ⟨A', z', g', d', h2, h3, h4, h5, h6, h7⟩ := layAll_good L h1 (fun x hx => hl x (by simp [hx])) (by omega) (by omega)
    refine ⟨A', z', g', d', ?_, h3, ?_, ?_, ?_, ?_⟩
    · rw [List.map_cons, layAll, he]
      exact h2
    · rw [h4, recs_layS, List.append_assoc]; rfl
    · simp only [List.length_cons]; omega
    · simp only [List.length_cons]; omega
    · rw [h7, first_layS]
theorem append_good (h : Good nm A z g d) (L : List Nm) (hl : ∀ t ∈ L, t.length ≤ 65536) (hn : z.next + L.length ≤ 1000000) (ha : A.length + L.length ≤ 63) :
    ∃ A' z' g' d', g.append d (L.map toB) = (0, g', d') ∧ Good nm A' z' g' d' ∧ recsOf (A' ++ [z']) = recsOf (A ++ [z]) ++ L ∧ z'.next = z.next + L.length ∧ A'.length ≤ A.length + L.length ∧ (A' ++ [z']).head?.map Sg.first = (A ++ [z]).head?.map Sg.first := by
  obtain ⟨A', z', g', d', h2, h3⟩ := layAll_good L h hl hn ha
  refine ⟨A', z', g', d', ?_, h3⟩
  unfold Lg.append
  have : (L.map toB).any longB = false := by
    rw [List.any_eq_false]
    intro x hx
    obtain ⟨t, ht, rfl⟩ := List.mem_map.1 hx
    have := hl t ht
    simp [longB, toB_size]
    omega
  rw [this, cond_false, h2]
theorem bts_list (L : List Nm) : (bts L).data.toList = frames L := by simp [bts]
end
theorem RdN.over {w : World} {a : Addr} {n k : Nat} {L : List Nm} (hn : n = L.length) (hk : n ≤ k) : RdN w (.slice (some a) (n - k) 0) (L.drop k) := by
  have hl : L.drop k = [] := List.drop_eq_nil_of_le (by omega)
  have h0 : n - k = 0 := by omega
  rw [hl, h0]
  exact ⟨rfl, by simp, .inr ⟨a, 0, rfl, Nat.le_refl _, by unfold maxLen; omega, by simp⟩⟩
end Go.Proofs.YtndjnkjcfdaegaaGreatDoor

/-
  A log on a disk that may die, and crash: what is there when it is opened again. Plain data. No conditions of its own.
-/
namespace Go.Proofs.YtndjnkjcfdaegaaGreatDoor
open Go.RowKit

/-- the same disk, with room for all -/
def Ds.wide (d : Ds) : Ds := ⟨d.fs, 4611686018427387904, d.dead⟩
/-- A LOG ON A DISK, how much room it ever has. -/
def Live (nm : ByteArray) (A : List Sg) (z : Sg) (g : Lg) (d : Ds) : Prop := Good nm A z g d.wide
/-- behind the last segment's records stands the beginning of a frame -/
structure Half (nm : ByteArray) (A : List Sg) (z : Sg) (t : Nm) (m : Nat) (d : Ds) : Prop where
  good : Good nm A z ⟨nm, (A ++ [z]).map Sg.first, z.next⟩ ⟨(A ++ [z]).map (Sg.file nm), 4611686018427387904, false⟩
  fs : d.fs = A.map (Sg.file nm) ++ [(segNm nm.data.toList z.first, ⟨bts z.recs ++ toB ((frameL t).take m), z.k⟩)]
  lt : m < (frameL t).length
  tl : t.length ≤ 65536
theorem Good.wide {nm : ByteArray} {A : List Sg} {z : Sg} {g : Lg} {d : Ds} (h : Good nm A z g d) : Live nm A z g d :=
  ⟨h.g, h.fs, h.dead, by show _ ≤ (4611686018427387904 : Int); omega, h.up, h.lim, h.nm1, h.nm2, h.few, h.full, h.zs, h.short, h.link, h.rl, h.zk⟩
theorem bts_nil (L : List Nm) : bts L ++ toB [] = bts L := by
  apply ByteArray.ext
  rw [ByteArray.data_append]
  simp [toB]
theorem Live.half {nm : ByteArray} {A : List Sg} {z : Sg} {g : Lg} {d : Ds} (h : Live nm A z g d) : Half nm A z [] 0 d := by
  refine ⟨⟨rfl, rfl, rfl, by show _ ≤ (4611686018427387904 : Int); omega, h.up, h.lim, h.nm1, h.nm2, h.few, h.full, h.zs, h.short, h.link, h.rl, h.zk⟩, ?_, by rw [frameL_length]; simp, by simp⟩
  have := h.fs
  show d.fs = _
  rw [show d.fs = d.wide.fs from rfl, this, List.take_zero, bts_nil, List.map_append]
  rfl
section
variable {d : Ds} {g : Lg}
theorem bif_cases {α : Type} {b : Bool} {x y z : α} (h : (bif b then x else y) = z) : (b = true ∧ x = z) ∨ (b = false ∧ y = z) := by
  cases b
  · exact .inr ⟨rfl, h⟩
  · exact .inl ⟨rfl, h⟩
theorem append_room (n s : ByteArray) (e : Ds) (h : d.wide.append n s = (0, e)) : d.append n s = bif decide ((s.size : Int) ≤ d.room) then (0, ⟨e.fs, d.room - s.size, false⟩) else (12, ⟨putF d.fs n.data.toList (withS (openE d.fs d.dead n).1 (s.extract 0 d.room.toNat)), 0, true⟩) := by
  unfold Ds.append at h ⊢
  simp only [Ds.wide] at h
  rcases bif_cases h with ⟨c1, h⟩ | ⟨c1, h⟩
  · have h1 := congrArg Prod.fst h
    simp only at h1
    rw [h1] at c1
    cases c1
  · rw [c1, cond_false]
    rcases bif_cases h with ⟨c2, h⟩ | ⟨c2, h⟩
    · cases congrArg Prod.fst h
    · refine (congrArg (fun b : Bool => bif b then ((8 : Int), d) else _) c2).trans ?_
      rw [cond_false]
      rcases bif_cases h with ⟨c3, h⟩ | ⟨c3, h⟩
      · have h1 := congrArg Prod.snd h
        simp only at h1
        rw [← h1]
      · cases congrArg Prod.fst h
theorem sync_wide (n : ByteArray) : (d.wide.sync n).1 = (d.sync n).1 ∧ (d.wide.sync n).2 = (d.sync n).2.wide ∧ (d.sync n).2.room = d.room := by
  unfold Ds.sync
  simp only [Ds.wide]
  cases (openE d.fs d.dead n).2 == 0
  · exact ⟨rfl, rfl, rfl⟩
  · exact ⟨rfl, rfl, rfl⟩
theorem look_wide (n : ByteArray) : d.wide.look n = d.look n := rfl
/-- a record is laid, where there is room; where there is none, the beginning of its frame is -/
theorem lay_room (s : ByteArray) (g' : Lg) (d' : Ds) (h : g.lay d.wide s = (0, g', d')) :
    (∃ r, g.lay d s = (0, g', ⟨d'.fs, r, false⟩)) ∨
    (∃ (F : Fs) (n : ByteArray) (m : Nat), m < (frameB s).size ∧ g.lay d s = (12, g, ⟨putF F n.data.toList (withS (openE F d.dead n).1 ((frameB s).extract 0 m)), 0, true⟩) ∧
      ((d.look g.last).s.size < 4096 ∧ F = d.fs ∧ n = g.last ∨ ¬ (d.look g.last).s.size < 4096 ∧ F = (d.sync g.last).2.fs ∧ n = g.file g.next ∧ (d.sync g.last).2.dead = d.dead)) := by
  unfold Lg.lay at h ⊢
  rw [look_wide] at h
  have hlt : ∀ r : Int, ¬ ((frameB s).size : Int) ≤ r → r.toNat < (frameB s).size := fun r hr => by
    have h0 : 0 < (frameB s).size := by
      show 0 < (frameL s.data.toList).toArray.size
      rw [List.size_toArray, frameL_length]
      omega
    omega
  by_cases h4 : (d.look g.last).s.size < 4096
  · rw [decide_eq_true h4, cond_true] at h ⊢
    obtain ⟨ap, hap⟩ : ∃ x, x = d.wide.append g.last (frameB s) := ⟨_, rfl⟩
    rw [← hap] at h
    obtain ⟨c, e⟩ := ap
    simp only at h
    cases hc : c == 0 with
    | false =>
      rw [hc, cond_false] at h
      have h1 := congrArg Prod.fst h
      simp only at h1
      rw [h1] at hc
      cases hc
    | true =>
      rw [hc, cond_true] at h
      have hc0 : c = 0 := by simpa using hc
      subst hc0
      have hr := append_room g.last (frameB s) e hap.symm
      have h1 := congrArg Prod.snd h
      simp only [Prod.mk.injEq] at h1
      obtain ⟨h1, h2⟩ := h1
      by_cases hroom : ((frameB s).size : Int) ≤ d.room
      · rw [decide_eq_true hroom, cond_true] at hr
        left
        refine ⟨d.room - (frameB s).size, ?_⟩
        rw [hr, ← h1, ← h2]
        rfl
      · rw [decide_eq_false hroom, cond_false] at hr
        right
        refine ⟨d.fs, g.last, d.room.toNat, hlt _ hroom, ?_, .inl ⟨h4, rfl, rfl⟩⟩
        rw [hr]
        rfl
  · rw [decide_eq_false h4, cond_false] at h ⊢
    cases h9 : decide (99999999 < g.next) with
    | true => rw [h9, cond_true] at h; cases congrArg Prod.fst h
    | false =>
      rw [h9, cond_false] at h
      rw [cond_false]
      obtain ⟨_, s2, s3⟩ := sync_wide (d := d) g.last
      rw [s2] at h
      obtain ⟨ap, hap⟩ : ∃ x, x = (d.sync g.last).2.wide.append (g.file g.next) (frameB s) := ⟨_, rfl⟩
      rw [← hap] at h
      obtain ⟨c, e⟩ := ap
      simp only at h
      cases hc : c == 0 with
      | false =>
        rw [hc, cond_false] at h
        have h1 := congrArg Prod.fst h
        simp only at h1
        rw [h1] at hc
        cases hc
      | true =>
        rw [hc, cond_true] at h
        have hc0 : c = 0 := by simpa using hc
        subst hc0
        have hr := append_room (d := (d.sync g.last).2) (g.file g.next) (frameB s) e hap.symm
        have h1 := congrArg Prod.snd h
        simp only [Prod.mk.injEq] at h1
        obtain ⟨h1, h2⟩ := h1
        have hdead : (d.sync g.last).2.dead = d.dead := by
          unfold Ds.sync
          cases (openE d.fs d.dead g.last).2 == 0 <;> rfl
        by_cases hroom : ((frameB s).size : Int) ≤ (d.sync g.last).2.room
        · rw [decide_eq_true hroom, cond_true] at hr
          left
          refine ⟨(d.sync g.last).2.room - (frameB s).size, ?_⟩
          rw [hr, ← h1, ← h2]
          rfl
        · rw [decide_eq_false hroom, cond_false] at hr
          right
          refine ⟨(d.sync g.last).2.fs, g.file g.next, (d.sync g.last).2.room.toNat, hlt _ hroom, ?_, .inr ⟨h4, rfl, rfl, hdead⟩⟩
          rw [hr, hdead]
          rfl
end
section
variable {nm : ByteArray} {A : List Sg} {z : Sg} {g : Lg} {d : Ds}
theorem frameB_take (t : Nm) (m : Nat) : (frameB (toB t)).extract 0 m = toB ((frameL t).take m) := by
  have h1 : frameB (toB t) = toB (frameL t) := by unfold frameB toB; simp
  rw [h1]
  apply ByteArray.ext
  rw [ByteArray.data_extract]
  simp [toB]
/-- the segments to which a record that does not fit was to come -/
def toS (A : List Sg) (z : Sg) : List Sg × Sg := bif decide (flen z.recs < 4096) then (A, z) else (A ++ [⟨z.first, z.recs, flen z.recs⟩], ⟨z.next, [], 0⟩)
theorem recs_toS (A : List Sg) (z : Sg) : recsOf ((toS A z).1 ++ [(toS A z).2]) = recsOf (A ++ [z]) := by
  unfold toS
  cases decide (flen z.recs < 4096) <;> simp [recsOf]
/-- A RECORD IS LAID, OR THE DISK DIES. -/
theorem lay_live (h : Live nm A z g d) (t : Nm) (ht : t.length ≤ 65536) (hn : z.next + 1 ≤ 1000000) (ha : A.length < 62) :
    (∃ g' d', g.lay d (toB t) = (0, g', d') ∧ Live nm (layS A z t).1 (layS A z t).2 g' d') ∨
    (∃ m d', g.lay d (toB t) = (12, g, d') ∧ d'.dead = true ∧ Half nm (toS A z).1 (toS A z).2 t m d') := by
  obtain ⟨g', d', hl, hG⟩ := lay_good h t ht hn (.inr (by omega))
  have hdd : d.dead = false := h.dead
  rcases lay_room (d := d) (toB t) g' d' hl with ⟨r, hr⟩ | ⟨F, n, m, hm, hr, hF⟩
  · left
    refine ⟨g', _, hr, ?_⟩
    have h9 := hG.wide
    have e : d'.wide = (⟨d'.fs, r, false⟩ : Ds).wide := by
      unfold Ds.wide
      rw [hG.dead]
    unfold Live at h9 ⊢
    rw [e] at h9
    exact h9
  · right
    have hml : m < (frameL t).length := by rw [frameB_size] at hm; rw [frameL_length]; exact hm
    refine ⟨m, _, hr, rfl, ?_⟩
    have hlk : d.look g.last = ⟨bts z.recs, z.k⟩ := by rw [← look_wide, h.last]; exact Good.look h (X := A) (Y := []) rfl
    rw [hlk] at hF
    simp only [bts_size] at hF
    rcases hF with ⟨h4, rfl, rfl⟩ | ⟨h4, rfl, rfl, hd2⟩
    · have e1 : toS A z = (A, z) := by unfold toS; rw [decide_eq_true h4, cond_true]
      rw [e1]
      refine ⟨(h.half).good, ?_, hml, ht⟩
      have ho := Good.open h (X := A) (Y := []) rfl
      have hp := Good.put h
      simp only [Ds.wide] at ho hp
      simp only
      rw [h.last, ho, hp, frameB_take]
    · have e1 : toS A z = (A ++ [⟨z.first, z.recs, flen z.recs⟩], ⟨z.next, [], 0⟩) := by unfold toS; rw [decide_eq_false h4, cond_false]
      rw [e1]
      have hS := h.synced
      obtain ⟨_, s2, _⟩ := sync_wide (d := d) g.last
      rw [s2] at hS
      have hz1 : 1 ≤ z.recs.length := by
        cases hr : z.recs with
        | nil => rw [hr] at h4; exact absurd (by decide) h4
        | cons _ _ => simp
      have h8 : z.next < 100000000 := by have := h.lim; omega
      have hname : g.file g.next = fileNm nm z.next := by rw [h.g]; rfl
      have hno : getF (d.sync g.last).2.fs (fileNm nm z.next).data.toList = none := by
        have hfs := hS.fs
        simp only [Ds.wide] at hfs
        rw [hfs]
        exact getF_none_of h8 (fun s hs => ⟨hS.lt8 s hs, by have := hS.low s hs; show s.first ≠ z.first + z.recs.length; have e : (Sg.mk z.first z.recs (flen z.recs)).first = z.first := rfl; omega⟩)
      have hop : openE (d.sync g.last).2.fs d.dead (fileNm nm z.next) = (Fi.none, 6) := by
        unfold openE
        rw [hdd, Bool.and_false, cond_false]
        exact find_no (by rw [fileNm_size _ h8]; omega) (by rw [fileNm_size _ h8]; have := h.nm2; omega) hno
      have hput : ∀ f, putF (d.sync g.last).2.fs (fileNm nm z.next).data.toList f = (d.sync g.last).2.fs ++ [(segNm nm.data.toList z.next, f)] := by
        intro f
        have := putF_new (A := (d.sync g.last).2.fs) (B := []) (n := segNm nm.data.toList z.next) (f := f) (fun a ha => by
          have hfs := hS.fs
          simp only [Ds.wide] at hfs
          rw [hfs] at ha
          obtain ⟨s, hs, rfl⟩ := List.mem_map.1 ha
          refine segNm_before _ ?_ h8
          have := hS.low s hs
          show s.first < z.first + z.recs.length
          have e : (Sg.mk z.first z.recs (flen z.recs)).first = z.first := rfl
          omega) (fun c hc => absurd hc List.not_mem_nil)
        rw [List.append_nil] at this
        exact this
      refine ⟨⟨rfl, rfl, rfl, by show _ ≤ (4611686018427387904 : Int); omega, ?_, by show z.next + 0 ≤ _; omega, h.nm1, h.nm2, by simp; omega, ?_, by simp [flen], ?_, ?_, ?_, Nat.zero_le _⟩, ?_, hml, ht⟩
      · rw [List.pairwise_append]
        refine ⟨hS.up, by simp, fun a ha b hb => ?_⟩
        rw [List.mem_singleton.1 hb]
        have := hS.low a ha
        show a.first < z.first + z.recs.length
        have e : (Sg.mk z.first z.recs (flen z.recs)).first = z.first := rfl
        omega
      · intro a ha
        rcases List.mem_append.1 ha with ha | ha
        · exact h.full a ha
        · rw [List.mem_singleton.1 ha]; exact ⟨by show 4096 ≤ flen z.recs; omega, h.zs, rfl⟩
      · intro s hs X t' hx
        rcases List.mem_append.1 hs with hs | hs
        · exact hS.short s hs X t' hx
        · rw [List.mem_singleton.1 hs] at hx
          have := congrArg List.length hx
          simp at this
      · exact linked_push (z := z) (by rfl) (by rfl) h.link
      · intro s hs x hx
        rcases List.mem_append.1 hs with hs | hs
        · exact hS.rl s hs x hx
        · rw [List.mem_singleton.1 hs] at hx
          cases hx
      · simp only
        rw [hname, hop, hput, frameB_take]
        have hfs := hS.fs
        simp only [Ds.wide] at hfs
        rw [hfs]
        have hw : withS Fi.none (toB ((frameL t).take m)) = ⟨bts [] ++ toB ((frameL t).take m), 0⟩ := by
          show (⟨(⟨#[]⟩ : ByteArray) ++ toB ((frameL t).take m), 0⟩ : Fi) = _
          rfl
        rw [hw]
end
/-- what is read of the beginning of frames -/
theorem parse_cut (t : Nm) (ht : t.length ≤ 65536) (m : Nat) (hm : m < (frameL t).length) : ∀ (L : List Nm) (K : Nat), (∀ x ∈ L, x.length ≤ 65536) →
    ∃ j, j ≤ L.length ∧ parse ((frames L ++ (frameL t).take m).take K) = L.take j ∧ flen (L.take j) ≤ K ∧ flen (L.take j) ≤ (frames L ++ (frameL t).take m).length ∧ ∀ i, i ≤ L.length → flen (L.take i) ≤ K → i ≤ j
  | [], K, _ => by
    refine ⟨0, Nat.le_refl _, ?_, Nat.zero_le _, Nat.zero_le _, fun i hi _ => hi⟩
    rw [frames_nil, List.nil_append, List.take_take]
    refine parse_none ?_
    refine firstF_torn (List.take_prefix _ _) ?_ ht
    rw [List.length_take, frameL_length] at *
    omega
  | a :: L, K, hL => by
    rw [frames_cons, List.append_assoc]
    by_cases hK : K < (frameL a).length
    · refine ⟨0, Nat.zero_le _, ?_, Nat.zero_le _, Nat.zero_le _, fun i hi hle => ?_⟩
      · rw [List.take_append_of_le_length (Nat.le_of_lt hK)]
        refine parse_none ?_
        refine firstF_torn (List.take_prefix _ _) ?_ (hL a (by simp))
        rw [List.length_take, frameL_length] at *
        omega
      · cases i with
        | zero => exact Nat.le_refl _
        | succ i =>
          exfalso
          rw [List.take_succ_cons] at hle
          have : flen (a :: L.take i) = (a.length + 7) + flen (L.take i) := by simp [flen]
          rw [frameL_length] at hK
          omega
    · obtain ⟨j, h1, h2, h3, h4, h5⟩ := parse_cut t ht m hm L (K - (frameL a).length) (fun x hx => hL x (by simp [hx]))
      have hfl : ∀ X : List Nm, flen (a :: X) = (a.length + 7) + flen X := fun X => by simp [flen]
      have hal := frameL_length a
      refine ⟨j + 1, by simp; omega, ?_, ?_, ?_, fun i hi hle => ?_⟩
      · rw [List.take_append, List.take_of_length_le (Nat.le_of_not_lt hK), parse_cons _ _ (hL a (by simp)), h2]
        rfl
      · rw [List.take_succ_cons, hfl]; omega
      · rw [List.take_succ_cons, hfl, List.length_append]; omega
      · cases i with
        | zero => exact Nat.zero_le _
        | succ i =>
          rw [List.take_succ_cons, hfl] at hle
          have := h5 i (by simpa using hi) (by omega)
          omega
section
variable {nm : ByteArray} {A : List Sg} {z : Sg} {d : Ds} {t : Nm} {m : Nat}
theorem crash_whole (keep : Int) (a : Sg) (h : a.k = flen a.recs) : crashP keep (Sg.file nm a) = Sg.file nm a := by
  unfold crashP Sg.file crashF
  have e : crashK keep ⟨bts a.recs, a.k⟩ = flen a.recs := by
    unfold crashK
    simp only [bts_size, h]
    omega
  rw [e]
  simp only
  have hx : (bts a.recs).extract 0 (flen a.recs) = bts a.recs := by
    rw [← bts_size]
    apply ByteArray.ext
    rw [ByteArray.data_extract]
    exact Array.extract_size
  rw [hx, h]
/-- THE DISK HAS CRASHED: its log is opened again, with a beginning of the records, and no less than was sure. -/
theorem open_half (h : Half nm A z t m d) (keep : Int) :
    ∃ (j : Nat) (z' : Sg) (g' : Lg) (d' : Ds), z' = ⟨z.first, z.recs.take j, flen (z.recs.take j)⟩ ∧ j ≤ z.recs.length ∧ (∀ i, i ≤ z.recs.length → flen (z.recs.take i) ≤ z.k → i ≤ j) ∧
      opThere (d.crash keep) nm = (0, (A ++ [z]).map Sg.first, d.crash keep) ∧
      opEnd nm ((A ++ [z]).map Sg.first) (opRun nm ((A ++ [z]).map Sg.first) (d.crash keep)) = (g', recsOf (A ++ [z']), d') ∧ Good nm A z' g' d' := by
  have hg := h.good
  have hzrl := hg.rl z (by simp)
  obtain ⟨F, hF⟩ : ∃ F : Fi, F = ⟨bts z.recs ++ toB ((frameL t).take m), z.k⟩ := ⟨_, rfl⟩
  obtain ⟨K, hK⟩ : ∃ K, K = crashK keep F := ⟨_, rfl⟩
  have hFl : F.s.data.toList = frames z.recs ++ (frameL t).take m := by rw [hF]; simp only [bts, toB, ByteArray.data_append, Array.toList_append]
  have hFs : F.s.size = (frames z.recs ++ (frameL t).take m).length := by rw [← hFl, Array.length_toList]; rfl
  have hFk : F.k = z.k := by rw [hF]
  have hkF : F.k ≤ F.s.size := by
    rw [hFk, hFs, List.length_append, frames_length]
    have := hg.zk
    omega
  have hKle := crashK_le keep hkF
  rw [← hK] at hKle
  have hKge : z.k ≤ K := by rw [hK]; unfold crashK; rw [hFk]; omega
  obtain ⟨j, j1, j2, j3, j4, j5⟩ := parse_cut t h.tl m h.lt z.recs K hzrl
  obtain ⟨z', hz'⟩ : ∃ q : Sg, q = ⟨z.first, z.recs.take j, flen (z.recs.take j)⟩ := ⟨_, rfl⟩
  obtain ⟨U, hU⟩ : ∃ U, U = F.s.extract 0 K := ⟨_, rfl⟩
  have hUl : U.data.toList = (frames z.recs ++ (frameL t).take m).take K := by
    rw [hU, ByteArray.data_extract, ← hFl]
    simp
  have hUs : U.size = K := by
    have : U.size = U.data.toList.length := by rw [Array.length_toList]; rfl
    rw [this, hUl, List.length_take, ← hFs]
    omega
  have hpU : parse U.data.toList = z.recs.take j := by rw [hUl]; exact j2
  have hcfs : (d.crash keep).fs = A.map (Sg.file nm) ++ [(segNm nm.data.toList z.first, ⟨U, K⟩)] := by
    unfold Ds.crash
    simp only
    rw [h.fs, List.map_append, List.map_map]
    congr 1
    · apply List.map_congr_left
      intro a ha
      exact crash_whole keep a (hg.full a ha).2.2
    · rw [← hF]
      simp only [List.map_cons, List.map_nil, crashP, crashF, ← hK, hU]
  obtain ⟨c, hc⟩ : ∃ c, c = d.crash keep := ⟨_, rfl⟩
  have hcr : c.room = 4611686018427387904 := by rw [hc]; rfl
  have hcd : c.dead = false := by rw [hc]; rfl
  rw [← hc] at hcfs ⊢
  have hlt8 := hg.lt8
  have hz8 := hlt8 z (by simp)
  -- the names
  have hnames : namesOf c.fs = ((A ++ [z]).map (Sg.file nm)).map (·.1) := by
    unfold namesOf
    rw [hcfs, List.map_append, List.map_append, List.map_append]
    rfl
  have hris : ∀ f : Fi, Rising (A.map (Sg.file nm) ++ [(segNm nm.data.toList z.first, f)]) := fun f => by
    refine rising_names (fs := (A ++ [z]).map (Sg.file nm)) ?_ (rising_of nm hg.up hlt8)
    rw [List.map_append, List.map_append, List.map_append]
    rfl
  have hsegs : segsOf nm.data.toList (namesOf c.fs) = (A ++ [z]).map Sg.first := by
    unfold segsOf
    rw [hnames, List.map_map]
    generalize A ++ [z] = S at hlt8
    induction S with
    | nil => rfl
    | cons s S ih =>
      rw [List.map_cons, List.filterMap_cons]
      have : segOf nm.data.toList (((·.1) ∘ Sg.file nm) s) = some s.first := segOf_segNm _ (hlt8 s (by simp))
      rw [this, ih (fun x hx => hlt8 x (by simp [hx]))]
      rfl
  have hthere : opThere c nm = (0, (A ++ [z]).map Sg.first, c) := by
    unfold opThere
    rw [hsegs]
    have : ((A ++ [z]).map Sg.first).isEmpty = false := by cases A <;> rfl
    rw [this, cond_false]
  -- a whole segment
  have hfindX : ∀ {X1 X2 : List Sg} {x : Sg}, A = X1 ++ x :: X2 → findE c.fs (fileNm nm x.first) = (⟨bts x.recs, x.k⟩, 0) := fun {X1 X2 x} hX => by
    have h8 := hlt8 x (by rw [hX]; simp)
    refine findW_at (by rw [fileNm_size _ h8]; omega) (by rw [fileNm_size _ h8]; have := hg.nm2; omega) ?_
    have hr := hris ⟨U, K⟩
    rw [hcfs]
    rw [hX, List.map_append, List.map_cons, List.append_assoc] at hr ⊢
    exact getF_mid hr
  have htruncX : ∀ {X1 X2 : List Sg} {x : Sg}, A = X1 ++ x :: X2 → (c.truncate (fileNm nm x.first) (flen x.recs)).2 = c := fun {X1 X2 x} hX => by
    have hk := (hg.full x (by rw [hX]; simp)).2.2
    unfold Ds.truncate openE
    rw [hcd, Bool.and_false, cond_false, hfindX hX]
    dsimp only
    rw [bts_size, decide_eq_false (by omega : ¬ ((flen x.recs : Int) < 0)), decide_eq_false (by omega : ¬ ((flen x.recs : Int) < (flen x.recs : Int)))]
    have hx : (bts x.recs).extract 0 (flen x.recs) = bts x.recs := by
      rw [← bts_size]
      apply ByteArray.ext
      rw [ByteArray.data_extract]
      exact Array.extract_size
    have hm : min x.k (flen x.recs) = x.k := Nat.min_eq_left (by omega)
    have hp : putF c.fs (fileNm nm x.first).data.toList ⟨bts x.recs, x.k⟩ = c.fs := by
      have hr := hris ⟨U, K⟩
      rw [hcfs]
      rw [hX, List.map_append, List.map_cons, List.append_assoc] at hr ⊢
      exact putF_mid hr
    show (bif (0 : Int) == 0 then (bif false || false then (5, c) else (0, c.with (putF c.fs (fileNm nm x.first).data.toList ⟨(bts x.recs).extract 0 ((flen x.recs : Int)).toNat, min x.k ((flen x.recs : Int)).toNat⟩))) else (0, c)).2 = c
    rw [Int.toNat_natCast, hx, hm, hp]
    rfl
  have hlookX : ∀ {X1 X2 : List Sg} {x : Sg}, A = X1 ++ x :: X2 → c.look (fileNm nm x.first) = ⟨bts x.recs, x.k⟩ := fun {X1 X2 x} hX => by unfold Ds.look; rw [hfindX hX]
  have hrunX : ∀ (X2 X1 : List Sg) (n : Nat), A = X1 ++ X2 → (X2 ++ [z]).head?.map Sg.first = some n →
      (X2.map Sg.first).foldl (opStep nm) ⟨true, X1.map Sg.first, n, recsOf X1, c⟩ = ⟨true, A.map Sg.first, z.first, recsOf A, c⟩ := by
    intro X2
    induction X2 with
    | nil =>
      intro X1 n hX hn
      have hn : z.first = n := by simpa using hn
      rw [hX, List.append_nil, ← hn]
      rfl
    | cons s Y ih =>
      intro X1 n hX hn
      have hn : s.first = n := by simpa using hn
      have hrl := hg.rl s (by rw [hX]; simp)
      have hstep : opStep nm ⟨true, X1.map Sg.first, n, recsOf X1, c⟩ s.first = ⟨true, (X1 ++ [s]).map Sg.first, s.next, recsOf (X1 ++ [s]), c⟩ := by
        unfold opStep OpSt.recs
        dsimp only
        rw [hlookX hX, bts_list, parse_all _ hrl, bts_size, htruncX hX, decide_eq_true hn, decide_eq_true rfl, ← hn]
        simp [recsOf, Sg.next]
      rw [List.map_cons, List.foldl_cons, hstep]
      refine ih (X1 ++ [s]) s.next (by rw [hX]; simp) ?_
      cases Y with
      | nil =>
        have hl := hg.link
        rw [hX, List.append_assoc] at hl
        have := (linked_tail hl).1
        simpa using this.symm
      | cons b Y =>
        have hl := hg.link
        rw [hX, List.append_assoc] at hl
        have := (linked_tail hl).1
        simpa using this.symm
  -- the last one
  have hfindZ : ∀ f : Fi, ∀ c' : Ds, c'.fs = A.map (Sg.file nm) ++ [(segNm nm.data.toList z.first, f)] → findE c'.fs (fileNm nm z.first) = (f, 0) := fun f c' hc' => by
    refine findW_at (by rw [fileNm_size _ hz8]; omega) (by rw [fileNm_size _ hz8]; have := hg.nm2; omega) ?_
    rw [hc']
    exact getF_mid (hris f)
  have hputZ : ∀ f f' : Fi, ∀ c' : Ds, c'.fs = A.map (Sg.file nm) ++ [(segNm nm.data.toList z.first, f)] → putF c'.fs (fileNm nm z.first).data.toList f' = A.map (Sg.file nm) ++ [(segNm nm.data.toList z.first, f')] := fun f f' c' hc' => by
    rw [hc']
    exact putF_mid (hris f)
  obtain ⟨fj, hfj⟩ : ∃ n, n = flen (z.recs.take j) := ⟨_, rfl⟩
  have hfjU : fj ≤ U.size := by rw [hfj, hUs]; exact j3
  have hcut : U.extract 0 fj = bts (z.recs.take j) := by
    have hp := parse_take U.data.toList
    rw [hpU, ← hfj] at hp
    apply ByteArray.ext
    rw [ByteArray.data_extract]
    apply Array.ext'
    simp only [Array.toList_extract, List.extract_eq_take_drop, List.drop_zero, Nat.sub_zero]
    exact hp
  have htr : (c.truncate (fileNm nm z.first) (fj : Int)).2 = c.with (A.map (Sg.file nm) ++ [(segNm nm.data.toList z.first, ⟨bts (z.recs.take j), fj⟩)]) := by
    unfold Ds.truncate openE
    rw [hcd, Bool.and_false, cond_false, hfindZ ⟨U, K⟩ c hcfs]
    dsimp only
    rw [decide_eq_false (by omega : ¬ ((fj : Int) < 0)), decide_eq_false (by omega : ¬ ((U.size : Int) < (fj : Int)))]
    show (bif (0 : Int) == 0 then (bif false || false then (5, c) else (0, c.with (putF c.fs (fileNm nm z.first).data.toList ⟨U.extract 0 ((fj : Int)).toNat, min K ((fj : Int)).toNat⟩))) else (0, c)).2 = _
    rw [Int.toNat_natCast, hcut, Nat.min_eq_right (by omega : fj ≤ K), hputZ ⟨U, K⟩ _ c hcfs]
    rfl
  obtain ⟨c2, hc2⟩ : ∃ c2, c2 = c.with (A.map (Sg.file nm) ++ [(segNm nm.data.toList z.first, ⟨bts (z.recs.take j), fj⟩)]) := ⟨_, rfl⟩
  have hrun : opRun nm ((A ++ [z]).map Sg.first) c = ⟨decide (fj = U.size), (A ++ [z]).map Sg.first, z.first + (z.recs.take j).length, recsOf A ++ z.recs.take j, c2⟩ := by
    unfold opRun
    have h0 : ((A ++ [z]).map Sg.first).headD 0 = ((A ++ [z]).head?.map Sg.first).getD 0 := by cases A <;> simp
    have := hrunX A [] (((A ++ [z]).map Sg.first).headD 0) rfl (by cases A <;> simp)
    rw [List.map_append, List.foldl_append]
    rw [List.map_append] at this
    have e : recsOf [] = ([] : List Nm) := rfl
    rw [List.map_nil, e] at this
    rw [this]
    have hlz : c.look (fileNm nm z.first) = ⟨U, K⟩ := by unfold Ds.look; rw [hfindZ ⟨U, K⟩ c hcfs]
    simp only [List.map_cons, List.map_nil, List.foldl_cons, List.foldl_nil]
    unfold opStep OpSt.recs
    dsimp only
    rw [hlz]
    dsimp only
    rw [hpU, ← hfj, htr, decide_eq_true rfl, ← hc2]
    rfl
  have hc2d : c2.dead = false := by rw [hc2]; exact hcd
  have hc2f : c2.fs = A.map (Sg.file nm) ++ [(segNm nm.data.toList z.first, ⟨bts (z.recs.take j), fj⟩)] := by rw [hc2]
  have hsync : (c2.sync (fileNm nm z.first)).2 = c2 := by
    unfold Ds.sync openE
    rw [hc2d, Bool.and_false, cond_false, hfindZ _ c2 hc2f]
    dsimp only
    rw [hputZ _ _ c2 hc2f, bts_size, ← hfj, ← hc2f]
    rfl
  refine ⟨j, z', ⟨nm, (A ++ [z']).map Sg.first, z'.next⟩, c2, hz', j1, fun i hi hle => j5 i hi (by omega), hthere, ?_, ?_⟩
  · unfold opEnd
    rw [hrun]
    dsimp only
    have hl : lastN ((A ++ [z]).map Sg.first) = z.first := by rw [List.map_append]; simp [lastN]
    rw [hl, List.drop_length]
    have hrm : rmAll nm ([] : List Nat).reverse c2 = c2 := rfl
    rw [hrm, hsync, recsOf_snoc, hz']
    simp [Sg.next]
  · have hzf : z'.first = z.first := by rw [hz']
    have hzr : z'.recs = z.recs.take j := by rw [hz']
    have hzk : z'.k = flen z'.recs := by rw [hz']
    have hle : flen (z.recs.take j) ≤ flen z.recs := flen_take_le _ _
    refine ⟨rfl, ?_, hc2d, ?_, ?_, ?_, hg.nm1, hg.nm2, hg.few, hg.full, ?_, ?_, linked_same (z := z) hzf hg.link, ?_, by rw [hzk]; exact Nat.le_refl _⟩
    · rw [hc2f, List.map_append]
      congr 1
      rw [hfj, hz']
      rfl
    · have : c2.room = 4611686018427387904 := by rw [hc2]; exact hcr
      omega
    · have := hg.up
      rw [List.pairwise_append] at this ⊢
      exact ⟨this.1, by simp, fun a ha b hb => by rw [List.mem_singleton.1 hb, hzf]; exact this.2.2 a ha z (by simp)⟩
    · have := hg.lim
      unfold Sg.next at this ⊢
      rw [hzf, hzr, List.length_take]
      omega
    · rw [hzr]; have := hg.zs; omega
    · intro s hs X t' hx
      rcases List.mem_append.1 hs with hs | hs
      · exact hg.short s (by simp [hs]) X t' hx
      · rw [List.mem_singleton.1 hs, hzr] at hx
        -- a beginning of short ones
        have hX : ∃ Y u, z.recs = X ++ u :: Y := by
          have h1 : z.recs = (X ++ [t']) ++ z.recs.drop j := by rw [← hx, List.take_append_drop]
          exact ⟨_, _, by rw [h1, List.append_assoc]; rfl⟩
        obtain ⟨Y, u, hY⟩ := hX
        rcases List.eq_nil_or_concat Y with rfl | ⟨Y', y, rfl⟩
        · exact hg.short z (by simp) X u hY
        · have h2 := hg.short z (by simp) (X ++ u :: Y') y (by rw [hY]; simp)
          rw [flen_append] at h2
          omega
    · intro s hs x hx
      rcases List.mem_append.1 hs with hs | hs
      · exact hg.rl s (by simp [hs]) x hx
      · rw [List.mem_singleton.1 hs, hzr] at hx
        exact hzrl x (List.mem_of_mem_take hx)
end
end Go.Proofs.YtndjnkjcfdaegaaGreatDoor

/-
  The world of a ledger law's witness: what the row's list lays (one fact each: together they are too much for the kernel). No conditions of their own.
-/
namespace Go.Proofs.YtndjnkjcfdaegaaGreatDoor
open Go.ChangeShapes Go.WideShapes Go.ChangeAt Go.RowKit Go.Joins Go.Deep

set_option maxRecDepth 100000
theorem laid_zip (os : Os) (args : Array Value) : ((World.laidAll Tryz.prog os laidWal).forCall (fun _ _ => 0) ⟨#[], args, []⟩).variablesZipB Tryz.prog = true := by kernel_rfl
theorem laid_heap (os : Os) (args : Array Value) : (((World.laidAll Tryz.prog os laidWal).forCall (fun _ _ => 0) ⟨#[], args, []⟩).heap.toList.drop Tryz.prog.globals.size).take ((begin Tryz.prog (fun _ _ => 0) default).world.heap.size - Tryz.prog.globals.size) = (begin Tryz.prog (fun _ _ => 0) default).world.heap.toList.drop Tryz.prog.globals.size := by kernel_rfl
theorem laid_fits (os : Os) : (World.holding Tryz.prog os ⟨#[], #[], []⟩).layFits Tryz.prog laidWal [] = true := by kernel_rfl
theorem laid_ifaces (os : Os) : (World.holding Tryz.prog os ⟨#[], #[], []⟩).layIfaces Tryz.prog laidWal (World.laidAll Tryz.prog os laidWal) = true := by kernel_rfl
end Go.Proofs.YtndjnkjcfdaegaaGreatDoor

/-
  Closed facts of the program (one each: together they are too much for the kernel). No conditions of their own.
-/
namespace Go.Proofs.YtndjnkjcfdaegaaGreatDoor
open Go.ChangeShapes Go.WideShapes Go.ChangeAt Go.RowKit Go.Joins Go.Deep
set_option maxRecDepth 100000
theorem cl_laid : laidOutB Tryz.pinned.checked.prog = true := by kernel_rfl
theorem cl_maps : mapsRowed Tryz.pinned.checked.prog = true := by kernel_rfl
theorem cl_heard : (Tryz.pinned.checked.prog).stopsHeard = true := by kernel_rfl
end Go.Proofs.YtndjnkjcfdaegaaGreatDoor

