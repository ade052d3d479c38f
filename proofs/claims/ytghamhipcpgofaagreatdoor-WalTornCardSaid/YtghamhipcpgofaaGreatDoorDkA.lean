/-
  A disk's files as a list, and how they lie in the disk's map. Plain lemmas and laws at the operation. No conditions of its own.
-/
import Derived.Test.YtghamhipcpgofaaGreatDoorWhole
import Derived.Maps.OwnSet
import Derived.Maps.RangeWalk
import Derived.WideShapes
import Derived.StringKeys
namespace Go.Proofs.YtghamhipcpgofaaGreatDoor
open Go.RowKit

/-- a file: its bytes, and how many of them are sure -/
structure Fi where
  s : ByteArray
  k : Nat
/-- as a value -/
abbrev fV (f : Fi) : Value := .agg #[.string f.s, .int .i64 f.k]
/-- as a datum -/
def fD (f : Fi) : DataW Unit := .agg [.lit (.string f.s.data.toList), .lit (.int .i64 f.k)]
/-- how a file reads -/
def fileElem (v : Value) : Option (DataW Unit × List MemPlace) :=
  match v with
  | .agg cs => match cs.toList with
    | [.string s, .int .i64 n] => some (.agg [.lit (.string s.data.toList), .lit (.int .i64 n)], [])
    | _ => none
  | _ => none
theorem fileElem_mk (f : Fi) : fileElem (fV f) = some (fD f, []) := rfl
theorem fileElem_shape {v : Value} {y : DataW Unit × List MemPlace} (h : fileElem v = some y) : ∃ (s : ByteArray) (n : Int), v = .agg #[.string s, .int .i64 n] ∧ y = (.agg [.lit (.string s.data.toList), .lit (.int .i64 n)], []) := by
  unfold fileElem at h
  split at h
  · rename_i cs
    split at h
    · rename_i s n hv
      refine ⟨s, n, ?_, (Option.some.inj h).symm⟩
      rw [← Array.toArray_toList (xs := cs), hv]
    · cases h
  · cases h
theorem bytes_of {s t : ByteArray} (h : s.data.toList = t.data.toList) : s = t := by
  cases s
  cases t
  simp at h
  rw [h]
theorem fileElem_inv {v : Value} {f : Fi} {ps : List MemPlace} (h : fileElem v = some (fD f, ps)) : v = fV f := by
  obtain ⟨s, n, rfl, hy⟩ := fileElem_shape h
  have h1 : f.s.data.toList = s.data.toList ∧ (f.k : Int) = n := by
    have h2 := congrArg Prod.fst hy
    unfold fD at h2
    injection h2 with h2
    injection h2 with h3 h4
    injection h4 with h4 _
    injection h3 with h3
    injection h4 with h4
    injection h3 with h3
    injection h4 with _ h4
    exact ⟨h3, h4⟩
  rw [← bytes_of h1.1, ← h1.2]

abbrev Nm := List UInt8
abbrev Fs := List (Nm × Fi)
def dOf (fs : Fs) : DataW Unit := .map (fs.map fun p => (.string p.1, fD p.2))
def isNm (n : Nm) (p : Nm × Fi) : Bool := p.1 == n
def getF (fs : Fs) (n : Nm) : Option Fi := (fs.find? (isNm n)).map (·.2)
def delF (fs : Fs) (n : Nm) : Fs := fs.filter fun p => !isNm n p
def insF (x : Nm × Fi) : Fs → Fs
  | [] => [x]
  | y :: r => if bytesBefore x.1 y.1 then x :: y :: r else y :: insF x r
def putF (fs : Fs) (n : Nm) (f : Fi) : Fs := insF (n, f) (delF fs n)
/-- files in the order of their names -/
def Rising (fs : Fs) : Prop := fs.Pairwise fun p q => bytesBefore p.1 q.1 = true

theorem map_insF (x : Nm × Fi) : ∀ fs : Fs, (insF x fs).map (fun p => ((.string p.1 : Lit), fD p.2)) = DataW.insert (.string x.1, fD x.2) (fs.map fun p => (.string p.1, fD p.2))
  | [] => rfl
  | y :: r => by
    unfold insF
    rw [List.map_cons]
    unfold DataW.insert
    show _ = if bytesBefore x.1 y.1 = true then _ else _
    split
    · rfl
    · rw [List.map_cons, map_insF x r]
theorem map_delF (n : Nm) (fs : Fs) : (delF fs n).map (fun p => ((.string p.1 : Lit), fD p.2)) = (fs.map fun p => ((.string p.1 : Lit), fD p.2)).filter fun p => !p.1.sameKey (.string n) := by
  unfold delF
  rw [List.filter_map]
  rfl
theorem dOf_put (fs : Fs) (n : Nm) (f : Fi) : (dOf fs).put (.string n) (fD f) = dOf (putF fs n f) := by
  unfold dOf DataW.put putF
  rw [map_insF, map_delF]
theorem dOf_del (fs : Fs) (n : Nm) : (dOf fs).del (.string n) = dOf (delF fs n) := by
  unfold dOf DataW.del
  rw [map_delF]
theorem dOf_size (fs : Fs) : Maps.size (dOf fs) = fs.length := by simp [dOf, Maps.size]
theorem find_map (n : Nm) (fs : Fs) : (fs.map fun p => ((.string p.1 : Lit), fD p.2)).find? (fun p => p.1.sameKey (.string n)) = (fs.find? (isNm n)).map fun p => ((.string p.1 : Lit), fD p.2) := by
  rw [List.find?_map]
  rfl
theorem dOf_at {fs : Fs} {n : Nm} {f : Fi} (h : getF fs n = some f) (zd : DataW Unit) : (dOf fs).atKey (.string n) zd = fD f := by
  unfold dOf DataW.atKey
  simp only [find_map]
  unfold getF at h
  cases hf : fs.find? (isNm n) with
  | none => rw [hf] at h; cases h
  | some p =>
    rw [hf] at h
    simp at h
    simp [h]
theorem dOf_has {fs : Fs} {n : Nm} {f : Fi} (h : getF fs n = some f) : Maps.has (dOf fs) (.string n) = true := Maps.has_true_of_atKey (dOf_at h)
theorem dOf_at_none {fs : Fs} {n : Nm} (h : getF fs n = none) (zd : DataW Unit) : (dOf fs).atKey (.string n) zd = zd := by
  unfold dOf DataW.atKey
  simp only [find_map]
  unfold getF at h
  cases hf : fs.find? (isNm n) with
  | none => simp
  | some p => rw [hf] at h; cases h
theorem dOf_has_none {fs : Fs} {n : Nm} (h : getF fs n = none) : Maps.has (dOf fs) (.string n) = false := Maps.has_false_of_atKey (dOf_at_none h)

theorem insF_length (x : Nm × Fi) : ∀ fs : Fs, (insF x fs).length = fs.length + 1
  | [] => rfl
  | y :: r => by
    unfold insF
    split
    · rfl
    · simp [insF_length x r]
theorem mem_insF {x p : Nm × Fi} : ∀ {fs : Fs}, p ∈ insF x fs ↔ p = x ∨ p ∈ fs
  | [] => by simp [insF]
  | y :: r => by
    unfold insF
    split
    · simp
    · simp only [List.mem_cons, mem_insF (fs := r)]
      constructor
      · rintro (h | h | h)
        · exact .inr (.inl h)
        · exact .inl h
        · exact .inr (.inr h)
      · rintro (h | h | h)
        · exact .inr (.inl h)
        · exact .inl h
        · exact .inr (.inr h)
theorem mem_putF {fs : Fs} {n : Nm} {f : Fi} {p : Nm × Fi} (h : p ∈ putF fs n f) : p = (n, f) ∨ p ∈ fs := by
  rcases mem_insF.1 h with h | h
  · exact .inl h
  · exact .inr (List.mem_filter.1 h).1
theorem mem_getF {fs : Fs} {n : Nm} {f : Fi} (h : getF fs n = some f) : (n, f) ∈ fs := by
  unfold getF at h
  cases hf : fs.find? (isNm n) with
  | none => rw [hf] at h; cases h
  | some p =>
    rw [hf] at h
    simp at h
    have h1 := List.find?_some hf
    have h2 := List.mem_of_find?_eq_some hf
    have h3 : p.1 = n := by simpa [isNm] using h1
    have h4 : p = (n, f) := by rw [← h3, ← h]
    rw [← h4]
    exact h2
theorem delF_le (fs : Fs) (n : Nm) : (delF fs n).length ≤ fs.length := List.length_filter_le _ _
theorem delF_lt {fs : Fs} {n : Nm} {f : Fi} (h : getF fs n = some f) : (delF fs n).length < fs.length := by
  unfold delF
  rw [List.length_filter_lt_length_iff_exists]
  exact ⟨(n, f), mem_getF h, by simp [isNm]⟩
theorem putF_length_le (fs : Fs) (n : Nm) (f : Fi) : (putF fs n f).length ≤ fs.length + 1 := by
  unfold putF
  rw [insF_length]
  have := delF_le fs n
  omega
theorem putF_length_some {fs : Fs} {n : Nm} {f g : Fi} (h : getF fs n = some g) : (putF fs n f).length ≤ fs.length := by
  unfold putF
  rw [insF_length]
  exact delF_lt h
theorem delF_none {fs : Fs} {n : Nm} (h : getF fs n = none) : delF fs n = fs := by
  unfold delF
  rw [List.filter_eq_self]
  intro p hp
  unfold getF at h
  simp at h
  cases hq : isNm n p
  · rfl
  · exact absurd hq (by simpa using h p.1 p.2 hp)

/-- what a file may have -/
def FileOk (f : Fi) : Prop := f.s.size ≤ 4194304 ∧ f.k ≤ f.s.size
/-- THE DISK AT p, ITS MAP AT b. -/
structure DiskAt (w : World) (p b : Nat) (fs : Fs) (room : Int) (dead : Bool) : Prop where
  cells : w.heap[p]? = some (.cells #[.map (some b), .int .i64 room, .bool dead] 70 (0, 0))
  own : w.ownsMap Tryz.prog 9 fileElem b fs.length (dOf fs)
  few : fs.length ≤ 64
  ok : ∀ x ∈ fs, FileOk x.2
  nm : ∀ x ∈ fs, x.1.length ≤ 32
  r0 : 0 ≤ room
  r1 : room ≤ 9223372036854775807

theorem own_kept {S : Nat → Prop} {w w' : World} {b n : Nat} {D : DataW Unit} (h : w.ownsMap Tryz.prog 9 fileElem b n D) (k : Keeps S w w') (hb : ¬ S b) : w'.ownsMap Tryz.prog 9 fileElem b n D := by
  obtain ⟨es, clock, hh, r⟩ := h
  exact ⟨es, clock, k.heap hh hb, r⟩
theorem own_tight {w : World} {b n : Nat} {fs : Fs} (h : w.ownsMap Tryz.prog 9 fileElem b n (dOf fs)) : w.ownsMap Tryz.prog 9 fileElem b fs.length (dOf fs) := by
  obtain ⟨es, clock, hh, F, _, hD⟩ := h
  refine ⟨es, clock, hh, F, ?_, hD⟩
  have h1 := congrArg Maps.size hD
  rw [dOf_size] at h1
  rw [h1]
  simp [Maps.size, length_sorted]
theorem DiskAt.kept {S : Nat → Prop} {w w' : World} {p b : Nat} {fs : Fs} {room : Int} {dead : Bool} (h : DiskAt w p b fs room dead) (k : Keeps S w w') (hp : ¬ S p) (hb : ¬ S b) : DiskAt w' p b fs room dead :=
  ⟨k.heap h.cells hp, own_kept h.own k hb, h.few, h.ok, h.nm, h.r0, h.r1⟩
theorem DiskAt.drew {w : World} {p b : Nat} {fs : Fs} {room : Int} {dead : Bool} (h : DiskAt w p b fs room dead) : DiskAt w.drew p b fs room dead := h.kept (Keeps.refl (S := No) w).drew (fun h => h) (fun h => h)
theorem DiskAt.ne {w : World} {p b : Nat} {fs : Fs} {room : Int} {dead : Bool} (h : DiskAt w p b fs room dead) : p ≠ b := by
  obtain ⟨es, clock, hh, _⟩ := h.own
  rintro rfl
  rw [h.cells] at hh
  cases hh
theorem DiskAt.lt {w : World} {p b : Nat} {fs : Fs} {room : Int} {dead : Bool} (h : DiskAt w p b fs room dead) : p < w.heap.size ∧ b < w.heap.size :=
  ⟨(Array.getElem?_eq_some_iff.1 h.cells).1, h.own.lt⟩
theorem DiskAt.get_ok {w : World} {p b : Nat} {fs : Fs} {room : Int} {dead : Bool} (h : DiskAt w p b fs room dead) {n : Nm} {f : Fi} (hg : getF fs n = some f) : FileOk f := h.ok _ (mem_getF hg)
theorem DiskAt.cell0 {w : World} {p b : Nat} {fs : Fs} {room : Int} {dead : Bool} (h : DiskAt w p b fs room dead) : w.cell? ⟨p, 0, none⟩ = some (.map (some b)) := by simp [World.cell?, h.cells]
theorem DiskAt.cell1 {w : World} {p b : Nat} {fs : Fs} {room : Int} {dead : Bool} (h : DiskAt w p b fs room dead) : w.cell? ⟨p, 1, none⟩ = some (.int .i64 room) := by simp [World.cell?, h.cells]
theorem DiskAt.cell2 {w : World} {p b : Nat} {fs : Fs} {room : Int} {dead : Bool} (h : DiskAt w p b fs room dead) : w.cell? ⟨p, 2, none⟩ = some (.bool dead) := by simp [World.cell?, h.cells]
theorem DiskAt.opened {w : World} {p b : Nat} {fs : Fs} {room : Int} {dead : Bool} (h : DiskAt w p b fs room dead) : Open w p := ⟨_, _, h.cells⟩

/-- the files stand in the order of their names -/
theorem DiskAt.rising {w : World} {p b : Nat} {fs : Fs} {room : Int} {dead : Bool} (h : DiskAt w p b fs room dead) : Rising fs := by
  obtain ⟨es, clock, _, F, _, hD⟩ := h.own
  have K : Maps.Keyed Tryz.prog 9 := Maps.string_keyed Tryz.underlying9
  have hap := Maps.fit_apart K F
  have hk : ChangeMaps.StrKeys (es.toList.map (WideElems.rg Tryz.prog 9 fileElem)) := by
    intro q hq
    have hq' : q ∈ ((es.toList.map (WideElems.rg Tryz.prog 9 fileElem)).foldr DataW.insert []) := mem_sorted.2 hq
    unfold dOf at hD
    injection hD with hD
    rw [← hD] at hq'
    obtain ⟨x, _, rfl⟩ := List.mem_map.1 hq'
    exact ⟨_, rfl⟩
  have hs := ChangeMaps.sorted_sorted _ hk hap
  unfold dOf at hD
  injection hD with hD
  rw [← hD, List.pairwise_map] at hs
  exact hs

/-! ### at the operation -/
theorem Tryz.keyed : Maps.Keyed Tryz.prog 9 := Maps.string_keyed Tryz.underlying9
theorem Tryz.zeroFile (w : World) : (zeroValue 63).run Tryz.prog w = .ok (.agg #[.string ⟨#[]⟩, .int .i64 0]) w := by kernel_rfl
abbrev Fi.none : Fi := ⟨⟨#[]⟩, 0⟩

/-- 'm[k]' without ok, whatever the elements -/
theorem wpList_lookup_own_one {H : Type} {P : Program} {w : World} {ops : Array Oper} {rest : List Oper} {o : Oper} {a : Act} {Q : Exit → Act → World → Prop}
    (hg : o.guard = none) (m x : Operand) (t : TypeId) (hop : o.op = Op.lookup t m x false)
    (k e : TypeId) (K : Maps.Keyed P k) (ht : P.underlying t = some (.map k e)) (R : Value → Option (DataW H × List MemPlace)) {z : Value} (hz : (zeroValue e).run P w = .ok z w) (zd : DataW H) (zp : List MemPlace) (hzd : R z = some (zd, zp)) (b n : Nat) (D : DataW H)
    (hm : a.eval m = .map (some b)) (hown : w.ownsMap P k R b n D) (key : Value) (kl : Lit) (hx : a.eval x = key) (hkey : keyOf P k key = some kl)
    (hK : ∀ v ps, R v = some (D.atKey kl zd, ps) → wpList P ops Q rest (a.put o.dst v) w) :
    wpList P ops Q (o :: rest) a w := by
  refine wpList_plain hg fun K' hK' => ?_
  obtain ⟨v, ps, hrun, hv⟩ := hown.lookup K ht hz hzd hkey
  unfold Oper.wp
  simp [execOp, hop, hm, hx, hrun, Result.andThen]
  exact hK' _ _ (hK v ps hv)

section
variable {w : World} {ops : Array Oper} {rest : List Oper} {o : Oper} {a : Act} {Q : Exit → Act → World → Prop} {b : Nat} {fs : Fs}

theorem wpList_files_some (hg : o.guard = none) (m x : Operand) (hop : o.op = Op.lookup 68 m x true) (hown : w.ownsMap Tryz.prog 9 fileElem b fs.length (dOf fs)) (hm : a.eval m = .map (some b))
    (n : ByteArray) (hx : a.eval x = .string n) (hn : n.size ≤ maxLen) (f : Fi) (hf : getF fs n.data.toList = some f) (hK : wpList Tryz.prog ops Q rest (a.put o.dst (.tuple #[fV f, .bool true])) w) : wpList Tryz.prog ops Q (o :: rest) a w := by
  refine wpList_lookup_own_ok w hg m x _ hop _ _ Tryz.keyed Tryz.underlying68 fileElem (Tryz.zeroFile w) (fD Fi.none) [] (fileElem_mk Fi.none) b _ _ hm hown _ _ hx (WideMaps.keyOf_string_mk Tryz.underlying9 hn) ?_
  intro v ps hv
  rw [dOf_at hf] at hv
  rw [dOf_has hf, fileElem_inv hv]
  exact hK
theorem wpList_files_none (hg : o.guard = none) (m x : Operand) (hop : o.op = Op.lookup 68 m x true) (hown : w.ownsMap Tryz.prog 9 fileElem b fs.length (dOf fs)) (hm : a.eval m = .map (some b))
    (n : ByteArray) (hx : a.eval x = .string n) (hn : n.size ≤ maxLen) (hf : getF fs n.data.toList = none) (hK : wpList Tryz.prog ops Q rest (a.put o.dst (.tuple #[fV Fi.none, .bool false])) w) : wpList Tryz.prog ops Q (o :: rest) a w := by
  refine wpList_lookup_own_ok w hg m x _ hop _ _ Tryz.keyed Tryz.underlying68 fileElem (Tryz.zeroFile w) (fD Fi.none) [] (fileElem_mk Fi.none) b _ _ hm hown _ _ hx (WideMaps.keyOf_string_mk Tryz.underlying9 hn) ?_
  intro v ps hv
  rw [dOf_at_none hf] at hv
  rw [dOf_has_none hf, fileElem_inv hv]
  exact hK
/-- without ok -/
theorem wpList_files_one (hg : o.guard = none) (m x : Operand) (hop : o.op = Op.lookup 68 m x false) (hown : w.ownsMap Tryz.prog 9 fileElem b fs.length (dOf fs)) (hm : a.eval m = .map (some b))
    (n : ByteArray) (hx : a.eval x = .string n) (hn : n.size ≤ maxLen) (f : Fi) (hf : getF fs n.data.toList = some f) (hK : wpList Tryz.prog ops Q rest (a.put o.dst (fV f)) w) : wpList Tryz.prog ops Q (o :: rest) a w := by
  refine wpList_lookup_own_one hg m x _ hop _ _ Tryz.keyed Tryz.underlying68 fileElem (Tryz.zeroFile w) (fD Fi.none) [] (fileElem_mk Fi.none) b _ _ hm hown _ _ hx (WideMaps.keyOf_string_mk Tryz.underlying9 hn) ?_
  intro v ps hv
  rw [dOf_at hf] at hv
  rw [fileElem_inv hv]
  exact hK
/-- a store into the disk's map -/
theorem wpList_files_put (hg : o.guard = none) (m x v : Operand) (hop : o.op = Op.mapUpdate 68 m x v) (hown : w.ownsMap Tryz.prog 9 fileElem b fs.length (dOf fs)) (h64 : fs.length ≤ 64) (hm : a.eval m = .map (some b))
    (n : ByteArray) (hx : a.eval x = .string n) (hn : n.size ≤ maxLen) (f : Fi) (hv : a.eval v = fV f)
    (hK : ∀ w', w'.ownsMap Tryz.prog 9 fileElem b (putF fs n.data.toList f).length (dOf (putF fs n.data.toList f)) → Keeps (Own b) w w' → wpList Tryz.prog ops Q rest (a.put o.dst undef) w') : wpList Tryz.prog ops Q (o :: rest) a w := by
  refine wpList_mapUpdate_own w hg m x v _ hop _ _ Tryz.keyed Tryz.underlying68 fileElem b _ _ hm hown (Nat.lt_of_le_of_lt h64 (by unfold maxLen; omega)) _ _ _ hx hv (WideMaps.keyOf_string_mk Tryz.underlying9 hn) (fD f) [] (fileElem_mk f) ?_
  intro w' h1 h2
  rw [dOf_put] at h1
  exact hK w' (own_tight h1) ((Keeps.refl w).grown h2 (fun k hk _ => by cases hk; rfl))
/-- a file is taken out of the disk's map -/
theorem wpList_files_del (hg : o.guard = none) (m x : Operand) (hop : o.op = Op.call { callee := Callee.builtin Builtin.delete, args := #[m, x], argTypes := #[68, 9] }) (hown : w.ownsMap Tryz.prog 9 fileElem b fs.length (dOf fs)) (hm : a.eval m = .map (some b))
    (n : ByteArray) (hx : a.eval x = .string n) (hn : n.size ≤ maxLen)
    (hK : ∀ w', w'.ownsMap Tryz.prog 9 fileElem b (delF fs n.data.toList).length (dOf (delF fs n.data.toList)) → Keeps (Own b) w w' → wpList Tryz.prog ops Q rest (a.put o.dst (.tuple #[])) w') : wpList Tryz.prog ops Q (o :: rest) a w := by
  refine wpList_delete_own w hg m x _ _ hop _ Tryz.keyed Tryz.underlying68 fileElem b _ _ hm hown _ _ hx (WideMaps.keyOf_string_mk Tryz.underlying9 hn) ?_
  intro w' h1 h2
  rw [dOf_del] at h1
  exact hK w' (own_tight h1) ((Keeps.refl w).grown h2.grown (fun k hk _ => by cases hk; rfl))
theorem wpList_files_len (hg : o.guard = none) (m : Operand) (hop : o.op = Op.call { callee := Callee.builtin Builtin.len, args := #[m], argTypes := #[68] }) (hown : w.ownsMap Tryz.prog 9 fileElem b fs.length (dOf fs)) (hm : a.eval m = .map (some b))
    (hK : wpList Tryz.prog ops Q rest (a.put o.dst (.int .i64 fs.length)) w) : wpList Tryz.prog ops Q (o :: rest) a w := by
  refine wpList_len_own w hg m _ hop _ _ Tryz.underlying68 fileElem b _ _ hm hown ?_
  rw [dOf_size]
  exact hK
end

end Go.Proofs.YtghamhipcpgofaaGreatDoor
