/-
  The log's name of a file; the log in memory; wal's file and last. No conditions of their own, but that the tables are laid.
-/
import Derived.Test.YtndjnkjcfdaegaaGreatDoorZh16
import Derived.Lib.ItoaLen
set_option linter.all false
namespace Go.Proofs.YtndjnkjcfdaegaaGreatDoor
open Go.RowKit Go.Shelf Go.Sort

theorem Keeps.ofBelow {w w' : World} (h : Below w.heap.size w w') : Keeps No w w' := ⟨h.os, h.tape, h.output, h.size, fun k hk _ => h.block k hk⟩
theorem keeps_grow (w : World) (n : Nat) (os : Array Obj) : Keeps No w (grow (w.drewN n) os) :=
  ⟨rfl, rfl, rfl, by show _ ≤ (w.heap ++ os).size; simp, fun k hk _ => by show (w.heap ++ os)[k]? = _; rw [Array.getElem?_append_left hk]⟩

/-- the name of the segment that begins with a record -/
def segNm (name : Nm) (n : Nat) : Nm := name ++ [46] ++ Lib.repeatL [48] (8 - (Lib.itoa n).length) ++ Lib.itoa n
def fileNm (name : ByteArray) (n : Nat) : ByteArray := ⟨(segNm name.data.toList n).toArray⟩
abbrev lT : TypeId := 111
def intsV (l : List Nat) : List Value := l.map fun (n : Nat) => .int .i64 n

set_option maxRecDepth 100000 in
set_option maxHeartbeats 1000000 in
theorem file_any (w : World) (base : Nat) (hL : Laid w base) (l : Nat) (name : ByteArray) (hnm : (name.size : Int) ≤ 1000) (hc : w.cell? ⟨l, 1, none⟩ = some (.string name)) (n : Nat) (hn : (n : Int) ≤ 4611686018427387904) :
    Calls Tryz.prog 39 #[dP l, .int .i64 n] w fun e w' => e = .returned (.string (fileNm name n)) ∧ Keeps No w w' := by
  have hil : (Lib.itoa (n : Int)).length ≤ 20 := by
    rw [Lib.itoa_nonneg, Lib.decDigits_length]
    exact Lib.nDigits_le20 _ (by omega)
  obtain ⟨I, hI⟩ : ∃ I : ByteArray, I = ⟨(Lib.itoa (n : Int)).toArray⟩ := ⟨_, rfl⟩
  have hIl : I.size = (Lib.itoa (n : Int)).length := by rw [hI]; rfl
  obtain ⟨M, hM⟩ : ∃ M, M = 8 - I.size := ⟨_, rfl⟩
  obtain ⟨Z, hZ⟩ : ∃ Z : ByteArray, Z = ⟨(Lib.repeatL [48] M).toArray⟩ := ⟨_, rfl⟩
  have hZl : Z.size = M := by rw [hZ]; show (Lib.repeatL [48] M).length = M; rw [Lib.repeatL_length]; simp
  have hmx : max 0 (8 - (I.size : Int)) = (M : Int) := by omega
  have hw1 : IntKind.i64.wrap (8 - (I.size : Int)) = 8 - (I.size : Int) := by rw [IntKind.wrap_i64]; omega
  have hcat1 : ∀ W : World, (Op.stringOp .add name ⟨#[46]⟩).run Tryz.prog W = .ok (.string (name ++ ⟨#[46]⟩)) W := fun W => run_string_add_sum W _ _ (by have : (⟨#[46]⟩ : ByteArray).size = 1 := rfl; omega)
  obtain ⟨A, hA⟩ : ∃ A : ByteArray, A = name ++ ⟨#[46]⟩ := ⟨_, rfl⟩
  have hAl : A.size = name.size + 1 := by rw [hA, ByteArray.size_append]; rfl
  have hcat2 : ∀ W : World, (Op.stringOp .add A Z).run Tryz.prog W = .ok (.string (A ++ Z)) W := fun W => run_string_add_sum W _ _ (by omega)
  have hcat3 : ∀ W : World, (Op.stringOp .add (A ++ Z) I).run Tryz.prog W = .ok (.string (A ++ Z ++ I)) W := fun W => run_string_add_sum W _ _ (by rw [ByteArray.size_append]; omega)
  rw [← hA] at hcat1
  have Hres : Hid (A ++ Z ++ I = fileNm name n) := by
    refine Lib.hid (bytes_of ?_)
    unfold fileNm segNm
    rw [hA, hZ, hM, hIl, hI]
    simp [ByteArray.data_append]
  have HI := Lib.hid hI
  have HZ := Lib.hid hZ
  have HL := Lib.hid hL
  have hl := block_lt_of_cell hc
  dsimp only at hl
  clear hil hI hIl hM hZ hZl hA hAl hL
  go_enter Tryz.func39, Tryz.ntmps39
  go_wp2_with fail
  refine (Tryz.strconv_Itoa n (by omega) (by omega) w HL.out.pow).mono ?_
  rintro e w1 ⟨rfl, k1, os1, hw1'⟩
  rw [← HI.out]
  have K1 : Hid (Keeps No w w1) := by rw [hw1']; exact Lib.hid (keeps_grow w k1 os1)
  clear hw1'
  have c1 := K1.out.cell hc (fun h => h)
  clear hc
  go_wp2_with fail
  go_region_held3 (fun w' => w'.cell? ⟨l, 1, none⟩ = some (.string name)) (exact c1)
    (first
      | (go_at_call 86
         refine (Tryz.strings_Repeat ⟨#[48]⟩ M _ (by omega) (by show 1 * M ≤ _; omega)).mono ?_
         rintro e w2 ⟨rfl, hb2⟩
         rw [← HZ.out]
         have K2 : Hid (Keeps No w w2) := Lib.hid (K1.out.drew.trans (Keeps.ofBelow hb2) (fun _ _ h => h))
         have c2 := (Keeps.ofBelow hb2).cell (p := ⟨l, 1, none⟩) c1 (fun h => h)
         clear c1 hb2
         have c1 := c2
         clear c2))
  go_wp2
  rw [Hres.out]
  go_ret
  exact ⟨rfl, K2.out⟩

theorem intsV_length (l : List Nat) : (intsV l).length = l.length := by simp [intsV]
theorem intsV_append (a b : List Nat) : intsV (a ++ b) = intsV a ++ intsV b := by simp [intsV]
theorem intsV_one (u : Value) (l : List Nat) (h : u ∈ intsV l) : u.oneCell' = true := by
  unfold intsV at h
  obtain ⟨n, _, rfl⟩ := List.mem_map.1 h
  rfl
abbrev RdInts (w : World) (v : Value) (l : List Nat) : Prop := Reads w 1 v l.length (intsV l)
abbrev OwnInts (w : World) (base : Nat) (v : Value) (l : List Nat) : Prop := w.ownsRow base 3 1 v l.length (intsV l)
theorem RdInts.cell {w : World} {v : Value} {l : List Nat} (h : RdInts w v l) (hl : 0 < l.length) : ∃ b off c, v = .slice (some ⟨b, off, none⟩) l.length c ∧ l.length ≤ c ∧ c ≤ maxLen ∧ b < w.heap.size ∧ ∀ (j n : Nat), l[j]? = some n → w.cell? ⟨b, off + j, none⟩ = some (.int .i64 n) := by
  obtain ⟨b, off, c, hv, h1, h2, h3, h4⟩ := h.addr (by rw [intsV_length]; exact hl)
  exact ⟨b, off, c, hv, h1, h2, h3, fun j n hj => h4 j _ (by unfold intsV; rw [List.getElem?_map, hj]; rfl)⟩
def lastN (l : List Nat) : Nat := l.getLastD 0
theorem lastN_at {l : List Nat} (h : 0 < l.length) : l[l.length - 1]? = some (lastN l) := by
  cases l with
  | nil => cases h
  | cons a r => rw [lastN, ← List.getLast?_eq_getElem?, List.getLastD_eq_getLast?]; simp [List.getLast?]

/-- a log, as data -/
structure Lg where
  name : ByteArray
  firsts : List Nat
  next : Nat
/-- the log's own blocks, and its disk's -/
def LogS (l p b : Nat) (v : Value) : Nat → Prop := fun i => i = l ∨ i = p ∨ i = b ∨ v.ownBlock = some i
/-- THE LOG AT l, ITS ROW OF NUMBERS v. -/
structure LogAt (w : World) (base l p : Nat) (v : Value) (g : Lg) : Prop where
  cells : w.heap[l]? = some (.cells #[dP p, .string g.name, v, .int .i64 g.next] lT (0, 0))
  rd : RdInts w v g.firsts
  ne : 0 < g.firsts.length
  nm : g.name.size ≤ 16
  few : ∀ n ∈ g.firsts, n ≤ 4611686018427387904
  nx : g.next ≤ 4611686018427387904
  bl : base ≤ l
  bv : ∀ k, v.ownBlock = some k → base ≤ k
  vl : ¬ v.ownBlock = some l
  lp : l ≠ p
section
variable {w : World} {base l p : Nat} {v : Value} {g : Lg}
theorem LogAt.cell0 (h : LogAt w base l p v g) : w.cell? ⟨l, 0, none⟩ = some (dP p) := by simp [World.cell?, h.cells]
theorem LogAt.cell1 (h : LogAt w base l p v g) : w.cell? ⟨l, 1, none⟩ = some (.string g.name) := by simp [World.cell?, h.cells]
theorem LogAt.cell2 (h : LogAt w base l p v g) : w.cell? ⟨l, 2, none⟩ = some v := by simp [World.cell?, h.cells]
theorem LogAt.cell3 (h : LogAt w base l p v g) : w.cell? ⟨l, 3, none⟩ = some (.int .i64 g.next) := by simp [World.cell?, h.cells]
theorem LogAt.opened (h : LogAt w base l p v g) : Open w l := ⟨_, _, h.cells⟩
theorem LogAt.lt (h : LogAt w base l p v g) : l < w.heap.size := (Array.getElem?_eq_some_iff.1 h.cells).1
theorem LogAt.kept {S : Nat → Prop} {w' : World} (h : LogAt w base l p v g) (k : Keeps S w w') (hl : ¬ S l) (hv : ∀ i, v.ownBlock = some i → ¬ S i) : LogAt w' base l p v g :=
  ⟨k.heap h.cells hl, h.rd.kept k hv, h.ne, h.nm, h.few, h.nx, h.bl, h.bv, h.vl, h.lp⟩
theorem LogAt.no {w' : World} (h : LogAt w base l p v g) (k : Keeps No w w') : LogAt w' base l p v g := h.kept k (fun h => h) (fun _ _ h => h)
end

set_option maxRecDepth 100000 in
set_option maxHeartbeats 1000000 in
theorem last_any {w : World} {base l p : Nat} {v : Value} {g : Lg} (hL : Laid w base) (hg : LogAt w base l p v g) :
    Calls Tryz.prog 46 #[dP l] w fun e w' => e = .returned (.string (fileNm g.name (lastN g.firsts))) ∧ Keeps No w w' := by
  obtain ⟨b, off, c, rfl, h1, h2, h3, hx⟩ := RdInts.cell hg.rd hg.ne
  have c1 := hg.cell1
  have c2 := hg.cell2
  have hn := hg.ne
  have hlc := hx _ _ (lastN_at hn)
  have hle : lastN g.firsts ≤ 4611686018427387904 := hg.few _ (List.mem_of_getElem? (lastN_at hn))
  have hnm : Hid ((g.name.size : Int) ≤ 1000) := by have := hg.nm; exact Lib.hid (by omega)
  obtain ⟨N, hN⟩ : ∃ N, N = g.firsts.length := ⟨_, rfl⟩
  rw [← hN] at c2 hlc h1 hn
  have HL := Lib.hid hL
  have hll := hg.lt
  unfold maxLen at h2
  have hw1 : IntKind.i64.wrap ((N : Int) - 1) = (N : Int) - 1 := by rw [IntKind.wrap_i64]; omega
  have i1 : (0 : Int) ≤ (N : Int) - 1 := by omega
  have i2 : (N : Int) - 1 < (N : Int) := by omega
  have j1 : (1 : Int) ≤ (N : Int) := by omega
  have j2 : 1 ≤ N := by omega
  have i3 : ((N : Int) - 1).toNat = N - 1 := by omega
  obtain ⟨nm, hnme⟩ : ∃ nm, nm = g.name := ⟨_, rfl⟩
  obtain ⟨F, hF⟩ : ∃ F, F = lastN g.firsts := ⟨_, rfl⟩
  rw [← hnme, ← hF]
  rw [← hF] at hlc hle
  rw [← hnme] at c1 hnm
  clear hx hL hg hN hnme hF
  go_enter Tryz.func46, Tryz.ntmps46
  go_wp2_with fail
  go_region_held3 (fun w' => w'.cell? ⟨l, 2, none⟩ = some (.slice (some ⟨b, off, none⟩) N c) ∧ w'.cell? ⟨b, off + (N - 1), none⟩ = some (.int .i64 F)) (exact ⟨c2, hlc⟩)
    (first
      | (go_at_call 39
         refine (file_any w.drew base (HL.out.kept ((Keeps.refl (S := No) w).drew) (fun _ h => h.elim)) l nm hnm.out c1 F (by omega)).mono ?_
         rintro e w2 ⟨rfl, hk2⟩
         have K2 : Hid (Keeps No w w2) := Lib.hid (((Keeps.refl (S := No) w).drew).trans hk2 (fun _ _ h => h))
         have d2 := K2.out.cell c2 (fun h => h)
         have d3 := K2.out.cell hlc (fun h => h)
         clear hk2 c2 hlc
         have c2 := d2
         have hlc := d3
         clear d2 d3))
  go_wp2
  go_ret
  exact ⟨rfl, K2.out⟩
end Go.Proofs.YtndjnkjcfdaegaaGreatDoor
