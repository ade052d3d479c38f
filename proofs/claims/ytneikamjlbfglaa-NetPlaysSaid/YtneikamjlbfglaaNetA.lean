/-
  The leaves of package net: what each call does to the world; and the library's generic functions over packets.
-/
import Derived.Test.YtneikamjlbfglaaBase
import Derived.Test.YtneikamjlbfglaaProg
namespace Go.Proofs.Ytneikamjlbfglaa
open Go.RowKit

/-- A packet. -/
structure Pk where
  f : Int
  t : Int
  s : ByteArray
def Pk.cells (p : Pk) : List Value := [.int .i64 p.f, .int .i64 p.t, .string p.s]
def pkCells (l : List Pk) : List Value := l.flatMap Pk.cells
theorem pkCells_nil : pkCells [] = [] := rfl
theorem pkCells_append (a b : List Pk) : pkCells (a ++ b) = pkCells a ++ pkCells b := by simp [pkCells]
theorem pkCells_one (p : Pk) : pkCells [p] = p.cells := by simp [pkCells]
theorem pkCells_length (l : List Pk) : (pkCells l).length = l.length * 3 := by
  induction l with
  | nil => rfl
  | cons p l ih => simp only [pkCells, List.flatMap_cons, List.length_append, List.length_cons] at ih ⊢; rw [ih]; simp [Pk.cells]; omega
theorem pkCells_at (l : List Pk) (i : Nat) (h : i < l.length) : (pkCells l)[i * 3]? = some (.int .i64 l[i].f) ∧ (pkCells l)[i * 3 + 1]? = some (.int .i64 l[i].t) ∧ (pkCells l)[i * 3 + 2]? = some (.string l[i].s) := by
  induction l generalizing i with
  | nil => simp at h
  | cons p l ih =>
    have e : pkCells (p :: l) = p.cells ++ pkCells l := by simp [pkCells]
    rw [e]
    cases i with
    | zero => simp [Pk.cells]
    | succ i =>
      have := ih i (by simpa using h)
      have el : p.cells.length = 3 := rfl
      rw [show (i + 1) * 3 = p.cells.length + i * 3 by omega, show p.cells.length + i * 3 + 1 = p.cells.length + (i * 3 + 1) by omega, show p.cells.length + i * 3 + 2 = p.cells.length + (i * 3 + 2) by omega]
      simp only [List.getElem?_append_right (Nat.le_add_right _ _), Nat.add_sub_cancel_left]
      simpa using this
theorem pkCells_one' (l : List Pk) : ∀ u ∈ pkCells l, u.oneCell' = true := by
  intro u hu
  simp only [pkCells, List.mem_flatMap] at hu
  obtain ⟨p, _, hp⟩ := hu
  simp [Pk.cells] at hp
  rcases hp with rfl | rfl | rfl <;> rfl
theorem pkCells_take (l : List Pk) (k : Nat) : (pkCells l).take (k * 3) = pkCells (l.take k) := by
  by_cases hk : k ≤ l.length
  · have e : pkCells l = pkCells (l.take k) ++ pkCells (l.drop k) := by rw [← pkCells_append, List.take_append_drop]
    rw [e, List.take_left' (by rw [pkCells_length, List.length_take]; omega)]
  · rw [List.take_of_length_le (by rw [pkCells_length]; omega), List.take_of_length_le (by omega)]
theorem pkCells_drop (l : List Pk) (k : Nat) : (pkCells l).drop (k * 3) = pkCells (l.drop k) := by
  by_cases hk : k ≤ l.length
  · have e : pkCells l = pkCells (l.take k) ++ pkCells (l.drop k) := by rw [← pkCells_append, List.take_append_drop]
    rw [e, List.drop_left' (by rw [pkCells_length, List.length_take]; omega)]
  · rw [List.drop_of_length_le (by rw [pkCells_length]; omega), List.drop_of_length_le (by omega)]; rfl

/-- A slice's value that reads as packets. -/
abbrev PkReads (w : World) (v : Value) (l : List Pk) : Prop := Reads w 3 v l.length (pkCells l)
abbrev PkOwn (w : World) (base : Nat) (v : Value) (l : List Pk) : Prop := w.ownsRow base 34 3 v l.length (pkCells l)

theorem Try.infoPk : (Try.prog.info? 34).map (fun i => (i.zero, i.size, i.bytes)) = some (some (.agg #[.int .i64 0, .int .i64 0, .string ByteArray.empty]), 3, 32) := by kernel_rfl

/-- The three cells of the packet at i, at its address. -/
theorem Reads.pk {w : World} {b off n c : Nat} {l : List Pk} (h : Reads w 3 (.slice (some ⟨b, off, none⟩) n c) n (pkCells l)) (i : Nat) (hi : i < l.length) :
    w.cell? ⟨b, off + i * 3, none⟩ = some (.int .i64 l[i].f) ∧ w.cell? ⟨b, off + i * 3 + 1, none⟩ = some (.int .i64 l[i].t) ∧ w.cell? ⟨b, off + i * 3 + 2, none⟩ = some (.string l[i].s) := by
  obtain ⟨h0, h1, h2⟩ := pkCells_at l i hi
  obtain ⟨b', off', c', he, _, _, _, hx⟩ := h.addr (by rw [pkCells_length]; omega)
  simp only [Value.slice.injEq, Option.some.injEq, Addr.mk.injEq, and_true, true_and] at he
  obtain ⟨⟨rfl, rfl⟩, rfl⟩ := he
  exact ⟨hx _ _ h0, by have := hx _ _ h1; rwa [← Nat.add_assoc] at this, by have := hx _ _ h2; rwa [← Nat.add_assoc] at this⟩

/-- A function value that answers pr of each packet, and turns nothing that was there, whatever becomes of S. -/
structure Answers (S : Nat → Prop) (w0 : World) (fid : Nat) (first captured : Array Value) (pr : Pk → Bool) : Prop where
  call : ∀ args w, Sem.run Try.prog (callFunc fid args) w = .ok (.enter fid args) w
  ans : ∀ w p, Keeps S w0 w → Calls Try.prog fid (first.push (.agg #[.int .i64 p.f, .int .i64 p.t, .string p.s]) ++ captured) w fun e w' => e = .returned (.bool (pr p)) ∧ Keeps No w w'
theorem Answers.later {S : Nat → Prop} {w0 w1 : World} {fid : Nat} {first captured : Array Value} {pr : Pk → Bool} (h : Answers S w0 fid first captured pr) (hk : Keeps S w0 w1) : Answers S w1 fid first captured pr :=
  ⟨h.call, fun w p hw => h.ans w p (hk.trans hw (fun _ _ h => h))⟩

/-- the first place of which pr is true -/
def idxOf (pr : Pk → Bool) (l : List Pk) : Int := match l.findIdx? pr with | some k => k | none => -1
theorem idxOf_at (pr : Pk → Bool) (l : List Pk) (k : Nat) (hk : k < l.length) (hno : ∀ j, (h : j < k) → (h2 : j < l.length) → pr l[j] = false) (hp : pr l[k] = true) : idxOf pr l = k := by
  have : l.findIdx? pr = some k := by
    rw [List.findIdx?_eq_some_iff_getElem]
    exact ⟨hk, hp, fun j hj => by simpa using hno j hj (by omega)⟩
  simp [idxOf, this]
theorem idxOf_none (pr : Pk → Bool) (l : List Pk) (hno : ∀ j, (h2 : j < l.length) → pr l[j] = false) : idxOf pr l = -1 := by
  have : l.findIdx? pr = none := by
    rw [List.findIdx?_eq_none_iff]
    intro x hx
    obtain ⟨j, hj, rfl⟩ := List.getElem_of_mem hx
    exact hno j hj
  simp [idxOf, this]

set_option maxHeartbeats 400000 in
theorem indexFunc (S : Nat → Prop) (w : World) (v : Value) (l : List Pk) (hv : PkReads w v l) (fid : Nat) (first captured : Array Value) (pr : Pk → Bool) (hf : Answers S w fid first captured pr) :
    Calls Try.prog 32 #[v, .func (.func fid) first captured] w fun e w' => e = .returned (.int .i64 (idxOf pr l)) ∧ Keeps No w w' := by
  obtain ⟨a, c, rfl⟩ := hv.slice
  have hlen : l.length ≤ maxLen := by
    rcases hv.shape with ⟨_, h0⟩ | ⟨_, c', he, h1, h2, _⟩
    · simp [h0]
    · omega
  unfold maxLen at hlen
  go_enter Try.func32, Try.ntmps32
  go_wp2
  go_loopw [8] (fun i wr => ∃ k : Nat, k ≤ l.length ∧ i = .int .i64 k ∧ (∀ j, (h : j < k) → (h2 : j < l.length) → pr l[j] = false) ∧ Keeps No w wr) (fun i _ => l.length - (intOf i).toNat)
  case atStart => exact ⟨0, Nat.zero_le _, rfl, fun j h => absurd h (Nat.not_lt_zero _), Keeps.refl _⟩
  case round =>
    obtain ⟨k, hk, rfl, hno, hkeep⟩ := hrel
    have Hno := Lib.hid hno; clear hno
    by_cases hlt : k < l.length
    · obtain ⟨b, off, c', he, hc1, hc2, hb, hx⟩ := hv.addr (by rw [pkCells_length]; omega)
      simp only [Value.slice.injEq, true_and] at he
      obtain ⟨rfl, rfl⟩ := he
      have hv' := hv.kept hkeep (fun _ _ h => h)
      obtain ⟨g0, g1, g2⟩ := hv'.pk k hlt
      clear hx
      have hcall := hf.call
      go_wp2_with fail
      refine (hf.ans _ l[k] (hkeep.mono (fun _ _ h => h.elim))).mono ?_
      rintro e w' ⟨rfl, hk'⟩
      by_cases hp : pr l[k] = true
      · have hfin : Hid (idxOf pr l = k) := idxOf_at pr l k hlt Hno.out hp
        go_wp2
        go_ret
        exact ⟨by rw [hfin.out]; rfl, hkeep.trans hk' (fun _ _ h => h)⟩
      · have hp' : pr l[k] = false := by simpa using hp
        have Hno' : Hid (∀ j, (h : j < k + 1) → (h2 : j < l.length) → pr l[j] = false) := fun j h h2 => by
          by_cases hj : j < k
          · exact Hno.out j hj h2
          · obtain rfl : j = k := by omega
            exact hp'
        go_wp2
        go_roundw
        case rel => exact ⟨k + 1, by omega, by go_num, Hno'.out, hkeep.trans hk' (fun _ _ h => h)⟩
        case measure => simp [intOf]; omega
    · have hfin : Hid (idxOf pr l = -1) := idxOf_none pr l (fun j hj => Hno.out j (by omega) hj)
      go_wp2
      go_ret
      exact ⟨by rw [hfin.out]; rfl, hkeep⟩

set_option maxHeartbeats 400000 in
theorem containsFunc (S : Nat → Prop) (w : World) (v : Value) (l : List Pk) (hv : PkReads w v l) (fid : Nat) (first captured : Array Value) (pr : Pk → Bool) (hf : Answers S w fid first captured pr) :
    Calls Try.prog 25 #[v, .func (.func fid) first captured] w fun e w' => e = .returned (.bool (decide (0 ≤ idxOf pr l))) ∧ Keeps No w w' := by
  go_enter Try.func25, Try.ntmps25
  go_wp2_with fail
  refine (indexFunc S w v l hv fid first captured pr hf).mono ?_
  rintro e w' ⟨rfl, hk'⟩
  go_wp2
  go_ret
  exact ⟨rfl, hk'⟩

/-- A net at block b. -/
structure NetAt (w : World) (b : Nat) (N : Int) (v : Value) (ps : List Pk) : Prop where
  head : w.heap[b]? = some (.cells #[.int .i64 N, v] 60 (0, 0))
  own : PkOwn w (b + 1) v ps
theorem NetAt.c0 {w : World} {b : Nat} {N : Int} {v : Value} {ps : List Pk} (h : NetAt w b N v ps) : w.cell? ⟨b, 0, none⟩ = some (.int .i64 N) := by rw [cell_of_row w b 0 _ _ _ h.head]; rfl
theorem NetAt.c1 {w : World} {b : Nat} {N : Int} {v : Value} {ps : List Pk} (h : NetAt w b N v ps) : w.cell? ⟨b, 1, none⟩ = some v := by rw [cell_of_row w b 1 _ _ _ h.head]; rfl
theorem NetAt.f1 {w : World} {b : Nat} {N : Int} {v : Value} {ps : List Pk} (h : NetAt w b N v ps) : w.frozen? ⟨b, 1, none⟩ = false := frozen_of_row w b 1 _ _ h.head
theorem NetAt.lt {w : World} {b : Nat} {N : Int} {v : Value} {ps : List Pk} (h : NetAt w b N v ps) : b < w.heap.size := (Array.getElem?_eq_some_iff.1 h.head).1
theorem NetAt.reads {w : World} {b : Nat} {N : Int} {v : Value} {ps : List Pk} (h : NetAt w b N v ps) : PkReads w v ps := Reads.ofOwn h.own (pkCells_one' ps)
theorem NetAt.kept {S : Nat → Prop} {w w' : World} {b : Nat} {N : Int} {v : Value} {ps : List Pk} (h : NetAt w b N v ps) (k : Keeps S w w') (hb : ¬ S b) (hv : ∀ i, v.ownBlock = some i → ¬ S i) : NetAt w' b N v ps :=
  ⟨k.heap h.head hb, k.owns h.own hv⟩
/-- What a net's methods may write. -/
def NetF (b : Nat) (v : Value) : Nat → Prop := fun i => i = b ∨ v.ownBlock = some i

def nd (N k : Int) : Bool := decide (0 ≤ k) && decide (k < N)
theorem node_any (b : Nat) (N k : Int) (w : World) (h0 : w.cell? ⟨b, 0, none⟩ = some (.int .i64 N)) :
    Calls Try.prog 33 #[.pointer (some ⟨b, 0, none⟩), .int .i64 k] w fun e w' => e = .returned (.bool (nd N k)) ∧ w = w' := by
  by_cases hk : 0 ≤ k <;> by_cases hn : k < N
  all_goals
    have hfin : Hid (nd N k = nd N k) := rfl
    go_enter Try.func33, Try.ntmps33
    go_wp2
    go_ret
    exact ⟨by simp [nd, hk, hn], rfl⟩

def wrongB (N : Int) (p : Pk) : Bool := !nd N p.f || (!nd N p.t || (p.f == p.t || decide (65536 < (p.s.size : Int))))
set_option maxHeartbeats 1000000 in
theorem wrong_any (b : Nat) (N : Int) (p : Pk) (w : World) (h0 : w.cell? ⟨b, 0, none⟩ = some (.int .i64 N)) :
    Calls Try.prog 26 #[.pointer (some ⟨b, 0, none⟩), .agg #[.int .i64 p.f, .int .i64 p.t, .string p.s]] w fun e w' => e = .returned (.bool (wrongB N p)) ∧ Keeps No w w' := by
  obtain ⟨f, t, s⟩ := p
  dsimp only
  have hb := block_lt_of_cell h0
  dsimp only at hb
  cases hA : nd N f
  · have hfin : Hid (wrongB N ⟨f, t, s⟩ = true) := by show _ = _; simp [wrongB, hA]
    go_enter Try.func26, Try.ntmps26
    go_wp2_with fail
    refine (node_any b N f _ (by simpa [World.cell?_alloc_past _ _ _ hb] using h0)).mono ?_
    rintro e w' ⟨rfl, rfl⟩
    go_wp2
    go_ret
    exact ⟨by rw [hfin.out]; rfl, (Keeps.refl _).alloc _⟩
  cases hB : nd N t
  · have hfin : Hid (wrongB N ⟨f, t, s⟩ = true) := by show _ = _; simp [wrongB, hB]
    go_enter Try.func26, Try.ntmps26
    go_wp2_with fail
    refine (node_any b N f _ (by simpa [World.cell?_alloc_past _ _ _ hb] using h0)).mono ?_
    rintro e w' ⟨rfl, rfl⟩
    go_wp2_with fail
    refine (node_any b N t _ (by simpa [World.cell?_alloc_past _ _ _ hb] using h0)).mono ?_
    rintro e w' ⟨rfl, rfl⟩
    go_wp2
    go_ret
    exact ⟨by rw [hfin.out]; rfl, (Keeps.refl _).alloc _⟩
  by_cases hC : f = t
  · subst hC
    have hfin : Hid (wrongB N ⟨f, f, s⟩ = true) := by show _ = _; simp [wrongB]
    go_enter Try.func26, Try.ntmps26
    go_wp2_with fail
    refine (node_any b N f _ (by simpa [World.cell?_alloc_past _ _ _ hb] using h0)).mono ?_
    rintro e w' ⟨rfl, rfl⟩
    go_wp2_with fail
    refine (node_any b N f _ (by simpa [World.cell?_alloc_past _ _ _ hb] using h0)).mono ?_
    rintro e w' ⟨rfl, rfl⟩
    go_wp2
    go_ret
    exact ⟨by rw [hfin.out]; rfl, (Keeps.refl _).alloc _⟩
  · have hC' : (f == t) = false := by simpa using hC
    have hfin : Hid (wrongB N ⟨f, t, s⟩ = decide (65536 < (s.size : Int))) := by show _ = _; simp [wrongB, hA, hB, hC]
    clear hC
    go_enter Try.func26, Try.ntmps26
    go_wp2_with fail
    refine (node_any b N f _ (by simpa [World.cell?_alloc_past _ _ _ hb] using h0)).mono ?_
    rintro e w' ⟨rfl, rfl⟩
    go_wp2_with fail
    refine (node_any b N t _ (by simpa [World.cell?_alloc_past _ _ _ hb] using h0)).mono ?_
    rintro e w' ⟨rfl, rfl⟩
    go_wp2
    go_ret
    exact ⟨by rw [hfin.out]; first | rfl | (simp; done), (Keeps.refl _).alloc _⟩

/-- n.wrong, as a value -/
theorem wrong_answers (S : Nat → Prop) (w0 : World) (b : Nat) (N : Int) (v : Value) (h0 : w0.heap[b]? = some (.cells #[.int .i64 N, v] 60 (0, 0))) (hb : ¬ S b) :
    Answers S w0 26 #[.pointer (some ⟨b, 0, none⟩)] #[] (wrongB N) :=
  ⟨fun _ _ => by kernel_rfl, fun w p hk => wrong_any b N p w (by rw [cell_of_row w b 0 _ _ _ (hk.heap h0 hb)]; rfl)⟩

theorem at_nil (k : Int) (w : World) : Calls Try.prog 27 #[.pointer none, .int .i64 k] w fun e w' => e = .returned (.bool false) ∧ w = w' := by
  go_enter Try.func27, Try.ntmps27
  go_wp2
  go_ret
  exact ⟨rfl, rfl⟩
theorem at_any (b : Nat) (k : Int) (a : Option Addr) (n c : Nat) (w : World) (h1 : w.cell? ⟨b, 1, none⟩ = some (.slice a n c)) :
    Calls Try.prog 27 #[.pointer (some ⟨b, 0, none⟩), .int .i64 k] w fun e w' => e = .returned (.bool (nd n k)) ∧ w = w' := by
  by_cases hk : 0 ≤ k <;> by_cases hn : k < n
  all_goals
    go_enter Try.func27, Try.ntmps27
    go_wp2
    go_ret
    exact ⟨by simp [nd, hk, hn], rfl⟩
theorem len_any (b : Nat) (a : Option Addr) (n c : Nat) (w : World) (h1 : w.cell? ⟨b, 1, none⟩ = some (.slice a n c)) :
    Calls Try.prog 16 #[.pointer (some ⟨b, 0, none⟩)] w fun e w' => e = .returned (.int .i64 n) ∧ w = w' := by
  go_enter Try.func16, Try.ntmps16
  go_wp2
  go_ret
  exact ⟨rfl, rfl⟩
theorem len_nil (w : World)  : Calls Try.prog 16 #[.pointer none] w fun e w' => e = .returned (.int .i64 0) ∧ w = w' := by
  go_enter Try.func16, Try.ntmps16
  go_wp2
  go_ret
  exact ⟨rfl, rfl⟩

theorem new_no (N : Int) (h : N < 1 ∨ 17 < N) (w : World) : Calls Try.prog 9 #[.int .i64 N] w fun e w' => e = .returned (.tuple #[.pointer none, .int .i64 1]) ∧ w = w' := by
  rcases h with h | h
  · go_enter Try.func9, Try.ntmps9
    go_wp2
    go_ret2
    exact ⟨rfl, rfl⟩
  · have h' : ¬ N < 1 := by omega
    go_enter Try.func9, Try.ntmps9
    go_wp2
    go_ret2
    exact ⟨rfl, rfl⟩
theorem new_yes (N : Int) (h : 1 ≤ N) (h' : N ≤ 17) (w : World) : Calls Try.prog 9 #[.int .i64 N] w fun e w' => e = .returned (.tuple #[.pointer (some ⟨w.heap.size, 0, none⟩), .int .i64 0]) ∧
    NetAt w' w.heap.size N (.slice none 0 0) [] ∧ Keeps No w w' := by
  go_enter Try.func9, Try.ntmps9
  go_wp2
  go_ret2
  exact ⟨rfl, ⟨heap_alloc_new _ _, World.ownsRow_nil _ _ _ _⟩, (Keeps.refl _).alloc _⟩
end Go.Proofs.Ytneikamjlbfglaa
