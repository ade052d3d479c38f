/-
  The methods of a net that lies beside other things of the call's own.
-/
import Derived.Test.YtneikamjlbfglaaNetF
import Derived.Test.YtneikamjlbfglaaMem
namespace Go.Proofs.Ytneikamjlbfglaa
open Go.RowKit

/-- A net, as a thing. -/
def NetT (b : Nat) (N : Int) (ps : List Pk) : Thing := fun w F => ∃ v, NetAt w b N v ps ∧ F = NetF b v
theorem netT_lies (b : Nat) (N : Int) (ps : List Pk) : Lies (NetT b N ps) := by
  refine ⟨?_, ?_⟩
  · rintro w F ⟨v, h, rfl⟩ k (rfl | hk)
    · exact h.lt
    · exact (h.own.lt k hk).2
  · rintro w w' F S ⟨v, h, rfl⟩ hk hd
    exact ⟨v, h.kept hk (hd b (.inl rfl)) (fun i hi => hd i (.inr hi)), rfl⟩
theorem turned_step {w w' : World} {b : Nat} {N : Int} {v : Value} {ps' : List Pk} (t : Turned w w' b N v ps') : Step (NetF b v) w w' (NetT b N ps') := by
  obtain ⟨⟨v', hv', hn⟩, hk⟩ := t
  refine ⟨NetF b v', ⟨v', hv', rfl⟩, hk, ?_⟩
  rintro k (rfl | h)
  · exact .inl (.inl rfl)
  · rcases hn k h with h | h
    · exact .inl (.inr h)
    · exact .inr h
/-- A row of packets, as a thing. -/
abbrev PkT (v : Value) (l : List Pk) : Thing := RowT 34 3 v l.length (pkCells l)
theorem pkT_reads {w : World} {F : Nat → Prop} {v : Value} {l : List Pk} (h : PkT v l w F) : PkReads w v l := Reads.ofOwn h.1 (pkCells_one' l)
theorem pkT_nil (w : World) : Step No w w (PkT (.slice none 0 0) []) := ⟨Of (.slice none 0 0), ⟨World.ownsRow_nil _ _ _ _, rfl⟩, Keeps.refl w, fun k hk => by cases hk⟩
theorem pkT_new {w w' : World} {v : Value} {l : List Pk} (h : PkOwn w' w.heap.size v l) (k : Keeps No w w') : Step No w w' (PkT v l) :=
  ⟨Of v, ⟨ownsRow_base0 h, rfl⟩, k, fun i hi => .inr (h.lt i hi).1⟩

theorem pkCells_cons (x : Pk) (r : List Pk) : pkCells (x :: r) = .int .i64 x.f :: .int .i64 x.t :: .string x.s :: pkCells r := by simp [pkCells, Pk.cells]
theorem pkCells_setT (l : List Pk) (k : Nat) (hk : k < l.length) (t : Int) : (pkCells l).set (k * 3 + 1) (.int .i64 t) = pkCells (l.set k ⟨l[k].f, t, l[k].s⟩) := by
  induction l generalizing k with
  | nil => simp at hk
  | cons q l ih =>
    cases k with
    | zero => simp [pkCells_cons]
    | succ k =>
      have := ih k (by simpa using hk)
      rw [List.set_cons_succ, pkCells_cons, pkCells_cons, List.getElem_cons_succ, ← this, show (k + 1) * 3 + 1 = (k * 3 + 1) + 1 + 1 + 1 by omega]
      simp only [List.set_cons_succ]
theorem pkCells_setS (l : List Pk) (k : Nat) (hk : k < l.length) (s : ByteArray) : (pkCells l).set (k * 3 + 2) (.string s) = pkCells (l.set k ⟨l[k].f, l[k].t, s⟩) := by
  induction l generalizing k with
  | nil => simp at hk
  | cons q l ih =>
    cases k with
    | zero => simp [pkCells_cons]
    | succ k =>
      have := ih k (by simpa using hk)
      rw [List.set_cons_succ, pkCells_cons, pkCells_cons, List.getElem_cons_succ, ← this, show (k + 1) * 3 + 2 = (k * 3 + 2) + 1 + 1 + 1 by omega]
      simp only [List.set_cons_succ]
/-- a row's new reading, as packets -/
theorem pkT_app (v : Value) (l l' : List Pk) (m : Nat) (hm : m = l'.length) : RowT 34 3 v (l.length + m) (pkCells l ++ pkCells l') = PkT v (l ++ l') := by
  subst hm
  rw [← pkCells_append, ← List.length_append]
theorem mem_lit {w0 w : World} {L : List Thing} (h : Mem w0 w L) (o : Obj) : Mem w0 (w.alloc o) L := h.later ((Keeps.refl (S := No) w).alloc o)

theorem pkT_lit {w0 w : World} {L : List Thing} (h : Mem w0 w L) (p : Pk) : Mem w0 (w.alloc (.cells #[.int .i64 p.f, .int .i64 p.t, .string p.s] 34)) (L ++ [PkT (.slice (some ⟨w.heap.size, 0, none⟩) 1 1) [p]]) := by
  have := lit_mem h 34 3 #[.int .i64 p.f, .int .i64 p.t, .string p.s] 1 (by decide) rfl
  have e : (#[Value.int .i64 p.f, .int .i64 p.t, .string p.s] : Array Value).toList = pkCells [p] := by rw [pkCells_one]; rfl
  rw [e] at this
  exact this
theorem pkT_empty {w0 w : World} {L : List Thing} (h : Mem w0 w L) : Mem w0 (w.alloc (.cells #[] 34)) (L ++ [PkT (.slice (some ⟨w.heap.size, 0, none⟩) 0 0) []]) :=
  lit_mem h 34 3 #[] 0 (by decide) rfl
theorem Mem.drew {w0 w : World} {L : List Thing} (h : Mem w0 w L) : Mem w0 w.drew L := h.later (Keeps.refl _).drew

variable {w0 w : World} {L : List Thing} {b : Nat} {N : Int} {ps : List Pk}

theorem new_m (N : Int) (h : 1 ≤ N) (h' : N ≤ 17) (hm : Mem w0 w L) : Calls Try.prog 9 #[.int .i64 N] w fun e w' => ∃ b, e = .returned (.tuple #[.pointer (some ⟨b, 0, none⟩), .int .i64 0]) ∧ Mem w0 w' (L ++ [NetT b N []]) :=
  (new_yes N h h' w).mono fun _ w' ⟨he, hn, hk⟩ => ⟨w.heap.size, he, hm.push (netT_lies _ _ _) ⟨_, ⟨_, hn, rfl⟩, hk, fun k hk => by
    rcases hk with rfl | hk
    · exact .inr (Nat.le_refl _)
    · cases hk⟩⟩
theorem send_m (hm : Mem w0 w L) (i : Nat) (hL : L[i]? = some (NetT b N ps)) (hps : ps.length ≤ 4096) (x : Value) (l : List Pk) (hx : PkReads w x l) (hw : l.any (wrongB N) = false) :
    Calls Try.prog 11 #[.pointer (some ⟨b, 0, none⟩), x] w fun e w' => e = .returned (.tuple #[.int .i64 ((l.length : Int) - min (l.length : Int) (4096 - ps.length)), .int .i64 0]) ∧ Mem w0 w' (L.set i (NetT b N (ps ++ l.take (4096 - ps.length)))) ∧ ∃ v, Keeps (NetF b v) w w' ∧ NetAt w b N v ps := by
  obtain ⟨F, ⟨v, hv, rfl⟩, close⟩ := hm.at i hL
  exact (send_yes w b N v ps hv hps x l hx hw).mono fun _ w' ⟨he, ht⟩ => ⟨he, close w' _ (netT_lies _ _ _) (turned_step ht), ⟨v, ht.keeps, hv⟩⟩
theorem send_m_no (hm : Mem w0 w L) (i : Nat) (hL : L[i]? = some (NetT b N ps)) (x : Value) (l : List Pk) (hx : PkReads w x l) (hw : l.any (wrongB N) = true) :
    Calls Try.prog 11 #[.pointer (some ⟨b, 0, none⟩), x] w fun e w' => e = .returned (.tuple #[.int .i64 0, .int .i64 1]) ∧ Mem w0 w' L ∧ Keeps No w w' := by
  obtain ⟨F, ⟨v, hv, rfl⟩, _⟩ := hm.at i hL
  exact (send_wrong w b N v ps hv x l hx hw).mono fun _ w' ⟨he, hk⟩ => ⟨he, hm.later hk, hk⟩
theorem take_m (hm : Mem w0 w L) (i : Nat) (hL : L[i]? = some (NetT b N ps)) (hps : ps.length ≤ 4096) (k : Nat) (hk : k < ps.length) :
    Calls Try.prog 12 #[.pointer (some ⟨b, 0, none⟩), .int .i64 k] w fun e w' => e = .returned (.tuple #[.agg #[.int .i64 ps[k].f, .int .i64 ps[k].t, .string ps[k].s], .int .i64 0]) ∧ Mem w0 w' (L.set i (NetT b N (ps.eraseIdx k))) := by
  obtain ⟨F, ⟨v, hv, rfl⟩, close⟩ := hm.at i hL
  exact (take_yes w b N v ps hv hps k hk).mono fun _ w' ⟨he, ht⟩ => ⟨he, close w' _ (netT_lies _ _ _) (turned_step ht)⟩
theorem take_first (hm : Mem w0 w L) (i : Nat) (p : Pk) (R : List Pk) (hL : L[i]? = some (NetT b N (p :: R))) (hps : R.length < 4096) :
    Calls Try.prog 12 #[.pointer (some ⟨b, 0, none⟩), .int .i64 0] w fun e w' => e = .returned (.tuple #[.agg #[.int .i64 p.f, .int .i64 p.t, .string p.s], .int .i64 0]) ∧ Mem w0 w' (L.set i (NetT b N R)) :=
  take_m hm i hL (by simp; omega) 0 (by simp)
theorem take_m_no (hm : Mem w0 w L) (i : Nat) (hL : L[i]? = some (NetT b N ps)) (k : Int) (hk : nd ps.length k = false) :
    Calls Try.prog 12 #[.pointer (some ⟨b, 0, none⟩), .int .i64 k] w fun e w' => e = .returned (.tuple #[noPk, .int .i64 6]) ∧ Mem w0 w' L := by
  obtain ⟨F, ⟨v, hv, rfl⟩, _⟩ := hm.at i hL
  exact (take_no w b N v ps hv k hk).mono fun _ w' ⟨he, hk⟩ => ⟨he, hm.later hk⟩
theorem double_m (hm : Mem w0 w L) (i : Nat) (hL : L[i]? = some (NetT b N ps)) (k : Nat) (hk : k < ps.length) (hf : (ps.length : Int) < 4096) :
    Calls Try.prog 13 #[.pointer (some ⟨b, 0, none⟩), .int .i64 k] w fun e w' => e = .returned (.int .i64 0) ∧ Mem w0 w' (L.set i (NetT b N (ps ++ [ps[k]]))) := by
  obtain ⟨F, ⟨v, hv, rfl⟩, close⟩ := hm.at i hL
  exact (double_yes w b N v ps hv k hk hf).mono fun _ w' ⟨he, ht⟩ => ⟨he, close w' _ (netT_lies _ _ _) (turned_step ht)⟩
theorem double_m_no (hm : Mem w0 w L) (i : Nat) (hL : L[i]? = some (NetT b N ps)) (k : Int) (hk : nd ps.length k = false) :
    Calls Try.prog 13 #[.pointer (some ⟨b, 0, none⟩), .int .i64 k] w fun e w' => e = .returned (.int .i64 6) ∧ w = w' := by
  obtain ⟨F, ⟨v, hv, rfl⟩, _⟩ := hm.at i hL
  exact double_no w b N v ps hv k hk
theorem double_m_full (hm : Mem w0 w L) (i : Nat) (hL : L[i]? = some (NetT b N ps)) (k : Int) (hk : nd ps.length k = true) (hf : (4096 : Int) ≤ ps.length) :
    Calls Try.prog 13 #[.pointer (some ⟨b, 0, none⟩), .int .i64 k] w fun e w' => e = .returned (.int .i64 8) ∧ w = w' := by
  obtain ⟨F, ⟨v, hv, rfl⟩, _⟩ := hm.at i hL
  exact double_full w b N v ps hv k hk hf
theorem lose_m (hm : Mem w0 w L) (i : Nat) (hL : L[i]? = some (NetT b N ps)) (hps : ps.length ≤ 4096) (k : Int) (c : Nat) (w1 : World) (hw1 : w.alloc (.cells #[.int .i64 k] 3) = w1) (hc : w.heap.size = c) :
    Calls Try.prog 14 #[.pointer (some ⟨b, 0, none⟩), .func (.func 30) #[] #[.pointer (some ⟨c, 0, none⟩)]] w1 fun e w' =>
      e = .returned (.int .i64 ((ps.length : Int) - ((ps.filter fun p => !(p.t == k)).length : Int))) ∧ Mem w0 w' (L.set i (NetT b N (ps.filter fun p => !(p.t == k)))) := by
  subst hc
  obtain ⟨F, ⟨v, hv, rfl⟩, close⟩ := hm.at i hL
  exact (lose_to w b N v ps hv hps k w1 hw1).mono fun _ w' ⟨he, ht⟩ => ⟨he, close w' _ (netT_lies _ _ _) (turned_step ht)⟩
theorem len_m (hm : Mem w0 w L) (i : Nat) (hL : L[i]? = some (NetT b N ps)) : Calls Try.prog 16 #[.pointer (some ⟨b, 0, none⟩)] w fun e w' => e = .returned (.int .i64 ps.length) ∧ w = w' := by
  obtain ⟨F, ⟨v, hv, rfl⟩, _⟩ := hm.at i hL
  obtain ⟨a, c, rfl⟩ := hv.reads.slice
  exact len_any b a ps.length c w hv.c1
theorem list_m (hm : Mem w0 w L) (i : Nat) (hL : L[i]? = some (NetT b N ps)) (hps : ps.length ≤ 4096) :
    Calls Try.prog 24 #[.pointer (some ⟨b, 0, none⟩)] w fun e w' => ∃ v', e = .returned v' ∧ Mem w0 w' (L ++ [PkT v' ps]) := by
  obtain ⟨F, ⟨v, hv, rfl⟩, _⟩ := hm.at i hL
  exact (list_any w b N v ps hv hps).mono fun _ w' ⟨v', he, ho, hk⟩ => ⟨v', he, hm.push (rowT_lies _ _ _ _ _) (pkT_new ho hk)⟩

end Go.Proofs.Ytneikamjlbfglaa
