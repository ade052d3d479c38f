/-
  The statements' own helpers: to, awake.
-/
import Derived.Test.YtneikamjlbfglaaNetD
namespace Go.Proofs.Ytneikamjlbfglaa
open Go.RowKit

theorem to_any (k : Int) (w : World) : Calls Try.prog 15 #[.int .i64 k] w fun e w' =>
    e = .returned (.func (.func 30) #[] #[.pointer (some ⟨w.heap.size, 0, none⟩)]) ∧ w.alloc (.cells #[.int .i64 k] 3) = w' := by
  go_enter Try.func15, Try.ntmps15
  go_wp2
  go_ret
  exact ⟨rfl, rfl⟩

theorem to1_any (c : Nat) (k : Int) (p : Pk) (w : World) (hc : w.cell? ⟨c, 0, none⟩ = some (.int .i64 k)) : Calls Try.prog 30 #[.agg #[.int .i64 p.f, .int .i64 p.t, .string p.s], .pointer (some ⟨c, 0, none⟩)] w fun e w' =>
    e = .returned (.bool (p.t == k)) ∧ Keeps No w w' := by
  have hb := block_lt_of_cell hc
  dsimp only at hb
  go_enter Try.func30, Try.ntmps30
  go_wp2
  go_ret
  exact ⟨rfl, (Keeps.refl _).alloc _⟩

theorem to_answers (S : Nat → Prop) (w0 : World) (c : Nat) (k : Int) (h0 : w0.heap[c]? = some (.cells #[.int .i64 k] 3 (0, 0))) (hb : ¬ S c) :
    Answers S w0 30 #[] #[.pointer (some ⟨c, 0, none⟩)] (fun p => p.t == k) :=
  ⟨fun _ _ => by kernel_rfl, fun w p hk => to1_any c k p w (by rw [cell_of_row w c 0 _ _ _ (hk.heap h0 hb)]; rfl)⟩

/-- Lose(to(k)), with the closure just made -/
theorem lose_to (w : World) (b : Nat) (N : Int) (v : Value) (ps : List Pk) (h : NetAt w b N v ps) (hps : ps.length ≤ 4096) (k : Int) (w1 : World) (hw1 : w.alloc (.cells #[.int .i64 k] 3) = w1) :
    Calls Try.prog 14 #[.pointer (some ⟨b, 0, none⟩), .func (.func 30) #[] #[.pointer (some ⟨w.heap.size, 0, none⟩)]] w1 fun e w' =>
      e = .returned (.int .i64 ((ps.length : Int) - ((ps.filter fun p => !(p.t == k)).length : Int))) ∧ Turned w w' b N v (ps.filter fun p => !(p.t == k)) := by
  subst hw1
  have h1 := h.kept ((Keeps.refl (S := No) w).alloc (.cells #[.int .i64 k] 3)) (fun h => h) (fun _ _ h => h)
  refine (lose_any _ b N v ps h1 hps _ _ _ (fun p => p.t == k) (to_answers _ _ w.heap.size k (heap_alloc_new _ _) (fun hc => by have := (h.own.lt _ hc).2; omega))).mono ?_
  rintro e w' ⟨he, ⟨⟨v', hn, hb⟩, hk⟩⟩
  refine ⟨he, ⟨⟨v', hn, fun k hk => ?_⟩, ((Keeps.refl _).alloc _).trans hk (fun _ _ h => h)⟩⟩
  rcases hb k hk with h | h
  · exact .inl h
  · simp at h; exact .inr (by omega)

def pkA : Pk := ⟨0, 1, ⟨#[97]⟩⟩
def pkB : Pk := ⟨1, 0, ⟨#[98]⟩⟩
def pkX : Pk := ⟨0, 0, ⟨#[120]⟩⟩

theorem Reads.lit2 (w : World) (p q : Pk) : Reads (w.alloc (.cells #[.int .i64 p.f, .int .i64 p.t, .string p.s, .int .i64 q.f, .int .i64 q.t, .string q.s] 34)) 3 (.slice (some ⟨w.heap.size, 0, none⟩) 2 2) 2 (pkCells [p, q]) := by
  have e : pkCells [p, q] = [.int .i64 p.f, .int .i64 p.t, .string p.s, .int .i64 q.f, .int .i64 q.t, .string q.s] := by simp [pkCells, Pk.cells]
  rw [e]
  exact Reads.ofOwn (World.ownsRow_lit w #[.int .i64 p.f, .int .i64 p.t, .string p.s, .int .i64 q.f, .int .i64 q.t, .string q.s] 2 (Nat.zero_le _) (by decide) rfl) (fun u hu => pkCells_one' [p, q] u (by rw [e]; exact hu))

/-- A net that a call has made for itself: block b is none of the old ones, and all old ones are as they were. -/
structure NetOn (w0 w : World) (b : Nat) (N : Int) (ps : List Pk) : Prop where
  net : ∃ v, NetAt w b N v ps
  keeps : Keeps No w0 w
  base : w0.heap.size ≤ b
theorem NetOn.later {w0 w w' : World} {b : Nat} {N : Int} {ps : List Pk} (h : NetOn w0 w b N ps) (k : Keeps No w w') : NetOn w0 w' b N ps :=
  let ⟨v, hv⟩ := h.net; ⟨⟨v, hv.kept k (fun h => h) (fun _ _ h => h)⟩, h.keeps.trans k (fun _ _ h => h), h.base⟩
theorem NetOn.turn {w0 w w' : World} {b : Nat} {N : Int} {v : Value} {ps qs : List Pk} (h : NetOn w0 w b N ps) (hv : NetAt w b N v ps) (t : Turned w w' b N v qs) : NetOn w0 w' b N qs := by
  obtain ⟨⟨v', hn, _⟩, hk⟩ := t
  refine ⟨⟨v', hn⟩, h.keeps.trans hk (fun i hi hs => ?_), h.base⟩
  have hb := h.base
  rcases hs with rfl | hs
  · omega
  · have := (hv.own.lt i hs).1; omega
theorem new_on (N : Int) (h : 1 ≤ N) (h' : N ≤ 17) (w0 w : World) (k : Keeps No w0 w) : Calls Try.prog 9 #[.int .i64 N] w fun e w' => ∃ b, e = .returned (.tuple #[.pointer (some ⟨b, 0, none⟩), .int .i64 0]) ∧ NetOn w0 w' b N [] :=
  (new_yes N h h' w).mono fun _ _ ⟨he, hn, hk⟩ => ⟨_, he, ⟨⟨_, hn⟩, k.trans hk (fun _ _ h => h), k.size⟩⟩
theorem send_on {w0 w : World} {b : Nat} {N : Int} {ps : List Pk} (h : NetOn w0 w b N ps) (hps : ps.length ≤ 4096) (x : Value) (l : List Pk) (hx : PkReads w x l) (hw : l.any (wrongB N) = false) :
    Calls Try.prog 11 #[.pointer (some ⟨b, 0, none⟩), x] w fun e w' => e = .returned (.tuple #[.int .i64 ((l.length : Int) - min (l.length : Int) (4096 - ps.length)), .int .i64 0]) ∧ NetOn w0 w' b N (ps ++ l.take (4096 - ps.length)) := by
  obtain ⟨v, hv⟩ := h.net
  exact (send_yes w b N v ps hv hps x l hx hw).mono fun _ _ ⟨he, ht⟩ => ⟨he, h.turn hv ht⟩
theorem pk_cells3 {w : World} {g : Nat} {p : Pk} (h : w.heap[g]? = some (.cells #[.int .i64 p.f, .int .i64 p.t, .string p.s] 34 (0, 0))) : w.cell? ⟨g, 2, none⟩ = some (.string p.s) := (cells3 h).2.2.1
theorem send_on_no {w0 w : World} {b : Nat} {N : Int} {ps : List Pk} (h : NetOn w0 w b N ps) (x : Value) (l : List Pk) (hx : PkReads w x l) (hw : l.any (wrongB N) = true) :
    Calls Try.prog 11 #[.pointer (some ⟨b, 0, none⟩), x] w fun e w' => e = .returned (.tuple #[.int .i64 0, .int .i64 1]) ∧ NetOn w0 w' b N ps ∧ Keeps No w w' := by
  obtain ⟨v, hv⟩ := h.net
  exact (send_wrong w b N v ps hv x l hx hw).mono fun _ _ ⟨he, hk⟩ => ⟨he, h.later hk, hk⟩
theorem take_on {w0 w : World} {b : Nat} {N : Int} {ps : List Pk} (h : NetOn w0 w b N ps) (hps : ps.length ≤ 4096) (k : Nat) (hk : k < ps.length) :
    Calls Try.prog 12 #[.pointer (some ⟨b, 0, none⟩), .int .i64 k] w fun e w' => e = .returned (.tuple #[.agg #[.int .i64 ps[k].f, .int .i64 ps[k].t, .string ps[k].s], .int .i64 0]) ∧ NetOn w0 w' b N (ps.eraseIdx k) := by
  obtain ⟨v, hv⟩ := h.net
  exact (take_yes w b N v ps hv hps k hk).mono fun _ _ ⟨he, ht⟩ => ⟨he, h.turn hv ht⟩
theorem take_on_no {w0 w : World} {b : Nat} {N : Int} {ps : List Pk} (h : NetOn w0 w b N ps) (k : Int) (hk : nd ps.length k = false) :
    Calls Try.prog 12 #[.pointer (some ⟨b, 0, none⟩), .int .i64 k] w fun e w' => e = .returned (.tuple #[noPk, .int .i64 6]) ∧ NetOn w0 w' b N ps := by
  obtain ⟨v, hv⟩ := h.net
  exact (take_no w b N v ps hv k hk).mono fun _ _ ⟨he, hk⟩ => ⟨he, h.later hk⟩
theorem double_on {w0 w : World} {b : Nat} {N : Int} {ps : List Pk} (h : NetOn w0 w b N ps) (k : Nat) (hk : k < ps.length) (hf : (ps.length : Int) < 4096) :
    Calls Try.prog 13 #[.pointer (some ⟨b, 0, none⟩), .int .i64 k] w fun e w' => e = .returned (.int .i64 0) ∧ NetOn w0 w' b N (ps ++ [ps[k]]) := by
  obtain ⟨v, hv⟩ := h.net
  exact (double_yes w b N v ps hv k hk hf).mono fun _ _ ⟨he, ht⟩ => ⟨he, h.turn hv ht⟩
theorem double_on_no {w0 w : World} {b : Nat} {N : Int} {ps : List Pk} (h : NetOn w0 w b N ps) (k : Int) (hk : nd ps.length k = false) :
    Calls Try.prog 13 #[.pointer (some ⟨b, 0, none⟩), .int .i64 k] w fun e w' => e = .returned (.int .i64 6) ∧ NetOn w0 w' b N ps := by
  obtain ⟨v, hv⟩ := h.net
  exact (double_no w b N v ps hv k hk).mono fun _ _ ⟨he, hk⟩ => ⟨he, hk ▸ h⟩
theorem double_on_full {w0 w : World} {b : Nat} {N : Int} {ps : List Pk} (h : NetOn w0 w b N ps) (k : Int) (hk : nd ps.length k = true) (hf : (4096 : Int) ≤ ps.length) :
    Calls Try.prog 13 #[.pointer (some ⟨b, 0, none⟩), .int .i64 k] w fun e w' => e = .returned (.int .i64 8) ∧ NetOn w0 w' b N ps := by
  obtain ⟨v, hv⟩ := h.net
  exact (double_full w b N v ps hv k hk hf).mono fun _ _ ⟨he, hk⟩ => ⟨he, hk ▸ h⟩
theorem lose_on {w0 w : World} {b : Nat} {N : Int} {ps : List Pk} (h : NetOn w0 w b N ps) (hps : ps.length ≤ 4096) (k : Int) (c : Nat) (w1 : World) (hw1 : w.alloc (.cells #[.int .i64 k] 3) = w1) (hc : w.heap.size = c) :
    Calls Try.prog 14 #[.pointer (some ⟨b, 0, none⟩), .func (.func 30) #[] #[.pointer (some ⟨c, 0, none⟩)]] w1 fun e w' =>
      e = .returned (.int .i64 ((ps.length : Int) - ((ps.filter fun p => !(p.t == k)).length : Int))) ∧ NetOn w0 w' b N (ps.filter fun p => !(p.t == k)) := by
  subst hc
  obtain ⟨v, hv⟩ := h.net
  exact (lose_to w b N v ps hv hps k w1 hw1).mono fun _ _ ⟨he, ht⟩ => ⟨he, h.turn hv ht⟩
theorem len_on {w0 w : World} {b : Nat} {N : Int} {ps : List Pk} (h : NetOn w0 w b N ps) : Calls Try.prog 16 #[.pointer (some ⟨b, 0, none⟩)] w fun e w' => e = .returned (.int .i64 ps.length) ∧ w = w' := by
  obtain ⟨v, hv⟩ := h.net
  obtain ⟨a, c, rfl⟩ := hv.reads.slice
  exact len_any b a ps.length c w hv.c1

set_option maxHeartbeats 800000 in
theorem awake_any (w : World) : Calls Try.prog 17 #[] w fun e w' => e = .returned (.bool true) ∧ Keeps No w w' := by
  go_enter Try.func17, Try.ntmps17
  go_wp2_with fail
  refine (new_on 2 (by omega) (by omega) w w (Keeps.refl _)).mono ?_
  rintro e w1 ⟨b, rfl, h1⟩
  go_wp2_with fail
  refine (send_on (h1.later ((Keeps.refl _).alloc _)) (by simp) _ [pkA, pkB] (Reads.lit2 w1 pkA pkB) rfl).mono ?_
  rintro e w2 ⟨rfl, h2⟩
  have e2 : ([] ++ List.take (4096 - ([] : List Pk).length) [pkA, pkB]) = [pkA, pkB] := rfl
  rw [e2] at h2
  clear e2
  rw [show (([pkA, pkB].length : Nat) : Int) - min (([pkA, pkB].length : Nat) : Int) (4096 - (([] : List Pk).length : Nat)) = 0 by decide]
  go_wp2_with fail
  refine (double_on h2 0 (by decide) (by decide)).mono ?_
  rintro e w3 ⟨rfl, h3⟩
  go_wp2_with fail
  refine (take_on h3 (by decide) 1 (by decide)).mono ?_
  rintro e w4 ⟨rfl, h4⟩
  have h4' : NetOn w w4 b 2 [pkA, pkA] := h4
  clear h4 h3 h2 h1
  go_wp2_with fail
  have hX : Reads ((w4.alloc (.cells #[.int .i64 pkB.f, .int .i64 pkB.t, .string pkB.s] 34)).alloc (.cells #[.int .i64 0, .int .i64 0, .string ⟨#[120]⟩] 34)) 3 (.slice (some ⟨w4.heap.size + 1, 0, none⟩) 1 1) 1 (pkCells [pkX]) := by
    have := Reads.lit (w4.alloc (.cells #[.int .i64 pkB.f, .int .i64 pkB.t, .string pkB.s] 34)) pkX
    rw [World.size_alloc] at this
    exact this
  refine (send_on_no (h4'.later (((Keeps.refl _).alloc _).alloc _)) _ [pkX] hX rfl).mono ?_
  rintro e w5 ⟨rfl, h5, hk5⟩
  have hP := pk_cells3 (p := pkB) (hk5.heap (heap_alloc2_old w4 _ _) (fun h => h))
  have hsb : (pkB.s.toList == [98]) = true := by kernel_rfl
  clear hk5 h4'
  go_wp2_with fail
  refine (to_any 1 w5).mono ?_
  rintro e w6 ⟨rfl, hw6⟩
  go_wp2_with fail
  refine (lose_on h5 (by decide) 1 _ w6 hw6 rfl).mono ?_
  rintro e w7 ⟨rfl, h7⟩
  have h7' : NetOn w w7 b 2 [] := h7
  clear h7 h5 hw6
  rw [show ((([pkA, pkA] : List Pk).length : Nat) : Int) - ((([pkA, pkA] : List Pk).filter fun p => !(p.t == 1)).length : Nat) = 2 by decide]
  go_wp2_with fail
  refine (len_on h7').mono ?_
  rintro e w8 ⟨rfl, rfl⟩
  rw [show ((([] : List Pk).length : Nat) : Int) = 0 by decide]
  have hk := h7'.keeps
  go_wp2
  go_ret
  exact ⟨rfl, hk⟩
end Go.Proofs.Ytneikamjlbfglaa
