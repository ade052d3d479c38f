/-
  Take, Double and Lose of the net, and of the document's, side by side: the same answers. No conditions.
-/
import Derived.Test.YtneikamjlbfglaaNetRef
import Derived.Test.YtneikamjlbfglaaNetSame
import Derived.Test.YtneikamjlbfglaaPack
namespace Go.Proofs.Ytneikamjlbfglaa
open Go.RowKit

theorem set_self {α : Type} {L : List α} {i : Nat} {a : α} (h : L[i]? = some a) : L.set i a = L := by
  apply List.ext_getElem?
  intro n
  by_cases hn : i = n
  · subst hn
    rw [List.getElem?_set_self (List.getElem?_eq_some_iff.1 h).1, h]
  · rw [List.getElem?_set_ne hn]

/-- Take, of the net and of the document's. -/
theorem take_pair (ps : List Pk) (k : Int) (hps : ps.length ≤ 4095) : ∃ (P : Pk) (E : Int) (qs : List Pk), qs.length ≤ ps.length ∧
    (∀ (i : Nat) (w0 w : World) (L : List Thing) (b : Nat) (N : Int), Mem w0 w L → L[i]? = some (NetT b N ps) → Calls Try.prog 12 #[.pointer (some ⟨b, 0, none⟩), .int .i64 k] w fun e w' => e = .returned (.tuple #[.agg #[.int .i64 P.f, .int .i64 P.t, .string P.s], .int .i64 E]) ∧ Mem w0 w' (L.set i (NetT b N qs))) ∧
    (∀ (w0 w : World) (A0 A1 A4 : Thing) (b : Nat) (N : Int) (v : Value), Mem w0 w [A0, A1, PkT v ps, RefB b N v, A4] → Calls Try.prog 21 #[.pointer (some ⟨b, 0, none⟩), .int .i64 k] w fun e w' =>
      e = .returned (.tuple #[.agg #[.int .i64 P.f, .int .i64 P.t, .string P.s], .int .i64 E]) ∧ ∃ v', Mem w0 w' [A0, A1, PkT v' qs, RefB b N v', A4]) := by
  cases hnd : nd ps.length k
  · refine ⟨⟨0, 0, ByteArray.empty⟩, 6, ps, Nat.le_refl _, fun i _ _ _ _ _ hm hL => (take_m_no hm i hL k hnd).mono ?_, fun _ _ _ _ _ _ _ _ hm => (rtake_no hm k hnd).mono ?_⟩
    · rintro e w' ⟨rfl, h⟩
      refine ⟨rfl, ?_⟩
      rw [set_self hL]
      exact h
    · rintro e w' ⟨rfl, h⟩
      exact ⟨rfl, _, h⟩
  · obtain ⟨j, rfl, hjl⟩ : ∃ j : Nat, k = j ∧ j < ps.length := by
      simp only [nd, Bool.and_eq_true, decide_eq_true_eq] at hnd
      exact ⟨k.toNat, by omega, by omega⟩
    exact ⟨ps[j], 0, ps.eraseIdx j, by rw [List.length_eraseIdx_of_lt hjl]; omega, fun i _ _ _ _ _ hm hL => take_m hm i hL (by omega) j hjl, fun _ _ _ _ _ _ _ _ hm => rtake_yes hm j hjl (by omega)⟩

/-- Double, of the net and of the document's. -/
theorem double_pair (ps : List Pk) (k : Int) (hps : ps.length ≤ 4095) : ∃ (E : Int) (qs : List Pk), qs.length ≤ ps.length + 1 ∧
    (∀ (i : Nat) (w0 w : World) (L : List Thing) (b : Nat) (N : Int), Mem w0 w L → L[i]? = some (NetT b N ps) → Calls Try.prog 13 #[.pointer (some ⟨b, 0, none⟩), .int .i64 k] w fun e w' => e = .returned (.int .i64 E) ∧ Mem w0 w' (L.set i (NetT b N qs))) ∧
    (∀ (w0 w : World) (A0 A1 A4 : Thing) (b : Nat) (N : Int) (v : Value), Mem w0 w [A0, A1, PkT v ps, RefB b N v, A4] → Calls Try.prog 22 #[.pointer (some ⟨b, 0, none⟩), .int .i64 k] w fun e w' =>
      e = .returned (.int .i64 E) ∧ ∃ v', Mem w0 w' [A0, A1, PkT v' qs, RefB b N v', A4]) := by
  cases hnd : nd ps.length k
  · refine ⟨6, ps, by omega, fun i _ _ _ _ _ hm hL => (double_m_no hm i hL k hnd).mono ?_, fun _ _ _ _ _ _ _ _ hm => (rdouble_no hm k hnd).mono ?_⟩
    · rintro e w' ⟨rfl, rfl⟩
      refine ⟨rfl, ?_⟩
      rw [set_self hL]
      exact hm
    · rintro e w' ⟨rfl, rfl⟩
      exact ⟨rfl, _, hm⟩
  · obtain ⟨j, rfl, hjl⟩ : ∃ j : Nat, k = j ∧ j < ps.length := by
      simp only [nd, Bool.and_eq_true, decide_eq_true_eq] at hnd
      exact ⟨k.toNat, by omega, by omega⟩
    exact ⟨0, ps ++ [ps[j]], by simp, fun i _ _ _ _ _ hm hL => double_m hm i hL j hjl (by omega), fun _ _ _ _ _ _ _ _ hm => rdouble_yes hm j hjl (by omega)⟩

/-- A closure of 'to', as a thing: the box of what it holds. -/
abbrev ClosT (c : Nat) (k : Int) : Thing := RowT 3 1 (.slice (some ⟨c, 0, none⟩) 1 1) 1 [.int .i64 k]
theorem clos_heap {w : World} {F : Nat → Prop} {c : Nat} {k : Int} (h : ClosT c k w F) : w.heap[c]? = some (.cells #[.int .i64 k] 3 (0, 0)) ∧ F c := by
  obtain ⟨⟨_, h⟩, rfl⟩ := h
  rcases h with ⟨h, _⟩ | ⟨g, cap, cur, h, _, hg, _, _, hcs, ht⟩
  · cases h
  · simp only [Value.slice.injEq, Option.some.injEq, Addr.mk.injEq, and_true, true_and] at h
    obtain ⟨rfl, rfl⟩ := h
    refine ⟨?_, rfl⟩
    rw [hg]
    have : cur = #[.int .i64 k] := by
      apply Array.ext'
      rw [← ht, List.take_of_length_le (by rw [Array.length_toList, hcs]; exact Nat.le_refl _)]
    rw [this]
theorem clos_new {w0 w : World} {L : List Thing} (h : Mem w0 w L) (k : Int) : Mem w0 (w.alloc (.cells #[.int .i64 k] 3)) (L ++ [ClosT w.heap.size k]) :=
  lit_mem h 3 1 #[.int .i64 k] 1 (by decide) rfl
theorem lose_mc {w0 w : World} {L : List Thing} {b : Nat} {N : Int} {ps : List Pk} {c : Nat} {k : Int} (hm : Mem w0 w L) (i j : Nat) (hij : i ≠ j) (hL : L[i]? = some (NetT b N ps)) (hC : L[j]? = some (ClosT c k)) (hps : ps.length ≤ 4096) :
    Calls Try.prog 14 #[.pointer (some ⟨b, 0, none⟩), .func (.func 30) #[] #[.pointer (some ⟨c, 0, none⟩)]] w fun e w' =>
      e = .returned (.int .i64 ((ps.length : Int) - ((ps.filter fun p => !(p.t == k)).length : Int))) ∧ Mem w0 w' (L.set i (NetT b N (ps.filter fun p => !(p.t == k)))) := by
  obtain ⟨F, ⟨v, hv, rfl⟩, close⟩ := hm.at i hL
  obtain ⟨F', G, ⟨v', hv', rfl⟩, hG, hd⟩ := hm.see2 i j hij hL hC
  obtain ⟨hc, hGc⟩ := clos_heap hG
  have hvv : v' = v := by
    have h1 := hv.c1
    rw [hv'.c1] at h1
    exact Option.some.inj h1
  subst hvv
  exact (lose_any w b N v' ps hv hps _ _ _ (fun p => p.t == k) (to_answers _ _ c k hc (fun h => hd c (.inr h) hGc))).mono fun _ w' ⟨he, ht⟩ => ⟨he, close w' _ (netT_lies _ _ _) (turned_step ht)⟩


theorem lose_five {w0 w : World} {A1 A2 A3 A4 : Thing} {b : Nat} {N : Int} {ps : List Pk} {c : Nat} {k : Int} (hm : Mem w0 w [NetT b N ps, A1, A2, A3, All [A4, ClosT c k]]) (hps : ps.length ≤ 4096) :
    Calls Try.prog 14 #[.pointer (some ⟨b, 0, none⟩), .func (.func 30) #[] #[.pointer (some ⟨c, 0, none⟩)]] w fun e w' =>
      e = .returned (.int .i64 ((ps.length : Int) - ((ps.filter (oth k)).length : Int))) ∧ Mem w0 w' [NetT b N (ps.filter (oth k)), A1, A2, A3, All [A4, ClosT c k]] := by
  have h := Mem.unpack (L := [NetT b N ps, A1, A2, A3]) _ hm
  exact (lose_mc h 0 5 (by decide) rfl rfl hps).mono fun _ _ ⟨he, h⟩ => ⟨he, Mem.pack (L := [NetT b N (ps.filter (oth k)), A1, A2, A3]) [A4, ClosT c k] h⟩
theorem clos_five {w0 w : World} {A0 A1 A2 A3 A4 : Thing} (hm : Mem w0 w [A0, A1, A2, A3, A4]) (k : Int) : Mem w0 (w.alloc (.cells #[.int .i64 k] 3)) [A0, A1, A2, A3, All [A4, ClosT w.heap.size k]] :=
  Mem.pack (L := [A0, A1, A2, A3]) [A4, ClosT w.heap.size k] (clos_new hm k)

end Go.Proofs.Ytneikamjlbfglaa
