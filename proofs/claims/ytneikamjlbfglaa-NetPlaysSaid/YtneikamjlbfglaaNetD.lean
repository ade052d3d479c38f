/-
  The methods of package net: Take, Double, Lose.
-/
import Derived.Test.YtneikamjlbfglaaNetC
namespace Go.Proofs.Ytneikamjlbfglaa
open Go.RowKit

theorem Turned.same {w w' : World} {b : Nat} {N : Int} {v : Value} {ps : List Pk} (h : NetAt w b N v ps) (k : Keeps No w w') : Turned w w' b N v ps :=
  ⟨⟨v, h.kept k (fun h => h) (fun _ _ h => h), fun _ h => .inl h⟩, k.mono (fun _ _ h => h.elim)⟩

def noPk : Value := .agg #[.int .i64 0, .int .i64 0, .string ByteArray.empty]

theorem take_nil (k : Int) (w : World) : Calls Try.prog 12 #[.pointer none, .int .i64 k] w fun e w' => e = .returned (.tuple #[noPk, .int .i64 6]) ∧ Keeps No w w' := by
  go_enter Try.func12, Try.ntmps12
  go_wp2_with fail
  refine (at_nil k _).mono ?_
  rintro e w' ⟨rfl, rfl⟩
  go_wp2
  exact bodyPost_ret (v := .tuple #[noPk, .int .i64 6]) (by simp [results, Try.results12, go_sem, noPk]; rfl) rfl ⟨rfl, (Keeps.refl _).alloc _⟩

set_option maxHeartbeats 1000000 in
theorem take_no (w : World) (b : Nat) (N : Int) (v : Value) (ps : List Pk) (h : NetAt w b N v ps) (k : Int) (hk : nd ps.length k = false) :
    Calls Try.prog 12 #[.pointer (some ⟨b, 0, none⟩), .int .i64 k] w fun e w' => e = .returned (.tuple #[noPk, .int .i64 6]) ∧ Keeps No w w' := by
  obtain ⟨va, vc, rfl⟩ := h.reads.slice
  go_enter Try.func12, Try.ntmps12
  go_wp2_with fail
  refine (at_any b k va ps.length vc _ (h.kept ((Keeps.refl (S := No) w).alloc _) (fun h => h) (fun _ _ h => h)).c1).mono ?_
  rintro e w' ⟨rfl, rfl⟩
  rw [hk]
  go_wp2
  exact bodyPost_ret (v := .tuple #[noPk, .int .i64 6]) (by simp [results, Try.results12, go_sem, noPk]; rfl) rfl ⟨rfl, (Keeps.refl _).alloc _⟩

set_option maxHeartbeats 2000000 in
theorem take_yes (w : World) (b : Nat) (N : Int) (v : Value) (ps : List Pk) (h : NetAt w b N v ps) (hps : ps.length ≤ 4096) (k : Nat) (hk : k < ps.length) :
    Calls Try.prog 12 #[.pointer (some ⟨b, 0, none⟩), .int .i64 k] w fun e w' =>
      e = .returned (.tuple #[.agg #[.int .i64 ps[k].f, .int .i64 ps[k].t, .string ps[k].s], .int .i64 0]) ∧ Turned w w' b N v (ps.eraseIdx k) := by
  have hbl := h.lt
  obtain ⟨g, vc, rfl, hgb, hglt, hnc, hcm⟩ : ∃ g cap, v = .slice (some ⟨g, 0, none⟩) ps.length cap ∧ b + 1 ≤ g ∧ g < w.heap.size ∧ ps.length ≤ cap ∧ cap ≤ maxLen := by
    rcases h.own.2 with ⟨_, h0⟩ | ⟨g, cap, cur, h, hb, hg, hnc, hcm, _⟩
    · omega
    · exact ⟨g, cap, h, hb, (Array.getElem?_eq_some_iff.1 hg).1, hnc, hcm⟩
  have hnd : nd ps.length k = true := by simp [nd]; omega
  have h' : ∀ o1, NetAt (w.alloc o1) b N (.slice (some ⟨g, 0, none⟩) ps.length vc) ps := fun o1 => h.kept ((Keeps.refl (S := No) w).alloc _) (fun h => h) (fun _ _ h => h)
  have h'' : ∀ o1 o2, NetAt ((w.alloc o1).alloc o2) b N (.slice (some ⟨g, 0, none⟩) ps.length vc) ps := fun o1 o2 => h.kept (((Keeps.refl (S := No) w).alloc _).alloc _) (fun h => h) (fun _ _ h => h)
  have H' := Lib.hid h'; clear h'
  have H'' := Lib.hid h''; clear h''
  have c1 := h.c1
  obtain ⟨g0, g1, g2⟩ := h.reads.pk k hk
  simp only [Nat.zero_add] at g0 g1 g2
  go_enter Try.func12, Try.ntmps12
  go_wp2_with fail
  refine (at_any b k _ ps.length vc _ (H'.out _).c1).mono ?_
  rintro e w' ⟨rfl, rfl⟩
  rw [hnd]
  go_wp2_with fail
  refine (delete_one _ (b + 1) g vc k _ rfl ps (H''.out _ _).own hk hnc hcm).mono ?_
  rintro e w1 ⟨rfl, ho1, hk1⟩
  have hne : ¬ b = g := by omega
  have h1 := hk1.heap (H''.out _ _).head (fun h => hne h)
  have hA := hk1.heap (heap_alloc2_old w _ _) (fun h => by simp only [Own] at h; omega)
  have hB := hk1.heap (heap_alloc2_new w _ _) (fun h => by simp only [Own] at h; omega)
  have hkk : Keeps (Own g) w w1 := (((Keeps.refl (S := Own g) w).alloc _).alloc _).trans hk1 (fun _ _ h => h)
  have hT : Hid (∀ w2, Keeps (Own w.heap.size) (w1.setCell ⟨b, 1, none⟩ (.slice (some ⟨g, 0, none⟩) (ps.length - 1) vc)) w2 → Turned w w2 b N (.slice (some ⟨g, 0, none⟩) ps.length vc) (ps.eraseIdx k)) := by
    intro w2 hk2
    refine ⟨⟨_, (NetAt.stored h1 _ _ ho1).kept hk2 (fun h => by simp only [Own] at h; omega) (fun _ e h => by cases e; simp only [Own] at h; omega), fun k' h' => .inl h'⟩, ?_⟩
    exact (((hkk.mono (T := NetF b (.slice (some ⟨g, 0, none⟩) ps.length vc)) (fun i _ h => .inr (by cases h; rfl))).setCell (p := ⟨b, 1, none⟩) (fun _ => .inl rfl) _)).trans hk2 (fun i hi h => by simp only [Own] at h; omega)
  have k1 : w1.cell? ⟨b, 1, none⟩ = some (.slice (some ⟨g, 0, none⟩) ps.length vc) := by rw [cell_of_row w1 b 1 _ _ _ h1]; rfl
  have f1 := frozen_of_row w1 b 1 _ _ h1
  have sz := hk1.size
  simp only [World.size_alloc] at sz
  obtain ⟨a0, a1, a2, a3, a4, a5⟩ := cells3 hA
  obtain ⟨b0, b1, b2, _, _, _⟩ := cells3 hB
  clear hA hB
  go_wp2
  refine bodyPost_ret (v := .tuple #[.agg #[.int .i64 ps[k].f, .int .i64 ps[k].t, .string ps[k].s], .int .i64 0]) (by simp [results, Try.results12, go_sem, *]) rfl ⟨rfl, hT.out _ ?_⟩
  exact (Keeps.refl _).set3 _ _ _ _ _ _

theorem double_nil (k : Int) (w : World) : Calls Try.prog 13 #[.pointer none, .int .i64 k] w fun e w' => e = .returned (.int .i64 6) ∧ w = w' := by
  go_enter Try.func13, Try.ntmps13
  go_wp2_with fail
  refine (at_nil k _).mono ?_
  rintro e w' ⟨rfl, rfl⟩
  go_wp2
  go_ret
  exact ⟨rfl, rfl⟩
theorem double_no (w : World) (b : Nat) (N : Int) (v : Value) (ps : List Pk) (h : NetAt w b N v ps) (k : Int) (hk : nd ps.length k = false) :
    Calls Try.prog 13 #[.pointer (some ⟨b, 0, none⟩), .int .i64 k] w fun e w' => e = .returned (.int .i64 6) ∧ w = w' := by
  obtain ⟨va, vc, rfl⟩ := h.reads.slice
  go_enter Try.func13, Try.ntmps13
  go_wp2_with fail
  refine (at_any b k va ps.length vc _ h.c1).mono ?_
  rintro e w' ⟨rfl, rfl⟩
  rw [hk]
  go_wp2
  go_ret
  exact ⟨rfl, rfl⟩
theorem double_full (w : World) (b : Nat) (N : Int) (v : Value) (ps : List Pk) (h : NetAt w b N v ps) (k : Int) (hk : nd ps.length k = true) (hf : (4096 : Int) ≤ ps.length) :
    Calls Try.prog 13 #[.pointer (some ⟨b, 0, none⟩), .int .i64 k] w fun e w' => e = .returned (.int .i64 8) ∧ w = w' := by
  obtain ⟨va, vc, rfl⟩ := h.reads.slice
  have c1 := h.c1
  go_enter Try.func13, Try.ntmps13
  go_wp2_with fail
  refine (at_any b k va ps.length vc _ h.c1).mono ?_
  rintro e w' ⟨rfl, rfl⟩
  rw [hk]
  go_wp2
  go_ret
  exact ⟨rfl, rfl⟩

theorem Reads.lit (w : World) (p : Pk) : Reads (w.alloc (.cells #[.int .i64 p.f, .int .i64 p.t, .string p.s] 34)) 3 (.slice (some ⟨w.heap.size, 0, none⟩) 1 1) 1 (pkCells [p]) := by
  rw [pkCells_one]
  exact Reads.ofOwn (World.ownsRow_lit w #[.int .i64 p.f, .int .i64 p.t, .string p.s] 1 (Nat.zero_le _) (by decide) rfl) (fun u hu => pkCells_one' [p] u (by rw [pkCells_one]; exact hu))

set_option maxHeartbeats 2000000 in
theorem double_yes (w : World) (b : Nat) (N : Int) (v : Value) (ps : List Pk) (h : NetAt w b N v ps) (k : Nat) (hk : k < ps.length) (hf : (ps.length : Int) < 4096) :
    Calls Try.prog 13 #[.pointer (some ⟨b, 0, none⟩), .int .i64 k] w fun e w' => e = .returned (.int .i64 0) ∧ Turned w w' b N v (ps ++ [ps[k]]) := by
  have hbl := h.lt
  obtain ⟨i0, hi, hz0, hz1, hz2⟩ := info_parts Try.infoPk
  obtain ⟨g, vc, rfl, hgb, hglt, hnc, hcm⟩ : ∃ g cap, v = .slice (some ⟨g, 0, none⟩) ps.length cap ∧ b + 1 ≤ g ∧ g < w.heap.size ∧ ps.length ≤ cap ∧ cap ≤ maxLen := by
    rcases h.own.2 with ⟨_, h0⟩ | ⟨g, cap, cur, h, hb, hg, hnc, hcm, _⟩
    · omega
    · exact ⟨g, cap, h, hb, (Array.getElem?_eq_some_iff.1 hg).1, hnc, hcm⟩
  have hnd : nd ps.length k = true := by simp [nd]; omega
  have c1 := h.c1
  obtain ⟨g0, g1, g2⟩ := h.reads.pk k hk
  simp only [Nat.zero_add] at g0 g1 g2
  have hne : ¬ b = g := by omega
  have hfn : ps.length + 1 ≤ 4096 := by omega
  have Hfn := Lib.hid hfn; clear hfn
  have hfd : decide ((4096 : Int) ≤ (ps.length : Int)) = false := decide_eq_false (by omega)
  clear hf
  have key : ∀ (w2 : World) (v' : Value), w2.ownsRow (b + 1) 34 3 v' (ps.length + 1) (pkCells ps ++ pkCells [ps[k]]) → Keeps (Own g) w w2 →
      (∀ k, v'.ownBlock = some k → (Value.slice (some ⟨g, 0, none⟩) ps.length vc).ownBlock = some k ∨ w.heap.size ≤ k) → Turned w (w2.setCell ⟨b, 1, none⟩ v') b N (.slice (some ⟨g, 0, none⟩) ps.length vc) (ps ++ [ps[k]]) := by
    intro w2 v' ho hk2 hb'
    refine ⟨⟨v', NetAt.stored (hk2.heap h.head (fun h => hne h)) v' _ (by rw [← pkCells_append] at ho; simpa [PkOwn] using ho), hb'⟩, ?_⟩
    exact ((hk2.mono (T := NetF b (.slice (some ⟨g, 0, none⟩) ps.length vc)) (fun i _ h => .inr (by cases h; rfl))).setCell (p := ⟨b, 1, none⟩) (fun _ => .inl rfl) _)
  have Key := Lib.hid key; clear key
  go_enter Try.func13, Try.ntmps13
  go_wp2_with fail
  refine (at_any b k _ ps.length vc _ h.c1).mono ?_
  rintro e w' ⟨rfl, rfl⟩
  rw [hnd]
  go_wp2
  have hf1 : w.frozen? ⟨b, 1, none⟩ = false := h.f1
  go_region_law (refine step_append_reads rfl (.tmp 21) (.tmp 29) 28 rfl (b + 1) 34 i0 _ 3 32 Try.underlying28 hi hz0 hz1 hz2 rfl (by decide) _ ps.length (pkCells ps) rfl (h.kept ((Keeps.refl (S := No) w).alloc _).drew (fun h => h) (fun _ _ h => h)).own _ _ _ rfl ((Reads.lit w ps[k]).kept (Keeps.refl (S := No) _).drew (fun _ _ h => h)) (by have := Hfn.out; unfold maxLen; omega) (by have := Hfn.out; omega) (by simp; omega) ?_
                 intro v' w2 ho2 hk2 hb2 _
                 obtain ⟨a', c', rfl⟩ := ownsRow_slice ho2
                 have hk3 : Keeps (Own g) w w2 := (((Keeps.refl (S := Own g) w).alloc _).drew).trans hk2 (fun i hi h => by cases h; rfl)
                 have hT := Key.out w2 _ ho2 hk3 (fun k hk => by rcases hb2 k hk with h | h; exact .inl h; right; simp at h; omega)
                 have h2 := hk3.heap h.head (fun h => hne h)
                 have k2 : w2.cell? ⟨b, 1, none⟩ = some (.slice (some ⟨g, 0, none⟩) ps.length vc) := by rw [cell_of_row w2 b 1 _ _ _ h2]; rfl
                 have f2 := frozen_of_row w2 b 1 _ _ h2
                 clear h2)
  all_goals
    go_wp2
    go_ret
    exact ⟨rfl, hT⟩

theorem lose_nil (w : World) (x : Value) : Calls Try.prog 14 #[.pointer none, x] w fun e w' => e = .returned (.int .i64 0) ∧ w = w' := by
  go_enter Try.func14, Try.ntmps14
  go_wp2
  go_ret
  exact ⟨rfl, rfl⟩
theorem eql_nilFunc (w : World) : (binOp .eql 39 .nilFunc .nilFunc).run Try.prog w = .ok (.bool true) w := by kernel_rfl
theorem eql_func (f : Nat) (a c : Array Value) (w : World) : (binOp .eql 39 (.func (.func f) a c) .nilFunc).run Try.prog w = .ok (.bool false) w := by kernel_rfl
theorem lose_none (w : World) (b : Nat) : Calls Try.prog 14 #[.pointer (some ⟨b, 0, none⟩), .nilFunc] w fun e w' => e = .returned (.int .i64 0) ∧ w = w' := by
  have hn := eql_nilFunc
  go_enter Try.func14, Try.ntmps14
  go_wp2
  go_ret
  exact ⟨rfl, rfl⟩

set_option maxHeartbeats 2000000 in
theorem lose_any (w : World) (b : Nat) (N : Int) (v : Value) (ps : List Pk) (h : NetAt w b N v ps) (hps : ps.length ≤ 4096) (fid : Nat) (first captured : Array Value) (pr : Pk → Bool) (hf : Answers (Of v) w fid first captured pr) :
    Calls Try.prog 14 #[.pointer (some ⟨b, 0, none⟩), .func (.func fid) first captured] w fun e w' =>
      e = .returned (.int .i64 ((ps.length : Int) - ((ps.filter fun p => !pr p).length : Int))) ∧ Turned w w' b N v (ps.filter fun p => !pr p) := by
  obtain ⟨va, vc, rfl⟩ := h.reads.slice
  have c1 := h.c1
  have hbl := h.lt
  have hne : Hid ((Value.slice va ps.length vc).ownBlock ≠ some b) := fun hc => by have := (h.own.lt b hc).1; omega
  have hdel := deleteFunc w (b + 1) _ ps h.own fid first captured pr hf
  have hfl : (ps.filter fun p => !pr p).length ≤ ps.length := List.length_filter_le _ _
  have hn := eql_func
  go_enter Try.func14, Try.ntmps14
  go_wp2_with fail
  refine hdel.mono ?_
  rintro e w1 ⟨v', rfl, ho1, hk1, hv'⟩
  generalize hq : (ps.filter fun p => !pr p) = qs at *
  have Hq := Lib.hid hq; clear hq
  have h1 := hk1.heap h.head hne.out
  have hT : Hid (Turned w (w1.setCell ⟨b, 1, none⟩ v') b N (.slice va ps.length vc) qs) :=
    ⟨⟨v', NetAt.stored h1 v' _ ho1, fun k hk => .inl (by rw [← hv']; exact hk)⟩, (hk1.mono (T := NetF b (.slice va ps.length vc)) (fun i _ h => .inr h)).setCell (p := ⟨b, 1, none⟩) (fun _ => .inl rfl) _⟩
  have Hv := Lib.hid hv'; clear hv'
  obtain ⟨a', c', rfl⟩ := ownsRow_slice ho1
  have k1 : w1.cell? ⟨b, 1, none⟩ = some (.slice va ps.length vc) := by rw [cell_of_row w1 b 1 _ _ _ h1]; rfl
  have f1 := frozen_of_row w1 b 1 _ _ h1
  clear h1
  go_wp2
  go_ret
  rw [Hq.out]
  exact ⟨rfl, hT.out⟩
end Go.Proofs.Ytneikamjlbfglaa
