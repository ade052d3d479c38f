/-
  The methods of package net.
-/
import Derived.Test.YtneikamjlbfglaaNetB
namespace Go.Proofs.Ytneikamjlbfglaa
open Go.RowKit

set_option maxHeartbeats 1000000 in
/-- slices.Clone: a row of its own -/
theorem clone_any (w : World) (v : Value) (l : List Pk) (hr : PkReads w v l) (hl : l.length * 32 ≤ 140737488355328) :
    Calls Try.prog 31 #[v] w fun e w' => ∃ v', e = .returned v' ∧ PkOwn w' w.heap.size v' l ∧ Keeps No w w' := by
  obtain ⟨i0, hi, hz0, hz1, hz2⟩ := info_parts Try.infoPk
  rcases hr.shape with ⟨rfl, hn⟩ | ⟨a, c, rfl, hc, hcm, hcell⟩
  · have hnil : l = [] := List.eq_nil_of_length_eq_zero hn
    subst hnil
    go_enter Try.func31, Try.ntmps31
    have hnil : ∀ w, (binOp .eql 28 (.slice none 0 0) (.slice none 0 0)).run Try.prog w = .ok (.bool true) w := fun w => by kernel_rfl
    go_wp2
    go_ret
    exact ⟨_, rfl, World.ownsRow_nil _ _ _ _, Keeps.refl _⟩
  · clear hcell
    have hnn : ∀ w, (binOp .eql 28 (.slice (some a) l.length c) (.slice none 0 0)).run Try.prog w = .ok (.bool false) w := fun w => Lib.run_eql_slice_nil w _ 34 _ _ _ _ _ Try.underlying28
    have hr' : Reads (w.alloc (.cells #[] 34)) 3 (.slice (some a) l.length c) l.length (pkCells l) := hr.kept ((Keeps.refl (S := No) w).alloc _) (fun _ _ h => h)
    have hlit : (w.alloc (.cells #[] 34)).ownsRow w.heap.size 34 3 (.slice (some ⟨w.heap.size, 0, none⟩) 0 0) 0 [] := World.ownsRow_lit w #[] 0 (Nat.le_refl _) (Nat.zero_le _) rfl
    go_enter Try.func31, Try.ntmps31
    go_wp2_with (at_builtin; refine wpList_append_reads rfl (.tmp 5) (.tmp 6) 28 rfl w.heap.size 34 i0 _ 3 32 Try.underlying28 hi hz0 hz1 hz2 rfl (by decide) _ 0 [] rfl hlit _ _ _ rfl hr' ?c1 ?c2 ?c3 ?c4)
    case c1 => omega
    case c2 => omega
    case c3 => simp
    case c4 =>
      intro v' w1 hown hk _ _
      go_wp2
      go_ret
      refine ⟨_, rfl, by simpa using hown, ((Keeps.refl (S := No) w).alloc _).trans hk (fun i hi h => ?_)⟩
      simp [Of, Value.ownBlock] at h
      omega

theorem list_nil (w : World) : Calls Try.prog 24 #[.pointer none] w fun e w' => e = .returned (.slice none 0 0) ∧ w = w' := by
  go_enter Try.func24, Try.ntmps24
  go_wp2
  go_ret
  exact ⟨rfl, rfl⟩
theorem list_any (w : World) (b : Nat) (N : Int) (v : Value) (ps : List Pk) (h : NetAt w b N v ps) (hl : ps.length ≤ 4096) :
    Calls Try.prog 24 #[.pointer (some ⟨b, 0, none⟩)] w fun e w' => ∃ v', e = .returned v' ∧ PkOwn w' w.heap.size v' ps ∧ Keeps No w w' := by
  have h1 := h.c1
  go_enter Try.func24, Try.ntmps24
  go_wp2_with fail
  refine (clone_any w v ps h.reads (by omega)).mono ?_
  rintro e w' ⟨v', rfl, ho, hk⟩
  go_wp2
  go_ret
  exact ⟨_, rfl, ho, hk⟩

/-- How a net stands behind a method: block b still; what may be written is its own, and its row is the old one or a new one. -/
structure Turned (w w' : World) (b : Nat) (N : Int) (v : Value) (ps : List Pk) : Prop where
  net : ∃ v', NetAt w' b N v' ps ∧ ∀ k, v'.ownBlock = some k → v.ownBlock = some k ∨ w.heap.size ≤ k
  keeps : Keeps (NetF b v) w w'

theorem NetAt.stored {w : World} {b : Nat} {N : Int} {v : Value} (hh : w.heap[b]? = some (.cells #[.int .i64 N, v] 60 (0, 0))) (v' : Value) (ps' : List Pk) (ho : PkOwn w (b + 1) v' ps') : NetAt (w.setCell ⟨b, 1, none⟩ v') b N v' ps' := by
  refine ⟨?_, ownsRow_setCell_below ho (by simp) _⟩
  rw [heap_setCell_same w b 1 _ _ v' hh]
  rfl

theorem send_nil (w : World) (x : Value) : Calls Try.prog 11 #[.pointer none, x] w fun e w' => e = .returned (.tuple #[.int .i64 0, .int .i64 1]) ∧ w = w' := by
  go_enter Try.func11, Try.ntmps11
  go_wp2
  go_ret2
  exact ⟨rfl, rfl⟩

set_option maxHeartbeats 2000000 in
theorem send_wrong (w : World) (b : Nat) (N : Int) (v : Value) (ps : List Pk) (h : NetAt w b N v ps) (x : Value) (l : List Pk) (hx : PkReads w x l) (hw : l.any (wrongB N) = true) :
    Calls Try.prog 11 #[.pointer (some ⟨b, 0, none⟩), x] w fun e w' => e = .returned (.tuple #[.int .i64 0, .int .i64 1]) ∧ Keeps No w w' := by
  have hidx : decide (0 ≤ idxOf (wrongB N) l) = true := by
    cases hf : l.findIdx? (wrongB N) with
    | none =>
      rw [List.findIdx?_eq_none_iff] at hf
      obtain ⟨p, hp, hq⟩ := List.any_eq_true.1 hw
      simp [hf p hp] at hq
    | some k => simp [idxOf, hf]
  clear hw
  go_enter Try.func11, Try.ntmps11
  go_wp2_with fail
  refine (containsFunc No w x l hx _ _ _ (wrongB N) (wrong_answers No w b N v h.head (fun h => h))).mono ?_
  rintro e w' ⟨rfl, hk⟩
  rw [hidx]
  go_wp2
  go_ret2
  exact ⟨rfl, hk⟩

set_option maxHeartbeats 2000000 in
theorem send_yes (w : World) (b : Nat) (N : Int) (v : Value) (ps : List Pk) (h : NetAt w b N v ps) (hps : ps.length ≤ 4096) (x : Value) (l : List Pk) (hx : PkReads w x l) (hw : l.any (wrongB N) = false) :
    Calls Try.prog 11 #[.pointer (some ⟨b, 0, none⟩), x] w fun e w' => e = .returned (.tuple #[.int .i64 ((l.length : Int) - min (l.length : Int) (4096 - ps.length)), .int .i64 0]) ∧
      Turned w w' b N v (ps ++ l.take (4096 - ps.length)) := by
  have hidx : decide (0 ≤ idxOf (wrongB N) l) = false := by
    have hf : l.findIdx? (wrongB N) = none := by
      rw [List.findIdx?_eq_none_iff]
      intro p hp
      have := List.any_eq_false.1 hw p hp
      simpa using this
    simp [idxOf, hf]
  clear hw
  obtain ⟨a, c, rfl⟩ := hx.slice
  obtain ⟨va, vc, rfl⟩ := h.reads.slice
  have hlen : l.length ≤ c ∧ c ≤ maxLen := by
    rcases hx.shape with ⟨he, h0⟩ | ⟨_, c', he, h1, h2, _⟩
    · simp only [Value.slice.injEq] at he; obtain ⟨_, h3, h4⟩ := he; unfold maxLen; omega
    · simp only [Value.slice.injEq, true_and] at he; obtain ⟨_, rfl⟩ := he; exact ⟨h1, h2⟩
  obtain ⟨hlc, hcm⟩ := hlen
  unfold maxLen at hcm
  obtain ⟨i0, hi, hz0, hz1, hz2⟩ := info_parts Try.infoPk
  have hbl := h.lt
  have hcont := containsFunc No w _ l hx _ _ _ (wrongB N) (wrong_answers No w b N _ h.head (fun h => h))
  have key : ∀ (w1 w2 : World) (v' : Value) (m : Nat), Keeps No w w1 → w2.ownsRow (b + 1) 34 3 v' (ps.length + m) (pkCells ps ++ pkCells (l.take m)) → m = min l.length (4096 - ps.length) → Keeps (Of (.slice va ps.length vc)) w1.drew w2 →
      (∀ k, v'.ownBlock = some k → (Value.slice va ps.length vc).ownBlock = some k ∨ w1.drew.heap.size ≤ k) → Turned w (w2.setCell ⟨b, 1, none⟩ v') b N (.slice va ps.length vc) (ps ++ l.take (4096 - ps.length)) := by
    intro w1 w2 v' m hk ho hm hk2 hb'
    have hne : (Value.slice va ps.length vc).ownBlock ≠ some b := fun hc => by have := (h.own.lt b hc).1; omega
    have h2 := hk2.heap (k := b) (hk.drew.heap h.head (fun h => h)) hne
    have em : l.take (4096 - ps.length) = l.take m := by
      rw [hm]
      by_cases hle : l.length ≤ 4096 - ps.length
      · rw [Nat.min_eq_left hle, List.take_length, List.take_of_length_le hle]
      · rw [Nat.min_eq_right (by omega)]
    have el : (ps ++ l.take m).length = ps.length + m := by rw [List.length_append, List.length_take, hm]; omega
    refine ⟨⟨v', ?_, fun k hk' => ?_⟩, ?_⟩
    · rw [em]
      exact NetAt.stored h2 v' _ (by unfold PkOwn; rw [el, pkCells_append]; exact ho)
    · rcases hb' k hk' with h' | h'
      · exact .inl h'
      · exact .inr (Nat.le_trans hk.size (by simpa using h'))
    · exact (((hk.drew.mono (T := NetF b (.slice va ps.length vc)) (fun _ _ h => h.elim)).trans hk2 (fun i _ h => .inr h)).setCell (p := ⟨b, 1, none⟩) (fun _ => .inl rfl) _)
  have Key := Lib.hid key; clear key
  have Hne : Hid ((Value.slice va ps.length vc).ownBlock ≠ some b) := fun hc => by have := (h.own.lt b hc).1; omega
  by_cases hle : (l.length : Int) ≤ 4096 - ps.length
  · have hr1 : ((l.length : Nat) : Int) ≤ (c : Int) := by omega
    have hr0 : (0 : Int) ≤ l.length := by omega
    have hfin : Hid ((l.length : Int) - min (l.length : Int) (4096 - ps.length) = 0) := by show _ = _; omega
    go_enter Try.func11, Try.ntmps11
    go_wp2_with fail
    refine hcont.mono ?_
    rintro e w1 ⟨rfl, hk⟩
    rw [hidx]
    have h1 := h.kept hk (fun h => h) (fun _ _ h => h)
    have k1 := h1.c1
    have f1 := h1.f1
    have hx1 : Reads w1.drew 3 (.slice a l.length c) l.length (pkCells (l.take l.length)) := by rw [List.take_length]; exact hx.kept hk.drew (fun _ _ h => h)
    have hb1 : b < w1.drew.heap.size := Nat.lt_of_lt_of_le hbl hk.size
    go_wp2
    go_region_law (refine step_append_reads rfl (.tmp 28) (.tmp 31) 28 rfl (b + 1) 34 i0 _ 3 32 Try.underlying28 hi hz0 hz1 hz2 rfl (by decide) _ ps.length (pkCells ps) rfl (h1.kept (Keeps.refl (S := No) w1).drew (fun h => h) (fun _ _ h => h)).own _ _ _ rfl hx1 (by unfold maxLen; omega) (by omega) hb1 ?_
                   intro v' w2 ho2 hk2 hb2 _
                   obtain ⟨a', c', rfl⟩ := ownsRow_slice ho2
                   have hT := Key.out w1 w2 _ l.length hk ho2 (by omega) hk2 hb2
                   have h2 := hk2.heap (k := b) (hk.drew.heap h.head (fun h => h)) Hne.out
                   have k2 : w2.cell? ⟨b, 1, none⟩ = some (.slice va ps.length vc) := by rw [cell_of_row w2 b 1 _ _ _ h2]; rfl
                   have f2 := frozen_of_row w2 b 1 _ _ h2
                   clear h2)
    go_wp2
    go_ret2
    exact ⟨by rw [hfin.out]; rfl, hT⟩
  · obtain ⟨R, hR⟩ : ∃ R : Nat, 4096 - (ps.length : Int) = (R : Int) := ⟨4096 - ps.length, by omega⟩
    have hr1 : (R : Int) ≤ (c : Int) := by omega
    have hr0 : (0 : Int) ≤ (R : Int) := by omega
    have hRl : R ≤ l.length := by omega
    have hR2 : Hid (4096 - ps.length = R) := by show _ = _; omega
    have hRp : ps.length + R ≤ 4096 := by omega
    have hRm : R = min l.length (4096 - ps.length) := by omega
    have HR := Lib.hid hR; clear hR
    have HRm := Lib.hid hRm; clear hRm
    have hfin : Hid ((l.length : Int) - min (l.length : Int) (4096 - ps.length) = (l.length : Int) - (R : Int)) := by show _ = _; have := HR.out; omega
    go_enter Try.func11, Try.ntmps11
    go_wp2_with fail
    refine hcont.mono ?_
    rintro e w1 ⟨rfl, hk⟩
    rw [hidx]
    have h1 := h.kept hk (fun h => h) (fun _ _ h => h)
    have k1 := h1.c1
    have f1 := h1.f1
    have hx1 : Reads w1.drew 3 (.slice a R c) R (pkCells (l.take R)) := by
      have := (hx.kept hk.drew (fun _ _ h => h)).take (m := R) hRl
      rwa [pkCells_take] at this
    have hb1 : b < w1.drew.heap.size := Nat.lt_of_lt_of_le hbl hk.size
    go_wp2
    rw [HR.out]
    go_region_law (refine step_append_reads rfl (.tmp 28) (.tmp 31) 28 rfl (b + 1) 34 i0 _ 3 32 Try.underlying28 hi hz0 hz1 hz2 rfl (by decide) _ ps.length (pkCells ps) rfl (h1.kept (Keeps.refl (S := No) w1).drew (fun h => h) (fun _ _ h => h)).own _ _ _ rfl hx1 (by unfold maxLen; omega) (by omega) hb1 ?_
                   intro v' w2 ho2 hk2 hb2 _
                   obtain ⟨a', c', rfl⟩ := ownsRow_slice ho2
                   have hT := Key.out w1 w2 _ R hk ho2 HRm.out hk2 hb2
                   have h2 := hk2.heap (k := b) (hk.drew.heap h.head (fun h => h)) Hne.out
                   have k2 : w2.cell? ⟨b, 1, none⟩ = some (.slice va ps.length vc) := by rw [cell_of_row w2 b 1 _ _ _ h2]; rfl
                   have f2 := frozen_of_row w2 b 1 _ _ h2
                   clear h2)
    go_wp2
    go_ret2
    exact ⟨by rw [hfin.out]; rfl, hT⟩
end Go.Proofs.Ytneikamjlbfglaa
