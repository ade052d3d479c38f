/-
  slices.Clone, SortStableFunc, parts.Sorted over entities that are sorted, parts.Has. No conditions of their own.
-/
import Derived.Test.YtcjeocibnfoenaaGreatTiE
import Derived.Lib.SmallJoins
namespace Go.Proofs.YtcjeocibnfoenaaGreat
open Go.RowKit Go.Joins Go.Deep Go.Sort

theorem Tryz.infoBd : (Tryz.prog.info? 38).map (fun i => (i.zero, i.size, i.bytes)) = some (some (.agg (bdC Bd.zero).toArray), 11, 88) := by kernel_rfl
/-- a row of the call's own that holds l -/
abbrev OwnOf {α : Type} (C : Codec α) (e : TypeId) (w : World) (base : Nat) (v : Value) (l : List α) : Prop := w.ownsRow base e C.size v l.length (rowsOf C l)
theorem OwnOf.reads {α : Type} {C : Codec α} {e : TypeId} {w : World} {base : Nat} {v : Value} {l : List α} (h : OwnOf C e w base v l) : RdOf C w v l := Reads.ofOwn h (rowsOf_ones C l)
theorem RdOf.slice {α : Type} {C : Codec α} {w : World} {v : Value} {l : List α} (h : RdOf C w v l) : ∃ a c, v = .slice a l.length c := Reads.slice h

set_option maxRecDepth 100000 in
set_option maxHeartbeats 1000000 in
theorem cloneBd (w : World) (v : Value) (l : List Bd) (hr : RdOf cBd w v l) (hl : l.length ≤ 1000000) :
    Calls Tryz.prog 49 #[v] w fun e w' => ∃ v', e = .returned v' ∧ OwnOf cBd 38 w' w.heap.size v' l ∧ Keeps No w w' := by
  obtain ⟨i0, hi, hz0, hz1, hz2⟩ := info_parts Tryz.infoBd
  rcases hr.shape with ⟨rfl, hn⟩ | ⟨a, c, rfl, hc, hcm, hcell⟩
  · have hnil : l = [] := List.eq_nil_of_length_eq_zero hn
    subst hnil
    go_enter Tryz.func49, Tryz.ntmps49
    have hnil : ∀ w, (binOp .eql 27 (.slice none 0 0) (.slice none 0 0)).run Tryz.prog w = .ok (.bool true) w := fun w => by kernel_rfl
    go_wp2
    go_ret
    exact ⟨_, rfl, World.ownsRow_nil _ _ _ _, Keeps.refl _⟩
  · clear hcell
    have hnn : ∀ w, (binOp .eql 27 (.slice (some a) l.length c) (.slice none 0 0)).run Tryz.prog w = .ok (.bool false) w := fun w => Lib.run_eql_slice_nil w _ 38 _ _ _ _ _ Tryz.underlying27
    have hr' : Reads (w.alloc (.cells #[] 38)) 11 (.slice (some a) l.length c) l.length (rowsOf cBd l) := hr.kept ((Keeps.refl (S := No) w).alloc _) (fun _ _ h => h)
    have hlit : (w.alloc (.cells #[] 38)).ownsRow w.heap.size 38 11 (.slice (some ⟨w.heap.size, 0, none⟩) 0 0) 0 [] := World.ownsRow_lit w #[] 0 (Nat.le_refl _) (Nat.zero_le _) rfl
    have Hl := Lib.hid hl; clear hl
    go_enter Tryz.func49, Tryz.ntmps49
    go_wp2_with (at_builtin; refine wpList_append_reads rfl (.tmp 5) (.tmp 6) 27 rfl w.heap.size 38 i0 _ 11 88 Tryz.underlying27 hi hz0 hz1 hz2 rfl (by decide) _ 0 [] rfl hlit _ _ _ rfl hr' ?c1 ?c2 ?c3 ?c4)
    case c1 => have := Hl.out; unfold maxLen; omega
    case c2 => have := Hl.out; omega
    case c3 => simp
    case c4 =>
      intro v' w1 hown hk _ _
      go_wp2
      go_ret
      refine ⟨_, rfl, hown, ((Keeps.refl (S := No) w).alloc _).trans hk (fun i hi h => ?_)⟩
      simp [Of, Value.ownBlock] at h
      omega

set_option maxRecDepth 100000 in
theorem sortStable_any {w : World} {a : Option Addr} {c : Nat} {l : List Bd} (hR : RdOf cBd w (.slice a l.length c) l) (hs : SortedB l) (hl : l.length ≤ 1000000) :
    Calls Tryz.prog 50 #[.slice a l.length c, cmpF] w fun e w' => e = .returned (.tuple #[]) ∧ Grown w w' := by
  have HS : Hid (Calls Tryz.prog 83 #[.slice a l.length c, .int .i64 l.length, cmpF] w fun e w' => e = .returned (.tuple #[]) ∧ Grown w w') := Lib.hid (by
    by_cases h0 : l.length = 0
    · rw [h0]; exact stableEmpty_any _
    · obtain ⟨b, off, rfl, _⟩ := RdOf.addr cBd hR (by omega)
      exact stableSorted_any hR hs (by omega))
  clear hR hs hl
  go_enter Tryz.func50, Tryz.ntmps50
  go_wp2_with fail
  refine HS.out.mono ?_
  rintro e w1 ⟨rfl, hg⟩
  have G1 := Lib.hid hg
  clear hg
  go_wp2
  exact bodyPost_end (results_none rfl _ _ _) rfl ⟨rfl, G1.out⟩

set_option maxRecDepth 100000 in
/-- sorted ones, sorted: a copy -/
theorem sorted_any {w : World} {v : Value} {l : List Bd} (hR : RdOf cBd w v l) (hs : SortedB l) (hl : l.length ≤ 1000000) :
    Calls Tryz.prog 22 #[v] w fun e w' => ∃ v', e = .returned v' ∧ OwnOf cBd 38 w' w.heap.size v' l ∧ Keeps No w w' := by
  have HR := Lib.hid hR
  have HS := Lib.hid hs
  have HL := Lib.hid hl
  obtain ⟨va, vc, rfl⟩ := hR.slice
  clear hR hs hl
  go_enter Tryz.func22, Tryz.ntmps22
  go_wp2_with fail
  refine (cloneBd w _ l HR.out HL.out).mono ?_
  rintro e w1 ⟨v1, rfl, ho, hk⟩
  obtain ⟨a1, c1, rfl⟩ := ownsRow_slice ho
  have O1 := Lib.hid ho
  have K1 := Lib.hid hk
  clear ho hk
  go_wp2_with fail
  refine (sortStable_any (OwnOf.reads O1.out) HS.out HL.out).mono ?_
  rintro e w2 ⟨rfl, hg⟩
  have O2 : Hid (OwnOf cBd 38 w2 w.heap.size (.slice a1 l.length c1) l) := Lib.hid (hg.keeps.owns O1.out (fun _ _ h => h))
  have K2 := Lib.hid (K1.out.trans hg.keeps (fun _ _ h => h))
  clear hg
  go_wp2
  go_ret
  exact ⟨_, rfl, O2.out, K2.out⟩

set_option maxRecDepth 100000 in
theorem hasG_any (w : World) (b : Bd) (c : Int) (h : bits .and .i64 b.m c = (bif hasB b.m c then c else 0)) (h0 : ¬ c = 0) : Calls Tryz.prog 52 #[bdV b, .int .i64 c] w fun e w' => e = .returned (.bool (hasB b.m c)) ∧ Grown w w' := by
  cases hb : hasB b.m c with
  | true =>
    rw [hb, cond_true] at h
    clear hb
    go_enter Tryz.func52, Tryz.ntmps52
    go_wp2
    go_ret
    exact ⟨by simp, (Grown.same w).alloc _⟩
  | false =>
    rw [hb, cond_false] at h
    have h1 : ((0 : Int) == c) = false := by rw [beq_eq_false_iff_ne]; omega
    clear hb
    go_enter Tryz.func52, Tryz.ntmps52
    go_wp2
    go_ret
    exact ⟨by simp, (Grown.same w).alloc _⟩
theorem has1 (w : World) (b : Bd) : Calls Tryz.prog 52 #[bdV b, .int .i64 1] w fun e w' => e = .returned (.bool (hasB b.m 1)) ∧ Grown w w' := hasG_any w b 1 (has_spelled b.m).1 (by decide)
theorem has2 (w : World) (b : Bd) : Calls Tryz.prog 52 #[bdV b, .int .i64 2] w fun e w' => e = .returned (.bool (hasB b.m 2)) ∧ Grown w w' := hasG_any w b 2 (has_spelled b.m).2.1 (by decide)
theorem has4 (w : World) (b : Bd) : Calls Tryz.prog 52 #[bdV b, .int .i64 4] w fun e w' => e = .returned (.bool (hasB b.m 4)) ∧ Grown w w' := hasG_any w b 4 (has_spelled b.m).2.2.1 (by decide)
theorem has8 (w : World) (b : Bd) : Calls Tryz.prog 52 #[bdV b, .int .i64 8] w fun e w' => e = .returned (.bool (hasB b.m 8)) ∧ Grown w w' := hasG_any w b 8 (has_spelled b.m).2.2.2.1 (by decide)
theorem has16 (w : World) (b : Bd) : Calls Tryz.prog 52 #[bdV b, .int .i64 16] w fun e w' => e = .returned (.bool (hasB b.m 16)) ∧ Grown w w' := hasG_any w b 16 (has_spelled b.m).2.2.2.2 (by decide)
end Go.Proofs.YtcjeocibnfoenaaGreat
