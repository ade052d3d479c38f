/-
  disk.Files. No conditions of its own.
-/
import Derived.Test.YtndjnkjcfdaegaaGreatDoorZh02
import Derived.Test.YtndjnkjcfdaegaaGreatDoorZh13
import Derived.Sort.KeysCollected
import Derived.Sort.OwnSorted
set_option linter.all false
namespace Go.Proofs.YtndjnkjcfdaegaaGreatDoor
open Go.RowKit Go.Shelf Go.Sort Go.Maps

theorem Tryz.infoStr : (Tryz.prog.info? 9).map (fun i => (i.zero, i.size, i.bytes)) = some (some (.string ⟨#[]⟩), 1, 16) := by kernel_rfl

/-- the names of all files, in order -/
def namesOf (fs : Fs) : List Nm := fs.map (·.1)
theorem before_lt : ∀ (a b : List UInt8), bytesBefore a b = true → a < b
  | [], [], h => by cases h
  | [], _ :: _, _ => List.nil_lt_cons _ _
  | _ :: _, [], h => by cases h
  | a :: r, b :: s, h => by
    unfold bytesBefore at h
    simp only [Bool.or_eq_true, Bool.and_eq_true, decide_eq_true_eq, beq_iff_eq] at h
    rcases h with h | ⟨rfl, h⟩
    · exact List.cons_lt_cons_iff.2 (.inl h)
    · exact List.cons_lt_cons_iff.2 (.inr ⟨rfl, before_lt r s h⟩)
theorem names_sorted {fs : Fs} (h : Rising fs) : (namesOf fs).mergeSort leB = namesOf fs := by
  refine List.mergeSort_of_pairwise ?_
  unfold namesOf
  rw [List.pairwise_map]
  refine List.Pairwise.imp (fun {p q} hb => ?_) h
  simp only [leB, decide_eq_true_eq]
  exact List.le_of_lt (before_lt _ _ hb)
theorem strKeys_dOf (fs : Fs) : strKeys (dOf fs) = namesOf fs := by
  unfold dOf namesOf
  show (fs.map _).map _ = _
  rw [List.map_map]
  rfl

section
variable {w : World} {p b : Nat} {fs : Fs} {room : Int} {dead : Bool}

/-- a slice of strings of the call's own -/
abbrev OwnStr (w : World) (base : Nat) (v : Value) (n : Nat) (l : List Nm) : Prop := w.ownsRow base 9 1 v n (l.map encStr)

set_option maxRecDepth 100000 in
set_option maxHeartbeats 2000000 in
theorem files_any (hd : DiskAt w p b fs room dead) : Calls Tryz.prog 30 #[dP p] w fun e w' => ∃ v, e = .returned v ∧ OwnStr w' w.heap.size v fs.length (namesOf fs) ∧ Keeps No w w' := by
  obtain ⟨i0, hi, hz0, hz1, hz2⟩ := info_parts Tryz.infoStr
  have hown := hd.own
  have hlt := hd.lt
  have c0 := hd.cell0
  have hbl := hown.lt
  have hfew := hd.few
  have Hris := Lib.hid hd.rising
  have hsz : Maps.size (dOf fs) = fs.length := dOf_size fs
  go_enter Tryz.func30, Tryz.ntmps30
  go_wp2_with (at_range; refine wpList_range_own _ rfl _ 54 rfl 9 85 Tryz.keyed Tryz.underlying54 _ b _ _ rfl hown ?_; intro w0 hrg0 hg0 hs0)
  go_frame
  go_loopw [3] (fun v wr => ∃ (left : Lit → Bool) (cnt : Nat) (ss : List Nm), wr.ranges Tryz.prog 9 fileElem b w.heap.size fs.length (dOf fs) left cnt ∧ ss.length + cnt ≤ fs.length ∧
      wr.ownsRow w.heap.size 9 1 v ss.length (ss.map encStr) ∧ Collected (dOf fs) left ss ∧ Keeps No w wr)
    (fun _ wr => wr.rangeLeft b w.heap.size)
  case atStart => exact ⟨_, _, [], hrg0, by rw [hsz]; simp, World.ownsRow_nil _ _ _ _, Collected.start _, (Keeps.refl (S := No) w).grown hg0 (fun k hk _ => by cases hk)⟩
  case round =>
    obtain ⟨left, cnt, ss, hrg, hcs, hrow, hC, hK⟩ := hrel
    go_wp2_with (at_next; refine wpList_next_ranges _ rfl _ rfl 9 Tryz.keyed fileElem encStr (fun x : ByteArray × Int => .agg #[.string x.1, .int .i64 x.2]) (fun key kl hk => by obtain ⟨x, hx, _⟩ := Maps.keyOf_str Tryz.underlying9 hk; exact ⟨x, hx⟩) (fun v y hv => by obtain ⟨s, n, rfl, _⟩ := fileElem_shape hv; exact ⟨(s, n), rfl⟩) b w.heap.size _ _ _ _ rfl hrg ?_ ?_)
    · intro hc0 hl0
      have hperm := hC.perm hrg.owns Tryz.keyed Tryz.underlying9 hl0
      rw [strKeys_dOf] at hperm
      have hss : ss.length = fs.length := by have := hperm.length_eq; simpa [namesOf] using this
      have hsort : ss.mergeSort leB = namesOf fs := (mergeSort_of_perm hperm).trans (names_sorted Hris.out)
      rcases hrow.2 with ⟨rfl, h0⟩ | ⟨g, cap, cur, rfl, hbase, hb, h1, h2, h3, h4⟩
      · have hc := sort_none 0 wr
        have hz : fs.length = 0 := by omega
        clear hperm hsort hss
        go_wp2_with (go_at_call 73; refine hc.mono ?_; rintro e w' ⟨rfl, rfl⟩)
        go_ret
        refine ⟨_, rfl, ?_, hK⟩
        have : fs = [] := List.eq_nil_of_length_eq_zero hz
        subst this
        exact World.ownsRow_nil _ _ _ _
      · have hc := sort_some g cap ss wr (holds_of_block hb (by simpa using h4)) (Array.getElem?_eq_some_iff.1 hb).1 (by omega)
        have Hss := Lib.hid hss
        have Hsort := Lib.hid hsort
        clear hperm hsort hss
        go_wp2_with (go_at_call 73; refine hc.mono ?_; rintro e w' ⟨rfl, nn, os, rfl⟩)
        go_ret
        refine ⟨_, rfl, ?_, hK.grown (grownBy_sorted _) (fun k hk hlt => by cases hk; exact absurd hlt (Nat.not_lt.2 hbase))⟩
        have h := ownsRow_sorted (n := nn) (os := os) (ts := ss.mergeSort leB) (by simp) hbase hb h1 h2 h3
        rw [Hsort.out] at h
        rw [← Hss.out]
        have e : (ss.mergeSort fun x y => decide (x ≤ y)) = namesOf fs := Hsort.out
        rw [e]
        exact h
    · intro x cs cn kl yd yp w2 cnt2 hkey hlk hv hat hrg2 hlt2 hg2 hs2 hen
      obtain ⟨x', ex, rfl, _⟩ := Maps.keyOf_str Tryz.underlying9 hkey
      obtain rfl : x = x' := encStr_inj ex
      have hrow2 := hrow.kept hg2 (Or.inr (row_ne_iter hrow hrg).symm)
      have K2 : Hid (Keeps No w w2) := hK.grown hg2 (fun k hk hlt => by cases hk; exact absurd hlt (Nat.lt_irrefl _))
      have S2 : Hid (w2.heap.size = wr.heap.size) := hs2
      have hsw := hK.size
      clear hs2
      go_wp2_with (at_builtin; refine wpList_append_own _ rfl _ _ 61 rfl w.heap.size 9 i0 (.string ⟨#[]⟩) 1 16 Tryz.underlying61 hi hz0 hz1 hz2 rfl (by decide) _ _ _ rfl (hrow2.alloc _) ⟨w2.heap.size, 0, none⟩ 1 1 [encStr x] rfl rfl (cell_one_new _ _ _) (by simp [Value.oneCell', encStr]) (by unfold maxLen; omega) (by omega) (by have := S2.out; simp; omega) ?_; intro v' w3 hown' hg3 hnil3; go_frame)
      have hrg3 := (hrg2.alloc _).kept hg3 (row_ne_low hrow2 hbl) (row_ne_iter hrow2 hrg2)
      go_roundw
      case rel =>
        refine ⟨_, cnt2, ss ++ [x], hrg3, by simp; omega, by simpa using hown', hC.step hlk hat, ?_⟩
        exact (K2.out.alloc _).grown hg3 (fun k hk hlt => absurd hlt (Nat.not_lt.2 (hrow2.lt k hk).1))
      case measure => rw [hrg3.left_eq, hrg.left_eq]; exact hlt2
end
end Go.Proofs.YtndjnkjcfdaegaaGreatDoor
