/-
  Whatever the number: NetRoom returns true, and its argument reads behind the call as it read before. No conditions.
-/
import Derived.Test.YtneikamjlbfglaaNetM
import Derived.Deep.DeepCutAuto
namespace Go.Proofs.Ytneikamjlbfglaa.netRoom
open Go.ChangeShapes Go.WideShapes Go.ChangeAt Go.RowKit

def pk0 : Pk := ⟨0, 0, ByteArray.empty⟩
def pk1 : Pk := ⟨0, 1, ByteArray.empty⟩
/-- so many of a packet -/
def so (n : Nat) (p : Pk) : List Pk := List.replicate n p
theorem so_length (n : Nat) (p : Pk) : (so n p).length = n := List.length_replicate
theorem so_at (n : Nat) (p : Pk) (k : Nat) (h : k < (so n p).length) : (so n p)[k] = p := List.getElem_replicate h

theorem made_pk (n : Nat) : (madeCells (Value.agg #[.int .i64 0, .int .i64 0, .string ByteArray.empty]).cells (n * 3)).toList = pkCells (so n pk0) := by
  apply List.ext_getElem?
  intro j
  by_cases hj : j < n * 3
  · have hi : j / 3 < (so n pk0).length := by rw [so_length]; omega
    obtain ⟨e0, e1, e2⟩ := pkCells_at (so n pk0) (j / 3) hi
    have hr : j = j / 3 * 3 + j % 3 := by omega
    have hl : (madeCells (Value.agg #[.int .i64 0, .int .i64 0, .string ByteArray.empty]).cells (n * 3)).toList[j]? = some (#[Value.int .i64 0, .int .i64 0, .string ByteArray.empty][j % 3]!) := by
      simp [madeCells, Value.cells, hj]
    rw [hl]
    have hcase : j % 3 = 0 ∨ j % 3 = 1 ∨ j % 3 = 2 := by omega
    have hs := so_at n pk0 (j / 3) hi
    rw [hs] at e0 e1 e2
    rcases hcase with h | h | h
    · rw [h]; rw [h] at hr; rw [hr, Nat.add_zero, e0]; rfl
    · rw [h]; rw [h] at hr; rw [hr, e1]; rfl
    · rw [h]; rw [h] at hr; rw [hr, e2]; rfl
  · rw [List.getElem?_eq_none (by rw [Array.length_toList, size_madeCells]; omega), List.getElem?_eq_none (by rw [pkCells_length, so_length]; omega)]

/-- the first k have To 1 -/
def half (n k : Nat) : List Pk := so k pk1 ++ so (n - k) pk0
theorem half_length (n k : Nat) (h : k ≤ n) : (half n k).length = n := by
  unfold half; rw [List.length_append, so_length, so_length]; omega
theorem half_zero (n : Nat) : half n 0 = so n pk0 := by unfold half so; simp
theorem half_all (n : Nat) : half n n = so n pk1 := by unfold half so; simp
theorem half_at (n k : Nat) (h : k < n) (h' : k < (half n k).length) : (half n k)[k] = pk0 := by
  have e : (half n k)[k]? = some pk0 := by
    unfold half
    rw [List.getElem?_append_right (by rw [so_length]; omega), so_length, Nat.sub_self]
    unfold so
    rw [List.getElem?_replicate, if_pos (by omega)]
  rw [List.getElem?_eq_getElem h'] at e
  exact Option.some.inj e
theorem half_set (n k : Nat) (h : k < n) : (half n k).set k pk1 = half n (k + 1) := by
  unfold half
  rw [List.set_append_right _ _ (by rw [so_length]; omega), so_length, Nat.sub_self]
  have e : so (n - k) pk0 = pk0 :: so (n - (k + 1)) pk0 := by
    unfold so
    rw [show n - k = (n - (k + 1)) + 1 by omega, List.replicate_succ]
  rw [e, List.set_cons_zero]
  have e2 : so (k + 1) pk1 = so k pk1 ++ [pk1] := by unfold so; rw [List.replicate_succ']
  rw [e2, List.append_assoc]; rfl

theorem half_next (n k : Nat) (h : k < n) : (pkCells (half n k)).set (k * 3 + 1) (.int .i64 1) = pkCells (half n (k + 1)) := by
  have hl : k < (half n k).length := by rw [half_length n k (by omega)]; exact h
  rw [pkCells_setT _ _ hl, half_at n k h hl, ← half_set n k h]
  rfl
theorem half_cell (n k : Nat) (h : k < n) : (pkCells (half n k))[k * 3 + 1]? = some (.int .i64 0) := by
  have hl : k < (half n k).length := by rw [half_length n k (by omega)]; exact h
  rw [(pkCells_at _ k hl).2.1, half_at n k h hl]
  rfl
theorem place20 (a : Int) : ∃ k : Nat, (wrap64 (a.tmod 20 + 20)).tmod 20 = k ∧ k ≤ 19 := by
  have h1 : a.tmod 20 < 20 := Int.tmod_lt_of_pos _ (by omega)
  have h2 : -20 < a.tmod 20 := Int.lt_tmod_of_pos _ (by omega)
  generalize a.tmod 20 = t at *
  have e1 : wrap64 (t + 20) = t + 20 := IntWalk.wrap64_in _ ⟨by omega, by omega⟩
  rw [e1, Int.tmod_eq_emod_of_nonneg (by omega)]
  refine ⟨((t + 20) % 20).toNat, ?_, ?_⟩
  · rw [Int.toNat_of_nonneg (Int.emod_nonneg _ (by omega))]
  · omega
theorem filter_so (n : Nat) : (so n pk1).filter (fun p => !(p.t == 1)) = [] := by
  unfold so
  rw [List.filter_replicate]
  rfl
theorem any_so (n : Nat) : (so n pk1).any (wrongB 2) = false := by
  rw [List.any_eq_false]
  intro x hx
  rw [(List.mem_replicate.1 hx).2]
  simp [wrongB, nd, pk1]
theorem so_append (n m : Nat) (p : Pk) : so n p ++ so m p = so (n + m) p := by unfold so; rw [List.replicate_append_replicate]
theorem so_take (n m : Nat) (p : Pk) : (so n p).take m = so (min m n) p := by unfold so; rw [List.take_replicate]

theorem so_reads {w : World} {v : Value} {m : Nat} (h : Reads w 3 v m (pkCells (so m pk1))) : PkReads w v (so m pk1) := by
  unfold PkReads
  rw [so_length]
  exact h
theorem send_so {w0 w : World} {L : List Thing} {b : Nat} (hm : Mem w0 w L) (i a : Nat) (hL : L[i]? = some (NetT b 2 (so a pk1))) (ha : a ≤ 4096) (x : Value) (m : Nat) (hx : Reads w 3 x m (pkCells (so m pk1))) (q : Int) (c : Nat) (hq : (m : Int) - min (m : Int) (4096 - a) = q) (hc : a + min (4096 - a) m = c) :
    Calls Try.prog 11 #[.pointer (some ⟨b, 0, none⟩), x] w fun e w' => e = .returned (.tuple #[.int .i64 q, .int .i64 0]) ∧ Mem w0 w' (L.set i (NetT b 2 (so c pk1))) := by
  have h := send_m hm i hL (by rw [so_length]; exact ha) x (so m pk1) (so_reads hx) (any_so m)
  rw [so_length, so_length, so_take, so_append, hq, hc] at h
  exact h.mono fun _ _ ⟨he, h1, _⟩ => ⟨he, h1⟩
theorem lose_so {w0 w : World} {L : List Thing} {b : Nat} (hm : Mem w0 w L) (i a : Nat) (hL : L[i]? = some (NetT b 2 (so a pk1))) (ha : a ≤ 4096) (c : Nat) (w1 : World) (hw1 : w.alloc (.cells #[.int .i64 1] 3) = w1) (hc : w.heap.size = c) :
    Calls Try.prog 14 #[.pointer (some ⟨b, 0, none⟩), .func (.func 30) #[] #[.pointer (some ⟨c, 0, none⟩)]] w1 fun e w' => e = .returned (.int .i64 a) ∧ Mem w0 w' (L.set i (NetT b 2 [])) := by
  have h := lose_m hm i hL (by rw [so_length]; exact ha) 1 c w1 hw1 hc
  rw [filter_so, so_length] at h
  simpa using h
theorem double_so {w0 w : World} {L : List Thing} {b : Nat} (hm : Mem w0 w L) (i a : Nat) (hL : L[i]? = some (NetT b 2 (so a pk1))) (h0 : 0 < a) (ha : a ≤ 4095) :
    Calls Try.prog 13 #[.pointer (some ⟨b, 0, none⟩), .int .i64 0] w fun e w' => e = .returned (.int .i64 0) ∧ Mem w0 w' (L.set i (NetT b 2 (so (a + 1) pk1))) := by
  have h := double_m hm i hL 0 (by rw [so_length]; exact h0) (by rw [so_length]; omega)
  rw [so_at] at h
  have e : so a pk1 ++ [pk1] = so (a + 1) pk1 := so_append a 1 pk1
  rw [e] at h
  exact h
theorem full_so {w0 w : World} {L : List Thing} {b : Nat} (hm : Mem w0 w L) (i a : Nat) (hL : L[i]? = some (NetT b 2 (so a pk1))) (ha : 4096 ≤ a) :
    Calls Try.prog 13 #[.pointer (some ⟨b, 0, none⟩), .int .i64 0] w fun e w' => e = .returned (.int .i64 8) ∧ w = w' := by
  refine double_m_full hm i hL 0 ?_ (by rw [so_length]; omega)
  rw [so_length, nd, decide_eq_true (by omega), decide_eq_true (by omega)]
  rfl
theorem len_so {w0 w : World} {L : List Thing} {b : Nat} (hm : Mem w0 w L) (i a : Nat) (hL : L[i]? = some (NetT b 2 (so a pk1))) (z : Int) (hz : (a : Int) = z) : Calls Try.prog 16 #[.pointer (some ⟨b, 0, none⟩)] w fun e w' => e = .returned (.int .i64 z) ∧ w = w' := by
  have h := len_m hm i hL
  rw [so_length, hz] at h
  exact h

set_option maxRecDepth 100000 in
set_option maxHeartbeats 2000000 in
theorem walk_ge (more : Int) (w : World) (hat : (Lit.int .i64 more).wf = true) (m : Nat) (hmm : (wrap64 (more.tmod 20 + 20)).tmod 20 = m) (hm19 : m ≤ 19) (h10 : 10 ≤ m) : Calls Try.prog 6 #[.int .i64 more] w fun e w' => e = .returned (.bool true) ∧ Keeps No w w' := by
  obtain ⟨i0, hi, hz0, hz1, hz2⟩ := info_parts Try.infoPk
  have H10 := Lib.hid h10; have H19 := Lib.hid hm19; clear h10 hm19
  have hbd : -9223372036854775808 ≤ more ∧ more ≤ 9223372036854775807 := by simpa [Lit.wf, IntKind.min, IntKind.max, IntKind.signed, IntKind.bits] using hat
  obtain ⟨hb1, hb2⟩ := hbd
  obtain ⟨n, hn⟩ : ∃ n : Nat, n = 4086 := ⟨_, rfl⟩
  have Hn := Lib.hid hn; clear hn
  go_enter Try.func6, Try.ntmps6
  go_wp2_with fail
  refine (new_m (w0 := w) 2 (by omega) (by omega) (Mem.start w)).mono ?_
  rintro e w1 ⟨b, rfl, hm1⟩
  have hm : Mem w w1 [NetT b 2 []] := hm1
  clear hm1
  go_wp2_with (at_make; refine wpList_make_full _ rfl _ _ 28 rfl 0 34 i0 _ 3 Try.underlying28 hi hz0 hz1 .i64 .i64 4086 4086 n rfl rfl ?c1 ?c2 ?c3 ?c4 (Nat.zero_le _) ?c5)
  case c1 => rw [Hn.out]; rfl
  case c2 => rw [Hn.out]; rfl
  case c3 => rw [Hn.out, hz2]; decide
  case c4 => rw [Hn.out]; decide
  case c5 =>
    intro w2 hown hg
    have hs : Step No w1 w2 (RowT 34 3 (.slice (some ⟨w1.heap.size, 0, none⟩) n n) n (pkCells (half n 0))) := by
      rw [half_zero, ← made_pk]
      exact ⟨_, ⟨hown, rfl⟩, (Keeps.refl _).grown hg (fun k hk => by cases hk), fun k hk => .inr (by simp [Of, Value.ownBlock] at hk; omega)⟩
    have hm2 : Mem w w2 [NetT b 2 [], RowT 34 3 (.slice (some ⟨w1.heap.size, 0, none⟩) n n) n (pkCells (half n 0))] := hm.push (rowT_lies _ _ _ _ _) hs
    clear hs hown hg
    clear hmm hat hb1 hb2
    obtain ⟨g, hg⟩ : ∃ g, g = w1.heap.size := ⟨_, rfl⟩
    rw [← hg] at hm2 ⊢
    clear hg hm
    have hN : n ≤ 4096 := by rw [Hn.out]; decide
    have HN := Lib.hid hN
    have hN2 : (n : Int) ≤ 4096 := by omega
    clear hN
    go_wp2
    go_loopw [6] (fun i wr => ∃ k : Nat, k ≤ n ∧ i = .int .i64 k ∧ Mem w wr [NetT b 2 [], RowT 34 3 (.slice (some ⟨g, 0, none⟩) n n) n (pkCells (half n k))]) (fun i _ => n - (intOf i).toNat)
    case atStart => exact ⟨0, Nat.zero_le _, rfl, hm2⟩
    case round =>
      obtain ⟨k, hk, rfl, hmr⟩ := hrel
      by_cases hlt : k < n
      · obtain ⟨hc, hf⟩ := hmr.cellAt 1 rfl (k * 3 + 1) (by omega)
        rw [half_cell n k hlt] at hc
        have hm3 := hmr.stored 1 rfl (k * 3 + 1) (.int .i64 1)
        rw [half_next n k hlt] at hm3
        have Hm3 := Lib.hid hm3; clear hm3
        go_wp2
        go_roundw
        case rel => exact ⟨k + 1, by omega, by go_num, Hm3.out⟩
        case measure => simp [intOf]; omega
      · obtain rfl : k = n := by omega
        rw [half_all] at hmr
        obtain ⟨F, hF, hFe⟩ : ∃ F, wr.ownsRow 0 34 3 (.slice (some ⟨g, 0, none⟩) k k) k (pkCells (so k pk1)) ∧ F = 0 := by
          obtain ⟨G, ⟨h, _⟩⟩ := hmr.see 1 rfl
          exact ⟨0, h, rfl⟩
        have hrr : Reads wr 3 (.slice (some ⟨g, 0, none⟩) k k) k (pkCells (so k pk1)) := Reads.ofOwn hF (pkCells_one' _)
        clear hF hFe
        have hn6 : Hid (k = 4086) := Hn
        have hm0 : (0 : Int) ≤ (m : Int) := by omega
        have hm1 : (m : Int) ≤ 19 := by have := H19.out; omega
        have hmk : (m : Int) ≤ (k : Int) := by have := Hn.out; have := H19.out; omega
        have hs1 : Hid ((k : Int) - min (k : Int) (4096 - (0 : Nat)) = 0) := by show _ = _; have := Hn.out; omega
        have hs2 : Hid (0 + min (4096 - 0) k = k) := by show _ = _; have := Hn.out; omega
        go_wp2_with fail
        refine (send_so hmr 0 0 rfl (by omega) _ k hrr 0 k hs1.out hs2.out).mono ?_
        rintro e w3 ⟨rfl, hm3⟩
        have hm3' : Mem w w3 [NetT b 2 (so k pk1), RowT 34 3 (.slice (some ⟨g, 0, none⟩) k k) k (pkCells (so k pk1))] := hm3
        have hrm : Reads w3 3 (.slice (some ⟨g, 0, none⟩) m k) m (pkCells (so m pk1)) := by
          obtain ⟨G, ⟨h, _⟩⟩ := hm3'.see 1 rfl
          have h2 := (Reads.ofOwn h (pkCells_one' _)).take (m := m) (by have := Hn.out; have := H19.out; omega)
          rw [pkCells_take, so_take, Nat.min_eq_left (by have := Hn.out; have := H19.out; omega)] at h2
          exact h2
        clear hm3 hmr hrr
        have hs3 : Hid ((m : Int) - min (m : Int) (4096 - (k : Nat)) = (m : Int) - 10) := by show _ = _; have := Hn.out; have := H10.out; have := H19.out; omega
        have hs4 : Hid (k + min (4096 - k) m = 4096) := by show _ = _; have := Hn.out; have := H10.out; have := H19.out; omega
        have h10' : (10 : Int) ≤ (m : Int) := by have := H10.out; omega
        go_wp2_with fail
        refine (send_so hm3' 0 k rfl (by have := Hn.out; have := H10.out; have := H19.out; omega) _ m hrm _ _ hs3.out hs4.out).mono ?_
        rintro e w4 ⟨rfl, hm4⟩
        have hm4' : Mem w w4 [NetT b 2 (so 4096 pk1), RowT 34 3 (.slice (some ⟨g, 0, none⟩) k k) k (pkCells (so k pk1))] := hm4
        have Hm4 := Lib.hid hm4'
        clear hm4 hm4' hm3' hrm
        go_wp2_with fail
        all_goals
          refine (len_so Hm4.out 0 4096 rfl 4096 rfl).mono ?_
          rintro e w5 ⟨rfl, rfl⟩
          go_wp2_with fail
          refine (full_so Hm4.out 0 4096 rfl (by omega)).mono ?_
          rintro e w5 ⟨rfl, rfl⟩
          go_wp2_with fail
          refine (len_so Hm4.out 0 4096 rfl 4096 rfl).mono ?_
          rintro e w5 ⟨rfl, rfl⟩
          go_wp2_with fail
          refine (to_any 1 _).mono ?_
          rintro e w6 ⟨rfl, hw6⟩
          go_wp2_with fail
          refine (lose_so Hm4.out 0 4096 rfl (by omega) _ w6 hw6 rfl).mono ?_
          rintro e w7 ⟨rfl, hm7⟩
          clear hw6
          go_wp2_with fail
          refine (awake_any _).mono ?_
          rintro e w8 ⟨rfl, hk8⟩
          have hfin : Hid (Keeps No w w8) := hm7.keeps.trans hk8 (fun _ _ h => h)
          go_wp2
          go_ret
          exact ⟨rfl, hfin.out⟩

set_option maxRecDepth 100000 in
set_option maxHeartbeats 2000000 in
theorem walk_lt (more : Int) (w : World) (hat : (Lit.int .i64 more).wf = true) (m : Nat) (hmm : (wrap64 (more.tmod 20 + 20)).tmod 20 = m) (hm19 : m ≤ 19) (h10 : ¬ 10 ≤ m) : Calls Try.prog 6 #[.int .i64 more] w fun e w' => e = .returned (.bool true) ∧ Keeps No w w' := by
  obtain ⟨i0, hi, hz0, hz1, hz2⟩ := info_parts Try.infoPk
  have H10 := Lib.hid h10; have H19 := Lib.hid hm19; clear h10 hm19
  have hbd : -9223372036854775808 ≤ more ∧ more ≤ 9223372036854775807 := by simpa [Lit.wf, IntKind.min, IntKind.max, IntKind.signed, IntKind.bits] using hat
  obtain ⟨hb1, hb2⟩ := hbd
  obtain ⟨n, hn⟩ : ∃ n : Nat, n = 4086 := ⟨_, rfl⟩
  have Hn := Lib.hid hn; clear hn
  go_enter Try.func6, Try.ntmps6
  go_wp2_with fail
  refine (new_m (w0 := w) 2 (by omega) (by omega) (Mem.start w)).mono ?_
  rintro e w1 ⟨b, rfl, hm1⟩
  have hm : Mem w w1 [NetT b 2 []] := hm1
  clear hm1
  go_wp2_with (at_make; refine wpList_make_full _ rfl _ _ 28 rfl 0 34 i0 _ 3 Try.underlying28 hi hz0 hz1 .i64 .i64 4086 4086 n rfl rfl ?c1 ?c2 ?c3 ?c4 (Nat.zero_le _) ?c5)
  case c1 => rw [Hn.out]; rfl
  case c2 => rw [Hn.out]; rfl
  case c3 => rw [Hn.out, hz2]; decide
  case c4 => rw [Hn.out]; decide
  case c5 =>
    intro w2 hown hg
    have hs : Step No w1 w2 (RowT 34 3 (.slice (some ⟨w1.heap.size, 0, none⟩) n n) n (pkCells (half n 0))) := by
      rw [half_zero, ← made_pk]
      exact ⟨_, ⟨hown, rfl⟩, (Keeps.refl _).grown hg (fun k hk => by cases hk), fun k hk => .inr (by simp [Of, Value.ownBlock] at hk; omega)⟩
    have hm2 : Mem w w2 [NetT b 2 [], RowT 34 3 (.slice (some ⟨w1.heap.size, 0, none⟩) n n) n (pkCells (half n 0))] := hm.push (rowT_lies _ _ _ _ _) hs
    clear hs hown hg
    clear hmm hat hb1 hb2
    obtain ⟨g, hg⟩ : ∃ g, g = w1.heap.size := ⟨_, rfl⟩
    rw [← hg] at hm2 ⊢
    clear hg hm
    have hN : n ≤ 4096 := by rw [Hn.out]; decide
    have HN := Lib.hid hN
    have hN2 : (n : Int) ≤ 4096 := by omega
    clear hN
    go_wp2
    go_loopw [6] (fun i wr => ∃ k : Nat, k ≤ n ∧ i = .int .i64 k ∧ Mem w wr [NetT b 2 [], RowT 34 3 (.slice (some ⟨g, 0, none⟩) n n) n (pkCells (half n k))]) (fun i _ => n - (intOf i).toNat)
    case atStart => exact ⟨0, Nat.zero_le _, rfl, hm2⟩
    case round =>
      obtain ⟨k, hk, rfl, hmr⟩ := hrel
      by_cases hlt : k < n
      · obtain ⟨hc, hf⟩ := hmr.cellAt 1 rfl (k * 3 + 1) (by omega)
        rw [half_cell n k hlt] at hc
        have hm3 := hmr.stored 1 rfl (k * 3 + 1) (.int .i64 1)
        rw [half_next n k hlt] at hm3
        have Hm3 := Lib.hid hm3; clear hm3
        go_wp2
        go_roundw
        case rel => exact ⟨k + 1, by omega, by go_num, Hm3.out⟩
        case measure => simp [intOf]; omega
      · obtain rfl : k = n := by omega
        rw [half_all] at hmr
        obtain ⟨F, hF, hFe⟩ : ∃ F, wr.ownsRow 0 34 3 (.slice (some ⟨g, 0, none⟩) k k) k (pkCells (so k pk1)) ∧ F = 0 := by
          obtain ⟨G, ⟨h, _⟩⟩ := hmr.see 1 rfl
          exact ⟨0, h, rfl⟩
        have hrr : Reads wr 3 (.slice (some ⟨g, 0, none⟩) k k) k (pkCells (so k pk1)) := Reads.ofOwn hF (pkCells_one' _)
        clear hF hFe
        have hn6 : Hid (k = 4086) := Hn
        have hm0 : (0 : Int) ≤ (m : Int) := by omega
        have hm1 : (m : Int) ≤ 19 := by have := H19.out; omega
        have hmk : (m : Int) ≤ (k : Int) := by have := Hn.out; have := H19.out; omega
        have hs1 : Hid ((k : Int) - min (k : Int) (4096 - (0 : Nat)) = 0) := by show _ = _; have := Hn.out; omega
        have hs2 : Hid (0 + min (4096 - 0) k = k) := by show _ = _; have := Hn.out; omega
        go_wp2_with fail
        refine (send_so hmr 0 0 rfl (by omega) _ k hrr 0 k hs1.out hs2.out).mono ?_
        rintro e w3 ⟨rfl, hm3⟩
        have hm3' : Mem w w3 [NetT b 2 (so k pk1), RowT 34 3 (.slice (some ⟨g, 0, none⟩) k k) k (pkCells (so k pk1))] := hm3
        have hrm : Reads w3 3 (.slice (some ⟨g, 0, none⟩) m k) m (pkCells (so m pk1)) := by
          obtain ⟨G, ⟨h, _⟩⟩ := hm3'.see 1 rfl
          have h2 := (Reads.ofOwn h (pkCells_one' _)).take (m := m) (by have := Hn.out; have := H19.out; omega)
          rw [pkCells_take, so_take, Nat.min_eq_left (by have := Hn.out; have := H19.out; omega)] at h2
          exact h2
        clear hm3 hmr hrr
        obtain ⟨T, hT⟩ : ∃ T : Nat, T = 4086 + m := ⟨_, rfl⟩
        have HT := Lib.hid hT; clear hT
        have hs3 : Hid ((m : Int) - min (m : Int) (4096 - (k : Nat)) = 0) := by show _ = _; have := Hn.out; have := H10.out; omega
        have hs4 : Hid (k + min (4096 - k) m = T) := by show _ = _; have := Hn.out; have := HT.out; have := H10.out; omega
        have hs5 : Hid ((T : Int) = 4086 + (m : Int)) := by show _ = _; have := HT.out; omega
        have hs6 : Hid (((T + 1 : Nat) : Int) = 4087 + (m : Int)) := by show _ = _; have := HT.out; omega
        have h10' : (m : Int) ≤ 9 := by have := H10.out; omega
        have HT2 : Hid (0 < T ∧ T ≤ 4095) := by have := HT.out; have := H10.out; exact ⟨by omega, by omega⟩
        go_wp2_with fail
        refine (send_so hm3' 0 k rfl (by have := Hn.out; have := H10.out; omega) _ m hrm _ _ hs3.out hs4.out).mono ?_
        rintro e w4 ⟨rfl, hm4⟩
        have hm4' : Mem w w4 [NetT b 2 (so T pk1), RowT 34 3 (.slice (some ⟨g, 0, none⟩) k k) k (pkCells (so k pk1))] := hm4
        have Hm4 := Lib.hid hm4'
        clear hm4 hm4' hm3' hrm
        go_wp2_with fail
        all_goals
          refine (len_so Hm4.out 0 T rfl _ hs5.out).mono ?_
          rintro e w5 ⟨rfl, rfl⟩
          go_wp2_with fail
          refine (double_so Hm4.out 0 T rfl HT2.out.1 HT2.out.2).mono ?_
          rintro e w5 ⟨rfl, hm5⟩
          have hm5' : Mem w w5 [NetT b 2 (so (T + 1) pk1), RowT 34 3 (.slice (some ⟨g, 0, none⟩) k k) k (pkCells (so k pk1))] := hm5
          have Hm5 := Lib.hid hm5'
          clear hm5 hm5'
          have h10d : decide ((10 : Int) ≤ (m : Int)) = false := decide_eq_false (by omega)
          go_wp2_with fail
          refine (len_so Hm5.out 0 (T + 1) rfl _ hs6.out).mono ?_
          rintro e w6 ⟨rfl, rfl⟩
          go_wp2_with fail
          refine (to_any 1 _).mono ?_
          rintro e w6 ⟨rfl, hw6⟩
          go_wp2_with fail
          refine (lose_so Hm5.out 0 (T + 1) rfl (by have := HT2.out.2; omega) _ w6 hw6 rfl).mono ?_
          rintro e w7 ⟨rfl, hm7⟩
          rw [hs6.out]
          have hmin : min (4096 : Int) (4087 + (m : Int)) = 4087 + (m : Int) := by omega
          have hHm7 := Lib.hid hm7
          clear hw6 hm7 h10' h10d hmk
          go_wp2_with fail
          all_goals
            refine (awake_any _).mono ?_
            rintro e w8 ⟨rfl, hk8⟩
            have hfin : Hid (Keeps No w w8) := hHm7.out.keeps.trans hk8 (fun _ _ h => h)
            go_wp2
            go_ret
            exact ⟨rfl, hfin.out⟩

theorem walk (more : Int) (w : World) (hat : (Lit.int .i64 more).wf = true) : Calls Try.prog 6 #[.int .i64 more] w fun e w' => e = .returned (.bool true) ∧ Keeps No w w' := by
  obtain ⟨m, hmm, hm19⟩ := place20 more
  by_cases h10 : 10 ≤ m
  · exact walk_ge more w hat m hmm hm19 h10
  · exact walk_lt more w hat m hmm hm19 h10

set_option maxRecDepth 100000 in
theorem lifted (os : Os) (started : os.Started) (H : Type) (enc : TypeId × Value → H) :
    ReturnsInHanded {} Try.checked os 6 .any (Rows.netRoomSpec.pre6 enc Try.prog Try.f6 Rows.netRoomRow.domain false) (Rows.netRoomSpec.post enc Try.prog Try.f6 false true false false) := by
  refine law_lifted os started H enc (by kernel_rfl) Try.func6
    (ChangeSpec.witness6 (enc := enc) (C := Try.checked) false ⟨#[], #[.int .i64 0], []⟩ 8 (by kernel_rfl) (by kernel_rfl) (by kernel_rfl) (by kernel_rfl))
    (by decide +kernel) rfl Try.underlying4 rfl (fun ds h => by match ds, h with | [d1], _ => rfl) ?_
  intro W base args ds p hval hA
  rw [Try.params6] at hA hval
  obtain ⟨v0, d0, rfl, rfl, h0⟩ := trodAll_one hA
  obtain ⟨k, rfl, rfl, rfl, wk⟩ := open_int Try.underlying3 (hval 0 3 v0 rfl rfl) h0
  exact walk k W wk

theorem holds : Rows.NetRoomSaid :=
  OpenClaim.holds_of_wide 6 Try.f6 rfl rfl rfl rfl rfl rfl rfl ⟨rfl, rfl, rfl, rfl, rfl⟩ rfl rfl rfl rfl rfl (by kernel_rfl) Try.func6 (by kernel_rfl)
    (of_decide_eq_true (by kernel_rfl)) (by unfold Func.isWrapper; first | (rw [if_pos (by decide +kernel)]; kernel_rfl) | (rw [if_neg (by decide +kernel)]; exact ⟨rfl, rfl⟩))
    (fun os started H enc _ => lifted os started H enc)
end Go.Proofs.Ytneikamjlbfglaa.netRoom
