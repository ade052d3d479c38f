/-
  hedgerowref18: the document's own net, beside other things of the call's own.
-/
import Derived.Test.YtneikamjlbfglaaNetDeeds
import Derived.Deep.CutBlock
namespace Go.Proofs.Ytneikamjlbfglaa
open Go.RowKit

/-- The document's net: its block. -/
abbrev RefB (b : Nat) (N : Int) (v : Value) : Thing := RowT 50 2 (.slice (some ⟨b, 0, none⟩) 1 1) 1 [.int .i64 N, v]

/-- one of the things takes another one's place, which then holds nothing -/
theorem Mem.move {w0 w : World} {L : List Thing} (h : Mem w0 w L) (i j : Nat) (hij : i ≠ j) (hi : i < L.length) {B : Thing} (hB : L[j]? = some B) : Mem w0 w ((L.set j Nix).set i B) := by
  obtain ⟨hk, hl, ⟨F, h1, h2, h3⟩⟩ := h
  have hj : j < L.length := (List.getElem?_eq_some_iff.1 hB).1
  refine ⟨hk, ?_, ⟨fun t => if t = i then F j else if t = j then fun _ => False else F t, ?_, ?_, ?_⟩⟩
  · intro A hA
    rcases List.mem_or_eq_of_mem_set hA with hA | rfl
    · rcases List.mem_or_eq_of_mem_set hA with hA | rfl
      · exact hl A hA
      · exact nix_lies
    · exact hl _ (List.mem_of_getElem? hB)
  · intro t A hA
    by_cases hti : t = i
    · subst hti
      rw [List.getElem?_set_self (by simpa using hi)] at hA
      cases hA
      simpa using h1 j B hB
    · rw [List.getElem?_set_ne (Ne.symm hti)] at hA
      simp only [hti, if_false]
      by_cases htj : t = j
      · subst htj
        rw [List.getElem?_set_self hj] at hA
        cases hA
        simp only [if_true]
        exact fun _ h => h
      · rw [List.getElem?_set_ne (Ne.symm htj)] at hA
        simp only [htj, if_false]
        exact h1 t A hA
  · intro t k ht hf
    simp only [List.length_set] at ht
    by_cases hti : t = i
    · simp only [hti, if_true] at hf; exact h2 j k hj hf
    · by_cases htj : t = j
      · subst htj; simp [hti] at hf
      · simp only [hti, htj, if_false] at hf; exact h2 t k ht hf
  · intro t t' k ht ht' hf hf'
    simp only [List.length_set] at ht ht'
    by_cases hti : t = i <;> by_cases hti' : t' = i
    · omega
    · simp only [hti, if_true] at hf
      by_cases htj : t' = j
      · subst htj; simp [hti'] at hf'
      · simp only [hti', htj, if_false] at hf'; exact (htj (h3 j t' k hj ht' hf hf').symm).elim
    · simp only [hti', if_true] at hf'
      by_cases htj : t = j
      · subst htj; simp [hti] at hf
      · simp only [hti, htj, if_false] at hf; exact (htj (h3 t j k ht hj hf hf')).elim
    · by_cases htj : t = j
      · subst htj; simp [hti] at hf
      · by_cases htj' : t' = j
        · subst htj'; simp [hti'] at hf'
        · simp only [hti, htj, if_false] at hf
          simp only [hti', htj', if_false] at hf'
          exact h3 t t' k ht ht' hf hf'
theorem rowT_slice {w0 w : World} {L : List Thing} {e : TypeId} {size n : Nat} {v : Value} {xs : List Value} (h : Mem w0 w L) (i : Nat) (hL : L[i]? = some (RowT e size v n xs)) : ∃ a c, v = .slice a n c := by
  obtain ⟨F, ⟨h, _⟩⟩ := h.see i hL
  exact ownsRow_slice h
theorem right_any (n : Int) (w : World) : Calls Try.prog 19 #[.int .i64 n] w fun e w' => e = .returned (.bool (decide (1 ≤ n) && decide (n ≤ 17))) ∧ w = w' := by
  by_cases h1 : 1 ≤ n <;> by_cases h2 : n ≤ 17
  all_goals
    have hfin : Hid ((decide (1 ≤ n) && decide (n ≤ 17)) = (decide (1 ≤ n) && decide (n ≤ 17))) := rfl
    go_enter Try.func19, Try.ntmps19
    go_wp2
    go_ret
    exact ⟨by simp [h1, h2], rfl⟩

section
variable {w0 w : World} {A0 A1 A4 : Thing} {b : Nat} {N : Int} {v : Value} {ps : List Pk}

theorem rdouble_no (hm : Mem w0 w [A0, A1, PkT v ps, RefB b N v, A4]) (k : Int) (hk : nd ps.length k = false) :
    Calls Try.prog 22 #[.pointer (some ⟨b, 0, none⟩), .int .i64 k] w fun e w' => e = .returned (.int .i64 6) ∧ w = w' := by
  obtain ⟨c1, _⟩ := hm.cellAt 3 rfl 1 (by omega)
  simp only [List.getElem?_cons_succ, List.getElem?_cons_zero] at c1
  obtain ⟨va, vc, rfl⟩ := rowT_slice hm 2 rfl
  simp only [nd, Bool.and_eq_false_iff, decide_eq_false_iff_not] at hk
  by_cases h0 : k < 0
  · go_enter Try.func22, Try.ntmps22
    go_wp2
    go_ret
    exact ⟨rfl, rfl⟩
  · have h1 : (ps.length : Int) ≤ k := by omega
    clear hk
    go_enter Try.func22, Try.ntmps22
    go_wp2
    go_ret
    exact ⟨rfl, rfl⟩

set_option maxHeartbeats 2000000 in
theorem rdouble_yes (hm : Mem w0 w [A0, A1, PkT v ps, RefB b N v, A4]) (k : Nat) (hk : k < ps.length) (hf : (ps.length : Int) ≤ 4095) :
    Calls Try.prog 22 #[.pointer (some ⟨b, 0, none⟩), .int .i64 k] w fun e w' => e = .returned (.int .i64 0) ∧ ∃ v', Mem w0 w' [A0, A1, PkT v' (ps ++ [ps[k]]), RefB b N v', A4] := by
  obtain ⟨i0, hi, hz0, hz1, hz2⟩ := info_parts Try.infoPk
  obtain ⟨c1, f1⟩ := hm.cellAt 3 rfl 1 (by omega)
  simp only [List.getElem?_cons_succ, List.getElem?_cons_zero] at c1
  obtain ⟨va, vc, rfl⟩ := rowT_slice hm 2 rfl
  obtain ⟨F, hF⟩ := hm.see 2 rfl
  have hr := pkT_reads hF
  clear hF
  obtain ⟨g, off, d, he, _, _, hbl, _⟩ := hr.addr (by rw [pkCells_length]; omega)
  simp only [Value.slice.injEq, true_and] at he
  obtain ⟨rfl, rfl⟩ := he
  obtain ⟨g0, g1, g2⟩ := hr.pk k hk
  have hbb := block_lt_of_cell c1
  have hm1 := (mem_lit hm (.cells #[.int .i64 ps[k].f, .int .i64 ps[k].t, .string ps[k].s] 34)).drew
  have hlit := (Reads.lit w ps[k]).kept (Keeps.refl (S := No) _).drew (fun _ _ h => h)
  have hk0 : (0 : Int) ≤ (k : Int) := by omega
  have hk1 : (k : Int) < (ps.length : Int) := by omega
  have hfd : decide ((4096 : Int) ≤ (ps.length : Int)) = false := decide_eq_false (by omega)
  have Hf := Lib.hid hf; clear hf
  go_enter Try.func22, Try.ntmps22
  go_wp2
  go_region_law (refine step_append_mem rfl (.tmp 26) (.tmp 34) 28 rfl 34 i0 _ 3 32 Try.underlying28 hi hz0 hz1 hz2 rfl (by decide) hm1 2 _ ps.length (pkCells ps) rfl rfl _ 1 (pkCells [ps[k]]) rfl hlit (by have := Hf.out; unfold maxLen; omega) (by have := Hf.out; omega) ?_
                 intro v' w2 hm2 _ _
                 obtain ⟨va', vc', rfl⟩ := rowT_slice hm2.out 2 rfl
                 have hm3 : Mem w0 w2 [A0, A1, PkT (.slice va' (ps.length + 1) vc') (ps ++ [ps[k]]), RefB b N (.slice (some ⟨g, off, none⟩) ps.length vc), A4] := by
                   have := hm2.out
                   rw [pkT_app _ _ [ps[k]] 1 rfl] at this
                   exact this
                 obtain ⟨k1, e1⟩ := hm3.cellAt 3 rfl 1 (by omega)
                 simp only [List.getElem?_cons_succ, List.getElem?_cons_zero] at k1
                 have hm4 := hm3.stored 3 rfl 1 (.slice va' (ps.length + 1) vc'))
  all_goals
    go_wp2
    go_ret
    exact ⟨rfl, _, hm4⟩

theorem rtake_no (hm : Mem w0 w [A0, A1, PkT v ps, RefB b N v, A4]) (k : Int) (hk : nd ps.length k = false) :
    Calls Try.prog 21 #[.pointer (some ⟨b, 0, none⟩), .int .i64 k] w fun e w' => e = .returned (.tuple #[noPk, .int .i64 6]) ∧ Mem w0 w' [A0, A1, PkT v ps, RefB b N v, A4] := by
  obtain ⟨c1, _⟩ := hm.cellAt 3 rfl 1 (by omega)
  simp only [List.getElem?_cons_succ, List.getElem?_cons_zero] at c1
  obtain ⟨va, vc, rfl⟩ := rowT_slice hm 2 rfl
  have hbb := block_lt_of_cell c1
  dsimp only at hbb
  simp only [nd, Bool.and_eq_false_iff, decide_eq_false_iff_not] at hk
  have hm1 := Lib.hid (mem_lit hm (.cells #[.int .i64 0, .int .i64 0, .string ByteArray.empty] 34))
  by_cases h0 : k < 0
  · go_enter Try.func21, Try.ntmps21
    go_wp2
    exact bodyPost_ret (v := .tuple #[noPk, .int .i64 6]) (by simp [results, Try.results21, go_sem, noPk]; rfl) rfl ⟨rfl, hm1.out⟩
  · have h1 : (ps.length : Int) ≤ k := by omega
    clear hk
    go_enter Try.func21, Try.ntmps21
    go_wp2
    exact bodyPost_ret (v := .tuple #[noPk, .int .i64 6]) (by simp [results, Try.results21, go_sem, noPk]; rfl) rfl ⟨rfl, hm1.out⟩

set_option maxRecDepth 10000 in
set_option maxHeartbeats 2000000 in
theorem rtake_yes (hm : Mem w0 w [A0, A1, PkT v ps, RefB b N v, A4]) (k : Nat) (hk : k < ps.length) (hf : (ps.length : Int) ≤ 4095) :
    Calls Try.prog 21 #[.pointer (some ⟨b, 0, none⟩), .int .i64 k] w fun e w' =>
      e = .returned (.tuple #[.agg #[.int .i64 ps[k].f, .int .i64 ps[k].t, .string ps[k].s], .int .i64 0]) ∧ ∃ v', Mem w0 w' [A0, A1, PkT v' (ps.eraseIdx k), RefB b N v', A4] := by
  obtain ⟨i0, hi, hz0, hz1, hz2⟩ := info_parts Try.infoPk
  obtain ⟨c1, f1⟩ := hm.cellAt 3 rfl 1 (by omega)
  simp only [List.getElem?_cons_succ, List.getElem?_cons_zero] at c1
  obtain ⟨va, vc, rfl⟩ := rowT_slice hm 2 rfl
  obtain ⟨F, hF⟩ := hm.see 2 rfl
  have hr := pkT_reads hF
  clear hF
  have hroom := Reads.room hr
  obtain ⟨g, off, d, he, _, _, hbl, _⟩ := hr.addr (by rw [pkCells_length]; omega)
  simp only [Value.slice.injEq, true_and] at he
  obtain ⟨rfl, rfl⟩ := he
  obtain ⟨g0, g1, g2⟩ := hr.pk k hk
  have hbb := block_lt_of_cell c1
  dsimp only at hbb
  have hk0 : (0 : Int) ≤ (k : Int) := by omega
  have hk1 : (k : Int) < (ps.length : Int) := by omega
  have hfd : decide ((4096 : Int) ≤ (ps.length : Int)) = false := decide_eq_false (by omega)
  have Hf := Lib.hid hf; clear hf
  have hm1 : Mem w0 (w.alloc (.cells #[.int .i64 0, .int .i64 0, .string ByteArray.empty] 34)) [A0, A1, PkT (.slice (some ⟨g, off, none⟩) ps.length vc) ps, RefB b N (.slice (some ⟨g, off, none⟩) ps.length vc), A4, PkT (.slice (some ⟨w.heap.size, 0, none⟩) 1 1) [⟨0, 0, ByteArray.empty⟩]] := pkT_lit hm ⟨0, 0, ByteArray.empty⟩
  have hm2 := pkT_lit hm1 ps[k]
  rw [World.size_alloc] at hm2
  have hm3 : Mem w0 ((w.alloc (.cells #[.int .i64 0, .int .i64 0, .string ByteArray.empty] 34)).alloc (.cells #[.int .i64 ps[k].f, .int .i64 ps[k].t, .string ps[k].s] 34)) [A0, A1, PkT (.slice (some ⟨g, off, none⟩) ps.length vc) ps, RefB b N (.slice (some ⟨g, off, none⟩) ps.length vc), A4, PkT (.slice (some ⟨w.heap.size, 0, none⟩) 1 1) [⟨0, 0, ByteArray.empty⟩], PkT (.slice (some ⟨w.heap.size + 1, 0, none⟩) 1 1) [ps[k]], PkT (.slice none 0 0) []] := hm2.push (rowT_lies _ _ _ _ _) (pkT_nil _)
  clear hm1 hm2
  have Hm3 := Lib.hid hm3
  have hT := hr.take (m := k) (by omega)
  rw [pkCells_take] at hT
  have HT := Lib.hid (hT.kept (((Keeps.refl (S := No) w).alloc (.cells #[.int .i64 0, .int .i64 0, .string ByteArray.empty] 34)).alloc (.cells #[.int .i64 ps[k].f, .int .i64 ps[k].t, .string ps[k].s] 34)) (fun _ _ h => h))
  obtain ⟨T, hTe⟩ : ∃ T, T = ps.take k := ⟨_, rfl⟩
  obtain ⟨D, hDe⟩ : ∃ D, D = ps.drop (k + 1) := ⟨_, rfl⟩
  have hTD : Hid (ps.eraseIdx k = T ++ D) := by show _ = _; rw [hTe, hDe, List.eraseIdx_eq_take_drop_succ]
  have hTl : Hid (T.length = k) := by show _ = _; rw [hTe, List.length_take]; omega
  have hDl : Hid (D.length = ps.length - (k + 1)) := by show _ = _; rw [hDe, List.length_drop]
  rw [← hTe] at HT
  have HDe := Lib.hid hDe
  clear hTe hDe
  clear hT hm3
  go_enter Try.func21, Try.ntmps21
  go_wp2_with (at_builtin; refine wpList_append_mem rfl (.tmp 27) (.tmp 33) 28 rfl 34 i0 _ 3 32 Try.underlying28 hi hz0 hz1 hz2 rfl (by decide) Hm3.out 7 _ 0 (pkCells []) rfl rfl _ k (pkCells T) rfl HT.out ?c1 ?c2 ?c4)
  case c1 => have := Hf.out; unfold maxLen; omega
  case c2 => have := Hf.out; omega
  case c4 =>
    intro v1 w3 hm4 _ _
    obtain ⟨a1, d1, rfl⟩ := rowT_slice hm4.out 7 rfl
    have hm5 : Mem w0 w3 [A0, A1, PkT (.slice (some ⟨g, off, none⟩) ps.length vc) ps, RefB b N (.slice (some ⟨g, off, none⟩) ps.length vc), A4, PkT (.slice (some ⟨w.heap.size, 0, none⟩) 1 1) [⟨0, 0, ByteArray.empty⟩], PkT (.slice (some ⟨w.heap.size + 1, 0, none⟩) 1 1) [ps[k]], RowT 34 3 (.slice a1 k d1) k (pkCells [] ++ pkCells T)] := hm4.out
    rw [pkCells_nil, List.nil_append] at hm5
    clear hm4
    obtain ⟨c2, f2⟩ := hm5.cellAt 3 rfl 1 (by omega)
    simp only [List.getElem?_cons_succ, List.getElem?_cons_zero] at c2
    obtain ⟨F, hF⟩ := hm5.see 2 rfl
    have hD := (pkT_reads hF).dropAny (m := k + 1) (by omega) _ rfl
    rw [pkCells_drop, ← HDe.out] at hD
    obtain ⟨ao, hao⟩ : ∃ ao, ao = if vc = k + 1 then some (⟨g, off, none⟩ : Addr) else some ⟨g, off + (k + 1) * 3, none⟩ := ⟨_, rfl⟩
    have hD' : Reads w3 3 (.slice ao (ps.length - (k + 1)) (vc - (k + 1))) (ps.length - (k + 1)) (pkCells D) := by rw [hao]; exact hD
    have HD := Lib.hid hD'
    have Hao := Lib.hid hao
    clear hF hD hD' hao
    have hkc : (k : Int) + 1 ≤ (ps.length : Int) := by omega
    have hkb : (k : Int) ≤ 4094 := by have := Hf.out; omega
    have hkv : (ps.length : Int) ≤ (vc : Int) := by omega
    have Hm5 := Lib.hid hm5; clear hm5
    go_wp2_with (at_builtin; rw [← Hao.out]; refine wpList_append_mem rfl (.tmp 35) (.tmp 42) 28 rfl 34 i0 _ 3 32 Try.underlying28 hi hz0 hz1 hz2 rfl (by decide) Hm5.out 7 _ k (pkCells T) rfl rfl _ (ps.length - (k + 1)) (pkCells D) rfl HD.out ?c1 ?c2 ?c4)
    case c1 => have := Hf.out; unfold maxLen; omega
    case c2 => have := Hf.out; omega
    case c4 =>
      intro v2 w4 hm6 _ _
      obtain ⟨m, hme⟩ : ∃ m, m = k + (ps.length - (k + 1)) := ⟨_, rfl⟩
      rw [← hme] at hm6
      obtain ⟨a2, d2, rfl⟩ := rowT_slice hm6.out 7 rfl
      have hml : m = (T ++ D).length := by rw [List.length_append, hTl.out, hDl.out, hme]
      have hm7 : Mem w0 w4 [A0, A1, PkT (.slice (some ⟨g, off, none⟩) ps.length vc) ps, RefB b N (.slice (some ⟨g, off, none⟩) ps.length vc), A4, PkT (.slice (some ⟨w.heap.size, 0, none⟩) 1 1) [⟨0, 0, ByteArray.empty⟩], PkT (.slice (some ⟨w.heap.size + 1, 0, none⟩) 1 1) [ps[k]], PkT (.slice a2 m d2) (T ++ D)] := by
        have h := hm6.out
        rw [← pkCells_append] at h
        unfold PkT
        rw [← hml]
        exact h
      clear hm6 hme hml
      obtain ⟨c3, f3⟩ := hm7.cellAt 3 rfl 1 (by omega)
      simp only [List.getElem?_cons_succ, List.getElem?_cons_zero] at c3
      obtain ⟨x0, y0⟩ := hm7.cellAt 5 rfl 0 (by simp)
      obtain ⟨x1, y1⟩ := hm7.cellAt 5 rfl 1 (by simp)
      obtain ⟨x2, y2⟩ := hm7.cellAt 5 rfl 2 (by simp)
      obtain ⟨z0, _⟩ := hm7.cellAt 6 rfl 0 (by simp)
      obtain ⟨z1, _⟩ := hm7.cellAt 6 rfl 1 (by simp)
      obtain ⟨z2, _⟩ := hm7.cellAt 6 rfl 2 (by simp)
      simp only [pkCells_one, Pk.cells, List.getElem?_cons_succ, List.getElem?_cons_zero] at x0 x1 x2 z0 z1 z2
      have hfin : Hid (Mem w0 ((((w4.setCell ⟨b, 1, none⟩ (.slice a2 m d2)).setCell ⟨w.heap.size, 0, none⟩ (.int .i64 ps[k].f)).setCell ⟨w.heap.size, 1, none⟩ (.int .i64 ps[k].t)).setCell ⟨w.heap.size, 2, none⟩ (.string ps[k].s)) [A0, A1, PkT (.slice a2 m d2) (ps.eraseIdx k), RefB b N (.slice a2 m d2), A4]) := by
        have h := ((((hm7.stored 3 rfl 1 (.slice a2 m d2)).stored 5 rfl 0 (.int .i64 ps[k].f)).stored 5 rfl 1 (.int .i64 ps[k].t)).stored 5 rfl 2 (.string ps[k].s)).move 2 7 (by omega) (by simp) rfl
        have h' := ((h.erase 7 (by simp)).erase 6 (by simp)).erase 5 (by simp)
        rw [hTD.out]
        exact h'
      clear hm7
      go_wp2
      exact bodyPost_ret (v := .tuple #[.agg #[.int .i64 ps[k].f, .int .i64 ps[k].t, .string ps[k].s], .int .i64 0]) (by simp [results, Try.results21, go_sem, *]) rfl ⟨rfl, _, hfin.out⟩

def oth (k : Int) (p : Pk) : Bool := !(p.t == k)
theorem oth_next (l : List Pk) (k : Int) (j : Nat) (hj : j < l.length) : (l.take (j + 1)).filter (oth k) = (l.take j).filter (oth k) ++ (if oth k l[j] then [l[j]] else []) := by
  rw [List.take_succ_eq_append_getElem hj, List.filter_append]
  cases h : oth k l[j]
  · rw [List.filter_cons_of_neg (by simp [h])]; rfl
  · rw [List.filter_cons_of_pos h]; rfl
set_option maxRecDepth 10000 in
set_option maxHeartbeats 2000000 in
theorem rwithout_any (hm : Mem w0 w [A0, A1, PkT v ps, RefB b N v, A4]) (k : Int) (hf : (ps.length : Int) ≤ 4095) :
    Calls Try.prog 23 #[.pointer (some ⟨b, 0, none⟩), .int .i64 k] w fun e w' =>
      e = .returned (.int .i64 ((ps.length : Int) - ((ps.filter (oth k)).length : Int))) ∧ ∃ v', Mem w0 w' [A0, A1, PkT v' (ps.filter (oth k)), RefB b N v', A4] := by
  obtain ⟨i0, hi, hz0, hz1, hz2⟩ := info_parts Try.infoPk
  obtain ⟨va, vc, rfl⟩ := rowT_slice hm 2 rfl
  have Hf := Lib.hid hf; clear hf
  have hm0 : Mem w0 w [A0, A1, PkT (.slice va ps.length vc) ps, RefB b N (.slice va ps.length vc), A4, PkT (.slice none 0 0) []] := hm.push (rowT_lies _ _ _ _ _) (pkT_nil _)
  go_enter Try.func23, Try.ntmps23
  go_wp2
  go_loopw [5, 6] (fun lv i wq => ∃ j : Nat, j ≤ ps.length ∧ i = .int .i64 j ∧ Mem w0 wq [A0, A1, PkT (.slice va ps.length vc) ps, RefB b N (.slice va ps.length vc), A4, PkT lv ((ps.take j).filter (oth k))]) (fun _ i _ => ps.length - (intOf i).toNat)
  case atStart => exact ⟨0, Nat.zero_le _, rfl, hm0⟩
  case round =>
    clear hm hm0
    obtain ⟨j, hj, rfl, hmq⟩ := hrel
    obtain ⟨c1, f1⟩ := hmq.cellAt 3 rfl 1 (by omega)
    simp only [List.getElem?_cons_succ, List.getElem?_cons_zero] at c1
    by_cases hlt : j < ps.length
    · obtain ⟨F, hF⟩ := hmq.see 2 rfl
      have hr := pkT_reads hF
      clear hF
      obtain ⟨g, off, d, he, _, _, hbl, _⟩ := hr.addr (by rw [pkCells_length]; omega)
      simp only [Value.slice.injEq, true_and] at he
      obtain ⟨rfl, rfl⟩ := he
      obtain ⟨g0, g1, g2⟩ := hr.pk j hlt
      clear hr
      have hn := oth_next ps k j hlt
      have hfl : ((ps.take j).filter (oth k)).length ≤ j := Nat.le_trans (List.length_filter_le _ _) (by rw [List.length_take]; omega)
      generalize (ps.take j).filter (oth k) = S at *
      obtain ⟨p, hp⟩ : ∃ p, ps[j] = p := ⟨_, rfl⟩
      rw [hp] at g0 g1 g2 hn
      clear hp
      have hjb : (j : Int) ≤ 4094 := by have := Hf.out; omega
      cases ht : (p.t == k)
      · have hne : (p.t != k) = true := by unfold bne; rw [ht]; rfl
        have hn2 : Hid ((ps.take (j + 1)).filter (oth k) = S ++ [p]) := by show _ = _; rw [hn, oth, ht]; rfl
        clear hn ht
        have hm4 := mem_lit hmq (.cells #[.int .i64 p.f, .int .i64 p.t, .string p.s] 34)
        have hlit := Reads.lit wr p
        have Hfl := Lib.hid hfl; clear hfl
        go_wp2_with (at_builtin; refine wpList_append_mem rfl (.tmp 27) (.tmp 35) 28 rfl 34 i0 _ 3 32 Try.underlying28 hi hz0 hz1 hz2 rfl (by decide) hm4 5 _ S.length (pkCells S) rfl rfl _ 1 (pkCells [p]) rfl hlit ?c1 ?c2 ?c4)
        case c1 => have := Hf.out; have := Hfl.out; unfold maxLen; omega
        case c2 => have := Hf.out; have := Hfl.out; omega
        case c4 =>
          intro sv w5 hm5 _ _
          have hm6 : Mem w0 w5 [A0, A1, PkT (.slice (some ⟨g, off, none⟩) ps.length vc) ps, RefB b N (.slice (some ⟨g, off, none⟩) ps.length vc), A4, PkT sv ((ps.take (j + 1)).filter (oth k))] := by
            have := hm5.out
            rw [pkT_app _ _ [p] 1 rfl, ← hn2.out] at this
            exact this
          clear hm5 hm4
          go_wp2
          go_roundw
          case rel => exact ⟨j + 1, by omega, by go_num, hm6⟩
          case measure => simp [intOf]; omega
      · have hne : (p.t != k) = false := by unfold bne; rw [ht]; rfl
        have hn2 : Hid ((ps.take (j + 1)).filter (oth k) = S) := by show _ = _; rw [hn, oth, ht]; simp
        clear hn ht
        have hm6 : Mem w0 wr [A0, A1, PkT (.slice (some ⟨g, off, none⟩) ps.length vc) ps, RefB b N (.slice (some ⟨g, off, none⟩) ps.length vc), A4, PkT u5 ((ps.take (j + 1)).filter (oth k))] := by rw [hn2.out]; exact hmq
        clear hmq
        go_wp2
        go_roundw
        case rel => exact ⟨j + 1, by omega, by go_num, hm6⟩
        case measure => simp [intOf]; omega
    · obtain rfl : j = ps.length := by omega
      rw [List.take_length] at hmq
      have hfl : (ps.filter (oth k)).length ≤ ps.length := List.length_filter_le _ _
      generalize hq : ps.filter (oth k) = S at *
      have Hq := Lib.hid hq; clear hq
      obtain ⟨sa, sc, rfl⟩ := rowT_slice hmq 5 rfl
      have hw : wrap64 ((ps.length : Int) - (S.length : Int)) = (ps.length : Int) - (S.length : Int) := IntWalk.wrap64_in _ ⟨by have := Hf.out; omega, by have := Hf.out; omega⟩
      have hfin : Hid (Mem w0 (wr.setCell ⟨b, 1, none⟩ (.slice sa S.length sc)) [A0, A1, PkT (.slice sa S.length sc) S, RefB b N (.slice sa S.length sc), A4]) :=
        ((hmq.stored 3 rfl 1 (.slice sa S.length sc)).move 2 5 (by omega) (by simp) rfl).erase 5 (by simp)
      clear hmq hfl
      go_wp2
      go_ret
      rw [Hq.out]
      first
        | exact ⟨rfl, _, hfin.out⟩
        | (rw [hw]; exact ⟨rfl, _, hfin.out⟩)

set_option maxRecDepth 10000 in
set_option maxHeartbeats 4000000 in
/-- the document's test of one packet: the walk of its first loop's round -/
theorem rsend_any (hm : Mem w0 w [A0, A1, PkT v ps, RefB b N v, A4]) (x : Value) (l : List Pk) (hx : PkReads w0 x l) (hf : (ps.length : Int) + l.length ≤ 4095)
    (E : Int) (R : List Pk) (hyes : Hid (l.any (wrongB N) = true → E = 1 ∧ R = ps)) (hno : Hid (l.any (wrongB N) = false → E = 0 ∧ R = ps ++ l)) :
    Calls Try.prog 20 #[.pointer (some ⟨b, 0, none⟩), x] w fun e w' =>
      e = .returned (.tuple #[.int .i64 0, .int .i64 E]) ∧ ∃ v', Mem w0 w' [A0, A1, PkT v' R, RefB b N v', A4] := by
  obtain ⟨i0, hi, hz0, hz1, hz2⟩ := info_parts Try.infoPk
  obtain ⟨va, vc, rfl⟩ := rowT_slice hm 2 rfl
  obtain ⟨xa, xc, rfl⟩ := hx.slice
  have Hf := Lib.hid hf; clear hf
  have h0 : ∀ q ∈ l.take 0, wrongB N q = false := by simp
  go_enter Try.func20, Try.ntmps20
  go_wp2
  go_loopw [6] (fun i wq => ∃ j : Nat, j ≤ l.length ∧ i = .int .i64 j ∧ (∀ q ∈ l.take j, wrongB N q = false) ∧ Mem w0 wq [A0, A1, PkT (.slice va ps.length vc) ps, RefB b N (.slice va ps.length vc), A4]) (fun i _ => l.length - (intOf i).toNat)
  case atStart => exact ⟨0, Nat.zero_le _, rfl, h0, hm⟩
  case round =>
    clear hm h0
    obtain ⟨j, hj, rfl, hgood, hmq⟩ := hrel
    obtain ⟨c0, f0⟩ := hmq.cellAt 3 rfl 0 (by omega)
    obtain ⟨c1, f1⟩ := hmq.cellAt 3 rfl 1 (by omega)
    simp only [List.getElem?_cons_succ, List.getElem?_cons_zero] at c0 c1
    have hbb := block_lt_of_cell c1
    dsimp only at hbb
    by_cases hlt : j < l.length
    · have hxr := hx.kept hmq.keeps (fun _ _ h => h)
      obtain ⟨g, off, d, he, _, _, hbl, _⟩ := hxr.addr (by rw [pkCells_length]; omega)
      simp only [Value.slice.injEq, true_and] at he
      obtain ⟨rfl, rfl⟩ := he
      obtain ⟨g0, g1, g2⟩ := hxr.pk j hlt
      clear hxr
      have hnx : Hid (∀ q, q ∈ l.take (j + 1) → q ∈ l.take j ∨ q = l[j]) := fun q hq => by
        rw [List.take_succ_eq_append_getElem hlt, List.mem_append, List.mem_singleton] at hq
        exact hq
      have hin : Hid (l[j] ∈ l) := List.getElem_mem hlt
      obtain ⟨p, hp⟩ : ∃ p, l[j] = p := ⟨_, rfl⟩
      rw [hp] at g0 g1 g2 hnx hin
      clear hp
      obtain ⟨pf, pt, pn⟩ := p
      dsimp only at g0 g1 g2
      have Hgood := Lib.hid hgood; clear hgood
      have hjb : (j : Int) ≤ 4094 := by have := Hf.out; omega
      have hm4 := mem_lit hmq (.cells #[.int .i64 pf, .int .i64 pt, .string pn] 34)
      go_upto_region 5 with fail
      go_cut [58] (fun s58 w' => s58 = .bool (wrongB N ⟨pf, pt, pn⟩) ∧ Mem w0 w' [A0, A1, PkT (.slice va ps.length vc) ps, RefB b N (.slice va ps.length vc), A4])
      case first =>
        have hm5 : Hid (∀ n, Mem w0 ((wr.alloc (.cells #[.int .i64 pf, .int .i64 pt, .string pn] 34)).drewN n) [A0, A1, PkT (.slice va ps.length vc) ps, RefB b N (.slice va ps.length vc), A4]) := fun n => hm4.later ((Keeps.refl _).drewN n)
        clear hm4 hmq
        have hW : Hid (wrongB N ⟨pf, pt, pn⟩ = (!(decide (0 ≤ pf) && decide (pf < N)) || (!(decide (0 ≤ pt) && decide (pt < N)) || (pf == pt || decide (65536 < (pn.size : Int)))))) := rfl
        by_cases h1 : pf < 0
        · have hv : Hid (wrongB N ⟨pf, pt, pn⟩ = true) := by show _ = _; rw [hW.out]; simp; omega
          go_quiet (fail)
          go_wp2
          go_meet
          case rel => rw [hv.out]; exact ⟨rfl, hm5.out _⟩
        · by_cases h2 : N ≤ pf
          · have hv : Hid (wrongB N ⟨pf, pt, pn⟩ = true) := by show _ = _; rw [hW.out]; simp; omega
            go_quiet (fail)
            go_wp2
            go_meet
            case rel => rw [hv.out]; exact ⟨rfl, hm5.out _⟩
          · by_cases h3 : pt < 0
            · have hv : Hid (wrongB N ⟨pf, pt, pn⟩ = true) := by show _ = _; rw [hW.out]; simp; omega
              go_quiet (fail)
              go_wp2
              go_meet
              case rel => rw [hv.out]; exact ⟨rfl, hm5.out _⟩
            · by_cases h4 : N ≤ pt
              · have hv : Hid (wrongB N ⟨pf, pt, pn⟩ = true) := by show _ = _; rw [hW.out]; simp; omega
                go_quiet (fail)
                go_wp2
                go_meet
                case rel => rw [hv.out]; exact ⟨rfl, hm5.out _⟩
              · cases h5 : (pf == pt)
                · by_cases h6 : (65536 : Int) < (pn.size : Int)
                  · have hv : Hid (wrongB N ⟨pf, pt, pn⟩ = true) := by show _ = _; rw [hW.out]; simp [h6]
                    go_quiet (fail)
                    go_wp2
                    go_meet
                    case rel => rw [hv.out]; exact ⟨rfl, hm5.out _⟩
                  · have hv : Hid (wrongB N ⟨pf, pt, pn⟩ = false) := by show _ = _; rw [hW.out, h5, decide_eq_false h6, decide_eq_true (show 0 ≤ pf by omega), decide_eq_true (show pf < N by omega), decide_eq_true (show 0 ≤ pt by omega), decide_eq_true (show pt < N by omega)]; rfl
                    go_quiet (fail)
                    go_wp2
                    go_meet
                    case rel => rw [hv.out]; exact ⟨rfl, hm5.out _⟩
                · have hv : Hid (wrongB N ⟨pf, pt, pn⟩ = true) := by show _ = _; rw [hW.out, h5]; simp
                  go_quiet (fail)
                  go_wp2
                  go_meet
                  case rel => rw [hv.out]; exact ⟨rfl, hm5.out _⟩
      case rest =>
        obtain ⟨rfl, hm5⟩ := hcut
        cases hw : wrongB N ⟨pf, pt, pn⟩
        · go_wp2
          go_roundw
          case rel => exact ⟨j + 1, by omega, by go_num, fun q hq => by
            rcases hnx.out q hq with h | rfl
            · exact Hgood.out q h
            · exact hw, hm5⟩
          case measure => simp [intOf]; omega
        · obtain ⟨rfl, rfl⟩ := hyes.out (List.any_eq_true.2 ⟨_, hin.out, hw⟩)
          go_wp2
          go_ret2
          exact ⟨rfl, _, hm5⟩
    · obtain rfl : j = l.length := by omega
      have hany : Hid (l.any (wrongB N) = false) := by
        show _ = _
        rw [List.any_eq_false]
        intro q hq
        rw [List.take_length] at hgood
        rw [hgood q hq]
        simp
      clear hgood
      have hm0 : Mem w0 wr [A0, A1, PkT (.slice va ps.length vc) (ps ++ l.take 0), RefB b N (.slice va ps.length vc), A4] := by rw [List.take_zero, List.append_nil]; exact hmq
      clear hmq c0 f0 c1 f1 hbb
      go_wp2
      go_loopw [8, 9] (fun z i wq => ∃ (j : Nat) (v : Value), j ≤ l.length ∧ i = .int .i64 j ∧ z = .int .i64 0 ∧ Mem w0 wq [A0, A1, PkT v (ps ++ l.take j), RefB b N v, A4]) (fun _ i _ => l.length - (intOf i).toNat)
      case atStart => exact ⟨0, _, Nat.zero_le _, rfl, rfl, hm0⟩
      case round =>
        clear hm0
        obtain ⟨j, v, hj, rfl, rfl, hmq⟩ := hrel
        obtain ⟨c1, f1⟩ := hmq.cellAt 3 rfl 1 (by omega)
        simp only [List.getElem?_cons_succ, List.getElem?_cons_zero] at c1
        have hbb := block_lt_of_cell c1
        dsimp only at hbb
        by_cases hlt : j < l.length
        · have hxr := hx.kept hmq.keeps (fun _ _ h => h)
          obtain ⟨g, off, d, he, _, _, hbl, _⟩ := hxr.addr (by rw [pkCells_length]; omega)
          simp only [Value.slice.injEq, true_and] at he
          obtain ⟨rfl, rfl⟩ := he
          obtain ⟨g0, g1, g2⟩ := hxr.pk j hlt
          clear hxr
          have hnx : Hid (ps ++ l.take (j + 1) = ps ++ l.take j ++ [l[j]]) := by show _ = _; rw [List.take_succ_eq_append_getElem hlt, List.append_assoc]
          have hTl : (ps ++ l.take j).length = ps.length + j := by rw [List.length_append, List.length_take]; omega
          generalize ps ++ l.take j = T at *
          obtain ⟨sa, sc, rfl⟩ := rowT_slice hmq 2 rfl
          obtain ⟨p, hp⟩ : ∃ p, l[j] = p := ⟨_, rfl⟩
          rw [hp] at g0 g1 g2 hnx
          clear hp
          have HTl := Lib.hid hTl; clear hTl
          have hTd : decide ((T.length : Int) < 4096) = true := decide_eq_true (by have := HTl.out; have := Hf.out; omega)
          have hjb : (j : Int) ≤ 4094 := by have := Hf.out; omega
          have hj0 : (0 : Int) ≤ (j : Int) := by omega
          have hj1 : (j : Int) < (l.length : Int) := by omega
          have hm1 := Lib.hid ((mem_lit hmq (.cells #[.int .i64 p.f, .int .i64 p.t, .string p.s] 34)).drew)
          have hlit := Lib.hid ((Reads.lit wr p).kept (Keeps.refl (S := No) _).drew (fun _ _ h => h))
          clear hmq
          go_wp2
          go_region_law (refine step_append_mem rfl (.tmp 75) (.tmp 80) 28 rfl 34 i0 _ 3 32 Try.underlying28 hi hz0 hz1 hz2 rfl (by decide) hm1.out 2 _ T.length (pkCells T) rfl rfl _ 1 (pkCells [p]) rfl hlit.out (by have := HTl.out; have := Hf.out; unfold maxLen; omega) (by have := HTl.out; have := Hf.out; omega) ?_
                         intro v' w2 hm2 _ _
                         obtain ⟨va', vc', rfl⟩ := rowT_slice hm2.out 2 rfl
                         have hm3 : Mem w0 w2 [A0, A1, PkT (.slice va' (T.length + 1) vc') (ps ++ l.take (j + 1)), RefB b N (.slice sa T.length sc), A4] := by
                           have := hm2.out
                           rw [pkT_app _ _ [p] 1 rfl, ← hnx.out] at this
                           exact this
                         obtain ⟨k1, e1⟩ := hm3.cellAt 3 rfl 1 (by omega)
                         simp only [List.getElem?_cons_succ, List.getElem?_cons_zero] at k1
                         have hm4 := hm3.stored 3 rfl 1 (.slice va' (T.length + 1) vc'))
          all_goals
            have Hm4 := Lib.hid hm4
            clear hm4 hm3 hm2
            go_wp2
            go_roundw
            case rel => exact ⟨j + 1, _, by omega, by go_num, rfl, Hm4.out⟩
            case measure => simp [intOf]; omega
        · obtain rfl : j = l.length := by omega
          rw [List.take_length] at hmq
          clear c1 f1 hbb
          obtain ⟨rfl, rfl⟩ := hno.out hany.out
          go_wp2
          go_ret2
          exact ⟨rfl, _, hmq⟩

end
end Go.Proofs.Ytneikamjlbfglaa
