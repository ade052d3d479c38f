/-
  The document's Sorted over entities that are sorted, Same of the same entities. No conditions of their own.
-/
import Derived.Test.YtcjeocibnfoenaaGreatTiN
import Derived.Test.YtcjeocibnfoenaaGreatTiK
import Derived.BigQuiet
namespace Go.Proofs.YtcjeocibnfoenaaGreat
open Go.RowKit Go.Joins Go.Deep Go.Sort

set_option maxHeartbeats 1000000 in
theorem beforeG_any (a : Bd) (s i g : Int) (w : World) : Calls Tryz.prog 64 #[.agg #[.int .i64 a.s, .int .i64 a.i, .int .i64 a.g], .agg #[.int .i64 s, .int .i64 i, .int .i64 g]] w fun e w' => e = .returned (.bool (decide (cmpN a s i g < 0))) ∧ Grown w w' := by
  have key : decide (cmpN a s i g < 0) = if (a.s != s) = true then decide (a.s < s) else if (a.i != i) = true then decide (a.i < i) else decide (a.g < g) := by
    rw [Bool.eq_iff_iff]
    by_cases h1 : a.s = s
    · by_cases h2 : a.i = i
      · simp [cmpN_lt, h1, h2]
      · simp [cmpN_lt, h1, h2]
    · simp [cmpN_lt, h1]
  rw [key]
  clear key
  cases h1 : (a.s != s)
  · cases h2 : (a.i != i)
    · go_enter Tryz.func64, Tryz.ntmps64
      go_wp2
      go_ret
      exact ⟨by simp, ((Grown.same w).alloc _).alloc _⟩
    · go_enter Tryz.func64, Tryz.ntmps64
      go_wp2
      go_ret
      exact ⟨by simp, ((Grown.same w).alloc _).alloc _⟩
  · go_enter Tryz.func64, Tryz.ntmps64
    go_wp2
    go_ret
    exact ⟨by simp, ((Grown.same w).alloc _).alloc _⟩


/-- what is stored is there already -/
theorem store_same {w : World} {g o n : Nat} {l : List Value} (h : Open w g) (hc : cellsAt w g o n = some l) : w.setRow g (splice (rowD w g) o l) = w := by
  obtain ⟨C, t, h0⟩ := h
  have hD : rowD w g = C := by simp [rowD, h0]
  have hcell : ∀ j v, l[j]? = some v → C[o + j]? = some v := fun j v hj => by
    have := cellsAt_cell hc j v hj
    rwa [cell_of_row w g _ _ _ _ h0] at this
  have hl : (C.toList.drop o).take l.length = l := by
    apply List.ext_getElem?
    intro j
    rw [List.getElem?_take]
    by_cases hj : j < l.length
    · obtain ⟨v, hv⟩ : ∃ v, l[j]? = some v := ⟨_, List.getElem?_eq_getElem hj⟩
      rw [if_pos hj, List.getElem?_drop, hv]
      simpa using hcell j v hv
    · rw [if_neg hj, List.getElem?_eq_none (by omega)]
  have hs : splice (rowD w g) o l = C := by
    rw [hD]
    apply Array.ext'
    unfold splice
    show C.toList.take o ++ l ++ C.toList.drop (o + l.length) = C.toList
    conv => lhs; rw [← hl]
    rw [hl, List.append_assoc]
    have : l ++ C.toList.drop (o + l.length) = C.toList.drop o := by
      conv => lhs; arg 1; rw [← hl]
      rw [← List.drop_drop, List.take_append_drop]
    rw [this, List.take_append_drop]
  rw [hs]
  exact setRow_self w g C t (0, 0) h0
theorem before_not {x y : Bd} (h : nlt x.id y.id = false) : decide (cmpN x y.s y.i y.g < 0) = false := by
  unfold cmpN
  rw [show (⟨y.s, y.i, y.g⟩ : Nam) = y.id from rfl, ncmp_lt, h]
set_option maxRecDepth 100000 in
set_option maxHeartbeats 4000000 in
theorem rsorted_any (w : World) (v : Value) (l : List Bd) (hv : RdOf cBd w v l) (hs : SortedB l) (hl : l.length ≤ 1000) :
    Calls Tryz.prog 35 #[v] w fun e w' => ∃ v', e = .returned v' ∧ OwnOf cBd 38 w' w.heap.size v' l ∧ Keeps No w w' := by
  obtain ⟨i0, hi, hz0, hz1, hz2⟩ := info_parts Tryz.infoBd
  obtain ⟨va, vc, rfl⟩ := hv.slice
  have mx := mixed
  have HV := Lib.hid hv
  have HS := Lib.hid hs
  have HL := Lib.hid hl
  clear hv hs
  have hn : (l.length : Int) ≤ 1000 := by omega
  clear hl
  go_enter Tryz.func35, Tryz.ntmps35
  go_wp2_with fail
  go_loopw [3, 4, 5] (fun o q _ wr => ∃ i : Nat, i ≤ l.length ∧ q = .int .i64 i ∧ OwnOf cBd 38 wr w.heap.size o (l.take i) ∧ Keeps No w wr) (fun _ q _ _ => l.length - (intOf q).toNat)
  case atStart => exact ⟨0, Nat.zero_le _, rfl, World.ownsRow_nil _ _ _ _, Keeps.refl _⟩
  case round =>
    obtain ⟨i, hil, rfl, hO, hK⟩ := hrel
    obtain ⟨wo, hwo⟩ : ∃ x : World, x = wr := ⟨_, rfl⟩
    subst hwo
    have HO := Lib.hid hO
    have HK := Lib.hid hK
    obtain ⟨oa, oc, rfl⟩ := ownsRow_slice hO
    have hti : (l.take i).length = i := by rw [List.length_take]; omega
    have hi0 : (0 : Int) ≤ (i : Int) := by omega
    by_cases hlt : i < l.length
    · have hlti : (i : Int) < (l.length : Int) := by omega
      obtain ⟨b, off, hva, hc1, hc2, hb⟩ := RdOf.addr cBd HV.out (by omega)
      subst hva
      have ci := hK.cellsAt (RdOf.at cBd HV.out i hlt)
      have ci' : cellsAt wo b (off + i * 11) 11 = some (bdC l[i]) := ci
      obtain ⟨x, hx⟩ : ∃ x, x = l[i] := ⟨_, rfl⟩
      have HX := Lib.hid hx
      rw [← hx] at ci'
      have Htk : Hid (l.take (i + 1) = l.take i ++ [x]) := Lib.hid (by rw [List.take_succ_eq_append_getElem hlt, ← hx])
      have hti' : (Value.slice oa (l.take i).length oc) = .slice oa i oc := by rw [hti]
      have hO' : (wo.alloc (.cells (bdC x).toArray 38)).ownsRow w.heap.size 38 11 (.slice oa i oc) i (rowsOf cBd (l.take i)) := by
        have h := hO.alloc (.cells (bdC x).toArray 38)
        rwa [hti] at h
      have hlit : Reads (wo.alloc (.cells (bdC x).toArray 38)) 11 (.slice (some ⟨wo.heap.size, 0, none⟩) 1 1) 1 (bdC x) := Reads.ofOwn (World.ownsRow_lit (base := 0) wo (bdC x).toArray 1 (Nat.zero_le _) (by unfold maxLen; omega) rfl) (cBd.one x)
      rw [hti]
      clear ci hx hO hK hc1 hc2 hb
      have hown := hO'
      go_wp2_with (at_builtin; refine wpList_append_reads rfl (.tmp 14) (.tmp 19) 27 rfl w.heap.size 38 i0 _ 11 88 Tryz.underlying27 hi hz0 hz1 hz2 rfl (by decide) _ i _ rfl hown _ 1 (bdC x) rfl hlit ?c1 ?c2 ?c3 ?c4)
      case c1 => unfold maxLen; omega
      case c2 => omega
      case c3 => have := HK.out.size; simp; omega
      case c4 =>
        intro v' w1 hown1 hk1 _ _
        have K1 : Hid (Keeps No w w1) := Lib.hid ((HK.out.alloc _).trans hk1 (fun j hj hof => by
          have := (HO.out.lt j (by rw [hti']; exact hof)).1
          omega))
        have O1 : Hid (OwnOf cBd 38 w1 w.heap.size v' (l.take (i + 1))) := Lib.hid (by
          unfold OwnOf
          have hl1 : (l.take (i + 1)).length = i + 1 := by rw [List.length_take]; omega
          rw [hl1, Htk.out, rowsOf_append, rowsOf_one]
          exact hown1)
        rcases hown1.2 with ⟨_, h0⟩ | ⟨g, cap, cur, rfl, hbg, hgh, hnc, hcm, hcs, _⟩
        · omega
        have op : Open w1 g := ⟨cur, _, hgh⟩
        have sz : (rowD w1 g).size = cap * 11 := by unfold rowD; rw [hgh]; exact hcs
        have hl1 : (l.take (i + 1)).length = i + 1 := by rw [List.length_take]; omega
        have R1 : RdOf cBd w1 (.slice (some ⟨g, 0, none⟩) (l.take (i + 1)).length cap) (l.take (i + 1)) := by
          have h := OwnOf.reads O1.out
          have e : (Value.slice (some ⟨g, 0, none⟩) (l.take (i + 1)).length cap) = .slice (some ⟨g, 0, none⟩) (i + 1) cap := by rw [hl1]
          rw [e]
          exact h
        have co : cellsAt w1 g (i * 11) 11 = some (bdC x) := by
          have h := RdOf.at cBd R1 i (by omega)
          have e : (l.take (i + 1))[i]'(by omega) = x := by rw [HX.out, List.getElem_take]
          rw [e, Nat.zero_add] at h
          exact h
        have ci1 : cellsAt w1 b (off + i * 11) 11 = some (bdC x) := by
          have h := K1.out.cellsAt (RdOf.at cBd HV.out i hlt)
          rw [← HX.out] at h
          exact h
        have CO := Lib.hid co
        have CI := Lib.hid ci1
        have OP := Lib.hid (And.intro op sz)
        have hsz1 : i * 11 + 11 ≤ cap * 11 := by
          have : (i + 1) * 11 ≤ cap * 11 := Nat.mul_le_mul_right _ hnc
          omega
        have HSZ := Lib.hid hsz1
        have hic : (i : Int) + 1 ≤ (cap : Int) := by omega
        have hlti1 : (i : Int) < (i : Int) + 1 := by omega
        have FIN : Hid (∀ W2, Grown w1 W2 → Open W2 g ∧ (rowD W2 g).size = cap * 11 ∧ cellsAt W2 b (off + i * 11) 11 = some (bdC x) ∧ W2.setRow g (splice (rowD W2 g) (i * 11) (bdC x)) = W2 ∧ OwnOf cBd 38 W2 w.heap.size (.slice (some ⟨g, 0, none⟩) (i + 1) cap) (l.take (i + 1)) ∧ Keeps No w W2) := Lib.hid (fun W2 hG => by
          have hk := hG.keeps
          have ho := hk.opened OP.out.1
          exact ⟨ho, hk.rowSize OP.out.1 OP.out.2, hk.cellsAt CI.out, store_same ho (hk.cellsAt CO.out), hk.owns O1.out (fun _ _ h => h), K1.out.trans hk (fun _ _ h => h)⟩)
        by_cases hi1 : i = 0
        · subst hi1
          clear op sz R1 co ci1 hown1 hk1 hsz1 hlit hown hl1
          go_wp2_with fail
          go_loopw [5] (fun q wr2 => q = .int .i64 0 ∧ w1 = wr2) (fun _ _ => 0)
          case atStart => exact ⟨rfl, rfl⟩
          case round =>
            obtain ⟨rfl, rfl⟩ := hrel
            go_wp2_with fail
            go_quiet (fail)
            have hG2 : Grown w1 (w1.drewN nq) := ⟨nq, #[], by rw [grow_empty]⟩
            obtain ⟨o2, s2, c2, st2, O2, K2⟩ := FIN.out _ hG2
            obtain ⟨W2, hW2⟩ : ∃ W, W = w1.drewN nq := ⟨_, rfl⟩
            rw [← hW2] at o2 s2 c2 st2 O2 K2 ⊢
            clear hW2 hG2
            have HO2 := Lib.hid O2
            have HK2 := Lib.hid K2
            clear O2 K2
            simp only [Nat.zero_mul, Nat.add_zero] at c2 st2
            have hc0 : 0 < cap := by omega
            go_wp2_with fail
            exact ⟨⟨1, by omega, rfl, HO2.out, HK2.out⟩, by simp [intOf]; omega⟩
        · obtain ⟨ip, rfl⟩ : ∃ ip, i = ip + 1 := ⟨i - 1, by omega⟩
          have hip : ip < l.length := by omega
          obtain ⟨y, hy⟩ : ∃ y, y = l[ip] := ⟨_, rfl⟩
          have cy : cellsAt w1 g (ip * 11) 11 = some (bdC y) := by
            have h := RdOf.at cBd R1 ip (by omega)
            have e : (l.take (ip + 1 + 1))[ip]'(by omega) = y := by rw [hy, List.getElem_take]
            rw [e, Nat.zero_add] at h
            exact h
          have hxs : cellsAt w1 b (off + (ip + 1) * 11) 3 = some [.int .i64 x.s, .int .i64 x.i, .int .i64 x.g] := cellsAt_part CI.out 0 [.int .i64 x.s, .int .i64 x.i, .int .i64 x.g] rfl (Nat.zero_lt_succ _)
          have hys : cellsAt w1 g (ip * 11) 3 = some [.int .i64 y.s, .int .i64 y.i, .int .i64 y.g] := cellsAt_part cy 0 [.int .i64 y.s, .int .i64 y.i, .int .i64 y.g] rfl (Nat.zero_lt_succ _)
          have hord : decide (cmpN x y.s y.i y.g < 0) = false := before_not (by
            have h := HS.out.at (Nat.lt_succ_self ip) hlt
            rw [HX.out, hy]
            exact h)
          have HC := Lib.hid (fun W => beforeG_any x y.s y.i y.g W)
          rw [hord] at HC
          have LX : ∀ n os, cellsAt (grow (w1.drewN n) os) b (off + (ip + 1) * 11) 3 = some [.int .i64 x.s, .int .i64 x.i, .int .i64 x.g] := fun n os => (Grown.keeps ⟨n, os, rfl⟩).cellsAt hxs
          have LY : ∀ n os, cellsAt (grow (w1.drewN n) os) g (ip * 11) 3 = some [.int .i64 y.s, .int .i64 y.i, .int .i64 y.g] := fun n os => (Grown.keeps ⟨n, os, rfl⟩).cellsAt hys
          have hcapi : (ip : Int) < (cap : Int) := by omega
          have hcap1 : (ip : Int) + 1 < (ip : Int) + 1 + 1 := by omega
          have hcap2 : (ip : Int) < (ip : Int) + 1 + 1 := by omega
          have hp0 : (0 : Int) < (ip : Int) + 1 := by omega
          have hp1 : decide ((0 : Int) < (ip : Int) + 1) = true := decide_eq_true hp0
          have hp00 : (0 : Int) ≤ (ip : Int) := by omega
          have hlt2 : (ip : Int) + 1 < (l.length : Int) := by omega
          have hp01 : (0 : Int) ≤ (ip : Int) + 1 := by omega
          have hw1 : IntKind.i64.wrap (ip : Int) = (ip : Int) := by rw [IntKind.wrap_i64]; omega
          have ht1 : ((ip : Int) + 1).toNat = ip + 1 := by omega
          clear op sz R1 co ci1 hown1 hk1 hsz1 hlit hown hl1 cy hxs hys hord hy hi1 hic hgh hcs hcm hO'
          go_wp2_with fail
          go_loopw [5] (fun q wr2 => q = .int .i64 ((ip : Int) + 1) ∧ w1 = wr2) (fun _ _ => 0)
          case atStart => exact ⟨by go_num, rfl⟩
          case round =>
            obtain ⟨rfl, rfl⟩ := hrel
            go_wp2_with fail
            go_quiet_grown (first | (go_at_call 64; refine Calls.grown_of (HC.out _)))
            have hG2 : Grown w1 (grow (w1.drewN nq) osq) := ⟨nq, osq, rfl⟩
            obtain ⟨o2, s2, c2, st2, O2, K2⟩ := FIN.out _ hG2
            show Exit.then _ _ Exit.normal _ (grow (w1.drewN nq) osq)
            obtain ⟨W2, hW2⟩ : ∃ W, W = grow (w1.drewN nq) osq := ⟨_, rfl⟩
            rw [← hW2] at o2 s2 c2 st2 O2 K2 ⊢
            clear hW2 hG2 LX LY HC
            have HO2 := Lib.hid O2
            have HK2 := Lib.hid K2
            clear O2 K2
            have hc0 : (ip : Int) + 1 < (cap : Int) := by omega
            have hsz2 := HSZ.out
            go_wp2_with fail
            exact ⟨⟨ip + 1 + 1, by omega, by go_num, HO2.out, HK2.out⟩, by simp [intOf]; omega⟩
    · have hie : i = l.length := by omega
      subst hie
      have hlti : ¬ ((l.length : Int) < (l.length : Int)) := by omega
      rw [hti]
      have FO : Hid (OwnOf cBd 38 wo w.heap.size (.slice oa l.length oc) l) := Lib.hid (by
        have h := HO.out
        rw [hti, List.take_of_length_le (Nat.le_refl _)] at h
        exact h)
      clear HO
      go_wp2
      go_ret
      exact ⟨_, rfl, FO.out, HK.out⟩
end Go.Proofs.YtcjeocibnfoenaaGreat
