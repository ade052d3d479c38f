/-
  What each of some entities takes: as data, and the document's Hits. No conditions of their own.
-/
import Derived.Test.YtcjeocibnfoenaaGreatTjF
import Derived.Test.YtcjeocibnfoenaaGreatTiP
namespace Go.Proofs.YtcjeocibnfoenaaGreat
open Go.RowKit Go.Joins Go.Deep Go.Sort

theorem rows_apart {w : World} {b1 b2 s1 s2 : Nat} {e1 e2 : TypeId} {v1 v2 : Value} {n1 n2 : Nat} {x1 x2 : List Value} (h1 : w.ownsRow b1 e1 s1 v1 n1 x1) (h2 : w.ownsRow b2 e2 s2 v2 n2 x2) (he : e1 ≠ e2) : ∀ k, v1.ownBlock = some k → ¬ v2.ownBlock = some k := by
  intro k hk1 hk2
  rcases h1.2 with ⟨rfl, _⟩ | ⟨g, _, _, rfl, _, hh, _⟩
  · cases hk1
  · rcases h2.2 with ⟨rfl, _⟩ | ⟨g', _, _, rfl, _, hh', _⟩
    · cases hk2
    · cases hk1
      cases hk2
      rw [hh] at hh'
      injection hh' with hh'
      injection hh' with _ e2
      exact he e2
theorem ownsRow_base {w : World} {b b' : Nat} {e : TypeId} {size : Nat} {v : Value} {n : Nat} {xs : List Value} (h : w.ownsRow b e size v n xs) (hb : b' ≤ b) : w.ownsRow b' e size v n xs := by
  refine ⟨h.1, ?_⟩
  rcases h.2 with h2 | ⟨g, cap, cur, h1, h2, h3⟩
  · exact .inl h2
  · exact .inr ⟨g, cap, cur, h1, Nat.le_trans hb h2, h3⟩
theorem Tryz.infoHt : (Tryz.prog.info? 84).map (fun i => (i.zero, i.size, i.bytes)) = some (some (.agg (htC ⟨0, 0, 0, 0⟩).toArray), 4, 32) := by kernel_rfl
def hit1 (u : Int) (own : List Bd) (b : Bd) : List Ht := bif hasB b.m 4 && decide (0 < takeI u b own 0) then [⟨b.s, b.i, b.g, takeI u b own 0⟩] else []
def hitsOf (u : Int) (own l : List Bd) : List Ht := l.flatMap (hit1 u own)
theorem hitsOf_succ (u : Int) (own l : List Bd) (i : Nat) (h : i < l.length) : hitsOf u own (l.take (i + 1)) = hitsOf u own (l.take i) ++ hit1 u own l[i] := by
  unfold hitsOf
  rw [List.take_succ_eq_append_getElem h, List.flatMap_append]
  simp
theorem hit1_len (u : Int) (own : List Bd) (b : Bd) : (hit1 u own b).length ≤ 1 := by
  unfold hit1
  cases hasB b.m 4 && decide (0 < takeI u b own 0) <;> simp
theorem hitsOf_len (u : Int) (own l : List Bd) : (hitsOf u own l).length ≤ l.length := by
  induction l with
  | nil => simp [hitsOf]
  | cons b l ih =>
    have h := hit1_len u own b
    unfold hitsOf at ih ⊢
    simp only [List.flatMap_cons, List.length_append, List.length_cons]
    omega

set_option maxRecDepth 100000 in
set_option maxHeartbeats 4000000 in
theorem rhits_any (w : World) (v : Value) (l : List Bd) (hv : RdOf cBd w v l) (hs : SortedB l) (hl : l.length ≤ 1000) (hok : ∀ c ∈ l, c.ok) (u : Int) :
    Calls Tryz.prog 34 #[.int .i64 u, v, .slice none 0 0] w fun e w' => ∃ v', e = .returned v' ∧ OwnOf cHt 84 w' w.heap.size v' (hitsOf u l l) ∧ Keeps No w w' := by
  obtain ⟨i0, hi, hz0, hz1, hz2⟩ := info_parts Tryz.infoHt
  obtain ⟨va, vc, rfl⟩ := hv.slice
  have HV := Lib.hid hv
  have HO := Lib.hid hok
  have HSO := Lib.hid (rsorted_any w _ l hv hs hl)
  have HL := Lib.hid hl
  have HLI : Hid ((l.length : Int) ≤ 1000) := Lib.hid (by omega)
  clear hv hok hs hl
  go_enter Tryz.func34, Tryz.ntmps34
  go_wp2_with fail
  refine HSO.out.mono ?_
  rintro e W ⟨sv, rfl, hso, hk⟩
  obtain ⟨sa, sc, rfl⟩ := ownsRow_slice hso
  have KW := Lib.hid hk
  have SO := Lib.hid hso
  clear hk hso HSO
  have hn := HLI.out
  go_wp2_with fail
  go_loopw [7, 9] (fun o q wr => ∃ i : Nat, i ≤ l.length ∧ q = .int .i64 i ∧ OwnOf cHt 84 wr W.heap.size o (hitsOf u l (l.take i)) ∧ Keeps No W wr) (fun _ q _ => l.length - (intOf q).toNat)
  case atStart => exact ⟨0, Nat.zero_le _, rfl, World.ownsRow_nil _ _ _ _, Keeps.refl _⟩
  case round =>
    obtain ⟨i, hil, rfl, hO, hK⟩ := hrel
    obtain ⟨wo, hwo⟩ : ∃ x : World, x = wr := ⟨_, rfl⟩
    subst hwo
    have K := Lib.hid hK
    have HO1 := Lib.hid hO
    obtain ⟨oa, oc, rfl⟩ := ownsRow_slice hO
    have hi0 : (0 : Int) ≤ (i : Int) := by omega
    by_cases hlt : i < l.length
    · have hlti : (i : Int) < (l.length : Int) := by omega
      have hrs : RdOf cBd W (.slice sa l.length sc) l := OwnOf.reads SO.out
      obtain ⟨g, off, rfl, _, _, _⟩ := RdOf.addr cBd hrs (by omega)
      have c11 := hK.cellsAt (RdOf.at cBd hrs i hlt)
      obtain ⟨c, hc⟩ : ∃ c, c = l[i] := ⟨_, rfl⟩
      have HCM : Hid (i64 c.m) := Lib.hid (by rw [hc]; exact (HO.out _ (List.getElem_mem hlt)).m)
      have HH : Hid (hitsOf u l (l.take (i + 1)) = hitsOf u l (l.take i) ++ hit1 u l c) := Lib.hid (by rw [hc]; exact hitsOf_succ u l l i hlt)
      have c12 : cellsAt wo g (off + i * 11) 11 = some (bdC c) := by rw [hc]; exact c11
      have C11 := Lib.hid c12
      have c3 := cellsAt_cell c12 3 _ rfl
      clear c11 hc hrs hO hK
      obtain ⟨H, hH⟩ : ∃ H, H = hasB c.m 4 := ⟨_, rfl⟩
      have CH := Lib.hid (fun W => bit_any W c.m 4 HCM.out (.inr (.inr (.inl rfl))))
      rw [← hH] at CH
      obtain ⟨t, ht⟩ : ∃ t, t = takeI u c l 0 := ⟨_, rfl⟩
      have TB : -1073741824 ≤ t ∧ t ≤ 1073741824 := by rw [ht]; exact takeI_bnd u c l 0 (by omega)
      have T1 := Lib.hid (fun W2 (hk : Keeps No W W2) => rtakes_any W2 c _ l (HV.out.kept (KW.out.trans hk (fun _ _ h => h)) (fun _ _ h => h)) HL.out HO.out u 0 (by omega))
      have T2 := Lib.hid (fun W2 => rtakes_any W2 c (.slice none 0 0) [] (Reads.nil _ _) (by simp) (fun _ h => by cases h) u t TB)
      have e2 : takeI u c [] t = t := rfl
      rw [e2] at T2
      rw [← ht] at T1
      have HH2 : Hid (hitsOf u l (l.take (i + 1)) = hitsOf u l (l.take i) ++ bif H && decide (0 < t) then [⟨c.s, c.i, c.g, t⟩] else []) := Lib.hid (by rw [HH.out, hH, ht]; rfl)
      clear HH hH ht e2
      cases H with
      | false =>
        go_wp2_with fail
        refine (CH.out _).mono ?_
        rintro e w1 ⟨rfl, hw⟩
        have hw := hw.symm
        subst hw
        go_wp2
        go_roundw
        case rel => exact ⟨i + 1, by omega, by go_num, by rw [HH2.out]; simpa using HO1.out, K.out⟩
        case measure => simp [intOf]; omega
      | true =>
        go_wp2_with fail
        refine (CH.out _).mono ?_
        rintro e w1 ⟨rfl, hw⟩
        have hw := hw.symm
        subst hw
        go_wp2_with fail
        refine (T1.out _ K.out).mono ?_
        rintro e w2 ⟨rfl, hk2⟩
        have c13 := hk2.cellsAt C11.out
        have K2 := Lib.hid (K.out.trans hk2 (fun _ _ h => h))
        have O2 := Lib.hid (hk2.owns HO1.out (fun _ _ h => h))
        clear c12 c3 hk2
        go_wp2_with fail
        refine (T2.out _).mono ?_
        rintro e w3 ⟨rfl, hk3⟩
        have c14 := hk3.cellsAt c13
        have K3 := Lib.hid (K2.out.trans hk3 (fun _ _ h => h))
        have O3 := Lib.hid (hk3.owns O2.out (fun _ _ h => h))
        have c15 : cellsAt w3 g (off + i * 11) 3 = some [.int .i64 c.s, .int .i64 c.i, .int .i64 c.g] := cellsAt_part c14 0 [.int .i64 c.s, .int .i64 c.i, .int .i64 c.g] rfl (by simp)
        clear c13 c14 hk3 T1 T2 CH
        by_cases h0 : 0 < t
        · rw [decide_eq_true h0] at HH2
          have HLN := Lib.hid (hitsOf_len u l (l.take i))
          obtain ⟨L, hL⟩ : ∃ L, L = hitsOf u l (l.take i) := ⟨_, rfl⟩
          rw [← hL] at O3 HH2 HLN ⊢
          have HN : Hid (L.length ≤ 1000) := Lib.hid (by have h1 := HLN.out; have h2 := HLI.out; rw [List.length_take] at h1; omega)
          clear hL HLN
          have hO' : (w3.alloc (.cells #[.int .i64 c.s, .int .i64 c.i, .int .i64 c.g, .int .i64 t] 84)).ownsRow W.heap.size 84 4 (.slice oa L.length oc) L.length (rowsOf cHt L) := O3.out.alloc _
          have hlit : Reads (w3.alloc (.cells #[.int .i64 c.s, .int .i64 c.i, .int .i64 c.g, .int .i64 t] 84)) 4 (.slice (some ⟨w3.heap.size, 0, none⟩) 1 1) 1 (htC ⟨c.s, c.i, c.g, t⟩) := Reads.ofOwn (World.ownsRow_lit (base := 0) w3 #[.int .i64 c.s, .int .i64 c.i, .int .i64 c.g, .int .i64 t] 1 (Nat.zero_le _) (by unfold maxLen; omega) rfl) (cHt.one _)
          go_wp2_with (at_builtin; refine wpList_append_reads rfl (.tmp 43) (.tmp 51) 80 rfl W.heap.size 84 i0 _ 4 32 Tryz.underlying80 hi hz0 hz1 hz2 rfl (by decide) _ L.length _ rfl hO' _ 1 (htC ⟨c.s, c.i, c.g, t⟩) rfl hlit ?c1 ?c2 ?c3 ?c4)
          case c1 => have := HN.out; unfold maxLen; omega
          case c2 => have := HN.out; omega
          case c3 => have := K3.out.size; simp; omega
          case c4 =>
            intro v' w5 hown1 hk1 _ _
            have K5 : Hid (Keeps No W w5) := Lib.hid ((K3.out.alloc _).trans hk1 (fun j hj hof => by
              have := (O3.out.lt j hof).1
              omega))
            have O5 : Hid (OwnOf cHt 84 w5 W.heap.size v' (L ++ [⟨c.s, c.i, c.g, t⟩])) := Lib.hid (by
              unfold OwnOf
              rw [List.length_append, rowsOf_append, rowsOf_one]
              exact hown1)
            clear hown1 hk1 hO' hlit
            go_wp2
            go_roundw
            case rel => exact ⟨i + 1, by omega, by go_num, by rw [HH2.out]; exact O5.out, K5.out⟩
            case measure => simp [intOf]; omega
        · rw [decide_eq_false h0] at HH2
          go_wp2
          go_roundw
          case rel => exact ⟨i + 1, by omega, by go_num, by rw [HH2.out]; simpa using O3.out, K3.out⟩
          case measure => simp [intOf]; omega
    · have hlti : ¬ ((i : Int) < (l.length : Int)) := by omega
      have hT : l.take i = l := List.take_of_length_le (by omega)
      rw [hT] at HO1 ⊢
      clear hK hO
      have FO : Hid (OwnOf cHt 84 wo w.heap.size (.slice oa (hitsOf u l l).length oc) (hitsOf u l l)) := Lib.hid (ownsRow_base HO1.out KW.out.size)
      go_wp2
      go_ret
      exact ⟨_, rfl, FO.out, KW.out.trans K.out (fun _ _ h => h)⟩
end Go.Proofs.YtcjeocibnfoenaaGreat
