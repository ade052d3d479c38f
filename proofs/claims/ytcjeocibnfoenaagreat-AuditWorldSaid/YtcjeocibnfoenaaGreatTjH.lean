/-
  systems.Hits. No conditions of its own.
-/
import Derived.Test.YtcjeocibnfoenaaGreatTjG
namespace Go.Proofs.YtcjeocibnfoenaaGreat
open Go.RowKit Go.Joins Go.Deep Go.Sort

set_option maxRecDepth 100000 in
set_option maxHeartbeats 8000000 in
theorem hits_any (w : World) (v : Value) (l : List Bd) (hv : RdOf cBd w v l) (hs : SortedB l) (hl : l.length ≤ 1000) (u : Int) :
    Calls Tryz.prog 23 #[.int .i64 u, v, .slice none 0 0] w fun e w' => ∃ v', e = .returned v' ∧ OwnOf cHt 84 w' w.heap.size v' (hitsOf u l l) ∧ Keeps No w w' := by
  obtain ⟨i0, hi, hz0, hz1, hz2⟩ := info_parts Tryz.infoHt
  obtain ⟨va, vc, rfl⟩ := hv.slice
  have HV := Lib.hid hv
  have HSO := Lib.hid (sorted_any hv hs (by omega))
  have HLI : Hid ((l.length : Int) ≤ 1000) := Lib.hid (by omega)
  clear hv hs hl
  go_enter Tryz.func23, Tryz.ntmps23
  go_wp2_with fail
  refine HSO.out.mono ?_
  rintro e W ⟨sv, rfl, hso, hk⟩
  obtain ⟨sa, sc, rfl⟩ := ownsRow_slice hso
  have KW := Lib.hid hk
  have SO := Lib.hid hso
  clear hk hso HSO
  have hn := HLI.out
  go_wp2_with fail
  go_loopw [7, 18] (fun o q wr => ∃ i : Nat, i ≤ l.length ∧ q = .int .i64 i ∧ OwnOf cHt 84 wr W.heap.size o (hitsOf u l (l.take i)) ∧ Keeps No W wr) (fun _ q _ => l.length - (intOf q).toNat)
  case atStart => exact ⟨0, Nat.zero_le _, rfl, World.ownsRow_nil _ _ _ _, Keeps.refl _⟩
  case round =>
    obtain ⟨i, hil, rfl, hO, hK⟩ := hrel
    obtain ⟨wo, hwo⟩ : ∃ x : World, x = wr := ⟨_, rfl⟩
    subst hwo
    have K := Lib.hid hK
    have HO1 := Lib.hid hO
    obtain ⟨oa, oc, rfl⟩ := ownsRow_slice hO
    have hi0 : (0 : Int) ≤ (i : Int) := by omega
    by_cases hlt : i < l.length
    · have hlti : (i : Int) < (l.length : Int) := by omega
      have hrs : RdOf cBd W (.slice sa l.length sc) l := OwnOf.reads SO.out
      obtain ⟨g, off, rfl, _, _, _⟩ := RdOf.addr cBd hrs (by omega)
      have c11 := hK.cellsAt (RdOf.at cBd hrs i hlt)
      obtain ⟨c, hc⟩ : ∃ c, c = l[i] := ⟨_, rfl⟩
      have HH : Hid (hitsOf u l (l.take (i + 1)) = hitsOf u l (l.take i) ++ hit1 u l c) := Lib.hid (by rw [hc]; exact hitsOf_succ u l l i hlt)
      have c12 : cellsAt wo g (off + i * 11) 11 = some (bdC c) := by rw [hc]; exact c11
      clear c11 hc hrs hO hK
      obtain ⟨H, hH⟩ : ∃ H, H = hasB c.m 4 := ⟨_, rfl⟩
      have CH := Lib.hid (fun W => has4 W c)
      rw [← hH] at CH
      obtain ⟨t, ht⟩ : ∃ t, t = takeI u c l 0 := ⟨_, rfl⟩
      have TB : Hid (-1073741824 ≤ t ∧ t ≤ 1073741824) := Lib.hid (by rw [ht]; exact takeI_bnd u c l 0 (by omega))
      have HT := Lib.hid ht
      have HH2 : Hid (hitsOf u l (l.take (i + 1)) = hitsOf u l (l.take i) ++ bif H && decide (0 < t) then [⟨c.s, c.i, c.g, t⟩] else []) := Lib.hid (by rw [HH.out, hH, ht]; rfl)
      clear HH hH ht
      go_wp2_with fail
      refine (CH.out _).mono ?_
      rintro e w1 ⟨rfl, hg⟩
      have cb1 : cellsAt w1 wo.heap.size 0 11 = some (bdC c) := hg.keeps.cellsAt (by simp [go_sem])
      have K1 : Hid (Keeps No W w1) := Lib.hid ((K.out.alloc _).trans hg.keeps (fun _ _ h => h))
      have O1 : Hid (OwnOf cHt 84 w1 W.heap.size (.slice oa (hitsOf u l (l.take i)).length oc) (hitsOf u l (l.take i))) := Lib.hid (hg.keeps.owns (HO1.out.alloc _) (fun _ _ h => h))
      obtain ⟨gc, hgc⟩ : ∃ g, g = wo.heap.size := ⟨_, rfl⟩
      rw [← hgc] at cb1 ⊢
      have CB1 := Lib.hid cb1
      clear hg CH c12 hgc cb1 HO1 K
      cases H with
      | false =>
        go_wp2
        go_roundw
        case rel => exact ⟨i + 1, by omega, by go_num, by rw [HH2.out]; simpa using O1.out, K1.out⟩
        case measure => simp [intOf]; omega
      | true =>
        go_wp2_with fail
        refine wp_world ?_
        intro w2 hw2
        have K12 : Hid (Keeps No w1 w2) := Lib.hid (by rw [hw2]; exact (Keeps.refl w1).alloc _)
        have s0 : Hid (w2.cell? ⟨w1.heap.size, 0, none⟩ = some (.slice va l.length vc) ∧ w2.cell? ⟨w1.heap.size, 1, none⟩ = some (.slice none 0 0)) := Lib.hid (by rw [hw2]; exact ⟨by simp [go_sem], by simp [go_sem]⟩)
        obtain ⟨gs, hgs⟩ : ∃ g, g = w1.heap.size := ⟨_, rfl⟩
        rw [← hgs]
        rw [← hgs] at s0
        clear hw2 hgs
        go_loopw [10, 29] (fun sm q wr => Keeps No w2 wr ∧ ((q = .int .i64 0 ∧ sm = .int .i64 0) ∨ (q = .int .i64 1 ∧ sm = .int .i64 t) ∨ (q = .int .i64 2 ∧ sm = .int .i64 t))) (fun _ q _ => 2 - (intOf q).toNat)
        case atStart => exact ⟨Keeps.refl _, .inl ⟨rfl, rfl⟩⟩
        case round =>
          obtain ⟨hk2, hrel⟩ := hrel
          obtain ⟨wp, hwp⟩ : ∃ x : World, x = wr := ⟨_, rfl⟩
          subst hwp
          have K2 := Lib.hid hk2
          rcases hrel with ⟨rfl, rfl⟩ | ⟨rfl, rfl⟩ | ⟨rfl, rfl⟩
          · have s1 := hk2.cell s0.out.1 (fun h => h)
            clear hk2
            go_wp2_with fail
            have KP : Hid (Keeps No w wp) := Lib.hid (KW.out.trans (K1.out.trans (K12.out.trans K2.out (fun _ _ h => h)) (fun _ _ h => h)) (fun _ _ h => h))
            have CBP := Lib.hid ((K12.out.trans K2.out (fun _ _ h => h)).cellsAt CB1.out)
            clear s1
            go_loopw [10, 35] (fun sm q wi => ∃ j : Nat, j ≤ l.length ∧ q = .int .i64 j ∧ sm = .int .i64 (takeI u c (l.take j) 0) ∧ Keeps No wp wi) (fun _ q _ => l.length - (intOf q).toNat)
            case atStart => exact ⟨0, Nat.zero_le _, rfl, rfl, Keeps.refl _⟩
            case round =>
              obtain ⟨j, hjl, rfl, rfl, hK⟩ := hrel
              obtain ⟨wq, hwq⟩ : ∃ x : World, x = wr := ⟨_, rfl⟩
              subst hwq
              have K := Lib.hid hK
              have hj0 : (0 : Int) ≤ (j : Int) := by omega
              have SB := takeI_bnd u c (l.take j) 0 (by omega)
              by_cases hltj : j < l.length
              · have hltji : (j : Int) < (l.length : Int) := by omega
                have hr : RdOf cBd wq (.slice va l.length vc) l := HV.out.kept (KP.out.trans hK (fun _ _ h => h)) (fun _ _ h => h)
                obtain ⟨gv, offv, rfl, _, _, _⟩ := RdOf.addr cBd hr (by omega)
                have c11 := RdOf.at cBd hr j hltj
                obtain ⟨x, hx⟩ : ∃ x, x = l[j] := ⟨_, rfl⟩
                have HX : Hid (takeI u c (l.take (j + 1)) 0 = takeS u c (takeI u c (l.take j) 0) x) := Lib.hid (by rw [hx]; exact takeI_succ u c l 0 j hltj)
                have c12 : cellsAt wq gv (offv + j * 11) 11 = some (bdC x) := by rw [hx]; exact c11
                clear c11 hx hr
                have cb1 := hK.cellsAt CBP.out
                have lb : gc < wq.heap.size := block_lt_of_cell (cellsAt_cell cb1 0 _ rfl)
                have b0 : cellsAt wq gc 0 3 = some [.int .i64 c.s, .int .i64 c.i, .int .i64 c.g] := cellsAt_part cb1 0 [.int .i64 c.s, .int .i64 c.i, .int .i64 c.g] rfl (by simp)
                have b4 := cellsAt_cell cb1 4 _ rfl
                have b5 := cellsAt_cell cb1 5 _ rfl
                simp only [Nat.zero_add] at b4 b5
                obtain ⟨s, hs⟩ : ∃ s, s = takeI u c (l.take j) 0 := ⟨_, rfl⟩
                rw [← hs] at HX SB ⊢
                obtain ⟨T, hT⟩ : ∃ T, T = neq x.id c.id := ⟨_, rfl⟩
                have heq : ∀ W, (binOp .neq 36 (.agg #[.int .i64 x.s, .int .i64 x.i, .int .i64 x.g]) (.agg #[.int .i64 c.s, .int .i64 c.i, .int .i64 c.g])).run Tryz.prog W = .ok (.bool (!T)) W := fun W => by rw [hT]; exact run_neqID _ _ _ _ _ _ W
                obtain ⟨H8, hH⟩ : ∃ H, H = hasB x.m 8 := ⟨_, rfl⟩
                have CH := Lib.hid (fun W => has8 W x)
                rw [← hH] at CH
                obtain ⟨F, hF⟩ : ∃ F, F = far c.x c.y x.x x.y := ⟨_, rfl⟩
                have CF := Lib.hid (fun W => far_any W c.x c.y x.x x.y)
                rw [← hF] at CF
                have HT2 : Hid (takeI u c (l.take (j + 1)) 0 = bif !T && (H8 && decide (F ≤ u)) then cl (s + cl x.pw) else s) := Lib.hid (by rw [HX.out, hT, hH, hF]; rfl)
                clear hT hH hF HX hs hK cb1
                have KA : Hid (Keeps No wp (wq.alloc (.cells (bdC x).toArray 38))) := Lib.hid (K.out.alloc _)
                cases T with
                | true =>
                  go_wp2
                  go_roundw
                  case rel => exact ⟨j + 1, by omega, by go_num, by rw [HT2.out]; rfl, KA.out⟩
                  case measure => simp [intOf]; omega
                | false =>
                  go_wp2_with fail
                  refine (CH.out _).mono ?_
                  rintro e w5 ⟨rfl, hg⟩
                  have K5 : Hid (Keeps No wp w5) := Lib.hid (KA.out.trans hg.keeps (fun _ _ h => h))
                  have x11 : cellsAt w5 wq.heap.size 0 11 = some (bdC x) := hg.keeps.cellsAt (by simp [go_sem])
                  have y11 : cellsAt w5 gc 0 11 = some (bdC c) := K5.out.cellsAt CBP.out
                  obtain ⟨gx, hgx⟩ : ∃ g, g = wq.heap.size := ⟨_, rfl⟩
                  rw [← hgx] at x11 ⊢
                  have b4 := cellsAt_cell y11 4 _ rfl
                  have b5 := cellsAt_cell y11 5 _ rfl
                  have x4 := cellsAt_cell x11 4 _ rfl
                  have x5 := cellsAt_cell x11 5 _ rfl
                  have x9 := cellsAt_cell x11 9 _ rfl
                  simp only [Nat.zero_add] at b4 b5 x4 x5 x9
                  clear hg KA K c12 hgx lb x11 y11 b0
                  cases H8 with
                  | false =>
                    go_wp2
                    go_roundw
                    case rel => exact ⟨j + 1, by omega, by go_num, by rw [HT2.out]; rfl, K5.out⟩
                    case measure => simp [intOf]; omega
                  | true =>
                    by_cases hF : F ≤ u
                    · rw [decide_eq_true hF] at HT2
                      go_wp2_with (first
                        | (go_at_call 53; have hc := CF.out; with_reducible refine (hc _).mono ?_; rintro e w1 ⟨rfl, hw⟩; clear hc; have hw := hw.symm; subst hw))
                      have eS : cl (cl s + cl x.pw) = cl (s + cl x.pw) := by rw [cl_in SB.1 SB.2]
                      rw [← eS] at HT2
                      refine (add2_any _ w5.heap.size 0 2 s x.pw (by simp [go_sem]) (by simp [go_sem])).mono ?_
                      rintro e w6 ⟨rfl, hw⟩
                      have K6 : Hid (Keeps No wp w6) := Lib.hid (by rw [hw]; exact K5.out.alloc _)
                      clear hw eS
                      go_wp2
                      go_roundw
                      case rel => exact ⟨j + 1, by omega, by go_num, by rw [HT2.out]; rfl, K6.out⟩
                      case measure => simp [intOf]; omega
                    · rw [decide_eq_false hF] at HT2
                      go_wp2_with (first
                        | (go_at_call 53; have hc := CF.out; with_reducible refine (hc _).mono ?_; rintro e w1 ⟨rfl, hw⟩; clear hc; have hw := hw.symm; subst hw))
                      go_roundw
                      case rel => exact ⟨j + 1, by omega, by go_num, by rw [HT2.out]; rfl, K5.out⟩
                      case measure => simp [intOf]; omega
              · have hltji : ¬ ((j : Int) < (l.length : Int)) := by omega
                have hTk : l.take j = l := List.take_of_length_le (by omega)
                rw [hTk, ← HT.out]
                clear hK hTk
                go_wp2
                go_roundw
                case rel => exact ⟨K2.out.trans K.out (fun _ _ h => h), .inr (.inl ⟨by go_num, rfl⟩)⟩
                case measure => simp [intOf]
          · have s1 := hk2.cell s0.out.2 (fun h => h)
            clear hk2
            go_wp2_with fail
            go_loopw [10, 35] (fun sm q wi => q = .int .i64 0 ∧ sm = .int .i64 t ∧ wp = wi) (fun _ _ _ => 0)
            case atStart => exact ⟨rfl, rfl, rfl⟩
            case round =>
              obtain ⟨rfl, rfl, rfl⟩ := hrel
              go_wp2
              go_roundw
              case rel => exact ⟨K2.out, .inr (.inr ⟨by go_num, by trivial⟩)⟩
              case measure => simp [intOf]
          · clear hk2
            have K3 : Hid (Keeps No W wp) := Lib.hid (K1.out.trans (K12.out.trans K2.out (fun _ _ h => h)) (fun _ _ h => h))
            have O3 : Hid (OwnOf cHt 84 wp W.heap.size (.slice oa (hitsOf u l (l.take i)).length oc) (hitsOf u l (l.take i))) := Lib.hid ((K12.out.trans K2.out (fun _ _ h => h)).owns O1.out (fun _ _ h => h))
            have c15 : cellsAt wp gc 0 3 = some [.int .i64 c.s, .int .i64 c.i, .int .i64 c.g] := cellsAt_part ((K12.out.trans K2.out (fun _ _ h => h)).cellsAt CB1.out) 0 [.int .i64 c.s, .int .i64 c.i, .int .i64 c.g] rfl (by simp)
            have TB1 := TB.out
            by_cases h0 : 0 < t
            · rw [decide_eq_true h0] at HH2
              have HLN := Lib.hid (hitsOf_len u l (l.take i))
              obtain ⟨L, hL⟩ : ∃ L, L = hitsOf u l (l.take i) := ⟨_, rfl⟩
              rw [← hL] at O3 HH2 HLN ⊢
              have HN : Hid (L.length ≤ 1000) := Lib.hid (by have h1 := HLN.out; have h2 := HLI.out; rw [List.length_take] at h1; omega)
              clear hL HLN
              have hO' : (wp.alloc (.cells #[.int .i64 c.s, .int .i64 c.i, .int .i64 c.g, .int .i64 t] 84)).ownsRow W.heap.size 84 4 (.slice oa L.length oc) L.length (rowsOf cHt L) := O3.out.alloc _
              have hlit : Reads (wp.alloc (.cells #[.int .i64 c.s, .int .i64 c.i, .int .i64 c.g, .int .i64 t] 84)) 4 (.slice (some ⟨wp.heap.size, 0, none⟩) 1 1) 1 (htC ⟨c.s, c.i, c.g, t⟩) := Reads.ofOwn (World.ownsRow_lit (base := 0) wp #[.int .i64 c.s, .int .i64 c.i, .int .i64 c.g, .int .i64 t] 1 (Nat.zero_le _) (by unfold maxLen; omega) rfl) (cHt.one _)
              go_wp2_with (at_builtin; refine wpList_append_reads rfl (.tmp 70) (.tmp 75) 80 rfl W.heap.size 84 i0 _ 4 32 Tryz.underlying80 hi hz0 hz1 hz2 rfl (by decide) _ L.length _ rfl hO' _ 1 (htC ⟨c.s, c.i, c.g, t⟩) rfl hlit ?c1 ?c2 ?c3 ?c4)
              case c1 => have := HN.out; unfold maxLen; omega
              case c2 => have := HN.out; omega
              case c3 => have := K3.out.size; simp; omega
              case c4 =>
                intro v' w5 hown1 hk1 _ _
                have K5 : Hid (Keeps No W w5) := Lib.hid ((K3.out.alloc _).trans hk1 (fun j hj hof => by
                  have := (O3.out.lt j hof).1
                  omega))
                have O5 : Hid (OwnOf cHt 84 w5 W.heap.size v' (L ++ [⟨c.s, c.i, c.g, t⟩])) := Lib.hid (by
                  unfold OwnOf
                  rw [List.length_append, rowsOf_append, rowsOf_one]
                  exact hown1)
                clear hown1 hk1 hO' hlit
                go_wp2
                go_roundw
                case rel => exact ⟨i + 1, by omega, by go_num, by rw [HH2.out]; exact O5.out, K5.out⟩
                case measure => simp [intOf]; omega
            · rw [decide_eq_false h0] at HH2
              go_wp2
              go_roundw
              case rel => exact ⟨i + 1, by omega, by go_num, by rw [HH2.out]; simpa using O3.out, K3.out⟩
              case measure => simp [intOf]; omega
    · have hlti : ¬ ((i : Int) < (l.length : Int)) := by omega
      have hT : l.take i = l := List.take_of_length_le (by omega)
      rw [hT] at HO1 ⊢
      clear hK hO
      have FO : Hid (OwnOf cHt 84 wo w.heap.size (.slice oa (hitsOf u l l).length oc) (hitsOf u l l)) := Lib.hid (ownsRow_base HO1.out KW.out.size)
      go_wp2
      go_ret
      exact ⟨_, rfl, FO.out, KW.out.trans K.out (fun _ _ h => h)⟩
end Go.Proofs.YtcjeocibnfoenaaGreat
