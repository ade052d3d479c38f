/-
  The document's tick: with: what it leaves alone. No conditions of its own.
-/
import Derived.Test.YtcjeocibnfoenaaGreatTjP
namespace Go.Proofs.YtcjeocibnfoenaaGreat
open Go.RowKit Go.Joins Go.Deep Go.Sort

/-- names, one more at most -/
def WithPost (w : World) (v : Value) (l : List Nam) (e : Ending) (w' : World) : Prop := ∃ (v' : Value) (l' : List Nam), e = .returned v' ∧ l'.length ≤ l.length + 1 ∧ RdOf cNam w' v' l' ∧ Keeps No w w' ∧ ((v' = v ∧ l' = l) ∨ OwnOf cNam 36 w' w.heap.size v' l')
set_option maxRecDepth 100000 in
set_option maxHeartbeats 8000000 in
theorem rdead_any (w : World) (v : Value) (l : List Nam) (hv : RdOf cNam w v l) (hl : l.length ≤ 100000) (x : Nam) :
    Calls Tryz.prog 38 #[v, namV x] w (WithPost w v l) := by
  obtain ⟨i0, hi, hz0, hz1, hz2⟩ := info_parts Tryz.infoID
  obtain ⟨va, vc, rfl⟩ := hv.slice
  have HV := Lib.hid hv
  have HL := Lib.hid hl
  have hni : (l.length : Int) ≤ 100000 := by omega
  have mx := mixed
  clear hv hl
  go_enter Tryz.func38, Tryz.ntmps38
  go_upto_region 1 with fail
  refine wp_world ?_
  intro W hW
  have KW : Hid (Keeps No w W) := Lib.hid (by rw [hW]; exact (Keeps.refl w).alloc _)
  have CB : Hid (cellsAt W w.heap.size 0 3 = some (namC x)) := Lib.hid (by rw [hW]; simp [go_sem])
  obtain ⟨gn, hgn⟩ : ∃ g, g = w.heap.size := ⟨_, rfl⟩
  rw [← hgn] at CB ⊢
  clear hW hgn
  go_wp2_with fail
  go_loopw [5, 6, 7] (fun o p q wr => ∃ (k : Nat) (put : Bool) (lo : List Nam), k ≤ l.length ∧ q = .int .i64 k ∧ p = .bool put ∧ OwnOf cNam 36 wr W.heap.size o lo ∧ lo.length ≤ k + put.toNat ∧ Keeps No W wr) (fun _ _ q _ => l.length - (intOf q).toNat)
  case atStart => exact ⟨0, false, [], Nat.zero_le _, rfl, rfl, World.ownsRow_nil _ _ _ _, by simp, Keeps.refl _⟩
  case round =>
    obtain ⟨k, put, lo, hkl, rfl, rfl, hO, hN, hK⟩ := hrel
    obtain ⟨wo, hwo⟩ : ∃ x : World, x = wr := ⟨_, rfl⟩
    subst hwo
    have K := Lib.hid hK
    have O := Lib.hid hO
    have N := Lib.hid hN
    have hk0 : (0 : Int) ≤ (k : Int) := by omega
    obtain ⟨oa, oc, rfl⟩ := ownsRow_slice hO
    have PB : Hid (put.toNat ≤ 1) := Lib.hid (by cases put <;> decide)
    clear hO hN
    by_cases hlt : k < l.length
    · have hlti : (k : Int) < (l.length : Int) := by omega
      have hrr : RdOf cNam wo (.slice va l.length vc) l := HV.out.kept (KW.out.trans hK (fun _ _ h => h)) (fun _ _ h => h)
      have HRR := Lib.hid hrr
      obtain ⟨g, off, hva, _, _, _⟩ := RdOf.addr cNam hrr (by omega)
      subst hva
      have c3 := RdOf.at cNam hrr k hlt
      obtain ⟨y, hy⟩ : ∃ y, y = l[k] := ⟨_, rfl⟩
      have x3 : cellsAt wo g (off + k * 3) 3 = some [.int .i64 y.s, .int .i64 y.i, .int .i64 y.g] := by rw [hy]; exact c3
      have XW : Hid (cellsAt W g (off + k * 3) 3 = some [.int .i64 y.s, .int .i64 y.i, .int .i64 y.g]) := Lib.hid (by
        have h := RdOf.at cNam (HV.out.kept KW.out (fun _ _ h => h)) k hlt
        rw [hy]
        exact h)
      have cb := hK.cellsAt CB.out
      have L1 : ∀ n os, cellsAt (grow (wo.drewN n) os) g (off + k * 3) 3 = some [.int .i64 y.s, .int .i64 y.i, .int .i64 y.g] := fun n os => (Grown.keeps ⟨n, os, rfl⟩).cellsAt x3
      have L2 : ∀ m os, cellsAt (grow (wo.drewN m) os) gn 0 3 = some [.int .i64 x.s, .int .i64 x.i, .int .i64 x.g] := fun m os => (Grown.keeps ⟨m, os, rfl⟩).cellsAt cb
      have X3 := Lib.hid x3
      have XB := Lib.hid cb
      clear c3 hy hrr hK x3 cb
      obtain ⟨T, hT⟩ : ∃ T, T = neq y x := ⟨_, rfl⟩
      have heq : ∀ W, (binOp .eql 36 (.agg #[.int .i64 y.s, .int .i64 y.i, .int .i64 y.g]) (.agg #[.int .i64 x.s, .int .i64 x.i, .int .i64 x.g])).run Tryz.prog W = .ok (.bool T) W := fun W => by rw [hT]; exact run_eqlID _ _ _ _ _ _ W
      clear hT
      go_wp2_with fail
      go_quiet_grown (fail)
      have G2 : Hid (Grown wo (grow (wo.drewN nq) osq)) := Lib.hid ⟨nq, osq, rfl⟩
      obtain ⟨w2, hw2⟩ : ∃ z, z = grow (wo.drewN nq) osq := ⟨_, rfl⟩
      show Exit.then _ _ Exit.normal _ (grow (wo.drewN nq) osq)
      rw [← hw2] at G2 ⊢
      clear hw2 L1 L2
      have K2 := Lib.hid (K.out.trans G2.out.keeps (fun _ _ h => h))
      cases T with
      | true =>
        have R2 : Hid (RdOf cNam w2 (.slice (some ⟨g, off, none⟩) l.length vc) l) := Lib.hid (HRR.out.kept G2.out.keeps (fun _ _ h => h))
        go_wp2
        go_ret
        exact ⟨_, l, rfl, by omega, R2.out, KW.out.trans K2.out (fun _ _ h => h), .inl ⟨rfl, rfl⟩⟩
      | false =>
        have x2 := G2.out.keeps.cellsAt X3.out
        have b2 := G2.out.keeps.cellsAt XB.out
        have O2 : Hid (OwnOf cNam 36 w2 W.heap.size (.slice oa lo.length oc) lo) := Lib.hid (G2.out.keeps.owns O.out (fun _ _ h => h))
        cases put with
        | true =>
          go_wp2_with fail
          go_quiet (fail)
          have K3 : Hid (Keeps No W (w2.drewN nq)) := Lib.hid (K2.out.drewN nq)
          have O3 : Hid (OwnOf cNam 36 (w2.drewN nq) W.heap.size (.slice oa lo.length oc) lo) := Lib.hid O2.out
          obtain ⟨w3, hw3⟩ : ∃ z, z = w2.drewN nq := ⟨_, rfl⟩
          show Exit.then _ _ Exit.normal _ (w2.drewN nq)
          have z3 : cellsAt w3 g (off + k * 3) 3 = some [.int .i64 y.s, .int .i64 y.i, .int .i64 y.g] := by rw [hw3]; exact x2
          rw [← hw3] at K3 O3 ⊢
          clear hw3 x2 b2
          have hO' : (w3.alloc (.cells #[.int .i64 y.s, .int .i64 y.i, .int .i64 y.g] 36)).ownsRow W.heap.size 36 3 (.slice oa lo.length oc) lo.length (rowsOf cNam lo) := O3.out.alloc _
          have hlit : Reads (w3.alloc (.cells #[.int .i64 y.s, .int .i64 y.i, .int .i64 y.g] 36)) 3 (.slice (some ⟨w3.heap.size, 0, none⟩) 1 1) 1 (namC y) := Reads.ofOwn (World.ownsRow_lit (base := 0) w3 #[.int .i64 y.s, .int .i64 y.i, .int .i64 y.g] 1 (Nat.zero_le _) (by unfold maxLen; omega) rfl) (cNam.one y)
          have pB : Hid (lo.length + 1 ≤ 200000) := Lib.hid (by have h1 := N.out; have h2 := PB.out; have h3 := HL.out; simp at h1; omega)
          go_wp2_with (at_builtin; refine wpList_append_reads rfl (.tmp 35) (.tmp 40) 42 rfl W.heap.size 36 i0 _ 3 24 Tryz.underlying42 hi hz0 hz1 hz2 rfl (by decide) _ lo.length _ rfl hO' _ 1 (namC y) rfl hlit ?p1 ?p2 ?p3 ?p4)
          case p1 => have := pB.out; unfold maxLen; omega
          case p2 => have := pB.out; omega
          case p3 => have := K3.out.size; simp; omega
          case p4 =>
            intro vp w5 hown1 hk1 _ _
            have Kw5 : Hid (Keeps No W w5) := Lib.hid ((K3.out.alloc _).trans hk1 (fun j hj hof => by
              have := (O3.out.lt j hof).1
              omega))
            have Ow5 : Hid (OwnOf cNam 36 w5 W.heap.size vp (lo ++ [y])) := Lib.hid (by
              unfold OwnOf
              rw [List.length_append, rowsOf_append, rowsOf_one]
              exact hown1)
            obtain ⟨pa, pc, rfl⟩ := ownsRow_slice hown1
            clear hown1 hk1 hO' hlit
            go_wp2
            go_roundw
            case rel => exact ⟨k + 1, true, _, by omega, by go_num, rfl, by simpa using Ow5.out, by have h1 := N.out; simp at h1 ⊢; omega, Kw5.out⟩
            case measure => simp [intOf]; omega
        | false =>
          have HB := Lib.hid (fun W => beforeG_any ⟨x.s, x.i, x.g, 0, 0, 0, 0, 0, 0, 0, 0⟩ y.s y.i y.g W)
          obtain ⟨B, hB⟩ : ∃ B, B = decide (cmpN ⟨x.s, x.i, x.g, 0, 0, 0, 0, 0, 0, 0, 0⟩ y.s y.i y.g < 0) := ⟨_, rfl⟩
          rw [← hB] at HB
          have L1 : ∀ n os, cellsAt (grow (w2.drewN n) os) g (off + k * 3) 3 = some [.int .i64 y.s, .int .i64 y.i, .int .i64 y.g] := fun n os => (Grown.keeps ⟨n, os, rfl⟩).cellsAt x2
          have L2 : ∀ m os, cellsAt (grow (w2.drewN m) os) gn 0 3 = some [.int .i64 x.s, .int .i64 x.i, .int .i64 x.g] := fun m os => (Grown.keeps ⟨m, os, rfl⟩).cellsAt b2
          clear hB x2 b2
          go_wp2_with fail
          go_quiet_grown (first | (go_at_call 64; have hc := HB.out; with_reducible refine Calls.grown_of (hc _)))
          have G3 : Grown w2 (grow (w2.drewN nq) osq) := ⟨nq, osq, rfl⟩
          have K3 : Hid (Keeps No W (grow (w2.drewN nq) osq)) := Lib.hid (K2.out.trans G3.keeps (fun _ _ h => h))
          have O3 : Hid (OwnOf cNam 36 (grow (w2.drewN nq) osq) W.heap.size (.slice oa lo.length oc) lo) := Lib.hid (G3.keeps.owns O2.out (fun _ _ h => h))
          obtain ⟨w3, hw3⟩ : ∃ z, z = grow (w2.drewN nq) osq := ⟨_, rfl⟩
          show Exit.then _ _ Exit.normal _ (grow (w2.drewN nq) osq)
          rw [← hw3] at K3 O3 ⊢
          have z3 := K3.out.cellsAt XW.out
          have z4 : cellsAt w3 gn 0 3 = some [.int .i64 x.s, .int .i64 x.i, .int .i64 x.g] := K3.out.cellsAt CB.out
          clear hw3 G3 L1 L2 HB
          cases B with
          | true =>
            have hO' : (w3.alloc (.cells #[.int .i64 x.s, .int .i64 x.i, .int .i64 x.g] 36)).ownsRow W.heap.size 36 3 (.slice oa lo.length oc) lo.length (rowsOf cNam lo) := O3.out.alloc _
            have hlit : Reads (w3.alloc (.cells #[.int .i64 x.s, .int .i64 x.i, .int .i64 x.g] 36)) 3 (.slice (some ⟨w3.heap.size, 0, none⟩) 1 1) 1 (namC x) := Reads.ofOwn (World.ownsRow_lit (base := 0) w3 #[.int .i64 x.s, .int .i64 x.i, .int .i64 x.g] 1 (Nat.zero_le _) (by unfold maxLen; omega) rfl) (cNam.one x)
            have fB : Hid (lo.length + 1 ≤ 200000) := Lib.hid (by have h1 := N.out; have h3 := HL.out; simp at h1; omega)
            go_wp2_with (at_builtin; refine wpList_append_reads rfl (.tmp 31) (.tmp 33) 42 rfl W.heap.size 36 i0 _ 3 24 Tryz.underlying42 hi hz0 hz1 hz2 rfl (by decide) _ lo.length _ rfl hO' _ 1 (namC x) rfl hlit ?f1 ?f2 ?f3 ?f4)
            case f1 => have := fB.out; unfold maxLen; omega
            case f2 => have := fB.out; omega
            case f3 => have := K3.out.size; simp; omega
            case f4 =>
              intro vf w5 hown1 hk1 _ _
              have Kw5 : Hid (Keeps No W w5) := Lib.hid ((K3.out.alloc _).trans hk1 (fun j hj hof => by
                have := (O3.out.lt j hof).1
                omega))
              have Ow5 : Hid (OwnOf cNam 36 w5 W.heap.size vf (lo ++ [x])) := Lib.hid (by
                unfold OwnOf
                rw [List.length_append, rowsOf_append, rowsOf_one]
                exact hown1)
              obtain ⟨fa, fc, rfl⟩ := ownsRow_slice hown1
              clear hown1 hk1 hO' hlit
              obtain ⟨lo2, hlo2⟩ : ∃ z, z = lo ++ [x] := ⟨_, rfl⟩
              have N2 : Hid (lo2.length ≤ k + 1) := Lib.hid (by have h1 := N.out; rw [hlo2]; simp at h1 ⊢; omega)
              have hl2 : lo.length + 1 = lo2.length := by rw [hlo2]; simp
              have Ow5b : Hid (OwnOf cNam 36 w5 W.heap.size (.slice fa lo2.length fc) lo2) := Lib.hid (by
                have h1 := Ow5.out
                rw [hl2, ← hlo2] at h1
                exact h1)
              rw [hl2]
              have z5 := Kw5.out.cellsAt XW.out
              clear hlo2 hl2 Ow5 z3 z4
              have hO' : (w5.alloc (.cells #[.int .i64 y.s, .int .i64 y.i, .int .i64 y.g] 36)).ownsRow W.heap.size 36 3 (.slice fa lo2.length fc) lo2.length (rowsOf cNam lo2) := Ow5b.out.alloc _
              have hlit : Reads (w5.alloc (.cells #[.int .i64 y.s, .int .i64 y.i, .int .i64 y.g] 36)) 3 (.slice (some ⟨w5.heap.size, 0, none⟩) 1 1) 1 (namC y) := Reads.ofOwn (World.ownsRow_lit (base := 0) w5 #[.int .i64 y.s, .int .i64 y.i, .int .i64 y.g] 1 (Nat.zero_le _) (by unfold maxLen; omega) rfl) (cNam.one y)
              have sB : Hid (lo2.length + 1 ≤ 200000) := Lib.hid (by have h1 := N2.out; have h3 := HL.out; omega)
              go_wp2_with (at_builtin; refine wpList_append_reads rfl (.tmp 35) (.tmp 40) 42 rfl W.heap.size 36 i0 _ 3 24 Tryz.underlying42 hi hz0 hz1 hz2 rfl (by decide) _ lo2.length _ rfl hO' _ 1 (namC y) rfl hlit ?s1 ?s2 ?s3 ?s4)
              case s1 => have := sB.out; unfold maxLen; omega
              case s2 => have := sB.out; omega
              case s3 => have := Kw5.out.size; simp; omega
              case s4 =>
                intro vs w7 hown1 hk1 _ _
                have Kw7 : Hid (Keeps No W w7) := Lib.hid ((Kw5.out.alloc _).trans hk1 (fun j hj hof => by
                  have := (Ow5b.out.lt j hof).1
                  omega))
                have Ow7 : Hid (OwnOf cNam 36 w7 W.heap.size vs (lo2 ++ [y])) := Lib.hid (by
                  unfold OwnOf
                  rw [List.length_append, rowsOf_append, rowsOf_one]
                  exact hown1)
                obtain ⟨sa, sc, rfl⟩ := ownsRow_slice hown1
                clear hown1 hk1 hO' hlit
                go_wp2
                go_roundw
                case rel => exact ⟨k + 1, true, _, by omega, by go_num, rfl, by simpa using Ow7.out, by have h1 := N2.out; simp at h1 ⊢; omega, Kw7.out⟩
                case measure => simp [intOf]; omega
          | false =>
            have hO' : (w3.alloc (.cells #[.int .i64 y.s, .int .i64 y.i, .int .i64 y.g] 36)).ownsRow W.heap.size 36 3 (.slice oa lo.length oc) lo.length (rowsOf cNam lo) := O3.out.alloc _
            have hlit : Reads (w3.alloc (.cells #[.int .i64 y.s, .int .i64 y.i, .int .i64 y.g] 36)) 3 (.slice (some ⟨w3.heap.size, 0, none⟩) 1 1) 1 (namC y) := Reads.ofOwn (World.ownsRow_lit (base := 0) w3 #[.int .i64 y.s, .int .i64 y.i, .int .i64 y.g] 1 (Nat.zero_le _) (by unfold maxLen; omega) rfl) (cNam.one y)
            have gB : Hid (lo.length + 1 ≤ 200000) := Lib.hid (by have h1 := N.out; have h3 := HL.out; simp at h1; omega)
            go_wp2_with (at_builtin; refine wpList_append_reads rfl (.tmp 35) (.tmp 40) 42 rfl W.heap.size 36 i0 _ 3 24 Tryz.underlying42 hi hz0 hz1 hz2 rfl (by decide) _ lo.length _ rfl hO' _ 1 (namC y) rfl hlit ?g1 ?g2 ?g3 ?g4)
            case g1 => have := gB.out; unfold maxLen; omega
            case g2 => have := gB.out; omega
            case g3 => have := K3.out.size; simp; omega
            case g4 =>
              intro vg w5 hown1 hk1 _ _
              have Kw5 : Hid (Keeps No W w5) := Lib.hid ((K3.out.alloc _).trans hk1 (fun j hj hof => by
                have := (O3.out.lt j hof).1
                omega))
              have Ow5 : Hid (OwnOf cNam 36 w5 W.heap.size vg (lo ++ [y])) := Lib.hid (by
                unfold OwnOf
                rw [List.length_append, rowsOf_append, rowsOf_one]
                exact hown1)
              obtain ⟨ga, gc, rfl⟩ := ownsRow_slice hown1
              clear hown1 hk1 hO' hlit
              go_wp2
              go_roundw
              case rel => exact ⟨k + 1, false, _, by omega, by go_num, rfl, by simpa using Ow5.out, by have h1 := N.out; simp at h1 ⊢; omega, Kw5.out⟩
              case measure => simp [intOf]; omega
    · have hlti : ¬ ((k : Int) < (l.length : Int)) := by omega
      cases put with
      | true =>
        have FN : Hid (lo.length ≤ l.length + 1) := Lib.hid (by have h1 := N.out; have h2 := PB.out; simp at h1; omega)
        have FO : Hid (RdOf cNam wo (.slice oa lo.length oc) lo) := Lib.hid (OwnOf.reads O.out)
        clear hK
        go_wp2
        go_ret
        exact ⟨_, lo, rfl, FN.out, FO.out, KW.out.trans K.out (fun _ _ h => h), .inr (ownsRow_base O.out KW.out.size)⟩
      | false =>
        have b2 : cellsAt wo gn 0 3 = some [.int .i64 x.s, .int .i64 x.i, .int .i64 x.g] := hK.cellsAt CB.out
        clear hK
        have hO' : (wo.alloc (.cells #[.int .i64 x.s, .int .i64 x.i, .int .i64 x.g] 36)).ownsRow W.heap.size 36 3 (.slice oa lo.length oc) lo.length (rowsOf cNam lo) := O.out.alloc _
        have hlit : Reads (wo.alloc (.cells #[.int .i64 x.s, .int .i64 x.i, .int .i64 x.g] 36)) 3 (.slice (some ⟨wo.heap.size, 0, none⟩) 1 1) 1 (namC x) := Reads.ofOwn (World.ownsRow_lit (base := 0) wo #[.int .i64 x.s, .int .i64 x.i, .int .i64 x.g] 1 (Nat.zero_le _) (by unfold maxLen; omega) rfl) (cNam.one x)
        have eB : Hid (lo.length + 1 ≤ 200000) := Lib.hid (by have h1 := N.out; have h3 := HL.out; simp at h1; omega)
        go_wp2_with (at_builtin; refine wpList_append_reads rfl (.tmp 44) (.tmp 46) 42 rfl W.heap.size 36 i0 _ 3 24 Tryz.underlying42 hi hz0 hz1 hz2 rfl (by decide) _ lo.length _ rfl hO' _ 1 (namC x) rfl hlit ?e1 ?e2 ?e3 ?e4)
        case e1 => have := eB.out; unfold maxLen; omega
        case e2 => have := eB.out; omega
        case e3 => have := K.out.size; simp; omega
        case e4 =>
          intro ve w5 hown1 hk1 _ _
          have Kw5 : Hid (Keeps No W w5) := Lib.hid ((K.out.alloc _).trans hk1 (fun j hj hof => by
            have := (O.out.lt j hof).1
            omega))
          have Ow5 : Hid (OwnOf cNam 36 w5 W.heap.size ve (lo ++ [x])) := Lib.hid (by
            unfold OwnOf
            rw [List.length_append, rowsOf_append, rowsOf_one]
            exact hown1)
          obtain ⟨ea, ec, rfl⟩ := ownsRow_slice hown1
          clear hown1 hk1 hO' hlit
          have FN : Hid (lo.length + 1 ≤ l.length + 1) := Lib.hid (by have h1 := N.out; simp at h1; omega)
          have FO : Hid (RdOf cNam w5 (.slice ea (lo.length + 1) ec) (lo ++ [x])) := Lib.hid (OwnOf.reads Ow5.out)
          have FW : Hid (OwnOf cNam 36 w5 w.heap.size (.slice ea (lo.length + 1) ec) (lo ++ [x])) := Lib.hid (ownsRow_base Ow5.out KW.out.size)
          go_wp2
          go_ret
          exact ⟨_, _, rfl, by simpa using FN.out, FO.out, KW.out.trans Kw5.out (fun _ _ h => h), .inr FW.out⟩
end Go.Proofs.YtcjeocibnfoenaaGreat
