/-
  Whatever the nodes and the deeds: NetPlays returns true, and its arguments read behind the call as they read before. No conditions.
-/
import Derived.Test.YtneikamjlbfglaaNetPair
import Derived.Deep.CutBlock
namespace Go.Proofs.Ytneikamjlbfglaa.netPlays
open Go.ChangeShapes Go.WideShapes Go.ChangeAt Go.RowKit

abbrev Two (w wr : World) (b b2 : Nat) (N : Int) (lv : Value) (ds : List Dd) (rv : Value) (ps : List Pk) : Prop := Mem w wr [NetT b N ps, DdT lv ds, PkT rv ps, RefB b2 N rv]

set_option maxRecDepth 100000 in
set_option maxHeartbeats 40000000 in
theorem walk_yes (N : Int) (v : Value) (l : List Dd) (w : World) (hv : DdReads w v l) (hok0 : ∀ d ∈ l, DdOk w d) (hN1 : 1 ≤ N) (hN2 : N ≤ 17) : Calls Try.prog 7 #[.int .i64 N, v] w fun e w' => e = .returned (.bool true) ∧ Keeps No w w' := by
  go_enter Try.func7, Try.ntmps7
  go_wp2_with fail
  refine (new_m (w0 := w) N hN1 hN2 (Mem.start w)).mono ?_
  rintro e w1 ⟨b, rfl, hm1⟩
  have hm : Mem w w1 [NetT b N []] := hm1
  clear hm1
  have hright : (decide (1 ≤ N) && decide (N ≤ 17)) = true := by rw [decide_eq_true hN1, decide_eq_true hN2]; rfl
  go_wp2_with fail
  refine (right_any N w1).mono ?_
  rintro e w2 ⟨rfl, rfl⟩
  rw [hright]
  clear hright
  have hm2 : Mem w (w1.alloc (.cells #[.int .i64 N, .slice none 0 0] 50)) [NetT b N [], RefB w1.heap.size N (.slice none 0 0)] := lit_mem (L := [NetT b N []]) hm 50 2 #[.int .i64 N, .slice none 0 0] 1 (by decide) rfl
  go_wp2_with fail
  refine (few_any hm2 v l (hv.kept hm2.keeps (fun _ _ h => h)) (fun d hd => (hok0 d hd).kept hm2.keeps)).mono ?_
  rintro e w3 ⟨lv, rfl, hm3⟩
  obtain ⟨ds, hds⟩ : ∃ ds, ds = (l.take 50).map Dd.cut := ⟨_, rfl⟩
  rw [← hds] at hm3
  have hok : ∀ d ∈ ds, DdOk w d ∧ d.ps.length ≤ 20 := by
    intro d hd
    rw [hds] at hd
    obtain ⟨x, hx, rfl⟩ := List.mem_map.1 hd
    exact ⟨Dd.cut_ok (hok0 x (List.mem_of_mem_take hx)), Dd.cut_len x⟩
  have hn50 : ds.length ≤ 50 := by rw [hds, List.length_map, List.length_take]; omega
  clear hds hok0 hv hm hm2
  obtain ⟨b2, hb2⟩ : ∃ b2, b2 = w1.heap.size := ⟨_, rfl⟩
  have hm4 : Two w w3 b b2 N lv ds (.slice none 0 0) [] := by
    have h := (((Mem.push (L := [NetT b N [], RefB w1.heap.size N (.slice none 0 0), DdT lv ds]) hm3 (rowT_lies _ _ _ _ _) (pkT_nil _)).push nix_lies (A := Nix) ⟨fun _ => False, fun _ h => h, Keeps.refl _, fun _ h => h.elim⟩))
    have h1 := h.move 4 1 (by omega) (by simp) rfl
    have h2 := h1.erase 1 (by simp)
    rw [hb2]
    exact h2
  clear hm3
  rw [← hb2]
  clear hb2
  obtain ⟨la, lc, rfl⟩ := rowT_slice hm4 1 rfl
  have Hn50 := Lib.hid hn50; clear hn50
  go_wp2
  go_loopw [8] (fun i wr => ∃ (k : Nat) (rv : Value) (ps : List Pk), k ≤ ds.length ∧ i = .int .i64 k ∧ Two w wr b b2 N (.slice la ds.length lc) ds rv ps ∧ ps.length ≤ 21 * k) (fun i _ => ds.length - (intOf i).toNat)
  case atStart => exact ⟨0, _, [], Nat.zero_le _, rfl, hm4, by simp⟩
  case round =>
    clear hm4
    obtain ⟨k, rv, ps, hk, rfl, hmr, hpl⟩ := hrel
    have Hpl := Lib.hid hpl; clear hpl
    by_cases hlt : k < ds.length
    · obtain ⟨F, ⟨hF, _⟩⟩ := hmr.see 1 rfl
      have hr := Reads.ofOwn hF (ddCells_one' (fun d hd => (hok d hd).1))
      clear hF
      obtain ⟨b', off, d, he, _, _, hbl, _⟩ := hr.addr (by rw [ddCells_length]; omega)
      simp only [Value.slice.injEq, true_and] at he
      obtain ⟨rfl, rfl⟩ := he
      obtain ⟨g0, g1, g2⟩ := hr.dd k hlt
      obtain ⟨hd1, hd2⟩ := hok _ (List.getElem_mem hlt)
      obtain ⟨D, hD⟩ : ∃ D, ds[k] = D := ⟨_, rfl⟩
      rw [hD] at g0 g1 g2 hd1 hd2
      clear hD hr
      obtain ⟨kind, kk, dv, dps⟩ := D
      obtain ⟨pa, pc, hpv⟩ := hd1.reads.slice
      dsimp only at g0 g1 g2 hd2 hpv
      subst hpv
      have hd1r : PkReads w (.slice pa dps.length pc) dps := hd1.reads
      have Hd2 := Lib.hid hd2; clear hd2
      clear hd1
      have hk50 : (k : Int) ≤ 49 := by have := Hn50.out; omega
      obtain ⟨g, hg⟩ : ∃ g, g = wr.heap.size := ⟨_, rfl⟩
      obtain ⟨wx, hwx⟩ : ∃ wx, wx = wr.alloc (.cells #[.int .i64 kind, .int .i64 kk, .slice pa dps.length pc] 30) := ⟨_, rfl⟩
      have hm5 : Mem w wx [NetT b N ps, DdT (.slice (some ⟨b', off, none⟩) ds.length lc) ds, PkT rv ps, RefB b2 N rv, RowT 30 3 (.slice (some ⟨g, 0, none⟩) 1 1) 1 [.int .i64 kind, .int .i64 kk, .slice pa dps.length pc]] := by
        rw [hwx, hg]
        exact ddT_lit (L := [NetT b N ps, DdT (.slice (some ⟨b', off, none⟩) ds.length lc) ds, PkT rv ps, RefB b2 N rv]) hmr kind kk _
      go_upto_block 2 with fail
      rw [← hwx, ← hg]
      clear hwx hg hmr g0 g1 g2 hbl
      go_cut [10] (fun v10 w' => v10 = .bool true ∧ ∃ (rv' : Value) (ps' : List Pk), Two w w' b b2 N (.slice (some ⟨b', off, none⟩) ds.length lc) ds rv' ps' ∧ ps'.length ≤ 21 * (k + 1))
      case first =>
        have hrx : PkReads wx (.slice pa dps.length pc) dps := hd1r.kept hm5.keeps (fun _ _ h => h)
        have hp50 : Hid (ps.length ≤ 1029) := by show _ ≤ _; have := Hpl.out; omega
        have hp51 : Hid (ps.length ≤ 21 * (k + 1)) := by show _ ≤ _; have := Hpl.out; omega
        have hdn : Hid (dps.length ≤ 20) := Hd2
        obtain ⟨c0, _⟩ := hm5.cellAt 4 rfl 0 (by omega)
        obtain ⟨c1, _⟩ := hm5.cellAt 4 rfl 1 (by omega)
        obtain ⟨c2, _⟩ := hm5.cellAt 4 rfl 2 (by omega)
        simp only [List.getElem?_cons_succ, List.getElem?_cons_zero] at c0 c1 c2
        have hkind : (kind = 0 ∨ kind = 1 ∨ kind = 2) ∨ (kind = 3 ∨ kind = 4) ∨ kind = 5 ∨ (kind ≠ 0 ∧ kind ≠ 1 ∧ kind ≠ 2 ∧ kind ≠ 3 ∧ kind ≠ 4 ∧ kind ≠ 5) := by omega
        rcases hkind with hkd | hkd | rfl | ⟨n0, n1, n2, n3, n4, n5⟩
        · rcases hkd with rfl | rfl | rfl
          all_goals
            cases hw : dps.any (wrongB N)
            · have e0 : (dps.length : Int) - min (dps.length : Int) (4096 - ps.length) = 0 := by have := hp50.out; have := hdn.out; omega
              have e1 : ps ++ dps.take (4096 - ps.length) = ps ++ dps := by rw [List.take_of_length_le (by have := hp50.out; have := hdn.out; omega)]
              have hcall := send_m hm5 0 rfl (by have := hp50.out; omega) _ dps hrx hw
              rw [e0, e1] at hcall
              have Hcall := Lib.hid hcall
              clear hcall e0 e1
              go_wp2_with fail
              refine Hcall.out.mono ?_
              rintro e w3 ⟨rfl, hm3, _⟩
              clear Hcall
              have hm3' : Mem w w3 [NetT b N (ps ++ dps), DdT (.slice (some ⟨b', off, none⟩) ds.length lc) ds, PkT rv ps, RefB b2 N rv, RowT 30 3 (.slice (some ⟨g, 0, none⟩) 1 1) 1 _] := hm3
              clear hm3 c0 c1 c2
              obtain ⟨q2, _⟩ := hm3'.cellAt 4 rfl 2 (by omega)
              simp only [List.getElem?_cons_succ, List.getElem?_cons_zero] at q2
              have hsd := Lib.hid (rsend_any hm3' (.slice pa dps.length pc) dps hd1r (by have := hp50.out; have := hdn.out; omega) 0 (ps ++ dps) (fun h => by rw [hw] at h; cases h) (fun _ => ⟨rfl, rfl⟩))
              clear hm3' hm5 hw
              go_wp2_with fail
              refine hsd.out.mono ?_
              rintro e w4 ⟨rfl, rv', hm4⟩
              clear hsd
              have hfin : Hid (Two w w4 b b2 N (.slice (some ⟨b', off, none⟩) ds.length lc) ds rv' (ps ++ dps)) := hm4.erase 4 (by simp)
              clear hm4
              go_wp2
              go_meet
              case rel => exact ⟨rfl, _, _, hfin.out, by have := Hpl.out; have := hdn.out; rw [List.length_append]; omega⟩
            · have Hcall := Lib.hid (send_m_no hm5 0 rfl _ dps hrx hw)
              go_wp2_with fail
              refine Hcall.out.mono ?_
              rintro e w3 ⟨rfl, hm3, _⟩
              clear Hcall c0 c1 c2
              obtain ⟨q2, _⟩ := hm3.cellAt 4 rfl 2 (by omega)
              simp only [List.getElem?_cons_succ, List.getElem?_cons_zero] at q2
              have hsd := Lib.hid (rsend_any hm3 (.slice pa dps.length pc) dps hd1r (by have := hp50.out; have := hdn.out; omega) 1 ps (fun _ => ⟨rfl, rfl⟩) (fun h => by rw [hw] at h; cases h))
              clear hm3 hm5 hw
              go_wp2_with fail
              refine hsd.out.mono ?_
              rintro e w4 ⟨rfl, rv', hm4⟩
              clear hsd
              have hfin : Hid (Two w w4 b b2 N (.slice (some ⟨b', off, none⟩) ds.length lc) ds rv' ps) := hm4.erase 4 (by simp)
              clear hm4
              go_wp2
              go_meet
              case rel => exact ⟨rfl, _, _, hfin.out, hp51.out⟩
        · rcases hkd with rfl | rfl
          all_goals
            obtain ⟨P, E, qs, hql, hn, hr⟩ := take_pair ps kk (by have := hp50.out; omega)
            have hqs : Hid (qs.length ≤ 21 * (k + 1)) := by show _ ≤ _; have := hp51.out; omega
            have Hn := Lib.hid (hn 0 _ _ _ _ _ hm5 rfl)
            have Hr := Lib.hid hr
            clear hn hr hql
            go_wp2_with fail
            refine Hn.out.mono ?_
            rintro e w3 ⟨rfl, hm3⟩
            clear Hn c0 c1 c2
            have hm3' : Mem w w3 [NetT b N qs, DdT (.slice (some ⟨b', off, none⟩) ds.length lc) ds, PkT rv ps, RefB b2 N rv, RowT 30 3 (.slice (some ⟨g, 0, none⟩) 1 1) 1 _] := hm3
            clear hm3 hm5
            obtain ⟨q1, _⟩ := hm3'.cellAt 4 rfl 1 (by omega)
            simp only [List.getElem?_cons_succ, List.getElem?_cons_zero] at q1
            have hgl := block_lt_of_cell q1
            dsimp only at hgl
            have hm6 := Mem.pack (L := [NetT b N qs, DdT (.slice (some ⟨b', off, none⟩) ds.length lc) ds, PkT rv ps, RefB b2 N rv]) [_, _] (pkT_lit hm3' P)
            have Hcall := Lib.hid (Hr.out _ _ _ _ _ _ _ _ hm6)
            clear Hr hm6
            go_wp2_with fail
            refine Hcall.out.mono ?_
            rintro e w4 ⟨rfl, rv', hm7⟩
            have hm8 := Mem.unpack (L := [NetT b N qs, DdT (.slice (some ⟨b', off, none⟩) ds.length lc) ds, PkT rv' qs, RefB b2 N rv']) _ hm7
            clear Hcall hm7 q1 hgl
            obtain ⟨p0, _⟩ := hm8.cellAt 5 rfl 0 (by simp)
            obtain ⟨p1, _⟩ := hm8.cellAt 5 rfl 1 (by simp)
            obtain ⟨p2, _⟩ := hm8.cellAt 5 rfl 2 (by simp)
            simp only [pkCells_one, Pk.cells, List.getElem?_cons_succ, List.getElem?_cons_zero] at p0 p1 p2
            have hgl := block_lt_of_cell p0
            dsimp only at hgl
            have hfin : Hid (∀ o, Two w (w4.alloc o) b b2 N (.slice (some ⟨b', off, none⟩) ds.length lc) ds rv' qs) := fun o => mem_lit ((hm8.erase 5 (by simp)).erase 4 (by simp)) o
            clear hm8 hm3'
            go_wp2
            go_meet
            case rel => exact ⟨rfl, _, _, hfin.out _, hqs.out⟩
        · obtain ⟨E, qs, hql, hn, hr⟩ := double_pair ps kk (by have := hp50.out; omega)
          have hqs : Hid (qs.length ≤ 21 * (k + 1)) := by show _ ≤ _; have := Hpl.out; omega
          have hmd := hm5.drew
          have Hn := Lib.hid (hn 0 _ _ _ _ _ hmd rfl)
          have Hr := Lib.hid (hr _ _ _ _ _ _ _ _ hmd)
          have HN := Lib.hid hn
          have HR := Lib.hid hr
          clear hn hr hql hmd hm5 c0 c2
          go_wp2_with fail
          go_region_with (first
            | (refine Hn.out.mono ?_
               rintro e w7 ⟨rfl, hm7⟩
               have hm8 : Mem w w7 [NetT b N qs, DdT (.slice (some ⟨b', off, none⟩) ds.length lc) ds, PkT rv ps, RefB b2 N rv, RowT 30 3 (.slice (some ⟨g, 0, none⟩) 1 1) 1 [.int .i64 5, .int .i64 kk, .slice pa dps.length pc]] := hm7
               clear hm7 Hn Hr c1
               obtain ⟨k1, _⟩ := hm8.cellAt 4 rfl 1 (by omega)
               simp only [List.getElem?_cons_succ, List.getElem?_cons_zero] at k1
               have Hm8 := Lib.hid hm8
               clear hm8)
            | (refine Hr.out.mono ?_
               rintro e w7 ⟨rfl, rv', hm8⟩
               clear Hn Hr c1
               obtain ⟨k1, _⟩ := hm8.cellAt 4 rfl 1 (by omega)
               simp only [List.getElem?_cons_succ, List.getElem?_cons_zero] at k1
               have Hm8 := Lib.hid hm8
               clear hm8)
            | (refine (HR.out _ _ _ _ _ _ _ _ Hm8.out).mono ?_
               rintro e w9 ⟨rfl, rv', hm9⟩
               clear HN HR k1 Hm8)
            | (refine (HN.out 0 _ _ _ _ _ Hm8.out rfl).mono ?_
               rintro e w9 ⟨rfl, hm9'⟩
               have hm9 : Mem w w9 [NetT b N qs, DdT (.slice (some ⟨b', off, none⟩) ds.length lc) ds, PkT rv' qs, RefB b2 N rv', RowT 30 3 (.slice (some ⟨g, 0, none⟩) 1 1) 1 [.int .i64 5, .int .i64 kk, .slice pa dps.length pc]] := hm9'
               clear HN HR k1 Hm8 hm9'))
          all_goals
            have hfin := Lib.hid (hm9.erase 4 (by simp))
            clear hm9
            go_wp2
            go_meet
            case rel => exact ⟨rfl, _, _, hfin.out, hqs.out⟩
        · have hfl : (ps.filter (oth kk)).length ≤ ps.length := List.length_filter_le _ _
          obtain ⟨qs, hqe⟩ : ∃ qs, qs = ps.filter (oth kk) := ⟨_, rfl⟩
          have hqs : Hid (qs.length ≤ 21 * (k + 1)) := by show _ ≤ _; rw [hqe]; have := Hpl.out; omega
          have HW : Hid (∀ (w' : World) (A0 A1 A4 : Thing) (v : Value), Mem w w' [A0, A1, PkT v ps, RefB b2 N v, A4] → Calls Try.prog 23 #[.pointer (some ⟨b2, 0, none⟩), .int .i64 kk] w' fun e w'' =>
              e = .returned (.int .i64 ((ps.length : Int) - (qs.length : Int))) ∧ ∃ v', Mem w w'' [A0, A1, PkT v' qs, RefB b2 N v', A4]) := by
            intro w' A0 A1 A4 v hm
            rw [hqe]
            exact rwithout_any hm kk (by have := hp50.out; omega)
          have HL : Hid (∀ (w' : World) (A1 A2 A3 A4 : Thing) (c : Nat), Mem w w' [NetT b N ps, A1, A2, A3, All [A4, ClosT c kk]] → Calls Try.prog 14 #[.pointer (some ⟨b, 0, none⟩), .func (.func 30) #[] #[.pointer (some ⟨c, 0, none⟩)]] w' fun e w'' =>
              e = .returned (.int .i64 ((ps.length : Int) - (qs.length : Int))) ∧ Mem w w'' [NetT b N qs, A1, A2, A3, All [A4, ClosT c kk]]) := by
            intro w' A1 A2 A3 A4 c hm
            rw [hqe]
            exact lose_five hm (by have := hp50.out; omega)
          have HT : Hid (∀ (w' : World) (A0 A1 A2 A3 A4 : Thing), Mem w w' [A0, A1, A2, A3, A4] → Mem w (w'.alloc (.cells #[.int .i64 kk] 3)) [A0, A1, A2, A3, All [A4, ClosT w'.heap.size kk]]) := fun w' A0 A1 A2 A3 A4 hm => clos_five hm kk
          have Hmd := Lib.hid hm5.drew
          clear hm5 c0 c2 hqe hfl
          go_wp2_with fail
          go_region_with (first
            | (refine (to_any kk wx.drew).mono ?_
               rintro e w6 ⟨rfl, hw6⟩
               have hm6 := HT.out _ _ _ _ _ _ Hmd.out
               rw [hw6] at hm6
               generalize wx.drew.heap.size = c at hm6 ⊢
               clear hw6 Hmd c1 HT
               obtain ⟨k1, _⟩ := (Mem.unpack (L := [_, _, _, _]) _ hm6).cellAt 4 rfl 1 (by omega)
               simp only [List.getElem?_cons_succ, List.getElem?_cons_zero] at k1
               have Hm6 := Lib.hid hm6
               clear hm6)
            | (refine (HW.out _ _ _ _ _ Hmd.out).mono ?_
               rintro e w7 ⟨rfl, rv', hm8⟩
               clear Hmd c1 HW
               obtain ⟨k1, _⟩ := hm8.cellAt 4 rfl 1 (by omega)
               simp only [List.getElem?_cons_succ, List.getElem?_cons_zero] at k1
               have HmW := Lib.hid hm8
               clear hm8)
            | (refine (HL.out _ _ _ _ _ _ Hm6.out).mono ?_
               rintro e w8 ⟨rfl, hm9⟩
               clear Hm6 HL k1
               obtain ⟨k1, _⟩ := (Mem.unpack (L := [_, _, _, _]) _ hm9).cellAt 4 rfl 1 (by omega)
               simp only [List.getElem?_cons_succ, List.getElem?_cons_zero] at k1
               have Hm9 := Lib.hid hm9
               clear hm9)
            | (refine (HW.out _ _ _ _ _ Hm6.out).mono ?_
               rintro e w8 ⟨rfl, rv', hm9⟩
               clear Hm6 HW k1
               have Hm7 := Lib.hid hm9
               clear hm9)
            | (refine (to_any kk w7).mono ?_
               rintro e w8 ⟨rfl, hw6⟩
               have hm9 := HT.out _ _ _ _ _ _ HmW.out
               rw [hw6] at hm9
               generalize w7.heap.size = c at hm9 ⊢
               clear hw6 HmW HT k1
               have Hm7 := Lib.hid hm9
               clear hm9)
            | (refine (HW.out _ _ _ _ _ Hm9.out).mono ?_
               rintro e w9 ⟨rfl, rv', hm10⟩
               clear Hm9 HW k1)
            | (refine (HL.out _ _ _ _ _ _ Hm7.out).mono ?_
               rintro e w9 ⟨rfl, hm10⟩
               clear Hm7 HL))
          all_goals
            have hfin := Lib.hid (hm10.erase 4 (by simp))
            clear hm10
            go_wp2
            go_meet
            case rel => exact ⟨rfl, _, _, hfin.out, hqs.out⟩
      case rest =>
        obtain ⟨rfl, rv', ps', hmc, hpc⟩ := hcut
        have Hpc := Lib.hid hpc; clear hpc hm5
        have hps : Hid (ps'.length ≤ 4095) := by show _ ≤ _; have := Hpc.out; omega
        go_wp2_with fail
        refine (list_m hmc 0 rfl (by have := hps.out; omega)).mono ?_
        rintro e w6 ⟨pv, rfl, hm6⟩
        have hm7 : Mem w w6 [NetT b N ps', DdT (.slice (some ⟨b', off, none⟩) ds.length lc) ds, PkT rv' ps', RefB b2 N rv', PkT pv ps'] := hm6
        clear hm6 hmc
        obtain ⟨ra, rc, rfl⟩ := rowT_slice hm7 2 rfl
        obtain ⟨qa, qc, rfl⟩ := rowT_slice hm7 4 rfl
        go_upto_block 3 with fail
        go_cut [155] (fun v155 w' => v155 = .bool false ∧ Mem w w' [NetT b N ps', DdT (.slice (some ⟨b', off, none⟩) ds.length lc) ds, PkT (.slice ra ps'.length rc) ps', RefB b2 N (.slice ra ps'.length rc), PkT (.slice qa ps'.length qc) ps'])
        case first =>
          obtain ⟨c1, _⟩ := hm7.cellAt 3 rfl 1 (by omega)
          simp only [List.getElem?_cons_succ, List.getElem?_cons_zero] at c1
          obtain ⟨F, hF⟩ := hm7.see 2 rfl
          have hrr := pkT_reads hF
          obtain ⟨G, hG⟩ := hm7.see 4 rfl
          have hrq := pkT_reads hG
          clear hF hG
          have hsame : ∀ n, Calls Try.prog 18 #[.slice qa ps'.length qc, .slice ra ps'.length rc] (w6.drewN n) fun e w' => e = .returned (.bool true) ∧ ∃ m, w' = (w6.drewN n).drewN m :=
            fun n => same_quiet _ _ _ ps' (hrq.kept ((Keeps.refl (S := No) w6).drewN n) (fun _ _ h => h)) (hrr.kept ((Keeps.refl (S := No) w6).drewN n) (fun _ _ h => h))
          have hlen : ∀ n, Calls Try.prog 16 #[.pointer (some ⟨b, 0, none⟩)] (w6.drewN n) fun e w' => e = .returned (.int .i64 ps'.length) ∧ w' = w6.drewN n :=
            fun n => (len_m (hm7.later ((Keeps.refl (S := No) w6).drewN n)) 0 rfl).mono fun _ _ ⟨he, hw⟩ => ⟨he, hw.symm⟩
          have Hsame := Lib.hid hsame
          have Hlen := Lib.hid hlen
          have Hm7 := Lib.hid hm7
          have hne : ((ps'.length : Int) != (ps'.length : Int)) = false := by simp
          clear hm7 hrr hrq hsame hlen
          go_quiet (first
            | (go_at_call 18; exact Calls.quiet_of (Hsame.out _))
            | (go_at_call 16; exact Calls.quiet_of_same (Hlen.out _)))
          go_wp2_with fail
          go_meet
          case rel => exact ⟨rfl, Hm7.out.later ((Keeps.refl _).drewN _)⟩
        case rest =>
          obtain ⟨rfl, hm8⟩ := hcut
          clear hm7
          go_wp2
          go_loopw [20] (fun i wq => ∃ (j : Nat) (qs : List Pk), j ≤ ps'.length ∧ i = .int .i64 j ∧ qs.length = ps'.length ∧ Mem w wq [NetT b N ps', DdT (.slice (some ⟨b', off, none⟩) ds.length lc) ds, PkT (.slice ra ps'.length rc) ps', RefB b2 N (.slice ra ps'.length rc), RowT 34 3 (.slice qa ps'.length qc) ps'.length (pkCells qs)]) (fun i _ => ps'.length - (intOf i).toNat)
          case atStart => exact ⟨0, ps', Nat.zero_le _, rfl, rfl, hm8⟩
          case round =>
            clear hm8
            obtain ⟨j, qs, hj, rfl, hql, hmq⟩ := hrel
            by_cases hjl : j < ps'.length
            · obtain ⟨gq, rfl⟩ : ∃ gq, qa = some ⟨gq, 0, none⟩ := by
                obtain ⟨F, ⟨h, _⟩⟩ := hmq.see 4 rfl
                rcases h.2 with ⟨_, h0⟩ | ⟨gq, cap, cur, he, _⟩
                · omega
                · simp only [Value.slice.injEq] at he
                  exact ⟨gq, he.1⟩
              obtain ⟨c2, f2⟩ := hmq.cellAt 4 rfl (j * 3 + 2) (by omega)
              rw [(pkCells_at qs j (by omega)).2.2] at c2
              have hst := hmq.stored 4 rfl (j * 3 + 2) (.string ⟨#[115, 112, 111, 105, 108, 116]⟩)
              rw [pkCells_setS qs j (by omega)] at hst
              have Hst := Lib.hid hst
              have Hps := Lib.hid hps
              have hjb : (j : Int) ≤ 4094 := by have := hps.out; omega
              clear hst hmq
              go_wp2
              go_roundw
              case rel => exact ⟨j + 1, _, by omega, by go_num, by rw [List.length_set]; exact hql, Hst.out⟩
              case measure => simp [intOf]; omega
            · obtain rfl : j = ps'.length := by omega
              have hm9 : Mem w wr [NetT b N ps', DdT (.slice (some ⟨b', off, none⟩) ds.length lc) ds, PkT (.slice ra ps'.length rc) ps', RefB b2 N (.slice ra ps'.length rc)] := hmq.erase 4 (by simp)
              clear hmq
              go_upto_region 35 with fail
              go_cut [173] (fun v173 w' => v173 = .bool false ∧ Mem w w' [NetT b N ps', DdT (.slice (some ⟨b', off, none⟩) ds.length lc) ds, PkT (.slice ra ps'.length rc) ps', RefB b2 N (.slice ra ps'.length rc)])
              case first =>
                have hmd := hm9.drew
                obtain ⟨k0, _⟩ := hmd.cellAt 3 rfl 1 (by omega)
                simp only [List.getElem?_cons_succ, List.getElem?_cons_zero] at k0
                have hlist := Lib.hid (list_m hmd 0 rfl (by have := hps.out; omega))
                clear hm9 hmd
                go_region_with (first
                  | (refine hlist.out.mono ?_
                     rintro e w7 ⟨pv, rfl, hm7⟩
                     have hm8 : Mem w w7 [NetT b N ps', DdT (.slice (some ⟨b', off, none⟩) ds.length lc) ds, PkT (.slice ra ps'.length rc) ps', RefB b2 N (.slice ra ps'.length rc), PkT pv ps'] := hm7
                     clear hm7
                     obtain ⟨k1, _⟩ := hm8.cellAt 3 rfl 1 (by omega)
                     simp only [List.getElem?_cons_succ, List.getElem?_cons_zero] at k1
                     have Hm8 := Lib.hid hm8
                     clear hm8)
                  | (refine (same_yes w7 _ _ ps' (pkT_reads (Hm8.out.see 4 rfl).choose_spec) (pkT_reads (Hm8.out.see 2 rfl).choose_spec)).mono ?_
                     rintro e w8 ⟨rfl, hk8⟩))
                all_goals
                  have hfin := Lib.hid ((Hm8.out.later hk8).erase 4 (by simp))
                  clear hk8
                  go_wp2_with fail
                  go_meet
                  case rel => exact ⟨rfl, hfin.out⟩
              case rest =>
                obtain ⟨rfl, hmz⟩ := hcut
                have Hmz := Lib.hid hmz
                have hkm : Hid (ps'.length ≤ 21 * (k + 1)) := Hpc
                clear hmz hm9
                go_wp2
                go_roundw
                case rel => exact ⟨k + 1, _, ps', by omega, by go_num, Hmz.out, hkm.out⟩
                case measure => simp [intOf]; omega
    · obtain rfl : k = ds.length := by omega
      go_wp2_with fail
      refine (awake_any _).mono ?_
      rintro e w8 ⟨rfl, hk8⟩
      have hfin : Hid (Keeps No w w8) := hmr.keeps.trans hk8 (fun _ _ h => h)
      go_wp2
      go_ret
      exact ⟨rfl, hfin.out⟩

set_option maxRecDepth 100000 in
set_option maxHeartbeats 2000000 in
theorem walk_no (N : Int) (v : Value) (w : World) (hN : (decide (1 ≤ N) && decide (N ≤ 17)) = false) : Calls Try.prog 7 #[.int .i64 N, v] w fun e w' => e = .returned (.bool true) ∧ Keeps No w w' := by
  go_enter Try.func7, Try.ntmps7
  go_wp2_with fail
  refine (new_no N (by simp only [Bool.and_eq_false_iff, decide_eq_false_iff_not] at hN; omega) w).mono ?_
  rintro e w1 ⟨rfl, rfl⟩
  have HN := Lib.hid hN; clear hN
  go_wp2_with fail
  refine (right_any N w).mono ?_
  rintro e w2 ⟨rfl, rfl⟩
  rw [HN.out]
  go_wp2_with fail
  refine (awake_any _).mono ?_
  rintro e w8 ⟨rfl, hk8⟩
  have hfin : Hid (Keeps No w w8) := hk8
  clear hk8
  go_wp2
  go_ret
  exact ⟨rfl, hfin.out⟩

set_option maxRecDepth 100000 in
theorem lifted (os : Os) (started : os.Started) (H : Type) (enc : TypeId × Value → H) :
    ReturnsInHanded {} Try.checked os 7 .any (Rows.netPlaysSpec.pre6 enc Try.prog Try.f7 Rows.netPlaysRow.domain false) (Rows.netPlaysSpec.post enc Try.prog Try.f7 false true false false) := by
  refine law_lifted os started H enc (by kernel_rfl) Try.func7
    (ChangeSpec.witness6 (enc := enc) (C := Try.checked) false ⟨#[], #[.int .i64 0, .slice none 0 0], []⟩ 8 (by kernel_rfl) (by kernel_rfl) (by kernel_rfl) (by kernel_rfl))
    (by decide +kernel) rfl Try.underlying4 rfl (fun ds h => by match ds, h with | [d1, d2], _ => rfl) ?_
  intro W base args ds p hval hA
  rw [Try.params7] at hA hval
  obtain ⟨v0, v1, d0, d1, p0, p1, rfl, rfl, rfl, h0, h1⟩ := trodAll_two hA
  obtain ⟨n, rfl, rfl, rfl, wn⟩ := open_int Try.underlying3 (hval 0 3 v0 rfl rfl) h0
  obtain ⟨l, hl, hok⟩ := open_dds (hval 1 22 v1 rfl rfl) h1
  by_cases h1 : 1 ≤ n
  · by_cases h2 : n ≤ 17
    · exact walk_yes n v1 l W hl hok h1 h2
    · exact walk_no n v1 W (by simp [h1, h2])
  · exact walk_no n v1 W (by simp [h1])

theorem holds : Rows.NetPlaysSaid :=
  OpenClaim.holds_of_wide 7 Try.f7 rfl rfl rfl rfl rfl rfl rfl ⟨rfl, rfl, rfl, rfl, rfl⟩ rfl rfl rfl rfl rfl (by kernel_rfl) Try.func7 (by kernel_rfl)
    (of_decide_eq_true (by kernel_rfl)) (by unfold Func.isWrapper; first | (rw [if_pos (by decide +kernel)]; kernel_rfl) | (rw [if_neg (by decide +kernel)]; exact ⟨rfl, rfl⟩))
    (fun os started H enc _ => lifted os started H enc)
end Go.Proofs.Ytneikamjlbfglaa.netPlays
