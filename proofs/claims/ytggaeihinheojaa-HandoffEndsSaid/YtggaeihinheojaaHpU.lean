/-
  HandoffEnds: when all messages come, all that are to go are at their targets, and no Out and no In is left. No conditions.
-/
import Derived.Test.YtggaeihinheojaaHpT
import Derived.Test.YtggaeihinheojaaHpP
namespace Go.Proofs.Ytggaeihinheojaa.handoffEnds
open Go.ChangeShapes Go.WideShapes Go.ChangeAt Go.RowKit Go.Joins Go.Deep

section
variable {w : World}
/-- the lists so far -/
def WantRel (w1 : World) (q : Nat) (W : Wd) (c : Nat) (wr : World) : Prop := ∃ vz Z, QAt wr q (q + 1) vz Z ∧ (∀ t, t < 3 → (Z t).length ≤ c) ∧ Wants W Z ∧ Keeps No w1 wr
def Rel1 (w1 : World) (q : Nat) (W : Wd) (v6 : Value) (wr : World) : Prop := ∃ k : Nat, k ≤ 3 ∧ v6 = .int .i64 k ∧ WantRel w1 q W (44 * k) wr
def In1 (w1 : World) (q : Nat) (W : Wd) (k : Nat) (v7 : Value) (wr : World) : Prop := ∃ j : Nat, j ≤ (W.s k).outs.length ∧ v7 = .int .i64 j ∧ WantRel w1 q W (44 * k + j) wr
def Lives (w1 : World) (g q : Nat) (vz : Nat → Value) (Z : Nat → List Idn) (U : Nat) (wr : World) (W : Wd) : Prop := ∃ V ms T, Live w1 g q (q + 1) vz Z U wr V ms W T
def Rel3 (w1 : World) (g q : Nat) (vz : Nat → Value) (Z : Nat → List Idn) (U : Nat) (v9 : Value) (wr : World) : Prop := ∃ r : Nat, r ≤ 400 ∧ v9 = .int .i64 r ∧ ∃ W, Lives w1 g q vz Z U wr W ∧ Pot W + r ≤ 248
def RelA (w1 : World) (g q : Nat) (vz : Nat → Value) (Z : Nat → List Idn) (U : Nat) (W0 : Wd) (v10 v11 : Value) (wr : World) : Prop := ∃ (a : Nat) (idle : Bool), a ≤ 3 ∧ v11 = .int .i64 a ∧ v10 = .bool idle ∧ ∃ W, Lives w1 g q vz Z U wr W ∧ InRound W0 W idle a
def RelB (w1 : World) (g q : Nat) (vz : Nat → Value) (Z : Nat → List Idn) (U : Nat) (W0 : Wd) (a : Nat) (v10 v12 : Value) (wr : World) : Prop := ∃ (b : Nat) (idle : Bool), b ≤ 3 ∧ v12 = .int .i64 b ∧ v10 = .bool idle ∧ ∃ W, Lives w1 g q vz Z U wr W ∧ InRow W0 W idle a b
def Rel4 (wl : World) (v13 : Value) (wr : World) : Prop := ∃ k : Nat, k ≤ 3 ∧ v13 = .int .i64 k ∧ Keeps No wl wr
def In4 (wl : World) (n : Nat) (v14 : Value) (wr : World) : Prop := ∃ j : Nat, j ≤ n ∧ v14 = .int .i64 j ∧ Keeps No wl wr

theorem qat_new (w : World) : QAt (w.alloc (.cells #[.slice none 0 0, .slice none 0 0, .slice none 0 0] 71)) w.heap.size (w.heap.size + 1) (fun _ => .slice none 0 0) (fun _ => []) := by
  refine ⟨open_alloc_at _ _ _ _ rfl, by rw [rowD_alloc_at _ _ _ _ rfl]; rfl, fun t ht => ?_, fun _ _ => World.ownsRow_nil _ _ _ _, fun _ _ i _ _ h => by simp [Value.ownBlock] at h, by omega⟩
  have e : t = 0 ∨ t = 1 ∨ t = 2 := by omega
  rcases e with rfl | rfl | rfl <;> simp [go_sem]

set_option maxRecDepth 100000 in
set_option maxHeartbeats 8000000 in
theorem walk {v : Value} {l : List Tu} (hv : RdOf cTu w v l) : Calls Try.prog 7 #[v] w fun e w' => e = .returned (.bool true) ∧ Keeps No w w' := by
  have Hv := Lib.hid hv
  clear hv
  go_enter Try.func7, Try.ntmps7
  go_wp2_with (go_at_call 26; refine (played_any Hv.out).mono ?_; rintro e w1 ⟨g, V, ms, W, rfl, h1, hO1, hk1, hg1⟩; have K1 := Lib.hid hk1; have H := Lib.hid h1; have HO := Lib.hid hO1; have Hg := Lib.hid hg1; clear hk1 h1 hO1 hg1)
  refine wp_world ?_
  intro X hX
  have HQ := qat_new w1
  rw [← hX] at HQ
  have KX : Hid (Keeps No w1 X) := by rw [hX]; exact (Keeps.refl (S := No) w1).alloc _
  obtain ⟨q, hq⟩ : ∃ q, q = w1.heap.size := ⟨_, rfl⟩
  rw [← hq] at HQ ⊢
  have Hq := Lib.hid hq
  have HQ0 := Lib.hid HQ
  clear hX hq HQ
  go_loopw [6] (fun v6 wr => Rel1 w1 q W v6 wr) (fun k _ => 3 - (intOf k).toNat)
  case atStart => exact ⟨0, by omega, rfl, _, _, HQ0.out, fun _ _ => Nat.le_refl _, fun _ _ _ h => (by cases h), KX.out⟩
  case round =>
    obtain ⟨k, hk, rfl, hwr⟩ := hrel
    obtain ⟨wo, hwo⟩ : ∃ x : World, x = wr := ⟨_, rfl⟩
    subst hwo
    have HWR := Lib.hid hwr
    clear hwr
    have hkI : (0 : Int) ≤ (k : Int) := by omega
    by_cases hk3 : k < 3
    · have hk3' : (k : Int) < 3 := by omega
      obtain ⟨ua, uc, hVu⟩ := (H.out.outs k hk3).1.slice
      obtain ⟨N, hN⟩ : ∃ N, N = (W.s k).outs.length := ⟨_, rfl⟩
      have HV2 : Hid (V.u k = .slice ua N uc) := by show _ = _; rw [hVu, hN]
      have hN44 : (N : Int) ≤ 44 := by have h := outs_le HO.out.S hk3; rw [← hN] at h; omega
      have HN := Lib.hid hN
      have kb1 : k * 8 + 8 ≤ 34 := by omega
      have Hk3 := Lib.hid hk3
      clear hVu hk3 hN
      go_wp2_with fail
      go_loopw [7] (fun v7 wr => In1 w1 q W k v7 wr) (fun j _ => N - (intOf j).toNat)
      case atStart => exact ⟨0, Nat.zero_le _, rfl, HWR.out⟩
      case round =>
        obtain ⟨j, hj, rfl, hwr⟩ := hrel
        obtain ⟨vz, Z, hq1, hl1, hw1, hk1⟩ := hwr
        have Hq1 := Lib.hid hq1
        have Hl1 := Lib.hid hl1
        have Hw1 := Lib.hid hw1
        have K3 := Lib.hid hk1
        clear hq1 hl1 hw1 hk1
        have hjI : (0 : Int) ≤ (j : Int) := by omega
        have H3 := Lib.hid (H.out.no K3.out)
        have c4 := H3.out.cell Hk3.out 4 _ rfl
        rw [HV2.out] at c4
        have hjN : j ≤ N := by have h := HN.out; omega
        have hjI2 : (j : Int) ≤ (N : Int) := by omega
        by_cases hlt : j < N
        · have hltI : (j : Int) < (N : Int) := by omega
          have hjl : j < (W.s k).outs.length := by have h := HN.out; omega
          obtain ⟨o, ho⟩ : ∃ o, o = (W.s k).outs[j] := ⟨_, rfl⟩
          have hru : RdOf cOu wr (.slice ua N uc) (W.s k).outs := by rw [← HV2.out]; exact (H3.out.outs k Hk3.out).1
          rw [HN.out] at hru
          obtain ⟨gu, off, rfl, hc1, hc2, hg⟩ := RdOf.addr cOu hru (by omega)
          have g0 : cellsAt wr gu (off + j * 14) 14 = some (ouC o) := by rw [ho]; exact RdOf.at cOu hru j hjl
          rw [← HN.out] at hc1
          have HM : Hid (o ∈ (W.s k).outs) := by show _ ∈ _; rw [ho]; exact List.getElem_mem hjl
          obtain ⟨D, hD3, hDk, hDe⟩ := (HO.out.S.outs k Hk3.out o HM.out).tgt
          have hcI : (N : Int) ≤ (uc : Int) := by omega
          have HD := Lib.hid hDe
          have hjl2 := Lib.hid hjl
          have hD0 : (0 : Int) ≤ (D : Int) := by omega
          have hD3' : (D : Int) < 3 := by omega
          have HD3 := Lib.hid hD3
          unfold ouC at g0
          clear ho hru hc2 hDe hjl hc1
          go_wp2_with fail
          refine wp_world ?_
          intro Y hY
          have KY : Hid (Keeps No wr Y) := by rw [hY]; exact (Keeps.refl (S := No) wr).alloc _
          have cT0 : Y.cell? ⟨wr.heap.size, 0, none⟩ = some (.int .i64 o.n) := by rw [hY]; simp [go_sem]
          have cT1 : Y.cell? ⟨wr.heap.size, 1, none⟩ = some (.int .i64 D) := by rw [hY, ← HD.out]; simp [go_sem]
          have cT2 : Y.cell? ⟨wr.heap.size, 2, none⟩ = some (.int .i64 o.st) := by rw [hY]; simp [go_sem]
          have cTI : Hid (cellsAt Y wr.heap.size 3 3 = some (idC ⟨o.b.s, o.b.i, o.b.g⟩)) := by show _ = _; rw [hY]; simp [go_sem]
          have HcT1 := Lib.hid cT1
          clear hY c4 g0
          obtain ⟨CC, hCC⟩ : ∃ CC, CC = counted W k o := ⟨_, rfl⟩
          have HCC := Lib.hid hCC
          clear hCC
          go_cut [66] (fun s66 wx => s66 = .bool CC ∧ Keeps No Y wx)
          case first =>
            by_cases h3 : o.st = 3
            · have e2 : (o.st != 3) = false := by rw [h3]; rfl
              have hcnt : CC = (W.s D).ins.any (isIn k o.n) := by
                rw [HCC.out]
                unfold counted staged
                have e : o.to.toNat = D := by have := HD.out; omega
                rw [h3, e]
                rfl
              have hD3 := HD3.out
              have db1 : D * 8 + 8 ≤ 34 := by omega
              have HY3 := Lib.hid (H3.out.no KY.out)
              obtain ⟨oa2, oc2, hVo2⟩ := (HY3.out.own D hD3).1.slice
              obtain ⟨ua2, uc2, hVu2⟩ := (HY3.out.outs D hD3).1.slice
              obtain ⟨ia2, ic2, hVi2⟩ := (HY3.out.ins D hD3).1.slice
              have cSY := HY3.out.st D hD3
              unfold shC at cSY
              rw [hVo2, hVu2, hVi2] at cSY
              have HI : Hid (RdOf cIn Y (.slice ia2 (W.s D).ins.length ic2) (W.s D).ins) := by rw [← hVi2]; exact (HY3.out.ins D hD3).1
              obtain ⟨F2, hF2⟩ : ∃ F2, firstOf (isIn k o.n) (W.s D).ins = F2 := ⟨_, rfl⟩
              have hdA : decide ((0 : Int) ≤ F2) = CC := by rw [← hF2, first_any, hcnt]
              have HF2 := Lib.hid hF2
              rw [h3] at cT2
              clear hVo2 hVu2 hVi2 hF2 h3 hcnt hD3
              go_region_held3 (fun w' => w'.cell? ⟨wr.heap.size, 0, none⟩ = some (.int .i64 o.n) ∧ w'.cell? ⟨wr.heap.size, 1, none⟩ = some (.int .i64 D) ∧ w'.cell? ⟨wr.heap.size, 2, none⟩ = some (.int .i64 3) ∧ cellsAt w' g (D * 8) 8 = some [.int .i64 0, .int .i64 0, .slice oa2 (W.s D).own.length oc2, nilV, .slice ua2 (W.s D).outs.length uc2, .slice ia2 (W.s D).ins.length ic2, nilV, .int .i64 (W.s D).nx]) (exact ⟨cT0, cT1, cT2, cSY⟩)
                (first
                  | (go_at_call 16
                     refine (rin_any (HI.out.kept (Keeps.refl (S := No) Y).drew (fun _ _ h => h)) k o.n).mono ?_
                     rw [HF2.out]
                     rintro e w5 ⟨rfl, hk5⟩
                     have J5 : Hid (Keeps No Y w5) := ((Keeps.refl (S := No) Y).drew).trans hk5 (fun _ _ h => h)
                     have q1 := J5.out.cell cT0 (fun h => h)
                     have q2 := J5.out.cell cT1 (fun h => h)
                     have q4 := J5.out.cell cT2 (fun h => h)
                     have q3 := J5.out.cellsAt cSY
                     clear hk5 cT0 cT1 cT2 cSY
                     have cT0 := q1
                     have cT1 := q2
                     have cT2 := q4
                     have cSY := q3
                     clear q1 q2 q3 q4))
              all_goals
                go_wp2_with fail
                go_meet
                exact ⟨rfl, J5.out⟩
            · have e2 : (o.st != 3) = true := by rw [bne_iff_ne]; exact h3
              have hc : CC = true := by
                rw [HCC.out]
                unfold counted
                have e : (o.st == 3) = false := beq_false_of_ne h3
                rw [e]
                rfl
              have HC2 := Lib.hid hc
              clear h3 hc
              go_region
              all_goals
                go_wp2_with fail
                go_meet
                exact ⟨by rw [HC2.out], (Keeps.refl (S := No) Y).drew⟩
          case rest =>
            obtain ⟨rfl, kc⟩ := hcut
            obtain ⟨yc, hyc⟩ : ∃ x : World, x = wc := ⟨_, rfl⟩
            subst hyc
            have KC : Hid (Keeps No wr yc) := KY.out.trans kc (fun _ _ h => h)
            have K4 : Hid (Keeps No w1 yc) := K3.out.trans KC.out (fun _ _ h => h)
            have HQ4 := Lib.hid (Hq1.out.keeps KC.out (fun _ _ h => h))
            have cD := kc.cell HcT1.out (fun h => h)
            have cI := kc.cellsAt cTI.out
            have lY : Hid (wr.heap.size < yc.heap.size) := by
              have h := kc.size
              have h2 : wr.heap.size < Y.heap.size := by
                have h3 := cTI.out
                unfold Proofs.Ytggaeihinheojaa.cellsAt at h3
                split at h3
                · rename_i hh
                  exact (Array.getElem?_eq_some_iff.1 hh).1
                · cases h3
              show _ < _
              omega
            clear cT0 cT1 cT2 kc
            cases CC
            · go_wp2_with fail
              go_roundw
              case rel => exact ⟨j + 1, hjl2.out, by go_num, vz, Z, HQ4.out, fun t ht => Nat.le_trans (Hl1.out t ht) (by omega), Hw1.out, K4.out⟩
              case measure => simp [intOf]; omega
            · obtain ⟨i0, hi, hz0, hz1, hz2⟩ := info_parts Try.infoId
              obtain ⟨za, zc, hVz⟩ : ∃ x c, vz D = .slice x (Z D).length c := ownsRow_slice (HQ4.out.row D HD3.out)
              have cz := HQ4.out.cell D HD3.out
              rw [hVz] at cz
              have HRW : Hid (OwnOf cId 35 yc (q + 1) (.slice za (Z D).length zc) (Z D)) := by rw [← hVz]; exact HQ4.out.row D HD3.out
              have HVz := Lib.hid hVz
              have Hwl : Hid ((Z D).length ≤ 176) := by have h := Hl1.out D HD3.out; have h2 := Hk3.out; show _ ≤ _; have h3 : (N : Int) ≤ 44 := hN44; omega
              have hqy : q + 1 ≤ yc.heap.size := HQ4.out.qlt
              obtain ⟨M, hM⟩ : ∃ M : Idn, M = ⟨o.b.s, o.b.i, o.b.g⟩ := ⟨_, rfl⟩
              have HMd := Lib.hid hM
              have hqw : q ≠ wr.heap.size := by have h := Hq1.out.qlt; omega
              have HWt : Hid (Wt W D (idP M)) := by
                rw [hM]
                exact .inr ⟨k, Hk3.out, o, HM.out, HD.out, ⟨rfl, rfl, rfl⟩, HCC.out.symm⟩
              have cza : (yc.alloc (.cells #[.int .i64 o.b.s, .int .i64 o.b.i, .int .i64 o.b.g] 35)).cell? ⟨q, D, none⟩ = some (.slice za (Z D).length zc) := ((Keeps.refl (S := No) yc).alloc _).cell cz (fun h => h)
              have cDa : (yc.alloc (.cells #[.int .i64 o.b.s, .int .i64 o.b.i, .int .i64 o.b.g] 35)).cell? ⟨wr.heap.size, 1, none⟩ = some (.int .i64 D) := ((Keeps.refl (S := No) yc).alloc _).cell cD (fun h => h)
              clear hVz hM
              go_wp2_with fail
              clear H3 HcT1 cTI HM
              go_region_law (refine step_append_reads rfl (.tmp 72) (.tmp 76) 23 rfl (q + 1) 35 i0 _ 3 24 Try.underlying23 hi hz0 hz1 hz2 rfl (by decide) (.slice za (Z D).length zc) (Z D).length (rowsOf cId (Z D)) rfl ((((Keeps.refl (S := No) yc).drew).alloc _).owns HRW.out (fun _ _ h => h)) (.slice (some ⟨yc.heap.size, 0, none⟩) 1 1) 1 (idC ⟨o.b.s, o.b.i, o.b.g⟩) rfl (litReads cId yc.drew 35 ⟨o.b.s, o.b.i, o.b.g⟩) (by have := Hwl.out; unfold maxLen; omega) (by have := Hwl.out; omega) (by simp; omega) ?_
                             intro v4 w4 ho4 hk4 hb4 _
                             have HPu := Lib.hid (HQ4.out.push HD3.out (w' := w4) (v := v4) (l := Z D ++ [M]) (by show Keeps (Of (vz D)) _ _; rw [HVz.out]; exact (((Keeps.refl yc).drew).alloc _).trans hk4 (fun _ _ h => h)) (by
                               show World.ownsRow _ _ _ _ _ _ _
                               rw [List.length_append, rowsOf_append, HMd.out]
                               exact ho4) (fun i hi => by
                                 rw [HVz.out]
                                 rcases hb4 i hi with h | h
                                 · exact .inl h
                                 · exact .inr (by simp at h; omega)))
                             have KP : Hid (Keeps No w1 (w4.setCell ⟨q, D, none⟩ v4)) := K4.out.trans (((((Keeps.refl yc).drew).alloc _).trans hk4 (T := Of (.slice za (Z D).length zc)) (S := fun i => q ≤ i) (fun i _ h => by have h1 := (HRW.out.lt i h).1; show q ≤ i; omega)).setCell (p := ⟨q, D, none⟩) (fun _ => Nat.le_refl q) v4) (fun i hi h => by have h1 := Hq.out; have hi : i < w1.heap.size := hi; have h : q ≤ i := h; omega)
                             have HWR2 : Hid (WantRel w1 q W (44 * k + (j + 1)) (w4.setCell ⟨q, D, none⟩ v4)) := by
                               refine ⟨_, _, HPu.out, fun t ht => ?_, fun t ht a ha => ?_, KP.out⟩
                               · by_cases e : t = D
                                 · subst e
                                   rw [upd_at, List.length_append]
                                   have h := Hl1.out t ht
                                   show _ + 1 ≤ _
                                   omega
                                 · rw [upd_ne _ _ e]
                                   have h := Hl1.out t ht
                                   omega
                               · by_cases e : t = D
                                 · subst e
                                   rw [upd_at] at ha
                                   rcases List.mem_append.1 ha with h | h
                                   · exact Hw1.out t ht a h
                                   · obtain rfl := List.mem_singleton.1 h
                                     exact HWt.out
                                 · rw [upd_ne _ _ e] at ha
                                   exact Hw1.out t ht a ha
                             have f4 : w4.frozen? ⟨q, D, none⟩ = false := ((open_setCell _ _ _ _ _).1 HPu.out.box).frozen _
                             obtain ⟨va4, vn4, vc4, rfl⟩ : ∃ a n c, v4 = .slice a n c := by
                               obtain ⟨a, c, he⟩ := ownsRow_slice ho4
                               exact ⟨a, _, c, he⟩
                             have c4 : w4.cell? ⟨q, D, none⟩ = some (.slice za (Z D).length zc) := ((((Keeps.refl yc).drew).alloc _).trans hk4 (fun _ _ h => h)).cell cz (fun e => by have h1 := (HRW.out.lt q e).1; omega)
                             have cD4 : w4.cell? ⟨wr.heap.size, 1, none⟩ = some (.int .i64 D) := ((((Keeps.refl yc).drew).alloc _).trans hk4 (fun _ _ h => h)).cell cD (fun e => by
                               have h1 := Hq1.out.lt (i := wr.heap.size) (.inr ⟨D, HD3.out, by rw [HVz.out]; exact e⟩)
                               omega)
                             clear ho4 hk4 hb4)
              all_goals
                go_wp2_with fail
                go_roundw
                case rel => exact ⟨j + 1, hjl2.out, by go_num, HWR2.out⟩
                case measure => simp [intOf]; omega
        · have hlt2 : ¬ (j : Int) < (N : Int) := by omega
          go_wp2_with fail
          go_roundw
          case rel => exact ⟨k + 1, by omega, by go_num, vz, Z, Hq1.out, fun t ht => Nat.le_trans (Hl1.out t ht) (by omega), Hw1.out, K3.out⟩
          case measure => simp [intOf]; omega
    · have hk3' : ¬ (k : Int) < 3 := by omega
      obtain rfl : k = 3 := by omega
      rw [show ((3 : Nat) : Int) = 3 from rfl]
      obtain ⟨vz, Z, hq1, hl1, hw1, hk1⟩ := HWR.out
      have HL : Hid (Live w1 g q (q + 1) vz Z (120 + Pot W) wo V ms W 120) := by
        refine ⟨H.out.no hk1, HO.out, rfl, hw1, hq1, fun i hm hi => ?_, hk1.mono (fun _ _ h => h.elim), ?_⟩
        · have h2 := H.out.mut_lt hm
          have h3 := hq1.ge hi
          have h4 := Hq.out
          omega
        · have h2 := H.out.glt
          have h3 := hk1.size
          omega
      obtain ⟨U, hU⟩ : ∃ U, U = 120 + Pot W := ⟨_, rfl⟩
      rw [← hU] at HL
      have HU : Hid (U ≤ 368) := by have h := pot_le HO.out; show _ ≤ _; omega
      have Hl1 := Lib.hid hl1
      clear hq1 hl1 hw1 hk1 HWR hU
      have HP0 := Lib.hid (pot_le HO.out)
      go_wp2_with fail
      go_loopw [9] (fun v9 wr => Rel3 w1 g q vz Z U v9 wr) (fun r _ => 400 - (intOf r).toNat)
      case atStart => exact ⟨0, by omega, rfl, W, ⟨V, ms, 120, HL.out⟩, by have h := HP0.out; omega⟩
      case round =>
        obtain ⟨r, hr, rfl, W0, hl0, hp0⟩ := hrel
        obtain ⟨wp, hwp⟩ : ∃ x : World, x = wr := ⟨_, rfl⟩
        subst hwp
        have HL0 := Lib.hid hl0
        have HP1 := Lib.hid hp0
        have hr248 : (r : Int) ≤ 248 := by omega
        have hr0 : (0 : Int) ≤ (r : Int) := by omega
        clear hl0 hp0
        go_wp2_with fail
        go_loopw [10, 11] (fun v10 v11 wr => RelA w1 g q vz Z U W0 v10 v11 wr) (fun _ a _ => 3 - (intOf a).toNat)
        case atStart => exact ⟨0, true, by omega, rfl, rfl, W0, HL0.out, InRound.start W0⟩
        case round =>
          obtain ⟨a, idle, ha, rfl, rfl, W1, hl1, hr1⟩ := hrel
          obtain ⟨wq, hwq⟩ : ∃ x : World, x = wr := ⟨_, rfl⟩
          subst hwq
          have HR1 := Lib.hid hr1
          have haI : (0 : Int) ≤ (a : Int) := by omega
          by_cases ha3 : a < 3
          · have ha3' : (a : Int) < 3 := by omega
            have HCa : Hid (Calls Try.prog 27 #[gP g, .int .i64 a] wq fun e w' => ∃ (bb : Bool) (W2 : Wd), e = .returned (.bool bb) ∧ Lives w1 g q vz Z U w' W2 ∧ InRow W0 W2 (!bb && idle) a 0) := by
              obtain ⟨V1, ms1, T1, hlv⟩ := hl1
              refine (wask_any hlv.wat hlv.ok hlv.hb ha3).mono ?_
              rintro e w' (⟨hm, rfl, _, hk⟩ | ⟨rfl, V2, ms2, W2, hw2, hr2, ho2⟩)
              · exact ⟨false, W1, rfl, ⟨V1, ms1, T1, hlv.no hk⟩, hr1.askNo hm⟩
              · exact ⟨true, W2, rfl, ⟨V2, ms2, T1 + 1, hlv.step hw2 hr2 ho2⟩, hr1.askYes hr2⟩
            have Ha3 := Lib.hid ha3
            clear hl1 hr1 ha3
            go_wp2_with (go_at_call 27; refine HCa.out.mono ?_; rintro e w2 ⟨bb, W2, rfl, hl2, hr2⟩; have HL2 := Lib.hid hl2; have HR2 := Lib.hid hr2; clear hl2 hr2; cases bb)
            all_goals
              go_loopw [10, 12] (fun v10 v12 wr => RelB w1 g q vz Z U W0 a v10 v12 wr) (fun _ b _ => 3 - (intOf b).toNat)
              case atStart => exact ⟨0, _, by omega, rfl, rfl, W2, HL2.out, by first | exact HR2.out | simpa using HR2.out⟩
              case round =>
                obtain ⟨b, idle2, hb, rfl, rfl, W3, hl3, hr3⟩ := hrel
                obtain ⟨wb, hwb⟩ : ∃ x : World, x = wr := ⟨_, rfl⟩
                subst hwb
                have HR3 := Lib.hid hr3
                have hbI : (0 : Int) ≤ (b : Int) := by omega
                by_cases hb3 : b < 3
                · have hb3' : (b : Int) < 3 := by omega
                  obtain ⟨V3, ms3, T3, hlv⟩ := hl3
                  obtain ⟨wa, wc, hVw⟩ : ∃ x c, V3.w a b = .slice x (ms3 a b).length c := ownsRow_slice (hlv.wat.row a b Ha3.out hb3)
                  have cW := hlv.wat.wy a b Ha3.out hb3
                  rw [hVw] at cW
                  have hsaid := hlv.wat.said a b Ha3.out hb3
                  by_cases hway : W3.way a b = []
                  · have hn : (ms3 a b).length = 0 := by
                      rw [hway] at hsaid
                      have h := congrArg List.length hsaid
                      simpa using h
                    have HCb : Hid (Calls Try.prog 28 #[gP g, .int .i64 a, .int .i64 b] wb fun e w' => e = .returned (.bool true) ∧ ∃ V4 ms4 T4 W4, Live w1 g q (q + 1) vz Z U w' V4 ms4 W4 T4 ∧ InRow W0 W4 idle2 a (b + 1)) := by
                      refine (wcomes_any hlv.wat hlv.ok hlv.hb Ha3.out hb3).mono ?_
                      rintro e w' ⟨rfl, ⟨_, _, hk⟩ | ⟨hne, _⟩⟩
                      · exact ⟨rfl, V3, ms3, T3, W3, hlv.no hk, hr3.comeNo hway⟩
                      · exact absurd hway hne
                    rw [hn] at cW
                    have Hb3 := Lib.hid hb3
                    clear hlv hVw hsaid hway hn hr3 hb3
                    go_wp2_with (first
                      | (go_at_call 28; refine HCb.out.mono ?_; rintro e w4 ⟨rfl, V4, ms4, T4, W4, hl4, hr4⟩; have HL4 := Lib.hid hl4; have HR4 := Lib.hid hr4; clear hl4 hr4)
                      | (go_at_call 29; refine (sound_any HL4.out.wat HL4.out.ok).mono ?_; rintro e w5 ⟨rfl, hk5⟩; have HL5 := Lib.hid (HL4.out.no hk5); clear hk5))
                    go_roundw
                    case rel => exact ⟨b + 1, idle2, by have h := Hb3.out; omega, by go_num, rfl, W4, ⟨V4, ms4, T4, HL5.out⟩, HR4.out⟩
                    case measure => simp [intOf]; omega
                  · have hn : 0 < (ms3 a b).length := by
                      rcases Nat.eq_zero_or_pos (ms3 a b).length with h | h
                      · exfalso
                        apply hway
                        rw [← hsaid, List.eq_nil_of_length_eq_zero h]
                        rfl
                      · exact h
                    obtain ⟨n, hn2⟩ : ∃ n, n = (ms3 a b).length := ⟨_, rfl⟩
                    rw [← hn2] at hn cW
                    have hnI : (0 : Int) < (n : Int) := by omega
                    have HCb : Hid (Calls Try.prog 28 #[gP g, .int .i64 a, .int .i64 b] wb fun e w' => e = .returned (.bool true) ∧ ∃ V4 ms4 T4 W4, Live w1 g q (q + 1) vz Z U w' V4 ms4 W4 T4 ∧ InRow W0 W4 false a (b + 1)) := by
                      refine (wcomes_any hlv.wat hlv.ok hlv.hb Ha3.out hb3).mono ?_
                      rintro e w' ⟨rfl, ⟨hne, _⟩ | ⟨_, V4, ms4, W4, hw4, hr4, ho4⟩⟩
                      · exact absurd hne hway
                      · exact ⟨rfl, V4, ms4, T3 + 1, W4, hlv.step hw4 hr4 ho4, hr3.comeYes hr4⟩
                    have Hb3 := Lib.hid hb3
                    clear hlv hVw hsaid hway hn hr3 hb3 hn2
                    go_wp2_with (first
                      | (go_at_call 28; refine HCb.out.mono ?_; rintro e w4 ⟨rfl, V4, ms4, T4, W4, hl4, hr4⟩; have HL4 := Lib.hid hl4; have HR4 := Lib.hid hr4; clear hl4 hr4)
                      | (go_at_call 29; refine (sound_any HL4.out.wat HL4.out.ok).mono ?_; rintro e w5 ⟨rfl, hk5⟩; have HL5 := Lib.hid (HL4.out.no hk5); clear hk5))
                    go_roundw
                    case rel => exact ⟨b + 1, false, by have h := Hb3.out; omega, by go_num, rfl, W4, ⟨V4, ms4, T4, HL5.out⟩, HR4.out⟩
                    case measure => simp [intOf]; omega
                · obtain rfl : b = 3 := by omega
                  have hb3' : ¬ ((3 : Nat) : Int) < 3 := by omega
                  have HL3 := Lib.hid hl3
                  clear hl3 hr3
                  go_wp2_with fail
                  go_roundw
                  case rel => exact ⟨_, _, _, ⟨a + 1, idle2, by have h := Ha3.out; omega, rfl, rfl, W3, HL3.out, HR3.out.next⟩, rfl, rfl, by go_num⟩
                  case measure => simp [intOf]; omega
          · obtain rfl : a = 3 := by omega
            have ha3' : ¬ ((3 : Nat) : Int) < 3 := by omega
            have HL1 := Lib.hid hl1
            clear hl1 hr1
            cases idle
            · have hlt3 : Hid (Pot W1 + (r + 1) ≤ 248) := by have h := HR1.out.1; have h2 := HP1.out; show _ ≤ _; have h3 : b2n false = 1 := rfl; omega
              have hr4 : Hid (r + 1 ≤ 400) := by have h := HP1.out; show _ ≤ _; omega
              have hr400 : (r : Int) < 400 := by omega
              go_wp2_with fail
              go_roundw
              case rel => exact ⟨r + 1, hr4.out, by go_num, W1, HL1.out, hlt3.out⟩
              case measure => simp [intOf]; omega
            · obtain ⟨V1, ms1, T1, hlv⟩ := HL1.out
              have hT : T1 < 1099511627776 := by have h := hlv.sum; have h2 := HU.out; omega
              have hend := rest_end HR1.out hlv.ok hT
              have HE := Lib.hid hend
              have HLV := Lib.hid hlv
              clear hlv hT hend HL1
              rw [show ((3 : Nat) : Int) = 3 from rfl]
              go_wp2_with fail
              go_loopw [13] (fun v13 wr => Rel4 wq v13 wr) (fun k _ => 3 - (intOf k).toNat)
              case atStart => exact ⟨0, by omega, rfl, Keeps.refl _⟩
              case round =>
                obtain ⟨k, hk4, rfl, hk5⟩ := hrel
                obtain ⟨ws, hws⟩ : ∃ x : World, x = wr := ⟨_, rfl⟩
                subst hws
                have K5 := Lib.hid hk5
                have HL5 := Lib.hid (HLV.out.no hk5)
                have hkI5 : (0 : Int) ≤ (k : Int) := by omega
                clear hk5
                by_cases hk3 : k < 3
                · have hk3' : (k : Int) < 3 := by omega
                  obtain ⟨e1, e2⟩ := HE.out k hk3
                  obtain ⟨ua, uc, hVu⟩ := (HL5.out.wat.outs k hk3).1.slice
                  obtain ⟨ia, ic, hVi⟩ := (HL5.out.wat.ins k hk3).1.slice
                  obtain ⟨oa, oc, hVo⟩ := (HL5.out.wat.own k hk3).1.slice
                  have c4 := HL5.out.wat.cell hk3 4 _ rfl
                  have c5 := HL5.out.wat.cell hk3 5 _ rfl
                  rw [hVu, e1] at c4
                  rw [hVi, e2] at c5
                  obtain ⟨zn, hzn⟩ : ∃ zn, zn = (Z k).length := ⟨_, rfl⟩
                  obtain ⟨za, zc, hVz⟩ : ∃ x c, vz k = .slice x zn c := by rw [hzn]; exact ownsRow_slice (HL5.out.qat.row k hk3)
                  have HVo := Lib.hid hVo
                  have HVz := Lib.hid hVz
                  have Hzn := Lib.hid hzn
                  have hzl : (zn : Int) ≤ 132 := by have h := Hl1.out k hk3; omega
                  have kb1 : k * 8 + 8 ≤ 34 := by omega
                  have Hk3 := Lib.hid hk3
                  simp only [List.length_nil] at c4 c5
                  clear e1 e2 hVu hVi hVo hVz hzn hk3
                  go_wp2_with fail
                  go_quiet (fail)
                  go_wp2_with fail
                  go_loopw [14] (fun v14 wr => In4 wq zn v14 wr) (fun i _ => zn - (intOf i).toNat)
                  case atStart => exact ⟨0, Nat.zero_le _, rfl, K5.out.drewN _⟩
                  case round =>
                    obtain ⟨i, hi, rfl, hk6⟩ := hrel
                    have K6 := Lib.hid hk6
                    have HL6 := Lib.hid (HLV.out.no hk6)
                    have hiI : (0 : Int) ≤ (i : Int) := by omega
                    clear hk6
                    have cz := HL6.out.qat.cell k Hk3.out
                    rw [HVz.out] at cz
                    by_cases hlt : i < zn
                    · have hltI : (i : Int) < (zn : Int) := by omega
                      have hil : i < (Z k).length := by have h := Hzn.out; omega
                      obtain ⟨z, hz⟩ : ∃ z, z = (Z k)[i] := ⟨_, rfl⟩
                      have hrz : RdOf cId wr (.slice za zn zc) (Z k) := by rw [← HVz.out]; exact (HL6.out.qat.row k Hk3.out).reads
                      rw [Hzn.out] at hrz
                      obtain ⟨gz, off, rfl, hc1, hc2, hg⟩ := RdOf.addr cId hrz (by omega)
                      have g0 : cellsAt wr gz (off + i * 3) 3 = some (idC z) := by rw [hz]; exact RdOf.at cId hrz i hil
                      rw [← Hzn.out] at hc1
                      have hcI : (zn : Int) ≤ (zc : Int) := by omega
                      have HF : Hid (findIs z.s z.i z.g (W1.s k).own = true) := want_found HLV.out.ok HE.out Hk3.out (HLV.out.wts k Hk3.out z (by rw [hz]; exact List.getElem_mem hil))
                      have c2 := HL6.out.wat.cell Hk3.out 2 _ rfl
                      rw [HVo.out] at c2
                      have HRO : Hid (RdOf cBd wr (.slice oa (W1.s k).own.length oc) (W1.s k).own) := by rw [← HVo.out]; exact (HL6.out.wat.own k Hk3.out).1
                      have Hlen : Hid ((W1.s k).own.length ≤ 1000) := by have h := own_le HLV.out.ok.S Hk3.out; show _ ≤ _; omega
                      clear hz hrz hc1 hc2 hil
                      go_wp2_with fail
                      go_region_held3 (fun w' => w'.cell? ⟨g, k * 8 + 2, none⟩ = some (.slice oa (W1.s k).own.length oc) ∧ w'.cell? ⟨q, k, none⟩ = some (.slice (some ⟨gz, off, none⟩) zn zc) ∧ cellsAt w' gz (off + i * 3) 3 = some (idC z)) (exact ⟨c2, cz, g0⟩)
                        (first
                          | (go_at_call 30
                             refine (rfind_any wr.drew _ _ (HRO.out.kept (Keeps.refl (S := No) wr).drew (fun _ _ h => h)) Hlen.out _ _ _).mono ?_
                             rw [HF.out]
                             rintro e w7 ⟨rfl, hk7⟩
                             have J7 : Hid (Keeps No wr w7) := ((Keeps.refl (S := No) wr).drew).trans hk7 (fun _ _ h => h)
                             have q1 := J7.out.cell c2 (fun h => h)
                             have q2 := J7.out.cell cz (fun h => h)
                             have q3 := J7.out.cellsAt g0
                             clear hk7 c2 cz g0
                             have c2 := q1
                             have cz := q2
                             have g0 := q3
                             clear q1 q2 q3))
                      all_goals
                        go_wp2_with fail
                        go_roundw
                        case rel => exact ⟨i + 1, by omega, by go_num, K6.out.trans J7.out (fun _ _ h => h)⟩
                        case measure => simp [intOf]; omega
                    · have hlt2 : ¬ (i : Int) < (zn : Int) := by omega
                      go_wp2_with fail
                      go_roundw
                      case rel => exact ⟨k + 1, by have h := Hk3.out; omega, by go_num, K6.out⟩
                      case measure => simp [intOf]; omega
                · have hk3' : ¬ (k : Int) < 3 := by omega
                  go_wp2_with (go_at_call 10; refine (awake_any _).mono ?_; rintro e w8 ⟨rfl, hk8⟩; have K8 : Hid (Keeps No w w8) := ((K1.out.trans (HLV.out.up.trans (K5.out.mono (T := Up g) (fun _ _ h => h.elim)) (fun _ _ h => h)) (fun i hi hu => by have h := Hg.out; have hu : g ≤ i := hu; have hi : i < w.heap.size := hi; omega))).trans hk8 (fun _ _ h => h); clear hk8)
                  go_ret
                  exact ⟨rfl, K8.out⟩
end

set_option maxRecDepth 100000 in
theorem lifted (os : Os) (started : os.Started) (H : Type) (enc : TypeId × Value → H) :
    ReturnsInHanded {} Try.checked os 7 .any (Rows.handoffEndsSpec.pre6 enc Try.prog Try.f7 Rows.handoffEndsRow.domain false) (Rows.handoffEndsSpec.post enc Try.prog Try.f7 false true false false) := by
  refine law_lifted os started H enc (by kernel_rfl) Try.func7
    (ChangeSpec.witness6 (enc := enc) (C := Try.checked) false ⟨#[], #[.slice none 0 0], []⟩ 8 (by kernel_rfl) (by kernel_rfl) (by kernel_rfl) (by kernel_rfl))
    (by decide +kernel) rfl Try.underlying4 rfl (fun ds h => by match ds, h with | [d1], _ => rfl) ?_
  intro W base args ds p hval hA
  rw [Try.params7] at hA hval
  obtain ⟨v0, d0, rfl, rfl, h0⟩ := trodAll_one hA
  obtain ⟨l, hl⟩ := open_turns h0 (by obtain ⟨a, m, c, rfl⟩ := okWide_slice Try.underlying66 (hval 0 66 v0 rfl rfl); rfl)
  exact walk hl

theorem holds : Rows.HandoffEndsSaid :=
  OpenClaim.holds_of_wide 7 Try.f7 rfl rfl rfl rfl rfl rfl rfl ⟨rfl, rfl, rfl, rfl, rfl⟩ rfl rfl rfl rfl rfl (by kernel_rfl) Try.func7 (by kernel_rfl)
    (of_decide_eq_true (by kernel_rfl)) (by unfold Func.isWrapper; first | (rw [if_pos (by decide +kernel)]; kernel_rfl) | (rw [if_neg (by decide +kernel)]; exact ⟨rfl, rfl⟩))
    (fun os started H enc _ => lifted os started H enc)
end Go.Proofs.Ytggaeihinheojaa.handoffEnds
