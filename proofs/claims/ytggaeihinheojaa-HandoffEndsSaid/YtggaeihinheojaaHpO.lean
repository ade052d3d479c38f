/-
  hedgerowlaw21: each entity has one owner, and there are no more. No conditions of its own.
-/
import Derived.Test.YtggaeihinheojaaHpN
namespace Go.Proofs.Ytggaeihinheojaa
open Go.RowKit

/-- is it owned still, by either? -/
def cntA (W : Wd) (k : Nat) (o : Ou) : Nat := if counted W k o = true then 1 else 0
theorem cntA_le (W : Wd) (k : Nat) (o : Ou) : cntA W k o ≤ 1 := by unfold cntA; split <;> omega
theorem allN_eq (W : Wd) (k : Nat) : allN W k = (W.s k).own.length + sm (cntA W k) (W.s k).outs := rfl
def allTo (W : Wd) (k : Nat) : Nat := sm (allN W) (List.range k)
theorem allTo_next (W : Wd) (k : Nat) : allTo W (k + 1) = allTo W k + allN W k := by
  unfold allTo
  rw [List.range_succ, sm_append, sm_cons, sm_nil]
  omega
theorem allN_le {W : Wd} {T : Nat} (h : OkS W T) {k : Nat} (hk : k < 3) : allN W k ≤ 84 := by
  have h1 := own_le h hk
  have h2 := outs_le h hk
  have h3 := sm_take_le (cntA W k) (W.s k).outs (W.s k).outs.length (fun o _ => cntA_le W k o)
  rw [List.take_length] at h3
  rw [allN_eq]
  omega
theorem allTo_le {W : Wd} {T : Nat} (h : OkS W T) : ∀ {k : Nat}, k ≤ 3 → allTo W k ≤ 84 * k := by
  intro k
  induction k with
  | zero => intro _; exact Nat.le_refl _
  | succ k ih =>
    intro hk
    have h1 := ih (by omega)
    have h2 := allN_le h (k := k) (by omega)
    rw [allTo_next]
    omega
theorem allTo_all {W : Wd} {T : Nat} (h : OkS W T) : allTo W 3 = W.n := by
  rw [allTo_next, allTo_next, allTo_next, ← all_owned h]
  unfold allTo
  rw [List.range_zero, sm_nil]
  omega
/-- the owners of the entity that was made as number j -/
def ownsTo (W : Wd) (j k : Nat) : Nat := sm (fun k : Nat => ownersN W k ((j : Int) % 16) j) (List.range k)
theorem ownsTo_next (W : Wd) (j k : Nat) : ownsTo W j (k + 1) = ownsTo W j k + ownersN W k ((j : Int) % 16) j := by
  unfold ownsTo
  rw [List.range_succ, sm_append, sm_cons, sm_nil]
  omega
theorem ownsTo_le {W : Wd} {T : Nat} (h : OkS W T) (j : Nat) : ∀ {k : Nat}, k ≤ 3 → ownsTo W j k ≤ 135 * k := by
  intro k
  induction k with
  | zero => intro _; exact Nat.le_refl _
  | succ k ih =>
    intro hk
    have h1 := ih (by omega)
    have h2 := ownersTo_le h (k : Int) ((j : Int) % 16) j (k := 3) (Nat.le_refl _)
    rw [ownersTo_all] at h2
    rw [ownsTo_next]
    omega
theorem ownsTo_all {W : Wd} {T : Nat} (h : OkS W T) {j : Nat} (hj : j < W.n) : ownsTo W j 3 = 1 := by
  have h1 := one_owner h hj
  rw [ownsTo_next, ownsTo_next, ownsTo_next]
  unfold ownsTo
  rw [List.range_zero, sm_nil]
  have e : ((2 : Nat) : Int) = 2 := rfl
  have e1 : ((1 : Nat) : Int) = 1 := rfl
  have e0 : ((0 : Nat) : Int) = 0 := rfl
  rw [e, e1, e0]
  omega

section
variable {w : World} {g base T : Nat} {V : Vs} {ms : Nat → Nat → List Ms} {W : Wd}
def SndRel (w : World) (W : Wd) (v3 v4 : Value) (wr : World) : Prop := ∃ k : Nat, k ≤ 3 ∧ v4 = .int .i64 k ∧ v3 = .int .i64 (allTo W k) ∧ Keeps No w wr
def SndIn (w : World) (W : Wd) (k a0 : Nat) (v3 v5 : Value) (wr : World) : Prop := ∃ j : Nat, j ≤ (W.s k).outs.length ∧ v5 = .int .i64 j ∧ v3 = .int .i64 ((a0 + sm (cntA W k) ((W.s k).outs.take j) : Nat)) ∧ Keeps No w wr
def SndRel2 (w : World) (W : Wd) (v7 : Value) (wr : World) : Prop := ∃ j : Nat, j ≤ W.n ∧ v7 = .int .i64 j ∧ Keeps No w wr
def SndIn2 (w : World) (W : Wd) (j : Nat) (v8 v9 : Value) (wr : World) : Prop := ∃ k : Nat, k ≤ 3 ∧ v9 = .int .i64 k ∧ v8 = .int .i64 (ownsTo W j k) ∧ Keeps No w wr

set_option maxRecDepth 100000 in
set_option maxHeartbeats 8000000 in
theorem sound_any (h : WAt w g base V ms W) (hO : Ok W T) :
    Calls Try.prog 29 #[gP g] w fun e w' => e = .returned (.bool true) ∧ Keeps No w w' := by
  have H := Lib.hid h
  have HO := Lib.hid hO
  clear h hO
  go_enter Try.func29, Try.ntmps29
  go_wp2
  go_loopw [3, 4] (fun v3 v4 wr => SndRel w W v3 v4 wr) (fun _ k _ => 3 - (intOf k).toNat)
  case atStart => exact ⟨0, by omega, rfl, rfl, Keeps.refl w⟩
  case round =>
    obtain ⟨k, hk, rfl, rfl, k1⟩ := hrel
    obtain ⟨wo, hwo⟩ : ∃ x : World, x = wr := ⟨_, rfl⟩
    subst hwo
    have K1 := Lib.hid k1
    clear k1
    have hkI : (0 : Int) ≤ (k : Int) := by omega
    have HnL : Hid (allTo W k ≤ 252) := by have h := allTo_le HO.out.S hk; show _ ≤ _; omega
    obtain ⟨n0, hn0⟩ : ∃ n0, n0 = allTo W k := ⟨_, rfl⟩
    rw [← hn0]
    have Hn0 := Lib.hid hn0
    clear hn0
    have hn1 : (0 : Int) ≤ (n0 : Int) := by omega
    have hn2 : (n0 : Int) ≤ 252 := by have h := HnL.out; rw [← Hn0.out] at h; omega
    by_cases hk3 : k < 3
    · have hk3' : (k : Int) < 3 := by omega
      have H1 := Lib.hid (H.out.no K1.out)
      obtain ⟨oa, oc, hVo⟩ := (H1.out.own k hk3).1.slice
      obtain ⟨ua, uc, hVu⟩ := (H1.out.outs k hk3).1.slice
      have c2 := H1.out.cell hk3 2 _ rfl
      obtain ⟨M, hM⟩ : ∃ M, M = (W.s k).own.length := ⟨_, rfl⟩
      obtain ⟨N, hN⟩ : ∃ N, N = (W.s k).outs.length := ⟨_, rfl⟩
      rw [hVo, ← hM] at c2
      have HV2 : Hid (V.u k = .slice ua N uc) := by show _ = _; rw [hVu, hN]
      have hM40 : (M : Int) ≤ 40 := by have h := own_le HO.out.S hk3; rw [← hM] at h; omega
      have hM0 : (0 : Int) ≤ (M : Int) := by omega
      have hN44 : (N : Int) ≤ 44 := by have h := outs_le HO.out.S hk3; rw [← hN] at h; omega
      have HM := Lib.hid hM
      have HN := Lib.hid hN
      have kb1 : k * 8 + 8 ≤ 34 := by omega
      have Hk3 := Lib.hid hk3
      clear hVo hVu hk3 hM hN
      go_wp2_with fail
      go_loopw [3, 5] (fun v3 v5 wr => SndIn w W k (n0 + M) v3 v5 wr) (fun _ j _ => N - (intOf j).toNat)
      case atStart => exact ⟨0, Nat.zero_le _, rfl, by rw [List.take_zero, sm_nil, Nat.add_zero]; go_num, K1.out⟩
      case round =>
        obtain ⟨j, hj, rfl, rfl, k3⟩ := hrel
        have K3 := Lib.hid k3
        clear k3
        have hjI : (0 : Int) ≤ (j : Int) := by omega
        have H3 := Lib.hid (H.out.no K3.out)
        have c4 := H3.out.cell Hk3.out 4 _ rfl
        rw [HV2.out] at c4
        have hjN : j ≤ N := by have h := HN.out; omega
        have hjI2 : (j : Int) ≤ (N : Int) := by omega
        obtain ⟨m0, hm0⟩ : ∃ m0, m0 = sm (cntA W k) ((W.s k).outs.take j) := ⟨_, rfl⟩
        rw [← hm0]
        obtain ⟨q, hq⟩ : ∃ q, q = n0 + M + m0 := ⟨_, rfl⟩
        rw [← hq]
        have hmj : (q : Int) ≤ 336 := by
          have h := sm_take_le (cntA W k) (W.s k).outs j (fun o _ => cntA_le W k o)
          rw [← hm0] at h
          omega
        have hm1 : (0 : Int) ≤ (q : Int) := by omega
        have Hm0 := Lib.hid hm0
        have Hq := Lib.hid hq
        clear hm0 hj hjN hq
        by_cases hlt : j < N
        · have hltI : (j : Int) < (N : Int) := by omega
          have hjl : j < (W.s k).outs.length := by have h := HN.out; omega
          obtain ⟨o, ho⟩ : ∃ o, o = (W.s k).outs[j] := ⟨_, rfl⟩
          have hru : RdOf cOu wr (.slice ua N uc) (W.s k).outs := by rw [← HV2.out]; exact (H3.out.outs k Hk3.out).1
          rw [HN.out] at hru
          obtain ⟨gu, off, rfl, hc1, hc2, hg⟩ := RdOf.addr cOu hru (by omega)
          have g0 : cellsAt wr gu (off + j * 14) 14 = some (ouC o) := by rw [ho]; exact RdOf.at cOu hru j hjl
          rw [← HN.out] at hc1
          obtain ⟨D, hD3, hDk, hDe⟩ := (HO.out.S.outs k Hk3.out o (by rw [ho]; exact List.getElem_mem hjl)).tgt
          have hnext : Hid (sm (cntA W k) ((W.s k).outs.take (j + 1)) = m0 + cntA W k o) := by show _ = _; rw [sm_take _ _ _ hjl, ← Hm0.out, ho]
          have hcI : (N : Int) ≤ (uc : Int) := by omega
          have HD := Lib.hid hDe
          have hjl2 := Lib.hid hjl
          unfold ouC at g0
          clear ho hru hc2 hDe hjl hc1
          by_cases h3 : o.st = 3
          · have e2 : (o.st != 3) = false := by rw [h3]; rfl
            have hcnt : counted W k o = (W.s D).ins.any (isIn k o.n) := by
              unfold counted staged
              have e : o.to.toNat = D := by have := HD.out; omega
              rw [h3, e]
              rfl
            obtain ⟨A, hA⟩ : ∃ A, A = (W.s D).ins.any (isIn k o.n) := ⟨_, rfl⟩
            have hc : Hid (cntA W k o = if A = true then 1 else 0) := by show _ = _; unfold cntA; rw [hcnt, ← hA]
            have HA := Lib.hid hA
            have H3s := Lib.hid h3
            clear h3 hcnt hA
            have hD0 : (0 : Int) ≤ (D : Int) := by omega
            have hD3' : (D : Int) < 3 := by omega
            have db1 : D * 8 + 8 ≤ 34 := by omega
            obtain ⟨oa2, oc2, hVo2⟩ := (H3.out.own D hD3).1.slice
            obtain ⟨ua2, uc2, hVu2⟩ := (H3.out.outs D hD3).1.slice
            obtain ⟨ia2, ic2, hVi2⟩ := (H3.out.ins D hD3).1.slice
            have cS := H3.out.st D hD3
            unfold shC at cS
            rw [hVo2, hVu2, hVi2] at cS
            have HI : Hid (RdOf cIn wr (.slice ia2 (W.s D).ins.length ic2) (W.s D).ins) := by rw [← hVi2]; exact (H3.out.ins D hD3).1
            obtain ⟨F2, hF2⟩ : ∃ F2, firstOf (isIn k o.n) (W.s D).ins = F2 := ⟨_, rfl⟩
            have hdA : decide ((0 : Int) ≤ F2) = A := by rw [← hF2, first_any, HA.out]
            have HF2 := Lib.hid hF2
            clear hVo2 hVu2 hVi2 hF2
            go_wp2_with fail
            refine wp_world ?_
            intro Y hY
            have KY : Hid (Keeps No wr Y) := by rw [hY]; exact (Keeps.refl (S := No) wr).alloc _
            have cT0 : Y.cell? ⟨wr.heap.size, 0, none⟩ = some (.int .i64 o.n) := by rw [hY]; simp [go_sem]
            have cT1 : Y.cell? ⟨wr.heap.size, 1, none⟩ = some (.int .i64 D) := by rw [hY, ← HD.out]; simp [go_sem]
            have cT2 : Y.cell? ⟨wr.heap.size, 2, none⟩ = some (.int .i64 3) := by rw [hY, ← H3s.out]; simp [go_sem]
            have cSY := KY.out.cellsAt cS
            clear hY cS c4 g0
            go_region_held3 (fun w' => w'.cell? ⟨wr.heap.size, 0, none⟩ = some (.int .i64 o.n) ∧ w'.cell? ⟨wr.heap.size, 1, none⟩ = some (.int .i64 D) ∧ w'.cell? ⟨wr.heap.size, 2, none⟩ = some (.int .i64 3) ∧ cellsAt w' g (D * 8) 8 = some [.int .i64 0, .int .i64 0, .slice oa2 (W.s D).own.length oc2, nilV, .slice ua2 (W.s D).outs.length uc2, .slice ia2 (W.s D).ins.length ic2, nilV, .int .i64 (W.s D).nx]) (exact ⟨cT0, cT1, cT2, cSY⟩)
              (first
                | (go_at_call 16
                   refine (rin_any ((HI.out.kept KY.out (fun _ _ h => h)).kept (Keeps.refl (S := No) Y).drew (fun _ _ h => h)) k o.n).mono ?_
                   rw [HF2.out]
                   rintro e w5 ⟨rfl, hk5⟩
                   have J5 : Hid (Keeps No Y w5) := ((Keeps.refl (S := No) Y).drew).trans hk5 (fun _ _ h => h)
                   have q1 := J5.out.cell cT0 (fun h => h)
                   have q2 := J5.out.cell cT1 (fun h => h)
                   have q4 := J5.out.cell cT2 (fun h => h)
                   have q3 := J5.out.cellsAt cSY
                   clear hk5 cT0 cT1 cT2 cSY
                   have cT0 := q1
                   have cT1 := q2
                   have cT2 := q4
                   have cSY := q3
                   clear q1 q2 q3 q4))
            all_goals
              have K5 : Hid (Keeps No w w5) := (K3.out.trans KY.out (fun _ _ h => h)).trans J5.out (fun _ _ h => h)
              cases A
              · go_wp2_with fail
                go_roundw
                case rel => exact ⟨j + 1, hjl2.out, by go_num, by rw [hnext.out, hc.out, if_neg (by decide), Nat.add_zero, Hq.out], K5.out⟩
                case measure => simp [intOf]; omega
              · go_wp2_with fail
                go_roundw
                case rel => exact ⟨j + 1, hjl2.out, by go_num, by rw [hnext.out, hc.out, if_pos rfl, ← Nat.add_assoc, ← Hq.out]; go_num, K5.out⟩
                case measure => simp [intOf]; omega
          · have e2 : (o.st != 3) = true := by rw [bne_iff_ne]; exact h3
            have hc : Hid (cntA W k o = 1) := by
              show _ = _
              unfold cntA counted
              have e : (o.st == 3) = false := beq_false_of_ne h3
              rw [e]
              rfl
            clear h3
            go_wp2_with fail
            go_region
            all_goals
              go_wp2_with fail
              go_roundw
              case rel => exact ⟨j + 1, hjl2.out, by go_num, by rw [hnext.out, hc.out, ← Nat.add_assoc, ← Hq.out]; go_num, (K3.out.alloc _).drew⟩
              case measure => simp [intOf]; omega
        · obtain rfl : j = N := by omega
          have hall : Hid (allTo W (k + 1) = q) := by
            show _ = _
            have h2 : m0 = sm (cntA W k) (W.s k).outs := by rw [Hm0.out, HN.out, List.take_length]
            have h3 := Hq.out
            have h4 := HM.out
            have h6 := Hn0.out
            rw [allTo_next, allN_eq]
            omega
          go_wp2_with fail
          go_roundw
          case rel => exact ⟨k + 1, by omega, by go_num, by rw [hall.out], K3.out⟩
          case measure => simp [intOf]; omega
    · obtain rfl : k = 3 := by omega
      have hall : Hid (n0 = W.n) := by show _ = _; rw [← allTo_all HO.out.S]; exact Hn0.out
      obtain rfl : n0 = W.n := hall.out
      have HN3 : Hid (W.n ≤ 40) := HO.out.S.n40
      have hn40 : (W.n : Int) ≤ 40 := by have h := HN3.out; omega
      clear hall Hn0 HnL
      rw [show ((3 : Nat) : Int) = 3 from rfl]
      go_wp2_with fail
      go_loopw [7] (fun v7 wr => SndRel2 w W v7 wr) (fun j _ => W.n - (intOf j).toNat)
      case atStart => exact ⟨0, Nat.zero_le _, rfl, K1.out⟩
      case round =>
        obtain ⟨j, hj, rfl, k3⟩ := hrel
        obtain ⟨wo2, hwo2⟩ : ∃ x : World, x = wr := ⟨_, rfl⟩
        subst hwo2
        have K3 := Lib.hid k3
        clear k3
        have cn := (H.out.no K3.out).n
        have hjI : (0 : Int) ≤ (j : Int) := by omega
        by_cases hlt : j < W.n
        · have hltI : (j : Int) < (W.n : Int) := by omega
          have Hone := Lib.hid (ownsTo_all HO.out.S hlt)
          have Hj := Lib.hid hlt
          go_wp2_with fail
          go_loopw [8, 9] (fun v8 v9 wr => SndIn2 w W j v8 v9 wr) (fun _ k _ => 3 - (intOf k).toNat)
          case atStart => exact ⟨0, by omega, rfl, rfl, K3.out⟩
          case round =>
            obtain ⟨k, hk, rfl, rfl, k4⟩ := hrel
            have K4 := Lib.hid k4
            clear k4
            have hkI : (0 : Int) ≤ (k : Int) := by omega
            obtain ⟨m0, hm0⟩ : ∃ m0, m0 = ownsTo W j k := ⟨_, rfl⟩
            rw [← hm0]
            have hmj : (m0 : Int) ≤ 405 := by have h := ownsTo_le HO.out.S j hk; omega
            have hm1 : (0 : Int) ≤ (m0 : Int) := by omega
            have Hm0 := Lib.hid hm0
            clear hm0
            by_cases hk3 : k < 3
            · have hk3' : (k : Int) < 3 := by omega
              have hnx : Hid (ownsTo W j (k + 1) = m0 + ownersN W k ((j : Int) % 16) j) := by show _ = _; rw [ownsTo_next, ← Hm0.out]
              have hle : Hid (ownersN W k ((j : Int) % 16) j ≤ 135) := by
                have h := ownersTo_le HO.out.S (k : Int) ((j : Int) % 16) j (k := 3) (Nat.le_refl _)
                rw [ownersTo_all] at h
                exact h
              obtain ⟨R, hR⟩ : ∃ R, R = ownersN W k ((j : Int) % 16) j := ⟨_, rfl⟩
              rw [← hR] at hnx hle
              have HR := Lib.hid hR
              have hR0 : (0 : Int) ≤ (R : Int) := by omega
              have hR1 : (R : Int) ≤ 135 := by have h := hle.out; omega
              clear hR
              go_wp2_with (go_at_call 56; refine (owners_any (H.out.no K4.out) HO.out (k : Int) ((j : Int) % 16) j).mono ?_; rw [← HR.out]; rintro e w5 ⟨who, rfl, hk5⟩; have K5 : Hid (Keeps No w w5) := K4.out.trans hk5 (fun _ _ h => h); clear hk5)
              go_roundw
              case rel => exact ⟨k + 1, by omega, by go_num, by rw [hnx.out]; go_num, K5.out⟩
              case measure => simp [intOf]; omega
            · obtain rfl : k = 3 := by omega
              obtain rfl : m0 = 1 := by rw [Hm0.out]; exact Hone.out
              go_wp2_with fail
              go_roundw
              case rel => exact ⟨j + 1, by omega, by go_num, K4.out⟩
              case measure => simp [intOf]; omega
        · obtain rfl : j = W.n := by omega
          go_wp2_with fail
          go_ret
          exact ⟨rfl, K3.out⟩
end
end Go.Proofs.Ytggaeihinheojaa
