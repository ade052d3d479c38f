/-
  hedgerowlaw21: how many own an entity. No conditions of its own.
-/
import Derived.Test.YtggaeihinheojaaHpC
import Derived.Test.YtggaeihinheojaaHpG
import Derived.Deep.RegionHeld3
namespace Go.Proofs.Ytggaeihinheojaa
open Go.RowKit

theorem run_neqID (x1 x2 x3 y1 y2 y3 : Int) (w : World) : (binOp .neq 35 (.agg #[.int .i64 x1, .int .i64 x2, .int .i64 x3]) (.agg #[.int .i64 y1, .int .i64 y2, .int .i64 y3])).run Try.prog w = .ok (.bool (!(x1 == y1 && (x2 == y2 && x3 == y3)))) w := by
  cases h1 : x1 == y1 <;> cases h2 : x2 == y2 <;> cases h3 : x3 == y3 <;> simp [go_sem, h1, h2, h3]
theorem first_any {α : Type} (p : α → Bool) (l : List α) : decide ((0 : Int) ≤ firstOf p l) = l.any p := by
  rcases firstOf_cases p l with ⟨h, hno⟩ | ⟨k, h, hk, hp, _⟩
  · rw [h]
    have : l.any p = false := by
      rw [List.any_eq_false]
      intro x hx
      rw [hno x hx]
      exact Bool.false_ne_true
    rw [this]
    rfl
  · rw [h]
    have : l.any p = true := List.any_eq_true.2 ⟨l[k], List.getElem_mem hk, hp⟩
    rw [this]
    simp
/-- is it counted for a name? -/
def cntO (W : Wd) (s i g : Int) (k : Nat) (o : Ou) : Nat := if (isId s i g o.b && counted W k o) = true then 1 else 0
theorem sm_take {α : Type} (f : α → Nat) (l : List α) (j : Nat) (h : j < l.length) : sm f (l.take (j + 1)) = sm f (l.take j) + f l[j] := by
  rw [List.take_succ_eq_append_getElem h, sm_append, sm_cons, sm_nil]
  omega
theorem sm_take_le {α : Type} (f : α → Nat) (l : List α) (j : Nat) (h : ∀ a ∈ l, f a ≤ 1) : sm f (l.take j) ≤ j := by
  have h1 : sm f (l.take j) ≤ sm (fun _ => 1) (l.take j) := sm_le fun a ha => h a (List.mem_of_mem_take ha)
  rw [sm_one] at h1
  have := List.length_take_le j l
  omega
theorem own1_le {W : Wd} {T : Nat} (h : OkS W T) (s i g : Int) {k : Nat} (hk : k < 3) : own1 W s i g k ≤ 45 := by
  have h1 := outs_le h hk
  have h2 := sm_take_le (cntO W s i g k) (W.s k).outs (W.s k).outs.length (fun o _ => by unfold cntO; split <;> omega)
  rw [List.take_length] at h2
  have h3 : own1 W s i g k = (if findIs s i g (W.s k).own = true then 1 else 0) + sm (cntO W s i g k) (W.s k).outs := rfl
  rw [h3]
  split <;> omega
/-- the shards ahead of one -/
def ownersTo (W : Wd) (s i g : Int) (k : Nat) : Nat := sm (own1 W s i g) (List.range k)
theorem ownersTo_next (W : Wd) (s i g : Int) (k : Nat) : ownersTo W s i g (k + 1) = ownersTo W s i g k + own1 W s i g k := by
  unfold ownersTo
  rw [List.range_succ, sm_append, sm_cons, sm_nil]
  omega
theorem ownersTo_le {W : Wd} {T : Nat} (h : OkS W T) (s i g : Int) : ∀ {k : Nat}, k ≤ 3 → ownersTo W s i g k ≤ 45 * k := by
  intro k
  induction k with
  | zero => intro _; exact Nat.le_refl _
  | succ k ih =>
    intro hk
    have h1 := ih (by omega)
    have h2 := own1_le h s i g (k := k) (by omega)
    rw [ownersTo_next]
    omega
theorem ownersTo_all (W : Wd) (s i g : Int) : ownersTo W s i g 3 = ownersN W s i g := by
  rw [ownersTo_next, ownersTo_next, ownersTo_next]
  unfold ownersTo ownersN
  rw [List.range_zero, sm_nil]
  omega

section
variable {w : World} {g base T : Nat} {V : Vs} {ms : Nat → Nat → List Ms} {W : Wd}
def OwnRel (X : World) (W : Wd) (s i gg : Int) (v6 v7 v8 : Value) (wr : World) : Prop :=
  ∃ (k : Nat) (who : Int), k ≤ 3 ∧ v8 = .int .i64 k ∧ v6 = .int .i64 (ownersTo W s i gg k) ∧ v7 = .int .i64 who ∧ Keeps No X wr
def OwnIn (X : World) (W : Wd) (s i gg : Int) (k n0 : Nat) (v6 v7 v11 : Value) (wr : World) : Prop :=
  ∃ (j : Nat) (who : Int), j ≤ (W.s k).outs.length ∧ v11 = .int .i64 j ∧ v6 = .int .i64 ((n0 + sm (cntO W s i gg k) ((W.s k).outs.take j) : Nat)) ∧ v7 = .int .i64 who ∧ Keeps No X wr

set_option maxRecDepth 100000 in
set_option maxHeartbeats 8000000 in
theorem owners_any (h : WAt w g base V ms W) (hO : Ok W T) (s i gg : Int) :
    Calls Try.prog 56 #[gP g, .agg #[.int .i64 s, .int .i64 i, .int .i64 gg]] w fun e w' => ∃ who : Int, e = .returned (.tuple #[.int .i64 (ownersN W s i gg), .int .i64 who]) ∧ Keeps No w w' := by
  have H := Lib.hid h
  have HO := Lib.hid hO
  clear h hO
  go_enter Try.func56, Try.ntmps56
  go_wp2
  refine wp_world ?_
  intro X hX
  have KX : Hid (Keeps No w X) := by rw [hX]; exact (Keeps.refl (S := No) w).alloc _
  have cI : cellsAt X w.heap.size 0 3 = some [.int .i64 s, .int .i64 i, .int .i64 gg] := by rw [hX]; simp [go_sem]
  have HX := Lib.hid (H.out.no KX.out)
  have CI := Lib.hid cI
  have SX : Hid (w.heap.size < X.heap.size) := by show _ < _; rw [hX]; simp
  clear hX cI
  go_loopw [6, 7, 8] (fun v6 v7 v8 wr => OwnRel X W s i gg v6 v7 v8 wr) (fun _ _ k _ => 3 - (intOf k).toNat)
  case atStart => exact ⟨0, -1, by omega, rfl, rfl, rfl, Keeps.refl X⟩
  case round =>
    obtain ⟨k, who, hk, rfl, rfl, rfl, k1⟩ := hrel
    obtain ⟨wo, hwo⟩ : ∃ x : World, x = wr := ⟨_, rfl⟩
    subst hwo
    have K1 := Lib.hid k1
    clear k1
    have hkI : (0 : Int) ≤ (k : Int) := by omega
    have HnL : Hid (ownersTo W s i gg k ≤ 135) := by have h := ownersTo_le HO.out.S s i gg hk; show _ ≤ _; omega
    obtain ⟨n0, hn0⟩ : ∃ n0, n0 = ownersTo W s i gg k := ⟨_, rfl⟩
    rw [← hn0]
    have Hn0 := Lib.hid hn0
    clear hn0
    have hn1 : (0 : Int) ≤ (n0 : Int) := by omega
    have hn2 : (n0 : Int) ≤ 135 := by have h := HnL.out; rw [← Hn0.out] at h; omega
    by_cases hk3 : k < 3
    · have hk3' : (k : Int) < 3 := by omega
      have H1 := Lib.hid (HX.out.no K1.out)
      have cI := K1.out.cellsAt CI.out
      obtain ⟨oa, oc, hVo⟩ := (H1.out.own k hk3).1.slice
      obtain ⟨ua, uc, hVu⟩ := (H1.out.outs k hk3).1.slice
      have c2 := H1.out.cell hk3 2 _ rfl
      rw [hVo] at c2
      have Hrd : Hid (RdOf cBd wo (.slice oa (W.s k).own.length oc) (W.s k).own) := by rw [← hVo]; exact (H1.out.own k hk3).1
      have Hlen := Lib.hid (own_le HO.out.S hk3)
      have HVu := Lib.hid hVu
      obtain ⟨P, hP⟩ : ∃ P, findAt s i gg (W.s k).own = P := ⟨_, rfl⟩
      obtain ⟨F, hF⟩ : ∃ F, findIs s i gg (W.s k).own = F := ⟨_, rfl⟩
      have HP := Lib.hid hP
      have HF := Lib.hid hF
      have kb1 : k * 8 + 8 ≤ 34 := by omega
      have Hk3 := Lib.hid hk3
      clear hVo hVu hP hF hk3
      go_wp2_with fail
      go_region_held3 (fun w' => w'.cell? ⟨g, k * 8 + 2, none⟩ = some (.slice oa (W.s k).own.length oc) ∧ cellsAt w' w.heap.size 0 3 = some [.int .i64 s, .int .i64 i, .int .i64 gg]) (exact ⟨c2, cI⟩)
        (first
          | (go_at_call 30
             refine (rfind_any wo.drew _ _ (Hrd.out.kept (Keeps.refl (S := No) wo).drew (fun _ _ h => h)) (by have := Hlen.out; omega) _ _ _).mono ?_
             rw [HP.out, HF.out]
             rintro e w1 ⟨rfl, hk1⟩
             have J1 : Hid (Keeps No wo w1) := ((Keeps.refl (S := No) wo).drew).trans hk1 (fun _ _ h => h)
             have c21 := J1.out.cell c2 (fun h => h)
             have c31 := J1.out.cellsAt cI
             clear hk1 c2 cI
             have c2 := c21
             have cI := c31
             clear c21 c31))
      all_goals
        have K2 : Hid (Keeps No X w1) := K1.out.trans J1.out (fun _ _ h => h)
        clear c2 cI
        obtain ⟨f0, hf0⟩ : ∃ f0 : Nat, f0 = if F = true then 1 else 0 := ⟨_, rfl⟩
        obtain ⟨n1, hn1'⟩ : ∃ n1 : Nat, n1 = n0 + f0 := ⟨_, rfl⟩
        have hb0 : (0 : Int) ≤ (n1 : Int) := by omega
        have hb1 : (n1 : Int) ≤ 136 := by
          have h : f0 ≤ 1 := by rw [hf0]; split <;> omega
          omega
        have Hown : Hid (own1 W s i gg k = f0 + sm (cntO W s i gg k) (W.s k).outs) := by show _ = _; unfold own1; rw [HF.out, hf0]; rfl
        have Hf0 := Lib.hid hf0
        have Hn1 := Lib.hid hn1'
        clear hf0 hn1'
        obtain ⟨N, hN⟩ : ∃ N, N = (W.s k).outs.length := ⟨_, rfl⟩
        have HN := Lib.hid hN
        have hN44 : (N : Int) ≤ 44 := by have h := outs_le HO.out.S Hk3.out; rw [← hN] at h; omega
        have HV2 : Hid (V.u k = .slice ua N uc) := by show _ = _; rw [HVu.out, hN]
        clear hN
        cases F
        all_goals
          go_wp2_with fail
          go_loopw [6, 7, 11] (fun v6 v7 v11 wr => OwnIn X W s i gg k n1 v6 v7 v11 wr) (fun _ _ j _ => N - (intOf j).toNat)
          case atStart =>
            refine ⟨0, _, Nat.zero_le _, rfl, ?_, rfl, K2.out⟩
            have h := Hn1.out
            have h2 := Hf0.out
            simp at h2
            rw [List.take_zero, sm_nil, Nat.add_zero, h, h2]
            go_num
          case round =>
            obtain ⟨j, who2, hj, rfl, rfl, rfl, k3⟩ := hrel
            have K3 := Lib.hid k3
            clear k3
            have hjI : (0 : Int) ≤ (j : Int) := by omega
            have H3 := Lib.hid (HX.out.no K3.out)
            have c4 := H3.out.cell Hk3.out 4 _ rfl
            rw [HV2.out] at c4
            have hjN : j ≤ N := by have h := HN.out; omega
            have Hj := Lib.hid hj
            have hjI2 : (j : Int) ≤ (N : Int) := by omega
            obtain ⟨m0, hm0⟩ : ∃ m0, m0 = sm (cntO W s i gg k) ((W.s k).outs.take j) := ⟨_, rfl⟩
            rw [← hm0]
            obtain ⟨q, hq⟩ : ∃ q, q = n1 + m0 := ⟨_, rfl⟩
            rw [← hq]
            have hmj : (q : Int) ≤ 180 := by
              have h := sm_take_le (cntO W s i gg k) (W.s k).outs j (fun o _ => by unfold cntO; split <;> omega)
              rw [← hm0] at h
              omega
            have hm1 : (0 : Int) ≤ (q : Int) := by omega
            have Hm0 := Lib.hid hm0
            have Hq := Lib.hid hq
            have l0 : w.heap.size < wr.heap.size := Nat.lt_of_lt_of_le SX.out K3.out.size
            clear hm0 hj hjN hq
            by_cases hlt : j < N
            · have hltI : (j : Int) < (N : Int) := by omega
              have hjl : j < (W.s k).outs.length := by have h := HN.out; omega
              obtain ⟨o, ho⟩ : ∃ o, o = (W.s k).outs[j] := ⟨_, rfl⟩
              have hru : RdOf cOu wr (.slice ua N uc) (W.s k).outs := by rw [← HV2.out]; exact (H3.out.outs k Hk3.out).1
              rw [HN.out] at hru
              obtain ⟨gu, off, rfl, hc1, hc2, hg⟩ := RdOf.addr cOu hru (by omega)
              have g0 : cellsAt wr gu (off + j * 14) 14 = some (ouC o) := by rw [ho]; exact RdOf.at cOu hru j hjl
              rw [← HN.out] at hc1
              obtain ⟨D, hD3, hDk, hDe⟩ := (HO.out.S.outs k Hk3.out o (by rw [ho]; exact List.getElem_mem hjl)).tgt
              have hnext : Hid (sm (cntO W s i gg k) ((W.s k).outs.take (j + 1)) = m0 + cntO W s i gg k o) := by show _ = _; rw [sm_take _ _ _ hjl, ← Hm0.out, ho]
              have hcI : (N : Int) ≤ (uc : Int) := by omega
              have HD := Lib.hid hDe
              have hjl2 := Lib.hid hjl
              unfold ouC at g0
              clear ho hru hc2 hDe hjl hc1
              have rn := fun w => run_neqID o.b.s o.b.i o.b.g s i gg w
              have cI3 := K3.out.cellsAt CI.out
              cases hid : isId s i gg o.b
              · have e1 : (o.b.s == s && (o.b.i == i && o.b.g == gg)) = false := hid
                have hc : Hid (cntO W s i gg k o = 0) := by show _ = _; unfold cntO; rw [hid]; simp
                clear hid
                go_wp2_with fail
                go_roundw
                case rel => exact ⟨j + 1, who2, hjl2.out, by go_num, by rw [hnext.out, hc.out, Nat.add_zero, Hq.out], rfl, K3.out.alloc _⟩
                case measure => simp [intOf]; omega
              · have e1 : (o.b.s == s && (o.b.i == i && o.b.g == gg)) = true := hid
                by_cases h3 : o.st = 3
                · have e2 : (o.st != 3) = false := by rw [h3]; rfl
                  have hcnt : counted W k o = (W.s D).ins.any (isIn k o.n) := by
                    unfold counted staged
                    have e : o.to.toNat = D := by have := HD.out; omega
                    rw [h3, e]
                    rfl
                  obtain ⟨A, hA⟩ : ∃ A, A = (W.s D).ins.any (isIn k o.n) := ⟨_, rfl⟩
                  have hc : Hid (cntO W s i gg k o = if A = true then 1 else 0) := by show _ = _; unfold cntO; rw [hid, hcnt, ← hA, Bool.true_and]
                  have HA := Lib.hid hA
                  clear hid h3 hcnt hA
                  have hD0 : (0 : Int) ≤ (D : Int) := by omega
                  have hD3' : (D : Int) < 3 := by omega
                  have db1 : D * 8 + 8 ≤ 34 := by omega
                  obtain ⟨oa2, oc2, hVo2⟩ := (H3.out.own D hD3).1.slice
                  obtain ⟨ua2, uc2, hVu2⟩ := (H3.out.outs D hD3).1.slice
                  obtain ⟨ia2, ic2, hVi2⟩ := (H3.out.ins D hD3).1.slice
                  have cS := H3.out.st D hD3
                  unfold shC at cS
                  rw [hVo2, hVu2, hVi2] at cS
                  have HI : Hid (RdOf cIn wr (.slice ia2 (W.s D).ins.length ic2) (W.s D).ins) := by rw [← hVi2]; exact (H3.out.ins D hD3).1
                  obtain ⟨F2, hF2⟩ : ∃ F2, firstOf (isIn k o.n) (W.s D).ins = F2 := ⟨_, rfl⟩
                  have hdA : decide ((0 : Int) ≤ F2) = A := by rw [← hF2, first_any, HA.out]
                  have HF2 := Lib.hid hF2
                  clear hVo2 hVu2 hVi2 hF2
                  go_wp2_with fail
                  refine wp_world ?_
                  intro Y hY
                  have KY : Hid (Keeps No wr Y) := by rw [hY]; exact (Keeps.refl (S := No) wr).alloc _
                  have cT0 : Y.cell? ⟨wr.heap.size, 0, none⟩ = some (.int .i64 o.n) := by rw [hY]; simp [go_sem]
                  have cT1 : Y.cell? ⟨wr.heap.size, 1, none⟩ = some (.int .i64 D) := by rw [hY, ← HD.out]; simp [go_sem]
                  have cSY := KY.out.cellsAt cS
                  clear hY cS c4 g0 cI3 rn
                  go_region_held3 (fun w' => w'.cell? ⟨wr.heap.size, 0, none⟩ = some (.int .i64 o.n) ∧ w'.cell? ⟨wr.heap.size, 1, none⟩ = some (.int .i64 D) ∧ cellsAt w' g (D * 8) 8 = some [.int .i64 0, .int .i64 0, (.slice oa2 (W.s D).own.length oc2), nilV, .slice ua2 (W.s D).outs.length uc2, .slice ia2 (W.s D).ins.length ic2, nilV, .int .i64 (W.s D).nx]) (exact ⟨cT0, cT1, cSY⟩)
                    (first
                      | (go_at_call 16
                         refine (rin_any ((HI.out.kept KY.out (fun _ _ h => h)).kept (Keeps.refl (S := No) Y).drew (fun _ _ h => h)) k o.n).mono ?_
                         rw [HF2.out]
                         rintro e w5 ⟨rfl, hk5⟩
                         have J5 : Hid (Keeps No Y w5) := ((Keeps.refl (S := No) Y).drew).trans hk5 (fun _ _ h => h)
                         have q1 := J5.out.cell cT0 (fun h => h)
                         have q2 := J5.out.cell cT1 (fun h => h)
                         have q3 := J5.out.cellsAt cSY
                         clear hk5 cT0 cT1 cSY
                         have cT0 := q1
                         have cT1 := q2
                         have cSY := q3
                         clear q1 q2 q3))
                  all_goals
                    have K5 : Hid (Keeps No X w5) := (K3.out.trans KY.out (fun _ _ h => h)).trans J5.out (fun _ _ h => h)
                    cases A
                    · go_wp2_with fail
                      go_roundw
                      case rel => exact ⟨j + 1, who2, hjl2.out, by go_num, by rw [hnext.out, hc.out, if_neg (by decide), Nat.add_zero, Hq.out], rfl, K5.out⟩
                      case measure => simp [intOf]; omega
                    · go_wp2_with fail
                      go_roundw
                      case rel => exact ⟨j + 1, D, hjl2.out, by go_num, by rw [hnext.out, hc.out, if_pos rfl, ← Nat.add_assoc, ← Hq.out]; go_num, rfl, K5.out⟩
                      case measure => simp [intOf]; omega
                · have e2 : (o.st != 3) = true := by rw [bne_iff_ne]; exact h3
                  have hc : Hid (cntO W s i gg k o = 1) := by
                    show _ = _
                    unfold cntO counted
                    rw [hid]
                    have e : (o.st == 3) = false := beq_false_of_ne h3
                    rw [e]
                    rfl
                  clear hid h3
                  go_wp2_with fail
                  go_roundw
                  case rel => exact ⟨j + 1, k, hjl2.out, by go_num, by rw [hnext.out, hc.out, ← Nat.add_assoc, ← Hq.out]; go_num, rfl, K3.out.alloc _⟩
                  case measure => simp [intOf]; omega
            · obtain rfl : j = N := by omega
              have hall : Hid (ownersTo W s i gg (k + 1) = q) := by
                show _ = _
                rw [ownersTo_next]
                have h1 := Hown.out
                have h2 : m0 = sm (cntO W s i gg k) (W.s k).outs := by rw [Hm0.out, HN.out, List.take_length]
                have h3 := Hq.out
                have h4 := Hn1.out
                have h6 := Hn0.out
                omega
              go_wp2_with fail
              go_roundw
              case rel => exact ⟨k + 1, who2, by omega, by go_num, by rw [hall.out], rfl, K3.out⟩
              case measure => simp [intOf]; omega
    · obtain rfl : k = 3 := by omega
      have hall : Hid (n0 = ownersN W s i gg) := by show _ = _; rw [← ownersTo_all]; exact Hn0.out
      go_wp2_with fail
      go_ret2
      exact ⟨who, by rw [hall.out]; rfl, KX.out.trans K1.out (fun _ _ h => h)⟩
end
end Go.Proofs.Ytggaeihinheojaa
