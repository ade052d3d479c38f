/-
  audit.owned: an iterator over all that is owned. No conditions of its own.
-/
import Derived.Test.YtcjeocibnfoenaaGreatTjW
import Derived.RangeFuncWrites
import Derived.RangeFuncLeaves
import Derived.RangeFuncNested
import Derived.Shelf.Abstract
import Derived.OwnWalkIn
import Derived.TacticsInMore
import Derived.LoopNIn
import Derived.LoopIn
namespace Go.Proofs.YtcjeocibnfoenaaGreat
open Go.RowKit Go.Shelf Go.Sort Go.Joins
attribute [local go_sem] Oper.semAt_some

def IsIt (u : TypeId) : Prop := u = 3 ∨ u = 46 ∨ u = 38 ∨ u = 40 ∨ u = 62
/-- what a round must keep: all that lay when the call began, and the iterator's own boxes -/
structure KpT (n₀ : Nat) (A B : World) : Prop where
  os : B.os = A.os
  tape : B.tape = A.tape
  output : B.output = A.output
  size : A.heap.size ≤ B.heap.size
  old : ∀ k, k < n₀ → B.heap[k]? = A.heap[k]?
  own : ∀ (k : Nat) (D : Array Value) (u : TypeId) (o : Nat × Nat), A.heap[k]? = some (Obj.cells D u o) → IsIt u → B.heap[k]? = A.heap[k]?
theorem KpT.refl {n₀ : Nat} (A : World) : KpT n₀ A A := ⟨rfl, rfl, rfl, Nat.le_refl _, fun _ _ => rfl, fun _ _ _ _ _ _ => rfl⟩
theorem KpT.trans {n₀ : Nat} {A B C : World} (h : KpT n₀ A B) (k : KpT n₀ B C) : KpT n₀ A C :=
  ⟨k.os.trans h.os, k.tape.trans h.tape, k.output.trans h.output, Nat.le_trans h.size k.size, fun i hi => (k.old i hi).trans (h.old i hi), fun i D u o hi hu => (k.own i D u o ((h.own i D u o hi hu).trans hi) hu).trans (h.own i D u o hi hu)⟩
theorem KpT.put {n₀ : Nat} {w : World} (hn : n₀ ≤ w.heap.size) (W : World) (l : Nat) (o o' : Obj) (hl : w.heap.size ≤ l) (h : W.heap[l]? = some o) (hc : o.isCells = false) (_ : o.isWalk = false) : KpT n₀ W (W.putObj l o') :=
  have g := grownBy_putObj' W l o'
  ⟨g.os, g.tape, g.output, g.size, fun k hk => World.putObj_heap_other (by omega), fun k D u o2 hk hu => World.putObj_heap_other (fun e => by
    subst e
    rw [h] at hk
    cases hk
    cases hc)⟩
def ownEnc (x : Int × Bd) : Array Value := #[.int .i64 x.1, .agg (bdC x.2).toArray]
/-- what the iterator needs -/
structure ItAt (w0 : World) (gB : Nat) (v : Value) (W : World) : Prop where
  k : Keeps No w0 W
  b : W.heap[gB]? = some (.cells #[v] 62 (0, 0))
theorem ItAt.no {w0 A B : World} {gB : Nat} {v : Value} (h : ItAt w0 gB v A) (k : Keeps No A B) : ItAt w0 gB v B := ⟨h.k.trans k (fun _ _ h => h), k.heap h.b (fun h => h)⟩
theorem ItAt.kp {w0 A B : World} {gB : Nat} {v : Value} (h : ItAt w0 gB v A) (k : KpT w0.heap.size A B) : ItAt w0 gB v B :=
  ⟨⟨k.os.trans h.k.os, k.tape.trans h.k.tape, k.output.trans h.k.output, Nat.le_trans h.k.size k.size, fun i hi hn => (k.old i hi).trans (h.k.block i hi hn)⟩, (k.own _ _ _ _ h.b (.inr (.inr (.inr (.inr rfl))))).trans h.b⟩
/-- a box of the iterator's own -/
structure BoxAt (W : World) (g : Nat) (t : TypeId) (n : Nat) (l : List Value) : Prop where
  c : cellsAt W g 0 n = some l
  o : OpenT W g t
theorem cellsAt_same {A B : World} {g o n : Nat} (h : B.heap[g]? = A.heap[g]?) : cellsAt B g o n = cellsAt A g o n := by unfold Proofs.YtcjeocibnfoenaaGreat.cellsAt; rw [h]
theorem BoxAt.no {A B : World} {g n : Nat} {t : TypeId} {l : List Value} (h : BoxAt A g t n l) (k : Keeps No A B) : BoxAt B g t n l := ⟨k.cellsAt h.c, h.o.no k⟩
theorem BoxAt.kp {n₀ : Nat} {A B : World} {g n : Nat} {t : TypeId} {l : List Value} (h : BoxAt A g t n l) (ht : IsIt t) (k : KpT n₀ A B) : BoxAt B g t n l := by
  obtain ⟨C, hC⟩ := h.o
  have e := k.own _ _ _ _ hC ht
  exact ⟨(cellsAt_same e).trans h.c, C, e.trans hC⟩
theorem ownedOf_mono (L : List Sd) : ∀ {a b : Nat}, a ≤ b → (ownedOf L a).length ≤ (ownedOf L b).length := by
  intro a b h
  induction b with
  | zero => obtain rfl : a = 0 := by omega
            exact Nat.le_refl _
  | succ b ih =>
    rcases Nat.lt_or_ge b a with h1 | h1
    · obtain rfl : a = b + 1 := by omega
      exact Nat.le_refl _
    · have h2 := ih h1
      have h3 : (ownedOf L (b + 1)).length = (ownedOf L b).length + ((((L[b]?).map (oneOf L b)).getD [] : List (Int × Bd))).length := by
        unfold ownedOf
        rw [List.range_succ, List.flatMap_append, List.length_append]
        simp
      omega
theorem own_lt (L : List Sd) (k : Nat) (hk : k < L.length) (j : Nat) (hj : j < L[k].own.length) : (ownedOf L k ++ (L[k].own.take j).map (fun b => ((k : Int), b))).length < (ownedOf L L.length).length := by
  have h1 := ownedOf_mono L (show k + 1 ≤ L.length by omega)
  rw [ownedOf_succ L k hk] at h1
  unfold oneOf at h1
  simp only [List.length_append, List.length_map, List.length_take] at h1 ⊢
  omega
theorem outs_lt (L : List Sd) (k : Nat) (hk : k < L.length) (j : Nat) (hj : j < L[k].outs.length) (q : Int) (hq : whoOf L k L[k].outs[j] = some q) : (ownedOf L k ++ (L[k].own.map (fun b => ((k : Int), b)) ++ outsOf L k (L[k].outs.take j))).length < (ownedOf L L.length).length := by
  have h1 := ownedOf_mono L (show k + 1 ≤ L.length by omega)
  rw [ownedOf_succ L k hk] at h1
  unfold oneOf at h1
  have h2 := outsOf_succ L k L[k].outs j hj
  rw [hq] at h2
  have h3 : (outsOf L k L[k].outs).length = (outsOf L k (L[k].outs.take (j + 1))).length + (outsOf L k (L[k].outs.drop (j + 1))).length := by
    unfold outsOf
    rw [← List.length_append, ← List.filterMap_append, List.take_append_drop]
  rw [h2] at h3
  simp only [List.length_append, List.length_map, Option.map_some, Option.toList_some, List.length_cons, List.length_nil] at h1 h3 ⊢
  omega

set_option maxRecDepth 100000 in
set_option maxHeartbeats 8000000 in
theorem owned1_in (n : Nat) (hn1 : 1 ≤ n) (l : Nat) (w0 : World) (gB : Nat) (va : Option Addr) (vc : Nat) (L : List Sd) (hin : RdOf cSd w0 (.slice va L.length vc) L) (hrd : ∀ s ∈ L, SdReads w0 s) (J Jx : List (Int × Bd) → World → Prop)
    (hJ : ∀ pre A B, J pre A → Keeps No A B → J pre B)
    (hY : ∀ pre x W, J pre W → pre.length < (ownedOf L L.length).length → YieldAt Fence.wide (n - 1) Tryz.prog l (ownEnc x) W fun e W' => (e = .returned (.bool true) ∧ J (pre ++ [x]) W' ∧ KpT w0.heap.size W W') ∨ (e = .returned (.bool false) ∧ Jx (pre ++ [x]) W'))
    (W : World) (hit : ItAt w0 gB (.slice va L.length vc) W) (h0 : J [] W) :
    CallsIn Fence.wide n Tryz.prog 43 #[.func (.yield l) #[] #[], .pointer (some ⟨gB, 0, none⟩)] W fun e W' => (∃ v, e = .returned v) ∧ (J (ownedOf L L.length) W' ∨ ∃ pre, Jx pre W') := by
  have HY := Lib.hid hY
  have HI := Lib.hid hin
  have HR := Lib.hid hrd
  have HJ := Lib.hid hJ
  have hmax := hin.len
  have hlm : (L.length : Int) ≤ 9223372036854775807 := by unfold maxLen at hmax; omega
  have hb0 : W.cell? ⟨gB, 0, none⟩ = some (.slice va L.length vc) := by rw [cell_of_row W gB 0 _ _ _ hit.b]; rfl
  clear hY hin hrd hJ hmax
  refine callsIn_of_wp Tryz.func43 rfl trivial ?_ rfl
  simp only [Tryz.ntmps43, List.size_toArray, List.length_cons, List.length_nil, Nat.reduceAdd, Nat.reduceSub, Array.replicate_succ, Array.replicate_zero, List.push_toArray, List.append_toArray, List.nil_append, List.cons_append]
  gi_wp2
  gi_loopw [12] (fun q wr => ∃ (k : Nat) (pre : List (Int × Bd)), k ≤ L.length ∧ q = .int .i64 k ∧ pre = ownedOf L k ∧ J pre wr ∧ ItAt w0 gB (.slice va L.length vc) wr) (fun q _ => L.length - (intOf q).toNat)
  case atStart => exact ⟨0, [], Nat.zero_le _, rfl, rfl, h0, hit⟩
  case round =>
    obtain ⟨k, pre, hkl, rfl, hpre, hJ0, hI0⟩ := hrel
    have P0 := Lib.hid hpre
    have J0 := Lib.hid hJ0
    have I0 := Lib.hid hI0
    have hk0 : (0 : Int) ≤ (k : Int) := by omega
    clear hpre hJ0 hI0 hb0
    by_cases hlt : k < L.length
    · have hlti : (k : Int) < (L.length : Int) := by omega
      have hrr : RdOf cSd wr (.slice va L.length vc) L := HI.out.kept I0.out.k (fun _ _ h => h)
      obtain ⟨gt, off, rfl, _, _, _⟩ := RdOf.addr cSd hrr (by omega)
      have c1 : cellsAt wr gt (off + k * 8) 8 = some (sdC L[k]) := RdOf.at cSd hrr k hlt
      have HSR := Lib.hid (HR.out _ (List.getElem_mem hlt))
      have HLt := Lib.hid (own_lt L k hlt)
      have HUt := Lib.hid (outs_lt L k hlt)
      have HS1 := Lib.hid (ownedOf_succ L k hlt)
      have HLk := Lib.hid (List.getElem?_eq_getElem hlt)
      obtain ⟨s, hs⟩ : ∃ s, s = L[k] := ⟨_, rfl⟩
      rw [← hs] at c1 HSR HLt HUt HS1 HLk
      obtain ⟨oa, oc, own, ua, uc, outs, ia, ic, ins⟩ := s
      dsimp only [sdC] at c1 HLt HUt
      have K2 : Hid (Keeps No wr ((wr.alloc (.cells #[.int .i64 (k : Int)] 3)).alloc (.cells #[.int .i64 0, .int .i64 0, .slice oa own.length oc, .slice none 0 0, .slice ua outs.length uc, .slice ia ins.length ic, .slice none 0 0, .int .i64 0] 46))) := Lib.hid (((Keeps.refl wr).alloc _).alloc _)
      have B3 : Hid (BoxAt ((wr.alloc (.cells #[.int .i64 (k : Int)] 3)).alloc (.cells #[.int .i64 0, .int .i64 0, .slice oa own.length oc, .slice none 0 0, .slice ua outs.length uc, .slice ia ins.length ic, .slice none 0 0, .int .i64 0] 46)) wr.heap.size 3 1 [.int .i64 k]) := Lib.hid ⟨by simp [go_sem], (openT_new wr _ _ _ rfl).no ((Keeps.refl _).alloc _)⟩
      have B4 : Hid (BoxAt ((wr.alloc (.cells #[.int .i64 (k : Int)] 3)).alloc (.cells #[.int .i64 0, .int .i64 0, .slice oa own.length oc, .slice none 0 0, .slice ua outs.length uc, .slice ia ins.length ic, .slice none 0 0, .int .i64 0] 46)) (wr.heap.size + 1) 46 8 ([.int .i64 0, .int .i64 0, .slice oa own.length oc, .slice none 0 0, .slice ua outs.length uc, .slice ia ins.length ic, .slice none 0 0, .int .i64 0])) := Lib.hid ⟨by simp [go_sem], openT_new _ _ _ _ (by simp)⟩
      clear hrr hs
      gi_wp2
      obtain ⟨g3, hg3⟩ : ∃ x, x = wr.heap.size := ⟨_, rfl⟩
      obtain ⟨g4, hg4⟩ : ∃ x, x = wr.heap.size + 1 := ⟨_, rfl⟩
      obtain ⟨w2, hw2⟩ : ∃ x, x = ((wr.alloc (.cells #[.int .i64 (k : Int)] 3)).alloc (.cells #[.int .i64 0, .int .i64 0, .slice oa own.length oc, .slice none 0 0, .slice ua outs.length uc, .slice ia ins.length ic, .slice none 0 0, .int .i64 0] 46)) := ⟨_, rfl⟩
      rw [← hw2] at K2 B3 B4 ⊢
      rw [← hg4] at B4 ⊢
      rw [← hg3] at B3 ⊢
      have J2 := Lib.hid (HJ.out _ _ _ J0.out K2.out)
      have I2 := Lib.hid (I0.out.no K2.out)
      clear hw2 hg3 hg4 c1 K2 J0 I0
      gi_loopw [20] (fun q wq => ∃ (j : Nat) (pre2 : List (Int × Bd)), j ≤ own.length ∧ q = .int .i64 j ∧ pre2 = ownedOf L k ++ (own.take j).map (fun b => ((k : Int), b)) ∧ J pre2 wq ∧ ItAt w0 gB (.slice (some ⟨gt, off, none⟩) L.length vc) wq ∧ BoxAt wq g3 3 1 [.int .i64 k] ∧ BoxAt wq g4 46 8 ([.int .i64 0, .int .i64 0, .slice oa own.length oc, .slice none 0 0, .slice ua outs.length uc, .slice ia ins.length ic, .slice none 0 0, .int .i64 0])) (fun q _ => own.length - (intOf q).toNat)
      case atStart => exact ⟨0, pre, Nat.zero_le _, rfl, by rw [P0.out]; simp, J2.out, I2.out, B3.out, B4.out⟩
      case round =>
        obtain ⟨j, pre2, hjl, rfl, hpre2, hJ2, hI2, hB3, hB4⟩ := hrel
        obtain ⟨wq, hwq⟩ : ∃ x : World, x = wr := ⟨_, rfl⟩
        subst hwq
        have P2 := Lib.hid hpre2
        have J3 := Lib.hid hJ2
        have I3 := Lib.hid hI2
        have C3 := Lib.hid hB3
        have C4 := Lib.hid hB4
        have hj0 : (0 : Int) ≤ (j : Int) := by omega
        clear hpre2 hJ2 hI2 hB3 hB4
        by_cases hltj : j < own.length
        · have hltji : (j : Int) < (own.length : Int) := by omega
          have hrr := (show RdOf cBd wq (.slice oa own.length oc) own from (HSR.out.no I3.out.k).own)
          have hom : (own.length : Int) ≤ 9223372036854775807 := by have := hrr.len; unfold maxLen at this; omega
          obtain ⟨go, oo, rfl, _, _, _⟩ := RdOf.addr cBd hrr (by omega)
          have cb : cellsAt wq go (oo + j * 11) 11 = some (bdC own[j]) := RdOf.at cBd hrr j hltj
          have HT := Lib.hid (List.take_succ_eq_append_getElem hltj)
          have HL1 := Lib.hid (HLt.out j hltj)
          obtain ⟨b, hb⟩ : ∃ b, b = own[j] := ⟨_, rfl⟩
          rw [← hb] at cb HT
          have K3 : Hid (Keeps No wq (wq.alloc (.cells #[.int .i64 b.s, .int .i64 b.i, .int .i64 b.g, .int .i64 b.m, .int .i64 b.x, .int .i64 b.y, .int .i64 b.vx, .int .i64 b.vy, .int .i64 b.hp, .int .i64 b.pw, .int .i64 b.lf] 38))) := Lib.hid ((Keeps.refl wq).alloc _)
          have x3 : wq.cell? ⟨g3, 0, none⟩ = some (.int .i64 k) := cellsAt_cell C3.out.c 0 _ rfl
          have l3 := C3.out.o.open.lt
          obtain ⟨fn, tmps, assign, body, hy, hR⟩ := HY.out pre2 ((k : Int), b) _ (HJ.out _ _ _ J3.out K3.out) (by rw [P2.out]; exact HL1.out)
          have HR2 := Lib.hid hR
          unfold ownEnc at hy
          dsimp only at hy
          clear hrr hb hR
          gi_wp2
          refine HR2.out.mono ?_
          rintro e W3 (⟨rfl, hJ3, hk3⟩ | ⟨rfl, hJx3⟩)
          · have J4 := Lib.hid hJ3
            have I4 := Lib.hid ((I3.out.no K3.out).kp hk3)
            have D3 := Lib.hid ((C3.out.no K3.out).kp (.inl rfl) hk3)
            have D4 := Lib.hid ((C4.out.no K3.out).kp (.inr (.inl rfl)) hk3)
            have P3 : Hid (pre2 ++ [((k : Int), b)] = ownedOf L k ++ (own.take (j + 1)).map (fun b => ((k : Int), b))) := Lib.hid (by rw [P2.out, HT.out, List.map_append, List.append_assoc]; rfl)
            clear hy hJ3 hk3 cb x3 l3
            gi_wp2
            go_roundw
            case rel => exact ⟨j + 1, _, by omega, by go_num, P3.out, J4.out, I4.out, D3.out, D4.out⟩
            case measure => simp [intOf]; omega
          · have X3 := Lib.hid hJx3
            clear hy hJx3 cb x3 l3
            gi_wp2
            refine bodyPost_ret (results_none rfl _ _ _) rfl ?_
            exact ⟨⟨_, rfl⟩, .inr ⟨_, X3.out⟩⟩
        · have hltji : ¬ ((j : Int) < (own.length : Int)) := by omega
          have hTj : own.take j = own := List.take_of_length_le (by omega)
          rw [hTj] at P2
          have x4 : wq.cell? ⟨g4, 4, none⟩ = some (.slice ua outs.length uc) := cellsAt_cell C4.out.c 4 _ rfl
          have l4 := C4.out.o.open.lt
          gi_wp2
          clear x4 l4
          gi_loopw [33] (fun q wz => ∃ (j : Nat) (pre3 : List (Int × Bd)), j ≤ outs.length ∧ q = .int .i64 j ∧ pre3 = ownedOf L k ++ (own.map (fun b => ((k : Int), b)) ++ outsOf L k (outs.take j)) ∧ J pre3 wz ∧ ItAt w0 gB (.slice (some ⟨gt, off, none⟩) L.length vc) wz ∧ BoxAt wz g3 3 1 [.int .i64 k] ∧ BoxAt wz g4 46 8 [.int .i64 0, .int .i64 0, .slice oa own.length oc, .slice none 0 0, .slice ua outs.length uc, .slice ia ins.length ic, .slice none 0 0, .int .i64 0]) (fun q _ => outs.length - (intOf q).toNat)
          case atStart => exact ⟨0, pre2, Nat.zero_le _, rfl, by rw [P2.out]; simp [outsOf], J3.out, I3.out, C3.out, C4.out⟩
          case round =>
            obtain ⟨j, pre3, hjl, rfl, hpre3, hJ3, hI3, hB3, hB4⟩ := hrel
            obtain ⟨wz, hwz⟩ : ∃ x : World, x = wr := ⟨_, rfl⟩
            subst hwz
            have P4 := Lib.hid hpre3
            have J5 := Lib.hid hJ3
            have I5 := Lib.hid hI3
            have E3 := Lib.hid hB3
            have E4 := Lib.hid hB4
            have hj0 : (0 : Int) ≤ (j : Int) := by omega
            clear hpre3 hJ3 hI3 hB3 hB4
            by_cases hltj : j < outs.length
            · have hltji : (j : Int) < (outs.length : Int) := by omega
              have hrr := (show RdOf cOu wz (.slice ua outs.length uc) outs from (HSR.out.no I5.out.k).outs)
              have hom : (outs.length : Int) ≤ 9223372036854775807 := by have := hrr.len; unfold maxLen at this; omega
              obtain ⟨gu, ou, rfl, _, _, _⟩ := RdOf.addr cOu hrr (by omega)
              have cb : cellsAt wz gu (ou + j * 14) 14 = some (ouC outs[j]) := RdOf.at cOu hrr j hltj
              have HT := Lib.hid (outsOf_succ L k outs j hltj)
              have HL2 := Lib.hid (HUt.out j hltj)
              obtain ⟨o, ho⟩ : ∃ o, o = outs[j] := ⟨_, rfl⟩
              rw [← ho] at cb HT HL2
              clear hrr ho
              obtain ⟨on, ot, ost, b⟩ := o
              dsimp only [ouC] at cb
              have K5 : Hid (Keeps No wz (wz.alloc (.cells #[.int .i64 on, .int .i64 ot, .int .i64 ost, .int .i64 b.s, .int .i64 b.i, .int .i64 b.g, .int .i64 b.m, .int .i64 b.x, .int .i64 b.y, .int .i64 b.vx, .int .i64 b.vy, .int .i64 b.hp, .int .i64 b.pw, .int .i64 b.lf] 40))) := Lib.hid ((Keeps.refl wz).alloc _)
              have x3 : wz.cell? ⟨g3, 0, none⟩ = some (.int .i64 k) := cellsAt_cell E3.out.c 0 _ rfl
              have l3 := E3.out.o.open.lt
              cases hst : (ost == 3)
              · have HW : Hid (whoOf L k ⟨on, ot, ost, b⟩ = some (k : Int)) := Lib.hid (by unfold whoOf; dsimp only; rw [hst]; rfl)
                obtain ⟨fn, tmps, assign, body, hy, hR⟩ := HY.out pre3 ((k : Int), b) _ (HJ.out _ _ _ J5.out K5.out) (by rw [P4.out]; exact HL2.out _ HW.out)
                have HR2 := Lib.hid hR
                unfold ownEnc at hy
                dsimp only at hy
                have P5 : Hid (pre3 ++ [((k : Int), b)] = ownedOf L k ++ (own.map (fun b => ((k : Int), b)) ++ outsOf L k (outs.take (j + 1)))) := Lib.hid (by rw [P4.out, HT.out, HW.out]; simp)
                clear hR
                gi_wp2
                refine HR2.out.mono ?_
                rintro e W3 (⟨rfl, hJ3, hk3⟩ | ⟨rfl, hJx3⟩)
                · have J6 := Lib.hid hJ3
                  have I6 := Lib.hid ((I5.out.no K5.out).kp hk3)
                  have D3 := Lib.hid ((E3.out.no K5.out).kp (.inl rfl) hk3)
                  have D4 := Lib.hid ((E4.out.no K5.out).kp (.inr (.inl rfl)) hk3)
                  clear hy hJ3 hk3
                  gi_wp2
                  go_roundw
                  case rel => exact ⟨j + 1, _, by omega, by go_num, P5.out, J6.out, I6.out, D3.out, D4.out⟩
                  case measure => simp [intOf]; omega
                · have X3 := Lib.hid hJx3
                  clear hy hJx3
                  gi_wp2
                  refine bodyPost_ret (results_none rfl _ _ _) rfl ?_
                  exact ⟨⟨_, rfl⟩, .inr ⟨_, X3.out⟩⟩
              · by_cases ht0 : ot < 0
                · have HW : Hid (whoOf L k ⟨on, ot, ost, b⟩ = none) := Lib.hid (by unfold whoOf; dsimp only; rw [hst, decide_eq_false (by omega : ¬ (0 ≤ ot))]; rfl)
                  have P5 : Hid (pre3 = ownedOf L k ++ (own.map (fun b => ((k : Int), b)) ++ outsOf L k (outs.take (j + 1)))) := Lib.hid (by rw [P4.out, HT.out, HW.out]; simp)
                  gi_wp2
                  refine ⟨trivial, ?_⟩
                  gi_wp2
                  go_roundw
                  case rel => exact ⟨j + 1, _, by omega, by go_num, P5.out, HJ.out _ _ _ J5.out K5.out, (I5.out.no K5.out), (E3.out.no K5.out), (E4.out.no K5.out)⟩
                  case measure => simp [intOf]; omega
                · by_cases ht1 : (L.length : Int) ≤ ot
                  · have HW : Hid (whoOf L k ⟨on, ot, ost, b⟩ = none) := Lib.hid (by unfold whoOf; dsimp only; rw [hst, decide_eq_false (by omega : ¬ (ot < (L.length : Int)))]; simp)
                    have y0 : wz.cell? ⟨gB, 0, none⟩ = some (.slice (some ⟨gt, off, none⟩) L.length vc) := by rw [cell_of_row wz gB 0 _ _ _ I5.out.b]; rfl
                    have lB := block_lt_of_cell y0
                    dsimp only at lB
                    have P5 : Hid (pre3 = ownedOf L k ++ (own.map (fun b => ((k : Int), b)) ++ outsOf L k (outs.take (j + 1)))) := Lib.hid (by rw [P4.out, HT.out, HW.out]; simp)
                    gi_wp2
                    refine ⟨trivial, ?_⟩
                    gi_wp2
                    go_roundw
                    case rel => exact ⟨j + 1, _, by omega, by go_num, P5.out, HJ.out _ _ _ J5.out K5.out, (I5.out.no K5.out), (E3.out.no K5.out), (E4.out.no K5.out)⟩
                    case measure => simp [intOf]; omega
                  · obtain ⟨m, rfl⟩ : ∃ m : Nat, ot = (m : Int) := ⟨ot.toNat, by omega⟩
                    have hml : m < L.length := by omega
                    have hmi : (m : Int) < (L.length : Int) := by omega
                    have y0 : wz.cell? ⟨gB, 0, none⟩ = some (.slice (some ⟨gt, off, none⟩) L.length vc) := by rw [cell_of_row wz gB 0 _ _ _ I5.out.b]; rfl
                    have lB := block_lt_of_cell y0
                    dsimp only at lB
                    have hrr : RdOf cSd wz (.slice (some ⟨gt, off, none⟩) L.length vc) L := HI.out.kept I5.out.k (fun _ _ h => h)
                    have cm : cellsAt wz gt (off + m * 8) 8 = some (sdC L[m]) := RdOf.at cSd hrr m hml
                    have HSM := Lib.hid ((HR.out _ (List.getElem_mem hml)).no I5.out.k)
                    have HWM : Hid (whoOf L k ⟨on, (m : Int), ost, b⟩ = bif L[m].ins.any (isIn k on) then some (m : Int) else none) := Lib.hid (by
                      unfold whoOf
                      dsimp only
                      rw [hst, decide_eq_true (by omega : (0 : Int) ≤ (m : Int)), decide_eq_true hmi, Int.toNat_natCast, List.getElem?_eq_getElem hml]
                      rfl)
                    obtain ⟨sm, hsm⟩ : ∃ x, x = L[m] := ⟨_, rfl⟩
                    rw [← hsm] at cm HSM HWM
                    obtain ⟨a1, c1, l1, a2, c2, l2, a3, c3, l3'⟩ := sm
                    dsimp only [sdC] at cm HWM
                    have y5 := cellsAt_cell cm 5 _ rfl
                    have lt0 := block_lt_of_cell y5
                    dsimp only at lt0
                    clear hrr hsm cm
                    have HH := Lib.hid (hasIn No _ _ l3' ((show RdOf cIn wz (.slice a3 l3'.length c3) l3' from HSM.out.ins).kept K5.out (fun _ _ h => h)) _ #[] _ _ (saw_answers (wz.alloc (.cells #[.int .i64 on, .int .i64 (m : Int), .int .i64 ost, .int .i64 b.s, .int .i64 b.i, .int .i64 b.g, .int .i64 b.m, .int .i64 b.x, .int .i64 b.y, .int .i64 b.vx, .int .i64 b.vy, .int .i64 b.hp, .int .i64 b.pw, .int .i64 b.lf] 40)) g3 wz.heap.size k ⟨on, (m : Int), ost, b⟩ (K5.out.cell x3 (fun h => h)) (by simp [go_sem])))
                    obtain ⟨r, hr⟩ : ∃ r, r = l3'.any (isIn k on) := ⟨_, rfl⟩
                    rw [← hr] at HWM
                    have HRR := Lib.hid hr
                    clear hr
                    gi_wp2
                    refine ⟨trivial, (callsIn_wide.2 HH.out).mono ?_⟩
                    rintro e w4 ⟨he, hk4⟩
                    obtain rfl : e = .returned (.bool r) := by rw [HRR.out]; exact he
                    have K6 : Hid (Keeps No wz w4) := Lib.hid (K5.out.trans hk4 (fun _ _ h => h))
                    have z3 : cellsAt w4 wz.heap.size 3 11 = some (bdC b) := hk4.cellsAt (by simp [go_sem])
                    clear he hk4 y0 y5 cb x3
                    cases r
                    · have HW : Hid (whoOf L k ⟨on, (m : Int), ost, b⟩ = none) := HWM
                      have P5 : Hid (pre3 = ownedOf L k ++ (own.map (fun b => ((k : Int), b)) ++ outsOf L k (outs.take (j + 1)))) := Lib.hid (by rw [P4.out, HT.out, HW.out]; simp)
                      gi_wp2
                      go_roundw
                      case rel => exact ⟨j + 1, _, by omega, by go_num, P5.out, HJ.out _ _ _ J5.out K6.out, (I5.out.no K6.out), (E3.out.no K6.out), (E4.out.no K6.out)⟩
                      case measure => simp [intOf]; omega
                    · have HW : Hid (whoOf L k ⟨on, (m : Int), ost, b⟩ = some (m : Int)) := HWM
                      obtain ⟨fn, tmps, assign, body, hy, hR⟩ := HY.out pre3 ((m : Int), b) _ (HJ.out _ _ _ J5.out K6.out) (by rw [P4.out]; exact HL2.out _ HW.out)
                      have HR2 := Lib.hid hR
                      unfold ownEnc at hy
                      dsimp only at hy
                      have P5 : Hid (pre3 ++ [((m : Int), b)] = ownedOf L k ++ (own.map (fun b => ((k : Int), b)) ++ outsOf L k (outs.take (j + 1)))) := Lib.hid (by rw [P4.out, HT.out, HW.out]; simp)
                      clear hR
                      gi_wp2
                      refine HR2.out.mono ?_
                      rintro e W3 (⟨rfl, hJ3, hk3⟩ | ⟨rfl, hJx3⟩)
                      · have J6 := Lib.hid hJ3
                        have I6 := Lib.hid ((I5.out.no K6.out).kp hk3)
                        have D3 := Lib.hid ((E3.out.no K6.out).kp (.inl rfl) hk3)
                        have D4 := Lib.hid ((E4.out.no K6.out).kp (.inr (.inl rfl)) hk3)
                        clear hy hJ3 hk3
                        gi_wp2
                        go_roundw
                        case rel => exact ⟨j + 1, _, by omega, by go_num, P5.out, J6.out, I6.out, D3.out, D4.out⟩
                        case measure => simp [intOf]; omega
                      · have X3 := Lib.hid hJx3
                        clear hy hJx3
                        gi_wp2
                        refine bodyPost_ret (results_none rfl _ _ _) rfl ?_
                        exact ⟨⟨_, rfl⟩, .inr ⟨_, X3.out⟩⟩
            · have hltji : ¬ ((j : Int) < (outs.length : Int)) := by omega
              have hTj2 : outs.take j = outs := List.take_of_length_le (by omega)
              rw [hTj2] at P4
              have P5 : Hid (pre3 = ownedOf L (k + 1)) := Lib.hid (by rw [P4.out, HS1.out]; rfl)
              gi_wp2
              go_roundw
              case rel => exact ⟨k + 1, _, by omega, by go_num, P5.out, J5.out, I5.out⟩
              case measure => simp [intOf]; omega
    · have hlti : ¬ ((k : Int) < (L.length : Int)) := by omega
      obtain rfl : k = L.length := by omega
      have JF : Hid (J (ownedOf L L.length) wr) := by rw [← P0.out]; exact J0
      gi_wp2
      refine bodyPost_end (results_none rfl _ _ _) rfl ?_
      exact ⟨⟨_, rfl⟩, .inl JF.out⟩
end Go.Proofs.YtcjeocibnfoenaaGreat
