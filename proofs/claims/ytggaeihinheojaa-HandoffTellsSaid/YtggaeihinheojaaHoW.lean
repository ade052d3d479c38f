/-
  Whatever the state, the number, the target and the entity: HandoffTells returns true, and its arguments read behind the call as they read before. No conditions.
-/
import Derived.Test.YtggaeihinheojaaHoV
import Derived.Test.YtggaeihinheojaaHoU
import Derived.Deep.DeepCutAuto
import Derived.Deep.QuietTactic
import Derived.BigQuiet
namespace Go.Proofs.Ytggaeihinheojaa
open Go.ChangeShapes Go.WideShapes Go.ChangeAt Go.RowKit

/-- Tell, of both: the same -/
def TellPair (w : World) (ep t : Int) (own dead outs ins gh : Value) (nx n : Int) (tg kk nn : Int) (bs : List Bd) (ok : Bool) : Prop :=
  Calls Try.prog 19 #[stV ep t own dead outs ins gh nx, .int .i64 n] w (fun e w' => (∃ v, e = .returned (.tuple #[toV tg kk nn v, .bool ok]) ∧ RdOf cBd w' v bs) ∧ Keeps No w w') ∧
  ∀ w2, Keeps No w w2 → Calls Try.prog 20 #[stV ep t own dead outs ins gh nx, .int .i64 n] w2 (fun e w' => (∃ v, e = .returned (.tuple #[.int .i64 tg, msgIn kk 0 nn (.slice none 0 0) v (.slice none 0 0), .bool ok]) ∧ RdOf cBd w' v bs) ∧ Keeps No w2 w')
theorem tell_pair {w : World} {ep t nx : Int} {own dead outs ins gh : Value} {lo : List Ou} (hv : RdOf cOu w outs lo) (n : Int) : ∃ tg kk nn bs ok, TellPair w ep t own dead outs ins gh nx n tg kk nn bs ok := by
  rcases firstOf_cases (tellPr n) lo with ⟨h1, _⟩ | ⟨j, hf, hj, hp, hno⟩
  · refine ⟨0, 0, 0, [], false, (tell_any hv n).mono ?_, fun w2 hk => (rtell_no (hv.kept hk (fun _ _ h => h)) n h1).mono ?_⟩
    · rintro e w' ⟨h, hk⟩
      refine ⟨?_, hk⟩
      rcases h with ⟨_, rfl⟩ | ⟨j, hj, hf, _⟩ | ⟨j, hj, hf, _⟩
      · exact ⟨_, rfl, rdNil cBd _⟩
      · rw [hf] at h1; omega
      · rw [hf] at h1; omega
    · rintro e w' ⟨rfl, hk⟩
      exact ⟨⟨_, rfl, rdNil cBd _⟩, hk⟩
  · have hn : lo[j].n = n := by
      simp [tellPr] at hp
      exact hp.1
    cases hs : (lo[j].st == 2)
    · refine ⟨lo[j].to, 9, n, [], true, (tell_any hv n).mono ?_, fun w2 hk => (rtell_9 (hv.kept hk (fun _ _ h => h)) n j hj hf hs).mono ?_⟩
      · rintro e w' ⟨h, hk⟩
        refine ⟨?_, hk⟩
        rcases h with ⟨h1, _⟩ | ⟨j', hj', hf', hs', _⟩ | ⟨j', hj', hf', hs', rfl⟩
        · rw [hf] at h1; omega
        · obtain rfl : j = j' := by rw [hf] at hf'; omega
          rw [hs] at hs'; cases hs'
        · obtain rfl : j = j' := by rw [hf] at hf'; omega
          exact ⟨_, rfl, rdNil cBd _⟩
      · rintro e w' ⟨rfl, hk⟩
        rw [hn]
        exact ⟨⟨_, rfl, rdNil cBd _⟩, hk⟩
    · refine ⟨lo[j].to, 7, n, [lo[j].b], true, (tell_any hv n).mono ?_, fun w2 hk => (rtell_2 (hv.kept hk (fun _ _ h => h)) n j hj hf hs).mono ?_⟩
      · rintro e w' ⟨h, hk⟩
        refine ⟨?_, hk⟩
        rcases h with ⟨h1, _⟩ | ⟨j', hj', hf', hs', v, rfl, hr, _⟩ | ⟨j', hj', hf', hs', _⟩
        · rw [hf] at h1; omega
        · obtain rfl : j = j' := by rw [hf] at hf'; omega
          exact ⟨_, rfl, hr⟩
        · obtain rfl : j = j' := by rw [hf] at hf'; omega
          rw [hs] at hs'; cases hs'
      · rintro e w' ⟨⟨v, rfl, hr, _⟩, hk⟩
        rw [hn]
        exact ⟨⟨_, rfl, hr⟩, hk⟩

/-- Next, of both: the same -/
def NextPair (w : World) (ep t : Int) (own dead outs ins gh : Value) (nx : Int) (k n : Int) (ok : Bool) : Prop :=
  Calls Try.prog 17 #[stV ep t own dead outs ins gh nx] w (fun e w' => e = .returned (.tuple #[recV k n 0 Bd.zero, .bool ok]) ∧ Keeps No w w') ∧
  ∀ w2, Keeps No w w2 → Calls Try.prog 18 #[stV ep t own dead outs ins gh nx] w2 (fun e w' => e = .returned (.tuple #[.int .i64 n, .bool ok]) ∧ Keeps No w2 w')
theorem next_pair {w : World} {ep t nx : Int} {own dead outs ins gh : Value} {lo : List Ou} (hv : RdOf cOu w outs lo) (hl : lo.length ≤ 1000) (hn : Hid (nx < 1099511627776 → wrap64 (nx + 1) = nx + 1)) :
    ∃ k n ok, NextPair w ep t own dead outs ins gh nx k n ok ∧ (ok = true → k = 3) := by
  cases hm : mayNext lo nx
  · refine ⟨0, 0, false, ⟨(next_any hv hl hn).mono ?_, fun w2 hk => (rnext_any (hv.kept hk (fun _ _ h => h)) hl hn).mono ?_⟩, (fun h => by cases h)⟩
    · rintro e w' ⟨rfl, hk⟩
      rw [hm]
      exact ⟨rfl, hk⟩
    · rintro e w' ⟨rfl, hk⟩
      rw [hm]
      exact ⟨rfl, hk⟩
  · refine ⟨3, nx + 1, true, ⟨(next_any hv hl hn).mono ?_, fun w2 hk => (rnext_any (hv.kept hk (fun _ _ h => h)) hl hn).mono ?_⟩, fun _ => rfl⟩
    · rintro e w' ⟨rfl, hk⟩
      rw [hm]
      exact ⟨rfl, hk⟩
    · rintro e w' ⟨rfl, hk⟩
      rw [hm]
      exact ⟨rfl, hk⟩

end Go.Proofs.Ytggaeihinheojaa

namespace Go.Proofs.Ytggaeihinheojaa.handoffTells
open Go.ChangeShapes Go.WideShapes Go.ChangeAt Go.RowKit

/-- what both said, side by side -/
def Saids (w : World) (C : List (Int × Int × List Bd)) (u v : Value) (w' : World) : Prop := (∃ ms, MsReads w' u ms ∧ ms.map mcOf = C) ∧ (∃ ms, MsReads w' v ms ∧ ms.map mcOf = C) ∧ Keeps No w w'

set_option maxRecDepth 100000 in
set_option maxHeartbeats 4000000 in
theorem walk {ep t nx : Int} {own dead outs ins gh : Value} {lb : List Bd} {ld : List Idn} {lo : List Ou} {li : List Inn} {lg : List Gh} (w : World) (hs : StReads2 w own dead outs ins gh nx lb ld lo li lg) (n tg : Int) (b : Bd) :
    Calls Try.prog 5 #[stV ep t own dead outs ins gh nx, .int .i64 n, .int .i64 tg, .agg (bdC b).toArray] w fun e w' => e = .returned (.bool true) ∧ Keeps No w w' := by
  obtain ⟨hst, hgh, hnx⟩ := hs
  obtain ⟨a1, k1', rfl⟩ := hst.own.slice
  obtain ⟨a2, k2, rfl⟩ := hst.dead.slice
  obtain ⟨a3, k3, rfl⟩ := hst.outs.slice
  obtain ⟨a4, k4, rfl⟩ := hst.ins.slice
  obtain ⟨a5, k5, rfl⟩ := hgh.rows.slice
  have Hnx : Hid (nx < 1099511627776 → wrap64 (nx + 1) = nx + 1) := wrap_nx hnx
  have Hst := Lib.hid hst
  have Hgh := Lib.hid hgh
  clear hst hgh hnx
  go_enter Try.func5, Try.ntmps5
  go_wp2_with fail
  refine (small_any ep t nx a1 a3 a4 a2 a5 lb.length lo.length li.length ld.length lg.length k1' k3 k4 k2 k5 _).mono ?_
  rintro e w1 ⟨rfl, hk1⟩
  have s1 : cellsAt w1 w.heap.size 0 8 = some [.int .i64 ep, .int .i64 t, .slice a1 lb.length k1', .slice a2 ld.length k2, .slice a3 lo.length k3, .slice a4 li.length k4, .slice a5 lg.length k5, .int .i64 nx] := hk1.cellsAt (by simp [go_sem])
  have b1 : cellsAt w1 (w.heap.size + 1) 0 11 = some (bdC b) := hk1.cellsAt (by simp [go_sem])
  have K1 : Hid (Keeps No w w1) := (((Keeps.refl _).alloc _).alloc _).trans hk1 (fun _ _ h => h)
  have hz := hk1.size
  simp only [World.size_alloc] at hz
  have l1 : w.heap.size < w1.heap.size := by omega
  have l2 : w.heap.size + 1 < w1.heap.size := by omega
  clear hk1 hz
  cases hsm : smallB lb.length lo.length li.length ld.length lg.length
  · go_wp2_with fail
    refine (awake_any w1).mono ?_
    rintro e w2 ⟨rfl, hk2⟩
    have hfin : Hid (Keeps No w w2) := K1.out.trans hk2 (fun _ _ h => h)
    clear hk2
    go_wp2
    go_ret
    exact ⟨rfl, hfin.out⟩
  · have Hlo : Hid (lo.length ≤ 1000) := by
      show _ ≤ _
      unfold smallB at hsm
      simp at hsm
      omega
    have hnp := next_pair (w := w1) (ep := ep) (t := t) (nx := nx) (own := .slice a1 lb.length k1') (dead := .slice a2 ld.length k2) (ins := .slice a4 li.length k4) (gh := .slice a5 lg.length k5) (Hst.out.outs.kept K1.out (fun _ _ h => h)) Hlo.out Hnx
    clear hsm
    obtain ⟨kind, n1, ok1, hp, hok⟩ := hnp
    have Hp := Lib.hid hp
    have Hok := Lib.hid hok
    clear hp hok
    cases ok1
    all_goals
      try (have e := Hok.out rfl; have hkd : (kind != 3) = false := (by simp [e]); have hkd2 : (kind == 3) = true := (by simp [e]); clear e)
      clear Hok
      go_wp2_with fail
      refine Hp.out.1.mono ?_
      rintro e w2 ⟨rfl, hk2⟩
      have s2 := hk2.cellsAt s1
      have b2 := hk2.cellsAt b1
      have hz := hk2.size
      have l3 : w.heap.size < w2.heap.size := by omega
      have l4 : w.heap.size + 1 < w2.heap.size := by omega
      have Hk2 := Lib.hid hk2
      clear hk2 hz s1 b1 l1 l2
      go_wp2_with fail
      refine (Hp.out.2 _ (Hk2.out.alloc _)).mono ?_
      rintro e w3 ⟨rfl, hk3⟩
      have r30 : w3.cell? ⟨w2.heap.size, 0, none⟩ = some (.int .i64 kind) := hk3.cell (by simp [go_sem]) (fun h => h)
      have r31 : w3.cell? ⟨w2.heap.size, 1, none⟩ = some (.int .i64 n1) := hk3.cell (by simp [go_sem]) (fun h => h)
      have lC : w2.heap.size < w3.heap.size := by have := hk3.size; simp at this; omega
      have hk23 := ((Keeps.refl (S := No) w2).alloc _).trans hk3 (fun _ _ h => h)
      have s3 := hk23.cellsAt s2
      have b3 := hk23.cellsAt b2
      have hz := hk23.size
      have l5 : w.heap.size < w3.heap.size := by omega
      have l6 : w.heap.size + 1 < w3.heap.size := by omega
      have K3 : Hid (Keeps No w w3) := K1.out.trans (Hk2.out.trans hk23 (fun _ _ h => h)) (fun _ _ h => h)
      clear hk3 hk23 hz s2 b2 l3 l4 Hp Hk2
      obtain ⟨tg1, kk, nn, bs, ok, htp⟩ := tell_pair (w := w3) (ep := ep) (t := t) (nx := nx) (own := .slice a1 lb.length k1') (dead := .slice a2 ld.length k2) (ins := .slice a4 li.length k4) (gh := .slice a5 lg.length k5) (Hst.out.outs.kept K3.out (fun _ _ h => h)) n
      have Ht := Lib.hid htp
      clear htp
      go_wp2_with fail
      refine Ht.out.1.mono ?_
      rintro e w4 ⟨⟨v, rfl, hr4⟩, hk4⟩
      obtain ⟨va, vc, rfl⟩ := hr4.slice
      have s4 := hk4.cellsAt s3
      have b4 := hk4.cellsAt b3
      have hz := hk4.size
      have l7 : w.heap.size < w4.heap.size := by omega
      have l8 : w.heap.size + 1 < w4.heap.size := by omega
      have Hk4 := Lib.hid hk4
      have Hr4 := Lib.hid hr4
      clear hk4 hr4 hz s3 b3 l5 l6 r30 r31 lC
      go_wp2_with fail
      refine (Ht.out.2 _ (Hk4.out.alloc _)).mono ?_
      rintro e w5 ⟨⟨v', rfl, hr5⟩, hk5⟩
      obtain ⟨va', vc', rfl⟩ := hr5.slice
      have r5 : cellsAt w5 w4.heap.size 0 7 = some [.int .i64 tg1, .int .i64 kk, .int .i64 0, .int .i64 nn, .slice none 0 0, .slice va bs.length vc, .slice none 0 0] := hk5.cellsAt (by simp [go_sem])
      have hk45 := ((Keeps.refl (S := No) w4).alloc _).trans hk5 (fun _ _ h => h)
      have Hr5 := Lib.hid (Hr4.out.kept hk45 (fun _ _ h => h))
      have Hr5' := Lib.hid hr5
      have s5 := hk45.cellsAt s4
      have b5 := hk45.cellsAt b4
      have r50 := cellsAt_cell r5 0 _ rfl
      have r51 : cellsAt w5 w4.heap.size 1 6 = some [.int .i64 kk, .int .i64 0, .int .i64 nn, .slice none 0 0, .slice va bs.length vc, .slice none 0 0] :=
        cellsAt_of (w := w5) (b := w4.heap.size) (o := 1) (l := [.int .i64 kk, .int .i64 0, .int .i64 nn, .slice none 0 0, .slice va bs.length vc, .slice none 0 0]) (fun j v hj => by rw [Nat.add_comm]; have := cellsAt_cell r5 (j + 1) v (by simpa using hj); simpa using this) (by simp)
      have hz := hk45.size
      have hz5 := hk5.size
      simp only [World.size_alloc] at hz5
      have l9 : w4.heap.size < w5.heap.size := by omega
      have lA : w.heap.size < w5.heap.size := by omega
      have lB : w.heap.size + 1 < w5.heap.size := by omega
      have K5 : Hid (Keeps No w w5) := K3.out.trans (Hk4.out.trans hk45 (fun _ _ h => h)) (fun _ _ h => h)
      clear hk5 hk45 hr5 Hr4 hz hz5 s4 b4 l7 l8 Ht Hk4 r5
      go_wp2_with fail
      refine (sameMsg kk 0 nn _ _ _ _ _ _ [] bs [] _ (rdNil _ _) (rdNil _ _) (Hr5.out.kept ((Keeps.refl (S := No) _).alloc _) (fun _ _ h => h)) (Hr5'.out.kept ((Keeps.refl (S := No) _).alloc _) (fun _ _ h => h)) (rdNil _ _) (rdNil _ _)).mono ?_
      rintro e w6 ⟨rfl, hk6'⟩
      have hk6 := ((Keeps.refl (S := No) w5).alloc _).trans hk6' (fun _ _ h => h)
      clear hk6'
      have s6 := hk6.cellsAt s5
      have b6 := hk6.cellsAt b5
      have hz := hk6.size
      have lD : w.heap.size < w6.heap.size := by omega
      have lE : w.heap.size + 1 < w6.heap.size := by omega
      have K6 : Hid (Keeps No w w6) := K5.out.trans hk6 (fun _ _ h => h)
      clear hk6 Hr5 Hr5' s5 b5 r50 r51 l9 lA lB hz K5 K3
      go_upto_region 11 with fail
      go_cut [18, 19] (fun s18 s19 w' => Saids w6 (saidC lo lo tg) s18 s19 w')
      case first =>
        have HSA : Hid (∀ W, Keeps No w6 W → Calls Try.prog 21 #[stV ep t (.slice a1 lb.length k1') (.slice a2 ld.length k2) (.slice a3 lo.length k3) (.slice a4 li.length k4) (.slice a5 lg.length k5) nx, .int .i64 tg] W fun e w' => (∃ v ms, e = .returned v ∧ MsReads w' v ms ∧ ms.map mcOf = saidC lo lo tg) ∧ Keeps No W w') :=
          fun W hW => says_any (Hst.out.outs.kept (K6.out.trans hW (fun _ _ h => h)) (fun _ _ h => h)) Hlo.out tg
        have HSB : Hid (∀ W, Keeps No w6 W → Calls Try.prog 22 #[stV ep t (.slice a1 lb.length k1') (.slice a2 ld.length k2) (.slice a3 lo.length k3) (.slice a4 li.length k4) (.slice a5 lg.length k5) nx, .int .i64 tg] W fun e w' => (∃ v ms, e = .returned v ∧ MsReads w' v ms ∧ ms.map mcOf = saidC lo lo tg) ∧ Keeps No W w') :=
          fun W hW => rsays_any (Hst.out.outs.kept (K6.out.trans hW (fun _ _ h => h)) (fun _ _ h => h)) Hlo.out tg
        go_wp2_with fail
        go_region_held3 (fun w' => cellsAt w' w.heap.size 0 8 = some [.int .i64 ep, .int .i64 t, .slice a1 lb.length k1', .slice a2 ld.length k2, .slice a3 lo.length k3, .slice a4 li.length k4, .slice a5 lg.length k5, .int .i64 nx]) (first | exact s6 | exact hsA | exact hsB)
            (first
              | (go_at_call 21
                 refine (HSA.out w6.drew ((Keeps.refl _).drew)).mono ?_
                 rintro e wA ⟨⟨vA, msA, rfl, hA, hmA⟩, hkA⟩
                 have KA : Hid (Keeps No w6 wA) := ((Keeps.refl w6).drew).trans hkA (fun _ _ h => h)
                 have HA := Lib.hid hA
                 have HmA := Lib.hid hmA
                 have hsA := KA.out.cellsAt s6
                 clear hA hmA hkA)
              | (go_at_call 21
                 refine (HSA.out wB KB.out).mono ?_
                 rintro e wA ⟨⟨vA, msA, rfl, hA, hmA⟩, hkA⟩
                 have KA : Hid (Keeps No w6 wA) := KB.out.trans hkA (fun _ _ h => h)
                 have HA := Lib.hid hA
                 have HmA := Lib.hid hmA
                 have hsA := KA.out.cellsAt s6
                 have HXB := Lib.hid (HB.out.kept hkA)
                 clear hA hmA hkA hsB)
              | (go_at_call 22
                 refine (HSB.out w6.drew ((Keeps.refl _).drew)).mono ?_
                 rintro e wB ⟨⟨vB, msB, rfl, hB, hmB⟩, hkB⟩
                 have KB : Hid (Keeps No w6 wB) := ((Keeps.refl w6).drew).trans hkB (fun _ _ h => h)
                 have HB := Lib.hid hB
                 have HmB := Lib.hid hmB
                 have hsB := KB.out.cellsAt s6
                 clear hB hmB hkB)
              | (go_at_call 22
                 refine (HSB.out wA KA.out).mono ?_
                 rintro e wB ⟨⟨vB, msB, rfl, hB, hmB⟩, hkB⟩
                 have KB : Hid (Keeps No w6 wB) := KA.out.trans hkB (fun _ _ h => h)
                 have HB := Lib.hid hB
                 have HmB := Lib.hid hmB
                 have hsB := KB.out.cellsAt s6
                 have HXA := Lib.hid (HA.out.kept hkB)
                 clear hB hmB hkB hsA))
        all_goals
          go_wp2_with fail
          go_meet
          case rel => first | exact ⟨⟨_, HXA.out, HmA.out⟩, ⟨_, HB.out, HmB.out⟩, KB.out⟩ | exact ⟨⟨_, HA.out, HmA.out⟩, ⟨_, HXB.out, HmB.out⟩, KA.out⟩
      case rest =>
        obtain ⟨⟨msA, hA, hmA⟩, ⟨msB, hB, hmB⟩, hK⟩ := hcut
        have hlen : msB.length = msA.length := by
          have h1 := congrArg List.length hmA
          have h2 := congrArg List.length hmB
          simp only [List.length_map] at h1 h2
          omega
        obtain ⟨aA, cA, rfl⟩ := hA.rows.slice
        obtain ⟨aB, cB, hvB⟩ := hB.rows.slice
        rw [hlen] at hvB
        subst hvB
        have HA := Lib.hid hA; have HB := Lib.hid hB
        have Hlen := Lib.hid hlen
        have HmC : Hid (msA.map mcOf = msB.map mcOf) := hmA.trans hmB.symm
        have hmx := RdOf.len cMs hA.rows
        unfold maxLen at hmx
        have s7 := hK.cellsAt s6
        have b7 := hK.cellsAt b6
        have HK := Lib.hid (K6.out.trans hK (fun _ _ h => h))
        have hz := hK.size
        have lF : w.heap.size < wc.heap.size := by omega
        have lG : w.heap.size + 1 < wc.heap.size := by omega
        clear hA hmA hB hmB hK s6 b6 hz lD lE K6 hlen
        go_wp2_with fail
        go_loopw [20] (fun i wr => ∃ k : Nat, k ≤ msA.length ∧ i = .int .i64 k ∧ Keeps No wc wr) (fun i _ => msA.length - (intOf i).toNat)
        case atStart => exact ⟨0, Nat.zero_le _, rfl, Keeps.refl _⟩
        case round =>
          obtain ⟨k, hk, rfl, hkw⟩ := hrel
          have Hkw := Lib.hid hkw
          have s8 : cellsAt wr w.heap.size 0 8 = some [.int .i64 ep, .int .i64 t, .slice a1 lb.length k1', .slice a2 ld.length k2, .slice a3 lo.length k3, .slice a4 li.length k4, .slice a5 lg.length k5, .int .i64 nx] := hkw.cellsAt s7
          have b8 : cellsAt wr (w.heap.size + 1) 0 11 = some (bdC b) := hkw.cellsAt b7
          have hz := hkw.size
          have lH : w.heap.size < wr.heap.size := by omega
          have lI : w.heap.size + 1 < wr.heap.size := by omega
          clear hkw s7 b7 hz lF lG
          by_cases hlt : k < msA.length
          · have hltB : k < msB.length := by rw [Hlen.out]; exact hlt
            have hrA := HA.out.kept Hkw.out
            have hrB := HB.out.kept Hkw.out
            obtain ⟨gA, oA, rfl, _, _, _⟩ := RdOf.addr cMs hrA.rows (by omega)
            have hrBr := hrB.rows
            rw [← Hlen.out] at hrBr
            obtain ⟨gB, oB, rfl, _, _, _⟩ := RdOf.addr cMs hrBr (by omega)
            have g0 : cellsAt wr gA (oA + k * 6) 6 = some (msC msA[k]) := RdOf.at cMs hrA.rows k hlt
            have g1 : cellsAt wr gB (oB + k * 6) 6 = some (msC msB[k]) := RdOf.at cMs hrBr k hltB
            have lA := hrA.lists msA[k] (List.getElem_mem hlt)
            have lB := hrB.lists msB[k] (List.getElem_mem hltB)
            have hmc : mcOf msA[k] = mcOf msB[k] := by
              have h1 : (msA.map mcOf)[k]'(by simpa using hlt) = (msB.map mcOf)[k]'(by simpa using hltB) := by simp only [HmC.out]
              simpa using h1
            clear hrA hrB hrBr
            generalize msA[k] = mA at *
            generalize msB[k] = mB at *
            obtain ⟨k1, n1', xa, xc, xb⟩ := mA
            obtain ⟨k2', n2', ya, yc, yb⟩ := mB
            simp only [mcOf, Prod.mk.injEq] at hmc
            obtain ⟨rfl, rfl, rfl⟩ := hmc
            have LA := Lib.hid lA; have LB := Lib.hid lB
            have hi0 : (0 : Int) ≤ (k : Int) := by omega
            have hi1 : (k : Int) < (msA.length : Int) := by omega
            clear lA lB s8 b8 lH lI
            go_wp2_with fail
            go_region_held3 (fun w' => cellsAt w' gA (oA + k * 6) 6 = some [.int .i64 k1, .int .i64 0, .int .i64 n1', .slice none 0 0, .slice xa xb.length xc, .slice none 0 0] ∧ cellsAt w' gB (oB + k * 6) 6 = some [.int .i64 k1, .int .i64 0, .int .i64 n1', .slice none 0 0, .slice ya xb.length yc, .slice none 0 0])
              (first | exact ⟨g0, g1⟩)
              (first
                | (go_at_call 14
                   refine (sameMsg k1 0 n1' _ _ _ _ _ _ [] xb [] wr.drew (rdNil _ _) (rdNil _ _) (LA.out.kept ((Keeps.refl (S := No) wr).drew) (fun _ _ h => h)) (LB.out.kept ((Keeps.refl (S := No) wr).drew) (fun _ _ h => h)) (rdNil _ _) (rdNil _ _)).mono ?_
                   rintro e wq ⟨rfl, hkq⟩
                   have KQ : Hid (Keeps No wr wq) := ((Keeps.refl wr).drew).trans hkq (fun _ _ h => h)
                   have q0 := KQ.out.cellsAt g0
                   have q1 := KQ.out.cellsAt g1
                   clear g0 g1 hkq
                   have g0 := q0
                   have g1 := q1
                   clear q0 q1))
            clear g0 g1
            go_wp2
            go_roundw
            case rel => exact ⟨k + 1, by omega, by go_num, Hkw.out.trans KQ.out (fun _ _ h => h)⟩
            case measure => simp [intOf]; omega
          · have HKr := Lib.hid (HK.out.trans Hkw.out (fun _ _ h => h))
            have HSA : Hid (∀ W, Keeps No wr W → Calls Try.prog 24 #[stV ep t (.slice a1 lb.length k1') (.slice a2 ld.length k2) (.slice a3 lo.length k3) (.slice a4 li.length k4) (.slice a5 lg.length k5) nx, .agg (bdC b).toArray, .int .i64 tg] W fun e w' => ∃ v', e = .returned (stV ep t (.slice a1 lb.length k1') (.slice a2 ld.length k2) v' (.slice a4 li.length k4) (.slice a5 lg.length k5) nx) ∧ RdOf cOu w' v' (lo ++ [⟨0, tg, 1, b⟩]) ∧ Keeps No W w') :=
              fun W hW => leave_any (Hst.out.outs.kept (HKr.out.trans hW (fun _ _ h => h)) (fun _ _ h => h)) Hlo.out rfl rfl rfl rfl b tg
            have HSB : Hid (∀ W, Keeps No wr W → Calls Try.prog 25 #[stV ep t (.slice a1 lb.length k1') (.slice a2 ld.length k2) (.slice a3 lo.length k3) (.slice a4 li.length k4) (.slice a5 lg.length k5) nx, .agg (bdC b).toArray, .int .i64 tg] W fun e w' => ∃ v', e = .returned (stV ep t (.slice a1 lb.length k1') (.slice a2 ld.length k2) v' (.slice a4 li.length k4) (.slice a5 lg.length k5) nx) ∧ RdOf cOu w' v' (lo ++ [⟨0, tg, 1, b⟩]) ∧ Keeps No W w') :=
              fun W hW => rleave_any (Hst.out.outs.kept (HKr.out.trans hW (fun _ _ h => h)) (fun _ _ h => h)) Hlo.out rfl rfl rfl rfl b tg
            have HSame : Hid (∀ W, Keeps No wr W → ∀ u v, RdOf cOu W u (lo ++ [⟨0, tg, 1, b⟩]) → RdOf cOu W v (lo ++ [⟨0, tg, 1, b⟩]) → Calls Try.prog 23 #[stV ep t (.slice a1 lb.length k1') (.slice a2 ld.length k2) u (.slice a4 li.length k4) (.slice a5 lg.length k5) nx, stV ep t (.slice a1 lb.length k1') (.slice a2 ld.length k2) v (.slice a4 li.length k4) (.slice a5 lg.length k5) nx] W fun e w' => e = .returned (.bool true) ∧ Keeps No W w') :=
              fun W hW u v hu hv => by
                have hk := HKr.out.trans hW (fun _ _ h => h)
                exact sameSt W ep t nx _ _ _ _ u v _ _ _ lb ld (lo ++ [⟨0, tg, 1, b⟩]) li lg (Hst.out.own.kept hk (fun _ _ h => h)) (Hst.out.own.kept hk (fun _ _ h => h)) (Hst.out.dead.kept hk (fun _ _ h => h)) (Hst.out.dead.kept hk (fun _ _ h => h)) hu hv (Hst.out.ins.kept hk (fun _ _ h => h)) (Hst.out.ins.kept hk (fun _ _ h => h)) (Hgh.out.kept hk)
            go_wp2_with fail
            go_region_held3 (fun w' => cellsAt w' w.heap.size 0 8 = some [.int .i64 ep, .int .i64 t, .slice a1 lb.length k1', .slice a2 ld.length k2, .slice a3 lo.length k3, .slice a4 li.length k4, .slice a5 lg.length k5, .int .i64 nx] ∧ cellsAt w' (w.heap.size + 1) 0 11 = some (bdC b))
              (first | exact ⟨s8, b8⟩ | exact ⟨hsT, hbT⟩ | exact ⟨hsS, hbS⟩ | exact ⟨hsA, hbA⟩ | exact ⟨hsB, hbB⟩)
              (first
              | (go_at_call 24
                 refine (HSA.out wr.drew ((Keeps.refl _).drew)).mono ?_
                 rintro e wA ⟨vA, rfl, hA, hkA⟩
                 have KA : Hid (Keeps No wr wA) := ((Keeps.refl wr).drew).trans hkA (fun _ _ h => h)
                 have HA' := Lib.hid hA
                 have hsA := KA.out.cellsAt s8
                 have hbA := KA.out.cellsAt b8
                 clear hA hkA)
              | (go_at_call 24
                 refine (HSA.out wB KB.out).mono ?_
                 rintro e wA ⟨vA, rfl, hA, hkA⟩
                 have KA : Hid (Keeps No wr wA) := KB.out.trans hkA (fun _ _ h => h)
                 have HA' := Lib.hid hA
                 have hsA := KA.out.cellsAt s8
                 have hbA := KA.out.cellsAt b8
                 have HXB := Lib.hid (HB'.out.kept hkA (fun _ _ h => h))
                 clear hA hkA hsB hbB)
              | (go_at_call 25
                 refine (HSB.out wr.drew ((Keeps.refl _).drew)).mono ?_
                 rintro e wB ⟨vB, rfl, hB, hkB⟩
                 have KB : Hid (Keeps No wr wB) := ((Keeps.refl wr).drew).trans hkB (fun _ _ h => h)
                 have HB' := Lib.hid hB
                 have hsB := KB.out.cellsAt s8
                 have hbB := KB.out.cellsAt b8
                 clear hB hkB)
              | (go_at_call 25
                 refine (HSB.out wA KA.out).mono ?_
                 rintro e wB ⟨vB, rfl, hB, hkB⟩
                 have KB : Hid (Keeps No wr wB) := KA.out.trans hkB (fun _ _ h => h)
                 have HB' := Lib.hid hB
                 have hsB := KB.out.cellsAt s8
                 have hbB := KB.out.cellsAt b8
                 have HXA := Lib.hid (HA'.out.kept hkB (fun _ _ h => h))
                 clear hB hkB hsA hbA)
              | (go_at_call 23
                 refine (HSame.out wB KB.out _ _ HXA.out HB'.out).mono ?_
                 rintro e wS ⟨rfl, hkS⟩
                 have KS : Hid (Keeps No wr wS) := KB.out.trans hkS (fun _ _ h => h)
                 have hsS := KS.out.cellsAt s8
                 have hbS := KS.out.cellsAt b8
                 clear hkS)
              | (go_at_call 23
                 refine (HSame.out wA KA.out _ _ HA'.out HXB.out).mono ?_
                 rintro e wS ⟨rfl, hkS⟩
                 have KS : Hid (Keeps No wr wS) := KA.out.trans hkS (fun _ _ h => h)
                 have hsS := KS.out.cellsAt s8
                 have hbS := KS.out.cellsAt b8
                 clear hkS)
              | (go_at_call 10
                 refine (awake_any wS).mono ?_
                 rintro e wT ⟨rfl, hkT⟩
                 have KT : Hid (Keeps No wr wT) := KS.out.trans hkT (fun _ _ h => h)
                 have hsT := KT.out.cellsAt s8
                 have hbT := KT.out.cellsAt b8
                 clear hkT))
            all_goals
              have hfin : Hid (Keeps No w wT) := HKr.out.trans KT.out (fun _ _ h => h)
              go_wp2
              go_ret
              exact ⟨rfl, hfin.out⟩
set_option maxRecDepth 100000 in
theorem lifted (os : Os) (started : os.Started) (H : Type) (enc : TypeId × Value → H) :
    ReturnsInHanded {} Try.checked os 5 .any (Rows.handoffTellsSpec.pre6 enc Try.prog Try.f5 Rows.handoffTellsRow.domain false) (Rows.handoffTellsSpec.post enc Try.prog Try.f5 false true false false) := by
  refine law_lifted os started H enc (by kernel_rfl) Try.func5
    (ChangeSpec.witness6 (enc := enc) (C := Try.checked) false ⟨#[], #[.agg #[.int .i64 0, .int .i64 0, .slice none 0 0, .slice none 0 0, .slice none 0 0, .slice none 0 0, .slice none 0 0, .int .i64 0], .int .i64 0, .int .i64 0, .agg #[.int .i64 0, .int .i64 0, .int .i64 0, .int .i64 0, .int .i64 0, .int .i64 0, .int .i64 0, .int .i64 0, .int .i64 0, .int .i64 0, .int .i64 0]], []⟩ 8 (by kernel_rfl) (by kernel_rfl) (by kernel_rfl) (by kernel_rfl))
    (by decide +kernel) rfl Try.underlying4 rfl (fun ds h => by match ds, h with | [d1, d2, d3, d4], _ => rfl) ?_
  intro W base args ds p hval hA
  rw [Try.params5] at hA hval
  obtain ⟨v0, v1, v2, v3, d0, d1, d2, d3, p0, p1, p2, p3, rfl, rfl, rfl, h0, h1, h2, h3⟩ := trodAll_four hA
  obtain ⟨ep, t, nx, own, dead, outs, ins, gh, lb, ld, lo, li, lg, rfl, hs⟩ := open_st2 (hval 0 28 v0 rfl rfl) h0
  obtain ⟨n, rfl, rfl, rfl, wn⟩ := open_int Try.underlying3 (hval 1 3 v1 rfl rfl) h1
  obtain ⟨tg, rfl, rfl, rfl, wt⟩ := open_int Try.underlying3 (hval 2 3 v2 rfl rfl) h2
  obtain ⟨b, rfl⟩ := open_bd (hval 3 37 v3 rfl rfl) h3
  exact walk W hs n tg b

theorem holds : Rows.HandoffTellsSaid :=
  OpenClaim.holds_of_wide 5 Try.f5 rfl rfl rfl rfl rfl rfl rfl ⟨rfl, rfl, rfl, rfl, rfl⟩ rfl rfl rfl rfl rfl (by kernel_rfl) Try.func5 (by kernel_rfl)
    (of_decide_eq_true (by kernel_rfl)) (by unfold Func.isWrapper; first | (rw [if_pos (by decide +kernel)]; kernel_rfl) | (rw [if_neg (by decide +kernel)]; exact ⟨rfl, rfl⟩))
    (fun os started H enc _ => lifted os started H enc)

end Go.Proofs.Ytggaeihinheojaa.handoffTells
