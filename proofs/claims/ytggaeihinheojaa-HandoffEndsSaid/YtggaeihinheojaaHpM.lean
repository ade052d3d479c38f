/-
  hedgerowlaw21: a shard begins anew. No conditions of its own.
-/
import Derived.Test.YtggaeihinheojaaHpS
import Derived.Test.YtggaeihinheojaaHpH
namespace Go.Proofs.Ytggaeihinheojaa
open Go.RowKit

section
variable {w w' : World} {g base T : Nat} {V : Vs} {ms : Nat → Nat → List Ms} {W : Wd}
/-- a way holds what was said just now -/
theorem WAt.sayWay (h : WAt w g base V ms W) (hbs : base ≤ w.heap.size) {a b : Nat} (ha : a < 3) (hb : b < 3) (k : Keeps No w w') {v : Value} {ms' : List Ms} (hs : Said w' (w.heap.size + 1) v ms')
    (hf : ∀ m ∈ ms', ∀ i, (Value.slice m.a m.bs.length m.c).ownBlock = some i → w.heap.size ≤ i) :
    WAt (w'.setCell ⟨g, 24 + a * 3 + b, none⟩ v) g base (V.setW a b v) (upd2 ms a b ms') (W.setW a b (ms'.map mcOf)) ∧ Keeps (Own g) w (w'.setCell ⟨g, 24 + a * 3 + b, none⟩ v) := by
  refine ⟨(h.setWay ha hb (k.mono (fun _ _ h => h.elim)) (hs.row.base (by omega)) (fun i hi => .inr (by have := (hs.row.lt i hi).1; omega)) (fun m hm => ⟨hs.lists m hm, fun _ i hi => ⟨fun hm' => ?_, fun e => hs.apart m hm i hi e⟩⟩)).1,
    (k.mono (fun _ _ h => h.elim)).trans ((Keeps.refl (S := Own g) w').setCell (p := ⟨g, 24 + a * 3 + b, none⟩) (fun _ => (rfl : g = g)) v) (fun _ _ h => h)⟩
  have h1 := h.mut_lt hm'
  have h2 := hf m hm i hi
  omega

def AnewRel (w : World) (g base T : Nat) (i : Value) (wr : World) : Prop :=
  ∃ j : Nat, j ≤ 3 ∧ i = .int .i64 j ∧ ∃ V' ms' W', WAt wr g base V' ms' W' ∧ Ok W' T ∧ Keeps (Up g) w wr

set_option maxRecDepth 100000 in
set_option maxHeartbeats 8000000 in
theorem wanew_any (h : WAt w g base V ms W) (hO : Ok W T) (hbs : base ≤ w.heap.size) {k : Nat} (hk : k < 3) :
    Calls Try.prog 55 #[gP g, .int .i64 k] w fun e w' => e = .returned (.tuple #[]) ∧ StepPost w g base T w' := by
  have hk0 : (0 : Int) ≤ (k : Int) := by omega
  have hk3 : (k : Int) < 3 := by omega
  have H := Lib.hid h
  have HO := Lib.hid hO
  have Hk := Lib.hid hk
  clear h hO
  go_enter Try.func55, Try.ntmps55
  go_wp2
  go_loopw [4] (fun i wr => AnewRel w g base T i wr) (fun i _ => 3 - (intOf i).toNat)
  case atStart => exact ⟨0, by omega, rfl, V, ms, W, H.out, HO.out, Keeps.refl w⟩
  case round =>
    obtain ⟨j, hj, rfl, V1, ms1, W1, h1, hO1, k1⟩ := hrel
    have hj0 : (0 : Int) ≤ (j : Int) := by omega
    have H1 := Lib.hid h1
    have HO1 := Lib.hid hO1
    have K1 := Lib.hid k1
    have Hbs : Hid (base ≤ wr.heap.size) := Nat.le_trans hbs k1.size
    clear h1 hO1 k1
    by_cases hj3 : j < 3
    · have hj3' : (j : Int) < 3 := by omega
      by_cases hjk : j = k
      · subst hjk
        have hb : ((j : Int) != (j : Int)) = false := by simp
        go_wp2
        go_roundw
        case rel => exact ⟨j + 1, by omega, by go_num, V1, ms1, W1, H1.out, HO1.out, K1.out⟩
        case measure => simp [intOf]; omega
      · have hb : ((j : Int) != (k : Int)) = true := by rw [bne_iff_ne]; omega
        obtain ⟨oa, oc, hVo⟩ := (H1.out.own k hk).1.slice
        obtain ⟨ua, uc, hVu⟩ := (H1.out.outs k hk).1.slice
        obtain ⟨ia, ic, hVi⟩ := (H1.out.ins k hk).1.slice
        have cS := H1.out.st k hk
        unfold shC at cS
        rw [hVo, hVu, hVi] at cS
        have HU : Hid (RdOf cOu wr.drew (.slice ua (W1.s k).outs.length uc) (W1.s k).outs) := by
          show RdOf _ _ _ _
          rw [← hVu]
          exact (H1.out.outs k hk).1.kept (Keeps.refl (S := No) wr).drew (fun _ _ h => h)
        have Hol : Hid ((W1.s k).outs.length ≤ 1000) := by have h := outs_le HO1.out.S hk; show _ ≤ _; omega
        have cW := H1.out.wy k j hk hj3
        have kb1 : k * 8 + 8 ≤ 34 := by omega
        have Hj3 := Lib.hid hj3
        have Hjk := Lib.hid hjk
        clear hVo hVu hVi
        go_wp2_with fail
        go_region_with
          (first
            | (go_at_call 21
               refine (says_new HU.out Hol.out j).mono ?_
               rintro e w2 ⟨⟨v2, ms2, rfl, hs2, hf2, hm2⟩, hk2⟩
               have K2 : Hid (Keeps No wr w2) := ((Keeps.refl (S := No) wr).drew).trans hk2 (fun _ _ h => h)
               have HP := Lib.hid (H1.out.sayWay Hbs.out hk hj3 K2.out hs2 (fun m hm i hi => (hf2 m hm i hi).1))
               have Hm2 := Lib.hid hm2
               have f2 := (H1.out.no K2.out).box.frozen (24 + k * 3 + j)
               have cW2 := K2.out.cell cW (fun h => h)
               obtain ⟨va2, vn2, vc2, rfl⟩ : ∃ a n c, v2 = .slice a n c := by
                 obtain ⟨a, c, he⟩ := ownsRow_slice hs2.row
                 exact ⟨a, _, c, he⟩
               clear hk2 hs2 hf2 hm2))
        all_goals
          go_wp2_with fail
          refine wp_world ?_
          intro Y hY
          have HY : Hid (WAt Y g base (V1.setW k j (.slice va2 vn2 vc2)) (upd2 ms1 k j ms2) (W1.setW k j (ms2.map mcOf))) := by
            rw [hY]
            exact HP.out.1
          have KY : Hid (Keeps (Own g) wr Y) := by
            rw [hY]
            exact HP.out.2
          have HbsY : Hid (base ≤ Y.heap.size) := Nat.le_trans Hbs.out KY.out.size
          obtain ⟨W2, hW2⟩ : ∃ W2, W2 = W1.setW k j (ms2.map mcOf) := ⟨_, rfl⟩
          obtain ⟨V2, hV2⟩ : ∃ V2, V2 = V1.setW k j (.slice va2 vn2 vc2) := ⟨_, rfl⟩
          obtain ⟨ms3, hms3⟩ : ∃ ms3, ms3 = upd2 ms1 k j ms2 := ⟨_, rfl⟩
          rw [← hW2, ← hV2, ← hms3] at HY
          have HW2 := Lib.hid hW2
          have hs1 : W2.s j = W1.s j := by rw [hW2]; rfl
          have Hs1 := Lib.hid hs1
          clear hY HP f2 cW2 cS cW HU hW2 hV2 hms3 hs1
          obtain ⟨oa2, oc2, hVo⟩ := (HY.out.own j hj3).1.slice
          obtain ⟨ua2, uc2, hVu⟩ := (HY.out.outs j hj3).1.slice
          obtain ⟨ia2, ic2, hVi⟩ := (HY.out.ins j hj3).1.slice
          have cS := HY.out.st j hj3
          unfold shC at cS
          rw [hVo, hVu, hVi] at cS
          have HU : Hid (RdOf cOu Y.drew (.slice ua2 (W2.s j).outs.length uc2) (W2.s j).outs) := by
            show RdOf _ _ _ _
            rw [← hVu]
            exact (HY.out.outs j hj3).1.kept (Keeps.refl (S := No) Y).drew (fun _ _ h => h)
          have Hol2 : Hid ((W2.s j).outs.length ≤ 1000) := by have h := outs_le HO1.out.S hj3; show _ ≤ _; rw [Hs1.out]; omega
          have cW := HY.out.wy j k hj3 hk
          have jb1 : j * 8 + 8 ≤ 34 := by omega
          clear hVo hVu hVi
          go_region_with
            (first
              | (go_at_call 21
                 refine (says_new HU.out Hol2.out k).mono ?_
                 rintro e w4 ⟨⟨v4, ms4, rfl, hs4, hf4, hm4⟩, hk4⟩
                 have K4 : Hid (Keeps No Y w4) := ((Keeps.refl (S := No) Y).drew).trans hk4 (fun _ _ h => h)
                 have HP := Lib.hid (HY.out.sayWay HbsY.out hj3 hk K4.out hs4 (fun m hm i hi => (hf4 m hm i hi).1))
                 have Hm4 := Lib.hid hm4
                 have f4 := (HY.out.no K4.out).box.frozen (24 + j * 3 + k)
                 have cW4 := K4.out.cell cW (fun h => h)
                 obtain ⟨va4, vn4, vc4, rfl⟩ : ∃ a n c, v4 = .slice a n c := by
                   obtain ⟨a, c, he⟩ := ownsRow_slice hs4.row
                   exact ⟨a, _, c, he⟩
                 clear hk4 hs4 hf4 hm4))
          all_goals
            go_wp2_with fail
            go_roundw
            case rel =>
              have e : W1.anew1 k j = W2.setW j k (ms4.map mcOf) := by
                unfold Wd.anew1
                rw [Hm4.out, Hs1.out, HW2.out, Hm2.out]
              refine ⟨j + 1, by omega, by go_num, _, _, _, HP.out.1, by rw [← e]; exact ok_anew1 HO1.out hk hj3 (fun e => Hjk.out e.symm), (K1.out.trans (own_up KY.out) (fun _ _ h => h)).trans (own_up HP.out.2) (fun _ _ h => h)⟩
            case measure => simp [intOf]; omega
    · obtain rfl : j = 3 := by omega
      go_wp2
      refine bodyPost_end (results_none rfl _ _ _) rfl ⟨rfl, V1, ms1, W1, H1.out, HO1.out.up, K1.out⟩
end
end Go.Proofs.Ytggaeihinheojaa
