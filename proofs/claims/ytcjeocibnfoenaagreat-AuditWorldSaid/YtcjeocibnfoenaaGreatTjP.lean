/-
  The document's tick: hit, with. No conditions of their own.
-/
import Derived.Test.YtcjeocibnfoenaaGreatTjO
namespace Go.Proofs.YtcjeocibnfoenaaGreat
open Go.RowKit Go.Joins Go.Deep Go.Sort

/-- what a name takes -/
def hitN (hs : List Ht) (n : Nam) : Int := match hs.find? (fun h => neq h.id n) with | some h => h.n | none => 0
theorem hurtB_zero (b : Bd) : hurtB b 0 = (b, true) := by
  unfold hurtB
  rw [decide_eq_true (Int.le_refl 0), Bool.or_true]
  rfl
theorem hitF_is (hs : List Ht) (b : Bd) : hitF hs b = hurtB b (hitN hs b.id) := by
  unfold hitF hitN
  cases hs.find? (fun h => neq h.id b.id) with
  | some h => rfl
  | none => exact (hurtB_zero b).symm
theorem hitN_at (hs : List Ht) (n : Nam) (k : Nat) (hk : k < hs.length) (hno : ∀ j, (h : j < k) → (h2 : j < hs.length) → neq hs[j].id n = false) (hp : neq hs[k].id n = true) : hitN hs n = hs[k].n := by
  have : hs.find? (fun h => neq h.id n) = some hs[k] := by
    rw [List.find?_eq_some_iff_getElem]
    exact ⟨hp, k, hk, rfl, fun j hj => by simp [hno j hj (by omega)]⟩
  unfold hitN
  rw [this]
theorem hitN_none (hs : List Ht) (n : Nam) (hno : ∀ j, (h2 : j < hs.length) → neq hs[j].id n = false) : hitN hs n = 0 := by
  have : hs.find? (fun h => neq h.id n) = none := by
    rw [List.find?_eq_none]
    intro x hx
    obtain ⟨j, hj, rfl⟩ := List.getElem_of_mem hx
    simp [hno j hj]
  unfold hitN
  rw [this]

set_option maxRecDepth 100000 in
set_option maxHeartbeats 4000000 in
theorem rhit_any (w : World) (v : Value) (hs : List Ht) (hv : RdOf cHt w v hs) (hn : hs.length ≤ 1000) (n : Nam) :
    Calls Tryz.prog 37 #[v, namV n] w fun e w' => e = .returned (.int .i64 (hitN hs n)) ∧ Grown w w' := by
  obtain ⟨va, vc, rfl⟩ := hv.slice
  have HV := Lib.hid hv
  have hni : (hs.length : Int) ≤ 1000 := by omega
  obtain ⟨R, hR⟩ : ∃ R, R = hitN hs n := ⟨_, rfl⟩
  rw [← hR]
  have HR := Lib.hid hR
  have mx := mixed
  clear hv hn hR
  go_enter Tryz.func37, Tryz.ntmps37
  go_upto_region 1 with fail
  refine wp_world ?_
  intro W hW
  have GW : Hid (Grown w W) := Lib.hid (by rw [hW]; exact (Grown.same w).alloc _)
  have CB : Hid (cellsAt W w.heap.size 0 3 = some (namC n)) := Lib.hid (by rw [hW]; simp [go_sem])
  obtain ⟨gn, hgn⟩ : ∃ g, g = w.heap.size := ⟨_, rfl⟩
  rw [← hgn] at CB ⊢
  clear hW hgn
  go_wp2_with fail
  go_loopw [5] (fun q wr => ∃ k : Nat, k ≤ hs.length ∧ q = .int .i64 k ∧ (∀ j, (h : j < k) → (h2 : j < hs.length) → neq hs[j].id n = false) ∧ Grown W wr) (fun q _ => hs.length - (intOf q).toNat)
  case atStart => exact ⟨0, Nat.zero_le _, rfl, fun j h => by omega, Grown.same W⟩
  case round =>
    obtain ⟨k, hkl, rfl, hno, hG⟩ := hrel
    obtain ⟨wo, hwo⟩ : ∃ x : World, x = wr := ⟨_, rfl⟩
    subst hwo
    have G := Lib.hid hG
    have HNO := Lib.hid hno
    have hk0 : (0 : Int) ≤ (k : Int) := by omega
    clear hno
    by_cases hlt : k < hs.length
    · have hlti : (k : Int) < (hs.length : Int) := by omega
      have hrr : RdOf cHt wo (.slice va hs.length vc) hs := HV.out.kept ((GW.out.trans hG).keeps) (fun _ _ h => h)
      obtain ⟨g, off, rfl, _, _, _⟩ := RdOf.addr cHt hrr (by omega)
      have c4 := RdOf.at cHt hrr k hlt
      obtain ⟨h, hh⟩ : ∃ h, h = hs[k] := ⟨_, rfl⟩
      have c5 : cellsAt wo g (off + k * 4) 4 = some (htC h) := by rw [hh]; exact c4
      have HH := Lib.hid hh
      have x3 : cellsAt wo g (off + k * 4) 3 = some [.int .i64 h.s, .int .i64 h.i, .int .i64 h.g] := cellsAt_part c5 0 [.int .i64 h.s, .int .i64 h.i, .int .i64 h.g] rfl (by simp)
      have cb := hG.keeps.cellsAt CB.out
      have L1 : ∀ n os, cellsAt (grow (wo.drewN n) os) g (off + k * 4) 3 = some [.int .i64 h.s, .int .i64 h.i, .int .i64 h.g] := fun n os => (Grown.keeps ⟨n, os, rfl⟩).cellsAt x3
      have L2 : ∀ m os, cellsAt (grow (wo.drewN m) os) gn 0 3 = some (namC n) := fun m os => (Grown.keeps ⟨m, os, rfl⟩).cellsAt cb
      have C5 := Lib.hid c5
      clear c4 hh hrr hG x3 cb c5
      obtain ⟨T, hT⟩ : ∃ T, T = neq h.id n := ⟨_, rfl⟩
      have heq : ∀ W, (binOp .eql 36 (.agg #[.int .i64 h.s, .int .i64 h.i, .int .i64 h.g]) (.agg #[.int .i64 n.s, .int .i64 n.i, .int .i64 n.g])).run Tryz.prog W = .ok (.bool T) W := fun W => by rw [hT]; exact run_eqlID _ _ _ _ _ _ W
      have HT := Lib.hid hT
      clear hT
      go_wp2_with fail
      go_quiet_grown (fail)
      have G2 : Hid (Grown wo (grow (wo.drewN nq) osq)) := Lib.hid ⟨nq, osq, rfl⟩
      obtain ⟨w2, hw2⟩ : ∃ z, z = grow (wo.drewN nq) osq := ⟨_, rfl⟩
      show Exit.then _ _ Exit.normal _ (grow (wo.drewN nq) osq)
      rw [← hw2] at G2 ⊢
      clear hw2 L1 L2
      cases T with
      | true =>
        have eR : R = h.n := by rw [HR.out, hitN_at hs n k hlt HNO.out (by rw [← HH.out]; exact HT.out.symm), ← HH.out]
        subst eR
        have c6 := cellsAt_cell (G2.out.keeps.cellsAt C5.out) 3 _ rfl
        go_wp2
        go_ret
        exact ⟨rfl, GW.out.trans (G.out.trans G2.out)⟩
      | false =>
        go_wp2
        go_roundw
        case rel =>
          refine ⟨k + 1, by omega, by go_num, fun j h1 h2 => ?_, G.out.trans G2.out⟩
          by_cases hjk : j = k
          · subst hjk
            rw [← HH.out]
            exact HT.out.symm
          · exact HNO.out j (by omega) h2
        case measure => simp [intOf]; omega
    · have hlti : ¬ ((k : Int) < (hs.length : Int)) := by omega
      have eR : R = 0 := by rw [HR.out, hitN_none hs n (fun j h2 => HNO.out j (by omega) h2)]
      subst eR
      clear hG
      go_wp2
      go_ret
      exact ⟨rfl, GW.out.trans G.out⟩
end Go.Proofs.YtcjeocibnfoenaaGreat
