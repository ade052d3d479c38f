/-
  tick: what a stage does to each entity. No conditions of its own.
-/
import Derived.Test.YtcjeocibnfoenaaGreatTjH
namespace Go.Proofs.YtcjeocibnfoenaaGreat
open Go.RowKit Go.Joins Go.Deep Go.Sort

/-- the first hit of a name -/
def hitF (hs : List Ht) (b : Bd) : Bd × Bool := match hs.find? (fun h => neq h.id b.id) with | some h => hurtB b h.n | none => (b, true)
theorem hitF_at (hs : List Ht) (b : Bd) (k : Nat) (hk : k < hs.length) (hno : ∀ j, (h : j < k) → (h2 : j < hs.length) → neq hs[j].id b.id = false) (hp : neq hs[k].id b.id = true) : hitF hs b = hurtB b hs[k].n := by
  have : hs.find? (fun h => neq h.id b.id) = some hs[k] := by
    rw [List.find?_eq_some_iff_getElem]
    exact ⟨hp, k, hk, rfl, fun j hj => by simp [hno j hj (by omega)]⟩
  unfold hitF
  rw [this]
theorem hitF_none (hs : List Ht) (b : Bd) (hno : ∀ j, (h2 : j < hs.length) → neq hs[j].id b.id = false) : hitF hs b = (b, true) := by
  have : hs.find? (fun h => neq h.id b.id) = none := by
    rw [List.find?_eq_none]
    intro x hx
    obtain ⟨j, hj, rfl⟩ := List.getElem_of_mem hx
    simp [hno j hj]
  unfold hitF
  rw [this]
/-- A function value that answers f of each entity, and turns nothing that was there, whatever becomes of S. -/
structure AnswersB (P : Program) (S : Nat → Prop) (w0 : World) (fid : Nat) (captured : Array Value) (f : Bd → Bd × Bool) : Prop where
  call : ∀ args w, Sem.run P (callFunc fid args) w = .ok (.enter fid args) w
  ans : ∀ w b, Keeps S w0 w → b.ok → Calls P fid (#[bdV b] ++ captured) w fun e w' => e = .returned (.tuple #[bdV (f b).1, .bool (f b).2]) ∧ Keeps No w w'

set_option maxRecDepth 100000 in
set_option maxHeartbeats 4000000 in
theorem run1_any (w : World) (ch : Nat) (hv : Value) (hs : List Ht) (hc : w.cell? ⟨ch, 0, none⟩ = some hv) (hr : RdOf cHt w hv hs) (hn : hs.length ≤ 1000) (b : Bd) (hb : i64 b.hp) :
    Calls Tryz.prog 25 #[bdV b, .pointer (some ⟨ch, 0, none⟩)] w fun e w' => e = .returned (.tuple #[bdV (hitF hs b).1, .bool (hitF hs b).2]) ∧ Keeps No w w' := by
  obtain ⟨va, vc, rfl⟩ := hr.slice
  have HR := Lib.hid hr
  have HB := Lib.hid hb
  have lc : ch < w.heap.size := block_lt_of_cell hc
  have hni : (hs.length : Int) ≤ 1000 := by omega
  obtain ⟨R, hR⟩ : ∃ R, R = hitF hs b := ⟨_, rfl⟩
  rw [← hR]
  have HRR := Lib.hid hR
  clear hr hb hn hR
  go_enter Tryz.func25, Tryz.ntmps25
  go_upto_region 1 with fail
  refine wp_world ?_
  intro W hW
  have X0 : Hid (Boxed w W w.heap.size (w.heap.size + 1) b) := Lib.hid (by rw [hW]; exact boxed_new w b _ rfl _)
  have hcW : W.cell? ⟨ch, 0, none⟩ = some (.slice va hs.length vc) := X0.out.k.cell hc (fun h => h)
  obtain ⟨gb, hgb⟩ : ∃ g, g = w.heap.size := ⟨_, rfl⟩
  obtain ⟨gr, hgr⟩ : ∃ g, g = w.heap.size + 1 := ⟨_, rfl⟩
  rw [← hgr]
  rw [← hgb]
  rw [← hgr] at X0
  rw [← hgb] at X0
  clear hW hgb hgr lc hc
  go_wp2_with fail
  go_loopw [9] (fun q wr => ∃ k : Nat, k ≤ hs.length ∧ q = .int .i64 k ∧ (∀ j, (h : j < k) → (h2 : j < hs.length) → neq hs[j].id b.id = false) ∧ Keeps No W wr) (fun q _ => hs.length - (intOf q).toNat)
  case atStart => exact ⟨0, Nat.zero_le _, rfl, fun j h => by omega, Keeps.refl _⟩
  case round =>
    obtain ⟨k, hkl, rfl, hno, hK⟩ := hrel
    obtain ⟨wo, hwo⟩ : ∃ x : World, x = wr := ⟨_, rfl⟩
    subst hwo
    have K := Lib.hid hK
    have X := Lib.hid (X0.out.next hK)
    have HNO := Lib.hid hno
    have hk0 : (0 : Int) ≤ (k : Int) := by omega
    clear hno
    by_cases hlt : k < hs.length
    · have hlti : (k : Int) < (hs.length : Int) := by omega
      have hrr : RdOf cHt wo (.slice va hs.length vc) hs := HR.out.kept (X0.out.k.trans hK (fun _ _ h => h)) (fun _ _ h => h)
      obtain ⟨g, off, rfl, _, _, _⟩ := RdOf.addr cHt hrr (by omega)
      have c4 := RdOf.at cHt hrr k hlt
      obtain ⟨h, hh⟩ : ∃ h, h = hs[k] := ⟨_, rfl⟩
      have c5 : cellsAt wo g (off + k * 4) 4 = some (htC h) := by rw [hh]; exact c4
      have HH := Lib.hid hh
      clear c4 hh hrr hK
      have lb := X.out.lb
      have cb := X.out.b
      have b0 : cellsAt wo gb 0 3 = some [.int .i64 b.s, .int .i64 b.i, .int .i64 b.g] := cellsAt_part cb 0 [.int .i64 b.s, .int .i64 b.i, .int .i64 b.g] rfl (by simp)
      obtain ⟨T, hT⟩ : ∃ T, T = neq h.id b.id := ⟨_, rfl⟩
      have heq : ∀ W, (binOp .eql 36 (.agg #[.int .i64 h.s, .int .i64 h.i, .int .i64 h.g]) (.agg #[.int .i64 b.s, .int .i64 b.i, .int .i64 b.g])).run Tryz.prog W = .ok (.bool T) W := fun W => by rw [hT]; exact run_eqlID _ _ _ _ _ _ W
      have HT := Lib.hid hT
      clear hT
      cases T with
      | true =>
        have eR : Hid (R = hurtB b h.n) := Lib.hid (by rw [HRR.out, hitF_at hs b k hlt HNO.out (by rw [← HH.out]; exact HT.out.symm), ← HH.out])
        go_wp2_with fail
        refine (hurt_any _ b HB.out h.n).mono ?_
        rintro e w2 ⟨rfl, hk2⟩
        rw [← eR.out]
        have X2 := Lib.hid (X.out.next (((Keeps.refl wo).alloc _).trans hk2 (fun _ _ h => h)))
        have or := X2.out.or
        have sr := X2.out.sr
        have lr := X2.out.lr
        have ne2 := X2.out.ne.symm
        clear hk2 cb b0 c5 lb
        go_wp2
        exact bodyPost_ret (v := .tuple #[bdV R.1, .bool R.2]) (by simp [results, Tryz.results25, go_sem, *]) rfl ⟨rfl, X2.out.k.row X2.out.nr _⟩
      | false =>
        go_wp2
        go_roundw
        case rel =>
          refine ⟨k + 1, by omega, by go_num, fun j h1 h2 => ?_, K.out.alloc _⟩
          by_cases hjk : j = k
          · subst hjk
            rw [← HH.out]
            exact HT.out.symm
          · exact HNO.out j (by omega) h2
        case measure => simp [intOf]; omega
    · have hlti : ¬ ((k : Int) < (hs.length : Int)) := by omega
      have eR : R = (b, true) := by rw [HRR.out, hitF_none hs b (fun j h2 => HNO.out j (by omega) h2)]
      subst eR
      have or := X.out.or
      have sr := X.out.sr
      have lr := X.out.lr
      have ne2 := X.out.ne.symm
      have cb := X.out.b
      clear hK
      go_wp2
      exact bodyPost_ret (v := .tuple #[bdV b, .bool true]) (by simp [results, Tryz.results25, go_sem, *]) rfl ⟨rfl, X.out.k.row X.out.nr _⟩

theorem ageB_lf (z : Zf) (b : Bd) : (moveB z b).lf = b.lf := by
  unfold moveB velB
  cases hasB b.m 2 <;> rfl
set_option maxRecDepth 100000 in
set_option maxHeartbeats 4000000 in
theorem run2_any (w : World) (cm g : Nat) (z : Zf) (hz : z.ok) (hc : w.cell? ⟨cm, 0, none⟩ = some (.pointer (some ⟨g, 0, none⟩))) (hm : cellsAt w g 0 11 = some (zmC z)) (b : Bd) (hb : i64 b.lf) :
    Calls Tryz.prog 28 #[bdV b, .pointer (some ⟨cm, 0, none⟩)] w fun e w' => e = .returned (.tuple #[bdV (ageB (moveB z b)).1, .bool (ageB (moveB z b)).2]) ∧ Keeps No w w' := by
  have HM := Lib.hid (fun W (hW : cellsAt W g 0 11 = some (zmC z)) => move_any W g z hW hz b)
  have HA := Lib.hid (fun W => age_any W (moveB z b) (by rw [ageB_lf]; exact hb))
  have HC := Lib.hid hm
  obtain ⟨b2, hb2⟩ : ∃ q, q = moveB z b := ⟨_, rfl⟩
  rw [← hb2] at HM HA ⊢
  obtain ⟨R, hR⟩ : ∃ R, R = ageB b2 := ⟨_, rfl⟩
  rw [← hR] at HA ⊢
  have lc : cm < w.heap.size := block_lt_of_cell hc
  clear hb2 hR hm hz hb
  go_enter Tryz.func28, Tryz.ntmps28
  go_upto_region 1 with fail
  refine wp_world ?_
  intro W hW
  have X0 : Hid (Boxed w W w.heap.size (w.heap.size + 1) b) := Lib.hid (by rw [hW]; exact boxed_new w b _ rfl _)
  have hcW : W.cell? ⟨cm, 0, none⟩ = some (.pointer (some ⟨g, 0, none⟩)) := X0.out.k.cell hc (fun h => h)
  obtain ⟨gb, hgb⟩ : ∃ g, g = w.heap.size := ⟨_, rfl⟩
  obtain ⟨gr, hgr⟩ : ∃ g, g = w.heap.size + 1 := ⟨_, rfl⟩
  rw [← hgr]
  rw [← hgb]
  rw [← hgr] at X0
  rw [← hgb] at X0
  have c0 := X0.out.b
  clear hW hgb hgr lc hc
  go_wp2_with fail
  refine (HM.out W (X0.out.k.cellsAt HC.out)).mono ?_
  rintro e w1 ⟨rfl, hk⟩
  have X1 := Lib.hid (X0.out.next hk)
  clear hk c0
  go_wp2_with fail
  refine (HA.out w1).mono ?_
  rintro e w2 ⟨rfl, hk⟩
  have X2 := Lib.hid (X1.out.next hk)
  have or := X2.out.or
  have sr := X2.out.sr
  have lr := X2.out.lr
  have ne2 := X2.out.ne.symm
  clear hk
  go_wp2
  exact bodyPost_ret (v := .tuple #[bdV R.1, .bool R.2]) (by simp [results, Tryz.results28, go_sem, *]) rfl ⟨rfl, X2.out.k.row X2.out.nr _⟩
set_option maxRecDepth 100000 in
set_option maxHeartbeats 4000000 in
theorem obey1_any (w : World) (cc : Nat) (c : Cm) (hc : cellsAt w cc 0 16 = some (cmC c)) (b : Bd) :
    Calls Tryz.prog 55 #[bdV b, .pointer (some ⟨cc, 0, none⟩)] w fun e w' => e = .returned (.tuple #[bdV (obeyB b c).1, .bool (obeyB b c).2]) ∧ Keeps No w w' := by
  have HO := Lib.hid (fun W => obey_any W b c)
  have HC := Lib.hid hc
  obtain ⟨R, hR⟩ : ∃ R, R = obeyB b c := ⟨_, rfl⟩
  rw [← hR] at HO ⊢
  clear hR hc
  go_enter Tryz.func55, Tryz.ntmps55
  go_upto_region 1 with fail
  refine wp_world ?_
  intro W hW
  have X0 : Hid (Boxed w W w.heap.size (w.heap.size + 1) b) := Lib.hid (by rw [hW]; exact boxed_new w b _ rfl _)
  obtain ⟨gb, hgb⟩ : ∃ g, g = w.heap.size := ⟨_, rfl⟩
  obtain ⟨gr, hgr⟩ : ∃ g, g = w.heap.size + 1 := ⟨_, rfl⟩
  rw [← hgr]
  rw [← hgb]
  rw [← hgr] at X0
  rw [← hgb] at X0
  have c0 := X0.out.b
  have hcW : cellsAt W cc 0 16 = some (cmC c) := X0.out.k.cellsAt HC.out
  clear hW hgb hgr
  go_wp2_with fail
  refine (HO.out W).mono ?_
  rintro e w1 ⟨rfl, hk⟩
  have X2 := Lib.hid (X0.out.next hk)
  have or := X2.out.or
  have sr := X2.out.sr
  have lr := X2.out.lr
  have ne2 := X2.out.ne.symm
  clear hk c0 hcW
  go_wp2
  exact bodyPost_ret (v := .tuple #[bdV R.1, .bool R.2]) (by simp [results, Tryz.results55, go_sem, *]) rfl ⟨rfl, X2.out.k.row X2.out.nr _⟩
end Go.Proofs.YtcjeocibnfoenaaGreat
