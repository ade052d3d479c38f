/-
  Texts in one: LeJ, LeK, LeL, LeM, LeN, LeO, LeP, LeQ, LeR, LeS, LeT, LeU, LeV, LeW. No conditions of their own.
-/
import Derived.Test.YtndjnkjcfdaegaaGreatDoorZh26
import Derived.Test.YtndjnkjcfdaegaaGreatDoorZh27
set_option linter.all false

/-
  codec.sound: what was read, if it may be. No conditions of its own.
-/
namespace Go.Proofs.YtndjnkjcfdaegaaGreatDoor
open Go.RowKit Go.Joins Go.Deep

theorem rdCount_neg (r : Rdr) : rdCount (-1) r = (0, none) := by
  unfold rdCount
  by_cases h : (rdI r).1 < 0
  · rw [decide_eq_true h]; rfl
  · rw [decide_eq_false h, decide_eq_true (by omega)]; rfl
def soundD {α : Type} (b : Bool) (x z : α) (r : Rdr) : α × Rdr := bif r.isSome && b then (x, r) else (z, none)

set_option maxRecDepth 100000 in
set_option maxHeartbeats 2000000 in
theorem soundID_bad {w : World} {g : Nat} {r : Rdr} (h : RdrAt w g r) (x : Nam) (b : Bool) (hb : (r.isSome && b) = false) : Calls Tryz.prog 97 #[dP g, namV x, .int .i64 (errB b)] w fun e w' => e = .returned (namV Nam.zero) ∧ RdrAt w' g none ∧ Keeps (Own g) w w' := by
  have hlt := h.lt
  go_enter Tryz.func97, Tryz.ntmps97
  go_upto_region 1 with fail
  refine wp_world ?_
  intro W hW
  have KW : Hid (Keeps No w W) := Lib.hid (by rw [hW]; exact ((Keeps.refl w).alloc _).alloc _)
  have ob : Open W (w.heap.size + 1) := by rw [hW]; simp [go_sem]
  have sb : (rowD W (w.heap.size + 1)).size = 3 := by rw [hW]; simp [go_sem]
  have hsz : w.heap.size + 1 < W.heap.size := by rw [hW]; simp
  have HR := Lib.hid (h.kept KW.out (fun h => h))
  obtain ⟨gr, hgr⟩ : ∃ q, q = w.heap.size + 1 := ⟨_, rfl⟩
  have hng : ¬ gr = g := by omega
  have HG : Hid (w.heap.size ≤ gr) := Lib.hid (by omega)
  rw [← hgr] at ob sb hsz ⊢
  clear hW hgr h
  go_wp2_with fail
  refine (bad_any HR.out).mono ?_
  rintro e w1 ⟨rfl, rfl⟩
  have HC := Lib.hid (count_any HR.out (-1))
  rw [rdCount_neg r] at HC
  cases r with
  | none =>
    simp only [badR, Option.isSome_none, Bool.not_false]
    go_wp2_with fail
    refine HC.out.mono ?_
    rintro e w2 ⟨rfl, hr2, hk2⟩
    have R2 := Lib.hid hr2
    have K2 := Lib.hid (KW.out.own.trans hk2 (fun _ _ h => h))
    have ob2 : Open w2 gr := by
      obtain ⟨C, t, hc⟩ := ob
      exact ⟨C, t, hk2.heap hc hng⟩
    have sb2 : (rowD w2 gr).size = 3 := by
      obtain ⟨C, t, hc⟩ := ob
      have hw := hk2.heap hc hng
      unfold rowD at sb ⊢
      rw [hc] at sb
      rw [hw]
      exact sb
    have hsz2 : gr < w2.heap.size := Nat.lt_of_lt_of_le hsz hk2.size
    have hng2 : ¬ g = gr := fun e => hng e.symm
    clear ob sb hsz hr2 hk2
    go_wp2
    refine bodyPost_ret (v := namV Nam.zero) (by simp [results, Tryz.results97, go_sem, Nam.zero, *]) rfl ⟨rfl, ?_, ?_⟩
    · exact (R2.out.kept ((Keeps.refl (S := Own gr) w2).setRow (fun _ => (rfl : gr = gr)) _) hng2).kept ((Keeps.refl (S := No) _).alloc _) (fun h => h)
    · exact (K2.out.setRow (fun h => absurd h (Nat.not_lt.2 HG.out)) _).alloc _
  | some s =>
    simp only [Option.isSome_some, Bool.true_and] at hb
    subst hb
    simp only [badR, Option.isSome_some, Bool.not_true, errB, cond_false]
    go_wp2_with fail
    refine HC.out.mono ?_
    rintro e w2 ⟨rfl, hr2, hk2⟩
    have R2 := Lib.hid hr2
    have K2 := Lib.hid (KW.out.own.trans hk2 (fun _ _ h => h))
    have ob2 : Open w2 gr := by
      obtain ⟨C, t, hc⟩ := ob
      exact ⟨C, t, hk2.heap hc hng⟩
    have sb2 : (rowD w2 gr).size = 3 := by
      obtain ⟨C, t, hc⟩ := ob
      have hw := hk2.heap hc hng
      unfold rowD at sb ⊢
      rw [hc] at sb
      rw [hw]
      exact sb
    have hsz2 : gr < w2.heap.size := Nat.lt_of_lt_of_le hsz hk2.size
    have hng2 : ¬ g = gr := fun e => hng e.symm
    clear ob sb hsz hr2 hk2
    go_wp2
    refine bodyPost_ret (v := namV Nam.zero) (by simp [results, Tryz.results97, go_sem, Nam.zero, *]) rfl ⟨rfl, ?_, ?_⟩
    · exact (R2.out.kept ((Keeps.refl (S := Own gr) w2).setRow (fun _ => (rfl : gr = gr)) _) hng2).kept ((Keeps.refl (S := No) _).alloc _) (fun h => h)
    · exact (K2.out.setRow (fun h => absurd h (Nat.not_lt.2 HG.out)) _).alloc _
set_option maxRecDepth 100000 in
set_option maxHeartbeats 2000000 in
theorem soundID_ok {w : World} {g : Nat} {s : Nm} (h : RdrAt w g (some s)) (x : Nam) : Calls Tryz.prog 97 #[dP g, namV x, .int .i64 0] w fun e w' => e = .returned (namV x) ∧ RdrAt w' g (some s) ∧ Keeps (Own g) w w' := by
  have hlt := h.lt
  go_enter Tryz.func97, Tryz.ntmps97
  go_upto_region 1 with fail
  refine wp_world ?_
  intro W hW
  have KW : Hid (Keeps No w W) := Lib.hid (by rw [hW]; exact ((Keeps.refl w).alloc _).alloc _)
  have ob : Open W (w.heap.size + 1) := by rw [hW]; simp [go_sem]
  have sb : (rowD W (w.heap.size + 1)).size = 3 := by rw [hW]; simp [go_sem]
  have cb : cellsAt W w.heap.size 0 3 = some (namC x) := by rw [hW]; simp [go_sem]
  have hsz : w.heap.size + 1 < W.heap.size := by rw [hW]; simp
  have HR := Lib.hid (h.kept KW.out (fun h => h))
  obtain ⟨gr, hgr⟩ : ∃ q, q = w.heap.size + 1 := ⟨_, rfl⟩
  obtain ⟨gx, hgx⟩ : ∃ q, q = w.heap.size := ⟨_, rfl⟩
  have hng : ¬ g = gr := by omega
  have HG : Hid (w.heap.size ≤ gr) := Lib.hid (by omega)
  rw [← hgr] at ob sb hsz ⊢
  rw [← hgx] at cb ⊢
  clear hW hgr hgx h
  go_wp2_with fail
  refine (bad_any HR.out).mono ?_
  rintro e w1 ⟨rfl, rfl⟩
  simp only [badR, Option.isSome_some, Bool.not_true]
  go_wp2
  refine bodyPost_ret (v := namV x) (by simp [results, Tryz.results97, go_sem, *]) rfl ⟨rfl, ?_, ?_⟩
  · exact HR.out.kept ((Keeps.refl (S := Own gr) W).setRow (fun _ => (rfl : gr = gr)) _) hng
  · exact KW.out.own.setRow (fun h => absurd h (Nat.not_lt.2 HG.out)) _
theorem soundID_any {w : World} {g : Nat} {r : Rdr} (h : RdrAt w g r) (x : Nam) (b : Bool) : Calls Tryz.prog 97 #[dP g, namV x, .int .i64 (errB b)] w fun e w' => e = .returned (namV (soundD b x Nam.zero r).1) ∧ RdrAt w' g (soundD b x Nam.zero r).2 ∧ Keeps (Own g) w w' := by
  unfold soundD
  cases hb : r.isSome && b with
  | false => exact soundID_bad h x b hb
  | true =>
    rw [Bool.and_eq_true] at hb
    obtain ⟨h1, rfl⟩ := hb
    cases r with
    | none => cases h1
    | some s => exact soundID_ok h x

set_option maxRecDepth 100000 in
set_option maxHeartbeats 2000000 in
theorem soundBundle_bad {w : World} {g : Nat} {r : Rdr} (h : RdrAt w g r) (x : Bd) (b : Bool) (hb : (r.isSome && b) = false) : Calls Tryz.prog 146 #[dP g, bdV x, .int .i64 (errB b)] w fun e w' => e = .returned (bdV Bd.zero) ∧ RdrAt w' g none ∧ Keeps (Own g) w w' := by
  have hlt := h.lt
  go_enter Tryz.func146, Tryz.ntmps146
  go_upto_region 1 with fail
  refine wp_world ?_
  intro W hW
  have KW : Hid (Keeps No w W) := Lib.hid (by rw [hW]; exact ((Keeps.refl w).alloc _).alloc _)
  have ob : Open W (w.heap.size + 1) := by rw [hW]; simp [go_sem]
  have sb : (rowD W (w.heap.size + 1)).size = 11 := by rw [hW]; simp [go_sem]
  have hsz : w.heap.size + 1 < W.heap.size := by rw [hW]; simp
  have HR := Lib.hid (h.kept KW.out (fun h => h))
  obtain ⟨gr, hgr⟩ : ∃ q, q = w.heap.size + 1 := ⟨_, rfl⟩
  have hng : ¬ gr = g := by omega
  have HG : Hid (w.heap.size ≤ gr) := Lib.hid (by omega)
  rw [← hgr] at ob sb hsz ⊢
  clear hW hgr h
  go_wp2_with fail
  refine (bad_any HR.out).mono ?_
  rintro e w1 ⟨rfl, rfl⟩
  have HC := Lib.hid (count_any HR.out (-1))
  rw [rdCount_neg r] at HC
  cases r with
  | none =>
    simp only [badR, Option.isSome_none, Bool.not_false]
    go_wp2_with fail
    refine HC.out.mono ?_
    rintro e w2 ⟨rfl, hr2, hk2⟩
    have R2 := Lib.hid hr2
    have K2 := Lib.hid (KW.out.own.trans hk2 (fun _ _ h => h))
    have ob2 : Open w2 gr := by
      obtain ⟨C, t, hc⟩ := ob
      exact ⟨C, t, hk2.heap hc hng⟩
    have sb2 : (rowD w2 gr).size = 11 := by
      obtain ⟨C, t, hc⟩ := ob
      have hw := hk2.heap hc hng
      unfold rowD at sb ⊢
      rw [hc] at sb
      rw [hw]
      exact sb
    have hsz2 : gr < w2.heap.size := Nat.lt_of_lt_of_le hsz hk2.size
    have hng2 : ¬ g = gr := fun e => hng e.symm
    clear ob sb hsz hr2 hk2
    go_wp2
    refine bodyPost_ret (v := bdV Bd.zero) (by simp [results, Tryz.results146, go_sem, Bd.zero, *]) rfl ⟨rfl, ?_, ?_⟩
    · exact (R2.out.kept ((Keeps.refl (S := Own gr) w2).setRow (fun _ => (rfl : gr = gr)) _) hng2).kept ((Keeps.refl (S := No) _).alloc _) (fun h => h)
    · exact (K2.out.setRow (fun h => absurd h (Nat.not_lt.2 HG.out)) _).alloc _
  | some s =>
    simp only [Option.isSome_some, Bool.true_and] at hb
    subst hb
    simp only [badR, Option.isSome_some, Bool.not_true, errB, cond_false]
    go_wp2_with fail
    refine HC.out.mono ?_
    rintro e w2 ⟨rfl, hr2, hk2⟩
    have R2 := Lib.hid hr2
    have K2 := Lib.hid (KW.out.own.trans hk2 (fun _ _ h => h))
    have ob2 : Open w2 gr := by
      obtain ⟨C, t, hc⟩ := ob
      exact ⟨C, t, hk2.heap hc hng⟩
    have sb2 : (rowD w2 gr).size = 11 := by
      obtain ⟨C, t, hc⟩ := ob
      have hw := hk2.heap hc hng
      unfold rowD at sb ⊢
      rw [hc] at sb
      rw [hw]
      exact sb
    have hsz2 : gr < w2.heap.size := Nat.lt_of_lt_of_le hsz hk2.size
    have hng2 : ¬ g = gr := fun e => hng e.symm
    clear ob sb hsz hr2 hk2
    go_wp2
    refine bodyPost_ret (v := bdV Bd.zero) (by simp [results, Tryz.results146, go_sem, Bd.zero, *]) rfl ⟨rfl, ?_, ?_⟩
    · exact (R2.out.kept ((Keeps.refl (S := Own gr) w2).setRow (fun _ => (rfl : gr = gr)) _) hng2).kept ((Keeps.refl (S := No) _).alloc _) (fun h => h)
    · exact (K2.out.setRow (fun h => absurd h (Nat.not_lt.2 HG.out)) _).alloc _
set_option maxRecDepth 100000 in
set_option maxHeartbeats 2000000 in
theorem soundBundle_ok {w : World} {g : Nat} {s : Nm} (h : RdrAt w g (some s)) (x : Bd) : Calls Tryz.prog 146 #[dP g, bdV x, .int .i64 0] w fun e w' => e = .returned (bdV x) ∧ RdrAt w' g (some s) ∧ Keeps (Own g) w w' := by
  have hlt := h.lt
  go_enter Tryz.func146, Tryz.ntmps146
  go_upto_region 1 with fail
  refine wp_world ?_
  intro W hW
  have KW : Hid (Keeps No w W) := Lib.hid (by rw [hW]; exact ((Keeps.refl w).alloc _).alloc _)
  have ob : Open W (w.heap.size + 1) := by rw [hW]; simp [go_sem]
  have sb : (rowD W (w.heap.size + 1)).size = 11 := by rw [hW]; simp [go_sem]
  have cb : cellsAt W w.heap.size 0 11 = some (bdC x) := by rw [hW]; simp [go_sem]
  have hsz : w.heap.size + 1 < W.heap.size := by rw [hW]; simp
  have HR := Lib.hid (h.kept KW.out (fun h => h))
  obtain ⟨gr, hgr⟩ : ∃ q, q = w.heap.size + 1 := ⟨_, rfl⟩
  obtain ⟨gx, hgx⟩ : ∃ q, q = w.heap.size := ⟨_, rfl⟩
  have hng : ¬ g = gr := by omega
  have HG : Hid (w.heap.size ≤ gr) := Lib.hid (by omega)
  rw [← hgr] at ob sb hsz ⊢
  rw [← hgx] at cb ⊢
  clear hW hgr hgx h
  go_wp2_with fail
  refine (bad_any HR.out).mono ?_
  rintro e w1 ⟨rfl, rfl⟩
  simp only [badR, Option.isSome_some, Bool.not_true]
  go_wp2
  refine bodyPost_ret (v := bdV x) (by simp [results, Tryz.results146, go_sem, *]) rfl ⟨rfl, ?_, ?_⟩
  · exact HR.out.kept ((Keeps.refl (S := Own gr) W).setRow (fun _ => (rfl : gr = gr)) _) hng
  · exact KW.out.own.setRow (fun h => absurd h (Nat.not_lt.2 HG.out)) _
theorem soundBundle_any {w : World} {g : Nat} {r : Rdr} (h : RdrAt w g r) (x : Bd) (b : Bool) : Calls Tryz.prog 146 #[dP g, bdV x, .int .i64 (errB b)] w fun e w' => e = .returned (bdV (soundD b x Bd.zero r).1) ∧ RdrAt w' g (soundD b x Bd.zero r).2 ∧ Keeps (Own g) w w' := by
  unfold soundD
  cases hb : r.isSome && b with
  | false => exact soundBundle_bad h x b hb
  | true =>
    rw [Bool.and_eq_true] at hb
    obtain ⟨h1, rfl⟩ := hb
    cases r with
    | none => cases h1
    | some s => exact soundBundle_ok h x

set_option maxRecDepth 100000 in
set_option maxHeartbeats 2000000 in
theorem soundCmd_bad {w : World} {g : Nat} {r : Rdr} (h : RdrAt w g r) (x : Cm) (b : Bool) (hb : (r.isSome && b) = false) : Calls Tryz.prog 93 #[dP g, cmV x, .int .i64 (errB b)] w fun e w' => e = .returned (cmV Cm.zero) ∧ RdrAt w' g none ∧ Keeps (Own g) w w' := by
  have hlt := h.lt
  go_enter Tryz.func93, Tryz.ntmps93
  go_upto_region 1 with fail
  refine wp_world ?_
  intro W hW
  have KW : Hid (Keeps No w W) := Lib.hid (by rw [hW]; exact ((Keeps.refl w).alloc _).alloc _)
  have ob : Open W (w.heap.size + 1) := by rw [hW]; simp [go_sem]
  have sb : (rowD W (w.heap.size + 1)).size = 16 := by rw [hW]; simp [go_sem]
  have hsz : w.heap.size + 1 < W.heap.size := by rw [hW]; simp
  have HR := Lib.hid (h.kept KW.out (fun h => h))
  obtain ⟨gr, hgr⟩ : ∃ q, q = w.heap.size + 1 := ⟨_, rfl⟩
  have hng : ¬ gr = g := by omega
  have HG : Hid (w.heap.size ≤ gr) := Lib.hid (by omega)
  rw [← hgr] at ob sb hsz ⊢
  clear hW hgr h
  go_wp2_with fail
  refine (bad_any HR.out).mono ?_
  rintro e w1 ⟨rfl, rfl⟩
  have HC := Lib.hid (count_any HR.out (-1))
  rw [rdCount_neg r] at HC
  cases r with
  | none =>
    simp only [badR, Option.isSome_none, Bool.not_false]
    go_wp2_with fail
    refine HC.out.mono ?_
    rintro e w2 ⟨rfl, hr2, hk2⟩
    have R2 := Lib.hid hr2
    have K2 := Lib.hid (KW.out.own.trans hk2 (fun _ _ h => h))
    have ob2 : Open w2 gr := by
      obtain ⟨C, t, hc⟩ := ob
      exact ⟨C, t, hk2.heap hc hng⟩
    have sb2 : (rowD w2 gr).size = 16 := by
      obtain ⟨C, t, hc⟩ := ob
      have hw := hk2.heap hc hng
      unfold rowD at sb ⊢
      rw [hc] at sb
      rw [hw]
      exact sb
    have hsz2 : gr < w2.heap.size := Nat.lt_of_lt_of_le hsz hk2.size
    have hng2 : ¬ g = gr := fun e => hng e.symm
    clear ob sb hsz hr2 hk2
    go_wp2
    refine bodyPost_ret (v := cmV Cm.zero) (by simp [results, Tryz.results93, go_sem, Cm.zero, Bd.zero, *]) rfl ⟨rfl, ?_, ?_⟩
    · exact (R2.out.kept ((Keeps.refl (S := Own gr) w2).setRow (fun _ => (rfl : gr = gr)) _) hng2).kept ((Keeps.refl (S := No) _).alloc _) (fun h => h)
    · exact (K2.out.setRow (fun h => absurd h (Nat.not_lt.2 HG.out)) _).alloc _
  | some s =>
    simp only [Option.isSome_some, Bool.true_and] at hb
    subst hb
    simp only [badR, Option.isSome_some, Bool.not_true, errB, cond_false]
    go_wp2_with fail
    refine HC.out.mono ?_
    rintro e w2 ⟨rfl, hr2, hk2⟩
    have R2 := Lib.hid hr2
    have K2 := Lib.hid (KW.out.own.trans hk2 (fun _ _ h => h))
    have ob2 : Open w2 gr := by
      obtain ⟨C, t, hc⟩ := ob
      exact ⟨C, t, hk2.heap hc hng⟩
    have sb2 : (rowD w2 gr).size = 16 := by
      obtain ⟨C, t, hc⟩ := ob
      have hw := hk2.heap hc hng
      unfold rowD at sb ⊢
      rw [hc] at sb
      rw [hw]
      exact sb
    have hsz2 : gr < w2.heap.size := Nat.lt_of_lt_of_le hsz hk2.size
    have hng2 : ¬ g = gr := fun e => hng e.symm
    clear ob sb hsz hr2 hk2
    go_wp2
    refine bodyPost_ret (v := cmV Cm.zero) (by simp [results, Tryz.results93, go_sem, Cm.zero, Bd.zero, *]) rfl ⟨rfl, ?_, ?_⟩
    · exact (R2.out.kept ((Keeps.refl (S := Own gr) w2).setRow (fun _ => (rfl : gr = gr)) _) hng2).kept ((Keeps.refl (S := No) _).alloc _) (fun h => h)
    · exact (K2.out.setRow (fun h => absurd h (Nat.not_lt.2 HG.out)) _).alloc _
set_option maxRecDepth 100000 in
set_option maxHeartbeats 2000000 in
theorem soundCmd_ok {w : World} {g : Nat} {s : Nm} (h : RdrAt w g (some s)) (x : Cm) : Calls Tryz.prog 93 #[dP g, cmV x, .int .i64 0] w fun e w' => e = .returned (cmV x) ∧ RdrAt w' g (some s) ∧ Keeps (Own g) w w' := by
  have hlt := h.lt
  go_enter Tryz.func93, Tryz.ntmps93
  go_upto_region 1 with fail
  refine wp_world ?_
  intro W hW
  have KW : Hid (Keeps No w W) := Lib.hid (by rw [hW]; exact ((Keeps.refl w).alloc _).alloc _)
  have ob : Open W (w.heap.size + 1) := by rw [hW]; simp [go_sem]
  have sb : (rowD W (w.heap.size + 1)).size = 16 := by rw [hW]; simp [go_sem]
  have cb : cellsAt W w.heap.size 0 16 = some (cmC x) := by rw [hW]; simp [go_sem]
  have hsz : w.heap.size + 1 < W.heap.size := by rw [hW]; simp
  have HR := Lib.hid (h.kept KW.out (fun h => h))
  obtain ⟨gr, hgr⟩ : ∃ q, q = w.heap.size + 1 := ⟨_, rfl⟩
  obtain ⟨gx, hgx⟩ : ∃ q, q = w.heap.size := ⟨_, rfl⟩
  have hng : ¬ g = gr := by omega
  have HG : Hid (w.heap.size ≤ gr) := Lib.hid (by omega)
  rw [← hgr] at ob sb hsz ⊢
  rw [← hgx] at cb ⊢
  clear hW hgr hgx h
  go_wp2_with fail
  refine (bad_any HR.out).mono ?_
  rintro e w1 ⟨rfl, rfl⟩
  simp only [badR, Option.isSome_some, Bool.not_true]
  go_wp2
  refine bodyPost_ret (v := cmV x) (by simp [results, Tryz.results93, go_sem, *]) rfl ⟨rfl, ?_, ?_⟩
  · exact HR.out.kept ((Keeps.refl (S := Own gr) W).setRow (fun _ => (rfl : gr = gr)) _) hng
  · exact KW.out.own.setRow (fun h => absurd h (Nat.not_lt.2 HG.out)) _
theorem soundCmd_any {w : World} {g : Nat} {r : Rdr} (h : RdrAt w g r) (x : Cm) (b : Bool) : Calls Tryz.prog 93 #[dP g, cmV x, .int .i64 (errB b)] w fun e w' => e = .returned (cmV (soundD b x Cm.zero r).1) ∧ RdrAt w' g (soundD b x Cm.zero r).2 ∧ Keeps (Own g) w w' := by
  unfold soundD
  cases hb : r.isSome && b with
  | false => exact soundCmd_bad h x b hb
  | true =>
    rw [Bool.and_eq_true] at hb
    obtain ⟨h1, rfl⟩ := hb
    cases r with
    | none => cases h1
    | some s => exact soundCmd_ok h x
end Go.Proofs.YtndjnkjcfdaegaaGreatDoor

/-
  codec: names, put and taken. No conditions of its own.
-/
namespace Go.Proofs.YtndjnkjcfdaegaaGreatDoor
open Go.RowKit Go.Joins Go.Deep

theorem open_lt {w : World} {b : Nat} (h : Open w b) : b < w.heap.size := by
  obtain ⟨C, t, hc⟩ := h
  exact (Array.getElem?_eq_some_iff.1 hc).1
theorem Keeps.openOwn {w w' : World} {g b : Nat} (k : Keeps (Own g) w w') (o : Open w b) (hn : ¬ b = g) : Open w' b := by
  obtain ⟨C, t, hc⟩ := o
  exact ⟨C, t, k.heap hc hn⟩
theorem Keeps.rowSizeOwn {w w' : World} {g b n : Nat} (k : Keeps (Own g) w w') (o : Open w b) (hs : (rowD w b).size = n) (hn : ¬ b = g) : (rowD w' b).size = n := by
  obtain ⟨C, t, hc⟩ := o
  have hw := k.heap hc hn
  unfold rowD at hs ⊢
  rw [hc] at hs
  rw [hw]
  exact hs
theorem Keeps.cellsOwn {w w' : World} {g b o n : Nat} {l : List Value} (k : Keeps (Own g) w w') (h : Proofs.YtndjnkjcfdaegaaGreatDoor.cellsAt w b o n = some l) (hb : b < w.heap.size) (hn : ¬ b = g) : Proofs.YtndjnkjcfdaegaaGreatDoor.cellsAt w' b o n = some l := by
  unfold Proofs.YtndjnkjcfdaegaaGreatDoor.cellsAt at h ⊢
  rw [k.block b hb hn]
  exact h
set_option maxRecDepth 100000 in
theorem putNam_any (w : World) (a : Nam) : Calls Tryz.prog 105 #[namV a] w fun e w' => e = .returned (strB (putNam a)) ∧ Keeps No w w' := by
  have CI := Lib.hid (fun W => checkId_any W a)
  obtain ⟨R, hR⟩ : ∃ x, x = strB (putNam a) := ⟨_, rfl⟩
  rw [← hR]
  have HR := Lib.hid hR
  clear hR
  cases hb : idOk a with
  | false =>
    have hp : putNam a = [] := by unfold putNam; rw [hb]; rfl
    rw [hb] at CI
    simp only [errB, cond_false] at CI
    have HP := Lib.hid hp
    clear hb hp
    go_enter Tryz.func105, Tryz.ntmps105
    go_wp2_with fail
    (with_reducible refine (CI.out _).mono ?_)
    rintro e w1 ⟨rfl, hg⟩
    have K1 : Hid (Keeps No w w1) := Lib.hid (((Keeps.refl w).alloc _).trans hg.keeps (fun _ _ h => h))
    clear hg
    go_wp2
    go_ret
    exact ⟨by rw [HR.out, HP.out]; rfl, K1.out⟩
  | true =>
    have hp := putNam_ok hb
    have HP := Lib.hid hp
    have h2 := hb
    unfold idOk at h2
    simp only [Bool.and_eq_true] at h2
    obtain ⟨h3, h4, h5⟩ := h2
    have HOK : Hid (∀ n ∈ [a.s, a.i, a.g], i64 n) := Lib.hid (by
      intro n hn
      simp only [List.mem_cons, List.not_mem_nil, or_false] at hn
      rcases hn with rfl | rfl | rfl
      · exact okI_i64 h3
      · exact okI_i64 h4
      · exact okI_i64 h5)
    rw [hb] at CI
    simp only [errB, cond_true] at CI
    have cb : cellsAt (w.alloc (.cells #[.int .i64 a.s, .int .i64 a.i, .int .i64 a.g] 36)) w.heap.size 0 3 = some (namC a) := by simp [go_sem]
    have CB := Lib.hid cb
    have K0 := Lib.hid ((Keeps.refl (S := No) w).alloc (.cells #[.int .i64 a.s, .int .i64 a.i, .int .i64 a.g] 36))
    clear hb hp h3 h4 h5 cb
    go_enter Tryz.func105, Tryz.ntmps105
    go_wp2_with fail
    (with_reducible refine (CI.out _).mono ?_)
    rintro e w1 ⟨rfl, hg⟩
    have K1 := Lib.hid (K0.out.trans hg.keeps (fun _ _ h => h))
    have cc := hg.keeps.cellsAt CB.out
    have c0 := cellsAt_cell cc 0 _ rfl
    have c1 := cellsAt_cell cc 1 _ rfl
    have c2 := cellsAt_cell cc 2 _ rfl
    simp only [Nat.zero_add] at c0 c1 c2
    clear hg cc
    go_wp2_with fail
    refine (octInt_any _ _ [a.s, a.i, a.g] (RdZ.lit w1 [a.s, a.i, a.g] 3 (by simp)) (by simp) HOK.out).mono ?_
    rintro e w2 ⟨rfl, hk⟩
    have K2 := Lib.hid ((K1.out.alloc _).trans hk (fun _ _ h => h))
    clear hk
    go_wp2
    go_ret
    exact ⟨by rw [HR.out, HP.out]; simp [bytesZ], K2.out⟩
set_option maxRecDepth 100000 in
set_option maxHeartbeats 2000000 in
theorem takeNam_any {w : World} {g : Nat} {r : Rdr} (h : RdrAt w g r) : Calls Tryz.prog 51 #[dP g] w fun e w' => e = .returned (namV (takeNam r).1) ∧ RdrAt w' g (takeNam r).2 ∧ Keeps (Own g) w w' := by
  obtain ⟨R, hR⟩ : ∃ x, x = takeNam r := ⟨_, rfl⟩
  rw [← hR]
  have HR : Hid (R = soundD (idOk (namRaw r).1) (namRaw r).1 Nam.zero (namRaw r).2) := Lib.hid (by
    rw [hR]
    unfold takeNam soundD
    rfl)
  have HN : Hid (namRaw r = (⟨(rdI r).1, (rdI (rdI r).2).1, (rdI (rdI (rdI r).2).2).1⟩, (rdI (rdI (rdI r).2).2).2)) := Lib.hid rfl
  have hlt := h.lt
  have H0 := Lib.hid (h.kept ((Keeps.refl (S := No) w).alloc (.cells #[.int .i64 0, .int .i64 0, .int .i64 0] 36)) (fun h => h))
  have K0 := Lib.hid (Keeps.own (g := g) ((Keeps.refl (S := No) w).alloc (.cells #[.int .i64 0, .int .i64 0, .int .i64 0] 36)))
  have O0 : Hid (Open (w.alloc (.cells #[.int .i64 0, .int .i64 0, .int .i64 0] 36)) w.heap.size ∧ (rowD (w.alloc (.cells #[.int .i64 0, .int .i64 0, .int .i64 0] 36)) w.heap.size).size = 3) := Lib.hid ⟨by simp [go_sem], by simp [go_sem]⟩
  obtain ⟨a, ha⟩ : ∃ x, x = rdI r := ⟨_, rfl⟩
  obtain ⟨b, hb⟩ : ∃ x, x = rdI a.2 := ⟨_, rfl⟩
  obtain ⟨c, hc⟩ : ∃ x, x = rdI b.2 := ⟨_, rfl⟩
  rw [← ha, ← hb, ← hc] at HN
  have HA := Lib.hid ha
  have HB := Lib.hid hb
  have HC := Lib.hid hc
  clear ha hb hc hR h
  go_enter Tryz.func51, Tryz.ntmps51
  go_wp2_with fail
  refine (rInt_any H0.out).mono ?_
  rintro e w1 ⟨rfl, hr1, hk1⟩
  rw [← HA.out] at hr1 ⊢
  have R1 := Lib.hid hr1
  have K1 := Lib.hid (K0.out.trans hk1 (fun _ _ h => h))
  have O1 : Hid (Open w1 w.heap.size ∧ (rowD w1 w.heap.size).size = 3) := Lib.hid ⟨hk1.openOwn O0.out.1 (by omega), hk1.rowSizeOwn O0.out.1 O0.out.2 (by omega)⟩
  clear hr1 hk1
  go_wp2_with fail
  refine (rInt_any R1.out).mono ?_
  rintro e w2 ⟨rfl, hr2, hk2⟩
  rw [← HB.out] at hr2 ⊢
  have R2 := Lib.hid hr2
  have K2 := Lib.hid (K1.out.trans hk2 (fun _ _ h => h))
  have O2 : Hid (Open w2 w.heap.size ∧ (rowD w2 w.heap.size).size = 3) := Lib.hid ⟨hk2.openOwn O1.out.1 (by omega), hk2.rowSizeOwn O1.out.1 O1.out.2 (by omega)⟩
  clear hr2 hk2
  go_wp2_with fail
  refine (rInt_any R2.out).mono ?_
  rintro e w3 ⟨rfl, hr3, hk3⟩
  rw [← HC.out] at hr3 ⊢
  have R3 := Lib.hid hr3
  have K3 := Lib.hid (K2.out.trans hk3 (fun _ _ h => h))
  have O3 : Hid (Open w3 w.heap.size ∧ (rowD w3 w.heap.size).size = 3) := Lib.hid ⟨hk3.openOwn O2.out.1 (by omega), hk3.rowSizeOwn O2.out.1 O2.out.2 (by omega)⟩
  have hs3 : w.heap.size < w3.heap.size := open_lt O3.out.1
  clear hr3 hk3
  go_upto_region 2 with fail
  refine wp_world ?_
  intro W hW
  obtain ⟨x, hx⟩ : ∃ x : Nam, x = ⟨a.1, b.1, c.1⟩ := ⟨_, rfl⟩
  have cx : cellsAt W w3.heap.size 0 3 = some (namC x) := by rw [hW, hx]; simp [go_sem]
  have or : Open W w.heap.size := by rw [hW]; simp [go_sem, O3.out.1, hs3]
  have sr : (rowD W w.heap.size).size = 3 := by rw [hW]; simp [go_sem, O3.out.2, hs3]
  have lx : w3.heap.size < W.heap.size := by rw [hW]; simp
  have RW : Hid (RdrAt W g c.2) := Lib.hid (by rw [hW]; exact R3.out.kept ((Keeps.refl (S := No) _).alloc _) (fun h => h))
  have KW : Hid (Keeps (Own g) w W) := Lib.hid (by rw [hW]; exact K3.out.alloc _)
  have HX : Hid (soundD (idOk x) x Nam.zero c.2 = R) := Lib.hid (by rw [HR.out, HN.out, hx])
  have hgx : g < w3.heap.size := R3.out.lt
  obtain ⟨gx, hgxe⟩ : ∃ q, q = w3.heap.size := ⟨_, rfl⟩
  obtain ⟨gr, hgre⟩ : ∃ q, q = w.heap.size := ⟨_, rfl⟩
  have nx : ¬ gx = g := by omega
  have nr : ¬ gr = g := by omega
  have nxr : gx ≠ gr := by omega
  have HG : Hid (w.heap.size ≤ gr) := Lib.hid (by omega)
  rw [← hgxe] at cx lx ⊢
  rw [← hgre] at or sr ⊢
  have CI := Lib.hid (fun W => checkId_any W x)
  clear hW hx hgxe hgre hs3 hgx K0 K1 K2 K3 O0 O1 O2 O3 R1 R2 R3 H0 HA HB HC HN HR
  have hS0 : cellsAt W gx 0 3 = some (namC x) ∧ Open W gr ∧ (rowD W gr).size = 3 := ⟨cx, or, sr⟩
  go_region_held3 (fun w' => cellsAt w' gx 0 3 = some (namC x) ∧ Open w' gr ∧ (rowD w' gr).size = 3)
    (first | exact hS0 | exact hS1 | exact hS2 | exact ⟨(cellsAt_setRow_far _ _ _ _ _ _ nxr).trans hS2.1, (open_setRow _ _ _ _).2 hS2.2.1, by rw [rowD_setRow_at _ _ _ hS2.2.1]; rfl⟩)
    (first
      | (go_at_call 70
         have hc := CI.out
         with_reducible refine (hc _).mono ?_
         clear hc
         rintro e w1 ⟨rfl, hg⟩
         have hS1 : cellsAt w1 gx 0 3 = some (namC x) ∧ Open w1 gr ∧ (rowD w1 gr).size = 3 := ⟨hg.keeps.cellsAt cx, hg.keeps.opened or, hg.keeps.rowSize or sr⟩
         have RX := Lib.hid ((RW.out.kept (Keeps.refl (S := No) W).drew (fun h => h)).kept hg.keeps (fun h => h))
         have KX := Lib.hid (KW.out.drew.trans hg.keeps (fun _ _ h => h.elim))
         have lx1 : gx < w1.heap.size := Nat.lt_of_lt_of_le lx hg.keeps.size)
      | (go_at_call 97
         refine (soundID_any RX.out x (idOk x)).mono ?_
         rintro e w2 ⟨rfl, hr2, hk2⟩
         rw [HX.out] at hr2 ⊢
         have hS2 : cellsAt w2 gx 0 3 = some (namC x) ∧ Open w2 gr ∧ (rowD w2 gr).size = 3 := ⟨hk2.cellsOwn hS1.1 lx1 nx, hk2.openOwn hS1.2.1 nr, hk2.rowSizeOwn hS1.2.1 hS1.2.2 nr⟩
         have RY := Lib.hid hr2
         have KY := Lib.hid (KX.out.trans hk2 (fun _ _ h => h))))
  all_goals go_wp2_with fail
  all_goals
    have ng2 : ¬ g = gr := fun e => nr e.symm
    have hcr : cellsAt (w2.setRow gr #[.int .i64 R.1.s, .int .i64 R.1.i, .int .i64 R.1.g]) gr 0 3 = some (namC R.1) := by rw [cellsAt_setRow_at _ _ _ _ _ hS2.2.1]; rfl
    have hF : Hid (RdrAt (w2.setRow gr #[.int .i64 R.1.s, .int .i64 R.1.i, .int .i64 R.1.g]) g R.2 ∧ Keeps (Own g) w (w2.setRow gr #[.int .i64 R.1.s, .int .i64 R.1.i, .int .i64 R.1.g])) := Lib.hid ⟨RY.out.kept ((Keeps.refl (S := Own gr) w2).setRow (fun _ => (rfl : gr = gr)) _) ng2, KY.out.setRow (fun h => absurd h (Nat.not_lt.2 HG.out)) _⟩
    refine bodyPost_ret (v := namV R.1) ?_ rfl ⟨rfl, hF.out.1, hF.out.2⟩
    clear hS0 hS1 hS2 or sr cx
    simp [results, Tryz.results51, go_sem, hcr]
end Go.Proofs.YtndjnkjcfdaegaaGreatDoor

/-
  codec.numbers: an iterator over the numbers of an entity's components. No conditions of its own.
-/
namespace Go.Proofs.YtndjnkjcfdaegaaGreatDoor
open Go.RowKit Go.Shelf Go.Sort Go.Joins Go.Deep
attribute [local go_sem] Oper.semAt_some

def IsNb (u : TypeId) : Prop := u = 236 ∨ u = 285
/-- what a round must keep: the iterator's own boxes, and the masks of entities -/
structure KpN (A B : World) : Prop where
  os : B.os = A.os
  tape : B.tape = A.tape
  output : B.output = A.output
  size : A.heap.size ≤ B.heap.size
  own : ∀ (k : Nat) (D : Array Value) (u : TypeId) (o : Nat × Nat), A.heap[k]? = some (Obj.cells D u o) → IsNb u → B.heap[k]? = A.heap[k]?
  mask : ∀ (k : Nat) (D : Array Value) (o : Nat × Nat), A.heap[k]? = some (Obj.cells D 38 o) → B.cell? ⟨k, 3, none⟩ = A.cell? ⟨k, 3, none⟩ ∧ ∃ D', B.heap[k]? = some (Obj.cells D' 38 o)
theorem KpN.refl (A : World) : KpN A A := ⟨rfl, rfl, rfl, Nat.le_refl _, fun _ _ _ _ _ _ => rfl, fun _ D _ h => ⟨rfl, D, h⟩⟩
theorem KpN.trans {A B C : World} (h : KpN A B) (k : KpN B C) : KpN A C :=
  ⟨k.os.trans h.os, k.tape.trans h.tape, k.output.trans h.output, Nat.le_trans h.size k.size, fun i D u o hi hu => (k.own i D u o ((h.own i D u o hi hu).trans hi) hu).trans (h.own i D u o hi hu), fun i D o hi => by
    obtain ⟨h1, D', h2⟩ := h.mask i D o hi
    obtain ⟨h3, h4⟩ := k.mask i D' o h2
    exact ⟨h3.trans h1, h4⟩⟩
theorem KpN.put (W : World) (l : Nat) (o o' : Obj) (h : W.heap[l]? = some o) (hc : o.isCells = false) (_ : o.isWalk = false) : KpN W (W.putObj l o') :=
  have g := grownBy_putObj' W l o'
  have ne : ∀ (k : Nat) (D : Array Value) (u : TypeId) (o2 : Nat × Nat), W.heap[k]? = some (Obj.cells D u o2) → k ≠ l := fun k D u o2 hk e => by
    subst e
    rw [h] at hk
    cases hk
    cases hc
  ⟨g.os, g.tape, g.output, g.size, fun k D u o2 hk _ => World.putObj_heap_other (ne k D u o2 hk), fun k D o2 hk => by
    have e := World.putObj_heap_other (w := W) (o := o') (ne k D _ o2 hk)
    exact ⟨World.cell?_of_block (w := W) e, D, e.trans hk⟩⟩
def nl : List (Int × Nat) := [(1, 4), (1, 5), (2, 6), (2, 7), (4, 8), (8, 9), (16, 10)]
def offsOf (m : Int) : List Nat := (nl.filter fun p => hasB m p.1).map (·.2)
def offEnc (gb : Nat) (x : Nat) : Array Value := #[.pointer (some ⟨gb, x, none⟩)]
/-- what the iterator needs -/
structure ItN (gB gb : Nat) (m : Int) (W : World) : Prop where
  box : W.heap[gB]? = some (.cells #[dP gb] 236 (0, 0))
  cell : W.cell? ⟨gb, 3, none⟩ = some (.int .i64 m)
  bund : ∃ D o, W.heap[gb]? = some (.cells D 38 o)
theorem ItN.no {gB gb : Nat} {m : Int} {A B : World} (h : ItN gB gb m A) (k : Keeps No A B) : ItN gB gb m B := by
  obtain ⟨D, o, hb⟩ := h.bund
  exact ⟨k.heap h.box (fun h => h), k.cell h.cell (fun h => h), D, o, k.heap hb (fun h => h)⟩
theorem ItN.kp {gB gb : Nat} {m : Int} {A B : World} (h : ItN gB gb m A) (k : KpN A B) : ItN gB gb m B := by
  obtain ⟨D, o, hb⟩ := h.bund
  obtain ⟨h1, D', h2⟩ := k.mask gb D o hb
  exact ⟨(k.own gB _ _ _ h.box (.inl rfl)).trans h.box, h1.trans h.cell, D', o, h2⟩
theorem numbers_any (w : World) (gb : Nat) : Calls Tryz.prog 147 #[dP gb] w fun e w' => e = .returned (.func (.func 197) #[] #[.pointer (some ⟨w.heap.size, 0, none⟩)]) ∧ w' = w.alloc (.cells #[dP gb] 236) := by
  go_enter Tryz.func147, Tryz.ntmps147
  go_wp2
  go_ret
  exact ⟨rfl, rfl⟩
theorem nl_spelled (m : Int) (k : Nat) (hk : k < nl.length) : bits .and .i64 m nl[k].1 = (bif hasB m nl[k].1 then nl[k].1 else 0) ∧ (nl[k].1 != 0) = true := by
  obtain ⟨h1, h2, h4, h8, h16⟩ := has_spelled m
  match k, hk with
  | 0, _ => exact ⟨h1, rfl⟩
  | 1, _ => exact ⟨h1, rfl⟩
  | 2, _ => exact ⟨h2, rfl⟩
  | 3, _ => exact ⟨h2, rfl⟩
  | 4, _ => exact ⟨h4, rfl⟩
  | 5, _ => exact ⟨h8, rfl⟩
  | 6, _ => exact ⟨h16, rfl⟩
/-- the table's cells -/
def rowN (gb : Nat) : List Value := [.int .i64 1, .pointer (some ⟨gb, 4, none⟩), .int .i64 1, .pointer (some ⟨gb, 5, none⟩), .int .i64 2, .pointer (some ⟨gb, 6, none⟩), .int .i64 2, .pointer (some ⟨gb, 7, none⟩), .int .i64 4, .pointer (some ⟨gb, 8, none⟩), .int .i64 8, .pointer (some ⟨gb, 9, none⟩), .int .i64 16, .pointer (some ⟨gb, 10, none⟩)]
theorem rowN_at (gb k : Nat) (hk : k < nl.length) : ((rowN gb).drop (k * 2)).take 2 = [.int .i64 nl[k].1, .pointer (some ⟨gb, nl[k].2, none⟩)] := by
  match k, hk with
  | 0, _ => rfl
  | 1, _ => rfl
  | 2, _ => rfl
  | 3, _ => rfl
  | 4, _ => rfl
  | 5, _ => rfl
  | 6, _ => rfl
def YPost (W : World) (J Jx : List Nat → World → Prop) (pre : List Nat) (e : Ending) (W' : World) : Prop := ∃ b : Bool, e = .returned (.bool b) ∧ ((b = true ∧ J pre W' ∧ KpN W W') ∨ (b = false ∧ Jx pre W'))
set_option maxRecDepth 100000 in
set_option maxHeartbeats 8000000 in
theorem numbers1_in (n : Nat) (hn1 : 1 ≤ n) (l gB gb : Nat) (m : Int) (J Jx : List Nat → World → Prop)
    (hJ : ∀ pre A B, J pre A → Keeps No A B → J pre B)
    (hY : ∀ pre x W, J pre W → pre.length < 7 → pre ++ [x] <+: offsOf m → YieldAt Fence.wide (n - 1) Tryz.prog l (offEnc gb x) W fun e W' => (e = .returned (.bool true) ∧ J (pre ++ [x]) W' ∧ KpN W W') ∨ (e = .returned (.bool false) ∧ Jx (pre ++ [x]) W'))
    (W : World) (hit : ItN gB gb m W) (h0 : J [] W) :
    CallsIn Fence.wide n Tryz.prog 197 #[.func (.yield l) #[] #[], .pointer (some ⟨gB, 0, none⟩)] W fun e W' => (∃ v, e = .returned v) ∧ (J (offsOf m) W' ∨ ∃ pre, Jx pre W') := by
  have HY := Lib.hid hY
  have HJ := Lib.hid hJ
  have HI := Lib.hid hit
  have hb0 : W.cell? ⟨gB, 0, none⟩ = some (dP gb) := by rw [cell_of_row W gB 0 _ _ _ hit.box]; rfl
  have lb : gB < W.heap.size := (Array.getElem?_eq_some_iff.1 hit.box).1
  clear hY hJ hit
  refine callsIn_of_wp Tryz.func197 rfl trivial ?_ rfl
  simp only [Tryz.ntmps197, List.size_toArray, List.length_cons, List.length_nil, Nat.reduceAdd, Nat.reduceSub, Array.replicate_succ, Array.replicate_zero, List.push_toArray, List.append_toArray, List.nil_append, List.cons_append]
  refine (wpIn_wide (n := n)).2 ?_
  have LB : ∀ w', Keeps No W w' → w'.cell? ⟨gB, 0, none⟩ = some (dP gb) := fun w' k => k.cell hb0 (fun h => h)
  go_wp2
  go_region_held3 (fun w' => Keeps No W w')
    (first | exact (Keeps.refl W).drew | exact ((Keeps.refl W).alloc _).drew) (fail)
  go_wp2
  refine wp_world ?_
  intro W1 hW1
  have K1 : Hid (Keeps No W W1) := Lib.hid (by rw [hW1]; exact ((Keeps.refl W).alloc _).drew)
  have R1 : Hid (W1.heap[W.heap.size]? = some (.cells (rowN gb).toArray 285 (0, 0))) := Lib.hid (by rw [hW1]; exact heap_alloc_new W _)
  obtain ⟨g, hg⟩ : ∃ g, g = W.heap.size := ⟨_, rfl⟩
  rw [← hg] at R1 ⊢
  have J1 := Lib.hid (HJ.out _ _ _ h0 K1.out)
  have I1 := Lib.hid (HI.out.no K1.out)
  clear hW1 hg hb0 lb LB K1 HI h0
  refine (wpIn_wide (n := n)).1 ?_
  gi_loopw [35] (fun q wr => ∃ (k : Nat) (pre : List Nat), k ≤ 7 ∧ q = .int .i64 k ∧ pre = ((nl.take k).filter fun p => hasB m p.1).map (·.2) ∧ J pre wr ∧ ItN gB gb m wr ∧ wr.heap[g]? = some (.cells (rowN gb).toArray 285 (0, 0))) (fun q _ => 7 - (intOf q).toNat)
  case atStart => exact ⟨0, [], Nat.zero_le _, rfl, rfl, J1.out, I1.out, R1.out⟩
  case round =>
    obtain ⟨k, pre, hk7, rfl, hpre, hJ0, hI0, hR0⟩ := hrel
    have P0 := Lib.hid hpre
    have J0 := Lib.hid hJ0
    have I0 := Lib.hid hI0
    have R0 := Lib.hid hR0
    have hk0 : (0 : Int) ≤ (k : Int) := by omega
    clear hpre hJ0 hI0 hR0
    by_cases hlt : k < 7
    · have hlti : (k : Int) < 7 := by omega
      have hkl : k < nl.length := hlt
      obtain ⟨hsp, hne⟩ := nl_spelled m k hkl
      have crow : cellsAt wr g (k * 2) 2 = some [.int .i64 nl[k].1, .pointer (some ⟨gb, nl[k].2, none⟩)] := by
        rw [← rowN_at gb k hkl]
        unfold cellsAt
        rw [R0.out]
        have : k * 2 + 2 ≤ (rowN gb).toArray.size := by simp [rowN]; omega
        simp only [this, if_true]
      have HT : Hid (((nl.take (k + 1)).filter fun p => hasB m p.1).map (·.2) = pre ++ (bif hasB m nl[k].1 then [nl[k].2] else [])) := Lib.hid (by
        rw [List.take_succ_eq_append_getElem hkl, List.filter_append, List.map_append, ← P0.out]
        cases hb : hasB m nl[k].1 <;> simp [hb])
      have HPF : Hid (((nl.take (k + 1)).filter fun p => hasB m p.1).map (·.2) <+: offsOf m) := Lib.hid (by
        unfold offsOf
        exact ((List.take_prefix (k + 1) nl).filter _).map _)
      have HPL : Hid (pre.length ≤ k) := Lib.hid (by
        rw [P0.out, List.length_map]
        have := List.length_filter_le (fun p : Int × Nat => hasB m p.1) (nl.take k)
        rw [List.length_take] at this
        omega)
      obtain ⟨bit, hbit⟩ : ∃ x, x = nl[k].1 := ⟨_, rfl⟩
      obtain ⟨off, hoff⟩ : ∃ x, x = nl[k].2 := ⟨_, rfl⟩
      rw [← hbit] at hsp hne crow HT
      rw [← hoff] at crow HT
      obtain ⟨b, hb⟩ : ∃ x, x = hasB m bit := ⟨_, rfl⟩
      rw [← hb] at hsp HT
      have xb : wr.cell? ⟨gB, 0, none⟩ = some (dP gb) := by rw [cell_of_row wr gB 0 _ _ _ I0.out.box]; rfl
      have xm := I0.out.cell
      have lb1 : gB < wr.heap.size := (Array.getElem?_eq_some_iff.1 I0.out.box).1
      have lb2 : gb < wr.heap.size := block_lt_of_cell xm
      have lb3 : g < wr.heap.size := (Array.getElem?_eq_some_iff.1 R0.out).1
      clear hbit hoff hb
      cases b with
      | false =>
        have hz : bits .and .i64 m bit = 0 := hsp
        clear hsp
        have K2 : Hid (Keeps No wr (wr.alloc (.cells #[.int .i64 bit, .pointer (some ⟨gb, off, none⟩)] 285)).drew) := Lib.hid ((Keeps.refl wr).alloc _).drew
        gi_wp2
        refine (wpIn_wide (n := n)).2 ?_
        go_quiet (fail)
        have K3 : Hid (Keeps No wr ((wr.alloc (.cells #[.int .i64 bit, .pointer (some ⟨gb, off, none⟩)] 285)).drewN nq)) := Lib.hid (((Keeps.refl wr).alloc _).drewN _)
        have PN : Hid (pre = ((nl.take (k + 1)).filter fun p => hasB m p.1).map (·.2)) := Lib.hid (by rw [HT.out]; simp)
        gi_wp2
        go_roundw
        case rel => exact ⟨k + 1, pre, by omega, by go_num, PN.out, HJ.out _ _ _ J0.out K3.out, I0.out.no K3.out, K3.out.heap R0.out (fun h => h)⟩
        case measure => simp [intOf]; omega
      | true =>
        have hz : bits .and .i64 m bit = bit := hsp
        clear hsp
        have K2 : Hid (Keeps No wr (wr.alloc (.cells #[.int .i64 bit, .pointer (some ⟨gb, off, none⟩)] 285)).drew) := Lib.hid ((Keeps.refl wr).alloc _).drew
        obtain ⟨fn, tmps, assign, body, hy, hR⟩ := HY.out pre off _ (HJ.out _ _ _ J0.out K2.out) (by have := HPL.out; omega) (by
          have h1 := HPF.out
          rw [HT.out] at h1
          exact h1)
        have HR2 := Lib.hid (hR.mono (R' := YPost (wr.alloc (.cells #[.int .i64 bit, .pointer (some ⟨gb, off, none⟩)] 285)).drew J Jx (pre ++ [off])) (fun e W' h => by
          rcases h with ⟨he, h1, h2⟩ | ⟨he, h1⟩
          · exact ⟨true, he, .inl ⟨rfl, h1, h2⟩⟩
          · exact ⟨false, he, .inr ⟨rfl, h1⟩⟩))
        unfold offEnc at hy
        clear hR
        gi_wp2
        gi_region_with ((refine HR2.out.mono ?_; rintro e W3 ⟨b, rfl, hpost⟩))
        all_goals
          have PN : Hid (pre ++ [off] = ((nl.take (k + 1)).filter fun p => hasB m p.1).map (·.2)) := Lib.hid (by rw [HT.out]; rfl)
          rcases hpost with ⟨rfl, hj3, hk3⟩ | ⟨rfl, hx3⟩
          · have J3 := Lib.hid hj3
            have I3 := Lib.hid ((I0.out.no K2.out).kp hk3)
            have R3 := Lib.hid ((hk3.own g _ _ _ (K2.out.heap R0.out (fun h => h)) (.inr rfl)).trans (K2.out.heap R0.out (fun h => h)))
            clear hy hj3 hk3 xb xm lb1 lb2 lb3 crow
            gi_wp2
            go_roundw
            case rel => exact ⟨k + 1, _, by omega, by go_num, PN.out, J3.out, I3.out, R3.out⟩
            case measure => simp [intOf]; omega
          · have X3 := Lib.hid hx3
            clear hy hx3 xb xm lb1 lb2 lb3 crow
            gi_wp2
            refine bodyPost_ret (results_none rfl _ _ _) rfl ?_
            exact ⟨⟨_, rfl⟩, .inr ⟨_, X3.out⟩⟩
    · have hk : k = 7 := by omega
      subst hk
      have hlti : ¬ ((7 : Int) < 7) := by omega
      have JF : Hid (J (offsOf m) wr) := Lib.hid (by
        have h1 := P0.out
        rw [List.take_of_length_le (by decide)] at h1
        have h2 := J0.out
        rw [h1] at h2
        exact h2)
      gi_wp2
      refine bodyPost_end (results_none rfl _ _ _) rfl ?_
      exact ⟨⟨_, rfl⟩, .inl JF.out⟩
end Go.Proofs.YtndjnkjcfdaegaaGreatDoor

/-
  codec.put: an entity's components, put. No conditions of its own.
-/
namespace Go.Proofs.YtndjnkjcfdaegaaGreatDoor
open Go.RowKit Go.Shelf Go.Sort Go.Joins Go.Deep
attribute [local go_sem] Oper.semAt_some

section
variable {F : Fence} {n : Nat} {P : Program}
/-- a range over an iterator of one, whose variable lies in a slot -/
theorem range_one {α : Type} {g : Operand} {p1 : Tmp} {assign body : Code} {Q : Exit → Act → World → Prop} {T : Array Value} {w : World}
    (hro : F.round = none) (h1 : 1 ≤ n) {gf : Nat} {lb : Array Value} (hg : Act.eval ⟨T, []⟩ g = .func (.func gf) #[] lb) (hFg : F.fn gf) (eg : ∀ args w, (callFunc gf args).run P w = .ok (.enter gf args) w)
    {e1 : α → Value} {Kp : World → World → Prop} {S Sp : List α → Prop} {N : Nat} (hseq : SeqStopsK F (n - 1) P gf lb (fun x => #[e1 x]) Kp S Sp N w)
    (hKt : ∀ {A B C : World}, Kp A B → Kp B C → Kp A C) (hKb : ∀ (W : World) (l : Nat) (o o' : Obj), w.heap.size ≤ l → W.heap[l]? = some o → o.isCells = false → o.isWalk = false → Kp W (W.putObj l o'))
    (I : List α → World → Prop) (hI : OwnFrom w.heap.size I) (h0 : I [] w) (d : Nat) (v : α → Value)
    (hassign : ∀ (l : Nat) (x : α) (W : World) (K : Act → World → Prop), K ⟨(T.setIfInBounds p1 (e1 x)).setIfInBounds d (v x), []⟩ W →
      assign.wpIn (F.inRound l) (n - 1 - 1) P (Exit.then K (fun _ _ _ => False)) ⟨T.setIfInBounds p1 (e1 x), []⟩ W)
    (hbody : ∀ (l : Nat) (pre : List α) (x : α) (W : World), I pre W → pre.length < N → body.wpIn (F.inRound l) (n - 1 - 1) P (ownPostG w.heap.size Kp I (fun _ _ _ => False) (pre ++ [x]) W) ⟨(T.setIfInBounds p1 (e1 x)).setIfInBounds d (v x), []⟩ W)
    (hdone : ∀ (D : Nat) (xs : List α) (W : World), w.heap.size ≤ D → S xs → I xs W → W.heap[D]? = some (.deferred (some [])) → Q .normal ⟨T, [{ target := .collected D, args := #[] }]⟩ W) :
    (Code.rangeFunc g #[p1] assign body).wpIn F n P Q ⟨T, []⟩ w :=
  wpIn_rangeFunc_ownG hro h1 hg hFg eg hseq hKt hKb (Below.refl _ _) (fun _ => rfl) I (fun _ _ _ => False) hI (fun _ _ _ _ _ hs _ _ => hs) h0 _ (fun l x W K hK => by simpa using hassign l x W K hK) hbody
    (fun D xs W h1 h2 h3 h4 => hdone D xs W h1 h2 h3 h4) (fun _ _ _ _ _ _ h _ => h.elim)
end
/-- a component's number, by its place in the entity -/
def fldN (b : Bd) : Nat → Int
  | 4 => b.x
  | 5 => b.y
  | 6 => b.vx
  | 7 => b.vy
  | 8 => b.hp
  | 9 => b.pw
  | 10 => b.lf
  | _ => 0
abbrev Fl := Fin 7
def offV (x : Fl) : Nat := 4 + x.1
theorem fld_cell (b : Bd) (x : Fl) : (bdC b)[offV x]? = some (.int .i64 (fldN b (offV x))) := by
  match x with
  | 0 => rfl
  | 1 => rfl
  | 2 => rfl
  | 3 => rfl
  | 4 => rfl
  | 5 => rfl
  | 6 => rfl
theorem put_flat (b : Bd) : layI b.m ++ (offsOf b.m).flatMap (fun o => layI (fldN b o)) = putRest b := by
  unfold putRest putIf offsOf nl
  cases h1 : hasB b.m 1 <;> cases h2 : hasB b.m 2 <;> cases h4 : hasB b.m 4 <;> cases h8 : hasB b.m 8 <;> cases h16 : hasB b.m 16 <;> simp [List.filter, h1, h2, h4, h8, h16, fldN]
theorem fld_ok {b : Bd} (h : rightBd b = true) : i64 b.m ∧ ∀ o, i64 (fldN b o) := by
  unfold rightBd at h
  simp only [Bool.and_eq_true] at h
  obtain ⟨h1, h2, h3, h4, h5, h6, h7, h8⟩ := h
  refine ⟨okI_i64 h1, fun o => ?_⟩
  unfold fldN
  split
  · exact (inB_i64 h2).1
  · exact (inB_i64 h3).1
  · exact (inB_i64 h4).1
  · exact (inB_i64 h5).1
  · exact (inB_i64 h6).1
  · exact (inB_i64 h7).1
  · exact (inB_i64 h8).1
  · exact ⟨by omega, by omega⟩
theorem numbers_stops (w2 : World) (gB gb : Nat) (m : Int) (hit : ItN gB gb m w2) :
    SeqStopsK Fence.wide (8 - 1) Tryz.prog 197 #[.pointer (some ⟨gB, 0, none⟩)] (fun x : Fl => #[.pointer (some ⟨gb, offV x, none⟩)]) KpN (fun xs => xs.map offV = offsOf m) (fun _ => True) 7 w2 := fun l J Jx W hW hJ _ hY h0 => by
  have hk : Keeps No w2 W := ⟨hW.os, hW.tape, hW.output, hW.size, fun k hk _ => hW.block k hk⟩
  refine (numbers1_in (8 - 1) (by decide) l gB gb m (fun pre W => ∃ ys : List Fl, pre = ys.map offV ∧ J ys W) (fun pre W => ∃ ys : List Fl, Jx ys W) ?_ ?_ W (hit.no hk) ⟨[], rfl, h0⟩).mono ?_
  · rintro pre A B ⟨ys, h1, h2⟩ k
    exact ⟨ys, h1, hJ ys A B none h2 ⟨k.os, k.tape, k.output, k.size, fun i hi _ => k.block i hi (fun h => h)⟩ (fun r e => by cases e)⟩
  · rintro pre x W ⟨ys, rfl, h2⟩ hlt hpf
    have hx : x ∈ offsOf m := hpf.subset (by simp)
    have hx2 : 4 ≤ x ∧ x ≤ 10 := by
      unfold offsOf at hx
      obtain ⟨p, hp, rfl⟩ := List.mem_map.1 hx
      have hp2 := (List.mem_filter.1 hp).1
      simp only [nl, List.mem_cons, List.not_mem_nil, or_false] at hp2
      rcases hp2 with rfl | rfl | rfl | rfl | rfl | rfl | rfl <;> simp
    obtain ⟨i, rfl⟩ : ∃ i : Fl, x = offV i := ⟨⟨x - 4, by omega⟩, by simp [offV]; omega⟩
    obtain ⟨fn, tmps, assign, body, hy, hR⟩ := hY ys i W h2 (by rw [List.length_map] at hlt; exact hlt)
    refine ⟨fn, tmps, assign, body, hy, hR.mono ?_⟩
    rintro e W' (⟨he, h3, h4⟩ | ⟨he, h3⟩)
    · exact .inl ⟨he, ⟨ys ++ [i], by simp, h3⟩, h4⟩
    · exact .inr ⟨he, _, h3⟩
  · rintro e W' ⟨hv, ⟨ys, h1, h2⟩ | ⟨pre, ys, h⟩⟩
    · exact ⟨hv, .inl ⟨ys, h1.symm, h2⟩⟩
    · exact ⟨hv, .inr ⟨ys, trivial, h⟩⟩
theorem toB_append (a b : Nm) : toB a ++ toB b = toB (a ++ b) := by
  apply bytes_of
  simp [toB, ByteArray.data_append]
theorem cat_run (W : World) (a b : Nm) (ha : a.length ≤ 1000000) (hb : b.length ≤ 1000000) : (Op.stringOp .add (toB a) (toB b)).run Tryz.prog W = .ok (.string (toB (a ++ b))) W := by
  rw [← toB_append]
  exact run_string_add_sum W _ _ (by rw [toB_size, toB_size]; omega)
theorem flat_le (b : Bd) (l : List Nat) : (l.flatMap (fun o => layI (fldN b o))).length ≤ l.length * 9 := by
  induction l with
  | nil => simp
  | cons o l ih =>
    have := layI_le (fldN b o)
    rw [List.flatMap_cons, List.length_append, List.length_cons]
    omega
def putAcc (b : Bd) (pre : List Fl) : Nm := layI b.m ++ (pre.map offV).flatMap (fun o => layI (fldN b o))
theorem putAcc_snoc (b : Bd) (pre : List Fl) (x : Fl) : putAcc b (pre ++ [x]) = putAcc b pre ++ layI (fldN b (offV x)) := by simp [putAcc]
theorem putAcc_le (b : Bd) (pre : List Fl) (h : pre.length < 7) : (putAcc b pre).length ≤ 100 := by
  have h1 := flat_le b (pre.map offV)
  have h2 := layI_le b.m
  rw [List.length_map] at h1
  unfold putAcc
  rw [List.length_append]
  omega
theorem KpN.ofOwn {g : Nat} {A B : World} {C : Array Value} {t : TypeId} {o : Nat × Nat} (k : Keeps (Own g) A B) (h : A.heap[g]? = some (.cells C t o)) (h1 : ¬ IsNb t) (h2 : t ≠ 38) : KpN A B :=
  ⟨k.os, k.tape, k.output, k.size, fun i D u o2 hi hu => k.block i (Array.getElem?_eq_some_iff.1 hi).1 (fun e => by
    have e : i = g := e
    subst e
    rw [h] at hi
    cases hi
    exact h1 hu), fun i D o2 hi => by
    have hne : ¬ i = g := fun e => by
      subst e
      rw [h] at hi
      cases hi
      exact h2 rfl
    have e := k.block i (Array.getElem?_eq_some_iff.1 hi).1 hne
    exact ⟨World.cell?_of_block (w := A) e, D, e.trans hi⟩⟩
theorem own_grown {gs : Nat} {w2 W W' : World} {row : Option Nat} (h : Keeps (Own gs) w2 W) (hg : W.grownBy W' row) (hr : ∀ r, row = some r → w2.heap.size ≤ r) : Keeps (Own gs) w2 W' :=
  h.trans ((Keeps.refl (S := fun i => row = some i) W).grown hg (fun k e _ => e)) (fun i hi e => by have := hr i e; omega)
theorem heap_grown {g : Nat} {W W' : World} {row : Option Nat} {C : Array Value} {t : TypeId} {o : Nat × Nat} (h : W.heap[g]? = some (.cells C t o)) (hg : W.grownBy W' row) (hr : ∀ r, row = some r → ∃ o, W.heap[r]? = some o ∧ o.isCells = false) : W'.heap[g]? = some (.cells C t o) :=
  (hg.block g (Array.getElem?_eq_some_iff.1 h).1 (fun e => by
    obtain ⟨o2, ho, hc⟩ := hr g e.symm
    rw [h] at ho
    cases ho
    cases hc)).trans h
theorem keepsFrom_own {g D : Nat} {A B : World} {C : Array Value} {t : TypeId} {o : Nat × Nat} (k : Keeps (Own g) A B) (h : A.heap[g]? = some (.cells C t o)) : KeepsFrom D A B :=
  ⟨k.size, fun i ob _ hk hc => (k.block i (Array.getElem?_eq_some_iff.1 hk).1 (fun e => by
    have e : i = g := e
    subst e
    rw [h] at hk
    cases hk
    cases hc)).trans hk⟩
theorem octInt1 (W : World) (n : Int) (hn : i64 n) : Calls Tryz.prog 102 #[.slice (some ⟨W.heap.size, 0, none⟩) 1 1] (W.alloc (.cells #[.int .i64 n] 3)) fun e w' => e = .returned (.string (toB (layI n))) ∧ Keeps No (W.alloc (.cells #[.int .i64 n] 3)) w' := by
  have h := octInt_any _ _ [n] (RdZ.lit W [n] 3 (by simp)) (by simp) (by intro x hx; rw [List.mem_singleton] at hx; rw [hx]; exact hn)
  refine Calls.mono h ?_
  rintro e w' ⟨rfl, hk⟩
  exact ⟨by simp [bytesZ]; rfl, hk⟩
theorem octInt2 (W : World) (n m : Int) (hn : i64 n) (hm : i64 m) : Calls Tryz.prog 102 #[.slice (some ⟨W.heap.size, 0, none⟩) 2 2] (W.alloc (.cells #[.int .i64 n, .int .i64 m] 3)) fun e w' => e = .returned (.string (toB (layI n ++ layI m))) ∧ Keeps No (W.alloc (.cells #[.int .i64 n, .int .i64 m] 3)) w' := by
  have h := octInt_any _ _ [n, m] (RdZ.lit W [n, m] 3 (by simp)) (by simp) (by intro x hx; simp only [List.mem_cons, List.not_mem_nil, or_false] at hx; rcases hx with rfl | rfl; exact hn; exact hm)
  refine Calls.mono h ?_
  rintro e w' ⟨rfl, hk⟩
  exact ⟨by simp [bytesZ]; rfl, hk⟩
set_option maxRecDepth 100000 in
set_option maxHeartbeats 8000000 in
theorem putRest_any (w : World) (b : Bd) (hok : rightBd b = true) : Calls Tryz.prog 154 #[bdV b] w fun e w' => e = .returned (strB (putRest b)) ∧ Keeps No w w' := by
  obtain ⟨hm, hf⟩ := fld_ok hok
  have HF := Lib.hid hf
  have HM := Lib.hid hm
  obtain ⟨R, hR⟩ : ∃ x, x = strB (putRest b) := ⟨_, rfl⟩
  rw [← hR]
  have HR := Lib.hid hR
  clear hok hm hf hR
  refine (callsIn_wide (n := 8)).1 ?_
  refine callsIn_of_wp_marks Tryz.func154 rfl trivial ?_ rfl
  refine (wpIn_wide (n := 8)).2 ?_
  simp only [Tryz.ntmps154, List.size_toArray, List.length_cons, List.length_nil, Nat.reduceAdd, Nat.reduceSub, Array.replicate_succ, Array.replicate_zero, List.push_toArray, List.append_toArray, List.nil_append, List.cons_append]
  go_upto_region 1 with fail
  refine wp_world ?_
  intro W0 hW0
  have B0 : Hid (W0.heap[w.heap.size]? = some (.cells (bdC b).toArray 38 (0, 0))) := Lib.hid (by rw [hW0]; exact heap_alloc_new w _)
  have K0 : Hid (Keeps No w W0) := Lib.hid (by rw [hW0]; exact (Keeps.refl w).alloc _)
  obtain ⟨gb, hgb⟩ : ∃ q, q = w.heap.size := ⟨_, rfl⟩
  rw [← hgb] at B0 ⊢
  have HGB := Lib.hid hgb
  clear hW0 hgb
  have c3 : W0.cell? ⟨gb, 3, none⟩ = some (.int .i64 b.m) := by rw [cell_of_row _ _ _ _ _ _ B0.out]; rfl
  go_wp2_with fail
  (with_reducible refine (octInt1 W0 b.m HM.out).mono ?_)
  rintro e w1 ⟨rfl, hk1⟩
  have B1 : Hid (w1.heap[gb]? = some (.cells (bdC b).toArray 38 (0, 0))) := Lib.hid (hk1.heap (((Keeps.refl (S := No) W0).alloc _).heap B0.out (fun h => h)) (fun h => h))
  have K1 : Hid (Keeps No w w1) := Lib.hid ((K0.out.alloc _).trans hk1 (fun _ _ h => h))
  have hz : gb < w1.heap.size := (Array.getElem?_eq_some_iff.1 B1.out).1
  clear hk1 c3 K0 B0
  go_wp2_with fail
  (with_reducible refine (numbers_any _ _).mono ?_)
  rintro e w2 ⟨rfl, hw2⟩
  have S2 : Hid (w2.heap[w1.heap.size]? = some (.cells #[.string (toB (layI b.m))] 9 (0, 0))) := Lib.hid (by rw [hw2]; exact ((Keeps.refl (S := No) _).alloc _).heap (heap_alloc_new w1 _) (fun h => h))
  have B2 : Hid (w2.heap[gb]? = some (.cells (bdC b).toArray 38 (0, 0))) := Lib.hid (by rw [hw2]; exact (((Keeps.refl (S := No) w1).alloc _).alloc _).heap B1.out (fun h => h))
  have K2 : Hid (Keeps No w w2) := Lib.hid (by rw [hw2]; exact (K1.out.alloc _).alloc _)
  have I2 : Hid (ItN (w1.alloc (.cells #[.string (toB (layI b.m))] 9)).heap.size gb b.m w2) := Lib.hid ⟨by rw [hw2]; exact heap_alloc_new _ _, by rw [cell_of_row _ _ _ _ _ _ B2.out]; rfl, _, _, B2.out⟩
  obtain ⟨gB, hgB⟩ : ∃ q, q = (w1.alloc (.cells #[.string (toB (layI b.m))] 9)).heap.size := ⟨_, rfl⟩
  obtain ⟨gs, hgs⟩ : ∃ q, q = w1.heap.size := ⟨_, rfl⟩
  have HG : Hid (w.heap.size ≤ gs ∧ gb ≠ gs) := Lib.hid ⟨by have := HGB.out; omega, by omega⟩
  rw [← hgB] at I2 ⊢
  rw [← hgs] at S2 ⊢
  have HIT := Lib.hid (numbers_stops w2 gB gb b.m I2.out)
  clear hw2 hgB hgs hz B1 K1
  go_wp2_with fail
  refine (wpIn_wide (n := 8)).1 ?_
  refine range_one (α := Fl) (e1 := fun x => .pointer (some ⟨gb, offV x, none⟩)) (Kp := KpN) (n := 8) rfl (by decide) rfl trivial (enters_of Tryz.func197 (by kernel_rfl) rfl)
    HIT.out (fun h k => h.trans k) (fun W l o o' h1 h2 h3 h4 => KpN.put W l o o' h2 h3 h4)
    (fun pre W => W.heap[gs]? = some (.cells #[.string (toB (putAcc b pre))] 9 (0, 0)) ∧ W.heap[gb]? = some (.cells (bdC b).toArray 38 (0, 0)) ∧ Keeps (Own gs) w2 W) ?own ?start 4 (fun x => .pointer (some ⟨gb, offV x, none⟩)) ?assign ?body ?done
  case own =>
    rintro pre W W' row ⟨h1, h2, h3⟩ hg hr
    exact ⟨heap_grown h1 hg (fun r e => (hr r e).2), heap_grown h2 hg (fun r e => (hr r e).2), own_grown h3 hg (fun r e => (hr r e).1)⟩
  case start => exact ⟨by have h := S2.out; rw [h]; simp [putAcc], B2.out, Keeps.refl _⟩
  case assign =>
    intro l x W K hK
    have HKK := Lib.hid hK
    clear hK
    simp only [List.setIfInBounds_toArray, List.set_cons_zero, List.set_cons_succ]
    gi_wp2
    exact HKK.out
  case body =>
    rintro lq pre x W ⟨h1, h2, h3⟩ hlt
    have HS := Lib.hid h1
    have HB := Lib.hid h2
    have HK := Lib.hid h3
    have hle := putAcc_le b pre hlt
    have hsn := putAcc_snoc b pre x
    obtain ⟨o, ho⟩ : ∃ o, o = offV x := ⟨_, rfl⟩
    have cx : W.cell? ⟨gb, o, none⟩ = some (.int .i64 (fldN b o)) := by
      rw [cell_of_row _ _ _ _ _ _ h2, ho]
      exact (by simpa using fld_cell b x)
    rw [← ho] at hsn ⊢
    have Hn := Lib.hid (HF.out o)
    obtain ⟨n, hn⟩ : ∃ n, n = fldN b o := ⟨_, rfl⟩
    rw [← hn] at cx hsn Hn
    have hcat := fun W' : World => cat_run W' (putAcc b pre) (layI n) (by omega) (by have := layI_le n; omega)
    rw [← hsn] at hcat
    obtain ⟨S, hS⟩ : ∃ S, S = toB (putAcc b pre) := ⟨_, rfl⟩
    obtain ⟨S', hS'⟩ : ∃ S, S = toB (putAcc b (pre ++ [x])) := ⟨_, rfl⟩
    have HS' := Lib.hid hS'
    rw [← hS'] at hcat
    rw [← hS] at hcat h1 HS
    have c0 : W.cell? ⟨gs, 0, none⟩ = some (.string S) := by rw [cell_of_row _ _ _ _ _ _ h1]; rfl
    have f0 : W.frozen? ⟨gs, 0, none⟩ = false := frozen_of_row _ _ _ _ _ h1
    have ls : gs < W.heap.size := (Array.getElem?_eq_some_iff.1 h1).1
    have lg : gb < W.heap.size := (Array.getElem?_eq_some_iff.1 h2).1
    have CD := Lib.hid (octInt1 W.drew n Hn.out)
    have CE := Lib.hid (octInt1 W n Hn.out)
    clear h1 h2 h3 hle hsn ho hn hS hS' hlt
    gi_wp2
    gi_region_with ((refine ⟨trivial, (CallsIn.inRound lq (callsIn_wide.2 CD.out)).mono ?_⟩
                     rintro e w5 ⟨rfl, hk5⟩
                     have d5 := ((((Keeps.refl (S := No) W).drew).alloc _).trans hk5 (fun _ _ h => h))
                     have d0 := d5.cell c0 (fun h => h)
                     have dz := d5.size
                     have db := Lib.hid (d5.heap HB.out (fun h => h))
                     have ds := Lib.hid (d5.heap HS.out (fun h => h))
                     have df : w5.frozen? ⟨gs, 0, none⟩ = false := frozen_of_row _ _ _ _ _ ds.out
                     have dk := Lib.hid d5
                     clear hk5 d5))
    all_goals
      have k6 : Keeps (Own gs) W (w5.setCell ⟨gs, 0, none⟩ (.string S')) := dk.out.own.setCell (p := ⟨gs, 0, none⟩) (fun _ => (rfl : gs = gs)) _
      have FN : Hid (KeepsFrom w2.heap.size W (w5.setCell ⟨gs, 0, none⟩ (.string S')) ∧ KpN W (w5.setCell ⟨gs, 0, none⟩ (.string S')) ∧ ((w5.setCell ⟨gs, 0, none⟩ (.string S')).heap[gs]? = some (.cells #[.string (toB (putAcc b (pre ++ [x])))] 9 (0, 0)) ∧ (w5.setCell ⟨gs, 0, none⟩ (.string S')).heap[gb]? = some (.cells (bdC b).toArray 38 (0, 0)) ∧ Keeps (Own gs) w2 (w5.setCell ⟨gs, 0, none⟩ (.string S')))) := Lib.hid
        ⟨keepsFrom_own k6 HS.out, KpN.ofOwn k6 HS.out (by unfold IsNb; decide) (by decide), by rw [← HS'.out]; exact heap_setCell_at ds.out _, k6.heap HB.out (fun e => HG.out.2 e), HK.out.trans k6 (fun _ _ h => h)⟩
      clear k6 hcat d0 dz df cx c0 f0 ls lg
      gi_wp2
      exact ⟨FN.out.1, FN.out.2.1, FN.out.2.2⟩
  case done =>
    rintro q xs W hq hxs ⟨h1, h2, h3⟩ hdef
    have HX : Hid (toB (putAcc b xs) = toB (putRest b)) := Lib.hid (by unfold putAcc; rw [hxs, put_flat])
    have c0 : W.cell? ⟨gs, 0, none⟩ = some (.string (toB (putRest b))) := by rw [cell_of_row _ _ _ _ _ _ h1, HX.out]; rfl
    obtain ⟨S, hS⟩ : ∃ S, S = toB (putRest b) := ⟨_, rfl⟩
    rw [← hS] at c0
    have HS := Lib.hid hS
    have HD := Lib.hid hdef
    have KW : Hid (Keeps No w W) := Lib.hid (K2.out.trans h3 (fun i hi e => by have e : i = gs := e; have := HG.out.1; omega))
    have HQ : Hid (w.heap.size ≤ q) := Lib.hid (Nat.le_trans K2.out.size hq)
    clear h1 h2 h3 hxs hS hdef hq HX
    go_wp2_with fail
    have kF : Keeps (fun i => i = q) W (W.putObj q (.deferred none)) := (Keeps.refl W).grown (grownBy_putObj' W q _) (fun k e _ => by cases e; rfl)
    refine ⟨by simp, .inl ⟨_, _, rfl, run_takeDeferred HD.out, ?_⟩⟩
    refine ⟨_, results_tmp rfl _ _ _, ?_, KW.out.trans kF (fun i hi e => by have e : i = q := e; have := HQ.out; omega)⟩
    rw [HR.out]
    show Ending.returned (.string S) = _
    rw [HS.out]
    rfl
end Go.Proofs.YtndjnkjcfdaegaaGreatDoor

/-
  codec.take: an entity's components, taken. No conditions of its own.
-/
namespace Go.Proofs.YtndjnkjcfdaegaaGreatDoor
open Go.RowKit Go.Shelf Go.Sort Go.Joins Go.Deep
attribute [local go_sem] Oper.semAt_some

theorem heap_second (w : World) (x y : Obj) : ((w.alloc x).alloc y).heap[w.heap.size + 1]? = some y := by
  have e : (w.alloc x).heap.size = w.heap.size + 1 := by simp
  rw [← e]
  exact heap_alloc_new _ _
def setF (b : Bd) (o : Nat) (v : Int) : Bd := match o with
  | 4 => ⟨b.s, b.i, b.g, b.m, v, b.y, b.vx, b.vy, b.hp, b.pw, b.lf⟩
  | 5 => ⟨b.s, b.i, b.g, b.m, b.x, v, b.vx, b.vy, b.hp, b.pw, b.lf⟩
  | 6 => ⟨b.s, b.i, b.g, b.m, b.x, b.y, v, b.vy, b.hp, b.pw, b.lf⟩
  | 7 => ⟨b.s, b.i, b.g, b.m, b.x, b.y, b.vx, v, b.hp, b.pw, b.lf⟩
  | 8 => ⟨b.s, b.i, b.g, b.m, b.x, b.y, b.vx, b.vy, v, b.pw, b.lf⟩
  | 9 => ⟨b.s, b.i, b.g, b.m, b.x, b.y, b.vx, b.vy, b.hp, v, b.lf⟩
  | 10 => ⟨b.s, b.i, b.g, b.m, b.x, b.y, b.vx, b.vy, b.hp, b.pw, v⟩
  | _ => b
def stepF (s : Bd × Rdr) (o : Nat) : Bd × Rdr := (setF s.1 o (rdI s.2).1, (rdI s.2).2)
def takeF (m : Int) (r : Rdr) (l : List Nat) : Bd × Rdr := l.foldl stepF (⟨0, 0, 0, m, 0, 0, 0, 0, 0, 0, 0⟩, r)
theorem takeF_all (m : Int) (r : Rdr) : takeF m r (offsOf m) = restRaw m r := by
  unfold takeF restRaw offsOf nl
  cases h1 : hasB m 1 <;> cases h2 : hasB m 2 <;> cases h4 : hasB m 4 <;> cases h8 : hasB m 8 <;> cases h16 : hasB m 16 <;> simp [List.filter, h1, h2, h4, h8, h16, stepF, setF, rdIf]
theorem setF_cells (b : Bd) (x : Fl) (v : Int) : ((bdC b).toArray.setIfInBounds (offV x) (.int .i64 v)) = (bdC (setF b (offV x) v)).toArray := by
  match x with
  | 0 => rfl
  | 1 => rfl
  | 2 => rfl
  | 3 => rfl
  | 4 => rfl
  | 5 => rfl
  | 6 => rfl
theorem setF_m (b : Bd) (x : Fl) (v : Int) : (setF b (offV x) v).m = b.m := by
  match x with
  | 0 => rfl
  | 1 => rfl
  | 2 => rfl
  | 3 => rfl
  | 4 => rfl
  | 5 => rfl
  | 6 => rfl
def Two2 (g h : Nat) : Nat → Prop := fun i => i = g ∨ i = h
theorem KpN.ofTwo {g gb : Nat} {A B : World} {C D D' : Array Value} {t : TypeId} {o o' : Nat × Nat} (k : Keeps (Two2 g gb) A B) (h : A.heap[g]? = some (.cells C t o)) (h1 : ¬ IsNb t) (h2 : t ≠ 38)
    (hb : A.heap[gb]? = some (.cells D 38 o')) (hb' : B.heap[gb]? = some (.cells D' 38 o')) (hd : D'[3]? = D[3]?) : KpN A B :=
  ⟨k.os, k.tape, k.output, k.size, fun i D u o2 hi hu => k.block i (Array.getElem?_eq_some_iff.1 hi).1 (fun e => by
    rcases e with e | e
    · subst e
      rw [h] at hi
      cases hi
      exact h1 hu
    · subst e
      rw [hb] at hi
      cases hi
      revert hu
      unfold IsNb
      decide), fun i E o2 hi => by
    by_cases he : i = gb
    · subst he
      rw [hb] at hi
      cases hi
      refine ⟨?_, D', hb'⟩
      simp only [World.cell?, hb, hb', hd]
    · have hne : ¬ Two2 g gb i := fun e => by
        rcases e with e | e
        · subst e
          rw [h] at hi
          cases hi
          exact h2 rfl
        · exact he e
      have e := k.block i (Array.getElem?_eq_some_iff.1 hi).1 hne
      exact ⟨World.cell?_of_block (w := A) e, E, e.trans hi⟩⟩
theorem keepsFrom_two {g gb D : Nat} {A B : World} {C C' : Array Value} {t t' : TypeId} {o o' : Nat × Nat} (k : Keeps (Two2 g gb) A B) (h : A.heap[g]? = some (.cells C t o)) (hb : A.heap[gb]? = some (.cells C' t' o')) : KeepsFrom D A B :=
  ⟨k.size, fun i ob _ hk hc => (k.block i (Array.getElem?_eq_some_iff.1 hk).1 (fun e => by
    rcases e with e | e
    · subst e
      rw [h] at hk
      cases hk
      cases hc
    · subst e
      rw [hb] at hk
      cases hk
      cases hc)).trans hk⟩
/-- where a taking stands -/
structure TkAt (w2 W : World) (g gb gq gr : Nat) (s : Bd × Rdr) : Prop where
  rd : RdrAt W g s.2
  bx : W.heap[gb]? = some (.cells (bdC s.1).toArray 38 (0, 0))
  q : W.heap[gq]? = some (.cells #[dP g] 125 (0, 0))
  r : W.heap[gr]? = some (.cells (bdC Bd.zero).toArray 38 (0, 0))
  k : Keeps (Two2 g gb) w2 W
theorem TkAt.no {w2 W W' : World} {g gb gq gr : Nat} {s : Bd × Rdr} (h : TkAt w2 W g gb gq gr s) (k : Keeps No W W') : TkAt w2 W' g gb gq gr s :=
  ⟨h.rd.kept k (fun h => h), k.heap h.bx (fun h => h), k.heap h.q (fun h => h), k.heap h.r (fun h => h), h.k.trans k (fun _ _ h => h.elim)⟩
theorem TkAt.grown {w2 W W' : World} {row : Option Nat} {g gb gq gr : Nat} {s : Bd × Rdr} (h : TkAt w2 W g gb gq gr s) (hg : W.grownBy W' row) (hr : ∀ r, row = some r → w2.heap.size ≤ r ∧ ∃ o, W.heap[r]? = some o ∧ o.isCells = false) : TkAt w2 W' g gb gq gr s :=
  ⟨⟨heap_grown h.rd.box hg (fun r e => (hr r e).2), h.rd.few⟩, heap_grown h.bx hg (fun r e => (hr r e).2), heap_grown h.q hg (fun r e => (hr r e).2), heap_grown h.r hg (fun r e => (hr r e).2),
    h.k.trans ((Keeps.refl (S := fun i => row = some i) W).grown hg (fun k e _ => e)) (fun i hi e => by have := (hr i e).1; omega)⟩
set_option maxRecDepth 100000 in
set_option maxHeartbeats 8000000 in
theorem takeRest_ok {w : World} {g : Nat} {r : Rdr} (h : RdrAt w g r) (hm : okI (rdI r).1 0 31 = true) : Calls Tryz.prog 92 #[dP g] w fun e w' => e = .returned (bdV (takeRest r).1) ∧ RdrAt w' g (takeRest r).2 ∧ Keeps (Own g) w w' := by
  obtain ⟨R, hR⟩ : ∃ x, x = takeRest r := ⟨_, rfl⟩
  rw [← hR]
  have HR : Hid (R = soundD true (restRaw (rdI r).1 (rdI r).2).1 Bd.zero (restRaw (rdI r).1 (rdI r).2).2) := Lib.hid (by
    rw [hR]
    unfold takeRest soundD
    rw [hm, Bool.and_true, Bool.true_and])
  have hlt := h.lt
  obtain ⟨hm0, hm1⟩ := okI_iff.1 hm
  have H := Lib.hid h
  obtain ⟨a, ha⟩ : ∃ x, x = rdI r := ⟨_, rfl⟩
  rw [← ha] at HR hm0 hm1
  have HA := Lib.hid ha
  clear ha hR h hm
  refine (callsIn_wide (n := 8)).1 ?_
  refine callsIn_of_wp_marks Tryz.func92 rfl trivial ?_ rfl
  refine (wpIn_wide (n := 8)).2 ?_
  simp only [Tryz.ntmps92, List.size_toArray, List.length_cons, List.length_nil, Nat.reduceAdd, Nat.reduceSub, Array.replicate_succ, Array.replicate_zero, List.push_toArray, List.append_toArray, List.nil_append, List.cons_append]
  go_upto_region 1 with fail
  refine wp_world ?_
  intro W0 hW0
  have Q0 : Hid (W0.heap[w.heap.size]? = some (.cells #[dP g] 125 (0, 0))) := Lib.hid (by rw [hW0]; exact ((Keeps.refl (S := No) _).alloc _).heap (heap_alloc_new w _) (fun h => h))
  have R0 : Hid (W0.heap[w.heap.size + 1]? = some (.cells (bdC Bd.zero).toArray 38 (0, 0))) := Lib.hid (by rw [hW0]; exact heap_second w _ _)
  have K0 : Hid (Keeps No w W0) := Lib.hid (by rw [hW0]; exact ((Keeps.refl w).alloc _).alloc _)
  have hz0 : w.heap.size + 1 < W0.heap.size := by rw [hW0]; simp
  obtain ⟨gq, hgq⟩ : ∃ q, q = w.heap.size := ⟨_, rfl⟩
  obtain ⟨gr, hgr⟩ : ∃ q, q = w.heap.size + 1 := ⟨_, rfl⟩
  have nqg : ¬ gq = g := by omega
  have nrg : ¬ gr = g := by omega
  have HGG : Hid (w.heap.size ≤ gq ∧ w.heap.size ≤ gr ∧ gq ≠ gr) := Lib.hid ⟨by omega, by omega, by omega⟩
  rw [← hgr] at R0 hz0 ⊢
  rw [← hgq] at Q0 ⊢
  have RD0 := Lib.hid (H.out.kept K0.out (fun h => h))
  have c0 : W0.cell? ⟨gq, 0, none⟩ = some (dP g) := by rw [cell_of_row _ _ _ _ _ _ Q0.out]; rfl
  clear hW0 hgq hgr H
  go_wp2_with fail
  (with_reducible refine (rInt_any RD0.out).mono ?_)
  rintro e w1 ⟨rfl, hr1, hk1⟩
  rw [← HA.out] at hr1 ⊢
  have RD1 := Lib.hid hr1
  have K1 := Lib.hid hk1
  have Q1 := Lib.hid (hk1.heap Q0.out nqg)
  have R1 := Lib.hid (hk1.heap R0.out nrg)
  have hz1 : gr < w1.heap.size := Nat.lt_of_lt_of_le hz0 hk1.size
  clear hr1 hk1 c0 Q0 R0 hz0 RD0
  go_upto_region 2 with fail
  refine wp_world ?_
  intro W3 hW3
  have B3 : Hid (W3.heap[w1.heap.size]? = some (.cells (bdC ⟨0, 0, 0, a.1, 0, 0, 0, 0, 0, 0, 0⟩).toArray 38 (0, 0))) := Lib.hid (by rw [hW3]; exact heap_alloc_new w1 _)
  have T3 : Keeps No w1 W3 := by rw [hW3]; exact (Keeps.refl w1).alloc _
  have K3 := Lib.hid (K0.out.own.trans (K1.out.trans T3 (fun _ _ h => h.elim)) (fun _ _ h => h))
  have RD3 := Lib.hid (RD1.out.kept T3 (fun h => h))
  have Q3 := Lib.hid (T3.heap Q1.out (fun h => h))
  have R3 := Lib.hid (T3.heap R1.out (fun h => h))
  have hgw := RD1.out.lt
  obtain ⟨gb, hgb⟩ : ∃ q, q = w1.heap.size := ⟨_, rfl⟩
  have hne : gb ≠ gr ∧ gb ≠ g ∧ gb ≠ gq ∧ w.heap.size ≤ gb := ⟨by omega, by omega, by have := HGG.out; have := (Array.getElem?_eq_some_iff.1 Q1.out).1; omega, by have := K0.out.size; have := K1.out.size; omega⟩
  have HN := Lib.hid hne
  rw [← hgb] at B3 ⊢
  have c3 : W3.cell? ⟨gb, 3, none⟩ = some (.int .i64 a.1) := by rw [cell_of_row _ _ _ _ _ _ B3.out]; rfl
  have t1 : ¬ a.1 < 0 := by omega
  have t2 : ¬ (31 : Int) < a.1 := by omega
  clear hW3 T3 hgb hne hgw Q1 R1 hz1 RD1 K0 K1
  go_wp2_with fail
  (with_reducible refine (numbers_any _ _).mono ?_)
  rintro e w2 ⟨rfl, hw2⟩
  have T2 : Keeps No W3 w2 := by rw [hw2]; exact (Keeps.refl W3).alloc _
  have I2 : Hid (ItN W3.heap.size gb a.1 w2) := Lib.hid ⟨by rw [hw2]; exact heap_alloc_new _ _, T2.cell c3 (fun h => h), _, _, T2.heap B3.out (fun h => h)⟩
  have A2 : Hid (TkAt w2 w2 g gb gq gr (⟨0, 0, 0, a.1, 0, 0, 0, 0, 0, 0, 0⟩, a.2)) := Lib.hid ⟨RD3.out.kept T2 (fun h => h), T2.heap B3.out (fun h => h), T2.heap Q3.out (fun h => h), T2.heap R3.out (fun h => h), Keeps.refl _⟩
  have K2 := Lib.hid (K3.out.trans T2 (fun _ _ h => h.elim))
  obtain ⟨gB, hgB⟩ : ∃ q, q = W3.heap.size := ⟨_, rfl⟩
  rw [← hgB] at I2 ⊢
  have HIT := Lib.hid (numbers_stops w2 gB gb a.1 I2.out)
  clear hw2 T2 c3 hgB B3 RD3 Q3 R3 K3 I2
  go_wp2_with fail
  refine (wpIn_wide (n := 8)).1 ?_
  refine range_one (α := Fl) (e1 := fun x => .pointer (some ⟨gb, offV x, none⟩)) (Kp := KpN) (n := 8) rfl (by decide) rfl trivial (enters_of Tryz.func197 (by kernel_rfl) rfl)
    HIT.out (fun h k => h.trans k) (fun W l o o' h1 h2 h3 h4 => KpN.put W l o o' h2 h3 h4)
    (fun pre W => TkAt w2 W g gb gq gr (takeF a.1 a.2 (pre.map offV))) ?own ?start 4 (fun x => .pointer (some ⟨gb, offV x, none⟩)) ?assign ?body ?done
  case own =>
    intro pre W W' row h hg hr
    exact h.grown hg hr
  case start => exact A2.out
  case assign =>
    intro l x W K hK
    have HKK := Lib.hid hK
    clear hK
    simp only [List.setIfInBounds_toArray, List.set_cons_zero, List.set_cons_succ]
    gi_wp2
    exact HKK.out
  case body =>
    intro lq pre x W hT hlt
    have HT := Lib.hid hT
    have HS : Hid (takeF a.1 a.2 ((pre ++ [x]).map offV) = stepF (takeF a.1 a.2 (pre.map offV)) (offV x)) := Lib.hid (by simp [takeF])
    obtain ⟨s, hs⟩ : ∃ s, s = takeF a.1 a.2 (pre.map offV) := ⟨_, rfl⟩
    rw [← hs] at HT HS
    have HF := Lib.hid (setF_cells s.1 x (rdI s.2).1)
    have HFM := Lib.hid (setF_m s.1 x (rdI s.2).1)
    have HSF : Hid (stepF s (offV x) = (setF s.1 (offV x) (rdI s.2).1, (rdI s.2).2)) := Lib.hid rfl
    obtain ⟨p, hp⟩ : ∃ p, p = rdI s.2 := ⟨_, rfl⟩
    rw [← hp] at HF HFM HSF
    have HP := Lib.hid hp
    have HOV : Hid (offV x < 11) := Lib.hid (by have := x.2; unfold offV; omega)
    obtain ⟨o, ho⟩ : ∃ o, o = offV x := ⟨_, rfl⟩
    rw [← ho] at HF HFM HSF HS HOV ⊢
    have c0 : W.cell? ⟨gq, 0, none⟩ = some (dP g) := by rw [cell_of_row _ _ _ _ _ _ HT.out.q]; rfl
    have CR := Lib.hid (rInt_any HT.out.rd)
    rw [← hp] at CR
    clear hT hs hp ho hlt
    gi_wp2
    refine ⟨trivial, (CallsIn.inRound lq (callsIn_wide.2 CR.out)).mono ?_⟩
    rintro e w5 ⟨rfl, hr5, hk5⟩
    have HN1 := HN.out.1
    have HN2 := HN.out.2.1
    have HN3 := HN.out.2.2.1
    have b5 := hk5.heap HT.out.bx HN2
    have B5 := Lib.hid b5
    have x5 : w5.cell? ⟨gb, o, none⟩ = some ((bdC s.1).getD o undef) := by
      rw [cell_of_row _ _ _ _ _ _ b5, List.getElem?_toArray, List.getD_eq_getElem?_getD, List.getElem?_eq_getElem (show o < (bdC s.1).length from HOV.out)]
      rfl
    have f5 : w5.frozen? ⟨gb, o, none⟩ = false := frozen_of_row _ _ _ _ _ b5
    have k5 : Keeps (Two2 g gb) W w5 := hk5.mono (fun _ _ e => .inl e)
    have k6 : Keeps (Own gb) w5 (w5.setCell ⟨gb, o, none⟩ (.int .i64 p.1)) := (Keeps.refl (S := Own gb) w5).setCell (p := ⟨gb, o, none⟩) (fun _ => (rfl : gb = gb)) _
    have k7 : Keeps (Two2 g gb) W (w5.setCell ⟨gb, o, none⟩ (.int .i64 p.1)) := k5.setCell (p := ⟨gb, o, none⟩) (fun _ => .inr rfl) _
    have b6 : (w5.setCell ⟨gb, o, none⟩ (.int .i64 p.1)).heap[gb]? = some (.cells (bdC (setF s.1 o p.1)).toArray 38 (0, 0)) := by
      rw [← HF.out]
      exact heap_setCell_at b5 _
    have FN : Hid (KeepsFrom w2.heap.size W (w5.setCell ⟨gb, o, none⟩ (.int .i64 p.1)) ∧ KpN W (w5.setCell ⟨gb, o, none⟩ (.int .i64 p.1)) ∧ TkAt w2 (w5.setCell ⟨gb, o, none⟩ (.int .i64 p.1)) g gb gq gr (takeF a.1 a.2 ((pre ++ [x]).map offV))) := Lib.hid
      ⟨keepsFrom_two k7 HT.out.rd.box HT.out.bx, KpN.ofTwo k7 HT.out.rd.box (by unfold IsNb; decide) (by decide) HT.out.bx b6 (by
          have h := HFM.out
          simp [bdC, h]),
        by
          rw [HS.out, HSF.out]
          exact ⟨hr5.kept k6 (fun e => HN2 e.symm), b6, k6.heap (hk5.heap HT.out.q nqg) (fun e => HN3 e.symm), k6.heap (hk5.heap HT.out.r nrg) (fun e => HN1 e.symm), HT.out.k.trans k7 (fun _ _ h => h)⟩⟩
    clear c0 hr5 hk5 b5 k5 k6 k7 b6
    gi_wp2
    exact ⟨FN.out.1, FN.out.2.1, FN.out.2.2⟩
  case done =>
    intro q xs W hq hxs hT hdef
    have HX : Hid (takeF a.1 a.2 (xs.map offV) = restRaw a.1 a.2) := Lib.hid (by rw [hxs, takeF_all])
    have HT := Lib.hid hT
    obtain ⟨s, hs⟩ : ∃ s, s = takeF a.1 a.2 (xs.map offV) := ⟨_, rfl⟩
    rw [← hs] at HT HX
    have HR2 : Hid (R = soundD true s.1 Bd.zero s.2) := Lib.hid (by rw [HR.out, HX.out])
    have HD := Lib.hid hdef
    have c0 : W.cell? ⟨gq, 0, none⟩ = some (dP g) := by rw [cell_of_row _ _ _ _ _ _ HT.out.q]; rfl
    have cB : cellsAt W gb 0 11 = some (bdC s.1) := by
      unfold cellsAt
      rw [HT.out.bx]
      rfl
    have cs := soundBundle_any HT.out.rd s.1 true
    rw [← HR2.out] at cs
    have CS : Hid (Calls Tryz.prog 146 #[dP g, .agg (bdC s.1).toArray, .int .i64 0] W fun e w' => e = .returned (bdV R.1) ∧ RdrAt w' g R.2 ∧ Keeps (Own g) W w') := Lib.hid cs
    clear hT hs hxs hdef cs
    go_wp2_with fail
    (with_reducible refine CS.out.mono ?_)
    rintro e w5 ⟨rfl, hr5, hk5⟩
    have r5 := hk5.heap HT.out.r nrg
    have R5 := Lib.hid r5
    have ob : Open w5 gr := ⟨_, _, r5⟩
    have sb : (rowD w5 gr).size = 11 := by unfold rowD; rw [r5]; rfl
    have RD5 := Lib.hid hr5
    have D5 : Hid (w5.heap[q]? = some (.deferred (some []))) := Lib.hid (hk5.heap HD.out (fun e => by
      have e : q = g := e
      have h := HT.out.rd.box
      rw [← e, HD.out] at h
      cases h))
    have K5 : Hid (Keeps (Own g) w w5) := Lib.hid ((K2.out.trans (HT.out.k) (fun i hi e => by
      rcases e with e | e
      · exact e
      · have := HN.out.2.2.2; omega)).trans hk5 (fun _ _ h => h))
    have HQ : Hid (w.heap.size ≤ q) := Lib.hid (Nat.le_trans K2.out.size hq)
    clear c0 cB hr5 hk5 r5 hq
    go_wp2_with fail
    obtain ⟨W6, hW6⟩ : ∃ x, x = w5.setRow gr #[.int .i64 R.1.s, .int .i64 R.1.i, .int .i64 R.1.g, .int .i64 R.1.m, .int .i64 R.1.x, .int .i64 R.1.y, .int .i64 R.1.vx, .int .i64 R.1.vy, .int .i64 R.1.hp, .int .i64 R.1.pw, .int .i64 R.1.lf] := ⟨_, rfl⟩
    have k6 : Keeps (Own gr) w5 W6 := by rw [hW6]; exact (Keeps.refl (S := Own gr) w5).setRow (fun _ => (rfl : gr = gr)) _
    have c6 : W6.heap[gr]? = some (.cells (bdC R.1).toArray 38 (0, 0)) := by
      rw [hW6]
      exact setRow_heap w5 gr _ _ _ _ R5.out
    have hqr : q ≠ gr := fun e => by
      have h := R5.out
      rw [← e, D5.out] at h
      cases h
    have hqg : q ≠ g := fun e => by
      have h := RD5.out.box
      rw [← e, D5.out] at h
      cases h
    have d6 := k6.heap D5.out hqr
    have r6 := RD5.out.kept k6 (fun e => nrg e.symm)
    have K6 : Keeps (Own g) w W6 := K5.out.trans k6 (fun i hi e => by have e : i = gr := e; have := HGG.out.2.1; omega)
    have kF : Keeps (fun i => i = q) W6 (W6.putObj q (.deferred none)) := (Keeps.refl W6).grown (grownBy_putObj' W6 q _) (fun k e _ => by cases e; rfl)
    have cF : cellsAt (W6.putObj q (.deferred none)) gr 0 11 = some (bdC R.1) := by
      unfold cellsAt
      rw [kF.heap c6 (fun e => hqr e.symm)]
      rfl
    have rF := r6.kept kF (fun e => hqg e.symm)
    have KF : Keeps (Own g) w (W6.putObj q (.deferred none)) := K6.trans kF (fun i hi e => by have e : i = q := e; have := HQ.out; omega)
    rw [← hW6]
    refine ⟨by simp, .inl ⟨_, _, rfl, run_takeDeferred d6, ?_⟩⟩
    obtain ⟨W7, hW7⟩ : ∃ x, x = W6.putObj q (.deferred none) := ⟨_, rfl⟩
    rw [← hW7] at cF rF KF ⊢
    refine ⟨bdV R.1, ?_, rfl, rF, KF⟩
    clear hW7 kF d6 r6 K6 k6 c6 hW6 ob sb
    simp [results, Tryz.results92, go_sem, cF]
set_option maxRecDepth 100000 in
set_option maxHeartbeats 4000000 in
theorem takeRest_no {w : World} {g : Nat} {r : Rdr} (h : RdrAt w g r) (hm : okI (rdI r).1 0 31 = false) : Calls Tryz.prog 92 #[dP g] w fun e w' => e = .returned (bdV Bd.zero) ∧ RdrAt w' g none ∧ Keeps (Own g) w w' := by
  have hlt := h.lt
  have H := Lib.hid h
  obtain ⟨a, ha⟩ : ∃ x, x = rdI r := ⟨_, rfl⟩
  rw [← ha] at hm
  have HM : Hid (a.1 < 0 ∨ 31 < a.1) := Lib.hid (by
    by_cases h0 : a.1 < 0
    · exact .inl h0
    · by_cases h1 : 31 < a.1
      · exact .inr h1
      · have := (okI_iff (n := a.1) (lo := 0) (hi := 31)).2 ⟨by omega, by omega⟩
        rw [this] at hm
        cases hm)
  have HA := Lib.hid ha
  clear ha h hm
  go_enter Tryz.func92, Tryz.ntmps92
  go_upto_region 1 with fail
  refine wp_world ?_
  intro W0 hW0
  have Q0 : Hid (W0.heap[w.heap.size]? = some (.cells #[dP g] 125 (0, 0))) := Lib.hid (by rw [hW0]; exact ((Keeps.refl (S := No) _).alloc _).heap (heap_alloc_new w _) (fun h => h))
  have R0 : Hid (W0.heap[w.heap.size + 1]? = some (.cells (bdC Bd.zero).toArray 38 (0, 0))) := Lib.hid (by rw [hW0]; exact heap_second w _ _)
  have K0 : Hid (Keeps No w W0) := Lib.hid (by rw [hW0]; exact ((Keeps.refl w).alloc _).alloc _)
  have hz0 : w.heap.size + 1 < W0.heap.size := by rw [hW0]; simp
  obtain ⟨gq, hgq⟩ : ∃ q, q = w.heap.size := ⟨_, rfl⟩
  obtain ⟨gr, hgr⟩ : ∃ q, q = w.heap.size + 1 := ⟨_, rfl⟩
  have nqg : ¬ gq = g := by omega
  have nrg : ¬ gr = g := by omega
  have HGG : Hid (w.heap.size ≤ gq ∧ w.heap.size ≤ gr ∧ gq ≠ gr) := Lib.hid ⟨by omega, by omega, by omega⟩
  rw [← hgr] at R0 hz0 ⊢
  rw [← hgq] at Q0 ⊢
  have RD0 := Lib.hid (H.out.kept K0.out (fun h => h))
  have c0 : W0.cell? ⟨gq, 0, none⟩ = some (dP g) := by rw [cell_of_row _ _ _ _ _ _ Q0.out]; rfl
  clear hW0 hgq hgr H
  go_wp2_with fail
  (with_reducible refine (rInt_any RD0.out).mono ?_)
  rintro e w1 ⟨rfl, hr1, hk1⟩
  rw [← HA.out] at hr1 ⊢
  have RD1 := Lib.hid hr1
  have K1 := Lib.hid hk1
  have Q1 := Lib.hid (hk1.heap Q0.out nqg)
  have R1 := Lib.hid (hk1.heap R0.out nrg)
  have hz1 : gr < w1.heap.size := Nat.lt_of_lt_of_le hz0 hk1.size
  clear hr1 hk1 c0 Q0 R0 hz0 RD0
  go_upto_region 2 with fail
  refine wp_world ?_
  intro W3 hW3
  have B3 : Hid (W3.heap[w1.heap.size]? = some (.cells (bdC ⟨0, 0, 0, a.1, 0, 0, 0, 0, 0, 0, 0⟩).toArray 38 (0, 0))) := Lib.hid (by rw [hW3]; exact heap_alloc_new w1 _)
  have T3 : Keeps No w1 W3 := by rw [hW3]; exact (Keeps.refl w1).alloc _
  have K3 := Lib.hid (K0.out.own.trans (K1.out.trans T3 (fun _ _ h => h.elim)) (fun _ _ h => h))
  have RD3 := Lib.hid (RD1.out.kept T3 (fun h => h))
  have Q3 := Lib.hid (T3.heap Q1.out (fun h => h))
  have R3 := Lib.hid (T3.heap R1.out (fun h => h))
  have hgw := RD1.out.lt
  obtain ⟨gb, hgb⟩ : ∃ q, q = w1.heap.size := ⟨_, rfl⟩
  have hne : gb ≠ gr ∧ gb ≠ g ∧ gb ≠ gq ∧ w.heap.size ≤ gb := ⟨by omega, by omega, by have := HGG.out; have := (Array.getElem?_eq_some_iff.1 Q1.out).1; omega, by have := K0.out.size; have := K1.out.size; omega⟩
  have HN := Lib.hid hne
  rw [← hgb] at B3 ⊢
  have c3 : W3.cell? ⟨gb, 3, none⟩ = some (.int .i64 a.1) := by rw [cell_of_row _ _ _ _ _ _ B3.out]; rfl
  have RDW := RD3
  have CC := Lib.hid (count_any RD3.out (-1))
  rw [rdCount_neg] at CC
  have r3 := R3.out
  have c0 : W3.cell? ⟨gq, 0, none⟩ = some (dP g) := by rw [cell_of_row _ _ _ _ _ _ Q3.out]; rfl
  clear hW3 T3 hgb hne hgw Q1 R1 hz1 RD1 K0 K1
  rcases HM.out with t1 | t1
  all_goals
    try (have t2 : ¬ a.1 < 0 := by omega)
    go_wp2_with fail
    (with_reducible refine CC.out.mono ?_)
    rintro e w5 ⟨rfl, hr5, hk5⟩
    have r5 := hk5.heap R3.out nrg
    have R5 := Lib.hid r5
    have ob : Open w5 gr := ⟨_, _, r5⟩
    have sb : (rowD w5 gr).size = 11 := by unfold rowD; rw [r5]; rfl
    have RD5 := Lib.hid hr5
    have K5 : Hid (Keeps (Own g) w w5) := Lib.hid (K3.out.trans hk5 (fun _ _ h => h))
    clear hr5 hk5 r5 r3 c0 c3
    go_wp2
    have hcr : cellsAt (w5.setRow gr #[.int .i64 0, .int .i64 0, .int .i64 0, .int .i64 0, .int .i64 0, .int .i64 0, .int .i64 0, .int .i64 0, .int .i64 0, .int .i64 0, .int .i64 0]) gr 0 11 = some (bdC Bd.zero) := by rw [cellsAt_setRow_at _ _ _ _ _ ob]; rfl
    refine bodyPost_ret (v := bdV Bd.zero) ?_ rfl ⟨rfl, RD5.out.kept ((Keeps.refl (S := Own gr) w5).setRow (fun _ => (rfl : gr = gr)) _) (fun e => nrg e.symm), K5.out.setRow (fun h => absurd h (Nat.not_lt.2 HGG.out.2.1)) _⟩
    clear ob sb
    simp [results, Tryz.results92, go_sem, hcr]
theorem takeRest_any {w : World} {g : Nat} {r : Rdr} (h : RdrAt w g r) : Calls Tryz.prog 92 #[dP g] w fun e w' => e = .returned (bdV (takeRest r).1) ∧ RdrAt w' g (takeRest r).2 ∧ Keeps (Own g) w w' := by
  cases hm : okI (rdI r).1 0 31 with
  | true => exact takeRest_ok h hm
  | false =>
    have e : takeRest r = (Bd.zero, none) := by unfold takeRest; rw [hm, Bool.false_and]; rfl
    rw [e]
    exact takeRest_no h hm
end Go.Proofs.YtndjnkjcfdaegaaGreatDoor

/-
  codec: entities, put and taken. No conditions of its own.
-/
namespace Go.Proofs.YtndjnkjcfdaegaaGreatDoor
open Go.RowKit Go.Shelf Go.Sort Go.Joins Go.Deep

theorem putNam_le (a : Nam) : (putNam a).length ≤ 27 := by
  unfold putNam
  cases idOk a
  · simp
  · have h1 := layI_le a.s
    have h2 := layI_le a.i
    have h3 := layI_le a.g
    simp only [cond_true, List.length_append]
    omega
theorem putIf_le (h : Bool) (n : Int) : (putIf h n).length ≤ 9 := by
  unfold putIf
  cases h
  · simp
  · exact layI_le n
theorem putRest_le (b : Bd) : (putRest b).length ≤ 72 := by
  unfold putRest
  have h0 := layI_le b.m
  have h1 := putIf_le (hasB b.m 1) b.x
  have h2 := putIf_le (hasB b.m 1) b.y
  have h3 := putIf_le (hasB b.m 2) b.vx
  have h4 := putIf_le (hasB b.m 2) b.vy
  have h5 := putIf_le (hasB b.m 4) b.hp
  have h6 := putIf_le (hasB b.m 8) b.pw
  have h7 := putIf_le (hasB b.m 16) b.lf
  simp only [List.length_append]
  omega
/-- a contract's text under a name -/
theorem calls_str {f : FuncId} {args : Array Value} {L : Nm} {X : ByteArray} (hX : X = toB L) {W : World} (h : Calls Tryz.prog f args W fun e w' => e = .returned (strB L) ∧ Keeps No W w') : Calls Tryz.prog f args W fun e w' => e = .returned (.string X) ∧ Keeps No W w' := by
  refine h.mono ?_
  rintro e w' ⟨rfl, hk⟩
  exact ⟨by rw [hX]; rfl, hk⟩
set_option maxRecDepth 100000 in
set_option maxHeartbeats 2000000 in
theorem putBd_any (w : World) (b : Bd) : Calls Tryz.prog 153 #[bdV b] w fun e w' => e = .returned (strB (putBd b)) ∧ Keeps No w w' := by
  obtain ⟨R, hR⟩ : ∃ x, x = strB (putBd b) := ⟨_, rfl⟩
  rw [← hR]
  have CK := Lib.hid (fun W => bdCheck_any W b)
  cases hb : bdOk b with
  | false =>
    have HR : Hid (R = .string (toB [])) := Lib.hid (by rw [hR]; unfold putBd; rw [hb]; rfl)
    rw [hb] at CK
    simp only [errB, cond_false] at CK
    clear hb hR
    go_enter Tryz.func153, Tryz.ntmps153
    go_wp2_with fail
    (with_reducible refine (CK.out _).mono ?_)
    rintro e w1 ⟨rfl, hg⟩
    have K1 : Hid (Keeps No w w1) := Lib.hid (((Keeps.refl w).alloc _).trans hg.keeps (fun _ _ h => h))
    clear hg
    go_wp2
    go_ret
    exact ⟨by rw [HR.out]; rfl, K1.out⟩
  | true =>
    obtain ⟨h1, h2, h3⟩ := bdOk_parts hb
    obtain ⟨X1, hX1⟩ : ∃ x, x = toB (putNam b.id) := ⟨_, rfl⟩
    obtain ⟨X2, hX2⟩ : ∃ x, x = toB (putRest b) := ⟨_, rfl⟩
    obtain ⟨X3, hX3⟩ : ∃ x, x = toB (putNam b.id ++ putRest b) := ⟨_, rfl⟩
    have HR : Hid (R = .string X3) := Lib.hid (by rw [hR, hX3]; unfold putBd; rw [hb]; rfl)
    have hcat := fun W' : World => cat_run W' (putNam b.id) (putRest b) (by have := putNam_le b.id; omega) (by have := putRest_le b; omega)
    rw [← hX1, ← hX2, ← hX3] at hcat
    have C1 := Lib.hid (fun W => calls_str hX1 (putNam_any W b.id))
    have C2 := Lib.hid (fun W => calls_str hX2 (putRest_any W b h1))
    rw [hb] at CK
    simp only [errB, cond_true] at CK
    have cb : cellsAt (w.alloc (.cells (bdC b).toArray 38)) w.heap.size 0 11 = some (bdC b) := by simp [go_sem]
    have CB := Lib.hid cb
    clear hb hR hX1 hX2 hX3 h1 h2 h3 cb
    go_enter Tryz.func153, Tryz.ntmps153
    go_wp2_with fail
    (with_reducible refine (CK.out _).mono ?_)
    rintro e W ⟨rfl, hg⟩
    have KW : Hid (Keeps No w W) := Lib.hid (((Keeps.refl w).alloc _).trans hg.keeps (fun _ _ h => h))
    have cW := hg.keeps.cellsAt CB.out
    have i0 : cellsAt W w.heap.size 0 3 = some (namC b.id) := cellsAt_part cW 0 (namC b.id) rfl (by simp)
    have L1 : ∀ w', Keeps No W w' → cellsAt w' w.heap.size 0 11 = some (bdC b) := fun w' k => k.cellsAt cW
    have L2 : ∀ w', Keeps No W w' → cellsAt w' w.heap.size 0 3 = some (namC b.id) := fun w' k => k.cellsAt i0
    clear hg cW i0
    go_upto_region 3 with fail
    go_region_held3 (fun w' => Keeps No W w')
      (first | assumption | exact (Keeps.refl W).drew)
      (first
        | (go_at_call 105
           have hc := C1.out
           with_reducible refine (hc _).mono ?_
           clear hc
           rintro e w1 ⟨rfl, hk⟩
           have hS1 : Keeps No W w1 := Keeps.trans (by first | assumption | exact (Keeps.refl W).drew) hk (fun _ _ h => h))
        | (go_at_call 154
           have hc := C2.out
           with_reducible refine (hc _).mono ?_
           clear hc
           rintro e w2 ⟨rfl, hk⟩
           have hS2 : Keeps No W w2 := Keeps.trans (by first | assumption | exact (Keeps.refl W).drew) hk (fun _ _ h => h)))
    all_goals go_wp2
    all_goals go_ret
    all_goals exact ⟨by rw [HR.out]; rfl, KW.out.trans hS2 (fun _ _ h => h)⟩
set_option maxRecDepth 100000 in
set_option maxHeartbeats 4000000 in
theorem takeBd_any {w : World} {g : Nat} {r : Rdr} (h : RdrAt w g r) : Calls Tryz.prog 91 #[dP g] w fun e w' => e = .returned (bdV (takeBd r).1) ∧ RdrAt w' g (takeBd r).2 ∧ Keeps (Own g) w w' := by
  obtain ⟨R, hR⟩ : ∃ x, x = takeBd r := ⟨_, rfl⟩
  rw [← hR]
  obtain ⟨a, ha⟩ : ∃ x, x = takeNam r := ⟨_, rfl⟩
  obtain ⟨b, hb⟩ : ∃ x, x = takeRest a.2 := ⟨_, rfl⟩
  obtain ⟨x, hx⟩ : ∃ x, x = b.1.named a.1 := ⟨_, rfl⟩
  have HX : Hid (soundD (bdOk x) x Bd.zero b.2 = R) := Lib.hid (by
    rw [hR, hx, hb, ha]
    unfold takeBd soundD
    rfl)
  have HA := Lib.hid ha
  have HB := Lib.hid hb
  have HXX := Lib.hid hx
  have CI := Lib.hid (fun W => bdCheck_any W x)
  have hlt := h.lt
  have H := Lib.hid h
  clear hR ha hb hx h
  go_enter Tryz.func91, Tryz.ntmps91
  go_upto_region 1 with fail
  refine wp_world ?_
  intro W0 hW0
  have R0 : Hid (W0.heap[w.heap.size]? = some (.cells (bdC Bd.zero).toArray 38 (0, 0))) := Lib.hid (by rw [hW0]; exact heap_alloc_new w _)
  have T0 : Keeps No w W0 := by rw [hW0]; exact (Keeps.refl w).alloc _
  have RD0 := Lib.hid (H.out.kept T0 (fun h => h))
  have K0 := Lib.hid T0
  obtain ⟨gr, hgr⟩ : ∃ q, q = w.heap.size := ⟨_, rfl⟩
  have nrg : ¬ gr = g := by omega
  have HG : Hid (w.heap.size ≤ gr) := Lib.hid (by omega)
  rw [← hgr] at R0 ⊢
  clear hW0 T0 hgr H
  go_wp2_with fail
  (with_reducible refine (takeNam_any RD0.out).mono ?_)
  rintro e w1 ⟨rfl, hr1, hk1⟩
  rw [← HA.out] at hr1 ⊢
  have RD1 := Lib.hid hr1
  have K1 := Lib.hid (K0.out.own.trans hk1 (fun _ _ h => h))
  have R1 := Lib.hid (hk1.heap R0.out nrg)
  clear hr1 hk1 RD0
  go_upto_region 2 with fail
  refine wp_world ?_
  intro W2 hW2
  have I2 : Hid (W2.heap[w1.heap.size]? = some (.cells (namC a.1).toArray 36 (0, 0))) := Lib.hid (by rw [hW2]; exact heap_alloc_new w1 _)
  have T2 : Keeps No w1 W2 := by rw [hW2]; exact (Keeps.refl w1).alloc _
  have RD2 := Lib.hid (RD1.out.kept T2 (fun h => h))
  have K2 := Lib.hid (K1.out.trans T2 (fun _ _ h => h.elim))
  have R2 := Lib.hid (T2.heap R1.out (fun h => h))
  obtain ⟨gi, hgi⟩ : ∃ q, q = w1.heap.size := ⟨_, rfl⟩
  have nig : ¬ gi = g := by have := RD1.out.lt; omega
  have nir : gi ≠ gr := by have := (Array.getElem?_eq_some_iff.1 R1.out).1; omega
  rw [← hgi] at I2 ⊢
  clear hW2 T2 hgi RD1 K1 R1
  go_wp2_with fail
  (with_reducible refine (takeRest_any RD2.out).mono ?_)
  rintro e w3 ⟨rfl, hr3, hk3⟩
  rw [← HB.out] at hr3 ⊢
  have RD3 := Lib.hid hr3
  have K3 := Lib.hid (K2.out.trans hk3 (fun _ _ h => h))
  have R3 := Lib.hid (hk3.heap R2.out nrg)
  have I3 := Lib.hid (hk3.heap I2.out nig)
  clear hr3 hk3 RD2 K2 R2 I2
  go_upto_region 3 with fail
  refine wp_world ?_
  intro W4 hW4
  have B4 : Hid (W4.heap[w3.heap.size]? = some (.cells (bdC b.1).toArray 38 (0, 0))) := Lib.hid (by rw [hW4]; exact heap_alloc_new w3 _)
  have T4 : Keeps No w3 W4 := by rw [hW4]; exact (Keeps.refl w3).alloc _
  have RD4 := Lib.hid (RD3.out.kept T4 (fun h => h))
  have K4 := Lib.hid (K3.out.trans T4 (fun _ _ h => h.elim))
  have R4 := Lib.hid (T4.heap R3.out (fun h => h))
  have I4 := Lib.hid (T4.heap I3.out (fun h => h))
  obtain ⟨gb, hgb⟩ : ∃ q, q = w3.heap.size := ⟨_, rfl⟩
  have nbg : ¬ gb = g := by have := RD3.out.lt; omega
  have nbr : gb ≠ gr := by have := (Array.getElem?_eq_some_iff.1 R3.out).1; omega
  have nbi : gb ≠ gi := by have := (Array.getElem?_eq_some_iff.1 I3.out).1; omega
  have HGB : Hid (w.heap.size ≤ gb) := Lib.hid (by have := K3.out.size; omega)
  rw [← hgb] at B4 ⊢
  have ci : cellsAt W4 gi 0 3 = some (namC a.1) := by unfold cellsAt; rw [I4.out]; rfl
  have ob : Open W4 gb := ⟨_, _, B4.out⟩
  have db : rowD W4 gb = (bdC b.1).toArray := by unfold rowD; rw [B4.out]
  have lb := (Array.getElem?_eq_some_iff.1 B4.out).1
  clear hW4 T4 hgb RD3 K3 R3 I3
  go_upto_region 4 with fail
  refine wp_world ?_
  intro W hW
  have hWx : W = W4.setRow gb (bdC x).toArray := by rw [hW, HXX.out]; rfl
  have cx : cellsAt W gb 0 11 = some (bdC x) := by rw [hWx, cellsAt_setRow_at _ _ _ _ _ ob]; rfl
  have or : Open W gr := by rw [hWx]; exact (open_setRow _ _ _ _).2 ⟨_, _, R4.out⟩
  have sr : (rowD W gr).size = 11 := by rw [hWx, rowD_setRow_far _ _ _ _ (fun e => nbr e.symm)]; unfold rowD; rw [R4.out]; rfl
  have kk : Keeps (Own gb) W4 W := by rw [hWx]; exact (Keeps.refl (S := Own gb) W4).setRow (fun _ => (rfl : gb = gb)) _
  have RW : Hid (RdrAt W g b.2) := Lib.hid (RD4.out.kept kk (fun e => nbg e.symm))
  have KW : Hid (Keeps (Own g) w W) := Lib.hid (K4.out.trans kk (fun i hi e => by have e : i = gb := e; have := HGB.out; omega))
  have lx : gb < W.heap.size := Nat.lt_of_lt_of_le lb kk.size
  clear hW hWx ci ob db lb kk RD4 K4 R4 I4 B4 K0
  have hS0 : cellsAt W gb 0 11 = some (bdC x) ∧ Open W gr ∧ (rowD W gr).size = 11 := ⟨cx, or, sr⟩
  go_region_held3 (fun w' => cellsAt w' gb 0 11 = some (bdC x) ∧ Open w' gr ∧ (rowD w' gr).size = 11)
    (first | exact hS0 | exact hS1 | exact hS2 | exact ⟨(cellsAt_setRow_far _ _ _ _ _ _ nbr).trans hS2.1, (open_setRow _ _ _ _).2 hS2.2.1, by rw [rowD_setRow_at _ _ _ hS2.2.1]; rfl⟩)
    (first
      | (go_at_call 109
         have hc := CI.out
         with_reducible refine (hc _).mono ?_
         clear hc
         rintro e w5 ⟨rfl, hg⟩
         have hS1 : cellsAt w5 gb 0 11 = some (bdC x) ∧ Open w5 gr ∧ (rowD w5 gr).size = 11 := ⟨hg.keeps.cellsAt cx, hg.keeps.opened or, hg.keeps.rowSize or sr⟩
         have RX := Lib.hid ((RW.out.kept (Keeps.refl (S := No) W).drew (fun h => h)).kept hg.keeps (fun h => h))
         have KX := Lib.hid (KW.out.drew.trans hg.keeps (fun _ _ h => h.elim))
         have lx1 : gb < w5.heap.size := Nat.lt_of_lt_of_le lx hg.keeps.size)
      | (go_at_call 146
         refine (soundBundle_any RX.out x (bdOk x)).mono ?_
         rintro e w6 ⟨rfl, hr2, hk2⟩
         rw [HX.out] at hr2 ⊢
         have hS2 : cellsAt w6 gb 0 11 = some (bdC x) ∧ Open w6 gr ∧ (rowD w6 gr).size = 11 := ⟨hk2.cellsOwn hS1.1 lx1 nbg, hk2.openOwn hS1.2.1 nrg, hk2.rowSizeOwn hS1.2.1 hS1.2.2 nrg⟩
         have RY := Lib.hid hr2
         have KY := Lib.hid (KX.out.trans hk2 (fun _ _ h => h))))
  all_goals go_wp2_with fail
  all_goals
    have ng2 : ¬ g = gr := fun e => nrg e.symm
    have hcr : cellsAt (w6.setRow gr #[.int .i64 R.1.s, .int .i64 R.1.i, .int .i64 R.1.g, .int .i64 R.1.m, .int .i64 R.1.x, .int .i64 R.1.y, .int .i64 R.1.vx, .int .i64 R.1.vy, .int .i64 R.1.hp, .int .i64 R.1.pw, .int .i64 R.1.lf]) gr 0 11 = some (bdC R.1) := by rw [cellsAt_setRow_at _ _ _ _ _ hS2.2.1]; rfl
    have hF : Hid (RdrAt (w6.setRow gr #[.int .i64 R.1.s, .int .i64 R.1.i, .int .i64 R.1.g, .int .i64 R.1.m, .int .i64 R.1.x, .int .i64 R.1.y, .int .i64 R.1.vx, .int .i64 R.1.vy, .int .i64 R.1.hp, .int .i64 R.1.pw, .int .i64 R.1.lf]) g R.2 ∧ Keeps (Own g) w (w6.setRow gr #[.int .i64 R.1.s, .int .i64 R.1.i, .int .i64 R.1.g, .int .i64 R.1.m, .int .i64 R.1.x, .int .i64 R.1.y, .int .i64 R.1.vx, .int .i64 R.1.vy, .int .i64 R.1.hp, .int .i64 R.1.pw, .int .i64 R.1.lf])) := Lib.hid ⟨RY.out.kept ((Keeps.refl (S := Own gr) w6).setRow (fun _ => (rfl : gr = gr)) _) ng2, KY.out.setRow (fun h => absurd h (Nat.not_lt.2 HG.out)) _⟩
    refine bodyPost_ret (v := bdV R.1) ?_ rfl ⟨rfl, hF.out.1, hF.out.2⟩
    clear hS0 hS1 hS2 or sr cx
    simp [results, Tryz.results91, go_sem, hcr]
end Go.Proofs.YtndjnkjcfdaegaaGreatDoor

/-
  codec.TakeCmd: a command, taken. No conditions of its own.
-/
namespace Go.Proofs.YtndjnkjcfdaegaaGreatDoor
open Go.RowKit Go.Shelf Go.Sort Go.Joins Go.Deep

/-- where the taking of a command stands -/
structure TcAt (w W : World) (g gb gr : Nat) (y : Cm) (st : Rdr) : Prop where
  rd : RdrAt W g st
  bx : W.heap[gb]? = some (.cells (cmC y).toArray 40 (0, 0))
  r : W.heap[gr]? = some (.cells (cmC Cm.zero).toArray 40 (0, 0))
  k : Keeps (Own g) w W
section
variable {w W W' : World} {g gb gr : Nat} {y y' : Cm} {st st' : Rdr}
theorem TcAt.call (h : TcAt w W g gb gr y st) (k : Keeps (Own g) W W') (hr : RdrAt W' g st') (nb : ¬ gb = g) (nr : ¬ gr = g) : TcAt w W' g gb gr y st' :=
  ⟨hr, k.heap h.bx nb, k.heap h.r nr, h.k.trans k (fun _ _ h => h)⟩
theorem TcAt.put (h : TcAt w W g gb gr y st) (k : Keeps (Own gb) W W') (hb : W'.heap[gb]? = some (.cells (cmC y').toArray 40 (0, 0))) (nb : ¬ gb = g) (nr : gb ≠ gr) (hw : w.heap.size ≤ gb) : TcAt w W' g gb gr y' st :=
  ⟨h.rd.kept k (fun e => nb e.symm), hb, k.heap h.r (fun e => nr e.symm), h.k.trans k (fun i hi e => by have e : i = gb := e; omega)⟩
theorem TcAt.row (h : TcAt w W g gb gr y st) (nb : ¬ gb = g) (nr : gb ≠ gr) (hw : w.heap.size ≤ gb) (y' : Cm) : TcAt w (W.setRow gb (cmC y').toArray) g gb gr y' st :=
  h.put ((Keeps.refl (S := Own gb) W).setRow (fun _ => (rfl : gb = gb)) _) (setRow_heap W gb _ _ _ _ h.bx) nb nr hw
theorem TcAt.opened (h : TcAt w W g gb gr y st) : Open W gb := ⟨_, _, h.bx⟩
theorem TcAt.rowIs (h : TcAt w W g gb gr y st) : rowD W gb = (cmC y).toArray := by unfold rowD; rw [h.bx]
theorem TcAt.lt (h : TcAt w W g gb gr y st) : gb < W.heap.size := (Array.getElem?_eq_some_iff.1 h.bx).1
theorem TcAt.cell (h : TcAt w W g gb gr y st) (j : Nat) : W.cell? ⟨gb, j, none⟩ = (cmC y)[j]? := by rw [cell_of_row _ _ _ _ _ _ h.bx]; simp
end
set_option maxRecDepth 100000 in
set_option maxHeartbeats 4000000 in
theorem takeCmd_else {w : World} {g : Nat} {r : Rdr} (h : RdrAt w g r) (hk : ¬ (rdI r).1 = 1 ∧ ¬ (rdI r).1 = 2 ∧ ¬ (rdI r).1 = 3 ∧ ¬ (rdI r).1 = 4) : Calls Tryz.prog 49 #[dP g] w fun e w' => e = .returned (cmV (takeCm r).1) ∧ RdrAt w' g (takeCm r).2 ∧ Keeps (Own g) w w' := by
  obtain ⟨R, hR⟩ : ∃ x, x = takeCm r := ⟨_, rfl⟩
  rw [← hR]
  have HR : Hid (soundD (cmdOk (cmRaw (rdI r).1 (rdI r).2).1) (cmRaw (rdI r).1 (rdI r).2).1 Cm.zero (cmRaw (rdI r).1 (rdI r).2).2 = R) := Lib.hid (by
    rw [hR]
    unfold takeCm soundD
    rfl)
  obtain ⟨a, ha⟩ : ∃ x, x = rdI r := ⟨_, rfl⟩
  rw [← ha] at HR hk
  have HC : cmRaw a.1 a.2 = (⟨a.1, 0, 0, 0, Bd.zero, 0⟩, a.2) := by unfold cmRaw; rw [beq_eq_false_iff_ne.2 hk.1, beq_eq_false_iff_ne.2 hk.2.1, beq_eq_false_iff_ne.2 hk.2.2.1, beq_eq_false_iff_ne.2 hk.2.2.2]; rfl
  rw [HC] at HR
  obtain ⟨x, hx⟩ : ∃ x : Cm, x = ⟨a.1, 0, 0, 0, Bd.zero, 0⟩ := ⟨_, rfl⟩
  obtain ⟨stt, hst⟩ : ∃ x, x = a.2 := ⟨_, rfl⟩
  have HX : Hid (soundD (cmdOk x) x Cm.zero stt = R) := Lib.hid (by rw [hx, hst]; exact HR.out)
  have HXX := Lib.hid hx
  have HST := Lib.hid hst
  clear HC HR hx hst
  have HA := Lib.hid ha
  have CI := Lib.hid (fun W => checkCmd_any W x)
  have hlt := h.lt
  have H := Lib.hid h
  have b1 : (a.1 == 1) = false := by simpa using hk.1
  have b2 : (a.1 == 2) = false := by simpa using hk.2.1
  have b3 : (a.1 == 3) = false := by simpa using hk.2.2.1
  have b4 : (a.1 == 4) = false := by simpa using hk.2.2.2
  clear hR ha h hk
  go_enter Tryz.func49, Tryz.ntmps49
  go_upto_region 1 with fail
  refine wp_world ?_
  intro W0 hW0
  have R0 : Hid (W0.heap[w.heap.size]? = some (.cells (cmC Cm.zero).toArray 40 (0, 0))) := Lib.hid (by rw [hW0]; exact heap_alloc_new w _)
  have T0 : Keeps No w W0 := by rw [hW0]; exact (Keeps.refl w).alloc _
  have RD0 := Lib.hid (H.out.kept T0 (fun h => h))
  have K0 := Lib.hid T0
  obtain ⟨gr, hgr⟩ : ∃ q, q = w.heap.size := ⟨_, rfl⟩
  have nrg : ¬ gr = g := by omega
  have HG : Hid (w.heap.size ≤ gr) := Lib.hid (by omega)
  rw [← hgr] at R0 ⊢
  clear hW0 T0 hgr H
  go_wp2_with fail
  (with_reducible refine (rInt_any RD0.out).mono ?_)
  rintro e w1 ⟨rfl, hr1, hk1⟩
  rw [← HA.out] at hr1 ⊢
  have RD1 := Lib.hid hr1
  have K1 := Lib.hid (K0.out.own.trans hk1 (fun _ _ h => h))
  have R1 := Lib.hid (hk1.heap R0.out nrg)
  clear hr1 hk1 RD0 R0
  go_upto_region 2 with fail
  refine wp_world ?_
  intro W2 hW2
  have T2 : Keeps No w1 W2 := by rw [hW2]; exact (Keeps.refl w1).alloc _
  have A2 : Hid (TcAt w W2 g w1.heap.size gr ⟨a.1, 0, 0, 0, Bd.zero, 0⟩ a.2) := Lib.hid ⟨RD1.out.kept T2 (fun h => h), by rw [hW2]; exact heap_alloc_new w1 _, T2.heap R1.out (fun h => h), K1.out.trans T2 (fun _ _ h => h.elim)⟩
  obtain ⟨gb, hgb⟩ : ∃ q, q = w1.heap.size := ⟨_, rfl⟩
  have nbg : ¬ gb = g := by have := RD1.out.lt; omega
  have nbr : gb ≠ gr := by have := (Array.getElem?_eq_some_iff.1 R1.out).1; omega
  have HGB : Hid (w.heap.size ≤ gb) := Lib.hid (by have := K1.out.size; omega)
  rw [← hgb] at A2 ⊢
  have c0 : W2.cell? ⟨gb, 0, none⟩ = some (.int .i64 a.1) := A2.out.cell 0
  clear hW2 T2 hgb RD1 K1 R1 K0 HA
  go_upto_region 13 with fail
  refine wp_world ?_
  intro W hW
  have TF : Hid (TcAt w W g gb gr x stt) := Lib.hid (by rw [hW, HXX.out, HST.out]; exact A2.out)
  have cx : cellsAt W gb 0 16 = some (cmC x) := by unfold cellsAt; rw [TF.out.bx]; rfl
  have or : Open W gr := ⟨_, _, TF.out.r⟩
  have sr : (rowD W gr).size = 16 := by unfold rowD; rw [TF.out.r]; rfl
  have RW := Lib.hid TF.out.rd
  have KW := Lib.hid TF.out.k
  have lx := TF.out.lt
  clear hW TF c0
  have hS0 : cellsAt W gb 0 16 = some (cmC x) ∧ Open W gr ∧ (rowD W gr).size = 16 := ⟨cx, or, sr⟩
  go_region_held3 (fun w' => cellsAt w' gb 0 16 = some (cmC x) ∧ Open w' gr ∧ (rowD w' gr).size = 16)
    (first | exact hS0 | exact hS1 | exact hS2 | exact ⟨(cellsAt_setRow_far _ _ _ _ _ _ nbr).trans hS2.1, (open_setRow _ _ _ _).2 hS2.2.1, by rw [rowD_setRow_at _ _ _ hS2.2.1]; rfl⟩)
    (first
      | (go_at_call 61
         have hc := CI.out
         with_reducible refine (hc _).mono ?_
         clear hc
         rintro e w5 ⟨rfl, hg⟩
         have hS1 : cellsAt w5 gb 0 16 = some (cmC x) ∧ Open w5 gr ∧ (rowD w5 gr).size = 16 := ⟨hg.keeps.cellsAt cx, hg.keeps.opened or, hg.keeps.rowSize or sr⟩
         have RX := Lib.hid ((RW.out.kept (Keeps.refl (S := No) W).drew (fun h => h)).kept hg.keeps (fun h => h))
         have KX := Lib.hid (KW.out.drew.trans hg.keeps (fun _ _ h => h.elim))
         have lx1 : gb < w5.heap.size := Nat.lt_of_lt_of_le lx hg.keeps.size)
      | (go_at_call 93
         refine (soundCmd_any RX.out x (cmdOk x)).mono ?_
         rintro e w6 ⟨rfl, hr2, hk2⟩
         rw [HX.out] at hr2 ⊢
         have hS2 : cellsAt w6 gb 0 16 = some (cmC x) ∧ Open w6 gr ∧ (rowD w6 gr).size = 16 := ⟨hk2.cellsOwn hS1.1 lx1 nbg, hk2.openOwn hS1.2.1 nrg, hk2.rowSizeOwn hS1.2.1 hS1.2.2 nrg⟩
         have RY := Lib.hid hr2
         have KY := Lib.hid (KX.out.trans hk2 (fun _ _ h => h))))
  all_goals go_wp2_with fail
  all_goals
    have ng2 : ¬ g = gr := fun e => nrg e.symm
    have hcr : cellsAt (w6.setRow gr #[.int .i64 R.1.k, .int .i64 R.1.s, .int .i64 R.1.i, .int .i64 R.1.g, .int .i64 R.1.b.s, .int .i64 R.1.b.i, .int .i64 R.1.b.g, .int .i64 R.1.b.m, .int .i64 R.1.b.x, .int .i64 R.1.b.y, .int .i64 R.1.b.vx, .int .i64 R.1.b.vy, .int .i64 R.1.b.hp, .int .i64 R.1.b.pw, .int .i64 R.1.b.lf, .int .i64 R.1.m]) gr 0 16 = some (cmC R.1) := by rw [cellsAt_setRow_at _ _ _ _ _ hS2.2.1]; rfl
    have hF : Hid (RdrAt (w6.setRow gr #[.int .i64 R.1.k, .int .i64 R.1.s, .int .i64 R.1.i, .int .i64 R.1.g, .int .i64 R.1.b.s, .int .i64 R.1.b.i, .int .i64 R.1.b.g, .int .i64 R.1.b.m, .int .i64 R.1.b.x, .int .i64 R.1.b.y, .int .i64 R.1.b.vx, .int .i64 R.1.b.vy, .int .i64 R.1.b.hp, .int .i64 R.1.b.pw, .int .i64 R.1.b.lf, .int .i64 R.1.m]) g R.2 ∧ Keeps (Own g) w (w6.setRow gr #[.int .i64 R.1.k, .int .i64 R.1.s, .int .i64 R.1.i, .int .i64 R.1.g, .int .i64 R.1.b.s, .int .i64 R.1.b.i, .int .i64 R.1.b.g, .int .i64 R.1.b.m, .int .i64 R.1.b.x, .int .i64 R.1.b.y, .int .i64 R.1.b.vx, .int .i64 R.1.b.vy, .int .i64 R.1.b.hp, .int .i64 R.1.b.pw, .int .i64 R.1.b.lf, .int .i64 R.1.m])) := Lib.hid ⟨RY.out.kept ((Keeps.refl (S := Own gr) w6).setRow (fun _ => (rfl : gr = gr)) _) ng2, KY.out.setRow (fun h => absurd h (Nat.not_lt.2 HG.out)) _⟩
    refine bodyPost_ret (v := cmV R.1) ?_ rfl ⟨rfl, hF.out.1, hF.out.2⟩
    clear hS0 hS1 hS2 or sr cx
    simp [results, Tryz.results49, go_sem, hcr]
set_option maxRecDepth 100000 in
set_option maxHeartbeats 4000000 in
theorem takeCmd_1 {w : World} {g : Nat} {r : Rdr} (h : RdrAt w g r) (hk : (rdI r).1 = 1) : Calls Tryz.prog 49 #[dP g] w fun e w' => e = .returned (cmV (takeCm r).1) ∧ RdrAt w' g (takeCm r).2 ∧ Keeps (Own g) w w' := by
  obtain ⟨R, hR⟩ : ∃ x, x = takeCm r := ⟨_, rfl⟩
  rw [← hR]
  have HR : Hid (soundD (cmdOk (cmRaw (rdI r).1 (rdI r).2).1) (cmRaw (rdI r).1 (rdI r).2).1 Cm.zero (cmRaw (rdI r).1 (rdI r).2).2 = R) := Lib.hid (by
    rw [hR]
    unfold takeCm soundD
    rfl)
  obtain ⟨a, ha⟩ : ∃ x, x = rdI r := ⟨_, rfl⟩
  rw [← ha] at HR hk
  have HC : cmRaw a.1 a.2 = (⟨a.1, 0, 0, 0, (takeBd a.2).1, 0⟩, (takeBd a.2).2) := by unfold cmRaw; rw [hk]; rfl
  rw [HC] at HR
  obtain ⟨q, hq⟩ : ∃ x, x = takeBd a.2 := ⟨_, rfl⟩
  rw [← hq] at HR
  have HQ := Lib.hid hq
  obtain ⟨x, hx⟩ : ∃ x : Cm, x = ⟨a.1, 0, 0, 0, q.1, 0⟩ := ⟨_, rfl⟩
  obtain ⟨stt, hst⟩ : ∃ x, x = q.2 := ⟨_, rfl⟩
  have HX : Hid (soundD (cmdOk x) x Cm.zero stt = R) := Lib.hid (by rw [hx, hst]; exact HR.out)
  have HXX := Lib.hid hx
  have HST := Lib.hid hst
  clear HC HR hx hst hq
  have HA := Lib.hid ha
  have CI := Lib.hid (fun W => checkCmd_any W x)
  have hlt := h.lt
  have H := Lib.hid h
  have b1 : (a.1 == 1) = true := by rw [hk]; rfl
  have b2 : (a.1 == 2) = false := by rw [hk]; rfl
  have b3 : (a.1 == 3) = false := by rw [hk]; rfl
  have b4 : (a.1 == 4) = false := by rw [hk]; rfl
  clear hR ha h hk
  go_enter Tryz.func49, Tryz.ntmps49
  go_upto_region 1 with fail
  refine wp_world ?_
  intro W0 hW0
  have R0 : Hid (W0.heap[w.heap.size]? = some (.cells (cmC Cm.zero).toArray 40 (0, 0))) := Lib.hid (by rw [hW0]; exact heap_alloc_new w _)
  have T0 : Keeps No w W0 := by rw [hW0]; exact (Keeps.refl w).alloc _
  have RD0 := Lib.hid (H.out.kept T0 (fun h => h))
  have K0 := Lib.hid T0
  obtain ⟨gr, hgr⟩ : ∃ q, q = w.heap.size := ⟨_, rfl⟩
  have nrg : ¬ gr = g := by omega
  have HG : Hid (w.heap.size ≤ gr) := Lib.hid (by omega)
  rw [← hgr] at R0 ⊢
  clear hW0 T0 hgr H
  go_wp2_with fail
  (with_reducible refine (rInt_any RD0.out).mono ?_)
  rintro e w1 ⟨rfl, hr1, hk1⟩
  rw [← HA.out] at hr1 ⊢
  have RD1 := Lib.hid hr1
  have K1 := Lib.hid (K0.out.own.trans hk1 (fun _ _ h => h))
  have R1 := Lib.hid (hk1.heap R0.out nrg)
  clear hr1 hk1 RD0 R0
  go_upto_region 2 with fail
  refine wp_world ?_
  intro W2 hW2
  have T2 : Keeps No w1 W2 := by rw [hW2]; exact (Keeps.refl w1).alloc _
  have A2 : Hid (TcAt w W2 g w1.heap.size gr ⟨a.1, 0, 0, 0, Bd.zero, 0⟩ a.2) := Lib.hid ⟨RD1.out.kept T2 (fun h => h), by rw [hW2]; exact heap_alloc_new w1 _, T2.heap R1.out (fun h => h), K1.out.trans T2 (fun _ _ h => h.elim)⟩
  obtain ⟨gb, hgb⟩ : ∃ q, q = w1.heap.size := ⟨_, rfl⟩
  have nbg : ¬ gb = g := by have := RD1.out.lt; omega
  have nbr : gb ≠ gr := by have := (Array.getElem?_eq_some_iff.1 R1.out).1; omega
  have HGB : Hid (w.heap.size ≤ gb) := Lib.hid (by have := K1.out.size; omega)
  rw [← hgb] at A2 ⊢
  have c0 : W2.cell? ⟨gb, 0, none⟩ = some (.int .i64 a.1) := A2.out.cell 0
  clear hW2 T2 hgb RD1 K1 R1 K0 HA
  go_wp2_with fail
  (with_reducible refine (takeBd_any A2.out.rd).mono ?_)
  rintro e w5 ⟨rfl, hr5, hk5⟩
  rw [← HQ.out] at hr5 ⊢
  have B5 := Lib.hid (A2.out.call hk5 hr5 nbg nrg)
  have ob5 := B5.out.opened
  have db5 := B5.out.rowIs
  have lb5 := B5.out.lt
  clear hr5 hk5
  go_upto_region 13 with fail
  refine wp_world ?_
  intro W hW
  have TF : Hid (TcAt w W g gb gr x stt) := Lib.hid (by rw [hW, HXX.out, HST.out]; exact B5.out.row nbg nbr HGB.out ⟨a.1, 0, 0, 0, q.1, 0⟩)
  have cx : cellsAt W gb 0 16 = some (cmC x) := by unfold cellsAt; rw [TF.out.bx]; rfl
  have or : Open W gr := ⟨_, _, TF.out.r⟩
  have sr : (rowD W gr).size = 16 := by unfold rowD; rw [TF.out.r]; rfl
  have RW := Lib.hid TF.out.rd
  have KW := Lib.hid TF.out.k
  have lx := TF.out.lt
  clear hW TF c0 ob5 db5 lb5
  have hS0 : cellsAt W gb 0 16 = some (cmC x) ∧ Open W gr ∧ (rowD W gr).size = 16 := ⟨cx, or, sr⟩
  go_region_held3 (fun w' => cellsAt w' gb 0 16 = some (cmC x) ∧ Open w' gr ∧ (rowD w' gr).size = 16)
    (first | exact hS0 | exact hS1 | exact hS2 | exact ⟨(cellsAt_setRow_far _ _ _ _ _ _ nbr).trans hS2.1, (open_setRow _ _ _ _).2 hS2.2.1, by rw [rowD_setRow_at _ _ _ hS2.2.1]; rfl⟩)
    (first
      | (go_at_call 61
         have hc := CI.out
         with_reducible refine (hc _).mono ?_
         clear hc
         rintro e w5 ⟨rfl, hg⟩
         have hS1 : cellsAt w5 gb 0 16 = some (cmC x) ∧ Open w5 gr ∧ (rowD w5 gr).size = 16 := ⟨hg.keeps.cellsAt cx, hg.keeps.opened or, hg.keeps.rowSize or sr⟩
         have RX := Lib.hid ((RW.out.kept (Keeps.refl (S := No) W).drew (fun h => h)).kept hg.keeps (fun h => h))
         have KX := Lib.hid (KW.out.drew.trans hg.keeps (fun _ _ h => h.elim))
         have lx1 : gb < w5.heap.size := Nat.lt_of_lt_of_le lx hg.keeps.size)
      | (go_at_call 93
         refine (soundCmd_any RX.out x (cmdOk x)).mono ?_
         rintro e w6 ⟨rfl, hr2, hk2⟩
         rw [HX.out] at hr2 ⊢
         have hS2 : cellsAt w6 gb 0 16 = some (cmC x) ∧ Open w6 gr ∧ (rowD w6 gr).size = 16 := ⟨hk2.cellsOwn hS1.1 lx1 nbg, hk2.openOwn hS1.2.1 nrg, hk2.rowSizeOwn hS1.2.1 hS1.2.2 nrg⟩
         have RY := Lib.hid hr2
         have KY := Lib.hid (KX.out.trans hk2 (fun _ _ h => h))))
  all_goals go_wp2_with fail
  all_goals
    have ng2 : ¬ g = gr := fun e => nrg e.symm
    have hcr : cellsAt (w6.setRow gr #[.int .i64 R.1.k, .int .i64 R.1.s, .int .i64 R.1.i, .int .i64 R.1.g, .int .i64 R.1.b.s, .int .i64 R.1.b.i, .int .i64 R.1.b.g, .int .i64 R.1.b.m, .int .i64 R.1.b.x, .int .i64 R.1.b.y, .int .i64 R.1.b.vx, .int .i64 R.1.b.vy, .int .i64 R.1.b.hp, .int .i64 R.1.b.pw, .int .i64 R.1.b.lf, .int .i64 R.1.m]) gr 0 16 = some (cmC R.1) := by rw [cellsAt_setRow_at _ _ _ _ _ hS2.2.1]; rfl
    have hF : Hid (RdrAt (w6.setRow gr #[.int .i64 R.1.k, .int .i64 R.1.s, .int .i64 R.1.i, .int .i64 R.1.g, .int .i64 R.1.b.s, .int .i64 R.1.b.i, .int .i64 R.1.b.g, .int .i64 R.1.b.m, .int .i64 R.1.b.x, .int .i64 R.1.b.y, .int .i64 R.1.b.vx, .int .i64 R.1.b.vy, .int .i64 R.1.b.hp, .int .i64 R.1.b.pw, .int .i64 R.1.b.lf, .int .i64 R.1.m]) g R.2 ∧ Keeps (Own g) w (w6.setRow gr #[.int .i64 R.1.k, .int .i64 R.1.s, .int .i64 R.1.i, .int .i64 R.1.g, .int .i64 R.1.b.s, .int .i64 R.1.b.i, .int .i64 R.1.b.g, .int .i64 R.1.b.m, .int .i64 R.1.b.x, .int .i64 R.1.b.y, .int .i64 R.1.b.vx, .int .i64 R.1.b.vy, .int .i64 R.1.b.hp, .int .i64 R.1.b.pw, .int .i64 R.1.b.lf, .int .i64 R.1.m])) := Lib.hid ⟨RY.out.kept ((Keeps.refl (S := Own gr) w6).setRow (fun _ => (rfl : gr = gr)) _) ng2, KY.out.setRow (fun h => absurd h (Nat.not_lt.2 HG.out)) _⟩
    refine bodyPost_ret (v := cmV R.1) ?_ rfl ⟨rfl, hF.out.1, hF.out.2⟩
    clear hS0 hS1 hS2 or sr cx
    simp [results, Tryz.results49, go_sem, hcr]
set_option maxRecDepth 100000 in
set_option maxHeartbeats 4000000 in
theorem takeCmd_2 {w : World} {g : Nat} {r : Rdr} (h : RdrAt w g r) (hk : (rdI r).1 = 2) : Calls Tryz.prog 49 #[dP g] w fun e w' => e = .returned (cmV (takeCm r).1) ∧ RdrAt w' g (takeCm r).2 ∧ Keeps (Own g) w w' := by
  obtain ⟨R, hR⟩ : ∃ x, x = takeCm r := ⟨_, rfl⟩
  rw [← hR]
  have HR : Hid (soundD (cmdOk (cmRaw (rdI r).1 (rdI r).2).1) (cmRaw (rdI r).1 (rdI r).2).1 Cm.zero (cmRaw (rdI r).1 (rdI r).2).2 = R) := Lib.hid (by
    rw [hR]
    unfold takeCm soundD
    rfl)
  obtain ⟨a, ha⟩ : ∃ x, x = rdI r := ⟨_, rfl⟩
  rw [← ha] at HR hk
  have HC : cmRaw a.1 a.2 = (⟨a.1, (takeNam a.2).1.s, (takeNam a.2).1.i, (takeNam a.2).1.g, Bd.zero, 0⟩, (takeNam a.2).2) := by unfold cmRaw; rw [hk]; rfl
  rw [HC] at HR
  obtain ⟨p, hp⟩ : ∃ x, x = takeNam a.2 := ⟨_, rfl⟩
  rw [← hp] at HR
  have HP := Lib.hid hp
  obtain ⟨x, hx⟩ : ∃ x : Cm, x = ⟨a.1, p.1.s, p.1.i, p.1.g, Bd.zero, 0⟩ := ⟨_, rfl⟩
  obtain ⟨stt, hst⟩ : ∃ x, x = p.2 := ⟨_, rfl⟩
  have HX : Hid (soundD (cmdOk x) x Cm.zero stt = R) := Lib.hid (by rw [hx, hst]; exact HR.out)
  have HXX := Lib.hid hx
  have HST := Lib.hid hst
  clear HC HR hx hst hp
  have HA := Lib.hid ha
  have CI := Lib.hid (fun W => checkCmd_any W x)
  have hlt := h.lt
  have H := Lib.hid h
  have b1 : (a.1 == 1) = false := by rw [hk]; rfl
  have b2 : (a.1 == 2) = true := by rw [hk]; rfl
  have b3 : (a.1 == 3) = false := by rw [hk]; rfl
  have b4 : (a.1 == 4) = false := by rw [hk]; rfl
  clear hR ha h hk
  go_enter Tryz.func49, Tryz.ntmps49
  go_upto_region 1 with fail
  refine wp_world ?_
  intro W0 hW0
  have R0 : Hid (W0.heap[w.heap.size]? = some (.cells (cmC Cm.zero).toArray 40 (0, 0))) := Lib.hid (by rw [hW0]; exact heap_alloc_new w _)
  have T0 : Keeps No w W0 := by rw [hW0]; exact (Keeps.refl w).alloc _
  have RD0 := Lib.hid (H.out.kept T0 (fun h => h))
  have K0 := Lib.hid T0
  obtain ⟨gr, hgr⟩ : ∃ q, q = w.heap.size := ⟨_, rfl⟩
  have nrg : ¬ gr = g := by omega
  have HG : Hid (w.heap.size ≤ gr) := Lib.hid (by omega)
  rw [← hgr] at R0 ⊢
  clear hW0 T0 hgr H
  go_wp2_with fail
  (with_reducible refine (rInt_any RD0.out).mono ?_)
  rintro e w1 ⟨rfl, hr1, hk1⟩
  rw [← HA.out] at hr1 ⊢
  have RD1 := Lib.hid hr1
  have K1 := Lib.hid (K0.out.own.trans hk1 (fun _ _ h => h))
  have R1 := Lib.hid (hk1.heap R0.out nrg)
  clear hr1 hk1 RD0 R0
  go_upto_region 2 with fail
  refine wp_world ?_
  intro W2 hW2
  have T2 : Keeps No w1 W2 := by rw [hW2]; exact (Keeps.refl w1).alloc _
  have A2 : Hid (TcAt w W2 g w1.heap.size gr ⟨a.1, 0, 0, 0, Bd.zero, 0⟩ a.2) := Lib.hid ⟨RD1.out.kept T2 (fun h => h), by rw [hW2]; exact heap_alloc_new w1 _, T2.heap R1.out (fun h => h), K1.out.trans T2 (fun _ _ h => h.elim)⟩
  obtain ⟨gb, hgb⟩ : ∃ q, q = w1.heap.size := ⟨_, rfl⟩
  have nbg : ¬ gb = g := by have := RD1.out.lt; omega
  have nbr : gb ≠ gr := by have := (Array.getElem?_eq_some_iff.1 R1.out).1; omega
  have HGB : Hid (w.heap.size ≤ gb) := Lib.hid (by have := K1.out.size; omega)
  rw [← hgb] at A2 ⊢
  have c0 : W2.cell? ⟨gb, 0, none⟩ = some (.int .i64 a.1) := A2.out.cell 0
  clear hW2 T2 hgb RD1 K1 R1 K0 HA
  go_wp2_with fail
  (with_reducible refine (takeNam_any A2.out.rd).mono ?_)
  rintro e w5 ⟨rfl, hr5, hk5⟩
  rw [← HP.out] at hr5 ⊢
  have B5 := Lib.hid (A2.out.call hk5 hr5 nbg nrg)
  have ob5 := B5.out.opened
  have db5 := B5.out.rowIs
  have lb5 := B5.out.lt
  clear hr5 hk5
  go_upto_region 13 with fail
  refine wp_world ?_
  intro W hW
  have TF : Hid (TcAt w W g gb gr x stt) := Lib.hid (by rw [hW, HXX.out, HST.out]; exact B5.out.row nbg nbr HGB.out ⟨a.1, p.1.s, p.1.i, p.1.g, Bd.zero, 0⟩)
  have cx : cellsAt W gb 0 16 = some (cmC x) := by unfold cellsAt; rw [TF.out.bx]; rfl
  have or : Open W gr := ⟨_, _, TF.out.r⟩
  have sr : (rowD W gr).size = 16 := by unfold rowD; rw [TF.out.r]; rfl
  have RW := Lib.hid TF.out.rd
  have KW := Lib.hid TF.out.k
  have lx := TF.out.lt
  clear hW TF c0 ob5 db5 lb5
  have hS0 : cellsAt W gb 0 16 = some (cmC x) ∧ Open W gr ∧ (rowD W gr).size = 16 := ⟨cx, or, sr⟩
  go_region_held3 (fun w' => cellsAt w' gb 0 16 = some (cmC x) ∧ Open w' gr ∧ (rowD w' gr).size = 16)
    (first | exact hS0 | exact hS1 | exact hS2 | exact ⟨(cellsAt_setRow_far _ _ _ _ _ _ nbr).trans hS2.1, (open_setRow _ _ _ _).2 hS2.2.1, by rw [rowD_setRow_at _ _ _ hS2.2.1]; rfl⟩)
    (first
      | (go_at_call 61
         have hc := CI.out
         with_reducible refine (hc _).mono ?_
         clear hc
         rintro e w5 ⟨rfl, hg⟩
         have hS1 : cellsAt w5 gb 0 16 = some (cmC x) ∧ Open w5 gr ∧ (rowD w5 gr).size = 16 := ⟨hg.keeps.cellsAt cx, hg.keeps.opened or, hg.keeps.rowSize or sr⟩
         have RX := Lib.hid ((RW.out.kept (Keeps.refl (S := No) W).drew (fun h => h)).kept hg.keeps (fun h => h))
         have KX := Lib.hid (KW.out.drew.trans hg.keeps (fun _ _ h => h.elim))
         have lx1 : gb < w5.heap.size := Nat.lt_of_lt_of_le lx hg.keeps.size)
      | (go_at_call 93
         refine (soundCmd_any RX.out x (cmdOk x)).mono ?_
         rintro e w6 ⟨rfl, hr2, hk2⟩
         rw [HX.out] at hr2 ⊢
         have hS2 : cellsAt w6 gb 0 16 = some (cmC x) ∧ Open w6 gr ∧ (rowD w6 gr).size = 16 := ⟨hk2.cellsOwn hS1.1 lx1 nbg, hk2.openOwn hS1.2.1 nrg, hk2.rowSizeOwn hS1.2.1 hS1.2.2 nrg⟩
         have RY := Lib.hid hr2
         have KY := Lib.hid (KX.out.trans hk2 (fun _ _ h => h))))
  all_goals go_wp2_with fail
  all_goals
    have ng2 : ¬ g = gr := fun e => nrg e.symm
    have hcr : cellsAt (w6.setRow gr #[.int .i64 R.1.k, .int .i64 R.1.s, .int .i64 R.1.i, .int .i64 R.1.g, .int .i64 R.1.b.s, .int .i64 R.1.b.i, .int .i64 R.1.b.g, .int .i64 R.1.b.m, .int .i64 R.1.b.x, .int .i64 R.1.b.y, .int .i64 R.1.b.vx, .int .i64 R.1.b.vy, .int .i64 R.1.b.hp, .int .i64 R.1.b.pw, .int .i64 R.1.b.lf, .int .i64 R.1.m]) gr 0 16 = some (cmC R.1) := by rw [cellsAt_setRow_at _ _ _ _ _ hS2.2.1]; rfl
    have hF : Hid (RdrAt (w6.setRow gr #[.int .i64 R.1.k, .int .i64 R.1.s, .int .i64 R.1.i, .int .i64 R.1.g, .int .i64 R.1.b.s, .int .i64 R.1.b.i, .int .i64 R.1.b.g, .int .i64 R.1.b.m, .int .i64 R.1.b.x, .int .i64 R.1.b.y, .int .i64 R.1.b.vx, .int .i64 R.1.b.vy, .int .i64 R.1.b.hp, .int .i64 R.1.b.pw, .int .i64 R.1.b.lf, .int .i64 R.1.m]) g R.2 ∧ Keeps (Own g) w (w6.setRow gr #[.int .i64 R.1.k, .int .i64 R.1.s, .int .i64 R.1.i, .int .i64 R.1.g, .int .i64 R.1.b.s, .int .i64 R.1.b.i, .int .i64 R.1.b.g, .int .i64 R.1.b.m, .int .i64 R.1.b.x, .int .i64 R.1.b.y, .int .i64 R.1.b.vx, .int .i64 R.1.b.vy, .int .i64 R.1.b.hp, .int .i64 R.1.b.pw, .int .i64 R.1.b.lf, .int .i64 R.1.m])) := Lib.hid ⟨RY.out.kept ((Keeps.refl (S := Own gr) w6).setRow (fun _ => (rfl : gr = gr)) _) ng2, KY.out.setRow (fun h => absurd h (Nat.not_lt.2 HG.out)) _⟩
    refine bodyPost_ret (v := cmV R.1) ?_ rfl ⟨rfl, hF.out.1, hF.out.2⟩
    clear hS0 hS1 hS2 or sr cx
    simp [results, Tryz.results49, go_sem, hcr]
set_option maxRecDepth 100000 in
set_option maxHeartbeats 4000000 in
theorem takeCmd_3 {w : World} {g : Nat} {r : Rdr} (h : RdrAt w g r) (hk : (rdI r).1 = 3) : Calls Tryz.prog 49 #[dP g] w fun e w' => e = .returned (cmV (takeCm r).1) ∧ RdrAt w' g (takeCm r).2 ∧ Keeps (Own g) w w' := by
  obtain ⟨R, hR⟩ : ∃ x, x = takeCm r := ⟨_, rfl⟩
  rw [← hR]
  have HR : Hid (soundD (cmdOk (cmRaw (rdI r).1 (rdI r).2).1) (cmRaw (rdI r).1 (rdI r).2).1 Cm.zero (cmRaw (rdI r).1 (rdI r).2).2 = R) := Lib.hid (by
    rw [hR]
    unfold takeCm soundD
    rfl)
  obtain ⟨a, ha⟩ : ∃ x, x = rdI r := ⟨_, rfl⟩
  rw [← ha] at HR hk
  have HC : cmRaw a.1 a.2 = (⟨a.1, (takeNam a.2).1.s, (takeNam a.2).1.i, (takeNam a.2).1.g, (takeRest (takeNam a.2).2).1, 0⟩, (takeRest (takeNam a.2).2).2) := by unfold cmRaw; rw [hk]; rfl
  rw [HC] at HR
  obtain ⟨p, hp⟩ : ∃ x, x = takeNam a.2 := ⟨_, rfl⟩
  rw [← hp] at HR
  have HP := Lib.hid hp
  obtain ⟨q, hq⟩ : ∃ x, x = takeRest p.2 := ⟨_, rfl⟩
  rw [← hq] at HR
  have HQ := Lib.hid hq
  obtain ⟨x, hx⟩ : ∃ x : Cm, x = ⟨a.1, p.1.s, p.1.i, p.1.g, q.1, 0⟩ := ⟨_, rfl⟩
  obtain ⟨stt, hst⟩ : ∃ x, x = q.2 := ⟨_, rfl⟩
  have HX : Hid (soundD (cmdOk x) x Cm.zero stt = R) := Lib.hid (by rw [hx, hst]; exact HR.out)
  have HXX := Lib.hid hx
  have HST := Lib.hid hst
  clear HC HR hx hst hp hq
  have HA := Lib.hid ha
  have CI := Lib.hid (fun W => checkCmd_any W x)
  have hlt := h.lt
  have H := Lib.hid h
  have b1 : (a.1 == 1) = false := by rw [hk]; rfl
  have b2 : (a.1 == 2) = false := by rw [hk]; rfl
  have b3 : (a.1 == 3) = true := by rw [hk]; rfl
  have b4 : (a.1 == 4) = false := by rw [hk]; rfl
  clear hR ha h hk
  go_enter Tryz.func49, Tryz.ntmps49
  go_upto_region 1 with fail
  refine wp_world ?_
  intro W0 hW0
  have R0 : Hid (W0.heap[w.heap.size]? = some (.cells (cmC Cm.zero).toArray 40 (0, 0))) := Lib.hid (by rw [hW0]; exact heap_alloc_new w _)
  have T0 : Keeps No w W0 := by rw [hW0]; exact (Keeps.refl w).alloc _
  have RD0 := Lib.hid (H.out.kept T0 (fun h => h))
  have K0 := Lib.hid T0
  obtain ⟨gr, hgr⟩ : ∃ q, q = w.heap.size := ⟨_, rfl⟩
  have nrg : ¬ gr = g := by omega
  have HG : Hid (w.heap.size ≤ gr) := Lib.hid (by omega)
  rw [← hgr] at R0 ⊢
  clear hW0 T0 hgr H
  go_wp2_with fail
  (with_reducible refine (rInt_any RD0.out).mono ?_)
  rintro e w1 ⟨rfl, hr1, hk1⟩
  rw [← HA.out] at hr1 ⊢
  have RD1 := Lib.hid hr1
  have K1 := Lib.hid (K0.out.own.trans hk1 (fun _ _ h => h))
  have R1 := Lib.hid (hk1.heap R0.out nrg)
  clear hr1 hk1 RD0 R0
  go_upto_region 2 with fail
  refine wp_world ?_
  intro W2 hW2
  have T2 : Keeps No w1 W2 := by rw [hW2]; exact (Keeps.refl w1).alloc _
  have A2 : Hid (TcAt w W2 g w1.heap.size gr ⟨a.1, 0, 0, 0, Bd.zero, 0⟩ a.2) := Lib.hid ⟨RD1.out.kept T2 (fun h => h), by rw [hW2]; exact heap_alloc_new w1 _, T2.heap R1.out (fun h => h), K1.out.trans T2 (fun _ _ h => h.elim)⟩
  obtain ⟨gb, hgb⟩ : ∃ q, q = w1.heap.size := ⟨_, rfl⟩
  have nbg : ¬ gb = g := by have := RD1.out.lt; omega
  have nbr : gb ≠ gr := by have := (Array.getElem?_eq_some_iff.1 R1.out).1; omega
  have HGB : Hid (w.heap.size ≤ gb) := Lib.hid (by have := K1.out.size; omega)
  rw [← hgb] at A2 ⊢
  have c0 : W2.cell? ⟨gb, 0, none⟩ = some (.int .i64 a.1) := A2.out.cell 0
  clear hW2 T2 hgb RD1 K1 R1 K0 HA
  go_wp2_with fail
  (with_reducible refine (takeNam_any A2.out.rd).mono ?_)
  rintro e w5 ⟨rfl, hr5, hk5⟩
  rw [← HP.out] at hr5 ⊢
  have B5 := Lib.hid (A2.out.call hk5 hr5 nbg nrg)
  have ob5 := B5.out.opened
  have db5 := B5.out.rowIs
  have lb5 := B5.out.lt
  clear hr5 hk5
  go_upto_region 9 with fail
  refine wp_world ?_
  intro W6 hW6
  have A6 : Hid (TcAt w W6 g gb gr ⟨a.1, p.1.s, p.1.i, p.1.g, Bd.zero, 0⟩ p.2) := Lib.hid (by rw [hW6]; exact B5.out.row nbg nbr HGB.out ⟨a.1, p.1.s, p.1.i, p.1.g, Bd.zero, 0⟩)
  clear hW6 ob5 db5 lb5 c0 B5 A2
  go_wp2_with fail
  (with_reducible refine (takeRest_any A6.out.rd).mono ?_)
  rintro e w7 ⟨rfl, hr7, hk7⟩
  rw [← HQ.out] at hr7 ⊢
  have B7 := Lib.hid (A6.out.call hk7 hr7 nbg nrg)
  have ob7 := B7.out.opened
  have db7 := B7.out.rowIs
  have lb7 := B7.out.lt
  clear hr7 hk7
  go_upto_region 13 with fail
  refine wp_world ?_
  intro W hW
  have TF : Hid (TcAt w W g gb gr x stt) := Lib.hid (by rw [hW, HXX.out, HST.out]; exact B7.out.row nbg nbr HGB.out ⟨a.1, p.1.s, p.1.i, p.1.g, q.1, 0⟩)
  have cx : cellsAt W gb 0 16 = some (cmC x) := by unfold cellsAt; rw [TF.out.bx]; rfl
  have or : Open W gr := ⟨_, _, TF.out.r⟩
  have sr : (rowD W gr).size = 16 := by unfold rowD; rw [TF.out.r]; rfl
  have RW := Lib.hid TF.out.rd
  have KW := Lib.hid TF.out.k
  have lx := TF.out.lt
  clear hW TF ob7 db7 lb7
  have hS0 : cellsAt W gb 0 16 = some (cmC x) ∧ Open W gr ∧ (rowD W gr).size = 16 := ⟨cx, or, sr⟩
  go_region_held3 (fun w' => cellsAt w' gb 0 16 = some (cmC x) ∧ Open w' gr ∧ (rowD w' gr).size = 16)
    (first | exact hS0 | exact hS1 | exact hS2 | exact ⟨(cellsAt_setRow_far _ _ _ _ _ _ nbr).trans hS2.1, (open_setRow _ _ _ _).2 hS2.2.1, by rw [rowD_setRow_at _ _ _ hS2.2.1]; rfl⟩)
    (first
      | (go_at_call 61
         have hc := CI.out
         with_reducible refine (hc _).mono ?_
         clear hc
         rintro e w5 ⟨rfl, hg⟩
         have hS1 : cellsAt w5 gb 0 16 = some (cmC x) ∧ Open w5 gr ∧ (rowD w5 gr).size = 16 := ⟨hg.keeps.cellsAt cx, hg.keeps.opened or, hg.keeps.rowSize or sr⟩
         have RX := Lib.hid ((RW.out.kept (Keeps.refl (S := No) W).drew (fun h => h)).kept hg.keeps (fun h => h))
         have KX := Lib.hid (KW.out.drew.trans hg.keeps (fun _ _ h => h.elim))
         have lx1 : gb < w5.heap.size := Nat.lt_of_lt_of_le lx hg.keeps.size)
      | (go_at_call 93
         refine (soundCmd_any RX.out x (cmdOk x)).mono ?_
         rintro e w6 ⟨rfl, hr2, hk2⟩
         rw [HX.out] at hr2 ⊢
         have hS2 : cellsAt w6 gb 0 16 = some (cmC x) ∧ Open w6 gr ∧ (rowD w6 gr).size = 16 := ⟨hk2.cellsOwn hS1.1 lx1 nbg, hk2.openOwn hS1.2.1 nrg, hk2.rowSizeOwn hS1.2.1 hS1.2.2 nrg⟩
         have RY := Lib.hid hr2
         have KY := Lib.hid (KX.out.trans hk2 (fun _ _ h => h))))
  all_goals go_wp2_with fail
  all_goals
    have ng2 : ¬ g = gr := fun e => nrg e.symm
    have hcr : cellsAt (w6.setRow gr #[.int .i64 R.1.k, .int .i64 R.1.s, .int .i64 R.1.i, .int .i64 R.1.g, .int .i64 R.1.b.s, .int .i64 R.1.b.i, .int .i64 R.1.b.g, .int .i64 R.1.b.m, .int .i64 R.1.b.x, .int .i64 R.1.b.y, .int .i64 R.1.b.vx, .int .i64 R.1.b.vy, .int .i64 R.1.b.hp, .int .i64 R.1.b.pw, .int .i64 R.1.b.lf, .int .i64 R.1.m]) gr 0 16 = some (cmC R.1) := by rw [cellsAt_setRow_at _ _ _ _ _ hS2.2.1]; rfl
    have hF : Hid (RdrAt (w6.setRow gr #[.int .i64 R.1.k, .int .i64 R.1.s, .int .i64 R.1.i, .int .i64 R.1.g, .int .i64 R.1.b.s, .int .i64 R.1.b.i, .int .i64 R.1.b.g, .int .i64 R.1.b.m, .int .i64 R.1.b.x, .int .i64 R.1.b.y, .int .i64 R.1.b.vx, .int .i64 R.1.b.vy, .int .i64 R.1.b.hp, .int .i64 R.1.b.pw, .int .i64 R.1.b.lf, .int .i64 R.1.m]) g R.2 ∧ Keeps (Own g) w (w6.setRow gr #[.int .i64 R.1.k, .int .i64 R.1.s, .int .i64 R.1.i, .int .i64 R.1.g, .int .i64 R.1.b.s, .int .i64 R.1.b.i, .int .i64 R.1.b.g, .int .i64 R.1.b.m, .int .i64 R.1.b.x, .int .i64 R.1.b.y, .int .i64 R.1.b.vx, .int .i64 R.1.b.vy, .int .i64 R.1.b.hp, .int .i64 R.1.b.pw, .int .i64 R.1.b.lf, .int .i64 R.1.m])) := Lib.hid ⟨RY.out.kept ((Keeps.refl (S := Own gr) w6).setRow (fun _ => (rfl : gr = gr)) _) ng2, KY.out.setRow (fun h => absurd h (Nat.not_lt.2 HG.out)) _⟩
    refine bodyPost_ret (v := cmV R.1) ?_ rfl ⟨rfl, hF.out.1, hF.out.2⟩
    clear hS0 hS1 hS2 or sr cx
    simp [results, Tryz.results49, go_sem, hcr]
set_option maxRecDepth 100000 in
set_option maxHeartbeats 4000000 in
theorem takeCmd_4 {w : World} {g : Nat} {r : Rdr} (h : RdrAt w g r) (hk : (rdI r).1 = 4) : Calls Tryz.prog 49 #[dP g] w fun e w' => e = .returned (cmV (takeCm r).1) ∧ RdrAt w' g (takeCm r).2 ∧ Keeps (Own g) w w' := by
  obtain ⟨R, hR⟩ : ∃ x, x = takeCm r := ⟨_, rfl⟩
  rw [← hR]
  have HR : Hid (soundD (cmdOk (cmRaw (rdI r).1 (rdI r).2).1) (cmRaw (rdI r).1 (rdI r).2).1 Cm.zero (cmRaw (rdI r).1 (rdI r).2).2 = R) := Lib.hid (by
    rw [hR]
    unfold takeCm soundD
    rfl)
  obtain ⟨a, ha⟩ : ∃ x, x = rdI r := ⟨_, rfl⟩
  rw [← ha] at HR hk
  have HC : cmRaw a.1 a.2 = (⟨a.1, (takeNam a.2).1.s, (takeNam a.2).1.i, (takeNam a.2).1.g, Bd.zero, (rdI (takeNam a.2).2).1⟩, (rdI (takeNam a.2).2).2) := by unfold cmRaw; rw [hk]; rfl
  rw [HC] at HR
  obtain ⟨p, hp⟩ : ∃ x, x = takeNam a.2 := ⟨_, rfl⟩
  rw [← hp] at HR
  have HP := Lib.hid hp
  obtain ⟨q, hq⟩ : ∃ x, x = rdI p.2 := ⟨_, rfl⟩
  rw [← hq] at HR
  have HQ := Lib.hid hq
  obtain ⟨x, hx⟩ : ∃ x : Cm, x = ⟨a.1, p.1.s, p.1.i, p.1.g, Bd.zero, q.1⟩ := ⟨_, rfl⟩
  obtain ⟨stt, hst⟩ : ∃ x, x = q.2 := ⟨_, rfl⟩
  have HX : Hid (soundD (cmdOk x) x Cm.zero stt = R) := Lib.hid (by rw [hx, hst]; exact HR.out)
  have HXX := Lib.hid hx
  have HST := Lib.hid hst
  clear HC HR hx hst hp hq
  have HA := Lib.hid ha
  have CI := Lib.hid (fun W => checkCmd_any W x)
  have hlt := h.lt
  have H := Lib.hid h
  have b1 : (a.1 == 1) = false := by rw [hk]; rfl
  have b2 : (a.1 == 2) = false := by rw [hk]; rfl
  have b3 : (a.1 == 3) = false := by rw [hk]; rfl
  have b4 : (a.1 == 4) = true := by rw [hk]; rfl
  clear hR ha h hk
  go_enter Tryz.func49, Tryz.ntmps49
  go_upto_region 1 with fail
  refine wp_world ?_
  intro W0 hW0
  have R0 : Hid (W0.heap[w.heap.size]? = some (.cells (cmC Cm.zero).toArray 40 (0, 0))) := Lib.hid (by rw [hW0]; exact heap_alloc_new w _)
  have T0 : Keeps No w W0 := by rw [hW0]; exact (Keeps.refl w).alloc _
  have RD0 := Lib.hid (H.out.kept T0 (fun h => h))
  have K0 := Lib.hid T0
  obtain ⟨gr, hgr⟩ : ∃ q, q = w.heap.size := ⟨_, rfl⟩
  have nrg : ¬ gr = g := by omega
  have HG : Hid (w.heap.size ≤ gr) := Lib.hid (by omega)
  rw [← hgr] at R0 ⊢
  clear hW0 T0 hgr H
  go_wp2_with fail
  (with_reducible refine (rInt_any RD0.out).mono ?_)
  rintro e w1 ⟨rfl, hr1, hk1⟩
  rw [← HA.out] at hr1 ⊢
  have RD1 := Lib.hid hr1
  have K1 := Lib.hid (K0.out.own.trans hk1 (fun _ _ h => h))
  have R1 := Lib.hid (hk1.heap R0.out nrg)
  clear hr1 hk1 RD0 R0
  go_upto_region 2 with fail
  refine wp_world ?_
  intro W2 hW2
  have T2 : Keeps No w1 W2 := by rw [hW2]; exact (Keeps.refl w1).alloc _
  have A2 : Hid (TcAt w W2 g w1.heap.size gr ⟨a.1, 0, 0, 0, Bd.zero, 0⟩ a.2) := Lib.hid ⟨RD1.out.kept T2 (fun h => h), by rw [hW2]; exact heap_alloc_new w1 _, T2.heap R1.out (fun h => h), K1.out.trans T2 (fun _ _ h => h.elim)⟩
  obtain ⟨gb, hgb⟩ : ∃ q, q = w1.heap.size := ⟨_, rfl⟩
  have nbg : ¬ gb = g := by have := RD1.out.lt; omega
  have nbr : gb ≠ gr := by have := (Array.getElem?_eq_some_iff.1 R1.out).1; omega
  have HGB : Hid (w.heap.size ≤ gb) := Lib.hid (by have := K1.out.size; omega)
  rw [← hgb] at A2 ⊢
  have c0 : W2.cell? ⟨gb, 0, none⟩ = some (.int .i64 a.1) := A2.out.cell 0
  clear hW2 T2 hgb RD1 K1 R1 K0 HA
  go_wp2_with fail
  (with_reducible refine (takeNam_any A2.out.rd).mono ?_)
  rintro e w5 ⟨rfl, hr5, hk5⟩
  rw [← HP.out] at hr5 ⊢
  have B5 := Lib.hid (A2.out.call hk5 hr5 nbg nrg)
  have ob5 := B5.out.opened
  have db5 := B5.out.rowIs
  have lb5 := B5.out.lt
  clear hr5 hk5
  go_upto_region 12 with fail
  refine wp_world ?_
  intro W6 hW6
  have A6 : Hid (TcAt w W6 g gb gr ⟨a.1, p.1.s, p.1.i, p.1.g, Bd.zero, 0⟩ p.2) := Lib.hid (by rw [hW6]; exact B5.out.row nbg nbr HGB.out ⟨a.1, p.1.s, p.1.i, p.1.g, Bd.zero, 0⟩)
  clear hW6 ob5 db5 lb5 c0 B5 A2
  go_wp2_with fail
  (with_reducible refine (rInt_any A6.out.rd).mono ?_)
  rintro e w7 ⟨rfl, hr7, hk7⟩
  rw [← HQ.out] at hr7 ⊢
  have B7 := Lib.hid (A6.out.call hk7 hr7 nbg nrg)
  have ob7 := B7.out.opened
  have db7 := B7.out.rowIs
  have lb7 := B7.out.lt
  clear hr7 hk7
  have c7 : w7.cell? ⟨gb, 15, none⟩ = some (.int .i64 0) := B7.out.cell 15
  have f7 : w7.frozen? ⟨gb, 15, none⟩ = false := ob7.frozen 15
  go_upto_region 13 with fail
  refine wp_world ?_
  intro W hW
  have TF : Hid (TcAt w W g gb gr x stt) := Lib.hid (by rw [hW, HXX.out, HST.out]; exact B7.out.put ((Keeps.refl (S := Own gb) w7).setCell (p := ⟨gb, 15, none⟩) (fun _ => (rfl : gb = gb)) _) (heap_setCell_at B7.out.bx _) nbg nbr HGB.out)
  have cx : cellsAt W gb 0 16 = some (cmC x) := by unfold cellsAt; rw [TF.out.bx]; rfl
  have or : Open W gr := ⟨_, _, TF.out.r⟩
  have sr : (rowD W gr).size = 16 := by unfold rowD; rw [TF.out.r]; rfl
  have RW := Lib.hid TF.out.rd
  have KW := Lib.hid TF.out.k
  have lx := TF.out.lt
  clear hW TF ob7 db7 lb7 c7 f7
  have hS0 : cellsAt W gb 0 16 = some (cmC x) ∧ Open W gr ∧ (rowD W gr).size = 16 := ⟨cx, or, sr⟩
  go_region_held3 (fun w' => cellsAt w' gb 0 16 = some (cmC x) ∧ Open w' gr ∧ (rowD w' gr).size = 16)
    (first | exact hS0 | exact hS1 | exact hS2 | exact ⟨(cellsAt_setRow_far _ _ _ _ _ _ nbr).trans hS2.1, (open_setRow _ _ _ _).2 hS2.2.1, by rw [rowD_setRow_at _ _ _ hS2.2.1]; rfl⟩)
    (first
      | (go_at_call 61
         have hc := CI.out
         with_reducible refine (hc _).mono ?_
         clear hc
         rintro e w5 ⟨rfl, hg⟩
         have hS1 : cellsAt w5 gb 0 16 = some (cmC x) ∧ Open w5 gr ∧ (rowD w5 gr).size = 16 := ⟨hg.keeps.cellsAt cx, hg.keeps.opened or, hg.keeps.rowSize or sr⟩
         have RX := Lib.hid ((RW.out.kept (Keeps.refl (S := No) W).drew (fun h => h)).kept hg.keeps (fun h => h))
         have KX := Lib.hid (KW.out.drew.trans hg.keeps (fun _ _ h => h.elim))
         have lx1 : gb < w5.heap.size := Nat.lt_of_lt_of_le lx hg.keeps.size)
      | (go_at_call 93
         refine (soundCmd_any RX.out x (cmdOk x)).mono ?_
         rintro e w6 ⟨rfl, hr2, hk2⟩
         rw [HX.out] at hr2 ⊢
         have hS2 : cellsAt w6 gb 0 16 = some (cmC x) ∧ Open w6 gr ∧ (rowD w6 gr).size = 16 := ⟨hk2.cellsOwn hS1.1 lx1 nbg, hk2.openOwn hS1.2.1 nrg, hk2.rowSizeOwn hS1.2.1 hS1.2.2 nrg⟩
         have RY := Lib.hid hr2
         have KY := Lib.hid (KX.out.trans hk2 (fun _ _ h => h))))
  all_goals go_wp2_with fail
  all_goals
    have ng2 : ¬ g = gr := fun e => nrg e.symm
    have hcr : cellsAt (w6.setRow gr #[.int .i64 R.1.k, .int .i64 R.1.s, .int .i64 R.1.i, .int .i64 R.1.g, .int .i64 R.1.b.s, .int .i64 R.1.b.i, .int .i64 R.1.b.g, .int .i64 R.1.b.m, .int .i64 R.1.b.x, .int .i64 R.1.b.y, .int .i64 R.1.b.vx, .int .i64 R.1.b.vy, .int .i64 R.1.b.hp, .int .i64 R.1.b.pw, .int .i64 R.1.b.lf, .int .i64 R.1.m]) gr 0 16 = some (cmC R.1) := by rw [cellsAt_setRow_at _ _ _ _ _ hS2.2.1]; rfl
    have hF : Hid (RdrAt (w6.setRow gr #[.int .i64 R.1.k, .int .i64 R.1.s, .int .i64 R.1.i, .int .i64 R.1.g, .int .i64 R.1.b.s, .int .i64 R.1.b.i, .int .i64 R.1.b.g, .int .i64 R.1.b.m, .int .i64 R.1.b.x, .int .i64 R.1.b.y, .int .i64 R.1.b.vx, .int .i64 R.1.b.vy, .int .i64 R.1.b.hp, .int .i64 R.1.b.pw, .int .i64 R.1.b.lf, .int .i64 R.1.m]) g R.2 ∧ Keeps (Own g) w (w6.setRow gr #[.int .i64 R.1.k, .int .i64 R.1.s, .int .i64 R.1.i, .int .i64 R.1.g, .int .i64 R.1.b.s, .int .i64 R.1.b.i, .int .i64 R.1.b.g, .int .i64 R.1.b.m, .int .i64 R.1.b.x, .int .i64 R.1.b.y, .int .i64 R.1.b.vx, .int .i64 R.1.b.vy, .int .i64 R.1.b.hp, .int .i64 R.1.b.pw, .int .i64 R.1.b.lf, .int .i64 R.1.m])) := Lib.hid ⟨RY.out.kept ((Keeps.refl (S := Own gr) w6).setRow (fun _ => (rfl : gr = gr)) _) ng2, KY.out.setRow (fun h => absurd h (Nat.not_lt.2 HG.out)) _⟩
    refine bodyPost_ret (v := cmV R.1) ?_ rfl ⟨rfl, hF.out.1, hF.out.2⟩
    clear hS0 hS1 hS2 or sr cx
    simp [results, Tryz.results49, go_sem, hcr]
theorem takeCmd_any {w : World} {g : Nat} {r : Rdr} (h : RdrAt w g r) : Calls Tryz.prog 49 #[dP g] w fun e w' => e = .returned (cmV (takeCm r).1) ∧ RdrAt w' g (takeCm r).2 ∧ Keeps (Own g) w w' := by
  by_cases h1 : (rdI r).1 = 1
  · exact takeCmd_1 h h1
  by_cases h2 : (rdI r).1 = 2
  · exact takeCmd_2 h h2
  by_cases h3 : (rdI r).1 = 3
  · exact takeCmd_3 h h3
  by_cases h4 : (rdI r).1 = 4
  · exact takeCmd_4 h h4
  exact takeCmd_else h ⟨h1, h2, h3, h4⟩
end Go.Proofs.YtndjnkjcfdaegaaGreatDoor

/-
  codec.PutCmd: a command, put. No conditions of its own.
-/
namespace Go.Proofs.YtndjnkjcfdaegaaGreatDoor
open Go.RowKit Go.Shelf Go.Sort Go.Joins Go.Deep

theorem octInt1d (W : World) (n : Int) (hn : i64 n) : Calls Tryz.prog 102 #[.slice (some ⟨W.heap.size, 0, none⟩) 1 1] (W.alloc (.cells #[.int .i64 n] 3)).drew fun e w' => e = .returned (.string (toB (layI n))) ∧ Keeps No (W.alloc (.cells #[.int .i64 n] 3)).drew w' := octInt1 W.drew n hn
theorem calls_toB {f : FuncId} {args : Array Value} {L : Nm} {X : ByteArray} (hX : X = toB L) {W : World} (h : Calls Tryz.prog f args W fun e w' => e = .returned (.string (toB L)) ∧ Keeps No W w') : Calls Tryz.prog f args W fun e w' => e = .returned (.string X) ∧ Keeps No W w' := by
  rw [hX]
  exact h
theorem octIntG (W : World) (v : Value) (n : Int) (h : RdZ W v [n]) (hn : i64 n) : Calls Tryz.prog 102 #[v] W fun e w' => e = .returned (.string (toB (layI n))) ∧ Keeps No W w' := by
  refine (octInt_any _ _ [n] h (by simp) (by intro x hx; rw [List.mem_singleton] at hx; rw [hx]; exact hn)).mono ?_
  rintro e w' ⟨rfl, hk⟩
  exact ⟨by simp [bytesZ]; rfl, hk⟩
theorem putBd_le (b : Bd) : (putBd b).length ≤ 99 := by
  unfold putBd
  cases bdOk b
  · simp
  · have h1 := putNam_le b.id
    have h2 := putRest_le b
    simp only [cond_true, List.length_append]
    omega
theorem cmd_kinds {c : Cm} (h : cmdOk c = true) : c.k = 1 ∨ c.k = 2 ∨ c.k = 3 ∨ c.k = 4 := by
  by_cases h1 : c.k = 1
  · exact .inl h1
  by_cases h2 : c.k = 2
  · exact .inr (.inl h2)
  by_cases h3 : c.k = 3
  · exact .inr (.inr (.inl h3))
  by_cases h4 : c.k = 4
  · exact .inr (.inr (.inr h4))
  unfold cmdOk at h
  rw [beq_eq_false_iff_ne.2 h1, beq_eq_false_iff_ne.2 h2, beq_eq_false_iff_ne.2 h3, beq_eq_false_iff_ne.2 h4] at h
  cases h
set_option maxRecDepth 100000 in
set_option maxHeartbeats 2000000 in
theorem putCmd_no (w : World) (c : Cm) (hb : cmdOk c = false) : Calls Tryz.prog 103 #[cmV c] w fun e w' => e = .returned (strB (putCm c)) ∧ Keeps No w w' := by
  obtain ⟨R, hR⟩ : ∃ x, x = strB (putCm c) := ⟨_, rfl⟩
  rw [← hR]
  have CK := Lib.hid (fun W => checkCmd_any W c)
  have HR : Hid (R = .string (toB [])) := Lib.hid (by rw [hR]; unfold putCm; rw [hb]; rfl)
  rw [hb] at CK
  simp only [errB, cond_false] at CK
  clear hb hR
  go_enter Tryz.func103, Tryz.ntmps103
  go_wp2_with fail
  (with_reducible refine (CK.out _).mono ?_)
  rintro e w1 ⟨rfl, hg⟩
  have K1 : Hid (Keeps No w w1) := Lib.hid (((Keeps.refl w).alloc _).trans hg.keeps (fun _ _ h => h))
  clear hg
  go_wp2
  go_ret
  exact ⟨by rw [HR.out]; rfl, K1.out⟩
set_option maxRecDepth 100000 in
set_option maxHeartbeats 4000000 in
theorem putCmd_1 (w : World) (c : Cm) (hb : cmdOk c = true) (hk : c.k = 1) : Calls Tryz.prog 103 #[cmV c] w fun e w' => e = .returned (strB (putCm c)) ∧ Keeps No w w' := by
  obtain ⟨R, hR⟩ : ∃ x, x = strB (putCm c) := ⟨_, rfl⟩
  rw [← hR]
  have CK := Lib.hid (fun W => checkCmd_any W c)
  have hP : putCm c = layI c.k ++ putBd c.b := by unfold putCm; rw [hb, hk]; rfl
  have b1 : (c.k == 1) = true := by rw [hk]; rfl
  have b3 : (c.k == 3) = false := by rw [hk]; rfl
  have b4 : (c.k == 4) = false := by rw [hk]; rfl
  obtain ⟨X0, hX0⟩ : ∃ x, x = toB (layI c.k) := ⟨_, rfl⟩
  have C0 := Lib.hid (fun W => calls_toB hX0 (octInt1 W c.k (by rw [hk]; exact ⟨by omega, by omega⟩)))
  obtain ⟨X1, hX1⟩ : ∃ x, x = toB (putBd c.b) := ⟨_, rfl⟩
  obtain ⟨X2, hX2⟩ : ∃ x, x = toB (layI c.k ++ putBd c.b) := ⟨_, rfl⟩
  have HR : Hid (R = .string X2) := Lib.hid (by rw [hR, hX2, hP]; rfl)
  have hcat := fun W' : World => cat_run W' (layI c.k) (putBd c.b) (by have := layI_le c.k; omega) (by have := putBd_le c.b; omega)
  rw [← hX0, ← hX1, ← hX2] at hcat
  have CA := Lib.hid (fun W => calls_str hX1 (putBd_any W c.b))
  rw [hb] at CK
  simp only [errB, cond_true] at CK
  have cb : cellsAt (w.alloc (.cells (cmC c).toArray 40)) w.heap.size 0 16 = some (cmC c) := by simp [go_sem]
  have CB := Lib.hid cb
  clear hb hR hP cb hX0 hX1 hX2 hk
  go_enter Tryz.func103, Tryz.ntmps103
  go_wp2_with fail
  (with_reducible refine (CK.out _).mono ?_)
  rintro e w1 ⟨rfl, hg⟩
  have K1 : Hid (Keeps No w w1) := Lib.hid (((Keeps.refl w).alloc _).trans hg.keeps (fun _ _ h => h))
  have c1 := hg.keeps.cellsAt CB.out
  have C1 := Lib.hid c1
  have k0 := cellsAt_cell c1 0 _ rfl
  simp only [Nat.zero_add] at k0
  clear hg c1
  go_wp2_with fail
  (with_reducible refine (C0.out _).mono ?_)
  rintro e W ⟨rfl, hk2⟩
  have KW : Hid (Keeps No w W) := Lib.hid ((K1.out.alloc _).trans hk2 (fun _ _ h => h))
  have cW : cellsAt W w.heap.size 0 16 = some (cmC c) := hk2.cellsAt (((Keeps.refl (S := No) w1).alloc _).cellsAt C1.out)
  have m0 := cellsAt_cell cW 0 _ rfl
  have i0 : cellsAt W w.heap.size 1 3 = some (namC c.id) := cellsAt_part cW 1 (namC c.id) rfl (by simp)
  have i4 : cellsAt W w.heap.size 4 11 = some (bdC c.b) := cellsAt_part cW 4 (bdC c.b) rfl (by simp)
  have m15 := cellsAt_cell cW 15 _ rfl
  simp only [Nat.zero_add] at m0 m15
  clear hk2 k0
  clear m15 cW
  go_wp2_with fail
  (with_reducible refine (CA.out _).mono ?_)
  rintro e w5 ⟨rfl, hk5⟩
  have K5 : Hid (Keeps No w w5) := Lib.hid (KW.out.trans hk5 (fun _ _ h => h))
  clear hk5
  go_wp2
  go_ret
  exact ⟨by rw [HR.out]; rfl, K5.out⟩
set_option maxRecDepth 100000 in
set_option maxHeartbeats 4000000 in
theorem putCmd_2 (w : World) (c : Cm) (hb : cmdOk c = true) (hk : c.k = 2) : Calls Tryz.prog 103 #[cmV c] w fun e w' => e = .returned (strB (putCm c)) ∧ Keeps No w w' := by
  obtain ⟨R, hR⟩ : ∃ x, x = strB (putCm c) := ⟨_, rfl⟩
  rw [← hR]
  have CK := Lib.hid (fun W => checkCmd_any W c)
  have hP : putCm c = layI c.k ++ putNam c.id := by unfold putCm; rw [hb, hk]; rfl
  have b1 : (c.k == 1) = false := by rw [hk]; rfl
  have b3 : (c.k == 3) = false := by rw [hk]; rfl
  have b4 : (c.k == 4) = false := by rw [hk]; rfl
  obtain ⟨X0, hX0⟩ : ∃ x, x = toB (layI c.k) := ⟨_, rfl⟩
  have C0 := Lib.hid (fun W => calls_toB hX0 (octInt1 W c.k (by rw [hk]; exact ⟨by omega, by omega⟩)))
  obtain ⟨X1, hX1⟩ : ∃ x, x = toB (putNam c.id) := ⟨_, rfl⟩
  obtain ⟨X2, hX2⟩ : ∃ x, x = toB (layI c.k ++ putNam c.id) := ⟨_, rfl⟩
  have HR : Hid (R = .string X2) := Lib.hid (by rw [hR, hX2, hP]; rfl)
  have hcat := fun W' : World => cat_run W' (layI c.k) (putNam c.id) (by have := layI_le c.k; omega) (by have := putNam_le c.id; omega)
  rw [← hX0, ← hX1, ← hX2] at hcat
  have CA := Lib.hid (fun W => calls_str hX1 (putNam_any W c.id))
  rw [hb] at CK
  simp only [errB, cond_true] at CK
  have cb : cellsAt (w.alloc (.cells (cmC c).toArray 40)) w.heap.size 0 16 = some (cmC c) := by simp [go_sem]
  have CB := Lib.hid cb
  clear hb hR hP cb hX0 hX1 hX2 hk
  go_enter Tryz.func103, Tryz.ntmps103
  go_wp2_with fail
  (with_reducible refine (CK.out _).mono ?_)
  rintro e w1 ⟨rfl, hg⟩
  have K1 : Hid (Keeps No w w1) := Lib.hid (((Keeps.refl w).alloc _).trans hg.keeps (fun _ _ h => h))
  have c1 := hg.keeps.cellsAt CB.out
  have C1 := Lib.hid c1
  have k0 := cellsAt_cell c1 0 _ rfl
  simp only [Nat.zero_add] at k0
  clear hg c1
  go_wp2_with fail
  (with_reducible refine (C0.out _).mono ?_)
  rintro e W ⟨rfl, hk2⟩
  have KW : Hid (Keeps No w W) := Lib.hid ((K1.out.alloc _).trans hk2 (fun _ _ h => h))
  have cW : cellsAt W w.heap.size 0 16 = some (cmC c) := hk2.cellsAt (((Keeps.refl (S := No) w1).alloc _).cellsAt C1.out)
  have m0 := cellsAt_cell cW 0 _ rfl
  have i0 : cellsAt W w.heap.size 1 3 = some (namC c.id) := cellsAt_part cW 1 (namC c.id) rfl (by simp)
  have i4 : cellsAt W w.heap.size 4 11 = some (bdC c.b) := cellsAt_part cW 4 (bdC c.b) rfl (by simp)
  have m15 := cellsAt_cell cW 15 _ rfl
  simp only [Nat.zero_add] at m0 m15
  clear hk2 k0
  clear m15 cW
  go_wp2_with fail
  (with_reducible refine (CA.out _).mono ?_)
  rintro e w5 ⟨rfl, hk5⟩
  have K5 : Hid (Keeps No w w5) := Lib.hid (KW.out.trans hk5 (fun _ _ h => h))
  clear hk5
  go_wp2
  go_ret
  exact ⟨by rw [HR.out]; rfl, K5.out⟩
set_option maxRecDepth 100000 in
set_option maxHeartbeats 4000000 in
theorem putCmd_3 (w : World) (c : Cm) (hb : cmdOk c = true) (hk : c.k = 3) : Calls Tryz.prog 103 #[cmV c] w fun e w' => e = .returned (strB (putCm c)) ∧ Keeps No w w' := by
  obtain ⟨R, hR⟩ : ∃ x, x = strB (putCm c) := ⟨_, rfl⟩
  rw [← hR]
  have CK := Lib.hid (fun W => checkCmd_any W c)
  have hP : putCm c = layI c.k ++ (putNam c.id ++ putRest c.b) := by unfold putCm; rw [hb, hk]; rfl
  have b1 : (c.k == 1) = false := by rw [hk]; rfl
  have b3 : (c.k == 3) = true := by rw [hk]; rfl
  have b4 : (c.k == 4) = false := by rw [hk]; rfl
  have hrt : rightBd c.b = true := by
    unfold cmdOk at hb
    rw [hk] at hb
    simp only [(by decide : ((3 : Int) == 1) = false), (by decide : ((3 : Int) == 2) = false), cond_false, beq_self_eq_true, cond_true, Bool.and_eq_true] at hb
    exact hb.2.2.2.2
  obtain ⟨X0, hX0⟩ : ∃ x, x = toB (layI c.k) := ⟨_, rfl⟩
  have C0 := Lib.hid (fun W => calls_toB hX0 (octInt1 W c.k (by rw [hk]; exact ⟨by omega, by omega⟩)))
  obtain ⟨X1, hX1⟩ : ∃ x, x = toB (putNam c.id) := ⟨_, rfl⟩
  obtain ⟨X2, hX2⟩ : ∃ x, x = toB (putRest c.b) := ⟨_, rfl⟩
  obtain ⟨X3, hX3⟩ : ∃ x, x = toB (layI c.k ++ putNam c.id) := ⟨_, rfl⟩
  obtain ⟨X4, hX4⟩ : ∃ x, x = toB (layI c.k ++ putNam c.id ++ putRest c.b) := ⟨_, rfl⟩
  have HR : Hid (R = .string X4) := Lib.hid (by rw [hR, hX4, hP, List.append_assoc]; rfl)
  have hcat := fun W' : World => cat_run W' (layI c.k) (putNam c.id) (by have := layI_le c.k; omega) (by have := putNam_le c.id; omega)
  rw [← hX0, ← hX1, ← hX3] at hcat
  have hcat2 := fun W' : World => cat_run W' (layI c.k ++ putNam c.id) (putRest c.b) (by have := layI_le c.k; have := putNam_le c.id; rw [List.length_append]; omega) (by have := putRest_le c.b; omega)
  rw [← hX2, ← hX3, ← hX4] at hcat2
  have CA := Lib.hid (fun W => calls_str hX1 (putNam_any W c.id))
  have CP := Lib.hid (fun W => calls_str hX2 (putRest_any W c.b hrt))
  rw [hb] at CK
  simp only [errB, cond_true] at CK
  have cb : cellsAt (w.alloc (.cells (cmC c).toArray 40)) w.heap.size 0 16 = some (cmC c) := by simp [go_sem]
  have CB := Lib.hid cb
  clear hb hR hP cb hX0 hX1 hX2 hX3 hX4 hk hrt
  go_enter Tryz.func103, Tryz.ntmps103
  go_wp2_with fail
  (with_reducible refine (CK.out _).mono ?_)
  rintro e w1 ⟨rfl, hg⟩
  have K1 : Hid (Keeps No w w1) := Lib.hid (((Keeps.refl w).alloc _).trans hg.keeps (fun _ _ h => h))
  have c1 := hg.keeps.cellsAt CB.out
  have C1 := Lib.hid c1
  have k0 := cellsAt_cell c1 0 _ rfl
  simp only [Nat.zero_add] at k0
  clear hg c1
  go_wp2_with fail
  (with_reducible refine (C0.out _).mono ?_)
  rintro e W ⟨rfl, hk2⟩
  have KW : Hid (Keeps No w W) := Lib.hid ((K1.out.alloc _).trans hk2 (fun _ _ h => h))
  have cW : cellsAt W w.heap.size 0 16 = some (cmC c) := hk2.cellsAt (((Keeps.refl (S := No) w1).alloc _).cellsAt C1.out)
  have m0 := cellsAt_cell cW 0 _ rfl
  have i0 : cellsAt W w.heap.size 1 3 = some (namC c.id) := cellsAt_part cW 1 (namC c.id) rfl (by simp)
  have i4 : cellsAt W w.heap.size 4 11 = some (bdC c.b) := cellsAt_part cW 4 (bdC c.b) rfl (by simp)
  have m15 := cellsAt_cell cW 15 _ rfl
  simp only [Nat.zero_add] at m0 m15
  clear hk2 k0
  have LA : ∀ w', Keeps No W w' → cellsAt w' w.heap.size 1 3 = some (namC c.id) := fun w' k => k.cellsAt i0
  have LB : ∀ w', Keeps No W w' → cellsAt w' w.heap.size 4 11 = some (bdC c.b) := fun w' k => k.cellsAt i4
  have LC : ∀ w', Keeps No W w' → w'.cell? ⟨w.heap.size, 15, none⟩ = some (.int .i64 c.m) := fun w' k => k.cell m15 (fun h => h)
  clear m15 cW i0 i4
  go_upto_region 8 with fail
  go_region_held3 (fun w' => Keeps No W w')
    (first | assumption | exact (Keeps.refl W).drew | exact ((Keeps.refl W).alloc _).drew | (refine Keeps.alloc ?_ _; assumption))
    (first
      | (go_at_call 105
         have hc := CA.out
         with_reducible refine (hc _).mono ?_
         clear hc
         rintro e w5 ⟨rfl, hk⟩
         have hS1 : Keeps No W w5 := Keeps.trans (by first | assumption | exact (Keeps.refl W).drew | exact ((Keeps.refl W).alloc _).drew | (refine Keeps.alloc ?_ _; assumption)) hk (fun _ _ h => h))
      | (go_at_call 154
         have hc := CP.out
         with_reducible refine (hc _).mono ?_
         clear hc
         rintro e w6 ⟨rfl, hk⟩
         have hS2 : Keeps No W w6 := Keeps.trans (by first | assumption | exact (Keeps.refl W).drew | exact ((Keeps.refl W).alloc _).drew | (refine Keeps.alloc ?_ _; assumption)) hk (fun _ _ h => h)))
  all_goals go_wp2
  all_goals go_ret
  all_goals exact ⟨by rw [HR.out]; rfl, KW.out.trans hS2 (fun _ _ h => h)⟩
set_option maxRecDepth 100000 in
set_option maxHeartbeats 4000000 in
theorem putCmd_4 (w : World) (c : Cm) (hb : cmdOk c = true) (hk : c.k = 4) : Calls Tryz.prog 103 #[cmV c] w fun e w' => e = .returned (strB (putCm c)) ∧ Keeps No w w' := by
  obtain ⟨R, hR⟩ : ∃ x, x = strB (putCm c) := ⟨_, rfl⟩
  rw [← hR]
  have CK := Lib.hid (fun W => checkCmd_any W c)
  have hP : putCm c = layI c.k ++ (putNam c.id ++ layI c.m) := by unfold putCm; rw [hb, hk]; rfl
  have b1 : (c.k == 1) = false := by rw [hk]; rfl
  have b3 : (c.k == 3) = false := by rw [hk]; rfl
  have b4 : (c.k == 4) = true := by rw [hk]; rfl
  have hmm : i64 c.m := by
    unfold cmdOk at hb
    rw [hk] at hb
    simp only [(by decide : ((4 : Int) == 1) = false), (by decide : ((4 : Int) == 2) = false), (by decide : ((4 : Int) == 3) = false), cond_false, beq_self_eq_true, cond_true, Bool.and_eq_true] at hb
    have h2 := hb.2.2
    unfold takesM at h2
    rw [Bool.and_eq_true] at h2
    exact okI_i64 h2.1
  obtain ⟨X0, hX0⟩ : ∃ x, x = toB (layI c.k) := ⟨_, rfl⟩
  have C0 := Lib.hid (fun W => calls_toB hX0 (octInt1 W c.k (by rw [hk]; exact ⟨by omega, by omega⟩)))
  obtain ⟨X1, hX1⟩ : ∃ x, x = toB (putNam c.id) := ⟨_, rfl⟩
  obtain ⟨X2, hX2⟩ : ∃ x, x = toB (layI c.m) := ⟨_, rfl⟩
  obtain ⟨X3, hX3⟩ : ∃ x, x = toB (layI c.k ++ putNam c.id) := ⟨_, rfl⟩
  obtain ⟨X4, hX4⟩ : ∃ x, x = toB (layI c.k ++ putNam c.id ++ layI c.m) := ⟨_, rfl⟩
  have HR : Hid (R = .string X4) := Lib.hid (by rw [hR, hX4, hP, List.append_assoc]; rfl)
  have hcat := fun W' : World => cat_run W' (layI c.k) (putNam c.id) (by have := layI_le c.k; omega) (by have := putNam_le c.id; omega)
  rw [← hX0, ← hX1, ← hX3] at hcat
  have hcat2 := fun W' : World => cat_run W' (layI c.k ++ putNam c.id) (layI c.m) (by have := layI_le c.k; have := putNam_le c.id; rw [List.length_append]; omega) (by have := layI_le c.m; omega)
  rw [← hX2, ← hX3, ← hX4] at hcat2
  have CA := Lib.hid (fun W => calls_str hX1 (putNam_any W c.id))
  have CP := Lib.hid (fun W => calls_toB hX2 (octInt1 W c.m hmm))
  have CD := Lib.hid (fun W => calls_toB hX2 (octInt1d W c.m hmm))
  have CG := Lib.hid (fun W' v (h : RdZ W' v [c.m]) => calls_toB hX2 (octIntG W' v c.m h hmm))
  rw [hb] at CK
  simp only [errB, cond_true] at CK
  have cb : cellsAt (w.alloc (.cells (cmC c).toArray 40)) w.heap.size 0 16 = some (cmC c) := by simp [go_sem]
  have CB := Lib.hid cb
  clear hb hR hP cb hX0 hX1 hX2 hX3 hX4 hk hmm
  go_enter Tryz.func103, Tryz.ntmps103
  go_wp2_with fail
  (with_reducible refine (CK.out _).mono ?_)
  rintro e w1 ⟨rfl, hg⟩
  have K1 : Hid (Keeps No w w1) := Lib.hid (((Keeps.refl w).alloc _).trans hg.keeps (fun _ _ h => h))
  have c1 := hg.keeps.cellsAt CB.out
  have C1 := Lib.hid c1
  have k0 := cellsAt_cell c1 0 _ rfl
  simp only [Nat.zero_add] at k0
  clear hg c1
  go_wp2_with fail
  (with_reducible refine (C0.out _).mono ?_)
  rintro e W ⟨rfl, hk2⟩
  have KW : Hid (Keeps No w W) := Lib.hid ((K1.out.alloc _).trans hk2 (fun _ _ h => h))
  have cW : cellsAt W w.heap.size 0 16 = some (cmC c) := hk2.cellsAt (((Keeps.refl (S := No) w1).alloc _).cellsAt C1.out)
  have m0 := cellsAt_cell cW 0 _ rfl
  have i0 : cellsAt W w.heap.size 1 3 = some (namC c.id) := cellsAt_part cW 1 (namC c.id) rfl (by simp)
  have i4 : cellsAt W w.heap.size 4 11 = some (bdC c.b) := cellsAt_part cW 4 (bdC c.b) rfl (by simp)
  have m15 := cellsAt_cell cW 15 _ rfl
  simp only [Nat.zero_add] at m0 m15
  clear hk2 k0
  have LA : ∀ w', Keeps No W w' → cellsAt w' w.heap.size 1 3 = some (namC c.id) := fun w' k => k.cellsAt i0
  have LB : ∀ w', Keeps No W w' → cellsAt w' w.heap.size 4 11 = some (bdC c.b) := fun w' k => k.cellsAt i4
  have LC : ∀ w', Keeps No W w' → w'.cell? ⟨w.heap.size, 15, none⟩ = some (.int .i64 c.m) := fun w' k => k.cell m15 (fun h => h)
  clear m15 cW i0 i4
  go_upto_region 10 with fail
  go_region_held3 (fun w' => Keeps No W w')
    (first | assumption | exact (Keeps.refl W).drew | exact ((Keeps.refl W).alloc _).drew | (refine Keeps.alloc ?_ _; assumption))
    (first
      | (go_at_call 105
         have hc := CA.out
         with_reducible refine (hc _).mono ?_
         clear hc
         rintro e w5 ⟨rfl, hk⟩
         have hS1 : Keeps No W w5 := Keeps.trans (by first | assumption | exact (Keeps.refl W).drew | exact ((Keeps.refl W).alloc _).drew | (refine Keeps.alloc ?_ _; assumption)) hk (fun _ _ h => h)
         try (have RZ : RdZ w5 (.slice (some ⟨W.heap.size, 0, none⟩) 1 1) [c.m] := Reads.kept ((Keeps.refl (S := No) (W.alloc (.cells #[.int .i64 c.m] 3))).drew.trans hk (fun _ _ h => h)) (RdZ.lit W [c.m] 3 (by simp)) (fun _ _ h => h)))
      | (go_at_call 102
         have hc := CP.out
         with_reducible refine (hc _).mono ?_
         clear hc
         rintro e w6 ⟨rfl, hk⟩
         have hS2 : Keeps No W w6 := Keeps.trans (by first | assumption | exact (Keeps.refl W).drew | exact ((Keeps.refl W).alloc _).drew | (refine Keeps.alloc ?_ _; assumption)) hk (fun _ _ h => h))
      | (go_at_call 102
         have hc := CD.out
         with_reducible refine (hc _).mono ?_
         clear hc
         rintro e w6 ⟨rfl, hk⟩
         have hS2 : Keeps No W w6 := Keeps.trans (by first | assumption | exact (Keeps.refl W).drew | exact ((Keeps.refl W).alloc _).drew | (refine Keeps.alloc ?_ _; assumption)) hk (fun _ _ h => h))
      | (go_at_call 102
         have hc := CG.out
         with_reducible refine (hc _ _ RZ).mono ?_
         clear hc
         rintro e w6 ⟨rfl, hk⟩
         have hS2 : Keeps No W w6 := Keeps.trans (by first | assumption | exact (Keeps.refl W).drew | exact ((Keeps.refl W).alloc _).drew | (refine Keeps.alloc ?_ _; assumption)) hk (fun _ _ h => h)))
  all_goals go_wp2
  all_goals go_ret
  all_goals exact ⟨by rw [HR.out]; rfl, KW.out.trans hS2 (fun _ _ h => h)⟩
theorem putCmd_any (w : World) (c : Cm) : Calls Tryz.prog 103 #[cmV c] w fun e w' => e = .returned (strB (putCm c)) ∧ Keeps No w w' := by
  cases hb : cmdOk c with
  | false => exact putCmd_no w c hb
  | true =>
    rcases cmd_kinds hb with h | h | h | h
    · exact putCmd_1 w c hb h
    · exact putCmd_2 w c hb h
    · exact putCmd_3 w c hb h
    · exact putCmd_4 w c hb h
end Go.Proofs.YtndjnkjcfdaegaaGreatDoor

/-
  strings.Builder, as the call itself has made it; codec.List over names. (The walks of copyCheck and WriteString are the library's own, turned to this program: the library's layings do not fit where the loader refuses the panic's text.) No conditions of its own.
-/
namespace Go.Proofs.YtndjnkjcfdaegaaGreatDoor
open Go.RowKit Go.Shelf Go.Sort Go.Joins Go.Deep

theorem Tryz.bldSize : (Tryz.prog.info? 228).map (·.size) = some 2 := by kernel_rfl
theorem Tryz.bldLies : liesAt Tryz.prog Tryz.prog.depth 228 (2 / Tryz.prog.cellsOf 228) 0 228 1 = true := by kernel_rfl
abbrev IsBld (B b : Nat) (bs : List Value) (w : World) : Prop := Lib.IsBuilder 228 5 B b bs w
abbrev BldAt (B b : Nat) (bs : List Value) (w : World) : Prop := Lib.BuilderAt 228 5 B b (.pointer (some ⟨b, 0, none⟩)) bs w
set_option maxRecDepth 100000 in
set_option maxHeartbeats 1000000 in
theorem bldCheck_used (b : Nat) (w : World) (h0 : w.cell? ⟨b, 0, none⟩ = some (.pointer (some ⟨b, 0, none⟩))) :
    Calls Tryz.prog 195 #[.pointer (some ⟨b, 0, none⟩)] w fun e w' => e = .returned (.tuple #[]) ∧ w' = w := by
  obtain ⟨j, hj, _⟩ := Option.map_eq_some_iff.1 Tryz.bldSize
  go_enter Tryz.func195, Tryz.ntmps195
  go_wp2
  rw [Lib.run_neq_ptr_same w _ Tryz.underlying226 hj]
  go_wp2
  go_end0
  exact ⟨rfl, rfl⟩
set_option maxRecDepth 100000 in
set_option maxHeartbeats 1000000 in
theorem bldCheck_fresh (b : Nat) (w : World) (h0 : w.cell? ⟨b, 0, none⟩ = some (.pointer none)) (hsh : w.shape? b = some (228, 2)) (hfz : w.frozen? ⟨b, 0, none⟩ = false) :
    Calls Tryz.prog 195 #[.pointer (some ⟨b, 0, none⟩)] w fun e w' => e = .returned (.tuple #[]) ∧ w' = w.setCell ⟨b, 0, none⟩ (.pointer (some ⟨b, 0, none⟩)) := by
  obtain ⟨j, hj, hjs⟩ := Option.map_eq_some_iff.1 Tryz.bldSize
  go_enter Tryz.func195, Tryz.ntmps195
  go_wp2
  rw [Lib.run_to_unsafe w ⟨b, 0, none⟩ Tryz.underlying226 Tryz.underlying310 hj (by rw [hjs]; decide) hsh (Nat.zero_lt_succ 1)]
  simp only [Result.andThen]
  rw [Oper.upon_value]
  go_wp2
  rw [run_callFunc_extern Tryz.func223 (by kernel_rfl) (by kernel_rfl) (by kernel_rfl) (e := Extern.AbiNoEscape.same) (by kernel_rfl)]
  rw [Lib.run_noEscape]
  simp only [Result.andThen]
  rw [Oper.upon_value]
  go_wp2
  rw [Lib.run_from_unsafe w ⟨b, 0, none⟩ Tryz.underlying310 Tryz.underlying226 hj hsh Tryz.bldLies]
  simp only [Result.andThen]
  rw [Oper.upon_value]
  go_wp2
  go_end0
  exact ⟨rfl, rfl⟩
theorem bldCheck_any (B b : Nat) (bs : List Value) (w : World) (h : IsBld B b bs w) :
    Calls Tryz.prog 195 #[.pointer (some ⟨b, 0, none⟩)] w fun e w' => e = .returned (.tuple #[]) ∧ (BldAt B b bs w' ∧ Below B w w') := by
  rcases h with h | h
  · refine (bldCheck_fresh b w h.cell0 h.shape h.frozen0).mono ?_
    rintro e w' ⟨rfl, rfl⟩
    exact ⟨rfl, h.used _, (Below.refl B w).setCell (p := ⟨b, 0, none⟩) h.1 _⟩
  · refine (bldCheck_used b w h.cell0).mono ?_
    rintro e w' ⟨rfl, rfl⟩
    exact ⟨rfl, h, Below.refl B _⟩
set_option maxRecDepth 100000 in
set_option maxHeartbeats 1000000 in
theorem bldWrite_any (B b : Nat) (bs : List Value) (s : ByteArray) (w : World) (h : IsBld B b bs w) (hlen : bs.length + s.size ≤ 140737488355328) (hBw : B ≤ w.heap.size) :
    Calls Tryz.prog 141 #[.pointer (some ⟨b, 0, none⟩), .string s] w fun e w' => e = .returned (.tuple #[.int .i64 s.size, .nilIface]) ∧ (BldAt B b (bs ++ Lib.strCells s) w' ∧ Below B w w') := by
  obtain ⟨i0, hi, hz0, hz1, hz2⟩ := info_parts Tryz.infoU8
  go_enter Tryz.func141, Tryz.ntmps141
  go_wp2_with (go_at_call 195; refine (bldCheck_any B b bs _ h).mono ?_)
  rintro e w1 ⟨rfl, h1, hb1⟩
  obtain ⟨hB, v, hbk, hown, hne⟩ := h1
  have c0 : w1.cell? ⟨b, 0, none⟩ = some (.pointer (some ⟨b, 0, none⟩)) := by rw [Lib.cell_of_heap hbk]; rfl
  have c1 : w1.cell? ⟨b, 1, none⟩ = some v := by rw [Lib.cell_of_heap hbk]; rfl
  go_wp2_with (at_builtin; refine Lib.wpList_append_own_string _ rfl _ _ 163 9 rfl B 5 i0 Tryz.underlying163 Tryz.underlying9 hi hz0 hz1 hz2 _ _ _ rfl hown s rfl ?c3 ?c4 ?c5 ?_)
  case c3 => unfold maxLen; omega
  case c4 => omega
  case c5 => have := hb1.size; omega
  intro v' w2 hown' hgrow _
  have hlt : b < w1.heap.size := (Array.getElem?_eq_some_iff.1 hbk).1
  have hb2 : w2.heap[b]? = some (.cells #[.pointer (some ⟨b, 0, none⟩), v] 228 (0, 0)) := by
    rw [hgrow.block b hlt (fun e => hne e.symm)]
    exact hbk
  have d0 : w2.cell? ⟨b, 0, none⟩ = some (.pointer (some ⟨b, 0, none⟩)) := by rw [Lib.cell_of_heap hb2]; rfl
  have d1 : w2.cell? ⟨b, 1, none⟩ = some v := by rw [Lib.cell_of_heap hb2]; rfl
  have f1 : w2.frozen? ⟨b, 1, none⟩ = false := Lib.frozen_of_heap hb2 1
  obtain ⟨ao, n', cap, rfl⟩ : ∃ ao n' cap, v' = .slice ao n' cap := by
    rcases hown'.2 with ⟨hv, _⟩ | ⟨g, cap, cur, hv, _⟩
    · exact ⟨_, _, _, hv⟩
    · exact ⟨_, _, _, hv⟩
  go_wp2
  go_ret2
  refine ⟨rfl, ?_, ?_⟩
  · exact Lib.BuilderAt.put (T := 228) (e := 5) hB hb2 (bs' := bs ++ Lib.strCells s) (by simpa [Lib.strCells_length] using hown') (by decide)
  · exact (hb1.grown hgrow (by have := hb1.size; omega) (fun k hk => (hown.lt k hk).1)).setCell (p := ⟨b, 1, none⟩) hB _
/-- a builder of the call's own, behind what keeps all -/
theorem IsBld.kept {B b : Nat} {bs : List Value} {w w' : World} (h : IsBld B b bs w) (k : Keeps No w w') : IsBld B b bs w' := by
  have go : ∀ p, Lib.BuilderAt 228 5 B b p bs w → Lib.BuilderAt 228 5 B b p bs w' := by
    rintro p ⟨h1, v, h2, h3, h4⟩
    exact ⟨h1, v, k.heap h2 (fun h => h), k.owns h3 (fun _ _ h => h), h4⟩
  rcases h with h | h
  · exact .inl (go _ h)
  · exact .inr (go _ h)
theorem strCells_toB (L : Nm) : Lib.strCells (toB L) = Lib.byteCells L := by simp [Lib.strCells, Lib.byteCells, toB]
theorem byteCells_append (a b : Nm) : Lib.byteCells (a ++ b) = Lib.byteCells a ++ Lib.byteCells b := by simp [Lib.byteCells]
theorem putL_le (l : List Nam) (h : l.length ≤ 1024) : (putL putNam l).length ≤ 40000 := by
  have h1 := layI_le (l.length : Int)
  have h2 : ∀ m : List Nam, (m.flatMap putNam).length ≤ m.length * 27 := by
    intro m
    induction m with
    | nil => simp
    | cons a m ih =>
      have := putNam_le a
      rw [List.flatMap_cons, List.length_append, List.length_cons]
      omega
  have := h2 l
  unfold putL
  rw [List.length_append]
  omega
def accL (n : Nat) (l : List Nam) : Nm := layI (n : Int) ++ l.flatMap putNam
theorem accL_snoc (n : Nat) (l : List Nam) (a : Nam) : accL n (l ++ [a]) = accL n l ++ putNam a := by simp [accL]
theorem accL_le (n : Nat) (l : List Nam) (h : l.length ≤ 1024) : (accL n l).length ≤ 40000 := by
  have h1 := layI_le (n : Int)
  have h2 : ∀ m : List Nam, (m.flatMap putNam).length ≤ m.length * 27 := by
    intro m
    induction m with
    | nil => simp
    | cons a m ih =>
      have := putNam_le a
      rw [List.flatMap_cons, List.length_append, List.length_cons]
      omega
  have := h2 l
  unfold accL
  rw [List.length_append]
  omega
abbrev putIdF : Value := .func (.func 105) #[] #[]
set_option maxRecDepth 100000 in
set_option maxHeartbeats 4000000 in
theorem listId_any (w : World) (v : Value) (l : List Nam) (hv : RdOf cNam w v l) (hl : l.length ≤ 1024) : Calls Tryz.prog 104 #[putIdF, v] w fun e w' => e = .returned (strB (putL putNam l)) ∧ Keeps No w w' := by
  obtain ⟨R, hR⟩ : ∃ x, x = strB (putL putNam l) := ⟨_, rfl⟩
  rw [← hR]
  have HR := Lib.hid hR
  obtain ⟨va, vc, rfl⟩ := hv.slice
  have HV := Lib.hid hv
  have HL := Lib.hid hl
  have hli : (l.length : Int) ≤ 1024 := by omega
  have HN : Hid (i64 (l.length : Int)) := Lib.hid ⟨by omega, by omega⟩
  clear hv hl hR
  go_enter Tryz.func104, Tryz.ntmps104
  go_upto_region 2 with fail
  refine wp_world ?_
  intro W0 hW0
  have F0 : Hid (IsBld w.heap.size w.heap.size [] W0) := Lib.hid (by rw [hW0]; exact Lib.fresh_isBuilder _ _ w)
  have K0 : Hid (Keeps No w W0) := Lib.hid (by rw [hW0]; exact (Keeps.refl w).alloc _)
  obtain ⟨gb, hgb⟩ : ∃ q, q = w.heap.size := ⟨_, rfl⟩
  rw [← hgb] at F0 ⊢
  have HG := Lib.hid hgb
  clear hW0 hgb
  go_wp2_with fail
  (with_reducible refine (octInt1 W0 (l.length : Int) HN.out).mono ?_)
  rintro e w1 ⟨rfl, hk1⟩
  have K1 : Hid (Keeps No w w1) := Lib.hid ((K0.out.alloc _).trans hk1 (fun _ _ h => h))
  have F1 : Hid (IsBld gb gb [] w1) := Lib.hid ((F0.out.kept ((Keeps.refl (S := No) W0).alloc _)).kept hk1)
  have HW : Hid ((layI (l.length : Int)).length ≤ 9) := Lib.hid (layI_le _)
  clear hk1 F0 K0
  go_wp2_with fail
  refine (bldWrite_any gb gb [] (toB (layI (l.length : Int))) w1 F1.out (by rw [toB_size]; have := HW.out; simp; omega) (by have := HG.out; have := K1.out.size; omega)).mono ?_
  rintro e w2 ⟨rfl, hb2, hk2⟩
  have F2 : Hid (IsBld gb gb (Lib.byteCells (accL l.length (l.take 0))) w2) := Lib.hid (.inr (by rw [List.nil_append, strCells_toB] at hb2; simpa [accL] using hb2))
  have K2 : Hid (Keeps No w w2) := Lib.hid (K1.out.trans (S := No) (T := fun i => gb ≤ i) ⟨hk2.os, hk2.tape, hk2.output, hk2.size, fun k hk hn => hk2.block k (Nat.lt_of_not_le hn)⟩ (fun i hi h => absurd h (by have := HG.out; omega)))
  clear hb2 hk2 F1 K1
  go_wp2
  go_loopw [15] (fun q wr => ∃ k : Nat, k ≤ l.length ∧ q = .int .i64 k ∧ IsBld gb gb (Lib.byteCells (accL l.length (l.take k))) wr ∧ Keeps No w wr) (fun q _ => l.length - (intOf q).toNat)
  case atStart => exact ⟨0, Nat.zero_le _, rfl, F2.out, K2.out⟩
  case round =>
    obtain ⟨k, hk, rfl, hF, hK⟩ := hrel
    have FJ := Lib.hid hF
    have KJ := Lib.hid hK
    have hk0 : (0 : Int) ≤ (k : Int) := by omega
    clear hF
    by_cases hlt : k < l.length
    · have hki : (k : Int) < (l.length : Int) := by omega
      have hrr : RdOf cNam wr (.slice va l.length vc) l := HV.out.kept hK (fun _ _ h => h)
      obtain ⟨g, off, rfl, _, _, _⟩ := RdOf.addr cNam hrr (by omega)
      have cr : cellsAt wr g (off + k * 3) 3 = some (namC l[k]) := RdOf.at cNam hrr k hlt
      have HS : Hid (accL l.length (l.take (k + 1)) = accL l.length (l.take k) ++ putNam l[k]) := Lib.hid (by rw [List.take_succ_eq_append_getElem hlt, accL_snoc])
      have HB : Hid ((accL l.length (l.take k)).length ≤ 40000) := Lib.hid (accL_le _ _ (by rw [List.length_take]; have := HL.out; omega))
      obtain ⟨a, ha⟩ : ∃ a, a = l[k] := ⟨_, rfl⟩
      rw [← ha] at cr HS
      obtain ⟨X, hX⟩ : ∃ x, x = toB (putNam a) := ⟨_, rfl⟩
      have CP := Lib.hid (fun W => calls_str hX (putNam_any W a))
      have HX := Lib.hid hX
      clear hrr ha hX hK
      go_wp2_with fail
      (with_reducible refine (CP.out _).mono ?_)
      rintro e w3 ⟨rfl, hk3⟩
      have K3 : Hid (Keeps No w w3) := Lib.hid ((KJ.out.alloc _).trans hk3 (fun _ _ h => h))
      have F3 : Hid (IsBld gb gb (Lib.byteCells (accL l.length (l.take k))) w3) := Lib.hid ((FJ.out.kept ((Keeps.refl (S := No) wr).alloc _)).kept hk3)
      clear hk3 cr
      go_wp2_with fail
      refine (bldWrite_any gb gb _ X w3 F3.out (by rw [HX.out, toB_size, Lib.byteCells_length]; have := HB.out; have := putNam_le a; omega) (by have := HG.out; have := K3.out.size; omega)).mono ?_
      rintro e w4 ⟨rfl, hb4, hk4⟩
      have F4 : Hid (IsBld gb gb (Lib.byteCells (accL l.length (l.take (k + 1)))) w4) := Lib.hid (.inr (by rw [HX.out, strCells_toB, ← byteCells_append, ← HS.out] at hb4; exact hb4))
      have K4 : Hid (Keeps No w w4) := Lib.hid (K3.out.trans (S := No) (T := fun i => gb ≤ i) ⟨hk4.os, hk4.tape, hk4.output, hk4.size, fun k hk hn => hk4.block k (Nat.lt_of_not_le hn)⟩ (fun i hi h => absurd h (by have := HG.out; omega)))
      clear hb4 hk4 F3 K3
      go_wp2
      go_roundw
      case rel => exact ⟨k + 1, by omega, by go_num, F4.out, K4.out⟩
      case measure => simp [intOf]; omega
    · have hkl : k = l.length := by omega
      have FE : Hid (IsBld gb gb (Lib.byteCells (putL putNam l)) wr) := Lib.hid (by
        have h := FJ.out
        rw [hkl, List.take_length] at h
        exact h)
      have hki : ¬ ((k : Int) < (l.length : Int)) := by omega
      clear hkl hK
      go_wp2_with fail
      refine (Tryz.Builder_String_any gb gb _ wr FE.out (by have := HG.out; have := KJ.out.size; omega)).mono ?_
      rintro e w4 ⟨rfl, hk4⟩
      have K4 : Hid (Keeps No w w4) := Lib.hid (KJ.out.trans (S := No) (T := fun i => gb ≤ i) ⟨hk4.os, hk4.tape, hk4.output, hk4.size, fun k hk hn => hk4.block k (Nat.lt_of_not_le hn)⟩ (fun i hi h => absurd h (by have := HG.out; omega)))
      clear hk4
      go_wp2
      go_ret
      exact ⟨by rw [HR.out]; rfl, K4.out⟩
end Go.Proofs.YtndjnkjcfdaegaaGreatDoor

/-
  codec.TakeList over names. No conditions of its own.
-/
namespace Go.Proofs.YtndjnkjcfdaegaaGreatDoor
open Go.RowKit Go.Shelf Go.Sort Go.Joins Go.Deep

theorem Tryz.infoID : (Tryz.prog.info? 36).map (fun i => (i.zero, i.size, i.bytes)) = some (some (.agg #[.int .i64 0, .int .i64 0, .int .i64 0]), 3, 24) := by kernel_rfl
abbrev takeIdF : Value := .func (.func 51) #[] #[]
theorem takeNam_end : takeNam (some []) = (Nam.zero, none) := rfl
theorem takeN_none {α : Type} {take : Rdr → α × Rdr} {k : Nat} {l : List α} {r : Rdr} (h : (take r).2 = none) : takeN take (k + 1) l r = ([], none) := by
  rw [takeN, h]
  rfl
theorem takeN_some {α : Type} {take : Rdr → α × Rdr} {k : Nat} {l : List α} {r : Rdr} {s : Nm} (h : (take r).2 = some s) : takeN take (k + 1) l r = takeN take k (l ++ [(take r).1]) (some s) := by
  rw [takeN, h]
  rfl
theorem rdCount_some {m : Int} {r : Rdr} (h : 0 < (rdCount m r).1) : ∃ s, (rdCount m r).2 = some s := by
  unfold rdCount at h ⊢
  cases hb : decide ((rdI r).1 < 0) || decide (m < (rdI r).1) with
  | true => rw [hb] at h; cases h
  | false =>
    rw [hb] at h
    simp only [cond_false] at h ⊢
    cases r with
    | none => cases h
    | some s =>
      unfold rdI rdN at h ⊢
      dsimp only at h ⊢
      cases hh : headI s with
      | none => rw [hh] at h; cases h
      | some p => exact ⟨_, rfl⟩
theorem rdCount_le {m : Int} {r : Rdr} (hm : 0 ≤ m) : 0 ≤ (rdCount m r).1 ∧ (rdCount m r).1 ≤ m := by
  unfold rdCount
  cases hb : decide ((rdI r).1 < 0) || decide (m < (rdI r).1) with
  | true => exact ⟨Int.le_refl _, hm⟩
  | false =>
    rw [Bool.or_eq_false_iff, decide_eq_false_iff_not, decide_eq_false_iff_not] at hb
    simp only [cond_false]
    omega
def TakePost (w : World) (g : Nat) (x : List Nam × Rdr) (e : Ending) (w' : World) : Prop := ∃ v', e = .returned v' ∧ OwnOf cNam 36 w' w.heap.size v' x.1 ∧ RdrAt w' g x.2 ∧ Keeps (Own g) w w'
set_option maxRecDepth 100000 in
set_option maxHeartbeats 4000000 in
theorem takeIds_any {w : World} {g : Nat} {r : Rdr} (h : RdrAt w g r) : Calls Tryz.prog 50 #[dP g, .int .i64 1024, takeIdF] w (TakePost w g (takeLs takeNam 1024 r)) := by
  obtain ⟨i0, hi, hz0, hz1, hz2⟩ := info_parts Tryz.infoID
  have hlt := h.lt
  have H := Lib.hid h
  obtain ⟨hc0, hc1⟩ := rdCount_le (m := 1024) (r := r) (by omega)
  have hcs := rdCount_some (m := 1024) (r := r)
  have hF : takeLs takeNam 1024 r = takeN takeNam (rdCount 1024 r).1.toNat [] (rdCount 1024 r).2 := rfl
  obtain ⟨F, hFF⟩ : ∃ x, x = takeLs takeNam 1024 r := ⟨_, rfl⟩
  rw [← hFF] at hF ⊢
  obtain ⟨c, hc⟩ : ∃ x, x = rdCount 1024 r := ⟨_, rfl⟩
  rw [← hc] at hc0 hc1 hcs hF
  have HC := Lib.hid hc
  obtain ⟨N, hN⟩ := Int.eq_ofNat_of_zero_le hc0
  rw [hN] at hc1 hcs hF
  rw [Int.toNat_natCast] at hF
  have HN := Lib.hid hN
  have HF := Lib.hid hF
  have HCS := Lib.hid hcs
  clear h hc hF hFF hN hc0 hcs
  go_enter Tryz.func50, Tryz.ntmps50
  go_wp2_with fail
  refine (count_any H.out 1024).mono ?_
  rintro e w1 ⟨rfl, hr1, hk1⟩
  rw [← HC.out] at hr1 ⊢
  rw [HN.out]
  have RD1 := Lib.hid hr1
  have K1 := Lib.hid hk1
  clear hr1 hk1
  go_wp2
  go_loopw [7, 11] (fun v q wr => ∃ (k : Nat) (l : List Nam) (st : Rdr), k ≤ N ∧ q = .int .i64 k ∧ l.length = k ∧ OwnOf cNam 36 wr w.heap.size v l ∧ RdrAt wr g st ∧ (k < N → ∃ s, st = some s) ∧ takeN takeNam (N - k) l st = F ∧ Keeps (Own g) w wr) (fun _ q _ => N - (intOf q).toNat)
  case atStart => exact ⟨0, [], c.2, Nat.zero_le _, rfl, rfl, World.ownsRow_nil _ _ _ _, RD1.out, fun h => HCS.out (by omega), HF.out.symm, K1.out⟩
  case round =>
    obtain ⟨k, l, st, hk, rfl, hlk, hO, hRd, hst, hT, hK⟩ := hrel
    have OJ := Lib.hid hO
    have RJ := Lib.hid hRd
    have TJ := Lib.hid hT
    have KJ := Lib.hid hK
    have HLK := Lib.hid hlk
    have hk0 : (0 : Int) ≤ (k : Int) := by omega
    by_cases hlt2 : k < N
    · have hki : (k : Int) < (N : Int) := by omega
      obtain ⟨s, rfl⟩ := hst hlt2
      have HNK : Hid (N - k = (N - (k + 1)) + 1) := Lib.hid (by omega)
      have hbw : w.heap.size ≤ wr.heap.size := hK.size
      have HBW := Lib.hid hbw
      obtain ⟨oa, oc, rfl⟩ := ownsRow_slice hO
      clear hO hRd hT hK hst hlk hbw
      go_wp2_with fail
      refine (left_any RJ.out).mono ?_
      rintro e w2 ⟨rfl, rfl⟩
      rw [Option.getD_some]
      cases s with
      | nil =>
        have HFN : Hid (F = ([], none)) := Lib.hid (by rw [← TJ.out, HNK.out]; exact takeN_none (by rw [takeNam_end]))
        simp only [List.length_nil, Int.natCast_zero]
        go_wp2_with fail
        have CC := Lib.hid (count_any RJ.out (-1))
        rw [rdCount_neg] at CC
        (with_reducible refine CC.out.mono ?_)
        rintro e w3 ⟨rfl, hr3, hk3⟩
        have RD3 := Lib.hid hr3
        have K3 := Lib.hid (KJ.out.trans hk3 (fun _ _ h => h))
        clear hr3 hk3
        go_wp2_with fail
        refine (bad_any RD3.out).mono ?_
        rintro e w4 ⟨rfl, rfl⟩
        simp only [badR, Option.isSome_none, Bool.not_false]
        go_wp2
        go_ret
        exact ⟨_, rfl, by rw [HFN.out]; exact World.ownsRow_nil _ _ _ _, by rw [HFN.out]; exact RD3.out, K3.out⟩
      | cons x s =>
        obtain ⟨LL, hLL⟩ : ∃ n : Int, n = ((x :: s).length : Nat) := ⟨_, rfl⟩
        have hLp : 0 < LL := by rw [hLL]; simp
        rw [← hLL]
        obtain ⟨p, hp⟩ : ∃ p, p = takeNam (some (x :: s)) := ⟨_, rfl⟩
        have CT := Lib.hid (takeNam_any RJ.out)
        rw [← hp] at CT
        have HP := Lib.hid hp
        clear hLL hp
        go_wp2_with fail
        (with_reducible refine CT.out.mono ?_)
        rintro e w3 ⟨rfl, hr3, hk3⟩
        have RD3 := Lib.hid hr3
        have K3 := Lib.hid (KJ.out.trans hk3 (fun _ _ h => h))
        have O3 : Hid (OwnOf cNam 36 w3 w.heap.size (.slice oa l.length oc) l) := Lib.hid (hk3.owns OJ.out (fun i hi e => by
          have e : i = g := e
          have := (OJ.out.lt i hi).1
          omega))
        clear hr3 hk3
        have hO' : (w3.alloc (.cells #[.int .i64 p.1.s, .int .i64 p.1.i, .int .i64 p.1.g] 36)).ownsRow w.heap.size 36 3 (.slice oa l.length oc) l.length (rowsOf cNam l) := O3.out.alloc _
        have hlit : Reads (w3.alloc (.cells #[.int .i64 p.1.s, .int .i64 p.1.i, .int .i64 p.1.g] 36)) 3 (.slice (some ⟨w3.heap.size, 0, none⟩) 1 1) 1 (namC p.1) := Reads.ofOwn (World.ownsRow_lit (base := 0) w3 #[.int .i64 p.1.s, .int .i64 p.1.i, .int .i64 p.1.g] 1 (Nat.zero_le _) (by unfold maxLen; omega) rfl) (cNam.one p.1)
        have HBW3 : Hid (w.heap.size ≤ w3.heap.size) := Lib.hid K3.out.size
        go_wp2_with (at_builtin; refine wpList_append_reads rfl (.tmp 16) (.tmp 20) 66 rfl w.heap.size 36 i0 _ 3 24 Tryz.underlying66 hi hz0 hz1 hz2 rfl (by decide) _ l.length _ rfl hO' _ 1 _ rfl hlit (by have := HLK.out; unfold maxLen; omega) (by have := HLK.out; omega) (by have := HBW3.out; simp; omega) ?_; intro v5 w5 hown5 hk5 hnew5 _)
        have O5 : Hid (OwnOf cNam 36 w5 w.heap.size v5 (l ++ [p.1])) := Lib.hid (by
          unfold OwnOf
          rw [List.length_append, rowsOf_append, rowsOf_one]
          exact hown5)
        have kA : Keeps (Of (.slice oa l.length oc)) w3 w5 := ((Keeps.refl w3).alloc _).trans hk5 (fun _ _ h => h)
        have K5 : Hid (Keeps (Own g) w w5) := Lib.hid (K3.out.trans kA (fun i hi h => by have := (O3.out.lt i h).1; omega))
        have RD5 : Hid (RdrAt w5 g p.2) := Lib.hid (RD3.out.kept kA (fun h => by have := (O3.out.lt g h).1; omega))
        clear hown5 hk5 hnew5 hO' hlit kA
        go_wp2_with fail
        refine (bad_any RD5.out).mono ?_
        rintro e w6 ⟨rfl, rfl⟩
        cases hp2 : p.2 with
        | none =>
          have HFN : Hid (F = ([], none)) := Lib.hid (by rw [← TJ.out, HNK.out]; exact takeN_none (by rw [← HP.out, hp2]))
          rw [hp2] at RD5
          simp only [badR, Option.isSome_none, Bool.not_false]
          clear hp2
          go_wp2
          go_ret
          exact ⟨_, rfl, by rw [HFN.out]; exact World.ownsRow_nil _ _ _ _, by rw [HFN.out]; exact RD5.out, K5.out⟩
        | some s2 =>
          have HFN : Hid (takeN takeNam (N - (k + 1)) (l ++ [p.1]) (some s2) = F) := Lib.hid (by
            rw [← TJ.out, HNK.out, takeN_some (s := s2) (by rw [← HP.out, hp2]), HP.out])
          rw [hp2] at RD5
          simp only [badR, Option.isSome_some, Bool.not_true]
          clear hp2
          go_wp2
          go_roundw
          case rel => exact ⟨k + 1, _, some s2, by omega, by go_num, by rw [List.length_append, HLK.out]; rfl, O5.out, RD5.out, fun _ => ⟨s2, rfl⟩, HFN.out, K5.out⟩
          case measure => simp [intOf]; omega
    · have hki : ¬ ((k : Int) < (N : Int)) := by omega
      have hz : N - k = 0 := by omega
      have HFN : Hid (F = (l, st)) := Lib.hid (by rw [← TJ.out, hz]; rfl)
      clear hO hRd hT hK hst hz hlk
      go_wp2
      go_ret
      exact ⟨_, rfl, by rw [HFN.out]; exact OJ.out, by rw [HFN.out]; exact RJ.out, KJ.out⟩
end Go.Proofs.YtndjnkjcfdaegaaGreatDoor

/-
  ledger.Check: may a record be? No conditions of its own.
-/
namespace Go.Proofs.YtndjnkjcfdaegaaGreatDoor
open Go.RowKit Go.Shelf Go.Sort Go.Joins Go.Deep

/-- a record's cells; v: the slice of its names -/
abbrev lrC (r : Lr) (v : Value) : List Value := [.int .i64 r.k, .int .i64 r.n, .int .i64 r.s, .int .i64 r.i, .int .i64 r.c.k, .int .i64 r.c.s, .int .i64 r.c.i, .int .i64 r.c.g, .int .i64 r.c.b.s, .int .i64 r.c.b.i, .int .i64 r.c.b.g, .int .i64 r.c.b.m, .int .i64 r.c.b.x, .int .i64 r.c.b.y, .int .i64 r.c.b.vx, .int .i64 r.c.b.vy, .int .i64 r.c.b.hp, .int .i64 r.c.b.pw, .int .i64 r.c.b.lf, .int .i64 r.c.m, v]
abbrev lrV (r : Lr) (v : Value) : Value := .agg #[.int .i64 r.k, .int .i64 r.n, .int .i64 r.s, .int .i64 r.i, .int .i64 r.c.k, .int .i64 r.c.s, .int .i64 r.c.i, .int .i64 r.c.g, .int .i64 r.c.b.s, .int .i64 r.c.b.i, .int .i64 r.c.b.g, .int .i64 r.c.b.m, .int .i64 r.c.b.x, .int .i64 r.c.b.y, .int .i64 r.c.b.vx, .int .i64 r.c.b.vy, .int .i64 r.c.b.hp, .int .i64 r.c.b.pw, .int .i64 r.c.b.lf, .int .i64 r.c.m, v]
abbrev badIdF : Value := .func (.func 72) #[] #[]
theorem badId_any (w : World) (a : Nam) : Calls Tryz.prog 72 #[namV a] w fun e w' => e = .returned (.bool (!idOk a)) ∧ Keeps No w w' := by
  have CI := Lib.hid (fun W => checkId_any W a)
  obtain ⟨B, hB⟩ : ∃ b, b = idOk a := ⟨_, rfl⟩
  rw [← hB] at CI ⊢
  clear hB
  cases B
  all_goals
    simp only [errB, cond_true, cond_false] at CI
    go_enter Tryz.func72, Tryz.ntmps72
    go_wp2_with fail
    (with_reducible refine (CI.out _).mono ?_)
    rintro e w1 ⟨rfl, hg⟩
    have K1 : Hid (Keeps No w w1) := Lib.hid (((Keeps.refl w).alloc _).trans hg.keeps (fun _ _ h => h))
    clear hg
    go_wp2
    go_ret
    exact ⟨rfl, K1.out⟩
/-- the first name that may not be; -1: none -/
def firstBad (l : List Nam) : Int := if l.all idOk then -1 else (l.findIdx (fun a => !idOk a) : Nat)
theorem firstBad_at {l : List Nam} {k : Nat} (hk : k < l.length) (hb : idOk l[k] = false) (hall : (l.take k).all idOk = true) : firstBad l = k := by
  have h1 : l.all idOk = false := by
    rw [List.all_eq_false]
    exact ⟨l[k], List.getElem_mem hk, by rw [hb]; simp⟩
  have h2 : l.findIdx (fun a => !idOk a) = k := by
    rw [List.findIdx_eq hk]
    refine ⟨by rw [hb]; rfl, fun j hj => ?_⟩
    have h3 := (List.all_eq_true.1 hall) l[j] (by rw [List.mem_take_iff_getElem]; exact ⟨j, by omega, rfl⟩)
    rw [h3]
    rfl
  unfold firstBad
  rw [h1, h2]
  rfl
set_option maxRecDepth 100000 in
set_option maxHeartbeats 2000000 in
theorem idxBad_any (w : World) (v : Value) (l : List Nam) (hv : RdOf cNam w v l) (hl : l.length ≤ 1048576) : Calls Tryz.prog 119 #[v, badIdF] w fun e w' => e = .returned (.int .i64 (firstBad l)) ∧ Keeps No w w' := by
  obtain ⟨va, vc, rfl⟩ := hv.slice
  have HV := Lib.hid hv
  have hl1 : (l.length : Int) ≤ 1048576 := by omega
  obtain ⟨R, hR⟩ : ∃ R, R = firstBad l := ⟨_, rfl⟩
  rw [← hR]
  have HR := Lib.hid hR
  clear hv hR
  go_enter Tryz.func119, Tryz.ntmps119
  go_wp2
  go_loopw [8] (fun q wr => ∃ k : Nat, k ≤ l.length ∧ q = .int .i64 k ∧ (l.take k).all idOk = true ∧ Keeps No w wr) (fun q _ => l.length - (intOf q).toNat)
  case atStart => exact ⟨0, Nat.zero_le _, rfl, rfl, Keeps.refl _⟩
  case round =>
    obtain ⟨k, hk, rfl, hall, hK⟩ := hrel
    have KJ := Lib.hid hK
    have HA := Lib.hid hall
    have hk0 : (0 : Int) ≤ (k : Int) := by omega
    clear hall
    by_cases hlt : k < l.length
    · have hki : (k : Int) < (l.length : Int) := by omega
      have hrr : RdOf cNam wr (.slice va l.length vc) l := HV.out.kept hK (fun _ _ h => h)
      obtain ⟨g, off, rfl, _, _, _⟩ := RdOf.addr cNam hrr (by omega)
      have cr : cellsAt wr g (off + k * 3) 3 = some (namC l[k]) := RdOf.at cNam hrr k hlt
      obtain ⟨a, ha⟩ : ∃ a, a = l[k] := ⟨_, rfl⟩
      rw [← ha] at cr
      have CP := Lib.hid (fun W => badId_any W a)
      have HAA := Lib.hid ha
      obtain ⟨B, hB⟩ : ∃ b, b = idOk a := ⟨_, rfl⟩
      rw [← hB] at CP
      have HB := Lib.hid hB
      clear hrr ha hK hB
      go_wp2_with fail
      (with_reducible refine (CP.out _).mono ?_)
      rintro e w3 ⟨rfl, hk3⟩
      have K3 : Hid (Keeps No w w3) := Lib.hid (KJ.out.trans hk3 (fun _ _ h => h))
      clear hk3 cr
      cases B with
      | false =>
        have HF : Hid (R = (k : Int)) := Lib.hid (by rw [HR.out]; exact firstBad_at hlt (by rw [← HAA.out, ← HB.out]) HA.out)
        go_wp2
        go_ret
        exact ⟨by rw [HF.out]; rfl, K3.out⟩
      | true =>
        have HN : Hid ((l.take (k + 1)).all idOk = true) := Lib.hid (by
          rw [List.take_succ_eq_append_getElem hlt, List.all_append, HA.out, ← HAA.out]
          simp [← HB.out])
        go_wp2
        go_roundw
        case rel => exact ⟨k + 1, by omega, by go_num, HN.out, K3.out⟩
        case measure => simp [intOf]; omega
    · have hkl : k = l.length := by omega
      have HF : Hid (R = -1) := Lib.hid (by
        have h := HA.out
        rw [hkl, List.take_length] at h
        rw [HR.out]
        unfold firstBad
        rw [h]
        rfl)
      have hki : ¬ ((k : Int) < (l.length : Int)) := by omega
      clear hkl hK
      go_wp2
      go_ret
      exact ⟨by rw [HF.out]; rfl, KJ.out⟩
theorem anyBad_any (w : World) (v : Value) (l : List Nam) (hv : RdOf cNam w v l) (hl : l.length ≤ 1048576) : Calls Tryz.prog 71 #[v, badIdF] w fun e w' => e = .returned (.bool (!l.all idOk)) ∧ Keeps No w w' := by
  obtain ⟨va, vc, rfl⟩ := hv.slice
  have C := Lib.hid (idxBad_any w _ l hv hl)
  cases hb : l.all idOk with
  | true =>
    have hf : firstBad l = -1 := by unfold firstBad; rw [hb]; rfl
    rw [hf] at C
    clear hv hf hb
    go_enter Tryz.func71, Tryz.ntmps71
    go_wp2_with fail
    (with_reducible refine C.out.mono ?_)
    rintro e w1 ⟨rfl, hk⟩
    go_wp2
    go_ret
    exact ⟨rfl, hk⟩
  | false =>
    obtain ⟨m, hm⟩ : ∃ m : Nat, firstBad l = m := ⟨_, by unfold firstBad; rw [hb]; rfl⟩
    rw [hm] at C
    have h0 : (0 : Int) ≤ (m : Int) := by omega
    clear hv hm hb
    go_enter Tryz.func71, Tryz.ntmps71
    go_wp2_with fail
    (with_reducible refine C.out.mono ?_)
    rintro e w1 ⟨rfl, hk⟩
    go_wp2
    go_ret
    exact ⟨rfl, hk⟩
end Go.Proofs.YtndjnkjcfdaegaaGreatDoor

/-
  ledger.Check. No conditions of its own.
-/
namespace Go.Proofs.YtndjnkjcfdaegaaGreatDoor
open Go.RowKit Go.Shelf Go.Sort Go.Joins Go.Deep

def Lr.bare (k : Int) : Lr := ⟨k, 0, 0, 0, Cm.zero, []⟩
def CkAt (w : World) (gr gy : Nat) (r : Lr) (v : Value) (o : Value) (wc : World) : Prop := ∃ (y : Lr) (a : Option Addr) (ny c : Nat) (ok : Bool), o = .bool ok ∧ wc.heap[gr]? = some (.cells (lrC r v).toArray 68 (0, 0)) ∧ wc.heap[gy]? = some (.cells (lrC y (.slice a ny c)).toArray 68 (0, 0)) ∧
  mayL r = (ok && ((y.n == r.n) && ((y.s == r.s) && ((y.i == r.i) && (cmEq y.c r.c && (ny == r.ids.length)))))) ∧ Keeps No w wc
theorem may_1 {r : Lr} (h : r.k = 1) : mayL r = (okI r.n 1 1099511627776 && ((r.n == r.n) && ((0 == r.s) && ((0 == r.i) && (cmEq Cm.zero r.c && (0 == r.ids.length)))))) := by
  have e1 : (cmEq r.c Cm.zero) = cmEq Cm.zero r.c := by
    rw [Bool.eq_iff_iff, cmEq_iff, cmEq_iff]; exact eq_comm
  have e2 : r.ids.isEmpty = (0 == r.ids.length) := by cases r.ids <;> rfl
  have e3 : ∀ a : Int, decide (a = 0) = (0 == a) := fun a => by rw [Bool.eq_iff_iff]; simp; exact eq_comm
  unfold mayL
  rw [h]
  simp [e1, e2, e3]
theorem may_2 {r : Lr} (h : r.k = 2) : mayL r = (idOk ⟨r.s, r.i, 0⟩ && ((0 == r.n) && ((r.s == r.s) && ((r.i == r.i) && (cmEq Cm.zero r.c && (0 == r.ids.length)))))) := by
  have e1 : (cmEq r.c Cm.zero) = cmEq Cm.zero r.c := by
    rw [Bool.eq_iff_iff, cmEq_iff, cmEq_iff]; exact eq_comm
  have e2 : r.ids.isEmpty = (0 == r.ids.length) := by cases r.ids <;> rfl
  have e3 : ∀ a : Int, decide (a = 0) = (0 == a) := fun a => by rw [Bool.eq_iff_iff]; simp; exact eq_comm
  unfold mayL idOk
  rw [h]
  have e5 : okI 0 0 1048575 = true := rfl
  simp only [e1, e2, e3, e5, (by decide : ((2 : Int) == 1) = false), beq_self_eq_true, cond_false, cond_true, Bool.and_true, Bool.true_and]
  cases (0 == r.n) <;> cases okI r.s 0 15 <;> cases okI r.i 0 15 <;> simp
theorem may_3 {r : Lr} (h : r.k = 3) : mayL r = (cmdOk r.c && ((0 == r.n) && ((0 == r.s) && ((0 == r.i) && (cmEq r.c r.c && (0 == r.ids.length)))))) := by
  have e2 : r.ids.isEmpty = (0 == r.ids.length) := by cases r.ids <;> rfl
  have e3 : ∀ a : Int, decide (a = 0) = (0 == a) := fun a => by rw [Bool.eq_iff_iff]; simp; exact eq_comm
  have e4 : cmEq r.c r.c = true := (cmEq_iff _ _).2 rfl
  unfold mayL
  rw [h]
  simp only [e2, e3, e4, (by decide : ((3 : Int) == 1) = false), (by decide : ((3 : Int) == 2) = false), beq_self_eq_true, cond_false, cond_true, Bool.true_and]
  cases cmdOk r.c <;> simp
theorem may_4 {r : Lr} (h : r.k = 4) : mayL r = (true && ((0 == r.n) && ((0 == r.s) && ((0 == r.i) && (cmEq Cm.zero r.c && (0 == r.ids.length)))))) := by
  have e1 : (cmEq r.c Cm.zero) = cmEq Cm.zero r.c := by
    rw [Bool.eq_iff_iff, cmEq_iff, cmEq_iff]; exact eq_comm
  have e2 : r.ids.isEmpty = (0 == r.ids.length) := by cases r.ids <;> rfl
  have e3 : ∀ a : Int, decide (a = 0) = (0 == a) := fun a => by rw [Bool.eq_iff_iff]; simp; exact eq_comm
  unfold mayL
  rw [h]
  simp only [e1, e2, e3, (by decide : ((4 : Int) == 1) = false), (by decide : ((4 : Int) == 2) = false), (by decide : ((4 : Int) == 3) = false), beq_self_eq_true, cond_false, cond_true, Bool.true_and]
theorem may_5 {r : Lr} (h : r.k = 5) : mayL r = ((decide (r.ids.length ≤ 1024) && r.ids.all idOk) && ((0 == r.n) && ((0 == r.s) && ((0 == r.i) && (cmEq Cm.zero r.c && (r.ids.length == r.ids.length)))))) := by
  have e1 : (cmEq r.c Cm.zero) = cmEq Cm.zero r.c := by
    rw [Bool.eq_iff_iff, cmEq_iff, cmEq_iff]; exact eq_comm
  have e3 : ∀ a : Int, decide (a = 0) = (0 == a) := fun a => by rw [Bool.eq_iff_iff]; simp; exact eq_comm
  unfold mayL
  rw [h]
  simp only [e1, e3, (by decide : ((5 : Int) == 1) = false), (by decide : ((5 : Int) == 2) = false), (by decide : ((5 : Int) == 3) = false), (by decide : ((5 : Int) == 4) = false), beq_self_eq_true, cond_false, cond_true, Bool.and_true]
  cases decide (r.ids.length ≤ 1024) <;> cases r.ids.all idOk <;> simp
theorem may_0 {r : Lr} (h1 : ¬ r.k = 1) (h2 : ¬ r.k = 2) (h3 : ¬ r.k = 3) (h4 : ¬ r.k = 4) (h5 : ¬ r.k = 5) : mayL r = false := by
  unfold mayL
  rw [beq_eq_false_iff_ne.2 h1, beq_eq_false_iff_ne.2 h2, beq_eq_false_iff_ne.2 h3, beq_eq_false_iff_ne.2 h4, beq_eq_false_iff_ne.2 h5]
  rfl
theorem log_cells {W : World} {gr gy : Nat} {r y : Lr} {v u : Value} (h1 : W.heap[gr]? = some (.cells (lrC r v).toArray 68 (0, 0))) (h2 : W.heap[gy]? = some (.cells (lrC y u).toArray 68 (0, 0))) (j : Nat) :
    W.cell? ⟨gr, j, none⟩ = (lrC r v)[j]? ∧ W.cell? ⟨gy, j, none⟩ = (lrC y u)[j]? ∧ W.frozen? ⟨gy, j, none⟩ = false := by
  refine ⟨?_, ?_, frozen_of_row _ _ _ _ _ h2⟩
  · rw [cell_of_row _ _ _ _ _ _ h1]; simp
  · rw [cell_of_row _ _ _ _ _ _ h2]; simp
set_option maxRecDepth 100000 in
set_option maxHeartbeats 4000000 in
theorem ledCheck_any (w : World) (r : Lr) (v : Value) (hv : RdOf cNam w v r.ids) : Calls Tryz.prog 29 #[lrV r v] w fun e w' => e = .returned (.int .i64 (errB (mayL r))) ∧ Keeps No w w' := by
  obtain ⟨E, hE⟩ : ∃ x, x = errB (mayL r) := ⟨_, rfl⟩
  rw [← hE]
  have HE := Lib.hid hE
  obtain ⟨va, vc, rfl⟩ := hv.slice
  have HV := Lib.hid hv
  clear hv hE
  go_enter Tryz.func29, Tryz.ntmps29
  go_upto_region 2 with fail
  refine wp_world ?_
  intro W hW
  have A1 : Hid (W.heap[w.heap.size]? = some (.cells (lrC r (.slice va r.ids.length vc)).toArray 68 (0, 0))) := Lib.hid (by rw [hW]; exact ((Keeps.refl (S := No) _).alloc _).heap (heap_alloc_new w _) (fun h => h))
  have A2 : Hid (W.heap[w.heap.size + 1]? = some (.cells (lrC (Lr.bare r.k) (.slice none 0 0)).toArray 68 (0, 0))) := Lib.hid (by rw [hW]; exact heap_second w _ _)
  have KW : Hid (Keeps No w W) := Lib.hid (by rw [hW]; exact ((Keeps.refl w).alloc _).alloc _)
  obtain ⟨gr, hgr⟩ : ∃ q, q = w.heap.size := ⟨_, rfl⟩
  obtain ⟨gy, hgy⟩ : ∃ q, q = w.heap.size + 1 := ⟨_, rfl⟩
  have HG : Hid (w.heap.size ≤ gr ∧ w.heap.size ≤ gy ∧ gr ≠ gy) := Lib.hid ⟨by omega, by omega, by omega⟩
  rw [← hgy] at A2 ⊢
  rw [← hgr] at A1 ⊢
  have c0 : W.cell? ⟨gr, 0, none⟩ = some (.int .i64 r.k) := by rw [cell_of_row _ _ _ _ _ _ A1.out]; rfl
  clear hW hgr hgy
  go_upto_block 0 with fail
  clear c0
  go_cut [4] (CkAt w gr gy r (.slice va r.ids.length vc))
  case first =>
    by_cases h1 : r.k = 1
    · have HM := Lib.hid (may_1 h1)
      have b1 : (r.k == 1) = true := by rw [h1]; rfl
      have b2 : (r.k == 2) = false := by rw [h1]; rfl
      have b3 : (r.k == 3) = false := by rw [h1]; rfl
      have b4 : (r.k == 4) = false := by rw [h1]; rfl
      have b5 : (r.k == 5) = false := by rw [h1]; rfl
      have ne1 : gr ≠ gy := HG.out.2.2
      have ne2 : gy ≠ gr := fun e => ne1 e.symm
      have l1 : gr < W.heap.size := (Array.getElem?_eq_some_iff.1 A1.out).1
      have l2 : gy < W.heap.size := (Array.getElem?_eq_some_iff.1 A2.out).1
      obtain ⟨c1, d1, f1⟩ := log_cells A1.out A2.out 1
      simp only [List.getElem?_cons_succ, List.getElem?_cons_zero] at c1 d1
      have kS : Keeps (Own gy) W (W.setCell ⟨gy, 1, none⟩ (.int .i64 r.n)) := (Keeps.refl (S := Own gy) W).setCell (p := ⟨gy, 1, none⟩) (fun _ => (rfl : gy = gy)) _
      have e1 : (W.setCell ⟨gy, 1, none⟩ (.int .i64 r.n)).cell? ⟨gr, 1, none⟩ = some (.int .i64 r.n) := kS.cell c1 ne1
      have HX : Hid (∀ m, ((W.setCell ⟨gy, 1, none⟩ (.int .i64 r.n)).drewN m).heap[gr]? = some (.cells (lrC r (.slice va r.ids.length vc)).toArray 68 (0, 0)) ∧ ((W.setCell ⟨gy, 1, none⟩ (.int .i64 r.n)).drewN m).heap[gy]? = some (.cells (lrC ⟨r.k, r.n, 0, 0, Cm.zero, []⟩ (.slice none 0 0)).toArray 68 (0, 0)) ∧ Keeps No w ((W.setCell ⟨gy, 1, none⟩ (.int .i64 r.n)).drewN m)) := Lib.hid (fun m => ⟨kS.heap A1.out ne1, heap_setCell_at A2.out _, (KW.out.trans kS (fun i hi e => by have e : i = gy := e; have := HG.out.2.1; omega)).drewN m⟩)
      clear h1 kS
      by_cases hn1 : 1 ≤ r.n
      · have HO : Hid (okI r.n 1 1099511627776 = decide (r.n ≤ 1099511627776)) := Lib.hid (by unfold okI; rw [decide_eq_true hn1, Bool.true_and])
        go_upto_region 5 with fail
        go_region
        all_goals go_wp2_with fail
        all_goals go_meet
        all_goals exact ⟨⟨r.k, r.n, 0, 0, Cm.zero, []⟩, none, 0, 0, _, rfl, (HX.out 1).1, (HX.out 1).2.1, by rw [HM.out, HO.out], (HX.out 1).2.2⟩
      · have HO : Hid (okI r.n 1 1099511627776 = false) := Lib.hid (by unfold okI; rw [decide_eq_false hn1, Bool.false_and])
        have hn2 : decide (1 ≤ r.n) = false := decide_eq_false hn1
        go_upto_region 5 with fail
        go_region
        all_goals go_wp2_with fail
        all_goals go_meet
        all_goals exact ⟨⟨r.k, r.n, 0, 0, Cm.zero, []⟩, none, 0, 0, _, rfl, (HX.out 1).1, (HX.out 1).2.1, by rw [HM.out, HO.out], (HX.out 1).2.2⟩
    by_cases h1 : r.k = 2
    · have HM := Lib.hid (may_2 h1)
      have b1 : (r.k == 1) = false := by rw [h1]; rfl
      have b2 : (r.k == 2) = true := by rw [h1]; rfl
      have b3 : (r.k == 3) = false := by rw [h1]; rfl
      have b4 : (r.k == 4) = false := by rw [h1]; rfl
      have b5 : (r.k == 5) = false := by rw [h1]; rfl
      have ne1 : gr ≠ gy := HG.out.2.2
      have ne2 : gy ≠ gr := fun e => ne1 e.symm
      have l1 : gr < W.heap.size := (Array.getElem?_eq_some_iff.1 A1.out).1
      have l2 : gy < W.heap.size := (Array.getElem?_eq_some_iff.1 A2.out).1
      obtain ⟨c2, d2, f2⟩ := log_cells A1.out A2.out 2
      obtain ⟨c3, d3, f3⟩ := log_cells A1.out A2.out 3
      simp only [List.getElem?_cons_succ, List.getElem?_cons_zero] at c2 d2 c3 d3
      have kT : ∀ j u, Keeps (Own gy) W (W.setCell ⟨gy, j, none⟩ u) := fun j u => (Keeps.refl (S := Own gy) W).setCell (p := ⟨gy, j, none⟩) (fun _ => (rfl : gy = gy)) _
      have e2 : (W.setCell ⟨gy, 2, none⟩ (.int .i64 r.s)).cell? ⟨gr, 3, none⟩ = some (.int .i64 r.i) := (kT 2 _).cell c3 ne1
      have e3 : (W.setCell ⟨gy, 3, none⟩ (.int .i64 r.i)).cell? ⟨gr, 2, none⟩ = some (.int .i64 r.s) := (kT 3 _).cell c2 ne1
      have CI := Lib.hid (fun W => checkId_any W ⟨r.s, r.i, 0⟩)
      obtain ⟨B, hB⟩ : ∃ b, b = idOk ⟨r.s, r.i, 0⟩ := ⟨_, rfl⟩
      rw [← hB] at CI HM
      clear h1 kT hB
      go_upto_region 7 with fail
      go_region
      all_goals
        go_upto_region 8 with fail
        refine wp_world ?_
        intro W8 hW8
        have X1 : Hid (W8.heap[gr]? = some (.cells (lrC r (.slice va r.ids.length vc)).toArray 68 (0, 0))) := Lib.hid (by
          rw [hW8]
          exact (((Keeps.refl (S := Own gy) W).setCell (p := ⟨gy, _, none⟩) (fun _ => (rfl : gy = gy)) _).setCell (p := ⟨gy, _, none⟩) (fun _ => (rfl : gy = gy)) _).heap A1.out ne1)
        have X2 : Hid (W8.heap[gy]? = some (.cells (lrC ⟨r.k, 0, r.s, r.i, Cm.zero, []⟩ (.slice none 0 0)).toArray 68 (0, 0))) := Lib.hid (by
          rw [hW8]
          exact heap_setCell_at (heap_setCell_at A2.out _) _)
        have XK : Hid (Keeps No w W8) := Lib.hid (by
          rw [hW8]
          exact (((KW.out.setCell (p := ⟨gy, _, none⟩) (fun h => absurd h (Nat.not_lt.2 HG.out.2.1)) _).setCell (p := ⟨gy, _, none⟩) (fun h => absurd h (Nat.not_lt.2 HG.out.2.1)) _)).drew)
        have y2 : W8.cell? ⟨gr, 2, none⟩ = some (.int .i64 r.s) := by rw [cell_of_row _ _ _ _ _ _ X1.out]; rfl
        have y3 : W8.cell? ⟨gr, 3, none⟩ = some (.int .i64 r.i) := by rw [cell_of_row _ _ _ _ _ _ X1.out]; rfl
        clear hW8 e2 e3 c2 d2 f2 c3 d3 f3
        go_wp2_with fail
        refine (CI.out _).mono ?_
        rintro e w9 ⟨rfl, hg9⟩
        have Y1 := Lib.hid (hg9.keeps.heap X1.out (fun h => h))
        have Y2 := Lib.hid (hg9.keeps.heap X2.out (fun h => h))
        have YK := Lib.hid (XK.out.trans hg9.keeps (fun _ _ h => h))
        clear hg9 y2 y3
        cases B
        · simp only [errB, cond_false]
          go_wp2_with fail
          go_meet
          exact ⟨⟨r.k, 0, r.s, r.i, Cm.zero, []⟩, none, 0, 0, _, rfl, Y1.out, Y2.out, HM.out, YK.out⟩
        · simp only [errB, cond_true]
          go_wp2_with fail
          go_meet
          exact ⟨⟨r.k, 0, r.s, r.i, Cm.zero, []⟩, none, 0, 0, _, rfl, Y1.out, Y2.out, HM.out, YK.out⟩
    by_cases h1 : r.k = 3
    · have HM := Lib.hid (may_3 h1)
      have b1 : (r.k == 1) = false := by rw [h1]; rfl
      have b2 : (r.k == 2) = false := by rw [h1]; rfl
      have b3 : (r.k == 3) = true := by rw [h1]; rfl
      have b4 : (r.k == 4) = false := by rw [h1]; rfl
      have b5 : (r.k == 5) = false := by rw [h1]; rfl
      have ne1 : gr ≠ gy := HG.out.2.2
      have ne2 : gy ≠ gr := fun e => ne1 e.symm
      have CI := Lib.hid (fun W => checkCmd_any W r.c)
      obtain ⟨B, hB⟩ : ∃ b, b = cmdOk r.c := ⟨_, rfl⟩
      rw [← hB] at CI HM
      have rc : cellsAt W gr 4 16 = some (cmC r.c) := by unfold cellsAt; rw [A1.out]; rfl
      have oy : Open W gy := ⟨_, _, A2.out⟩
      have sy : (rowD W gy).size = 21 := by unfold rowD; rw [A2.out]; rfl
      have hS0 : cellsAt W gr 4 16 = some (cmC r.c) ∧ Open W gy ∧ (rowD W gy).size = 21 := ⟨rc, oy, sy⟩
      clear h1 hB
      go_upto_region 10 with fail
      go_region_held3 (fun w' => cellsAt w' gr 4 16 = some (cmC r.c) ∧ Open w' gy ∧ (rowD w' gy).size = 21)
        (first | exact hS0 | exact hS1 | exact ⟨(cellsAt_setRow_far _ _ _ _ _ _ ne1).trans hS1.1, (open_setRow _ _ _ _).2 hS1.2.1, by rw [rowD_setRow_at _ _ _ hS1.2.1]; simp [splice, hS1.2.2]⟩)
        (first
          | (go_at_call 61
             have hc := CI.out
             with_reducible refine (hc _).mono ?_
             clear hc
             rintro e w5 ⟨rfl, hg⟩
             have hS1 : cellsAt w5 gr 4 16 = some (cmC r.c) ∧ Open w5 gy ∧ (rowD w5 gy).size = 21 := ⟨hg.keeps.cellsAt rc, hg.keeps.opened oy, hg.keeps.rowSize oy sy⟩
             have KX := Lib.hid ((Keeps.refl (S := No) W).drew.trans hg.keeps (fun _ _ h => h))))
      have Y1 := KX.out.heap A1.out (fun h => h)
      have Y2 := KX.out.heap A2.out (fun h => h)
      have hrow : rowD w5 gy = (lrC (Lr.bare r.k) (.slice none 0 0)).toArray := by unfold rowD; rw [Y2]
      have hB0 : (errB B == 0) = B := by cases B <;> rfl
      rw [hB0, hrow]
      clear hrow hB0
      obtain ⟨W6, hW6⟩ : ∃ x, x = w5.setRow gy (splice (lrC (Lr.bare r.k) (.slice none 0 0)).toArray 4 (cmC r.c)) := ⟨_, rfl⟩
      rw [← hW6]
      have Z1 : Hid (W6.heap[gr]? = some (.cells (lrC r (.slice va r.ids.length vc)).toArray 68 (0, 0))) := Lib.hid (by rw [hW6]; exact ((Keeps.refl (S := Own gy) w5).setRow (fun _ => (rfl : gy = gy)) _).heap Y1 ne1)
      have Z2 : Hid (W6.heap[gy]? = some (.cells (lrC ⟨r.k, 0, 0, 0, r.c, []⟩ (.slice none 0 0)).toArray 68 (0, 0))) := Lib.hid (by rw [hW6, setRow_heap _ _ _ _ _ _ Y2]; rfl)
      have Z3 : Hid (Keeps No w W6) := Lib.hid (by rw [hW6]; exact (KW.out.trans KX.out (fun _ _ h => h)).setRow (fun h => absurd h (Nat.not_lt.2 HG.out.2.1)) _)
      clear Y1 Y2 hW6 hS0 hS1 KX
      go_wp2_with fail
      go_meet
      exact ⟨⟨r.k, 0, 0, 0, r.c, []⟩, none, 0, 0, _, rfl, Z1.out, Z2.out, HM.out, Z3.out⟩
    by_cases h1 : r.k = 4
    · have HM := Lib.hid (may_4 h1)
      have b1 : (r.k == 1) = false := by rw [h1]; rfl
      have b2 : (r.k == 2) = false := by rw [h1]; rfl
      have b3 : (r.k == 3) = false := by rw [h1]; rfl
      have b4 : (r.k == 4) = true := by rw [h1]; rfl
      have b5 : (r.k == 5) = false := by rw [h1]; rfl
      clear h1
      go_wp2_with fail
      go_meet
      exact ⟨Lr.bare r.k, none, 0, 0, true, rfl, A1.out, A2.out, HM.out, KW.out⟩
    by_cases h1 : r.k = 5
    · have HM := Lib.hid (may_5 h1)
      have b1 : (r.k == 1) = false := by rw [h1]; rfl
      have b2 : (r.k == 2) = false := by rw [h1]; rfl
      have b3 : (r.k == 3) = false := by rw [h1]; rfl
      have b4 : (r.k == 4) = false := by rw [h1]; rfl
      have b5 : (r.k == 5) = true := by rw [h1]; rfl
      have ne1 : gr ≠ gy := HG.out.2.2
      have ne2 : gy ≠ gr := fun e => ne1 e.symm
      have l1 : gr < W.heap.size := (Array.getElem?_eq_some_iff.1 A1.out).1
      have l2 : gy < W.heap.size := (Array.getElem?_eq_some_iff.1 A2.out).1
      obtain ⟨c20, d20, f20⟩ := log_cells A1.out A2.out 20
      simp only [List.getElem?_cons_succ, List.getElem?_cons_zero] at c20 d20
      have hml := HV.out.len
      have hmm : (r.ids.length : Int) ≤ 9223372036854775807 := by unfold maxLen at hml; omega
      clear h1 hml
      go_upto_region 15 with fail
      refine wp_world ?_
      intro W8 hW8
      have kS : Keeps (Own gy) W W8 := by rw [hW8]; exact (Keeps.refl (S := Own gy) W).setCell (p := ⟨gy, 20, none⟩) (fun _ => (rfl : gy = gy)) _
      have X1 := Lib.hid (kS.heap A1.out ne1)
      have X2 : Hid (W8.heap[gy]? = some (.cells (lrC ⟨r.k, 0, 0, 0, Cm.zero, []⟩ (.slice va r.ids.length vc)).toArray 68 (0, 0))) := Lib.hid (by rw [hW8]; exact heap_setCell_at A2.out _)
      have XK : Hid (Keeps No w W8) := Lib.hid (KW.out.trans kS (fun i hi e => by have e : i = gy := e; have := HG.out.2.1; omega))
      have y20 : W8.cell? ⟨gr, 20, none⟩ = some (.slice va r.ids.length vc) := by rw [cell_of_row _ _ _ _ _ _ X1.out]; rfl
      clear hW8 kS c20 d20 f20
      by_cases hle : r.ids.length ≤ 1024
      · have hli : (r.ids.length : Int) ≤ 1024 := by omega
        have HD := Lib.hid (decide_eq_true hle)
        have CA := Lib.hid (anyBad_any W8 _ r.ids (HV.out.kept XK.out (fun _ _ h => h)) (by omega))
        obtain ⟨B, hB⟩ : ∃ b, b = r.ids.all idOk := ⟨_, rfl⟩
        rw [← hB] at CA HM
        clear hle hB
        go_wp2_with fail
        refine CA.out.mono ?_
        rintro e w9 ⟨rfl, hk9⟩
        have Y1 := Lib.hid (hk9.heap X1.out (fun h => h))
        have Y2 := Lib.hid (hk9.heap X2.out (fun h => h))
        have YK := Lib.hid (XK.out.trans hk9 (fun _ _ h => h))
        clear hk9 y20
        go_wp2_with fail
        go_meet
        exact ⟨⟨r.k, 0, 0, 0, Cm.zero, []⟩, va, r.ids.length, vc, _, rfl, Y1.out, Y2.out, by rw [HM.out, HD.out]; simp, YK.out⟩
      · have hli : ¬ (r.ids.length : Int) ≤ 1024 := by omega
        have HD := Lib.hid (decide_eq_false hle)
        clear hle
        go_wp2_with fail
        go_meet
        exact ⟨⟨r.k, 0, 0, 0, Cm.zero, []⟩, va, r.ids.length, vc, _, rfl, X1.out, X2.out, by rw [HM.out, HD.out]; simp, XK.out⟩
    rename_i q1 q2 q3 q4
    have HM := Lib.hid (may_0 q1 q2 q3 q4 h1)
    have b1 : (r.k == 1) = false := by simpa using q1
    have b2 : (r.k == 2) = false := by simpa using q2
    have b3 : (r.k == 3) = false := by simpa using q3
    have b4 : (r.k == 4) = false := by simpa using q4
    have b5 : (r.k == 5) = false := by simpa using h1
    clear q1 q2 q3 q4 h1
    go_wp2_with fail
    go_meet
    exact ⟨Lr.bare r.k, none, 0, 0, false, rfl, A1.out, A2.out, by rw [HM.out]; rfl, KW.out⟩
  case rest =>
    obtain ⟨y, a, ny, c, ok, rfl, x1, x2, hm, kk⟩ := hcut
    have HM := Lib.hid hm
    have KK := Lib.hid kk
    have yn := (log_cells x1 x2 1).2.1
    have ys := (log_cells x1 x2 2).2.1
    have yi := (log_cells x1 x2 3).2.1
    have yl := (log_cells x1 x2 20).2.1
    have rn := (log_cells x1 x2 1).1
    have rs := (log_cells x1 x2 2).1
    have ri := (log_cells x1 x2 3).1
    have rl := (log_cells x1 x2 20).1
    simp only [List.getElem?_cons_succ, List.getElem?_cons_zero] at yn ys yi yl rn rs ri rl
    have yc : cellsAt wc gy 4 16 = some (cmC y.c) := by unfold cellsAt; rw [x2]; rfl
    have rc : cellsAt wc gr 4 16 = some (cmC r.c) := by unfold cellsAt; rw [x1]; rfl
    have hne := run_neqCm y.c r.c
    clear hm kk x1 x2
    obtain ⟨bc, hbc⟩ : ∃ b, b = cmEq y.c r.c := ⟨_, rfl⟩
    rw [← hbc] at hne HM
    clear hbc
    cases ok
    · go_wp2_with fail
      try go_ret
      rw [HE.out, HM.out]
      exact ⟨rfl, KK.out⟩
    by_cases e1 : y.n = r.n
    case neg =>
      have e1' : (y.n == r.n) = false := beq_eq_false_iff_ne.2 e1
      rw [e1'] at HM
      go_wp2_with fail
      try go_ret
      rw [HE.out, HM.out]
      exact ⟨rfl, KK.out⟩
    have e1' : (y.n == r.n) = true := beq_iff_eq.2 e1
    rw [e1'] at HM
    by_cases e2 : y.s = r.s
    case neg =>
      have e2' : (y.s == r.s) = false := beq_eq_false_iff_ne.2 e2
      rw [e2'] at HM
      go_wp2_with fail
      try go_ret
      rw [HE.out, HM.out]
      exact ⟨rfl, KK.out⟩
    have e2' : (y.s == r.s) = true := beq_iff_eq.2 e2
    rw [e2'] at HM
    by_cases e3 : y.i = r.i
    case neg =>
      have e3' : (y.i == r.i) = false := beq_eq_false_iff_ne.2 e3
      rw [e3'] at HM
      go_wp2_with fail
      try go_ret
      rw [HE.out, HM.out]
      exact ⟨rfl, KK.out⟩
    have e3' : (y.i == r.i) = true := beq_iff_eq.2 e3
    rw [e3'] at HM
    cases bc
    · go_wp2_with fail
      try go_ret
      rw [HE.out, HM.out]
      exact ⟨rfl, KK.out⟩
    by_cases e4 : ny = r.ids.length
    case neg =>
      have e4' : (ny == r.ids.length) = false := beq_eq_false_iff_ne.2 e4
      have e5 : ((ny : Int) == (r.ids.length : Int)) = false := beq_eq_false_iff_ne.2 (by omega)
      rw [e4'] at HM
      clear e4
      go_wp2_with fail
      try go_ret
      rw [HE.out, HM.out]
      exact ⟨rfl, KK.out⟩
    have e4' : (ny == r.ids.length) = true := beq_iff_eq.2 e4
    have e5 : ((ny : Int) == (r.ids.length : Int)) = true := beq_iff_eq.2 (by omega)
    rw [e4'] at HM
    clear e4
    go_wp2_with fail
    try go_ret
    rw [HE.out, HM.out]
    exact ⟨rfl, KK.out⟩
end Go.Proofs.YtndjnkjcfdaegaaGreatDoor

/-
  ledger.Encode. No conditions of its own.
-/
namespace Go.Proofs.YtndjnkjcfdaegaaGreatDoor
open Go.RowKit Go.Shelf Go.Sort Go.Joins Go.Deep

theorem putCm_le (c : Cm) : (putCm c).length ≤ 1000 := by
  unfold putCm
  cases cmdOk c
  · simp
  · have h0 := layI_le c.k
    have h1 := putNam_le c.id
    have h2 := putRest_le c.b
    have h3 := putBd_le c.b
    have h4 := layI_le c.m
    simp only [cond_true, List.length_append]
    cases c.k == 1
    · cases c.k == 3
      · cases c.k == 4
        · simp only [cond_false]; omega
        · simp only [cond_false, cond_true, List.length_append]; omega
      · simp only [cond_false, cond_true, List.length_append]; omega
    · simp only [cond_true]; omega
theorem may_kinds {r : Lr} (h : mayL r = true) : r.k = 1 ∨ r.k = 2 ∨ r.k = 3 ∨ r.k = 4 ∨ r.k = 5 := by
  by_cases h1 : r.k = 1
  · exact .inl h1
  by_cases h2 : r.k = 2
  · exact .inr (.inl h2)
  by_cases h3 : r.k = 3
  · exact .inr (.inr (.inl h3))
  by_cases h4 : r.k = 4
  · exact .inr (.inr (.inr (.inl h4)))
  by_cases h5 : r.k = 5
  · exact .inr (.inr (.inr (.inr h5)))
  rw [may_0 h1 h2 h3 h4 h5] at h
  cases h
theorem may_sizes {r : Lr} (h : mayL r = true) : (r.k = 1 → i64 r.n) ∧ (r.k = 2 → i64 r.s ∧ i64 r.i) ∧ (r.k = 5 → r.ids.length ≤ 1024) := by
  refine ⟨fun e => ?_, fun e => ?_, fun e => ?_⟩
  · rw [may_1 e, Bool.and_eq_true] at h
    exact okI_i64 h.1
  · rw [may_2 e, Bool.and_eq_true] at h
    have h2 := h.1
    unfold idOk at h2
    simp only [Bool.and_eq_true] at h2
    exact ⟨okI_i64 h2.1, okI_i64 h2.2.1⟩
  · rw [may_5 e, Bool.and_eq_true, Bool.and_eq_true, decide_eq_true_eq] at h
    exact h.1.1
set_option maxRecDepth 100000 in
set_option maxHeartbeats 4000000 in
theorem encode_no (w : World) (r : Lr) (v : Value) (hv : RdOf cNam w v r.ids) (hb : mayL r = false) : Calls Tryz.prog 58 #[lrV r v] w fun e w' => e = .returned (.tuple #[strB (encL r).1, .int .i64 (encL r).2]) ∧ Keeps No w w' := by
  have CK := Lib.hid (ledCheck_any (w.alloc (.cells (lrC r v).toArray 68)) r v (hv.kept ((Keeps.refl w).alloc _) (fun _ _ h => h)))
  have hP : encL r = ([], 1) := by unfold encL; rw [hb]; rfl
  rw [hP]
  rw [hb] at CK
  simp only [errB, cond_false] at CK
  clear hb hP hv
  go_enter Tryz.func58, Tryz.ntmps58
  go_wp2_with fail
  (with_reducible refine CK.out.mono ?_)
  rintro e w1 ⟨rfl, hk⟩
  have K1 : Hid (Keeps No w w1) := Lib.hid (((Keeps.refl w).alloc _).trans hk (fun _ _ h => h))
  clear hk
  go_wp2
  go_ret2
  exact ⟨rfl, K1.out⟩

set_option maxRecDepth 100000 in
set_option maxHeartbeats 4000000 in
theorem encode_1 (w : World) (r : Lr) (v : Value) (hv : RdOf cNam w v r.ids) (hb : mayL r = true) (hk : r.k = 1) : Calls Tryz.prog 58 #[lrV r v] w fun e w' => e = .returned (.tuple #[strB (encL r).1, .int .i64 (encL r).2]) ∧ Keeps No w w' := by
  obtain ⟨R, hR⟩ : ∃ x, x = strB (encL r).1 := ⟨_, rfl⟩
  have hP : encL r = (encT r, 0) := by unfold encL; rw [hb]; rfl
  rw [← hR, hP]
  rw [hP] at hR
  have CK := Lib.hid (ledCheck_any (w.alloc (.cells (lrC r v).toArray 68)) r v (hv.kept ((Keeps.refl w).alloc _) (fun _ _ h => h)))
  rw [hb] at CK
  simp only [errB, cond_true] at CK
  have hT : encT r = layI r.k ++ (layI r.n) := by unfold encT; rw [hk]; simp
  have hsz := may_sizes hb
  have b1 : (r.k == 1) = true := by rw [hk]; rfl
  have b2 : (r.k == 2) = false := by rw [hk]; rfl
  have b3 : (r.k == 3) = false := by rw [hk]; rfl
  have b5 : (r.k == 5) = false := by rw [hk]; rfl
  obtain ⟨X0, hX0⟩ : ∃ x, x = toB (layI r.k) := ⟨_, rfl⟩
  have C0 := Lib.hid (fun W => calls_toB hX0 (octInt1 W r.k (by rw [hk]; exact ⟨by omega, by omega⟩)))
  obtain ⟨X1, hX1⟩ : ∃ x, x = toB (layI r.n) := ⟨_, rfl⟩
  obtain ⟨X2, hX2⟩ : ∃ x, x = toB (layI r.k ++ (layI r.n)) := ⟨_, rfl⟩
  have HR : Hid (R = .string X2) := Lib.hid (by rw [hR, hX2, hT]; rfl)
  have hcat := fun W' : World => cat_run W' (layI r.k) (layI r.n) (by have := layI_le r.k; omega) (by have := layI_le r.n; omega)
  rw [← hX0, ← hX1, ← hX2] at hcat
  have CA := Lib.hid (fun W => calls_toB hX1 (octInt1 W r.n (hsz.1 hk)))
  have cb : cellsAt (w.alloc (.cells (lrC r v).toArray 68)) w.heap.size 0 21 = some (lrC r v) := by simp [go_sem]
  have CB := Lib.hid cb
  have HV := Lib.hid hv
  clear hb hR hP cb hX0 hk hT hsz hv hX1 hX2
  go_enter Tryz.func58, Tryz.ntmps58
  go_wp2_with fail
  (with_reducible refine CK.out.mono ?_)
  rintro e w1 ⟨rfl, hg⟩
  have K1 : Hid (Keeps No w w1) := Lib.hid (((Keeps.refl w).alloc _).trans hg (fun _ _ h => h))
  have c1 := hg.cellsAt CB.out
  have C1 := Lib.hid c1
  have k0 := cellsAt_cell c1 0 _ rfl
  simp only [Nat.zero_add] at k0
  clear hg c1 CB CK
  go_wp2_with fail
  (with_reducible refine (C0.out _).mono ?_)
  rintro e W ⟨rfl, hk2⟩
  have KW : Hid (Keeps No w W) := Lib.hid ((K1.out.alloc _).trans hk2 (fun _ _ h => h))
  have cW : cellsAt W w.heap.size 0 21 = some (lrC r v) := hk2.cellsAt (((Keeps.refl (S := No) w1).alloc _).cellsAt C1.out)
  have m0 := cellsAt_cell cW 0 _ rfl
  have m1 := cellsAt_cell cW 1 _ rfl
  simp only [Nat.zero_add] at m0 m1
  clear hk2 k0 cW C1 C0
  go_wp2_with fail
  (with_reducible refine (CA.out _).mono ?_)
  rintro e w5 ⟨rfl, hk3⟩
  have K5 : Hid (Keeps No w w5) := Lib.hid ((KW.out.alloc _).trans hk3 (fun _ _ h => h))
  clear hk3
  go_wp2
  go_ret2
  exact ⟨by rw [HR.out]; rfl, K5.out⟩
set_option maxRecDepth 100000 in
set_option maxHeartbeats 4000000 in
theorem encode_2 (w : World) (r : Lr) (v : Value) (hv : RdOf cNam w v r.ids) (hb : mayL r = true) (hk : r.k = 2) : Calls Tryz.prog 58 #[lrV r v] w fun e w' => e = .returned (.tuple #[strB (encL r).1, .int .i64 (encL r).2]) ∧ Keeps No w w' := by
  obtain ⟨R, hR⟩ : ∃ x, x = strB (encL r).1 := ⟨_, rfl⟩
  have hP : encL r = (encT r, 0) := by unfold encL; rw [hb]; rfl
  rw [← hR, hP]
  rw [hP] at hR
  have CK := Lib.hid (ledCheck_any (w.alloc (.cells (lrC r v).toArray 68)) r v (hv.kept ((Keeps.refl w).alloc _) (fun _ _ h => h)))
  rw [hb] at CK
  simp only [errB, cond_true] at CK
  have hT : encT r = layI r.k ++ (layI r.s ++ layI r.i) := by unfold encT; rw [hk]; simp
  have hsz := may_sizes hb
  have b1 : (r.k == 1) = false := by rw [hk]; rfl
  have b2 : (r.k == 2) = true := by rw [hk]; rfl
  have b3 : (r.k == 3) = false := by rw [hk]; rfl
  have b5 : (r.k == 5) = false := by rw [hk]; rfl
  obtain ⟨X0, hX0⟩ : ∃ x, x = toB (layI r.k) := ⟨_, rfl⟩
  have C0 := Lib.hid (fun W => calls_toB hX0 (octInt1 W r.k (by rw [hk]; exact ⟨by omega, by omega⟩)))
  obtain ⟨X1, hX1⟩ : ∃ x, x = toB (layI r.s ++ layI r.i) := ⟨_, rfl⟩
  obtain ⟨X2, hX2⟩ : ∃ x, x = toB (layI r.k ++ (layI r.s ++ layI r.i)) := ⟨_, rfl⟩
  have HR : Hid (R = .string X2) := Lib.hid (by rw [hR, hX2, hT]; rfl)
  have hcat := fun W' : World => cat_run W' (layI r.k) (layI r.s ++ layI r.i) (by have := layI_le r.k; omega) (by have h1 := layI_le r.s; have h2 := layI_le r.i; rw [List.length_append]; omega)
  rw [← hX0, ← hX1, ← hX2] at hcat
  have CA := Lib.hid (fun W => calls_toB hX1 (octInt2 W r.s r.i (hsz.2.1 hk).1 (hsz.2.1 hk).2))
  have cb : cellsAt (w.alloc (.cells (lrC r v).toArray 68)) w.heap.size 0 21 = some (lrC r v) := by simp [go_sem]
  have CB := Lib.hid cb
  have HV := Lib.hid hv
  clear hb hR hP cb hX0 hk hT hsz hv hX1 hX2
  go_enter Tryz.func58, Tryz.ntmps58
  go_wp2_with fail
  (with_reducible refine CK.out.mono ?_)
  rintro e w1 ⟨rfl, hg⟩
  have K1 : Hid (Keeps No w w1) := Lib.hid (((Keeps.refl w).alloc _).trans hg (fun _ _ h => h))
  have c1 := hg.cellsAt CB.out
  have C1 := Lib.hid c1
  have k0 := cellsAt_cell c1 0 _ rfl
  simp only [Nat.zero_add] at k0
  clear hg c1 CB CK
  go_wp2_with fail
  (with_reducible refine (C0.out _).mono ?_)
  rintro e W ⟨rfl, hk2⟩
  have KW : Hid (Keeps No w W) := Lib.hid ((K1.out.alloc _).trans hk2 (fun _ _ h => h))
  have cW : cellsAt W w.heap.size 0 21 = some (lrC r v) := hk2.cellsAt (((Keeps.refl (S := No) w1).alloc _).cellsAt C1.out)
  have m0 := cellsAt_cell cW 0 _ rfl
  have m1 := cellsAt_cell cW 2 _ rfl
  have m2 := cellsAt_cell cW 3 _ rfl
  simp only [Nat.zero_add] at m0 m1 m2
  clear hk2 k0 cW C1 C0
  go_wp2_with fail
  (with_reducible refine (CA.out _).mono ?_)
  rintro e w5 ⟨rfl, hk3⟩
  have K5 : Hid (Keeps No w w5) := Lib.hid ((KW.out.alloc _).trans hk3 (fun _ _ h => h))
  clear hk3
  go_wp2
  go_ret2
  exact ⟨by rw [HR.out]; rfl, K5.out⟩
set_option maxRecDepth 100000 in
set_option maxHeartbeats 4000000 in
theorem encode_3 (w : World) (r : Lr) (v : Value) (hv : RdOf cNam w v r.ids) (hb : mayL r = true) (hk : r.k = 3) : Calls Tryz.prog 58 #[lrV r v] w fun e w' => e = .returned (.tuple #[strB (encL r).1, .int .i64 (encL r).2]) ∧ Keeps No w w' := by
  obtain ⟨R, hR⟩ : ∃ x, x = strB (encL r).1 := ⟨_, rfl⟩
  have hP : encL r = (encT r, 0) := by unfold encL; rw [hb]; rfl
  rw [← hR, hP]
  rw [hP] at hR
  have CK := Lib.hid (ledCheck_any (w.alloc (.cells (lrC r v).toArray 68)) r v (hv.kept ((Keeps.refl w).alloc _) (fun _ _ h => h)))
  rw [hb] at CK
  simp only [errB, cond_true] at CK
  have hT : encT r = layI r.k ++ (putCm r.c) := by unfold encT; rw [hk]; simp
  have hsz := may_sizes hb
  have b1 : (r.k == 1) = false := by rw [hk]; rfl
  have b2 : (r.k == 2) = false := by rw [hk]; rfl
  have b3 : (r.k == 3) = true := by rw [hk]; rfl
  have b5 : (r.k == 5) = false := by rw [hk]; rfl
  obtain ⟨X0, hX0⟩ : ∃ x, x = toB (layI r.k) := ⟨_, rfl⟩
  have C0 := Lib.hid (fun W => calls_toB hX0 (octInt1 W r.k (by rw [hk]; exact ⟨by omega, by omega⟩)))
  obtain ⟨X1, hX1⟩ : ∃ x, x = toB (putCm r.c) := ⟨_, rfl⟩
  obtain ⟨X2, hX2⟩ : ∃ x, x = toB (layI r.k ++ (putCm r.c)) := ⟨_, rfl⟩
  have HR : Hid (R = .string X2) := Lib.hid (by rw [hR, hX2, hT]; rfl)
  have hcat := fun W' : World => cat_run W' (layI r.k) (putCm r.c) (by have := layI_le r.k; omega) (by have := putCm_le r.c; omega)
  rw [← hX0, ← hX1, ← hX2] at hcat
  have CA := Lib.hid (fun W => calls_str hX1 (putCmd_any W r.c))
  have cb : cellsAt (w.alloc (.cells (lrC r v).toArray 68)) w.heap.size 0 21 = some (lrC r v) := by simp [go_sem]
  have CB := Lib.hid cb
  have HV := Lib.hid hv
  clear hb hR hP cb hX0 hk hT hsz hv hX1 hX2
  go_enter Tryz.func58, Tryz.ntmps58
  go_wp2_with fail
  (with_reducible refine CK.out.mono ?_)
  rintro e w1 ⟨rfl, hg⟩
  have K1 : Hid (Keeps No w w1) := Lib.hid (((Keeps.refl w).alloc _).trans hg (fun _ _ h => h))
  have c1 := hg.cellsAt CB.out
  have C1 := Lib.hid c1
  have k0 := cellsAt_cell c1 0 _ rfl
  simp only [Nat.zero_add] at k0
  clear hg c1 CB CK
  go_wp2_with fail
  (with_reducible refine (C0.out _).mono ?_)
  rintro e W ⟨rfl, hk2⟩
  have KW : Hid (Keeps No w W) := Lib.hid ((K1.out.alloc _).trans hk2 (fun _ _ h => h))
  have cW : cellsAt W w.heap.size 0 21 = some (lrC r v) := hk2.cellsAt (((Keeps.refl (S := No) w1).alloc _).cellsAt C1.out)
  have m0 := cellsAt_cell cW 0 _ rfl
  have m1 : cellsAt W w.heap.size 4 16 = some (cmC r.c) := cellsAt_part cW 4 (cmC r.c) rfl (by simp)
  simp only [Nat.zero_add] at m0
  clear hk2 k0 cW C1 C0
  go_wp2_with fail
  (with_reducible refine (CA.out _).mono ?_)
  rintro e w5 ⟨rfl, hk3⟩
  have K5 : Hid (Keeps No w w5) := Lib.hid (KW.out.trans hk3 (fun _ _ h => h))
  clear hk3
  go_wp2
  go_ret2
  exact ⟨by rw [HR.out]; rfl, K5.out⟩
set_option maxRecDepth 100000 in
set_option maxHeartbeats 4000000 in
theorem encode_4 (w : World) (r : Lr) (v : Value) (hv : RdOf cNam w v r.ids) (hb : mayL r = true) (hk : r.k = 4) : Calls Tryz.prog 58 #[lrV r v] w fun e w' => e = .returned (.tuple #[strB (encL r).1, .int .i64 (encL r).2]) ∧ Keeps No w w' := by
  obtain ⟨R, hR⟩ : ∃ x, x = strB (encL r).1 := ⟨_, rfl⟩
  have hP : encL r = (encT r, 0) := by unfold encL; rw [hb]; rfl
  rw [← hR, hP]
  rw [hP] at hR
  have CK := Lib.hid (ledCheck_any (w.alloc (.cells (lrC r v).toArray 68)) r v (hv.kept ((Keeps.refl w).alloc _) (fun _ _ h => h)))
  rw [hb] at CK
  simp only [errB, cond_true] at CK
  have hT : encT r = layI r.k := by unfold encT; rw [hk]; simp
  have hsz := may_sizes hb
  have b1 : (r.k == 1) = false := by rw [hk]; rfl
  have b2 : (r.k == 2) = false := by rw [hk]; rfl
  have b3 : (r.k == 3) = false := by rw [hk]; rfl
  have b5 : (r.k == 5) = false := by rw [hk]; rfl
  obtain ⟨X0, hX0⟩ : ∃ x, x = toB (layI r.k) := ⟨_, rfl⟩
  have C0 := Lib.hid (fun W => calls_toB hX0 (octInt1 W r.k (by rw [hk]; exact ⟨by omega, by omega⟩)))
  have HR : Hid (R = .string X0) := Lib.hid (by rw [hR, hX0, hT]; rfl)
  have cb : cellsAt (w.alloc (.cells (lrC r v).toArray 68)) w.heap.size 0 21 = some (lrC r v) := by simp [go_sem]
  have CB := Lib.hid cb
  have HV := Lib.hid hv
  clear hb hR hP cb hX0 hk hT hsz hv
  go_enter Tryz.func58, Tryz.ntmps58
  go_wp2_with fail
  (with_reducible refine CK.out.mono ?_)
  rintro e w1 ⟨rfl, hg⟩
  have K1 : Hid (Keeps No w w1) := Lib.hid (((Keeps.refl w).alloc _).trans hg (fun _ _ h => h))
  have c1 := hg.cellsAt CB.out
  have C1 := Lib.hid c1
  have k0 := cellsAt_cell c1 0 _ rfl
  simp only [Nat.zero_add] at k0
  clear hg c1 CB CK
  go_wp2_with fail
  (with_reducible refine (C0.out _).mono ?_)
  rintro e W ⟨rfl, hk2⟩
  have KW : Hid (Keeps No w W) := Lib.hid ((K1.out.alloc _).trans hk2 (fun _ _ h => h))
  have cW : cellsAt W w.heap.size 0 21 = some (lrC r v) := hk2.cellsAt (((Keeps.refl (S := No) w1).alloc _).cellsAt C1.out)
  have m0 := cellsAt_cell cW 0 _ rfl
  simp only [Nat.zero_add] at m0
  clear hk2 k0 cW C1 C0
  go_wp2
  go_ret2
  exact ⟨by rw [HR.out]; rfl, KW.out⟩
set_option maxRecDepth 100000 in
set_option maxHeartbeats 4000000 in
theorem encode_5 (w : World) (r : Lr) (v : Value) (hv : RdOf cNam w v r.ids) (hb : mayL r = true) (hk : r.k = 5) : Calls Tryz.prog 58 #[lrV r v] w fun e w' => e = .returned (.tuple #[strB (encL r).1, .int .i64 (encL r).2]) ∧ Keeps No w w' := by
  obtain ⟨R, hR⟩ : ∃ x, x = strB (encL r).1 := ⟨_, rfl⟩
  have hP : encL r = (encT r, 0) := by unfold encL; rw [hb]; rfl
  rw [← hR, hP]
  rw [hP] at hR
  have CK := Lib.hid (ledCheck_any (w.alloc (.cells (lrC r v).toArray 68)) r v (hv.kept ((Keeps.refl w).alloc _) (fun _ _ h => h)))
  rw [hb] at CK
  simp only [errB, cond_true] at CK
  have hT : encT r = layI r.k ++ (putL putNam r.ids) := by unfold encT; rw [hk]; simp
  have hsz := may_sizes hb
  have b1 : (r.k == 1) = false := by rw [hk]; rfl
  have b2 : (r.k == 2) = false := by rw [hk]; rfl
  have b3 : (r.k == 3) = false := by rw [hk]; rfl
  have b5 : (r.k == 5) = true := by rw [hk]; rfl
  obtain ⟨X0, hX0⟩ : ∃ x, x = toB (layI r.k) := ⟨_, rfl⟩
  have C0 := Lib.hid (fun W => calls_toB hX0 (octInt1 W r.k (by rw [hk]; exact ⟨by omega, by omega⟩)))
  obtain ⟨X1, hX1⟩ : ∃ x, x = toB (putL putNam r.ids) := ⟨_, rfl⟩
  obtain ⟨X2, hX2⟩ : ∃ x, x = toB (layI r.k ++ (putL putNam r.ids)) := ⟨_, rfl⟩
  have HR : Hid (R = .string X2) := Lib.hid (by rw [hR, hX2, hT]; rfl)
  have hcat := fun W' : World => cat_run W' (layI r.k) (putL putNam r.ids) (by have := layI_le r.k; omega) (by have := putL_le r.ids (hsz.2.2 hk); omega)
  rw [← hX0, ← hX1, ← hX2] at hcat
  have CA := Lib.hid (fun W (h : RdOf cNam W v r.ids) => calls_str hX1 (listId_any W v r.ids h (hsz.2.2 hk)))
  have cb : cellsAt (w.alloc (.cells (lrC r v).toArray 68)) w.heap.size 0 21 = some (lrC r v) := by simp [go_sem]
  have CB := Lib.hid cb
  have HV := Lib.hid hv
  clear hb hR hP cb hX0 hk hT hsz hv hX1 hX2
  go_enter Tryz.func58, Tryz.ntmps58
  go_wp2_with fail
  (with_reducible refine CK.out.mono ?_)
  rintro e w1 ⟨rfl, hg⟩
  have K1 : Hid (Keeps No w w1) := Lib.hid (((Keeps.refl w).alloc _).trans hg (fun _ _ h => h))
  have c1 := hg.cellsAt CB.out
  have C1 := Lib.hid c1
  have k0 := cellsAt_cell c1 0 _ rfl
  simp only [Nat.zero_add] at k0
  clear hg c1 CB CK
  go_wp2_with fail
  (with_reducible refine (C0.out _).mono ?_)
  rintro e W ⟨rfl, hk2⟩
  have KW : Hid (Keeps No w W) := Lib.hid ((K1.out.alloc _).trans hk2 (fun _ _ h => h))
  have cW : cellsAt W w.heap.size 0 21 = some (lrC r v) := hk2.cellsAt (((Keeps.refl (S := No) w1).alloc _).cellsAt C1.out)
  have m0 := cellsAt_cell cW 0 _ rfl
  have m1 := cellsAt_cell cW 20 _ rfl
  simp only [Nat.zero_add] at m0 m1
  clear hk2 k0 cW C1 C0
  go_wp2_with fail
  (with_reducible refine (CA.out _ (HV.out.kept KW.out (fun _ _ h => h))).mono ?_)
  rintro e w5 ⟨rfl, hk3⟩
  have K5 : Hid (Keeps No w w5) := Lib.hid (KW.out.trans hk3 (fun _ _ h => h))
  clear hk3
  go_wp2
  go_ret2
  exact ⟨by rw [HR.out]; rfl, K5.out⟩
theorem encode_any (w : World) (r : Lr) (v : Value) (hv : RdOf cNam w v r.ids) : Calls Tryz.prog 58 #[lrV r v] w fun e w' => e = .returned (.tuple #[strB (encL r).1, .int .i64 (encL r).2]) ∧ Keeps No w w' := by
  cases hb : mayL r with
  | false => exact encode_no w r v hv hb
  | true =>
    rcases may_kinds hb with h | h | h | h | h
    · exact encode_1 w r v hv hb h
    · exact encode_2 w r v hv hb h
    · exact encode_3 w r v hv hb h
    · exact encode_4 w r v hv hb h
    · exact encode_5 w r v hv hb h
end Go.Proofs.YtndjnkjcfdaegaaGreatDoor

/-
  ledger.Decode. No conditions of its own.
-/
namespace Go.Proofs.YtndjnkjcfdaegaaGreatDoor
open Go.RowKit Go.Shelf Go.Sort Go.Joins Go.Deep

theorem own_lower {α : Type} {C : Codec α} {e : TypeId} {w : World} {b b' : Nat} {v : Value} {l : List α} (h : OwnOf C e w b v l) (hb : b' ≤ b) : OwnOf C e w b' v l := by
  obtain ⟨h1, h2⟩ := h
  refine ⟨h1, ?_⟩
  rcases h2 with h2 | ⟨g, cap, cur, rfl, hg, r⟩
  · exact .inl h2
  · exact .inr ⟨g, cap, cur, rfl, by omega, r⟩
theorem own_off {α : Type} {C : Codec α} {e : TypeId} {w : World} {b : Nat} {v : Value} {l : List α} (h : OwnOf C e w b v l) {g : Nat} {cs : Array Value} {t : TypeId} {o : Nat × Nat} (hg : w.heap[g]? = some (.cells cs t o)) (ht : t ≠ e) : ∀ k, v.ownBlock = some k → ¬ k = g := by
  intro k hk e1
  subst e1
  rcases h.2 with ⟨rfl, _⟩ | ⟨g', cap, cur, rfl, hb, hh, _⟩
  · cases hk
  · obtain rfl : g' = k := by simpa [Value.ownBlock] using hk
    rw [hh] at hg
    cases hg
    exact ht rfl
def DecPost (w : World) (p : Lr × Int) (e : Ending) (w' : World) : Prop := ∃ v, e = .returned (.tuple #[lrV p.1 v, .int .i64 p.2]) ∧ OwnOf cNam 36 w' w.heap.size v p.1.ids ∧ Keeps No w w'
def DkAt (w : World) (gz g gr : Nat) (X : Lr × Rdr) (wc : World) : Prop := ∃ v, wc.heap[gr]? = some (.cells (lrC X.1 v).toArray 68 (0, 0)) ∧ wc.heap[gz]? = some (.cells (lrC Lr.zero (.slice none 0 0)).toArray 68 (0, 0)) ∧ OwnOf cNam 36 wc w.heap.size v X.1.ids ∧ RdrAt wc g X.2 ∧ Keeps No w wc
theorem raw_1 (r : Rdr) : recRaw 1 r = (⟨1, (rdI r).1, 0, 0, Cm.zero, []⟩, (rdI r).2) := rfl
theorem raw_2 (r : Rdr) : recRaw 2 r = (⟨2, 0, (rdI r).1, (rdI (rdI r).2).1, Cm.zero, []⟩, (rdI (rdI r).2).2) := rfl
theorem raw_3 (r : Rdr) : recRaw 3 r = (⟨3, 0, 0, 0, (takeCm r).1, []⟩, (takeCm r).2) := rfl
theorem raw_5 (r : Rdr) : recRaw 5 r = (⟨5, 0, 0, 0, Cm.zero, (takeLs takeNam 1024 r).1⟩, (takeLs takeNam 1024 r).2) := rfl
theorem raw_0 {k : Int} (h1 : ¬ k = 1) (h2 : ¬ k = 2) (h3 : ¬ k = 3) (h5 : ¬ k = 5) (r : Rdr) : recRaw k r = (Lr.bare k, r) := by
  unfold recRaw
  rw [beq_eq_false_iff_ne.2 h1, beq_eq_false_iff_ne.2 h2, beq_eq_false_iff_ne.2 h3, beq_eq_false_iff_ne.2 h5]
  rfl
set_option maxRecDepth 100000 in
set_option maxHeartbeats 4000000 in
theorem decode_any (w : World) (s : ByteArray) (hs : (s.size : Int) ≤ 140737488355328) : Calls Tryz.prog 19 #[.string s] w (DecPost w (decL s.data.toList)) := by
  obtain ⟨E, hE⟩ : ∃ x, x = decL s.data.toList := ⟨_, rfl⟩
  obtain ⟨L, hL⟩ : ∃ x, x = s.data.toList := ⟨_, rfl⟩
  have C0 := Lib.hid (fun W => of_any W s hs)
  rw [← hL] at C0 hE
  rw [← hL, ← hE]
  clear hL hs
  have HE := Lib.hid hE
  clear hE
  go_enter Tryz.func19, Tryz.ntmps19
  go_upto_region 1 with fail
  refine wp_world ?_
  intro W0 hW0
  have Z0 : Hid (W0.heap[w.heap.size]? = some (.cells (lrC Lr.zero (.slice none 0 0)).toArray 68 (0, 0))) := Lib.hid (by rw [hW0]; exact heap_alloc_new w _)
  have K0 : Hid (Keeps No w W0) := Lib.hid (by rw [hW0]; exact (Keeps.refl w).alloc _)
  obtain ⟨gz, hgz⟩ : ∃ q, q = w.heap.size := ⟨_, rfl⟩
  have HGZ : Hid (w.heap.size ≤ gz) := Lib.hid (by omega)
  rw [← hgz] at Z0 ⊢
  clear hW0 hgz
  go_wp2_with fail
  (with_reducible refine (C0.out _).mono ?_)
  rintro e w1 ⟨rfl, hr1, hk1⟩
  obtain ⟨g, hg⟩ : ∃ q, q = W0.heap.size := ⟨_, rfl⟩
  have ngz : ¬ gz = g := by have := (Array.getElem?_eq_some_iff.1 Z0.out).1; omega
  have HG : Hid (w.heap.size ≤ g) := Lib.hid (by have := K0.out.size; omega)
  rw [← hg] at hr1 ⊢
  have RD1 := Lib.hid hr1
  have Z1 := Lib.hid (hk1.heap Z0.out (fun h => h))
  have K1 := Lib.hid (K0.out.trans hk1 (fun _ _ h => h))
  clear hr1 hk1 hg Z0 K0 C0
  go_upto_region 2 with fail
  go_wp2_with fail
  (with_reducible refine (rInt_any RD1.out).mono ?_)
  rintro e w2 ⟨rfl, hr2, hk2⟩
  obtain ⟨p, hp⟩ : ∃ x, x = rdI (some L) := ⟨_, rfl⟩
  rw [← hp] at hr2 ⊢
  have HP := Lib.hid hp
  have RD2 := Lib.hid hr2
  have Z2 := Lib.hid (hk2.heap Z1.out ngz)
  have K2 : Hid (Keeps No w w2) := Lib.hid (K1.out.trans hk2 (fun i hi e => by have e : i = g := e; have := HG.out; omega))
  clear hr2 hk2 hp Z1 K1 RD1
  go_upto_region 3 with fail
  refine wp_world ?_
  intro W hW
  have TK : Keeps No w2 W := by rw [hW]; exact (Keeps.refl w2).alloc _
  obtain ⟨gr, hgr⟩ : ∃ q, q = w2.heap.size := ⟨_, rfl⟩
  have A1 : Hid (W.heap[gr]? = some (.cells (lrC (Lr.bare p.1) (.slice none 0 0)).toArray 68 (0, 0))) := Lib.hid (by rw [hW, hgr]; exact heap_alloc_new w2 _)
  have A2 := Lib.hid (TK.heap Z2.out (fun h => h))
  have RD := Lib.hid (RD2.out.kept TK (fun h => h))
  have KW : Hid (Keeps No w W) := Lib.hid (K2.out.trans TK (fun _ _ h => h))
  have ngr : ¬ gr = g := by have := RD2.out.lt; omega
  have nzr : ¬ gz = gr := by have := (Array.getElem?_eq_some_iff.1 Z2.out).1; omega
  have HGR : Hid (w.heap.size ≤ gr) := Lib.hid (by have := K2.out.size; omega)
  rw [← hgr] at ⊢
  have c0 : W.cell? ⟨gr, 0, none⟩ = some (.int .i64 p.1) := by rw [cell_of_row _ _ _ _ _ _ A1.out]; rfl
  have X0 : Hid (∃ X, recRaw p.1 p.2 = X) := Lib.hid ⟨_, rfl⟩
  obtain ⟨X, hX⟩ := X0.out
  have HX := Lib.hid hX
  clear hW TK hgr hX X0 Z2 K2 RD2
  go_upto_block 0 with fail
  clear c0
  go_cut [] (DkAt w gz g gr X)
  case first =>
    have lr : gr < W.heap.size := (Array.getElem?_eq_some_iff.1 A1.out).1
    by_cases h1 : p.1 = 1
    · rw [h1, raw_1] at HX
      have b1 : (p.1 == 1) = true := by rw [h1]; rfl
      have b2 : (p.1 == 2) = false := by rw [h1]; rfl
      have b3 : (p.1 == 3) = false := by rw [h1]; rfl
      have b5 : (p.1 == 5) = false := by rw [h1]; rfl
      obtain ⟨q, hq⟩ : ∃ x, x = rdI p.2 := ⟨_, rfl⟩
      have CA := Lib.hid (rInt_any RD.out)
      rw [← hq] at HX CA
      rw [← h1] at HX
      clear h1 hq
      go_wp2_with fail
      (with_reducible refine CA.out.mono ?_)
      rintro e w4 ⟨rfl, hr4, hk4⟩
      have Y1 := Lib.hid (hk4.heap A1.out ngr)
      have Y2 := Lib.hid (hk4.heap A2.out ngz)
      have RD4 := Lib.hid hr4
      have K4 := Lib.hid (KW.out.trans hk4 (fun i hi e => by have e : i = g := e; have := HG.out; omega))
      have lr4 : gr < w4.heap.size := (Array.getElem?_eq_some_iff.1 Y1.out).1
      have f4 : ∀ j, w4.frozen? ⟨gr, j, none⟩ = false := fun j => frozen_of_row _ _ _ _ _ Y1.out
      have f1 := f4 1
      have d1 : w4.cell? ⟨gr, 1, none⟩ = some (.int .i64 0) := by rw [cell_of_row _ _ _ _ _ _ Y1.out]; rfl
      clear hr4 hk4 f4
      go_wp2_with fail
      go_meet
      have kS : Keeps (Own gr) w4 (w4.setCell ⟨gr, 1, none⟩ (.int .i64 q.1)) := (Keeps.refl (S := Own gr) w4).setCell (p := ⟨gr, 1, none⟩) (fun _ => (rfl : gr = gr)) _
      rw [← HX.out]
      exact ⟨.slice none 0 0, heap_setCell_at Y1.out _, kS.heap Y2.out nzr, World.ownsRow_nil _ _ _ _, RD4.out.kept kS (fun e => ngr e.symm), K4.out.trans kS (fun i hi e => by have e : i = gr := e; have := HGR.out; omega)⟩
    by_cases h1 : p.1 = 2
    · rw [h1, raw_2] at HX
      have b1 : (p.1 == 1) = false := by rw [h1]; rfl
      have b2 : (p.1 == 2) = true := by rw [h1]; rfl
      have b3 : (p.1 == 3) = false := by rw [h1]; rfl
      have b5 : (p.1 == 5) = false := by rw [h1]; rfl
      obtain ⟨q, hq⟩ : ∃ x, x = rdI p.2 := ⟨_, rfl⟩
      have CA := Lib.hid (rInt_any RD.out)
      rw [← hq] at HX CA
      obtain ⟨q2, hq2⟩ : ∃ x, x = rdI q.2 := ⟨_, rfl⟩
      rw [← hq2] at HX
      rw [← h1] at HX
      have HQ2 := Lib.hid hq2
      clear h1 hq hq2
      go_wp2_with fail
      (with_reducible refine CA.out.mono ?_)
      rintro e w4 ⟨rfl, hr4, hk4⟩
      have Y1 := Lib.hid (hk4.heap A1.out ngr)
      have Y2 := Lib.hid (hk4.heap A2.out ngz)
      have RD4 := Lib.hid hr4
      have K4 := Lib.hid (KW.out.trans hk4 (fun i hi e => by have e : i = g := e; have := HG.out; omega))
      clear hr4 hk4
      go_wp2_with fail
      (with_reducible refine (rInt_any RD4.out).mono ?_)
      rintro e w5 ⟨rfl, hr5, hk5⟩
      rw [← HQ2.out] at hr5 ⊢
      have Z1 := Lib.hid (hk5.heap Y1.out ngr)
      have Z2 := Lib.hid (hk5.heap Y2.out ngz)
      have RD5 := Lib.hid hr5
      have K5 := Lib.hid (K4.out.trans hk5 (fun i hi e => by have e : i = g := e; have := HG.out; omega))
      have lr5 : gr < w5.heap.size := (Array.getElem?_eq_some_iff.1 Z1.out).1
      have f5 : ∀ j, w5.frozen? ⟨gr, j, none⟩ = false := fun j => frozen_of_row _ _ _ _ _ Z1.out
      have f2 := f5 2
      have f3 := f5 3
      have d2 : w5.cell? ⟨gr, 2, none⟩ = some (.int .i64 0) := by rw [cell_of_row _ _ _ _ _ _ Z1.out]; rfl
      have d3 : w5.cell? ⟨gr, 3, none⟩ = some (.int .i64 0) := by rw [cell_of_row _ _ _ _ _ _ Z1.out]; rfl
      clear hr5 hk5 f5
      go_wp2_with fail
      go_meet
      have kS : Keeps (Own gr) w5 ((w5.setCell ⟨gr, 2, none⟩ (.int .i64 q.1)).setCell ⟨gr, 3, none⟩ (.int .i64 q2.1)) := ((Keeps.refl (S := Own gr) w5).setCell (p := ⟨gr, 2, none⟩) (fun _ => (rfl : gr = gr)) _).setCell (p := ⟨gr, 3, none⟩) (fun _ => (rfl : gr = gr)) _
      rw [← HX.out]
      exact ⟨.slice none 0 0, heap_setCell_at (heap_setCell_at Z1.out _) _, kS.heap Z2.out nzr, World.ownsRow_nil _ _ _ _, RD5.out.kept kS (fun e => ngr e.symm), K5.out.trans kS (fun i hi e => by have e : i = gr := e; have := HGR.out; omega)⟩
    by_cases h1 : p.1 = 3
    · rw [h1, raw_3] at HX
      have b1 : (p.1 == 1) = false := by rw [h1]; rfl
      have b2 : (p.1 == 2) = false := by rw [h1]; rfl
      have b3 : (p.1 == 3) = true := by rw [h1]; rfl
      have b5 : (p.1 == 5) = false := by rw [h1]; rfl
      obtain ⟨q, hq⟩ : ∃ x, x = takeCm p.2 := ⟨_, rfl⟩
      have CA := Lib.hid (takeCmd_any RD.out)
      rw [← hq] at HX CA
      rw [← h1] at HX
      clear h1 hq
      go_wp2_with fail
      (with_reducible refine CA.out.mono ?_)
      rintro e w4 ⟨rfl, hr4, hk4⟩
      have Y1 := Lib.hid (hk4.heap A1.out ngr)
      have Y2 := Lib.hid (hk4.heap A2.out ngz)
      have RD4 := Lib.hid hr4
      have K4 := Lib.hid (KW.out.trans hk4 (fun i hi e => by have e : i = g := e; have := HG.out; omega))
      have or : Open w4 gr := ⟨_, _, Y1.out⟩
      have hrow : rowD w4 gr = (lrC (Lr.bare p.1) (.slice none 0 0)).toArray := by unfold rowD; rw [Y1.out]
      have HROW := Lib.hid hrow
      have sr : (rowD w4 gr).size = 21 := by rw [hrow]; rfl
      clear hr4 hk4 hrow
      go_wp2_with fail
      go_meet
      rw [HROW.out]
      obtain ⟨C, hC⟩ : ∃ C, C = splice (lrC (Lr.bare p.1) (.slice none 0 0)).toArray 4 (cmC q.1) := ⟨_, rfl⟩
      have kS : Keeps (Own gr) w4 (w4.setRow gr C) := (Keeps.refl (S := Own gr) w4).setRow (fun _ => (rfl : gr = gr)) _
      rw [← HX.out]
      have hh : (w4.setRow gr C).heap[gr]? = some (.cells (lrC ⟨p.1, 0, 0, 0, q.1, []⟩ (.slice none 0 0)).toArray 68 (0, 0)) := by rw [setRow_heap _ _ _ _ _ _ Y1.out, hC]; rfl
      rw [← hC]
      exact ⟨.slice none 0 0, hh, kS.heap Y2.out nzr, World.ownsRow_nil _ _ _ _, RD4.out.kept kS (fun e => ngr e.symm), K4.out.trans kS (fun i hi e => by have e : i = gr := e; have := HGR.out; omega)⟩
    by_cases h1 : p.1 = 5
    · rw [h1, raw_5] at HX
      have b1 : (p.1 == 1) = false := by rw [h1]; rfl
      have b2 : (p.1 == 2) = false := by rw [h1]; rfl
      have b3 : (p.1 == 3) = false := by rw [h1]; rfl
      have b5 : (p.1 == 5) = true := by rw [h1]; rfl
      obtain ⟨q, hq⟩ : ∃ x, x = takeLs takeNam 1024 p.2 := ⟨_, rfl⟩
      have CA := Lib.hid (takeIds_any RD.out)
      rw [← hq] at HX CA
      rw [← h1] at HX
      clear h1 hq
      go_wp2_with fail
      (with_reducible refine CA.out.mono ?_)
      rintro e w4 ⟨v4, rfl, ho4, hr4, hk4⟩
      have Y1 := Lib.hid (hk4.heap A1.out ngr)
      have Y2 := Lib.hid (hk4.heap A2.out ngz)
      have RD4 := Lib.hid hr4
      have K4 := Lib.hid (KW.out.trans hk4 (fun i hi e => by have e : i = g := e; have := HG.out; omega))
      have lr4 : gr < w4.heap.size := (Array.getElem?_eq_some_iff.1 Y1.out).1
      have f1 : w4.frozen? ⟨gr, 20, none⟩ = false := frozen_of_row _ _ _ _ _ Y1.out
      have d1 : w4.cell? ⟨gr, 20, none⟩ = some (.slice none 0 0) := by rw [cell_of_row _ _ _ _ _ _ Y1.out]; rfl
      have O4 := Lib.hid ho4
      obtain ⟨va, vc, rfl⟩ := ownsRow_slice ho4
      clear hr4 hk4 ho4
      go_wp2_with fail
      go_meet
      have kS : Keeps (Own gr) w4 (w4.setCell ⟨gr, 20, none⟩ (.slice va q.1.length vc)) := (Keeps.refl (S := Own gr) w4).setCell (p := ⟨gr, 20, none⟩) (fun _ => (rfl : gr = gr)) _
      rw [← HX.out]
      exact ⟨.slice va q.1.length vc, heap_setCell_at Y1.out _, kS.heap Y2.out nzr, kS.owns (own_lower O4.out KW.out.size) (own_off O4.out Y1.out (by decide)), RD4.out.kept kS (fun e => ngr e.symm), K4.out.trans kS (fun i hi e => by have e : i = gr := e; have := HGR.out; omega)⟩
    rename_i q1 q2 q3
    have b1 : (p.1 == 1) = false := beq_eq_false_iff_ne.2 q1
    have b2 : (p.1 == 2) = false := beq_eq_false_iff_ne.2 q2
    have b3 : (p.1 == 3) = false := beq_eq_false_iff_ne.2 q3
    have b5 : (p.1 == 5) = false := beq_eq_false_iff_ne.2 h1
    have HY := Lib.hid ((raw_0 q1 q2 q3 h1 p.2).symm.trans HX.out)
    clear q1 q2 q3 h1
    go_wp2_with fail
    go_meet
    rw [← HY.out]
    exact ⟨.slice none 0 0, A1.out, A2.out, World.ownsRow_nil _ _ _ _, RD.out, KW.out⟩
  case rest =>
    obtain ⟨v, x1, x2, hO, hR, hK⟩ := hcut
    have HEX : Hid (E = bif doneR X.2 && mayL X.1 then (X.1, 0) else (Lr.zero, 2)) := Lib.hid (by rw [HE.out]; unfold decL; rw [← HP.out, HX.out])
    have OC := Lib.hid hO
    have RC := Lib.hid hR
    have KC := Lib.hid hK
    have X1 := Lib.hid x1
    have X2 := Lib.hid x2
    have oz : Open wc gz := ⟨_, _, x2⟩
    have sz : (rowD wc gz).size = 21 := by unfold rowD; rw [x2]; rfl
    have cr : cellsAt wc gr 0 21 = some (lrC X.1 v) := by unfold cellsAt; rw [x1]; rfl
    obtain ⟨va, vc, rfl⟩ := ownsRow_slice hO
    clear hO hR hK x1 x2
    go_wp2_with fail
    (with_reducible refine (done_any RC.out).mono ?_)
    rintro e w3 ⟨rfl, rfl⟩
    cases hd : doneR X.2
    · rw [hd] at HEX
      clear hd
      simp only [cond_false]
      go_wp2
      have hF : Hid (OwnOf cNam 36 (wc.setRow gz (lrC Lr.zero (.slice none 0 0)).toArray) w.heap.size (.slice none 0 0) [] ∧ Keeps No w (wc.setRow gz (lrC Lr.zero (.slice none 0 0)).toArray)) := Lib.hid ⟨World.ownsRow_nil _ _ _ _, KC.out.setRow (fun h => absurd h (Nat.not_lt.2 HGZ.out)) _⟩
      have hcr : cellsAt (wc.setRow gz (lrC Lr.zero (.slice none 0 0)).toArray) gz 0 21 = some (lrC Lr.zero (.slice none 0 0)) := by rw [cellsAt_setRow_at _ _ _ _ _ oz]; rfl
      have hE : E = (Lr.zero, 2) := by rw [HEX.out]; rfl
      rw [hE]
      clear hE cr sz oz
      refine bodyPost_ret (v := .tuple #[lrV Lr.zero (.slice none 0 0), .int .i64 2]) ?_ rfl ⟨.slice none 0 0, rfl, hF.out.1, hF.out.2⟩
      clear hF
      simp only [lrC, Lr.zero, Cm.zero, Bd.zero] at hcr
      simp [results, Tryz.results19, go_sem, hcr, Lr.zero, Cm.zero, Bd.zero]
    · rw [hd] at HEX
      clear hd
      simp only [cond_true]
      have CK := Lib.hid (ledCheck_any wc X.1 (.slice va X.1.ids.length vc) OC.out.reads)
      obtain ⟨B, hB⟩ : ∃ b, b = mayL X.1 := ⟨_, rfl⟩
      rw [← hB] at CK HEX
      clear hB
      go_wp2_with fail
      (with_reducible refine CK.out.mono ?_)
      rintro e w4 ⟨rfl, hk4⟩
      have oz4 : Open w4 gz := hk4.opened oz
      have sz4 : (rowD w4 gz).size = 21 := hk4.rowSize oz sz
      have cr4 : cellsAt w4 gr 0 21 = some (lrC X.1 (.slice va X.1.ids.length vc)) := hk4.cellsAt cr
      have K4 := Lib.hid (KC.out.trans hk4 (fun _ _ h => h))
      have O4 := Lib.hid (hk4.owns OC.out (fun _ _ h => h))
      have Z4 := Lib.hid (hk4.heap X2.out (fun h => h))
      clear hk4 oz sz cr
      cases B
      · simp only [errB, cond_false]
        go_wp2
        have hF : Hid (OwnOf cNam 36 (w4.setRow gz (lrC Lr.zero (.slice none 0 0)).toArray) w.heap.size (.slice none 0 0) [] ∧ Keeps No w (w4.setRow gz (lrC Lr.zero (.slice none 0 0)).toArray)) := Lib.hid ⟨World.ownsRow_nil _ _ _ _, K4.out.setRow (fun h => absurd h (Nat.not_lt.2 HGZ.out)) _⟩
        have hcr : cellsAt (w4.setRow gz (lrC Lr.zero (.slice none 0 0)).toArray) gz 0 21 = some (lrC Lr.zero (.slice none 0 0)) := by rw [cellsAt_setRow_at _ _ _ _ _ oz4]; rfl
        have hE : E = (Lr.zero, 2) := by rw [HEX.out]; rfl
        rw [hE]
        clear hE cr4 sz4 oz4
        refine bodyPost_ret (v := .tuple #[lrV Lr.zero (.slice none 0 0), .int .i64 2]) ?_ rfl ⟨.slice none 0 0, rfl, hF.out.1, hF.out.2⟩
        clear hF
        simp only [lrC, Lr.zero, Cm.zero, Bd.zero] at hcr
        simp [results, Tryz.results19, go_sem, hcr, Lr.zero, Cm.zero, Bd.zero]
      · simp only [errB, cond_true]
        go_wp2
        have kS : Keeps (Own gz) w4 (w4.setRow gz (lrC X.1 (.slice va X.1.ids.length vc)).toArray) := (Keeps.refl (S := Own gz) w4).setRow (fun _ => (rfl : gz = gz)) _
        have hF : Hid (OwnOf cNam 36 (w4.setRow gz (lrC X.1 (.slice va X.1.ids.length vc)).toArray) w.heap.size (.slice va X.1.ids.length vc) X.1.ids ∧ Keeps No w (w4.setRow gz (lrC X.1 (.slice va X.1.ids.length vc)).toArray)) := Lib.hid ⟨kS.owns O4.out (own_off O4.out Z4.out (by decide)), K4.out.setRow (fun h => absurd h (Nat.not_lt.2 HGZ.out)) _⟩
        have hcr : cellsAt (w4.setRow gz (lrC X.1 (.slice va X.1.ids.length vc)).toArray) gz 0 21 = some (lrC X.1 (.slice va X.1.ids.length vc)) := by rw [cellsAt_setRow_at _ _ _ _ _ oz4]; rfl
        have hE : E = (X.1, 0) := by rw [HEX.out]; rfl
        rw [hE]
        clear hE cr4 sz4 oz4 kS
        refine bodyPost_ret (v := .tuple #[lrV X.1 (.slice va X.1.ids.length vc), .int .i64 0]) ?_ rfl ⟨.slice va X.1.ids.length vc, rfl, hF.out.1, hF.out.2⟩
        clear hF
        simp [results, Tryz.results19, go_sem, hcr]
end Go.Proofs.YtndjnkjcfdaegaaGreatDoor

