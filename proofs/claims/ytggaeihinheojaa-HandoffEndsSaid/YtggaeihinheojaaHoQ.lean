/-
  The document's comparison of states that read the same: true. No conditions of its own.
-/
import Derived.Test.YtggaeihinheojaaHoP
namespace Go.Proofs.Ytggaeihinheojaa
open Go.RowKit

set_option maxRecDepth 100000 in
set_option maxHeartbeats 2000000 in
theorem sameSt (w : World) (ep t nx : Int) (o o' d d' u u' i0 i0' g : Value) (lb : List Bd) (ld : List Idn) (lo : List Ou) (li : List Inn) (lg : List Gh)
    (ho : RdOf cBd w o lb) (ho' : RdOf cBd w o' lb) (hd : RdOf cId w d ld) (hd' : RdOf cId w d' ld) (hu : RdOf cOu w u lo) (hu' : RdOf cOu w u' lo) (hi : RdOf cIn w i0 li) (hi' : RdOf cIn w i0' li) (hg : GhReads w g lg) :
    Calls Try.prog 23 #[stV ep t o d u i0 g nx, stV ep t o' d' u' i0' g nx] w fun e w' => e = .returned (.bool true) ∧ Keeps No w w' := by
  obtain ⟨da, dc, rfl⟩ := hd.slice
  obtain ⟨da', dc', rfl⟩ := hd'.slice
  obtain ⟨ga, gc, rfl⟩ := hg.rows.slice
  have hlen := RdOf.len cId hd
  unfold maxLen at hlen
  go_enter Try.func23, Try.ntmps23
  go_wp2
  go_loopw [5] (fun i wr => ∃ k : Nat, k ≤ ld.length ∧ i = .int .i64 k ∧ Keeps No w wr ∧ cellsAt wr w.heap.size 0 8 = some [.int .i64 ep, .int .i64 t, o, .slice da ld.length dc, u, i0, .slice ga lg.length gc, .int .i64 nx] ∧ cellsAt wr (w.heap.size + 1) 0 8 = some [.int .i64 ep, .int .i64 t, o', .slice da' ld.length dc', u', i0', .slice ga lg.length gc, .int .i64 nx]) (fun i _ => ld.length - (intOf i).toNat)
  case atStart => exact ⟨0, Nat.zero_le _, rfl, ((Keeps.refl _).alloc _).alloc _, by simp [go_sem], by simp [go_sem]⟩
  case round =>
    obtain ⟨k, hk, rfl, hkw, s0, s1⟩ := hrel
    have Hkw := Lib.hid hkw
    have b0 := fun j v hj => cellsAt_cell s0 j v hj
    have a3 : wr.cell? ⟨w.heap.size, 3, none⟩ = some (.slice da ld.length dc) := cellsAt_cell s0 3 _ rfl
    have a3' : wr.cell? ⟨w.heap.size + 1, 3, none⟩ = some (.slice da' ld.length dc') := cellsAt_cell s1 3 _ rfl
    have S0 := Lib.hid s0; have S1 := Lib.hid s1
    clear b0 s0 s1 hkw
    by_cases hlt : k < ld.length
    · obtain ⟨b, off, rfl, _, _, hb⟩ := RdOf.addr cId hd (by omega)
      obtain ⟨b', off', rfl, _, _, hb'⟩ := RdOf.addr cId hd' (by omega)
      have g0 : cellsAt wr b (off + k * 3) 3 = some (idC ld[k]) := Hkw.out.cellsAt (RdOf.at cId hd k hlt)
      have g1 : cellsAt wr b' (off' + k * 3) 3 = some (idC ld[k]) := Hkw.out.cellsAt (RdOf.at cId hd' k hlt)
      have hi0 : (0 : Int) ≤ (k : Int) := by omega
      have hi1 : (k : Int) < (ld.length : Int) := by omega
      go_wp2
      go_quiet (fail)
      go_wp2
      exact ⟨⟨k + 1, by omega, by go_num, Hkw.out.drewN _, S0.out, S1.out⟩, by simp [intOf]; omega⟩
    · have q2 : wr.cell? ⟨w.heap.size, 2, none⟩ = some o := cellsAt_cell S0.out 2 _ rfl
      have q2' : wr.cell? ⟨w.heap.size + 1, 2, none⟩ = some o' := cellsAt_cell S1.out 2 _ rfl
      have q4 : wr.cell? ⟨w.heap.size, 4, none⟩ = some u := cellsAt_cell S0.out 4 _ rfl
      have q4' : wr.cell? ⟨w.heap.size + 1, 4, none⟩ = some u' := cellsAt_cell S1.out 4 _ rfl
      have q5 : wr.cell? ⟨w.heap.size, 5, none⟩ = some i0 := cellsAt_cell S0.out 5 _ rfl
      have q5' : wr.cell? ⟨w.heap.size + 1, 5, none⟩ = some i0' := cellsAt_cell S1.out 5 _ rfl
      have q6 : wr.cell? ⟨w.heap.size, 6, none⟩ = some (.slice ga lg.length gc) := cellsAt_cell S0.out 6 _ rfl
      have q6' : wr.cell? ⟨w.heap.size + 1, 6, none⟩ = some (.slice ga lg.length gc) := cellsAt_cell S1.out 6 _ rfl
      go_wp2_with fail
      refine (sameBds wr _ _ lb (ho.kept Hkw.out (fun _ _ h => h)) (ho'.kept Hkw.out (fun _ _ h => h))).mono ?_
      rintro e w1 ⟨rfl, m1, rfl⟩
      go_wp2_with fail
      refine (sameOuts (wr.drewN m1) _ _ lo (hu.kept (Hkw.out.drewN m1) (fun _ _ h => h)) (hu'.kept (Hkw.out.drewN m1) (fun _ _ h => h))).mono ?_
      rintro e w2 ⟨rfl, m2, rfl⟩
      go_wp2_with fail
      refine (sameIns (wr.drewN (m1 + m2)) _ _ li (hi.kept (Hkw.out.drewN (m1 + m2)) (fun _ _ h => h)) (hi'.kept (Hkw.out.drewN (m1 + m2)) (fun _ _ h => h))).mono ?_
      rintro e w3 ⟨rfl, m3, rfl⟩
      go_wp2_with fail
      refine (sameGhosts (wr.drewN (m1 + m2 + m3)) _ lg (hg.kept (Hkw.out.drewN (m1 + m2 + m3)))).mono ?_
      rintro e w4 ⟨rfl, hk4⟩
      have hfin : Hid (Keeps No w w4) := (Hkw.out.drewN (m1 + m2 + m3)).trans hk4 (fun _ _ h => h)
      clear hk4
      go_wp2
      go_ret
      exact ⟨rfl, hfin.out⟩
end Go.Proofs.Ytggaeihinheojaa
