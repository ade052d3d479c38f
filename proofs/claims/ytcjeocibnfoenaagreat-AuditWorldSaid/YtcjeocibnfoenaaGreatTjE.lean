/-
  The document's Check; zones.Check, New. No conditions of their own.
-/
import Derived.Test.YtcjeocibnfoenaaGreatTjD
namespace Go.Proofs.YtcjeocibnfoenaaGreat
open Go.RowKit Go.Joins Go.Deep Go.Sort

def okI (n lo hi : Int) : Bool := decide (lo ≤ n) && decide (n ≤ hi)
def zfOk (z : Zf) : Bool := okI z.c 1 4 && (okI z.r 1 4 && (okI z.s 256 1048576 && (okI z.u 0 z.s && (okI z.v 0 z.s && (okI z.i 1 16 && okI z.q 1 64)))))
theorem zfOk_ok {z : Zf} (h : zfOk z = true) : z.ok := by
  unfold zfOk okI at h
  simp only [Bool.and_eq_true, decide_eq_true_iff] at h
  exact ⟨h.1.1, h.1.2, h.2.1.1, h.2.1.2, h.2.2.1.1, h.2.2.1.2, h.2.2.2.1.1, h.2.2.2.1.2, h.2.2.2.2.1.1, h.2.2.2.2.1.2⟩
set_option maxRecDepth 100000 in
theorem rwithin_any (w : World) (n lo hi : Int) : Calls Tryz.prog 12 #[.int .i64 n, .int .i64 lo, .int .i64 hi] w fun e w' => e = .returned (.bool (okI n lo hi)) ∧ w' = w := by
  unfold okI
  by_cases h1 : lo ≤ n
  · rw [decide_eq_true h1, Bool.true_and]
    have h1' : n ≥ lo := h1
    go_enter Tryz.func12, Tryz.ntmps12
    go_wp2
    go_ret
    exact ⟨by simp, rfl⟩
  · rw [decide_eq_false h1, Bool.false_and]
    have h1' : ¬ n ≥ lo := h1
    go_enter Tryz.func12, Tryz.ntmps12
    go_wp2
    go_ret
    exact ⟨by simp, rfl⟩
set_option maxRecDepth 100000 in
set_option maxHeartbeats 4000000 in
theorem rcheck_any (w : World) (z : Zf) : Calls Tryz.prog 6 #[zfV z] w fun e w' => e = .returned (.int .i64 (bif zfOk z then 0 else 1)) ∧ Grown w w' := by
  have C1 := Lib.hid (fun W => rwithin_any W z.c 1 4)
  have C2 := Lib.hid (fun W => rwithin_any W z.r 1 4)
  have C3 := Lib.hid (fun W => rwithin_any W z.s 256 1048576)
  have C4 := Lib.hid (fun W => rwithin_any W z.u 0 z.s)
  have C5 := Lib.hid (fun W => rwithin_any W z.v 0 z.s)
  have C6 := Lib.hid (fun W => rwithin_any W z.i 1 16)
  have C7 := Lib.hid (fun W => rwithin_any W z.q 1 64)
  unfold zfOk
  obtain ⟨t1, h1⟩ : ∃ t, t = okI z.c 1 4 := ⟨_, rfl⟩
  obtain ⟨t2, h2⟩ : ∃ t, t = okI z.r 1 4 := ⟨_, rfl⟩
  obtain ⟨t3, h3⟩ : ∃ t, t = okI z.s 256 1048576 := ⟨_, rfl⟩
  obtain ⟨t4, h4⟩ : ∃ t, t = okI z.u 0 z.s := ⟨_, rfl⟩
  obtain ⟨t5, h5⟩ : ∃ t, t = okI z.v 0 z.s := ⟨_, rfl⟩
  obtain ⟨t6, h6⟩ : ∃ t, t = okI z.i 1 16 := ⟨_, rfl⟩
  obtain ⟨t7, h7⟩ : ∃ t, t = okI z.q 1 64 := ⟨_, rfl⟩
  rw [← h1] at C1 ⊢
  rw [← h2] at C2 ⊢
  rw [← h3] at C3 ⊢
  rw [← h4] at C4 ⊢
  rw [← h5] at C5 ⊢
  rw [← h6] at C6 ⊢
  rw [← h7] at C7 ⊢
  clear h1 h2 h3 h4 h5 h6 h7
  have G : Hid (Grown w (w.alloc (.cells (zfC z).toArray 23))) := Lib.hid ((Grown.same w).alloc _)
  go_enter Tryz.func6, Tryz.ntmps6
  cases t1
  rotate_left
  cases t2
  rotate_left
  cases t3
  rotate_left
  cases t4
  rotate_left
  cases t5
  rotate_left
  cases t6
  rotate_left
  cases t7
  all_goals go_wp2_with (first
    | (go_at_call 12; have hc := C1.out; with_reducible refine (hc _).mono ?_; rintro e w1 ⟨rfl, hw⟩; clear hc; have hw := hw.symm; subst hw)
    | (go_at_call 12; have hc := C2.out; with_reducible refine (hc _).mono ?_; rintro e w1 ⟨rfl, hw⟩; clear hc; have hw := hw.symm; subst hw)
    | (go_at_call 12; have hc := C3.out; with_reducible refine (hc _).mono ?_; rintro e w1 ⟨rfl, hw⟩; clear hc; have hw := hw.symm; subst hw)
    | (go_at_call 12; have hc := C4.out; with_reducible refine (hc _).mono ?_; rintro e w1 ⟨rfl, hw⟩; clear hc; have hw := hw.symm; subst hw)
    | (go_at_call 12; have hc := C5.out; with_reducible refine (hc _).mono ?_; rintro e w1 ⟨rfl, hw⟩; clear hc; have hw := hw.symm; subst hw)
    | (go_at_call 12; have hc := C6.out; with_reducible refine (hc _).mono ?_; rintro e w1 ⟨rfl, hw⟩; clear hc; have hw := hw.symm; subst hw)
    | (go_at_call 12; have hc := C7.out; with_reducible refine (hc _).mono ?_; rintro e w1 ⟨rfl, hw⟩; clear hc; have hw := hw.symm; subst hw))
  all_goals go_ret
  all_goals exact ⟨by rfl, G.out⟩
/-- a number and its bounds -/
structure Tr where
  n : Int
  lo : Int
  hi : Int
def cTr : Codec Tr := ⟨fun t => [.int .i64 t.n, .int .i64 t.lo, .int .i64 t.hi], 3, fun _ => rfl, fun a u h => by simp at h; rcases h with rfl | rfl | rfl <;> rfl, by decide⟩
def trs (z : Zf) : List Tr := [⟨z.c, 1, 4⟩, ⟨z.r, 1, 4⟩, ⟨z.s, 256, 1048576⟩, ⟨z.u, 0, z.s⟩, ⟨z.v, 0, z.s⟩, ⟨z.i, 1, 16⟩, ⟨z.q, 1, 64⟩]
theorem trs_ok (z : Zf) : zfOk z = (trs z).all (fun t => okI t.n t.lo t.hi) := by
  simp only [zfOk, trs, List.all_cons, List.all_nil, Bool.and_true]
theorem trs_len (z : Zf) : (trs z).length = 7 := rfl
set_option maxRecDepth 100000 in
set_option maxHeartbeats 4000000 in
theorem check_any (w : World) (z : Zf) : Calls Tryz.prog 20 #[zfV z] w fun e w' => e = .returned (.int .i64 (bif zfOk z then 0 else 1)) ∧ Keeps No w w' := by
  have HOK := Lib.hid (trs_ok z)
  obtain ⟨B, hB⟩ : ∃ B, B = zfOk z := ⟨_, rfl⟩
  rw [← hB] at HOK ⊢
  clear hB
  go_enter Tryz.func20, Tryz.ntmps20
  go_wp2_with fail
  refine wp_world ?_
  intro W hW
  have KW : Hid (Keeps No w W) := Lib.hid (by rw [hW]; exact ((Keeps.refl w).alloc _).alloc _)
  have RD : Hid (Reads W cTr.size (.slice (some ⟨w.heap.size + 1, 0, none⟩) 7 7) 7 (rowsOf cTr (trs z))) := Lib.hid (by
    rw [hW]
    have h := World.ownsRow_lit (base := 0) (w.alloc (.cells (zfC z).toArray 23)) (rowsOf cTr (trs z)).toArray 7 (e := 110) (size := 3) (Nat.zero_le _) (by unfold maxLen; omega) rfl
    have h2 := Reads.ofOwn h (rowsOf_ones cTr _)
    have e : (w.alloc (.cells (zfC z).toArray 23)).heap.size = w.heap.size + 1 := by simp
    rw [e] at h2
    exact h2)
  obtain ⟨g, hg⟩ : ∃ g, g = w.heap.size + 1 := ⟨_, rfl⟩
  rw [← hg] at RD ⊢
  clear hW hg
  have HL := Lib.hid (trs_len z)
  obtain ⟨l, hl⟩ : ∃ l, l = trs z := ⟨_, rfl⟩
  rw [← hl] at RD HOK HL
  clear hl
  go_loopw [32] (fun q wr => ∃ k : Nat, k ≤ 7 ∧ q = .int .i64 k ∧ (∀ j, (h : j < k) → (h2 : j < l.length) → okI l[j].n l[j].lo l[j].hi = true) ∧ Keeps No W wr) (fun q _ => 7 - (intOf q).toNat)
  case atStart => exact ⟨0, by omega, rfl, fun j h => by omega, Keeps.refl _⟩
  case round =>
    obtain ⟨k, hk7, rfl, hall, hK⟩ := hrel
    obtain ⟨wo, hwo⟩ : ∃ x : World, x = wr := ⟨_, rfl⟩
    subst hwo
    have K := Lib.hid hK
    have HALL := Lib.hid hall
    clear hall
    by_cases hlt : k < 7
    · have hlti : (k : Int) < 7 := by omega
      have hk0 : (0 : Int) ≤ (k : Int) := by omega
      have hkl : k < l.length := by rw [HL.out]; exact hlt
      have ck : cellsAt wo g (k * 3) 3 = some [.int .i64 l[k].n, .int .i64 l[k].lo, .int .i64 l[k].hi] := by
        have h := hK.cellsAt (RdOf.at cTr (n := 7) RD.out k hkl)
        rw [Nat.zero_add] at h
        exact h
      obtain ⟨x, hx⟩ : ∃ x, x = l[k] := ⟨_, rfl⟩
      rw [← hx] at ck
      have HX := Lib.hid hx
      clear hx hK
      by_cases a1 : x.n < x.lo
      · have hB : B = false := by
          rw [HOK.out, List.all_eq_false]
          refine ⟨l[k], List.getElem_mem hkl, ?_⟩
          rw [← HX.out]
          unfold okI
          rw [decide_eq_false (by omega)]
          simp
        subst hB
        go_wp2
        go_ret
        exact ⟨rfl, KW.out.trans (((K.out.alloc _))) (fun _ _ h => h)⟩
      · by_cases a2 : x.hi < x.n
        · have hB : B = false := by
            rw [HOK.out, List.all_eq_false]
            refine ⟨l[k], List.getElem_mem hkl, ?_⟩
            rw [← HX.out]
            unfold okI
            rw [decide_eq_false (show ¬ x.n ≤ x.hi by omega)]
            simp
          subst hB
          go_wp2
          go_ret
          exact ⟨rfl, KW.out.trans (((K.out.alloc _))) (fun _ _ h => h)⟩
        · have hok : Hid (okI l[k].n l[k].lo l[k].hi = true) := Lib.hid (by
            rw [← HX.out]
            unfold okI
            rw [decide_eq_true (show x.lo ≤ x.n by omega), decide_eq_true (show x.n ≤ x.hi by omega)]
            rfl)
          go_wp2
          go_roundw
          case rel =>
            refine ⟨k + 1, by omega, by go_num, fun j h h2 => ?_, K.out.alloc _⟩
            by_cases hjk : j = k
            · subst hjk; exact hok.out
            · exact HALL.out j (by omega) h2
          case measure => simp [intOf]; omega
    · have hk : k = 7 := by omega
      subst hk
      have hB : B = true := by
        rw [HOK.out, List.all_eq_true]
        intro t ht
        obtain ⟨j, hj, rfl⟩ := List.getElem_of_mem ht
        exact HALL.out j (by have := HL.out; omega) hj
      subst hB
      have hlti : ¬ ((7 : Int) < 7) := by omega
      go_wp2
      go_ret
      exact ⟨rfl, KW.out.trans K.out (fun _ _ h => h)⟩
end Go.Proofs.YtcjeocibnfoenaaGreat
