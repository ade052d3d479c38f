/-
  Texts in one: TjA, TjB, TjE, TjF. No conditions of their own.
-/
import Derived.Test.YtndjnkjcfdaegaaGreatDoorZh08
import Derived.Test.YtndjnkjcfdaegaaGreatDoorZh09
set_option linter.all false

/-
  systems.Move. No conditions of their own.
-/
namespace Go.Proofs.YtndjnkjcfdaegaaGreatDoor
open Go.RowKit Go.Joins Go.Deep Go.Sort

/-- a world's form that may be -/
structure Zf.ok (z : Zf) : Prop where
  c1 : 1 ≤ z.c
  c2 : z.c ≤ 4
  r1 : 1 ≤ z.r
  r2 : z.r ≤ 4
  s1 : 256 ≤ z.s
  s2 : z.s ≤ 1048576
  u1 : 0 ≤ z.u
  u2 : z.u ≤ z.s
  v1 : 0 ≤ z.v
  v2 : z.v ≤ z.s
theorem Zf.ok.cs {z : Zf} (h : z.ok) : 1 ≤ z.c * z.s ∧ z.c * z.s ≤ 4194304 := by
  have c1 := h.c1
  have c2 := h.c2
  have s1 := h.s1
  have s2 := h.s2
  have hc : z.c = 1 ∨ z.c = 2 ∨ z.c = 3 ∨ z.c = 4 := by omega
  rcases hc with hc | hc | hc | hc <;> rw [hc] <;> omega
theorem Zf.ok.rs {z : Zf} (h : z.ok) : 1 ≤ z.r * z.s ∧ z.r * z.s ≤ 4194304 := by
  have c1 := h.r1
  have c2 := h.r2
  have s1 := h.s1
  have s2 := h.s2
  have hc : z.r = 1 ∨ z.r = 2 ∨ z.r = 3 ∨ z.r = 4 := by omega
  rcases hc with hc | hc | hc | hc <;> rw [hc] <;> omega
end Go.Proofs.YtndjnkjcfdaegaaGreatDoor

/-
  The document's near, In, Move. No conditions of their own.
-/
namespace Go.Proofs.YtndjnkjcfdaegaaGreatDoor
open Go.RowKit Go.Joins Go.Deep Go.Sort

abbrev zfC (z : Zf) : List Value := [.int .i64 z.c, .int .i64 z.r, .int .i64 z.s, .int .i64 z.u, .int .i64 z.v, .int .i64 z.i, .int .i64 z.q]
abbrev zfV (z : Zf) : Value := .agg #[.int .i64 z.c, .int .i64 z.r, .int .i64 z.s, .int .i64 z.u, .int .i64 z.v, .int .i64 z.i, .int .i64 z.q]
end Go.Proofs.YtndjnkjcfdaegaaGreatDoor

/-
  The document's Check; zones.Check, New. No conditions of their own.
-/
namespace Go.Proofs.YtndjnkjcfdaegaaGreatDoor
open Go.RowKit Go.Joins Go.Deep Go.Sort

def okI (n lo hi : Int) : Bool := decide (lo ≤ n) && decide (n ≤ hi)
def zfOk (z : Zf) : Bool := okI z.c 1 4 && (okI z.r 1 4 && (okI z.s 256 1048576 && (okI z.u 0 z.s && (okI z.v 0 z.s && (okI z.i 1 16 && okI z.q 1 64)))))
theorem zfOk_ok {z : Zf} (h : zfOk z = true) : z.ok := by
  unfold zfOk okI at h
  simp only [Bool.and_eq_true, decide_eq_true_iff] at h
  exact ⟨h.1.1, h.1.2, h.2.1.1, h.2.1.2, h.2.2.1.1, h.2.2.1.2, h.2.2.2.1.1, h.2.2.2.1.2, h.2.2.2.2.1.1, h.2.2.2.2.1.2⟩
/-- a number and its bounds -/
structure Tr where
  n : Int
  lo : Int
  hi : Int
def cTr : Codec Tr := ⟨fun t => [.int .i64 t.n, .int .i64 t.lo, .int .i64 t.hi], 3, fun _ => rfl, fun a u h => by simp at h; rcases h with rfl | rfl | rfl <;> rfl, by decide⟩
def trs (z : Zf) : List Tr := [⟨z.c, 1, 4⟩, ⟨z.r, 1, 4⟩, ⟨z.s, 256, 1048576⟩, ⟨z.u, 0, z.s⟩, ⟨z.v, 0, z.s⟩, ⟨z.i, 1, 16⟩, ⟨z.q, 1, 64⟩]
theorem trs_ok (z : Zf) : zfOk z = (trs z).all (fun t => okI t.n t.lo t.hi) := by
  simp only [zfOk, trs, List.all_cons, List.all_nil, Bool.and_true]
theorem trs_len (z : Zf) : (trs z).length = 7 := rfl
set_option maxRecDepth 100000 in
set_option maxHeartbeats 4000000 in
theorem check_any (w : World) (z : Zf) : Calls Tryz.prog 80 #[zfV z] w fun e w' => e = .returned (.int .i64 (bif zfOk z then 0 else 1)) ∧ Keeps No w w' := by
  have HOK := Lib.hid (trs_ok z)
  obtain ⟨B, hB⟩ : ∃ B, B = zfOk z := ⟨_, rfl⟩
  rw [← hB] at HOK ⊢
  clear hB
  go_enter Tryz.func80, Tryz.ntmps80
  go_wp2_with fail
  refine wp_world ?_
  intro W hW
  have KW : Hid (Keeps No w W) := Lib.hid (by rw [hW]; exact ((Keeps.refl w).alloc _).alloc _)
  have RD : Hid (Reads W cTr.size (.slice (some ⟨w.heap.size + 1, 0, none⟩) 7 7) 7 (rowsOf cTr (trs z))) := Lib.hid (by
    rw [hW]
    have h := World.ownsRow_lit (base := 0) (w.alloc (.cells (zfC z).toArray 23)) (rowsOf cTr (trs z)).toArray 7 (e := 213) (size := 3) (Nat.zero_le _) (by unfold maxLen; omega) rfl
    have h2 := Reads.ofOwn h (rowsOf_ones cTr _)
    have e : (w.alloc (.cells (zfC z).toArray 23)).heap.size = w.heap.size + 1 := by simp
    rw [e] at h2
    exact h2)
  obtain ⟨g, hg⟩ : ∃ g, g = w.heap.size + 1 := ⟨_, rfl⟩
  rw [← hg] at RD ⊢
  clear hW hg
  have HL := Lib.hid (trs_len z)
  obtain ⟨l, hl⟩ : ∃ l, l = trs z := ⟨_, rfl⟩
  rw [← hl] at RD HOK HL
  clear hl
  go_loopw [32] (fun q wr => ∃ k : Nat, k ≤ 7 ∧ q = .int .i64 k ∧ (∀ j, (h : j < k) → (h2 : j < l.length) → okI l[j].n l[j].lo l[j].hi = true) ∧ Keeps No W wr) (fun q _ => 7 - (intOf q).toNat)
  case atStart => exact ⟨0, by omega, rfl, fun j h => by omega, Keeps.refl _⟩
  case round =>
    obtain ⟨k, hk7, rfl, hall, hK⟩ := hrel
    obtain ⟨wo, hwo⟩ : ∃ x : World, x = wr := ⟨_, rfl⟩
    subst hwo
    have K := Lib.hid hK
    have HALL := Lib.hid hall
    clear hall
    by_cases hlt : k < 7
    · have hlti : (k : Int) < 7 := by omega
      have hk0 : (0 : Int) ≤ (k : Int) := by omega
      have hkl : k < l.length := by rw [HL.out]; exact hlt
      have ck : cellsAt wo g (k * 3) 3 = some [.int .i64 l[k].n, .int .i64 l[k].lo, .int .i64 l[k].hi] := by
        have h := hK.cellsAt (RdOf.at cTr (n := 7) RD.out k hkl)
        rw [Nat.zero_add] at h
        exact h
      obtain ⟨x, hx⟩ : ∃ x, x = l[k] := ⟨_, rfl⟩
      rw [← hx] at ck
      have HX := Lib.hid hx
      clear hx hK
      by_cases a1 : x.n < x.lo
      · have hB : B = false := by
          rw [HOK.out, List.all_eq_false]
          refine ⟨l[k], List.getElem_mem hkl, ?_⟩
          rw [← HX.out]
          unfold okI
          rw [decide_eq_false (by omega)]
          simp
        subst hB
        go_wp2
        go_ret
        exact ⟨rfl, KW.out.trans (((K.out.alloc _))) (fun _ _ h => h)⟩
      · by_cases a2 : x.hi < x.n
        · have hB : B = false := by
            rw [HOK.out, List.all_eq_false]
            refine ⟨l[k], List.getElem_mem hkl, ?_⟩
            rw [← HX.out]
            unfold okI
            rw [decide_eq_false (show ¬ x.n ≤ x.hi by omega)]
            simp
          subst hB
          go_wp2
          go_ret
          exact ⟨rfl, KW.out.trans (((K.out.alloc _))) (fun _ _ h => h)⟩
        · have hok : Hid (okI l[k].n l[k].lo l[k].hi = true) := Lib.hid (by
            rw [← HX.out]
            unfold okI
            rw [decide_eq_true (show x.lo ≤ x.n by omega), decide_eq_true (show x.n ≤ x.hi by omega)]
            rfl)
          go_wp2
          go_roundw
          case rel =>
            refine ⟨k + 1, by omega, by go_num, fun j h h2 => ?_, K.out.alloc _⟩
            by_cases hjk : j = k
            · subst hjk; exact hok.out
            · exact HALL.out j (by omega) h2
          case measure => simp [intOf]; omega
    · have hk : k = 7 := by omega
      subst hk
      have hB : B = true := by
        rw [HOK.out, List.all_eq_true]
        intro t ht
        obtain ⟨j, hj, rfl⟩ := List.getElem_of_mem ht
        exact HALL.out j (by have := HL.out; omega) hj
      subst hB
      have hlti : ¬ ((7 : Int) < 7) := by omega
      go_wp2
      go_ret
      exact ⟨rfl, KW.out.trans K.out (fun _ _ h => h)⟩
end Go.Proofs.YtndjnkjcfdaegaaGreatDoor

/-
  zones.New; what an entity takes from others (the document's takes). No conditions of their own.
-/
namespace Go.Proofs.YtndjnkjcfdaegaaGreatDoor
open Go.RowKit Go.Joins Go.Deep Go.Sort

/-- does an entity take from another one? -/
def sees (u : Int) (b c : Bd) : Bool := !neq c.id b.id && (hasB c.m 8 && decide (far b.x b.y c.x c.y ≤ u))
set_option maxRecDepth 100000 in
set_option maxHeartbeats 1000000 in
theorem mapNew_any (w : World) (z : Zf) (hz : zfOk z = true) :
    Calls Tryz.prog 33 #[zfV z] w fun e w' => ∃ g, e = .returned (.tuple #[.pointer (some ⟨g, 0, none⟩), .int .i64 0]) ∧ w.heap.size ≤ g ∧ cellsAt w' g 0 11 = some (zmC z) ∧ Keeps No w w' := by
  have hok := zfOk_ok hz
  obtain ⟨x1, x2⟩ := hok.cs
  obtain ⟨y1, y2⟩ := hok.rs
  have HC := Lib.hid (fun W => check_any W z)
  rw [hz, cond_true] at HC
  have wX : IntKind.i64.wrap (z.c * z.s) = z.c * z.s := by rw [IntKind.wrap_i64]; omega
  have wY : IntKind.i64.wrap (z.r * z.s) = z.r * z.s := by rw [IntKind.wrap_i64]; omega
  have wX2 : wrap64 (z.c * z.s) = z.c * z.s := by unfold wrap64; omega
  have wY2 : wrap64 (z.r * z.s) = z.r * z.s := by unfold wrap64; omega
  clear hz hok x1 x2 y1 y2
  go_enter Tryz.func33, Tryz.ntmps33
  go_wp2_with fail
  refine (HC.out _).mono ?_
  rintro e w1 ⟨rfl, hk⟩
  have K1 : Hid (Keeps No w w1) := Lib.hid (((Keeps.refl w).alloc _).trans hk (fun _ _ h => h))
  have cb : cellsAt w1 w.heap.size 0 7 = some (zfC z) := hk.cellsAt (by simp [go_sem])
  have e0 := cellsAt_cell cb 0 _ rfl
  have e1 := cellsAt_cell cb 1 _ rfl
  have e2 := cellsAt_cell cb 2 _ rfl
  simp only [Nat.zero_add] at e0 e1 e2
  have K2 := K1.out.size
  clear hk
  go_wp2
  exact bodyPost_ret (v := .tuple #[.pointer (some ⟨w1.heap.size, 0, none⟩), .int .i64 0]) (by simp [results, Tryz.results33, go_sem]) rfl ⟨_, rfl, K2, by simp [go_sem], K1.out.alloc _⟩
end Go.Proofs.YtndjnkjcfdaegaaGreatDoor

