/-
  parts.Without, systems.Obey. No conditions of their own.
-/
import Derived.Test.YtcjeocibnfoenaaGreatTiH
namespace Go.Proofs.YtcjeocibnfoenaaGreat
open Go.RowKit Go.Joins Go.Deep Go.Sort

set_option maxRecDepth 100000 in
theorem run_eqlID (x1 x2 x3 y1 y2 y3 : Int) (w : World) : (binOp .eql 36 (.agg #[.int .i64 x1, .int .i64 x2, .int .i64 x3]) (.agg #[.int .i64 y1, .int .i64 y2, .int .i64 y3])).run Tryz.prog w = .ok (.bool (neq ⟨x1, x2, x3⟩ ⟨y1, y2, y3⟩)) w := by
  unfold neq
  by_cases h1 : x1 = y1 <;> by_cases h2 : x2 = y2 <;> by_cases h3 : x3 = y3 <;> simp [go_sem, h1, h2, h3]
set_option maxRecDepth 100000 in
theorem run_neqID (x1 x2 x3 y1 y2 y3 : Int) (w : World) : (binOp .neq 36 (.agg #[.int .i64 x1, .int .i64 x2, .int .i64 x3]) (.agg #[.int .i64 y1, .int .i64 y2, .int .i64 y3])).run Tryz.prog w = .ok (.bool (!neq ⟨x1, x2, x3⟩ ⟨y1, y2, y3⟩)) w := by
  unfold neq
  by_cases h1 : x1 = y1 <;> by_cases h2 : x2 = y2 <;> by_cases h3 : x3 = y3 <;> simp [go_sem, h1, h2, h3]

def onlyM (k : Int) : Bd := ⟨0, 0, 0, k, 0, 0, 0, 0, 0, 0, 0⟩
def noM (b : Bd) (k : Int) : Bd := ⟨b.s, b.i, b.g, bits .andNot .i64 b.m k, b.x, b.y, b.vx, b.vy, b.hp, b.pw, b.lf⟩
def withoutB (b : Bd) (k : Int) : Bd := noM (withB b (onlyM k)) k
set_option maxRecDepth 100000 in
set_option maxHeartbeats 4000000 in
theorem without_any (w : World) (b : Bd) (k : Int) : Calls Tryz.prog 86 #[bdV b, .int .i64 k] w fun e w' => e = .returned (bdV (withoutB b k)) ∧ Keeps No w w' := by
  obtain ⟨B, hB⟩ : ∃ B, B = withB b (onlyM k) := ⟨_, rfl⟩
  obtain ⟨R, hR⟩ : ∃ R, R = noM B k := ⟨_, rfl⟩
  have HC : Hid (∀ W, Calls Tryz.prog 85 #[bdV b, .agg #[.int .i64 0, .int .i64 0, .int .i64 0, .int .i64 k, .int .i64 0, .int .i64 0, .int .i64 0, .int .i64 0, .int .i64 0, .int .i64 0, .int .i64 0]] W fun e w' => e = .returned (bdV B) ∧ Keeps No W w') := Lib.hid (fun W => by rw [hB]; exact with_any W b (onlyM k))
  have hw : withoutB b k = R := by unfold withoutB; rw [← hB, hR]
  rw [hw]
  have HR := Lib.hid hR
  clear hB hR hw
  go_enter Tryz.func86, Tryz.ntmps86
  go_upto_region 2 with fail
  refine wp_world ?_
  intro W hW
  have X0 : Hid (Boxed w W w.heap.size (w.heap.size + 1) b) := Lib.hid (by
    rw [hW]
    refine ⟨by simp [go_sem], by simp [go_sem], by simp [go_sem], by simp [go_sem], by simp [go_sem], Nat.le_refl _, by omega, by omega, by simp; omega, by simp, (((Keeps.refl w).alloc _).alloc _).alloc _⟩)
  have cn : cellsAt W (w.heap.size + 2) 0 11 = some (bdC (onlyM k)) := by rw [hW]; simp [go_sem, onlyM]
  obtain ⟨gb, hgb⟩ : ∃ g, g = w.heap.size := ⟨_, rfl⟩
  obtain ⟨gr, hgr⟩ : ∃ g, g = w.heap.size + 1 := ⟨_, rfl⟩
  obtain ⟨gn, hgn⟩ : ∃ g, g = w.heap.size + 2 := ⟨_, rfl⟩
  have hgn' : w.heap.size + 1 + 1 = gn := hgn.symm
  try rw [hgn']
  try rw [← hgn]
  rw [← hgr]
  rw [← hgb]
  rw [← hgn] at cn
  rw [← hgr] at X0
  rw [← hgb] at X0
  clear hW hgb hgr hgn hgn'
  have cb := X0.out.b
  have cn' : cellsAt W gn 0 11 = some [.int .i64 0, .int .i64 0, .int .i64 0, .int .i64 k, .int .i64 0, .int .i64 0, .int .i64 0, .int .i64 0, .int .i64 0, .int .i64 0, .int .i64 0] := cn
  clear cn
  go_wp2_with fail
  refine (HC.out W).mono ?_
  rintro e w1 ⟨rfl, hk⟩
  have X := Lib.hid (X0.out.next hk)
  clear hk cb cn' HC
  have ob := X.out.ob
  have sb := X.out.sb
  have or := X.out.or
  have sr := X.out.sr
  have lb := X.out.lb
  have lr := X.out.lr
  have ne := X.out.ne
  have ne2 := X.out.ne.symm
  have hs : splice (rowD w1 gb) 0 (bdC B) = (bdC B).toArray := splice_all _ _ (by rw [sb]; rfl)
  have f3 : (w1.setRow gb (bdC B).toArray).frozen? ⟨gb, 3, none⟩ = false := by rw [frozen_setRow]; exact ob.frozen 3
  have HRR : Hid (bdC R = [.int .i64 B.s, .int .i64 B.i, .int .i64 B.g, .int .i64 (bits .andNot .i64 B.m k), .int .i64 B.x, .int .i64 B.y, .int .i64 B.vx, .int .i64 B.vy, .int .i64 B.hp, .int .i64 B.pw, .int .i64 B.lf]) := Lib.hid (by rw [HR.out]; rfl)
  go_wp2
  have hv : (bdV R) = .agg #[.int .i64 B.s, .int .i64 B.i, .int .i64 B.g, .int .i64 (bits .andNot .i64 B.m k), .int .i64 B.x, .int .i64 B.y, .int .i64 B.vx, .int .i64 B.vy, .int .i64 B.hp, .int .i64 B.pw, .int .i64 B.lf] := by rw [HR.out]; rfl
  rw [hv]
  refine bodyPost_ret (v := .agg #[.int .i64 B.s, .int .i64 B.i, .int .i64 B.g, .int .i64 (bits .andNot .i64 B.m k), .int .i64 B.x, .int .i64 B.y, .int .i64 B.vx, .int .i64 B.vy, .int .i64 B.hp, .int .i64 B.pw, .int .i64 B.lf]) (by simp [results, Tryz.results86, go_sem, *]) rfl ⟨rfl, ?_⟩
  first
    | exact (((X.out.k.row X.out.nb _).cellNew X.out.nb _).row X.out.nr _)
    | exact ((X.out.k.row X.out.nb _).row X.out.nr _)

abbrev cmV (c : Cm) : Value := .agg #[.int .i64 c.k, .int .i64 c.s, .int .i64 c.i, .int .i64 c.g, .int .i64 c.b.s, .int .i64 c.b.i, .int .i64 c.b.g, .int .i64 c.b.m, .int .i64 c.b.x, .int .i64 c.b.y, .int .i64 c.b.vx, .int .i64 c.b.vy, .int .i64 c.b.hp, .int .i64 c.b.pw, .int .i64 c.b.lf, .int .i64 c.m]
def obeyB (b : Bd) (c : Cm) : Bd × Bool := bif !neq c.id b.id then (b, true) else bif c.k == 2 then (Bd.zero, false) else bif c.k == 3 then (withB b c.b, true) else bif c.k == 4 then (withoutB b c.m, true) else (b, true)
set_option maxRecDepth 100000 in
set_option maxHeartbeats 4000000 in
theorem obey_any (w : World) (b : Bd) (c : Cm) : Calls Tryz.prog 56 #[bdV b, cmV c] w fun e w' => e = .returned (.tuple #[bdV (obeyB b c).1, .bool (obeyB b c).2]) ∧ Keeps No w w' := by
  obtain ⟨R, hR⟩ : ∃ R, R = obeyB b c := ⟨_, rfl⟩
  rw [← hR]
  have HR := Lib.hid hR
  clear hR
  obtain ⟨T, hT⟩ : ∃ T, T = neq c.id b.id := ⟨_, rfl⟩
  have hne : ∀ W, (binOp .neq 36 (.agg #[.int .i64 c.s, .int .i64 c.i, .int .i64 c.g]) (.agg #[.int .i64 b.s, .int .i64 b.i, .int .i64 b.g])).run Tryz.prog W = .ok (.bool (!T)) W := fun W => by rw [hT]; exact run_neqID _ _ _ _ _ _ W
  have HT := Lib.hid hT
  clear hT
  go_enter Tryz.func56, Tryz.ntmps56
  go_upto_region 1 with fail
  refine wp_world ?_
  intro W hW
  have X : Hid (Boxed w W w.heap.size (w.heap.size + 2) b) := Lib.hid (by
    rw [hW]
    refine ⟨by simp [go_sem], by simp [go_sem], by simp [go_sem], by simp [go_sem], by simp [go_sem], Nat.le_refl _, by omega, by omega, by simp; omega, by simp, (((Keeps.refl w).alloc _).alloc _).alloc _⟩)
  have cc : cellsAt W (w.heap.size + 1) 0 16 = some (cmC c) := by rw [hW]; simp [go_sem]
  have c3 : cellsAt W (w.heap.size + 1) 1 3 = some [.int .i64 c.s, .int .i64 c.i, .int .i64 c.g] := by rw [hW]; simp [go_sem]
  have c11 : cellsAt W (w.heap.size + 1) 4 11 = some (bdC c.b) := by rw [hW]; simp [go_sem]
  have b3 : cellsAt W w.heap.size 0 3 = some [.int .i64 b.s, .int .i64 b.i, .int .i64 b.g] := by rw [hW]; simp [go_sem]
  obtain ⟨gb, hgb⟩ : ∃ g, g = w.heap.size := ⟨_, rfl⟩
  obtain ⟨gc, hgc⟩ : ∃ g, g = w.heap.size + 1 := ⟨_, rfl⟩
  obtain ⟨gr, hgr⟩ : ∃ g, g = w.heap.size + 2 := ⟨_, rfl⟩
  have hgr' : w.heap.size + 1 + 1 = gr := hgr.symm
  try rw [hgr']
  try rw [← hgr]
  rw [← hgc]
  rw [← hgb]
  rw [← hgr] at X
  rw [← hgc] at cc c3 c11
  rw [← hgb] at X b3
  clear hW hgb hgc hgr hgr'
  have k0 := cellsAt_cell cc 0 _ rfl
  have k15 := cellsAt_cell cc 15 _ rfl
  simp only [Nat.zero_add] at k0 k15
  have cb := X.out.b
  have or := X.out.or
  have sr := X.out.sr
  have lr := X.out.lr
  have HO : Hid (R = bif !T then (b, true) else bif c.k == 2 then (Bd.zero, false) else bif c.k == 3 then (withB b c.b, true) else bif c.k == 4 then (withoutB b c.m, true) else (b, true)) := Lib.hid (by rw [HR.out]; unfold obeyB; rw [← HT.out])
  clear cc
  cases T with
  | false =>
    have he : R = (b, true) := by rw [HO.out]; rfl
    subst he
    clear HO HR HT
    go_wp2
    exact bodyPost_ret (v := .tuple #[bdV b, .bool true]) (by simp [results, Tryz.results56, go_sem, *]) rfl ⟨rfl, X.out.k.row X.out.nr _⟩
  | true =>
    by_cases h2 : c.k = 2
    · have he : R = (Bd.zero, false) := by rw [HO.out, h2]; rfl
      subst he
      have hz : (Bd.zero : Bd) = ⟨0, 0, 0, 0, 0, 0, 0, 0, 0, 0, 0⟩ := rfl
      clear HO HR HT
      go_wp2
      exact bodyPost_ret (v := .tuple #[bdV Bd.zero, .bool false]) (by simp [results, Tryz.results56, go_sem, *]) rfl ⟨rfl, X.out.k.row X.out.nr _⟩
    · have e2 : (c.k == 2) = false := by rw [beq_eq_false_iff_ne]; exact h2
      by_cases h3 : c.k = 3
      · have he : R = (withB b c.b, true) := by rw [HO.out, e2, h3]; rfl
        have HW := Lib.hid (fun W => with_any W b c.b)
        obtain ⟨B, hB⟩ : ∃ B, B = withB b c.b := ⟨_, rfl⟩
        rw [← hB] at he HW
        subst he
        clear HO HR HT hB
        go_wp2_with fail
        refine (HW.out W).mono ?_
        rintro e w1 ⟨rfl, hk⟩
        have Y := Lib.hid (X.out.next hk)
        have or := Y.out.or
        have sr := Y.out.sr
        have lr := Y.out.lr
        clear hk X HW c3 c11 b3 k0 k15 cb
        go_wp2
        exact bodyPost_ret (v := .tuple #[bdV B, .bool true]) (by simp [results, Tryz.results56, go_sem, *]) rfl ⟨rfl, Y.out.k.row Y.out.nr _⟩
      · have e3 : (c.k == 3) = false := by rw [beq_eq_false_iff_ne]; exact h3
        by_cases h4 : c.k = 4
        · have he : R = (withoutB b c.m, true) := by rw [HO.out, e2, e3, h4]; rfl
          have HW := Lib.hid (fun W => without_any W b c.m)
          obtain ⟨B, hB⟩ : ∃ B, B = withoutB b c.m := ⟨_, rfl⟩
          rw [← hB] at he HW
          subst he
          clear HO HR HT hB
          go_wp2_with fail
          refine (HW.out W).mono ?_
          rintro e w1 ⟨rfl, hk⟩
          have Y := Lib.hid (X.out.next hk)
          have or := Y.out.or
          have sr := Y.out.sr
          have lr := Y.out.lr
          clear hk X HW c3 c11 b3 k0 k15 cb
          go_wp2
          exact bodyPost_ret (v := .tuple #[bdV B, .bool true]) (by simp [results, Tryz.results56, go_sem, *]) rfl ⟨rfl, Y.out.k.row Y.out.nr _⟩
        · have e4 : (c.k == 4) = false := by rw [beq_eq_false_iff_ne]; exact h4
          have he : R = (b, true) := by rw [HO.out, e2, e3, e4]; rfl
          subst he
          clear HO HR HT
          go_wp2
          exact bodyPost_ret (v := .tuple #[bdV b, .bool true]) (by simp [results, Tryz.results56, go_sem, *]) rfl ⟨rfl, X.out.k.row X.out.nr _⟩
end Go.Proofs.YtcjeocibnfoenaaGreat
