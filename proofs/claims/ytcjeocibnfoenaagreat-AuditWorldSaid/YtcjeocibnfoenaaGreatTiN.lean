/-
  Without, as both programs do it, is one; the document's Hurt, Age, Obey. No conditions of their own.
-/
import Derived.Test.YtcjeocibnfoenaaGreatTiM
namespace Go.Proofs.YtcjeocibnfoenaaGreat
open Go.RowKit Go.Joins Go.Deep Go.Sort

theorem bv_andnot (x y : BitVec 64) : (x ||| y) &&& ~~~y = x - (x &&& y) := by
  have h1 : (x ||| y) &&& ~~~y = x &&& ~~~y := by
    apply BitVec.eq_of_getLsbD_eq
    intro i hi
    simp only [BitVec.getLsbD_and, BitVec.getLsbD_or, BitVec.getLsbD_not, hi, decide_true, Bool.true_and]
    cases x.getLsbD i <;> cases y.getLsbD i <;> rfl
  have h2 : (x &&& y) &&& (x &&& ~~~y) = 0#64 := by
    apply BitVec.eq_of_getLsbD_eq
    intro i hi
    simp only [BitVec.getLsbD_and, BitVec.getLsbD_not, hi, decide_true, Bool.true_and, BitVec.getLsbD_zero]
    cases x.getLsbD i <;> cases y.getLsbD i <;> rfl
  have h3 : (x &&& y) ||| (x &&& ~~~y) = x := by
    apply BitVec.eq_of_getLsbD_eq
    intro i hi
    simp only [BitVec.getLsbD_and, BitVec.getLsbD_or, BitVec.getLsbD_not, hi, decide_true, Bool.true_and]
    cases x.getLsbD i <;> cases y.getLsbD i <;> rfl
  have h4 : (x &&& y) + (x &&& ~~~y) = x := by rw [BitVec.add_eq_or_of_and_eq_zero _ _ h2, h3]
  rw [h1]
  conv => rhs; rw [show x - (x &&& y) = ((x &&& y) + (x &&& ~~~y)) - (x &&& y) by rw [h4]]
  rw [BitVec.add_comm, BitVec.add_sub_cancel]
theorem ofInt_wrap (x : BitVec 64) : BitVec.ofInt 64 (IntKind.i64.wrap (x.toNat : Int)) = x := by
  apply BitVec.eq_of_toNat_eq
  rw [toNat_ofInt64, IntKind.wrap_i64]
  have := x.isLt
  omega
theorem ofInt_sub64 (a b : Int) : BitVec.ofInt 64 (a - b) = BitVec.ofInt 64 a - BitVec.ofInt 64 b := by
  apply BitVec.eq_of_toNat_eq
  rw [BitVec.toNat_sub, toNat_ofInt64, toNat_ofInt64, toNat_ofInt64]
  omega
theorem wrap_of (a : Int) : wrap64 a = IntKind.i64.wrap ((BitVec.ofInt 64 a).toNat : Int) := by
  rw [toNat_ofInt64, IntKind.wrap_i64]
  unfold wrap64
  omega
theorem andnot_or (a m : Int) : bits .andNot .i64 (bits .or .i64 a m) m = wrap64 (a - bits .and .i64 a m) := by
  show IntKind.i64.wrap ((BitVec.ofInt 64 (IntKind.i64.wrap ((BitVec.ofInt 64 a ||| BitVec.ofInt 64 m).toNat : Int)) &&& ~~~(BitVec.ofInt 64 m)).toNat : Int) = wrap64 (a - IntKind.i64.wrap ((BitVec.ofInt 64 a &&& BitVec.ofInt 64 m).toNat : Int))
  rw [wrap_of, ofInt_sub64, ofInt_wrap, ofInt_wrap, bv_andnot]
theorem noM_X (b : Bd) (k : Int) : noM (wX (onlyM k) b) k = vX k (noM b k) := by unfold wX vX; show noM (bif hasB k 1 then _ else b) k = _; cases hasB k 1 <;> rfl
theorem noM_V (b : Bd) (k : Int) : noM (wV (onlyM k) b) k = vV k (noM b k) := by unfold wV vV; show noM (bif hasB k 2 then _ else b) k = _; cases hasB k 2 <;> rfl
theorem noM_H (b : Bd) (k : Int) : noM (wH (onlyM k) b) k = vH k (noM b k) := by unfold wH vH; show noM (bif hasB k 4 then _ else b) k = _; cases hasB k 4 <;> rfl
theorem noM_P (b : Bd) (k : Int) : noM (wP (onlyM k) b) k = vP k (noM b k) := by unfold wP vP; show noM (bif hasB k 8 then _ else b) k = _; cases hasB k 8 <;> rfl
theorem noM_L (b : Bd) (k : Int) : noM (wL (onlyM k) b) k = vL k (noM b k) := by unfold wL vL; show noM (bif hasB k 16 then _ else b) k = _; cases hasB k 16 <;> rfl
theorem vM_X (b : Bd) (k : Int) : vM (vX k b) k = vX k (vM b k) := by unfold vX; cases hasB k 1 <;> rfl
theorem vM_V (b : Bd) (k : Int) : vM (vV k b) k = vV k (vM b k) := by unfold vV; cases hasB k 2 <;> rfl
theorem vM_H (b : Bd) (k : Int) : vM (vH k b) k = vH k (vM b k) := by unfold vH; cases hasB k 4 <;> rfl
theorem vM_P (b : Bd) (k : Int) : vM (vP k b) k = vP k (vM b k) := by unfold vP; cases hasB k 8 <;> rfl
theorem vM_L (b : Bd) (k : Int) : vM (vL k b) k = vL k (vM b k) := by unfold vL; cases hasB k 16 <;> rfl
theorem noM_M (b : Bd) (k : Int) : noM (wM b (onlyM k)) k = vM b k := by
  show (⟨b.s, b.i, b.g, bits .andNot .i64 (bits .or .i64 b.m k) k, b.x, b.y, b.vx, b.vy, b.hp, b.pw, b.lf⟩ : Bd) = ⟨b.s, b.i, b.g, wrap64 (b.m - bits .and .i64 b.m k), b.x, b.y, b.vx, b.vy, b.hp, b.pw, b.lf⟩
  rw [andnot_or]
theorem without_same (b : Bd) (k : Int) : rwithoutB b k = withoutB b k := by
  unfold rwithoutB withoutB withB
  rw [noM_L, noM_P, noM_H, noM_V, noM_X, noM_M, vM_L, vM_P, vM_H, vM_V, vM_X]

set_option maxRecDepth 100000 in
set_option maxHeartbeats 2000000 in
theorem rhurt_any (w : World) (b : Bd) (hm : i64 b.m) (hb : i64 b.hp) (n : Int) : Calls Tryz.prog 36 #[bdV b, .int .i64 n] w fun e w' => e = .returned (.tuple #[bdV (hurtB b n).1, .bool (hurtB b n).2]) ∧ Keeps No w w' := by
  obtain ⟨hb1, hb2⟩ := hb
  obtain ⟨R, hR⟩ : ∃ R, R = hurtB b n := ⟨_, rfl⟩
  rw [← hR]
  have HR := Lib.hid hR
  clear hR
  have HH := Lib.hid (fun W => bit_any W b.m 4 hm (.inr (.inr (.inl rfl))))
  have HB : Hid (hurtB b n = bif !hasB b.m 4 || decide (n ≤ 0) then (b, true) else bif decide (b.hp ≤ n) then (Bd.zero, false) else (⟨b.s, b.i, b.g, b.m, b.x, b.y, b.vx, b.vy, b.hp - n, b.pw, b.lf⟩, true)) := Lib.hid rfl
  obtain ⟨h4, hh4⟩ : ∃ h, h = hasB b.m 4 := ⟨_, rfl⟩
  rw [← hh4] at HH HB
  clear hh4
  go_enter Tryz.func36, Tryz.ntmps36
  go_upto_region 1 with fail
  refine wp_world ?_
  intro W hW
  have X0 : Hid (Boxed w W w.heap.size (w.heap.size + 1) b) := Lib.hid (by rw [hW]; exact boxed_new w b _ rfl _)
  obtain ⟨gb, hgb⟩ : ∃ g, g = w.heap.size := ⟨_, rfl⟩
  obtain ⟨gr, hgr⟩ : ∃ g, g = w.heap.size + 1 := ⟨_, rfl⟩
  rw [← hgr]
  rw [← hgb]
  rw [← hgr] at X0
  rw [← hgb] at X0
  have c0 := X0.out.b
  have d3 := cellsAt_cell c0 3 _ rfl
  simp only [Nat.zero_add] at d3
  clear hW hgb hgr
  go_wp2_with fail
  refine (HH.out W).mono ?_
  rintro e w1 ⟨rfl, hw⟩
  have hw := hw.symm
  subst hw
  have X := Lib.hid X0.out
  clear d3
  have cb := X.out.b
  have ob := X.out.ob
  have sb := X.out.sb
  have or := X.out.or
  have sr := X.out.sr
  have ne := X.out.ne
  have ne2 := X.out.ne.symm
  have c6 := cellsAt_cell cb 6 _ rfl
  have c8 := cellsAt_cell cb 8 _ rfl
  simp only [Nat.zero_add] at c6 c8
  clear c0 X0 HH
  have hz : (Bd.zero : Bd) = ⟨0, 0, 0, 0, 0, 0, 0, 0, 0, 0, 0⟩ := rfl
  have lr := X.out.lr
  cases h4 with
  | false =>
    have hr2 : R = (b, true) := by rw [HR.out, HB.out]; rfl
    subst hr2
    clear HR HB hz
    go_wp2
    exact bodyPost_ret (v := .tuple #[bdV b, .bool true]) (by simp [results, Tryz.results36, go_sem, *]) rfl ⟨rfl, X.out.k.row X.out.nr _⟩
  | true =>
    by_cases hn : n ≤ 0
    · have hr2 : R = (b, true) := by rw [HR.out, HB.out, decide_eq_true hn]; rfl
      subst hr2
      clear HR HB hz
      go_wp2
      exact bodyPost_ret (v := .tuple #[bdV b, .bool true]) (by simp [results, Tryz.results36, go_sem, *]) rfl ⟨rfl, X.out.k.row X.out.nr _⟩
    · by_cases hp : b.hp ≤ n
      · have hr2 : R = (Bd.zero, false) := by rw [HR.out, HB.out, decide_eq_false hn, decide_eq_true hp]; rfl
        subst hr2
        clear HR HB
        have hnd : decide (n ≤ 0) = false := decide_eq_false hn
        go_wp2
        exact bodyPost_ret (v := .tuple #[bdV Bd.zero, .bool false]) (by simp [results, Tryz.results36, go_sem, *]) rfl ⟨rfl, X.out.k.row X.out.nr _⟩
      · obtain ⟨B, hB⟩ : ∃ B : Bd, B = ⟨b.s, b.i, b.g, b.m, b.x, b.y, b.vx, b.vy, b.hp - n, b.pw, b.lf⟩ := ⟨_, rfl⟩
        have hr2 : R = (B, true) := by rw [HR.out, HB.out, decide_eq_false hn, decide_eq_false hp, hB]; rfl
        subst hr2
        have hnd : decide (n ≤ 0) = false := decide_eq_false hn
        have hpd : decide (b.hp ≤ n) = false := decide_eq_false hp
        have hp1 : (0 : Int) < n := by omega
        have hp2 : n < b.hp := by omega
        have hsub : wrap64 (b.hp - n) = b.hp - n := by unfold wrap64; omega
        have HBB := Lib.hid hB
        have f8 := ob.frozen 8
        clear HR HB hB hz
        go_wp2
        rw [HBB.out]
        exact bodyPost_ret (v := .tuple #[bdV ⟨b.s, b.i, b.g, b.m, b.x, b.y, b.vx, b.vy, b.hp - n, b.pw, b.lf⟩, .bool true]) (by simp [results, Tryz.results36, go_sem, *]) rfl ⟨rfl, (X.out.k.cellNew X.out.nb _).row X.out.nr _⟩

set_option maxRecDepth 100000 in
set_option maxHeartbeats 2000000 in
theorem rage_any (w : World) (b : Bd) (hm : i64 b.m) (hb : i64 b.lf) : Calls Tryz.prog 40 #[bdV b] w fun e w' => e = .returned (.tuple #[bdV (ageB b).1, .bool (ageB b).2]) ∧ Keeps No w w' := by
  obtain ⟨hb1, hb2⟩ := hb
  obtain ⟨R, hR⟩ : ∃ R, R = ageB b := ⟨_, rfl⟩
  rw [← hR]
  have HR := Lib.hid hR
  clear hR
  have HH := Lib.hid (fun W => bit_any W b.m 16 hm (.inr (.inr (.inr (.inr rfl)))))
  have HB : Hid (ageB b = bif !hasB b.m 16 then (b, true) else bif decide (b.lf ≤ 1) then (Bd.zero, false) else (⟨b.s, b.i, b.g, b.m, b.x, b.y, b.vx, b.vy, b.hp, b.pw, b.lf - 1⟩, true)) := Lib.hid rfl
  obtain ⟨h4, hh4⟩ : ∃ h, h = hasB b.m 16 := ⟨_, rfl⟩
  rw [← hh4] at HH HB
  clear hh4
  go_enter Tryz.func40, Tryz.ntmps40
  go_upto_region 1 with fail
  refine wp_world ?_
  intro W hW
  have X0 : Hid (Boxed w W w.heap.size (w.heap.size + 1) b) := Lib.hid (by rw [hW]; exact boxed_new w b _ rfl _)
  obtain ⟨gb, hgb⟩ : ∃ g, g = w.heap.size := ⟨_, rfl⟩
  obtain ⟨gr, hgr⟩ : ∃ g, g = w.heap.size + 1 := ⟨_, rfl⟩
  rw [← hgr]
  rw [← hgb]
  rw [← hgr] at X0
  rw [← hgb] at X0
  have c0 := X0.out.b
  have d3 := cellsAt_cell c0 3 _ rfl
  simp only [Nat.zero_add] at d3
  clear hW hgb hgr
  go_wp2_with fail
  refine (HH.out W).mono ?_
  rintro e w1 ⟨rfl, hw⟩
  have hw := hw.symm
  subst hw
  have X := Lib.hid X0.out
  clear d3
  have cb := X.out.b
  have ob := X.out.ob
  have sb := X.out.sb
  have or := X.out.or
  have sr := X.out.sr
  have ne := X.out.ne
  have ne2 := X.out.ne.symm
  have c6 := cellsAt_cell cb 6 _ rfl
  have c10 := cellsAt_cell cb 10 _ rfl
  simp only [Nat.zero_add] at c6 c10
  clear c0 X0 HH
  have hz : (Bd.zero : Bd) = ⟨0, 0, 0, 0, 0, 0, 0, 0, 0, 0, 0⟩ := rfl
  have lr := X.out.lr
  cases h4 with
  | false =>
    have hr2 : R = (b, true) := by rw [HR.out, HB.out]; rfl
    subst hr2
    clear HR HB hz
    go_wp2
    exact bodyPost_ret (v := .tuple #[bdV b, .bool true]) (by simp [results, Tryz.results40, go_sem, *]) rfl ⟨rfl, X.out.k.row X.out.nr _⟩
  | true =>
    by_cases hp : b.lf ≤ 1
    · have hp9 : decide (b.lf < 2) = true := decide_eq_true (by omega)
      have hr2 : R = (Bd.zero, false) := by rw [HR.out, HB.out, decide_eq_true hp]; rfl
      subst hr2
      clear HR HB
      go_wp2
      exact bodyPost_ret (v := .tuple #[bdV Bd.zero, .bool false]) (by simp [results, Tryz.results40, go_sem, *]) rfl ⟨rfl, X.out.k.row X.out.nr _⟩
    · obtain ⟨B, hB⟩ : ∃ B : Bd, B = ⟨b.s, b.i, b.g, b.m, b.x, b.y, b.vx, b.vy, b.hp, b.pw, b.lf - 1⟩ := ⟨_, rfl⟩
      have hr2 : R = (B, true) := by rw [HR.out, HB.out, decide_eq_false hp, hB]; rfl
      subst hr2
      have hpd : decide (b.lf < 2) = false := decide_eq_false (by omega)
      have hp2 : 1 < b.lf := by omega
      have hsub : wrap64 (b.lf - 1) = b.lf - 1 := by unfold wrap64; omega
      have HBB := Lib.hid hB
      have f10 := ob.frozen 10
      clear HR HB hB hz
      go_wp2
      rw [HBB.out]
      exact bodyPost_ret (v := .tuple #[bdV ⟨b.s, b.i, b.g, b.m, b.x, b.y, b.vx, b.vy, b.hp, b.pw, b.lf - 1⟩, .bool true]) (by simp [results, Tryz.results40, go_sem, *]) rfl ⟨rfl, (X.out.k.cellNew X.out.nb _).row X.out.nr _⟩

set_option maxRecDepth 100000 in
set_option maxHeartbeats 4000000 in
theorem robey_any (w : World) (b : Bd) (c : Cm) (hm1 : i64 c.b.m) (hm2 : i64 c.m) : Calls Tryz.prog 66 #[bdV b, cmV c] w fun e w' => e = .returned (.tuple #[bdV (obeyB b c).1, .bool (obeyB b c).2]) ∧ Keeps No w w' := by
  obtain ⟨R, hR⟩ : ∃ R, R = obeyB b c := ⟨_, rfl⟩
  rw [← hR]
  have HR := Lib.hid hR
  clear hR
  obtain ⟨T, hT⟩ : ∃ T, T = neq c.id b.id := ⟨_, rfl⟩
  have hne : ∀ W, (binOp .eql 36 (.agg #[.int .i64 c.s, .int .i64 c.i, .int .i64 c.g]) (.agg #[.int .i64 b.s, .int .i64 b.i, .int .i64 b.g])).run Tryz.prog W = .ok (.bool T) W := fun W => by rw [hT]; exact run_eqlID _ _ _ _ _ _ W
  have HT := Lib.hid hT
  clear hT
  go_enter Tryz.func66, Tryz.ntmps66
  go_upto_region 1 with fail
  refine wp_world ?_
  intro W hW
  have X : Hid (Boxed w W w.heap.size (w.heap.size + 2) b) := Lib.hid (by
    rw [hW]
    refine ⟨by simp [go_sem], by simp [go_sem], by simp [go_sem], by simp [go_sem], by simp [go_sem], Nat.le_refl _, by omega, by omega, by simp; omega, by simp, (((Keeps.refl w).alloc _).alloc _).alloc _⟩)
  have cc : cellsAt W (w.heap.size + 1) 0 16 = some (cmC c) := by rw [hW]; simp [go_sem]
  have c3 : cellsAt W (w.heap.size + 1) 1 3 = some [.int .i64 c.s, .int .i64 c.i, .int .i64 c.g] := by rw [hW]; simp [go_sem]
  have c11 : cellsAt W (w.heap.size + 1) 4 11 = some (bdC c.b) := by rw [hW]; simp [go_sem]
  have b3 : cellsAt W w.heap.size 0 3 = some [.int .i64 b.s, .int .i64 b.i, .int .i64 b.g] := by rw [hW]; simp [go_sem]
  obtain ⟨gb, hgb⟩ : ∃ g, g = w.heap.size := ⟨_, rfl⟩
  obtain ⟨gc, hgc⟩ : ∃ g, g = w.heap.size + 1 := ⟨_, rfl⟩
  obtain ⟨gr, hgr⟩ : ∃ g, g = w.heap.size + 2 := ⟨_, rfl⟩
  have hgr' : w.heap.size + 1 + 1 = gr := hgr.symm
  try rw [hgr']
  try rw [← hgr]
  rw [← hgc]
  rw [← hgb]
  rw [← hgr] at X
  rw [← hgc] at cc c3 c11
  rw [← hgb] at X b3
  clear hW hgb hgc hgr hgr'
  have k0 := cellsAt_cell cc 0 _ rfl
  have k15 := cellsAt_cell cc 15 _ rfl
  simp only [Nat.zero_add] at k0 k15
  have cb := X.out.b
  have or := X.out.or
  have sr := X.out.sr
  have lr := X.out.lr
  have HO : Hid (R = bif !T then (b, true) else bif c.k == 2 then (Bd.zero, false) else bif c.k == 3 then (withB b c.b, true) else bif c.k == 4 then (withoutB b c.m, true) else (b, true)) := Lib.hid (by rw [HR.out]; unfold obeyB; rw [← HT.out])
  clear cc
  cases T with
  | false =>
    have he : R = (b, true) := by rw [HO.out]; rfl
    subst he
    clear HO HR HT
    go_wp2
    exact bodyPost_ret (v := .tuple #[bdV b, .bool true]) (by simp [results, Tryz.results66, go_sem, *]) rfl ⟨rfl, X.out.k.row X.out.nr _⟩
  | true =>
    by_cases h2 : c.k = 2
    · have he : R = (Bd.zero, false) := by rw [HO.out, h2]; rfl
      subst he
      have hz : (Bd.zero : Bd) = ⟨0, 0, 0, 0, 0, 0, 0, 0, 0, 0, 0⟩ := rfl
      clear HO HR HT
      go_wp2
      exact bodyPost_ret (v := .tuple #[bdV Bd.zero, .bool false]) (by simp [results, Tryz.results66, go_sem, *]) rfl ⟨rfl, X.out.k.row X.out.nr _⟩
    · have e2 : (c.k == 2) = false := by rw [beq_eq_false_iff_ne]; exact h2
      by_cases h3 : c.k = 3
      · have he : R = (withB b c.b, true) := by rw [HO.out, e2, h3]; rfl
        have HW := Lib.hid (fun W => rwith_any W b c.b hm1)
        obtain ⟨B, hB⟩ : ∃ B, B = withB b c.b := ⟨_, rfl⟩
        rw [← hB] at he HW
        subst he
        clear HO HR HT hB
        go_wp2_with fail
        refine (HW.out W).mono ?_
        rintro e w1 ⟨rfl, hk⟩
        have Y := Lib.hid (X.out.next hk)
        have or := Y.out.or
        have sr := Y.out.sr
        have lr := Y.out.lr
        clear hk X HW c3 c11 b3 k0 k15 cb
        go_wp2
        exact bodyPost_ret (v := .tuple #[bdV B, .bool true]) (by simp [results, Tryz.results66, go_sem, *]) rfl ⟨rfl, Y.out.k.row Y.out.nr _⟩
      · have e3 : (c.k == 3) = false := by rw [beq_eq_false_iff_ne]; exact h3
        by_cases h4 : c.k = 4
        · have he : R = (withoutB b c.m, true) := by rw [HO.out, e2, e3, h4]; rfl
          have HW := Lib.hid (fun W => rwithout_any W b c.m hm2)
          obtain ⟨B, hB⟩ : ∃ B, B = withoutB b c.m := ⟨_, rfl⟩
          rw [without_same] at HW
          rw [← hB] at he HW
          subst he
          clear HO HR HT hB
          go_wp2_with fail
          refine (HW.out W).mono ?_
          rintro e w1 ⟨rfl, hk⟩
          have Y := Lib.hid (X.out.next hk)
          have or := Y.out.or
          have sr := Y.out.sr
          have lr := Y.out.lr
          clear hk X HW c3 c11 b3 k0 k15 cb
          go_wp2
          exact bodyPost_ret (v := .tuple #[bdV B, .bool true]) (by simp [results, Tryz.results66, go_sem, *]) rfl ⟨rfl, Y.out.k.row Y.out.nr _⟩
        · have e4 : (c.k == 4) = false := by rw [beq_eq_false_iff_ne]; exact h4
          have he : R = (b, true) := by rw [HO.out, e2, e3, e4]; rfl
          subst he
          clear HO HR HT
          go_wp2
          exact bodyPost_ret (v := .tuple #[bdV b, .bool true]) (by simp [results, Tryz.results66, go_sem, *]) rfl ⟨rfl, X.out.k.row X.out.nr _⟩

end Go.Proofs.YtcjeocibnfoenaaGreat
