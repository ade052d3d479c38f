/-
  Texts in one: LgH, LgI, LgK. No conditions of their own.
-/
import Derived.Test.YtndjnkjcfdaegaaGreatDoorZh23
import Derived.Test.YtndjnkjcfdaegaaGreatDoorZh18
set_option linter.all false

/-
  The pool's Free. No conditions of its own.
-/
namespace Go.Proofs.YtndjnkjcfdaegaaGreatDoor
open Go.RowKit Go.Shelf Go.Sort Go.Joins Go.Deep

section
variable {w : World} {base p g : Nat} {R : List Rp} {pl : Pl}
theorem freeP_none {a : Nam} (hx : ixAt pl a.s a.i = none) : freeP pl a = (1, pl) := by
  unfold freeP
  unfold ixAt at hx
  cases hs : shAt pl a.s with
  | none => rfl
  | some s =>
    rw [hs] at hx
    simp only [hx]
theorem freeP_some {a : Nam} {k i : Nat} {s : Sh} {x : Ix} (hk : a.s = k) (hi : a.i = i) (hs : pl[k]? = some s) (hx : s.all[i]? = some x) : freeP pl a = ((freeS s x a.i a.g).1, plPut pl k (freeS s x a.i a.g).2) := by
  unfold freeP
  rw [hk, shAt_nat hs]
  simp only [hi, ixIn_nat hx, Int.toNat_natCast]
theorem ixAt_split {a b : Int} {x : Ix} (hx : ixAt pl a b = some x) : ∃ (k i : Nat) (s : Sh), a = k ∧ b = i ∧ pl[k]? = some s ∧ s.all[i]? = some x := by
  unfold ixAt at hx
  cases hs : shAt pl a with
  | none => rw [hs] at hx; cases hx
  | some s =>
    rw [hs] at hx
    obtain ⟨m, hm0, hm⟩ := shAt_some hs
    obtain ⟨n, hn0, hn⟩ := ixIn_some hx
    exact ⟨m, n, s, hm0, hn0, hm, hn⟩
theorem Sh.ok.turn {s : Sh} (h : s.ok) {i : Nat} {x : Ix} (hx : s.all[i]? = some x) (ha : x.a = true) {y : Ix} (hy : y.ok) : (s.put i y).ok := by
  have hlt := (List.getElem?_eq_some_iff.1 hx).1
  refine ⟨fun t ht => ?_, by simp [Sh.put]; exact h.n0, by simp [Sh.put]; exact h.n1, h.nd, fun j hj => ?_⟩
  · rcases List.mem_or_eq_of_mem_set ht with h1 | h1
    · exact h.ix t h1
    · rw [h1]; exact hy
  · obtain ⟨z, hz, hza, hzg⟩ := h.fr j hj
    have hij : i ≠ j := by
      rintro rfl
      rw [hx] at hz
      cases hz
      rw [ha] at hza
      cases hza
    exact ⟨z, by simp [Sh.put, hij]; exact hz, hza, hzg⟩
/-- an index is put behind those that are free -/
theorem PoolAt.pushed (h : PoolAt w base p g R pl) {k : Nat} {r : Rp} {s : Sh} (hr : R[k]? = some r) (hs : pl[k]? = some s) {w8 : World} (hk : Keeps (Of (r.fv s)) w w8) {wa : Option Addr} {wc i : Nat}
    (ho : w8.ownsRow base intT 1 (.slice wa (s.free.length + 1) wc) (s.free.length + 1) (intsV s.free ++ [.int .i64 i])) (hb : ∀ q, (Value.slice wa (s.free.length + 1) wc).ownBlock = some q → (r.fv s).ownBlock = some q ∨ w.heap.size ≤ q) (ok : Sh.ok ⟨s.all, s.free ++ [i]⟩) :
    ∃ r', PoolAt (w8.setCell ⟨g, k * 2 + 1, none⟩ (.slice wa (s.free.length + 1) wc)) base p g (R.set k r') (plPut pl k ⟨s.all, s.free ++ [i]⟩) ∧ Keeps (PoolS p g R) w (w8.setCell ⟨g, k * 2 + 1, none⟩ (.slice wa (s.free.length + 1) wc)) ∧ ∀ j, PoolS p g (R.set k r') j → PoolS p g R j ∨ w.heap.size ≤ j := by
  obtain ⟨f1, f2, f3, f4, f5, f6⟩ := h.four hr
  have hz : (R.zip pl)[k]? = some (r, s) := by rw [List.getElem?_zip_eq_some]; exact ⟨hr, hs⟩
  have hsh := h.sh k r s hr hs
  have hofb : ∀ j, Of (r.fv s) j → j = r.f := fun j e => by
    have e : (r.fv s).ownBlock = some j := e
    simp only [Value.ownBlock, Option.some.injEq] at e
    exact e.symm
  rcases ho.2 with ⟨_, e⟩ | ⟨f', cap, cur, e, hfb, hfh, hnc, hcm, hcs, htk⟩
  · omega
  · simp only [Value.slice.injEq, true_and] at e
    obtain ⟨rfl, rfl⟩ := e
    have hf' : f' = r.f ∨ w.heap.size ≤ f' := by
      rcases hb f' rfl with e | e
      · exact .inl (hofb f' e)
      · exact .inr e
    have G8 := hk.heap h.row (fun e => f5 (hofb g e))
    have A8 := hk.heap hsh.all (fun e => f6 (hofb r.a e))
    have q1 := heap_row_cell cSh G8 k 1 (r, s) (⟨r.a, f', wc⟩, ⟨s.all, s.free ++ [i]⟩) (.slice (some ⟨f', 0, none⟩) (s.free.length + 1) wc) hz (by decide) (by simp [cSh])
    obtain ⟨X, hX⟩ : ∃ X, X = w8.setCell ⟨g, k * 2 + 1, none⟩ (.slice (some ⟨f', 0, none⟩) (s.free.length + 1) wc) := ⟨_, rfl⟩
    have y1 : Keeps (Own g) w8 X := by rw [hX]; exact keepsCell _ _ _ _
    have q1 : X.heap[g]? = some (.cells (rowsOf cSh ((R.zip pl).set k ((⟨r.a, f', wc⟩ : Rp), (⟨s.all, s.free ++ [i]⟩ : Sh)))).toArray shT (0, 0)) := by rw [hX]; exact q1
    rw [← hX]
    have hkF : Keeps (PoolS p g [r]) w X := (hk.mono (T := PoolS p g [r]) (fun j _ e => .inr (.inr ⟨r, by simp, .inr (hofb j e)⟩))).trans y1 (fun j _ e => .inr (.inl e))
    have hbx : X.heap[p]? = w.heap[p]? := by
      have hpl : p < w.heap.size := h.lt (.inl rfl)
      rw [y1.block p (by have := hk.size; omega) f1, hk.block p hpl (fun e => f3 (hofb p e))]
    have ngf : ¬ g = f' := fun e => by
      rcases hf' with e2 | e2
      · exact f5 (e.trans e2)
      · have := h.lt (i := g) (.inr (.inl rfl)); omega
    have hown : OwnInts X base (Rp.fv ⟨r.a, f', wc⟩ ⟨s.all, s.free ++ [i]⟩) (s.free ++ [i]) := by
      show X.ownsRow base intT 1 (.slice (some ⟨f', 0, none⟩) (s.free ++ [i]).length wc) (s.free ++ [i]).length (intsV (s.free ++ [i]))
      rw [intsV_append, show (s.free ++ [i]).length = s.free.length + 1 by simp]
      exact y1.owns ho (fun j hj e => ngf (by simp only [Value.ownBlock, Option.some.injEq] at hj; have e : j = g := e; exact e.symm.trans hj.symm))
    have hp := h.put (r' := ⟨r.a, f', wc⟩) (t := ⟨s.all, s.free ++ [i]⟩) hr hs hkF hbx q1 ⟨y1.heap A8 (fun e => f4 e.symm), hown, hsh.ba⟩ rfl hf' ok
    refine ⟨_, hp, hkF.mono (fun j _ e => ?_), fun j hj => ?_⟩
    · rcases e with e | e | ⟨q, hq, e⟩
      · exact .inl e
      · exact .inr (.inl e)
      · simp only [List.mem_singleton] at hq
        subst hq
        exact .inr (.inr ⟨q, List.mem_of_getElem? hr, e⟩)
    · rcases hj with e | e | ⟨q, hq, e⟩
      · exact .inl (.inl e)
      · exact .inl (.inr (.inl e))
      · rcases List.mem_or_eq_of_mem_set hq with h1 | h1
        · exact .inl (.inr (.inr ⟨q, h1, e⟩))
        · subst h1
          rcases e with e | e
          · exact .inl (.inr (.inr ⟨r, List.mem_of_getElem? hr, .inl e⟩))
          · rcases hf' with e2 | e2
            · exact .inl (.inr (.inr ⟨r, List.mem_of_getElem? hr, .inr (e.trans e2)⟩))
            · exact .inr (by rw [e]; exact e2)
/-- what Free leaves -/
def FreePost (w : World) (base p g : Nat) (R : List Rp) (x : Int × Pl) (e : Ending) (w' : World) : Prop :=
  ∃ R', e = .returned (.int .i64 x.1) ∧ PoolAt w' base p g R' x.2 ∧ Keeps (PoolS p g R) w w' ∧ ∀ i, PoolS p g R' i → PoolS p g R i ∨ w.heap.size ≤ i
set_option maxRecDepth 100000 in
set_option maxHeartbeats 2000000 in
theorem poolFree_any (h : PoolAt w base p g R pl) (a : Nam) : Calls Tryz.prog 101 #[dP p, namV a] w (FreePost w base p g R (freeP pl a)) := by
  obtain ⟨E, hE⟩ : ∃ x, x = freeP pl a := ⟨_, rfl⟩
  rw [← hE]
  have H := Lib.hid h
  have HFP := Lib.hid hE
  cases hx : ixAt pl a.s a.i with
  | none =>
    rw [freeP_none hx] at hE
    have C := Lib.hid (fun W (k : Keeps No w W) => poolAt_no (h.no k) hx)
    have HE := Lib.hid hE
    clear h hx hE
    go_enter Tryz.func101, Tryz.ntmps101
    go_wp2_with fail
    (with_reducible refine (C.out _ ((Keeps.refl w).alloc _)).mono ?_)
    rintro e w1 ⟨rfl, hk⟩
    have K := Lib.hid (((Keeps.refl w).alloc _).trans hk (fun _ _ h => h))
    clear hk C
    go_wp2
    go_ret
    exact ⟨R, by rw [HE.out]; rfl, by rw [HE.out]; exact H.out.no K.out, K.out.mono (fun _ _ h => h.elim), fun i hi => .inl hi⟩
  | some x =>
    obtain ⟨k, i, s, hks, hii, hm, hn⟩ := ixAt_split hx
    obtain ⟨r, hr, hsh, _⟩ := h.place hm
    have C := Lib.hid (fun W (q : Keeps No w W) => poolAt_yes (h.no q) hr hm hn)
    rw [← hks, ← hii] at C
    have CA := Lib.hid (fun W (q : Keeps No w W) => poolAlive_any (h.no q) a)
    have hal : aliveP pl a = aliveI x a.g := by unfold aliveP; rw [hx]
    rw [hal] at CA
    rw [freeP_some hks hii hm hn] at hE
    unfold freeS at hE
    have HE := Lib.hid hE
    have ok := (h.ok.sh hm).at hn
    have g0 := ok.g0
    have g1 := ok.g1
    have CB : Hid (cellsAt (w.alloc (.cells (namC a).toArray 36)) w.heap.size 0 3 = some (namC a)) := Lib.hid (by simp [go_sem])
    have HR := Lib.hid (And.intro hr (And.intro hm hn))
    have HKI := Lib.hid (And.intro hks hii)
    have HPS := Lib.hid (plPut_id hm)
    have HAL := Lib.hid ok.al
    clear h hr hx hm hn hE hks hii ok hsh hal
    go_enter Tryz.func101, Tryz.ntmps101
    go_wp2_with fail
    (with_reducible refine (C.out _ ((Keeps.refl w).alloc _)).mono ?_)
    rintro e W ⟨rfl, hk⟩
    have K := Lib.hid (((Keeps.refl w).alloc _).trans hk (fun _ _ h => h))
    have cW := hk.cellsAt CB.out
    have m2 := cellsAt_cell cW 2 _ rfl
    simp only [Nat.zero_add] at m2
    clear hk C CB
    by_cases t1 : a.g < 0
    · have HE2 : Hid (E = (1, pl)) := Lib.hid (by rw [HE.out, decide_eq_true t1]; simp only [cond_true]; rw [HPS.out])
      go_wp2
      go_ret
      exact ⟨R, by rw [HE2.out]; rfl, by rw [HE2.out]; exact H.out.no K.out, K.out.mono (fun _ _ h => h.elim), fun i hi => .inl hi⟩
    rw [decide_eq_false t1, cond_false] at HE
    have CA1 := Lib.hid (CA.out W K.out)
    obtain ⟨T, hT⟩ : ∃ T, T = aliveI x a.g := ⟨_, rfl⟩
    rw [← hT] at CA1 HE
    have HT := Lib.hid hT
    clear hT CA
    go_wp2_with fail
    (with_reducible refine CA1.out.mono ?_)
    rintro e W1 ⟨rfl, hk1⟩
    have K1 := Lib.hid (K.out.trans hk1 (fun _ _ h => h))
    cases T
    case false =>
      have HE2 : Hid (E = (9, pl)) := Lib.hid (by rw [HE.out]; simp only [Bool.not_false, cond_true]; rw [HPS.out])
      clear hk1
      go_wp2
      go_ret
      exact ⟨R, by rw [HE2.out]; rfl, by rw [HE2.out]; exact H.out.no K1.out, K1.out.mono (fun _ _ h => h.elim), fun i hi => .inl hi⟩
    simp only [Bool.not_true, cond_false] at HE
    have hxa : x.a = true ∧ x.g = a.g := by
      have := HT.out
      unfold aliveI at this
      simpa using this.symm
    have g2 : x.g < 1048576 := HAL.out hxa.1
    have HXA := Lib.hid hxa
    have P1 := Lib.hid (H.out.no K1.out)
    have hs1 := P1.out.sh k r s HR.out.1 HR.out.2.1
    obtain ⟨c0, _, c2, _⟩ := hs1.ixCells HR.out.2.2
    obtain ⟨_, d1⟩ := P1.out.shCells HR.out.1 HR.out.2.1
    have m1 : W1.cell? ⟨w.heap.size, 1, none⟩ = some (.int .i64 a.i) := hk1.cell (by have := cellsAt_cell cW 1 _ rfl; simpa using this) (fun h => h)
    have fa0 : W1.frozen? ⟨r.a, i * 3, none⟩ = false := frozen_of_row _ _ _ _ _ hs1.all
    have fa2 : W1.frozen? ⟨r.a, i * 3 + 2, none⟩ = false := frozen_of_row _ _ _ _ _ hs1.all
    have fg : W1.frozen? ⟨g, k * 2 + 1, none⟩ = false := frozen_of_row _ _ _ _ _ P1.out.row
    have nga : ¬ g = r.a := (H.out.four HR.out.1).2.2.2.1
    have nwa : ¬ w.heap.size = r.a := fun e => by have := H.out.lt (i := r.a) (.inr (.inr ⟨r, List.mem_of_getElem? HR.out.1, .inl rfl⟩)); omega
    clear hk1 hs1 cW hxa m2 CA1 HT HAL
    obtain ⟨i0, hi, hz0, hz1, hz2⟩ := info_parts Tryz.infoInt
    -- the two stores
    obtain ⟨y, hy⟩ : ∃ y : Ix, y = ⟨x.g + 1, x.b, false⟩ := ⟨_, rfl⟩
    have PT : Hid (PoolAt ((W1.setCell ⟨r.a, i * 3, none⟩ (.int .i64 (x.g + 1))).setCell ⟨r.a, i * 3 + 2, none⟩ (.bool false)) base p g R (plPut pl k (s.put i y)) ∧ Keeps (PoolS p g R) W1 ((W1.setCell ⟨r.a, i * 3, none⟩ (.int .i64 (x.g + 1))).setCell ⟨r.a, i * 3 + 2, none⟩ (.bool false))) := Lib.hid (by
      obtain ⟨hr, hm, hn⟩ := HR.out
      have xok := (P1.out.ok.sh hm).at hn
      refine P1.out.turned hr hm y ((P1.out.ok.sh hm).turn hn HXA.out.1 (by rw [hy]; exact ⟨by simp only; omega, by simp only; omega, xok.b0, xok.b1, fun h => by cases h⟩)) ((keepsCell _ _ _ _).trans (keepsCell _ _ _ _) (fun _ _ h => h)) ?_
      have z1 := heap_row_cell cIx (P1.out.sh k r s hr hm).all i 0 x ⟨x.g + 1, x.b, x.a⟩ (.int .i64 (x.g + 1)) hn (by decide) rfl
      rw [Nat.add_zero] at z1
      have z2 := heap_row_cell cIx z1 i 2 ⟨x.g + 1, x.b, x.a⟩ y (.bool false) (by rw [List.getElem?_set_self (List.getElem?_eq_some_iff.1 hn).1]) (by decide) (by rw [hy]; rfl)
      rw [List.set_set] at z2
      exact z2)
    obtain ⟨X2, hX2⟩ : ∃ X, X = (W1.setCell ⟨r.a, i * 3, none⟩ (.int .i64 (x.g + 1))).setCell ⟨r.a, i * 3 + 2, none⟩ (.bool false) := ⟨_, rfl⟩
    rw [← hX2] at PT
    have HX2 := Lib.hid hX2
    have HY := Lib.hid hy
    clear hy
    by_cases t2 : x.g + 1 < 1048576
    · rw [decide_eq_true t2, cond_true] at HE
      clear hX2
      go_upto_region 9 with fail
      refine wp_world ?_
      intro W9 hW9
      rw [← HX2.out] at hW9
      subst hW9
      obtain ⟨s1, hs1⟩ : ∃ s1, s1 = s.put i y := ⟨_, rfl⟩
      have P9 : Hid (PoolAt W9 base p g R (plPut pl k s1)) := Lib.hid (by rw [hs1]; exact PT.out.1)
      have hm1 : (plPut pl k s1)[k]? = some s1 := List.getElem?_set_self (List.getElem?_eq_some_iff.1 HR.out.2.1).1
      have hn1 : s1.free.length = s.free.length := by rw [hs1]; rfl
      have hsh9 := P9.out.sh k r s1 HR.out.1 hm1
      have K9 : Hid (Keeps (PoolS p g R) w W9) := Lib.hid ((K1.out.mono (fun _ _ h => h.elim)).trans PT.out.2 (fun _ _ h => h))
      replace m1 : W9.cell? ⟨w.heap.size, 1, none⟩ = some (.int .i64 a.i) := PT.out.2.cell m1 (fun e => by
        have e : PoolS p g R w.heap.size := e
        have := H.out.lt e
        omega)
      replace d1 : W9.cell? ⟨g, k * 2 + 1, none⟩ = some (r.fv s1) := (P9.out.shCells HR.out.1 hm1).2
      replace fg : W9.frozen? ⟨g, k * 2 + 1, none⟩ = false := frozen_of_row _ _ _ _ _ P9.out.row
      have hf16 := (P9.out.ok.sh hm1).few
      have HF := Lib.hid hf16
      have Hown : Hid (OwnInts ((W9.alloc (.cells #[.int .i64 a.i] 3)).drew) base (r.fv s1) s1.free) := Lib.hid ((((Keeps.refl (S := No) W9).alloc _).drew).owns hsh9.free (fun _ _ h => h))
      have Hrd : Hid (Reads ((W9.alloc (.cells #[.int .i64 a.i] 3)).drew) 1 (.slice (some ⟨W9.heap.size, 0, none⟩) 1 1) 1 [.int .i64 a.i]) := Lib.hid (Reads.kept (S := No) ((Keeps.refl _).drew) (Reads.ofOwn (World.ownsRow_lit W9 #[.int .i64 a.i] 1 (Nat.zero_le _) (by unfold maxLen; omega) rfl) (by simp [Value.oneCell'])) (fun _ _ h => h))
      have HB : Hid (base ≤ W9.heap.size) := Lib.hid (by have := P9.out.bp; have := P9.out.lt (.inl rfl); omega)
      have HM := Lib.hid hm1
      have lg : g < W9.heap.size := P9.out.lt (i := g) (.inr (.inl rfl))
      have lb : w.heap.size < W9.heap.size := block_lt_of_cell m1
      have HS1 := Lib.hid hs1
      have ngf : Hid (¬ g = r.f) := Lib.hid (H.out.four HR.out.1).2.2.2.2.1
      clear hs1 hsh9 hf16 hm1 hn1 c0 c2 fa0 fa2 nga nwa
      go_region_law (refine step_append_reads rfl (.tmp 48) (.tmp 51) 109 rfl base 3 i0 _ 1 8 Tryz.underlying109 hi hz0 hz1 hz2 rfl (by decide) (r.fv s1) s1.free.length (intsV s1.free) rfl Hown.out _ 1 [.int .i64 a.i] rfl Hrd.out (by have := HF.out; unfold maxLen; omega) (by have := HF.out; omega) (by have := HB.out; simp; omega) ?_
                     intro v' w8 ho8 hk8 hb8 _
                     have K8 : Hid (Keeps (Of (r.fv s1)) W9 w8) := Lib.hid (((((Keeps.refl (S := No) W9).alloc _).drew).mono (fun _ _ h => h.elim)).trans hk8 (fun _ _ h => h))
                     have O8 := Lib.hid ho8
                     have B8 := Lib.hid hb8
                     have G8 := Lib.hid (K8.out.heap P9.out.row (fun e => ngf.out (by have e : (r.fv s1).ownBlock = some g := e; simp only [Value.ownBlock, Option.some.injEq] at e; exact e.symm)))
                     obtain ⟨wa, wc, rfl⟩ := ownsRow_slice ho8
                     have q0 : w8.cell? ⟨g, k * 2 + 1, none⟩ = some (r.fv s1) := rowCell cSh G8.out k (r, s1) (by rw [List.getElem?_zip_eq_some]; exact ⟨HR.out.1, HM.out⟩) 1 _ rfl
                     have q1 : w8.frozen? ⟨g, k * 2 + 1, none⟩ = false := frozen_of_row _ _ _ _ _ G8.out
                     clear ho8 hk8 hb8)
      all_goals
        go_wp2
        go_ret
        have hii : a.i.toNat = i := by have := HKI.out.2; omega
        have e1 : E = (0, plPut (plPut pl k s1) k ⟨s1.all, s1.free ++ [i]⟩) := by
          rw [HE.out, HS1.out, HY.out, hii]
          unfold plPut
          rw [List.set_set]
          rfl
        have hok : Sh.ok ⟨s1.all, s1.free ++ [i]⟩ := by
          have h9 := P1.out.ok.free a
          rw [← HFP.out, e1] at h9
          exact h9.sh (n := k) (List.getElem?_set_self (by rw [plPut, List.length_set]; exact (List.getElem?_eq_some_iff.1 HR.out.2.1).1))
        have o8 := O8.out
        rw [HKI.out.2] at o8
        obtain ⟨r', p1, p2, p3⟩ := P9.out.pushed HR.out.1 HM.out K8.out o8 (fun q hq => (B8.out q hq).imp_right (fun e => Nat.le_trans (by simp) e)) hok
        refine ⟨R.set k r', by rw [e1]; rfl, by rw [e1]; exact p1, K9.out.trans p2 (fun _ _ h => h), fun j hj => ?_⟩
        rcases p3 j hj with e | e
        · exact .inl e
        · exact .inr (Nat.le_trans K9.out.size e)
    · rw [decide_eq_false t2, cond_false] at HE
      clear hX2
      go_wp2
      go_ret
      rw [← HX2.out]
      have e : E = (0, plPut pl k (s.put i y)) := by
        rw [HE.out, HY.out]
        have hii : a.i.toNat = i := by have := HKI.out.2; omega
        rw [hii]
        rfl
      exact ⟨R, by rw [e]; rfl, by rw [e]; exact PT.out.1, (K1.out.mono (fun _ _ h => h.elim)).trans PT.out.2 (fun _ _ h => h), fun i hi => .inl hi⟩
end
end Go.Proofs.YtndjnkjcfdaegaaGreatDoor

/-
  The pool's Lapse. No conditions of its own.
-/
namespace Go.Proofs.YtndjnkjcfdaegaaGreatDoor
open Go.RowKit Go.Shelf Go.Sort Go.Joins Go.Deep

theorem lapseClos_eg : ∀ args w, (callFunc 149 args).run Tryz.prog w = .ok (.enter 149 args) w := enters_of Tryz.func149 (by kernel_rfl) rfl
theorem lapseClos_any (W : World) (B g k a : Nat) (A : List Ix) (hc : W.cell? ⟨B, 0, none⟩ = some (shP g k)) (hg : W.cell? ⟨g, k * 2, none⟩ = some (.slice (some ⟨a, 0, none⟩) A.length A.length))
    (ha : W.heap[a]? = some (.cells (rowsOf cIx A).toArray ixT (0, 0))) (h16 : A.length ≤ 16) (i : Nat) (hi : i < A.length) : FnGives Tryz.prog 149 #[.pointer (some ⟨B, 0, none⟩)] #[.int .i64 i] (.bool (full A i)) W := by
  have e : full A i = decide (A[i].g = 1048576) := by unfold full; rw [List.getElem?_eq_getElem hi]
  rw [e]
  have c0 := rowCell cIx ha i A[i] (List.getElem?_eq_getElem hi) 0 _ rfl
  simp only [Nat.add_zero] at c0
  obtain ⟨x, hx⟩ : ∃ x, x = A[i] := ⟨_, rfl⟩
  rw [← hx] at c0 ⊢
  have hi0 : (0 : Int) ≤ (i : Int) := by omega
  have hi1 : (i : Int) < (A.length : Int) := by omega
  have hi2 : (A.length : Int) ≤ 16 := by omega
  have c1 : W.cell? ⟨a, i * 3, none⟩ = some (.int .i64 x.g) := c0
  clear hx e ha h16 hi c0
  show Calls Tryz.prog 149 #[.int .i64 i, .pointer (some ⟨B, 0, none⟩)] W _
  go_enter Tryz.func149, Tryz.ntmps149
  go_wp2
  go_ret
  exact ⟨rfl, 0, rfl⟩
/-- the first k shards have lapsed -/
def lapsed (p : Pl) (k : Nat) : Pl := (p.take k).map lapseS ++ p.drop k
theorem lapsed_zero (p : Pl) : lapsed p 0 = p := by simp [lapsed]
theorem lapsed_all (p : Pl) {k : Nat} (h : p.length ≤ k) : lapsed p k = lapseP p := by
  unfold lapsed lapseP
  rw [List.take_of_length_le h, List.drop_eq_nil_of_le h, List.append_nil]
theorem lapsed_length (p : Pl) (k : Nat) (h : k ≤ p.length) : (lapsed p k).length = p.length := by simp [lapsed]; omega
theorem lapsed_at (p : Pl) {k : Nat} {s : Sh} (h : p[k]? = some s) : (lapsed p k)[k]? = some s := by
  have hk := (List.getElem?_eq_some_iff.1 h).1
  unfold lapsed
  rw [List.getElem?_append_right (by simp; omega)]
  simp only [List.length_map, List.length_take, Nat.min_eq_left (Nat.le_of_lt hk), Nat.sub_self, List.getElem?_drop, Nat.add_zero]
  exact h
theorem lapsed_put (p : Pl) {k : Nat} {s : Sh} (h : p[k]? = some s) : plPut (lapsed p k) k (lapseS s) = lapsed p (k + 1) := by
  obtain ⟨hk, rfl⟩ := List.getElem?_eq_some_iff.1 h
  unfold plPut lapsed
  rw [List.set_append_right _ _ (by simp; omega), List.take_succ_eq_append_getElem hk, List.map_append, List.append_assoc]
  congr 1
  simp only [List.length_map, List.length_take, Nat.min_eq_left (Nat.le_of_lt hk), Nat.sub_self]
  rw [List.drop_eq_getElem_cons hk]
  rfl
theorem lapseAll_step (A : List Ix) (l : List Nat) (j i : Nat) (hj : l[j]? = some i) : lapseAll A (l.take (j + 1)) = (lapseAll A (l.take j)).modify i ixUp := by
  unfold lapseAll
  rw [List.take_add_one, hj, List.foldl_append]
  rfl
theorem modify_set {α : Type} {l : List α} {i : Nat} {x : α} (h : l[i]? = some x) (f : α → α) : l.modify i f = l.set i (f x) := by
  apply List.ext_getElem?
  intro j
  rw [List.getElem?_modify]
  by_cases hij : i = j
  · subst hij
    rw [List.getElem?_set_self (List.getElem?_eq_some_iff.1 h).1, h]
    simp
  · rw [List.getElem?_set_ne hij]
    cases l[j]? <;> simp [hij]
section
variable {w : World} {base p g : Nat} {R : List Rp} {pl : Pl}
/-- one shard, lapsing -/
structure LapAt (X0 : World) (r : Rp) (s : Sh) (j : Nat) (wr : World) : Prop where
  kp : Keeps (Own r.a) X0 wr
  all : wr.heap[r.a]? = some (.cells (rowsOf cIx (lapseAll s.all (s.free.take j))).toArray ixT (0, 0))
/-- one shard has lapsed -/
theorem LapAt.done {X0 wr w9 : World} {P : Pl} {k : Nat} {r : Rp} {s : Sh} {F' : List Nat} (hP : PoolAt X0 base p g R P) (hr : R[k]? = some r) (hs : P[k]? = some s) (hL : LapAt X0 r s s.free.length wr) (hk : Keeps (Own r.f) wr.drew w9)
    (ho : OwnInts w9 base (.slice (some ⟨r.f, 0, none⟩) F'.length r.c) F') (hF : F' = s.free.filter (fun j => !full (lapseAll s.all s.free) j)) :
    PoolAt (w9.setCell ⟨g, k * 2 + 1, none⟩ (.slice (some ⟨r.f, 0, none⟩) F'.length r.c)) base p g R (plPut P k (lapseS s)) ∧ Keeps (PoolS p g R) X0 (w9.setCell ⟨g, k * 2 + 1, none⟩ (.slice (some ⟨r.f, 0, none⟩) F'.length r.c)) := by
  obtain ⟨f1, f2, f3, f4, f5, f6⟩ := hP.four hr
  have hz : (R.zip P)[k]? = some (r, s) := by rw [List.getElem?_zip_eq_some]; exact ⟨hr, hs⟩
  have hsh := hP.sh k r s hr hs
  have hall := hL.all
  rw [List.take_length] at hall
  have e : lapseS s = ⟨lapseAll s.all s.free, F'⟩ := by rw [hF]; rfl
  have G0 : wr.drew.heap[g]? = some (.cells (rowsOf cSh (R.zip P)).toArray shT (0, 0)) := hL.kp.heap hP.row (fun e => f4 e)
  have G9 := hk.heap G0 f5
  have A9 := hk.heap (a := wr.drew) hall f6
  have q1 := heap_row_cell cSh G9 k 1 (r, s) (r, lapseS s) (.slice (some ⟨r.f, 0, none⟩) F'.length r.c) hz (by decide) (by rw [e]; simp [cSh, lapseAll_length])
  obtain ⟨X, hX⟩ : ∃ X, X = w9.setCell ⟨g, k * 2 + 1, none⟩ (.slice (some ⟨r.f, 0, none⟩) F'.length r.c) := ⟨_, rfl⟩
  have q1 : X.heap[g]? = some (.cells (rowsOf cSh ((R.zip P).set k (r, lapseS s))).toArray shT (0, 0)) := by rw [hX]; exact q1
  have y1 : Keeps (Own g) w9 X := by rw [hX]; exact keepsCell _ _ _ _
  rw [← hX]
  have hkF : Keeps (PoolS p g [r]) X0 X := (((hL.kp.drew).mono (T := PoolS p g [r]) (fun j _ e => .inr (.inr ⟨r, by simp, .inl e⟩))).trans hk (fun j _ e => .inr (.inr ⟨r, by simp, .inr e⟩))).trans y1 (fun j _ e => .inr (.inl e))
  have hbx : X.heap[p]? = X0.heap[p]? := by
    have hpl : p < X0.heap.size := hP.lt (.inl rfl)
    have s1 := hL.kp.drew.size
    have s2 := hk.size
    rw [y1.block p (by omega) f1, hk.block p (by omega) f3, hL.kp.drew.block p hpl f2]
  have hp := hP.put (r' := r) (t := lapseS s) hr hs hkF hbx q1
    ⟨by rw [e]; exact y1.heap A9 (fun e => f4 e.symm), by rw [e]; exact y1.owns ho (fun j hj e => f5 (by simp only [Value.ownBlock, Option.some.injEq] at hj; have e : j = g := e; exact e.symm.trans hj.symm)), hsh.ba⟩ rfl (.inl rfl) (hP.ok.sh hs).lapse
  rw [set_same hr] at hp
  refine ⟨hp, hkF.mono (fun j _ e => ?_)⟩
  rcases e with e | e | ⟨q, hq, e⟩
  · exact .inl e
  · exact .inr (.inl e)
  · simp only [List.mem_singleton] at hq
    subst hq
    exact .inr (.inr ⟨q, List.mem_of_getElem? hr, e⟩)
set_option maxRecDepth 100000 in
set_option maxHeartbeats 4000000 in
theorem poolLapse_any (h : PoolAt w base p g R pl) : Calls Tryz.prog 98 #[dP p] w fun e w' => (∃ n : Int, e = .returned (.int .i64 n)) ∧ PoolAt w' base p g R (lapseP pl) ∧ Keeps (PoolS p g R) w w' := by
  have c0 := h.boxCell
  have H := Lib.hid h
  have h16 := h.ok.1
  have hk2 : (pl.length : Int) ≤ 16 := by omega
  clear h h16
  go_enter Tryz.func98, Tryz.ntmps98
  go_wp2
  go_loopw [17, 3] (fun q n wr => ∃ (k : Nat) (m : Int), k ≤ pl.length ∧ q = .int .i64 k ∧ n = .int .i64 m ∧ 0 ≤ m ∧ m ≤ 16 * (k : Int) ∧ PoolAt wr base p g R (lapsed pl k) ∧ Keeps (PoolS p g R) w wr) (fun q _ _ => pl.length - (intOf q).toNat)
  case atStart => exact ⟨0, 0, Nat.zero_le _, rfl, rfl, by omega, by omega, by rw [lapsed_zero]; exact H.out, Keeps.refl _⟩
  case round =>
    obtain ⟨k, m, hk, rfl, rfl, m0, m1, hP, hK⟩ := hrel
    by_cases hlt : k < pl.length
    · have hki : (k : Int) < (pl.length : Int) := by omega
      have hk0 : (0 : Int) ≤ (k : Int) := by omega
      have hs : pl[k]? = some pl[k] := List.getElem?_eq_getElem hlt
      obtain ⟨s, hs0⟩ : ∃ s, s = pl[k] := ⟨_, rfl⟩
      rw [← hs0] at hs
      have hsl := lapsed_at pl hs
      obtain ⟨r, hr, hsh, _⟩ := hP.place hsl
      obtain ⟨d0, d1⟩ := hP.shCells hr hsl
      have e0 := hP.boxCell
      rw [lapsed_length pl k hk] at e0
      have ok := H.out.ok.sh hs
      have HP := Lib.hid hP
      have HK := Lib.hid hK
      have HR := Lib.hid (And.intro hr (And.intro hsl hs))
      have HS := Lib.hid hsh
      have HO := Lib.hid ok
      have hn16 : (s.free.length : Int) ≤ 16 := by have := ok.few; omega
      have ha16 : (s.all.length : Int) ≤ 16 := by have := ok.n1; omega
      have la : r.a < wr.heap.size := hP.lt (.inr (.inr ⟨r, List.mem_of_getElem? hr, .inl rfl⟩))
      have lf : r.f < wr.heap.size := hP.lt (.inr (.inr ⟨r, List.mem_of_getElem? hr, .inr rfl⟩))
      have lg : g < wr.heap.size := hP.lt (.inr (.inl rfl))
      clear hP hK hr hsl hs hs0 hsh ok c0
      go_wp2
      refine wp_world ?_
      intro X0 hX0
      have KX : Hid (Keeps No wr X0) := Lib.hid (by rw [hX0]; exact (Keeps.refl wr).alloc _)
      obtain ⟨B, hB⟩ : ∃ B, B = wr.heap.size := ⟨_, rfl⟩
      have cb : X0.cell? ⟨B, 0, none⟩ = some (shP g k) := by rw [hX0, hB]; simp [go_sem]
      rw [← hB] at la lf lg ⊢
      have HBX := Lib.hid hB
      replace d0 := KX.out.cell d0 (fun h => h)
      replace d1 := KX.out.cell d1 (fun h => h)
      have A0 := Lib.hid (KX.out.heap HS.out.all (fun h => h))
      have PX := Lib.hid (HP.out.no KX.out)
      clear hX0 hB e0
      obtain ⟨wk, hwk⟩ : ∃ x, x = wr := ⟨_, rfl⟩
      rw [← hwk] at HP HK HS KX HBX
      clear hwk
      go_loopw [31, 3] (fun q n wj => ∃ (j : Nat) (v : Int), j ≤ s.free.length ∧ q = .int .i64 j ∧ n = .int .i64 v ∧ m ≤ v ∧ v ≤ m + (j : Int) ∧ LapAt X0 r s j wj) (fun q _ _ => s.free.length - (intOf q).toNat)
      case atStart => exact ⟨0, m, Nat.zero_le _, rfl, rfl, by omega, by omega, Keeps.refl _, by simpa [lapseAll] using A0.out⟩
      case round =>
        obtain ⟨j, v, hj, rfl, rfl, v0, v1, hL⟩ := hrel
        have HL := Lib.hid hL
        have nBa : ¬ Own r.a B := fun e => by have e : B = r.a := e; omega
        have nga : ¬ Own r.a g := fun e => by have e : g = r.a := e; exact (HP.out.four HR.out.1).2.2.2.1 e
        have nfa : ¬ Own r.a r.f := fun e => by have e : r.f = r.a := e; exact (HP.out.four HR.out.1).2.2.2.2.2 e.symm
        have b0 := hL.kp.cell cb nBa
        have q0 := hL.kp.cell d0 nga
        have q1 := hL.kp.cell d1 nga
        have hj0 : (0 : Int) ≤ (j : Int) := by omega
        by_cases hjl : j < s.free.length
        · have hji : (j : Int) < (s.free.length : Int) := by omega
          have hi0 : s.free[j]? = some s.free[j] := List.getElem?_eq_getElem hjl
          obtain ⟨i, hi⟩ : ∃ i, i = s.free[j] := ⟨_, rfl⟩
          rw [← hi] at hi0
          obtain ⟨x, hx, _, _⟩ := HO.out.fr i (List.mem_of_getElem? hi0)
          have hnot : i ∉ s.free.take j := fun hmem => by
            obtain ⟨j', hj', e⟩ := List.getElem_of_mem hmem
            rw [List.getElem_take] at e
            have hlt' : j' < j := by rw [List.length_take] at hj'; omega
            exact (List.pairwise_iff_getElem.1 HO.out.nd) j' j (by omega) hjl hlt' (by rw [e, hi])
          have hxa : (lapseAll s.all (s.free.take j))[i]? = some x := by
            rw [lapseAll_at _ _ _ (HO.out.nd.sublist (List.take_sublist _ _)), hx, decide_eq_false hnot]
            rfl
          have fx := hL.kp.cell (KX.out.cell (HS.out.freeCell hi0) (fun h => h)) nfa
          have x0 := rowCell cIx hL.all i x hxa 0 _ rfl
          have x1 := rowCell cIx hL.all i x hxa 1 _ rfl
          simp only [Nat.add_zero] at x0
          have fz : wr.frozen? ⟨r.a, i * 3, none⟩ = false := frozen_of_row _ _ _ _ _ hL.all
          have hil := (List.getElem?_eq_some_iff.1 hx).1
          have hi1 : (0 : Int) ≤ (i : Int) := by omega
          have hi2 : (i : Int) < (s.all.length : Int) := by omega
          replace x0 : wr.cell? ⟨r.a, i * 3, none⟩ = some (.int .i64 x.g) := x0
          replace x1 : wr.cell? ⟨r.a, i * 3 + 1, none⟩ = some (.int .i64 x.b) := x1
          have HX := Lib.hid (And.intro hxa hi0)
          have v2 : 0 ≤ v := by omega
          have v3 : v ≤ 1000 := by omega
          clear hL nBa nga nfa hxa hnot hx hi hi0 hil
          by_cases hgb : x.g < x.b
          · go_wp2_with fail
            go_region
            all_goals go_wp2
            all_goals go_roundw
            case rel =>
              refine ⟨j + 1, v + 1, by omega, by go_num, rfl, by omega, by omega, (HL.out.kp.drew).trans (keepsCell _ _ _ _) (fun _ _ h => h), ?_⟩
              rw [lapseAll_step _ _ _ _ HX.out.2, modify_set HX.out.1]
              have e : ixUp x = ⟨x.b, x.b, x.a⟩ := by unfold ixUp; rw [decide_eq_true hgb]; rfl
              rw [e]
              have := heap_row_cell (w := wr.drew) cIx HL.out.all i 0 x ⟨x.b, x.b, x.a⟩ (.int .i64 x.b) HX.out.1 (by decide) rfl
              rw [Nat.add_zero] at this
              exact this
            case measure => simp [intOf]; omega
          · go_wp2_with fail
            go_region
            all_goals go_wp2
            all_goals go_roundw
            case rel =>
              refine ⟨j + 1, v, by omega, by go_num, rfl, by omega, by omega, HL.out.kp.drew, ?_⟩
              rw [lapseAll_step _ _ _ _ HX.out.2, modify_set HX.out.1]
              have e : ixUp x = x := by unfold ixUp; rw [decide_eq_false (by omega)]; rfl
              rw [e, set_same HX.out.1]
              exact HL.out.all
            case measure => simp [intOf]; omega
        · have hjn : j = s.free.length := by omega
          have hall := hL.all
          rw [hjn, List.take_length] at hall
          obtain ⟨A', hA'⟩ : ∃ A', A' = lapseAll s.all s.free := ⟨_, rfl⟩
          have hAl : A'.length = s.all.length := by rw [hA', lapseAll_length]
          rw [← hA'] at hall
          have nBf : ¬ B = r.f := by omega
          have ngf : ¬ g = r.f := (HP.out.four HR.out.1).2.2.2.2.1
          have naf : ¬ r.a = r.f := (HP.out.four HR.out.1).2.2.2.2.2
          have hlB : B < wr.heap.size := block_lt_of_cell b0
          have hlg : g < wr.heap.size := block_lt_of_cell q0
          have hla : r.a < wr.heap.size := (Array.getElem?_eq_some_iff.1 hall).1
          have hof : OwnInts wr.drew base (r.fv s) s.free := (hL.kp.drew).owns (KX.out.owns HS.out.free (fun _ _ h => h)) (fun i hi e => by
            simp only [Value.ownBlock, Option.some.injEq] at hi
            have e : i = r.a := e
            omega)
          have CD := Lib.hid (delInts hof (by omega) (B := A'.length) (by have := HO.out.n0; omega) (fun j hj => by obtain ⟨y, hy, _⟩ := HO.out.fr j hj; have := (List.getElem?_eq_some_iff.1 hy).1; omega) (fun j => full A' j) 149 #[.pointer (some ⟨B, 0, none⟩)] lapseClos_eg
            (fun W' j hj hk => lapseClos_any W' B g k r.a A' ((World.cell?_of_block (w := wr.drew) (hk B hlB nBf)).trans b0) (((World.cell?_of_block (w := wr.drew) (hk g hlg ngf)).trans q0).trans (by rw [hAl])) ((hk r.a hla naf).trans hall) (by omega) j hj))
          obtain ⟨F', hF'⟩ : ∃ F', F' = s.free.filter (fun j => !full A' j) := ⟨_, rfl⟩
          rw [← hF'] at CD
          have HFA := Lib.hid (And.intro hF' hA')
          have HALL := Lib.hid hall
          have v2 : 0 ≤ v := by omega
          have v3 : v ≤ 16 * ((k : Int) + 1) := by omega
          have q4 : wr.frozen? ⟨g, k * 2 + 1, none⟩ = false := frozen_of_row _ _ _ _ _ (hL.kp.heap PX.out.row nga)
          have HG := Lib.hid (hL.kp.heap PX.out.row nga)
          clear hL hall hA' hF' hof nBa nga nfa hAl hla hlg hlB naf
          go_wp2_with fail
          go_region_with (first
            | (go_at_call 148
               have hc := CD.out
               with_reducible refine hc.mono ?_
               clear hc
               rintro e w9 ⟨rfl, ho9, hk9⟩
               have K9 := Lib.hid hk9
               have O9 := Lib.hid ho9
               have b9 : w9.cell? ⟨B, 0, none⟩ = some (shP g k) := hk9.cell (a := wr.drew) b0 nBf
               have q9 : w9.cell? ⟨g, k * 2 + 1, none⟩ = some (r.fv s) := hk9.cell (a := wr.drew) q1 ngf
               have f9 : w9.frozen? ⟨g, k * 2 + 1, none⟩ = false := frozen_of_row _ _ _ _ _ (hk9.heap (a := wr.drew) HG.out ngf)
               clear hk9 ho9))
          all_goals go_wp2
          all_goals
            have hL2 := HL.out
            rw [hjn] at hL2
            have hF9 := HFA.out.1
            rw [HFA.out.2] at hF9
            obtain ⟨z1, z2⟩ := LapAt.done PX.out HR.out.1 HR.out.2.1 hL2 K9.out O9.out hF9
            rw [lapsed_put pl HR.out.2.2] at z1
            refine ⟨⟨k + 1, v, by omega, by go_num, rfl, v2, by omega, z1, ((HK.out.trans KX.out (fun _ _ h => h.elim)).trans z2 (fun _ _ h => h))⟩, ?_⟩
            simp [intOf]
            omega
    · have hkl : pl.length ≤ k := by omega
      have hki : ¬ ((k : Int) < (pl.length : Int)) := by omega
      have HF := Lib.hid hP
      have HK := Lib.hid hK
      clear hP hK c0
      go_wp2
      go_ret
      exact ⟨⟨m, rfl⟩, by rw [← lapsed_all pl hkl]; exact HF.out, HK.out⟩
end
end Go.Proofs.YtndjnkjcfdaegaaGreatDoor

/-
  The pool's New. No conditions of its own.
-/
namespace Go.Proofs.YtndjnkjcfdaegaaGreatDoor
open Go.RowKit Go.Shelf Go.Sort Go.Joins Go.Deep

/-- a slice's value -/
structure Sv where
  a : Option Addr
  n : Nat
  c : Nat
abbrev Sv.v (s : Sv) : Value := .slice s.a s.n s.c
def cS2 : Codec (Sv × Sv) := ⟨fun x => [x.1.v, x.2.v], 2, fun _ => rfl, fun a u h => by simp at h; rcases h with rfl | rfl <;> rfl, by decide⟩
def sv0 : Sv := ⟨none, 0, 0⟩
def rpV (m : Nat) (r : Rp) : Sv × Sv := (⟨some ⟨r.a, 0, none⟩, m, m⟩, ⟨some ⟨r.f, 0, none⟩, m, r.c⟩)
def shNew (m : Nat) : Sh := ⟨List.replicate m ⟨0, 0, false⟩, List.range m⟩
theorem made_rows {α : Type} (C : Codec α) (a : α) (z : Array Value) (hz : z.toList = C.cells a) (n : Nat) : madeCells z (n * C.size) = (rowsOf C (List.replicate n a)).toArray := by
  have hzs : z.size = C.size := by rw [← Array.length_toList, hz, C.len]
  have hp := C.pos
  apply Array.ext'
  apply List.ext_getElem?
  intro j
  unfold madeCells
  simp only [Array.toList_map, Array.toList_range, List.getElem?_map]
  by_cases hj : j < n * C.size
  · rw [List.getElem?_range hj, Option.map_some]
    have hq : j / C.size < n := (Nat.div_lt_iff_lt_mul hp).2 hj
    have hr : j % C.size < C.size := Nat.mod_lt _ hp
    have e : j = (j / C.size) * C.size + j % C.size := by rw [Nat.mul_comm]; exact (Nat.div_add_mod j C.size).symm
    have h1 := rowsOf_at C (List.replicate n a) (j / C.size) (by simpa using hq) (j % C.size) hr
    rw [← e] at h1
    rw [h1, List.getElem_replicate, ← hz, Array.getElem?_toList, hzs, getElem!_pos z _ (by omega), Array.getElem?_eq_getElem (by omega)]
  · rw [List.getElem?_eq_none (by simpa using hj), List.getElem?_eq_none (by simp only [rowsOf_length, List.length_replicate]; omega)]
    rfl
theorem Tryz.infoSh : (Tryz.prog.info? shT).map (fun i => (i.zero, i.size, i.bytes)) = some (some (.agg #[.slice none 0 0, .slice none 0 0]), 2, 48) := by kernel_rfl
theorem Tryz.infoIx : (Tryz.prog.info? ixT).map (fun i => (i.zero, i.size, i.bytes)) = some (some (.agg #[.int .i64 0, .int .i64 0, .bool false]), 3, 24) := by kernel_rfl
/-- what New makes -/
def PoolNew (w : World) (n m : Nat) (e : Ending) (w' : World) : Prop := ∃ p g R, e = .returned (.tuple #[dP p, .int .i64 0]) ∧ PoolAt w' w.heap.size p g R (plNew n m) ∧ Keeps No w w'
theorem ownInts_less {w : World} {b c : Nat} {v : Value} {l : List Nat} (h : OwnInts w b v l) (hc : c ≤ b) : OwnInts w c v l := by
  obtain ⟨h1, h2⟩ := h
  refine ⟨h1, ?_⟩
  rcases h2 with h2 | ⟨g, cap, cur, rfl, hg, r⟩
  · exact .inl h2
  · exact .inr ⟨g, cap, cur, rfl, by omega, r⟩
/-- the first shards are there -/
structure NewAt (w0 : World) (p g n m : Nat) (R : List Rp) (wr : World) : Prop where
  box : wr.heap[p]? = some (.cells #[.slice (some ⟨g, 0, none⟩) n n] poolT (0, 0))
  row : wr.heap[g]? = some (.cells (rowsOf cS2 (R.map (rpV m) ++ List.replicate (n - R.length) (sv0, sv0))).toArray shT (0, 0))
  sh : ∀ r ∈ R, ShAt wr w0.heap.size r (shNew m)
  apart : ∀ (j k : Nat) (r s : Rp), R[j]? = some r → R[k]? = some s → j ≠ k → r.a ≠ s.a ∧ r.f ≠ s.f
  kp : Keeps No w0 wr
  bp : w0.heap.size ≤ p
  bg : w0.heap.size ≤ g
theorem NewAt.done {w0 wr : World} {p g n m : Nat} {R : List Rp} (h : NewAt w0 p g n m R wr) (hR : R.length = n) (n2 : n ≤ 16) (m1 : 1 ≤ m) (m2 : m ≤ 16) : PoolAt wr w0.heap.size p g R (plNew n m) := by
  have hpl : (plNew n m).length = n := by simp [plNew]
  have hat : ∀ (k : Nat) (s : Sh), (plNew n m)[k]? = some s → s = shNew m := fun k s hs => by
    have := List.mem_of_getElem? hs
    rw [plNew, List.mem_replicate] at this
    exact this.2
  refine ⟨by rw [h.box, hpl], ?_, by rw [hR, hpl], fun k r s hr hs => ?_, h.apart, h.bp, h.bg, plOk_new n2 m1 m2⟩
  · have e : ∀ (L : List Rp) (k : Nat), L.length = k → rowsOf cS2 (L.map (rpV m)) = rowsOf cSh (L.zip (plNew k m)) := by
      intro L
      induction L with
      | nil => intro k _; rfl
      | cons r L ih =>
        intro k hk
        obtain ⟨k', rfl⟩ : ∃ k', k = k' + 1 := ⟨k - 1, by simp at hk; omega⟩
        have e1 : plNew (k' + 1) m = shNew m :: plNew k' m := by simp [plNew, shNew, List.replicate_succ]
        rw [e1, List.map_cons, List.zip_cons_cons, rowsOf_cons, rowsOf_cons, ih k' (by simpa using hk)]
        congr 1
        simp [cS2, cSh, rpV, shNew]
    rw [h.row, hR, Nat.sub_self, List.replicate_zero, List.append_nil, e R n hR]
  · rw [hat k s hs]
    exact h.sh r (List.mem_of_getElem? hr)
section
variable {w : World} {base p g : Nat} {R : List Rp} {pl : Pl}
set_option maxRecDepth 100000 in
set_option maxHeartbeats 4000000 in
theorem poolNew_any (w : World) (n m : Nat) (n1 : 1 ≤ n) (n2 : n ≤ 16) (m1 : 1 ≤ m) (m2 : m ≤ 16) : Calls Tryz.prog 34 #[.int .i64 n, .int .i64 m] w (PoolNew w n m) := by
  have n3 : (1 : Int) ≤ (n : Int) := by omega
  have n4 : (n : Int) ≤ 16 := by omega
  have m3 : (1 : Int) ≤ (m : Int) := by omega
  have m4 : (m : Int) ≤ 16 := by omega
  obtain ⟨i0, hi, hz0, hz1, hz2⟩ := info_parts Tryz.infoInt
  have hmk1 : ∀ W : World, (Instr.makeSlice 157 (.int .i64 (n : Int)) (.int .i64 (n : Int))).run Tryz.prog W = .ok (.slice (some ⟨W.heap.size, 0, none⟩) n n) (W.alloc (.cells (rowsOf cS2 (List.replicate n (sv0, sv0))).toArray shT)) := fun W => by
    obtain ⟨j0, hj, jz0, jz1, jz2⟩ := info_parts Tryz.infoSh
    have := run_make (P := Tryz.prog) W 157 shT j0 _ Tryz.underlying157 hj jz0 .i64 .i64 n n (by omega) (Int.le_refl _) (by rw [jz2]; omega) (by omega)
    have em : madeCells (Value.agg #[.slice none 0 0, .slice none 0 0]).cells (n * 2) = (rowsOf cS2 (List.replicate n (sv0, sv0))).toArray := made_rows cS2 (sv0, sv0) _ rfl n
    rw [Int.toNat_natCast, jz1, em] at this
    exact this
  have hmk2 : ∀ W : World, (Instr.makeSlice 160 (.int .i64 (m : Int)) (.int .i64 (m : Int))).run Tryz.prog W = .ok (.slice (some ⟨W.heap.size, 0, none⟩) m m) (W.alloc (.cells (rowsOf cIx (List.replicate m ⟨0, 0, false⟩)).toArray ixT)) := fun W => by
    obtain ⟨j0, hj, jz0, jz1, jz2⟩ := info_parts Tryz.infoIx
    have := run_make (P := Tryz.prog) W 160 ixT j0 _ Tryz.underlying160 hj jz0 .i64 .i64 m m (by omega) (Int.le_refl _) (by rw [jz2]; omega) (by omega)
    have em : madeCells (Value.agg #[.int .i64 0, .int .i64 0, .bool false]).cells (m * 3) = (rowsOf cIx (List.replicate m ⟨0, 0, false⟩)).toArray := made_rows cIx ⟨0, 0, false⟩ _ rfl m
    rw [Int.toNat_natCast, jz1, em] at this
    exact this
  obtain ⟨S0, hS0⟩ : ∃ S, S = (rowsOf cS2 (List.replicate n (sv0, sv0))).toArray := ⟨_, rfl⟩
  obtain ⟨I0, hI0⟩ : ∃ S, S = (rowsOf cIx (List.replicate m ⟨0, 0, false⟩)).toArray := ⟨_, rfl⟩
  rw [← hS0] at hmk1
  rw [← hI0] at hmk2
  have HS0 := Lib.hid hS0
  have HI0 := Lib.hid hI0
  clear hS0 hI0
  go_enter Tryz.func34, Tryz.ntmps34
  go_wp2
  refine wp_world ?_
  intro X0 hX0
  obtain ⟨g, hg⟩ : ∃ g, g = w.heap.size := ⟨_, rfl⟩
  obtain ⟨p, hp⟩ : ∃ p, p = w.heap.size + 1 := ⟨_, rfl⟩
  have HGP := Lib.hid (And.intro hg hp)
  have N0 : Hid (NewAt w p g n m [] X0) := Lib.hid (by
    rw [hX0]
    refine ⟨?_, ?_, fun r hr => absurd hr List.not_mem_nil, fun j k r s hr => by simp at hr, ((Keeps.refl w).alloc _).alloc _, by omega, by omega⟩
    · have e : p = (w.alloc (.cells S0 shT)).heap.size := by rw [hp]; simp
      rw [e, heap_alloc_new, hg]
    · rw [Below.heap_alloc _ _ _ (by rw [hg]; simp), hg, heap_alloc_new, HS0.out]
      simp)
  rw [← hp, ← hg]
  clear hX0 hg hp
  go_loopw [32] (fun q wr => ∃ (k : Nat) (R : List Rp), k ≤ n ∧ q = .int .i64 k ∧ R.length = k ∧ NewAt w p g n m R wr) (fun q _ => n - (intOf q).toNat)
  case atStart => exact ⟨0, [], Nat.zero_le _, rfl, rfl, N0.out⟩
  case round =>
    obtain ⟨k, R, hk, rfl, hRk, hN⟩ := hrel
    have HN := Lib.hid hN
    have HRK := Lib.hid hRk
    by_cases hlt : k < n
    · have hki : (k : Int) < (n : Int) := by omega
      have hk0 : (0 : Int) ≤ (k : Int) := by omega
      have b0 : wr.cell? ⟨p, 0, none⟩ = some (.slice (some ⟨g, 0, none⟩) n n) := by rw [cell_of_row _ _ _ _ _ _ hN.box]; rfl
      have hz : (R.map (rpV m) ++ List.replicate (n - R.length) (sv0, sv0))[k]? = some (sv0, sv0) := by
        rw [List.getElem?_append_right (by simp; omega)]
        simp only [List.length_map, hRk, Nat.sub_self]
        rw [List.getElem?_replicate_of_lt (by omega)]
      have lp : p < wr.heap.size := (Array.getElem?_eq_some_iff.1 hN.box).1
      have lg : g < wr.heap.size := (Array.getElem?_eq_some_iff.1 hN.row).1
      have cg : wr.cell? ⟨g, k * 2, none⟩ = some (.slice none 0 0) := rowCell cS2 hN.row k _ hz 0 _ rfl
      have fg : wr.frozen? ⟨g, k * 2, none⟩ = false := frozen_of_row _ _ _ _ _ hN.row
      have HZ := Lib.hid hz
      have ngp : Hid (g ≠ p) := Lib.hid (heap_types hN.row hN.box (by decide))
      clear hN hz hRk N0
      go_wp2_with fail
      go_region
      all_goals go_wp2
      refine wp_world ?_
      intro X1 hX1
      obtain ⟨L, hL⟩ : ∃ L, L = R.map (rpV m) ++ List.replicate (n - R.length) (sv0, sv0) := ⟨_, rfl⟩
      rw [← hL] at HZ
      obtain ⟨a, ha⟩ : ∃ a, a = wr.heap.size := ⟨_, rfl⟩
      rw [← ha] at hX1
      have KX : Hid (Keeps (Own g) wr X1) := Lib.hid (by rw [hX1]; exact ((keepsCell _ _ _ _).alloc _).drew)
      have AX : Hid (X1.heap[a]? = some (.cells (rowsOf cIx (List.replicate m ⟨0, 0, false⟩)).toArray ixT (0, 0))) := Lib.hid (by
        rw [hX1, ← HI0.out]
        have e : (wr.setCell ⟨g, k * 2, none⟩ (.slice (some ⟨a, 0, none⟩) m m)).heap.size = a := by rw [ha]; simp
        have h0 := heap_alloc_new (wr.setCell ⟨g, k * 2, none⟩ (.slice (some ⟨a, 0, none⟩) m m)) (.cells I0 ixT)
        rw [e] at h0
        exact h0)
      have GX : Hid (X1.heap[g]? = some (.cells (rowsOf cS2 (L.set k (⟨some ⟨a, 0, none⟩, m, m⟩, sv0))).toArray shT (0, 0))) := Lib.hid (by
        rw [hX1]
        have h1 := heap_row_cell cS2 HN.out.row k 0 (sv0, sv0) (⟨some ⟨a, 0, none⟩, m, m⟩, sv0) (.slice (some ⟨a, 0, none⟩) m m) (by rw [← hL]; exact HZ.out) (by decide) rfl
        rw [← hL] at h1
        have h2 := ((Keeps.refl (S := No) (wr.setCell ⟨g, k * 2, none⟩ (.slice (some ⟨a, 0, none⟩) m m))).alloc (.cells I0 ixT)).heap h1 (fun h => h)
        exact h2)
      have HL := Lib.hid hL
      have HA := Lib.hid ha
      have HBX : Hid (p < X1.heap.size ∧ g < X1.heap.size) := Lib.hid (by have := KX.out.size; omega)
      replace b0 : X1.cell? ⟨p, 0, none⟩ = some (.slice (some ⟨g, 0, none⟩) n n) := KX.out.cell b0 (fun e => ngp.out (Eq.symm e))
      rw [← ha]
      clear hX1 hL ha cg fg lp lg
      obtain ⟨wk, hwk⟩ : ∃ x, x = wr := ⟨_, rfl⟩
      rw [← hwk] at KX HA HN
      clear hwk
      go_loopw [45] (fun q wj => ∃ (i : Nat) (v : Sv) (F : List Nat), i ≤ m ∧ q = .int .i64 i ∧ F = List.range i ∧ OwnInts wj X1.heap.size v.v F ∧ wj.heap[g]? = some (.cells (rowsOf cS2 (L.set k (⟨some ⟨a, 0, none⟩, m, m⟩, v))).toArray shT (0, 0)) ∧ Keeps (Own g) X1 wj) (fun q _ => m - (intOf q).toNat)
      case atStart => exact ⟨0, sv0, [], Nat.zero_le _, rfl, rfl, World.ownsRow_nil _ _ _ _, GX.out, Keeps.refl _⟩
      case round =>
        obtain ⟨i, v, F, him, rfl, hFR, hO, hG, hK⟩ := hrel
        have HFR := Lib.hid hFR
        have HFL : Hid (F.length = i) := Lib.hid (by rw [hFR]; simp)
        clear hFR
        have hO' := hO
        obtain ⟨va, vc, hv⟩ := ownsRow_slice hO
        obtain ⟨v1, v2, v3⟩ := v
        simp only [Sv.v, Value.slice.injEq] at hv
        obtain ⟨rfl, rfl, rfl⟩ := hv
        have OI := Lib.hid hO
        have GI := Lib.hid hG
        have KI := Lib.hid hK
        have hi0 : (0 : Int) ≤ (i : Int) := by omega
        have hzi : (L.set k (⟨some ⟨a, 0, none⟩, m, m⟩, ⟨v1, F.length, v3⟩))[k]? = some (⟨some ⟨a, 0, none⟩, m, m⟩, ⟨v1, F.length, v3⟩) := List.getElem?_set_self (List.getElem?_eq_some_iff.1 HZ.out).1
        have HZI := Lib.hid hzi
        by_cases hil : i < m
        · have hii : (i : Int) < (m : Int) := by omega
          go_upto_region 11 with fail
          refine wp_world ?_
          intro W hW
          have KW : Hid (Keeps No wr W) := Lib.hid (by rw [hW]; exact Keeps.refl _)
          have OW := Lib.hid (KW.out.owns OI.out (fun _ _ h => h))
          have GW := Lib.hid (KW.out.heap GI.out (fun h => h))
          have b1 : W.cell? ⟨p, 0, none⟩ = some (.slice (some ⟨g, 0, none⟩) n n) := KW.out.cell (KI.out.cell b0 (fun e => ngp.out (Eq.symm e))) (fun h => h)
          have d1 : W.cell? ⟨g, k * 2 + 1, none⟩ = some (.slice v1 F.length v3) := rowCell cS2 GW.out k _ hzi 1 _ rfl
          have f1 : W.frozen? ⟨g, k * 2 + 1, none⟩ = false := frozen_of_row _ _ _ _ _ GW.out
          have lp : p < W.heap.size := block_lt_of_cell b1
          have lg : g < W.heap.size := block_lt_of_cell d1
          have Hown : Hid (OwnInts ((W.alloc (.cells #[.int .i64 (i : Int)] 3)).drew) X1.heap.size (.slice v1 F.length v3) (F)) := Lib.hid ((((Keeps.refl (S := No) W).alloc _).drew).owns OW.out (fun _ _ h => h))
          have Hrd : Hid (Reads ((W.alloc (.cells #[.int .i64 (i : Int)] 3)).drew) 1 (.slice (some ⟨W.heap.size, 0, none⟩) 1 1) 1 [.int .i64 (i : Int)]) := Lib.hid (Reads.kept (S := No) ((Keeps.refl _).drew) (Reads.ofOwn (World.ownsRow_lit W #[.int .i64 (i : Int)] 1 (Nat.zero_le _) (by unfold maxLen; omega) rfl) (by simp [Value.oneCell'])) (fun _ _ h => h))
          have HB : Hid (X1.heap.size ≤ W.heap.size) := Lib.hid (Nat.le_trans KI.out.size KW.out.size)
          have HI : Hid (F.length ≤ 16) := Lib.hid (by have := HFL.out; omega)
          have ngf : Hid (∀ q, (Value.slice v1 F.length v3).ownBlock = some q → ¬ g = q) := Lib.hid (fun q hq e => by have := (OW.out.lt q hq).1; have := HBX.out.2; omega)
          clear hW hO hO' hG hK hzi
          go_region_law (refine step_append_reads rfl (.tmp 60) (.tmp 62) 109 rfl X1.heap.size 3 i0 _ 1 8 Tryz.underlying109 hi hz0 hz1 hz2 rfl (by decide) (.slice v1 F.length v3) F.length (intsV F) rfl Hown.out _ 1 [.int .i64 (i : Int)] rfl Hrd.out (by have := HI.out; unfold maxLen; omega) (by have := HI.out; omega) (by have := HB.out; simp; omega) ?_
                         intro v' w8 ho8 hk8 hb8 _
                         have K8 : Hid (Keeps (Of (.slice v1 F.length v3)) W w8) := Lib.hid (((((Keeps.refl (S := No) W).alloc _).drew).mono (fun _ _ h => h.elim)).trans hk8 (fun _ _ h => h))
                         have O8 := Lib.hid ho8
                         have G8 := Lib.hid (K8.out.heap GW.out (fun e => ngf.out g e rfl))
                         have npf : ¬ Of (.slice v1 F.length v3) p := fun e => by have := (OW.out.lt p e).1; have := HBX.out.1; omega
                         obtain ⟨wa, wc, rfl⟩ := ownsRow_slice ho8
                         have q2 : w8.cell? ⟨p, 0, none⟩ = some (.slice (some ⟨g, 0, none⟩) n n) := K8.out.cell b1 npf
                         have q0 : w8.cell? ⟨g, k * 2 + 1, none⟩ = some (.slice v1 F.length v3) := rowCell cS2 G8.out k _ HZI.out 1 _ rfl
                         have q1 : w8.frozen? ⟨g, k * 2 + 1, none⟩ = false := frozen_of_row _ _ _ _ _ G8.out
                         clear ho8 hk8 hb8 npf)
          all_goals go_wp2
          all_goals
            have HF1 : F ++ [i] = List.range (i + 1) := by rw [HFR.out, List.range_succ]
            have o1 : OwnInts w8 X1.heap.size (.slice wa (F.length + 1) wc) (F ++ [i]) := by
              show w8.ownsRow X1.heap.size intT 1 (.slice wa (F.length + 1) wc) (F ++ [i]).length (intsV (F ++ [i]))
              rw [intsV_append, show (F ++ [i]).length = F.length + 1 by simp]
              exact O8.out
            have kS := keepsCell w8 g (k * 2 + 1) (.slice wa (F.length + 1) wc)
            have kA : Keeps (Own g) X1 w8 := (KI.out.trans KW.out (fun _ _ h => h.elim)).trans K8.out (fun q hq e => by have := (OW.out.lt q e).1; omega)
            refine ⟨⟨i + 1, ⟨wa, F.length + 1, wc⟩, F ++ [i], by omega, by go_num, HF1, kS.owns o1 (fun q hq e => by have := (o1.lt q hq).1; have e : q = g := e; have := HBX.out.2; omega), ?_, kA.trans kS (fun _ _ h => h)⟩, ?_⟩
            · have h9 := heap_row_cell cS2 G8.out k 1 (⟨some ⟨a, 0, none⟩, m, m⟩, ⟨v1, F.length, v3⟩) (⟨some ⟨a, 0, none⟩, m, m⟩, ⟨wa, F.length + 1, wc⟩) (.slice wa (F.length + 1) wc) HZI.out (by decide) rfl
              rw [List.set_set] at h9
              exact h9
            · simp [intOf]
              omega
        · have him2 : i = m := by omega
          have hii : ¬ ((i : Int) < (m : Int)) := by omega
          clear hO hO' hG hK hzi
          go_wp2
          obtain ⟨f, hvf, hfb⟩ : ∃ f, v1 = some ⟨f, 0, none⟩ ∧ X1.heap.size ≤ f := by
            rcases OI.out.2 with ⟨_, e⟩ | ⟨f, cap, cur, e, hb, _⟩
            · have := HFL.out
              omega
            · simp only [Value.slice.injEq] at e
              exact ⟨f, e.1, hb⟩
          refine ⟨⟨k + 1, R ++ [⟨a, f, v3⟩], by omega, by go_num, by simp [HRK.out], ?_⟩, by simp [intOf]; omega⟩
          have hn := HN.out
          have kAll : Keeps (Own g) wk wr := KX.out.trans KI.out (fun _ _ h => h)
          have hFm : F.length = m := by have := HFL.out; omega
          have hrt : ∀ r ∈ R, r.a < wk.heap.size ∧ r.f < wk.heap.size ∧ r.a ≠ g ∧ r.f ≠ g := fun r hr => by
            have hs := hn.sh r hr
            obtain ⟨cur, hf, _⟩ := hs.fblock
            exact ⟨(Array.getElem?_eq_some_iff.1 hs.all).1, (Array.getElem?_eq_some_iff.1 hf).1, fun e => heap_types hs.all hn.row (by decide) e, fun e => heap_types hf hn.row (by decide) e⟩
          have hag : a ≠ g := fun e => heap_types AX.out GX.out (by decide) e
          refine ⟨kAll.heap hn.box (fun e => ngp.out (Eq.symm e)), ?_, fun r hr => ?_, fun j q r s hr hs hjq => ?_, hn.kp.trans kAll (fun q hq e => by have e : q = g := e; have := hn.bg; omega), hn.bp, hn.bg⟩
          · rw [GI.out, HL.out, HRK.out]
            congr 4
            rw [List.set_append_right _ _ (by simp [HRK.out]), List.map_append, List.append_assoc]
            congr 1
            simp only [List.length_map, HRK.out, Nat.sub_self, List.length_append, List.length_cons, List.length_nil, List.map_cons, List.map_nil]
            rw [show n - k = (n - (k + 1)) + 1 by omega, List.replicate_succ, List.set_cons_zero]
            simp [rpV, hvf, hFm]
          · rcases List.mem_append.1 hr with hr | hr
            · obtain ⟨_, _, h1, h2⟩ := hrt r hr
              exact (hn.sh r hr).kept kAll h1 h2
            · rw [List.mem_singleton.1 hr]
              refine ⟨KI.out.heap AX.out hag, ?_, by have := HA.out; have := hn.kp.size; simp only; omega⟩
              have h9 : OwnInts wr w.heap.size (.slice v1 F.length v3) F := ownInts_less OI.out (by have := hn.kp.size; have := KX.out.size; omega)
              rw [hvf] at h9
              show wr.ownsRow w.heap.size intT 1 (.slice (some ⟨f, 0, none⟩) (List.range m).length v3) (List.range m).length (intsV (List.range m))
              have hFR := HFR.out
              rw [him2] at hFR
              rw [← hFR]
              exact h9
          · have key : ∀ r ∈ R, r.a ≠ a ∧ r.f ≠ f := fun r hr => by
              obtain ⟨h1, h2, _, _⟩ := hrt r hr
              have := HA.out
              have := KX.out.size
              exact ⟨by omega, by omega⟩
            have hsplit : ∀ (j : Nat) (r : Rp), (R ++ [(⟨a, f, v3⟩ : Rp)])[j]? = some r → (j < R.length ∧ R[j]? = some r) ∨ (j = R.length ∧ r = ⟨a, f, v3⟩) := fun j r hr => by
              by_cases hj : j < R.length
              · rw [List.getElem?_append_left hj] at hr
                exact .inl ⟨hj, hr⟩
              · rw [List.getElem?_append_right (by omega)] at hr
                have hj2 := (List.getElem?_eq_some_iff.1 hr).1
                simp only [List.length_cons, List.length_nil] at hj2
                have e0 : j - R.length = 0 := by omega
                rw [e0] at hr
                simp only [List.getElem?_cons_zero, Option.some.injEq] at hr
                exact .inr ⟨by omega, hr.symm⟩
            rcases hsplit j r hr with ⟨h1, h2⟩ | ⟨h1, h2⟩
            · rcases hsplit q s hs with ⟨h3, h4⟩ | ⟨h3, h4⟩
              · exact hn.apart j q r s h2 h4 hjq
              · rw [h4]
                exact key r (List.mem_of_getElem? h2)
            · rcases hsplit q s hs with ⟨h3, h4⟩ | ⟨h3, h4⟩
              · rw [h2]
                obtain ⟨h5, h6⟩ := key s (List.mem_of_getElem? h4)
                exact ⟨Ne.symm h5, Ne.symm h6⟩
              · omega
    · have hkn : k = n := by omega
      have hki : ¬ ((k : Int) < (n : Int)) := by omega
      clear hN hRk N0
      go_wp2
      go_ret2
      exact ⟨p, g, R, rfl, HN.out.done (by rw [HRK.out, hkn]) n2 m1 m2, HN.out.kp⟩
end
end Go.Proofs.YtndjnkjcfdaegaaGreatDoor

