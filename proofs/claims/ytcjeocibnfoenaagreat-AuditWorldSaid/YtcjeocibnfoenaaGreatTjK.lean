/-
  tick: a stage obeys a command of a whole world. No conditions of its own.
-/
import Derived.Test.YtcjeocibnfoenaaGreatTjJ
namespace Go.Proofs.YtcjeocibnfoenaaGreat
open Go.RowKit Go.Joins Go.Deep Go.Sort

/-- who is there behind a command -/
def cmdL (z : Zf) (l : List Bd) (c : Cm) : List Bd := bif c.k == 1 then (bif !findIs c.b.s c.b.i c.b.g l && decide (0 ≤ zoneI z c.b.x c.b.y) then l.take (findAt c.b.s c.b.i c.b.g l) ++ c.b :: l.drop (findAt c.b.s c.b.i c.b.g l) else l) else leftOf (fun b => obeyB b c) l
def cmdD (l : List Bd) (c : Cm) : List Nam := bif c.k == 1 then [] else goneOf (fun b => obeyB b c) l
/-- the stage's box, and its rows -/
def SO (g : Nat) (lv dv : Value) : Nat → Prop := fun i => i = g ∨ Of lv i ∨ Of dv i
/-- other entities -/
theorem StgAt.put {w w' : World} {g base : Nat} {mp lv lv' ov gv dv : Value} {l l' : List Bd} {dead : List Nam} (h : StgAt w g base mp lv ov gv dv l dead) (k : Keeps (Of lv) w w') (hl : OwnOf cBd 38 w' base lv' l') (hf : ∀ i, lv'.ownBlock = some i → lv.ownBlock = some i ∨ w.heap.size ≤ i) :
    StgAt (w'.setCell ⟨g, 1, none⟩ lv') g base mp lv' ov gv dv l' dead := by
  have ks := keeps_set (W := w') g 1 lv'
  have hg : ¬ Of lv g := fun e => h.lg e
  have hd : OwnOf cNam 36 w' base dv dead := k.owns h.d (rows_apart h.d h.l (by decide))
  have lg : lv'.ownBlock ≠ some g := fun e => by
    rcases hf g e with h1 | h1
    · exact h.lg h1
    · have := h.o.lt; omega
  have og : ∀ {v : Value}, v.ownBlock ≠ some g → ∀ i, v.ownBlock = some i → ¬ Own g i := fun hv i hi e => by
    have e : i = g := e
    rw [e] at hi
    exact hv hi
  exact ⟨cells_setN 1 _ (keepsS_cells k hg h.c) rfl, by rw [open_setCell]; exact keepsS_open k hg h.o, by rw [rowD_setCell_at]; simpa using keepsS_row k hg h.o h.s, ks.owns hl (og lg), ks.owns hd (og h.dg), lg, h.dg⟩

set_option maxRecDepth 100000 in
set_option maxHeartbeats 8000000 in
theorem obeyS_any (w : World) (g base m : Nat) (z : Zf) (hz : z.ok) (hm : cellsAt w m 0 11 = some (zmC z)) (lv ov gv dv : Value) (l : List Bd) (dead : List Nam) (h : StgAt w g base (.pointer (some ⟨m, 0, none⟩)) lv ov gv dv l dead) (hb : base ≤ w.heap.size) (hl : l.length ≤ 1000) (hd : dead.length ≤ 100000) (hok : ∀ b ∈ l, b.ok) (c : Cm) :
    Calls Tryz.prog 27 #[.pointer (some ⟨g, 0, none⟩), .int .i64 (-1), cmV c] w fun e w' => e = .returned (.tuple #[]) ∧ ∃ lv' dv', StgAt w' g base (.pointer (some ⟨m, 0, none⟩)) lv' ov gv dv' (cmdL z l c) (dead ++ cmdD l c) ∧
      Keeps (SO g lv dv) w w' ∧ (∀ i, lv'.ownBlock = some i → lv.ownBlock = some i ∨ w.heap.size ≤ i) ∧ (∀ i, dv'.ownBlock = some i → dv.ownBlock = some i ∨ w.heap.size ≤ i) := by
  obtain ⟨la, lc, rfl⟩ := ownsRow_slice h.l
  obtain ⟨x1, x2⟩ := hz.cs
  obtain ⟨y1, y2⟩ := hz.rs
  have ZS : 1 ≤ z.s := by have := hz.s1; omega
  have ZC : 0 ≤ z.c ∧ z.c ≤ 1073741824 := by have := hz.c1; have := hz.c2; omega
  have HOF := Lib.hid (fun W (hW : cellsAt W m 0 11 = some (zmC z)) => mapOf_any W m z hW c.b.x c.b.y x1 (by omega) y1 (by omega) ZS ZC.1 ZC.2)
  have H := Lib.hid h
  have HB := Lib.hid hb
  have HD := Lib.hid hd
  have HL := Lib.hid hl
  have HOK := Lib.hid hok
  have HM := Lib.hid hm
  clear x1 x2 y1 y2 ZS ZC hz h hb hl hd hok hm
  go_enter Tryz.func27, Tryz.ntmps27
  go_upto_region 1 with fail
  refine wp_world ?_
  intro W hW
  have KW : Hid (Keeps No w W) := Lib.hid (by rw [hW]; exact (Keeps.refl w).alloc _)
  have CC : Hid (cellsAt W w.heap.size 0 16 = some (cmC c)) := Lib.hid (by rw [hW]; simp [go_sem])
  obtain ⟨gc, hgc⟩ : ∃ g, g = w.heap.size := ⟨_, rfl⟩
  have GC := Lib.hid hgc
  rw [← hgc] at CC ⊢
  have k0 := cellsAt_cell CC.out 0 _ rfl
  simp only [Nat.zero_add] at k0
  clear hW hgc
  have S0 := Lib.hid (H.out.no KW.out)
  have NS : Hid (¬ SD g dv gc) := Lib.hid (fun e => by
    have h1 := GC.out
    rcases e with e | e
    · have := H.out.o.lt; omega
    · have := (H.out.d.lt gc e).2; omega)
  by_cases hk : c.k = 1
  · have eL : Hid (cmdL z l c = bif !findIs c.b.s c.b.i c.b.g l && decide (0 ≤ zoneI z c.b.x c.b.y) then l.take (findAt c.b.s c.b.i c.b.g l) ++ c.b :: l.drop (findAt c.b.s c.b.i c.b.g l) else l) := Lib.hid (by unfold cmdL; rw [hk]; rfl)
    have eD : Hid (dead ++ cmdD l c = dead) := Lib.hid (by unfold cmdD; rw [hk]; exact List.append_nil _)
    rw [hk] at k0
    go_wp2_with fail
    have m0 := cellsAt_cell S0.out.c 0 _ rfl
    have cx := cellsAt_cell CC.out 8 _ rfl
    have cy := cellsAt_cell CC.out 9 _ rfl
    simp only [Nat.zero_add] at m0 cx cy
    go_region_held3 (fun w' => w'.cell? ⟨g, 0, none⟩ = some (.pointer (some ⟨m, 0, none⟩)) ∧ w'.cell? ⟨gc, 8, none⟩ = some (.int .i64 c.b.x) ∧ w'.cell? ⟨gc, 9, none⟩ = some (.int .i64 c.b.y)) (exact ⟨m0, cx, cy⟩)
      (first
        | (go_at_call 31
           refine (HOF.out _ ((KW.out.drew).cellsAt HM.out)).mono ?_
           rintro e w1 ⟨rfl, hk1⟩
           have K1 : Hid (Keeps No W w1) := Lib.hid (((Keeps.refl W).drew).trans hk1 (fun _ _ h => h))
           have m1 := K1.out.cell m0 (fun h => h)
           have cx1 := K1.out.cell cx (fun h => h)
           have cy1 := K1.out.cell cy (fun h => h)
           clear hk1 m0 cx cy k0
           have m0 := m1
           have cx := cx1
           have cy := cy1
           clear m1 cx1 cy1))
    go_wp2_with fail
    have S1 := Lib.hid (S0.out.no K1.out)
    have l0 := cellsAt_cell S1.out.c 1 _ rfl
    simp only [Nat.zero_add] at l0
    have ci : cellsAt w1 gc 4 3 = some [.int .i64 c.b.s, .int .i64 c.b.i, .int .i64 c.b.g] := by
      have h := cellsAt_part (K1.out.cellsAt CC.out) 4 [.int .i64 c.b.s, .int .i64 c.b.i, .int .i64 c.b.g] rfl (by simp)
      rwa [Nat.zero_add] at h
    clear m0 cx cy
    go_region_held3 (fun w' => w'.cell? ⟨g, 1, none⟩ = some (.slice la l.length lc) ∧ cellsAt w' gc 4 3 = some [.int .i64 c.b.s, .int .i64 c.b.i, .int .i64 c.b.g]) (exact ⟨l0, ci⟩)
      (first
        | (go_at_call 57
           refine (find_any _ _ l ((OwnOf.reads S1.out.l).kept ((Keeps.refl (S := No) w1).drew) (fun _ _ h => h)) HL.out c.b.s c.b.i c.b.g).mono ?_
           rintro e w2 ⟨rfl, hk1⟩
           have K2 : Hid (Keeps No w1 w2) := Lib.hid (((Keeps.refl w1).drew).trans hk1 (fun _ _ h => h))
           have l1 := K2.out.cell l0 (fun h => h)
           have ci1 := K2.out.cellsAt ci
           clear hk1 l0 ci
           have l0 := l1
           have ci := ci1
           clear l1 ci1))
    have S2 := Lib.hid (S1.out.no K2.out)
    have KF : Hid (Keeps No w w2) := Lib.hid (KW.out.trans (K1.out.trans K2.out (fun _ _ h => h)) (fun _ _ h => h))
    have FINN : Hid (cmdL z l c = l → ∀ w', Keeps No w2 w' → ∃ lv' dv', StgAt w' g base (.pointer (some ⟨m, 0, none⟩)) lv' ov gv dv' (cmdL z l c) (dead ++ cmdD l c) ∧ Keeps (SO g (.slice la l.length lc) dv) w w' ∧ (∀ i, lv'.ownBlock = some i → (Value.slice la l.length lc).ownBlock = some i ∨ w.heap.size ≤ i) ∧ (∀ i, dv'.ownBlock = some i → dv.ownBlock = some i ∨ w.heap.size ≤ i)) := Lib.hid (fun he w' hk' => by
      rw [he, eD.out]
      exact ⟨_, _, S2.out.no hk', (KF.out.trans hk' (fun _ _ h => h)).mono (fun _ _ h => h.elim), fun i hi => .inl hi, fun i hi => .inl hi⟩)
    obtain ⟨T, hT⟩ : ∃ T, T = findIs c.b.s c.b.i c.b.g l := ⟨_, rfl⟩
    obtain ⟨Z, hZ⟩ : ∃ Z, Z = zoneI z c.b.x c.b.y := ⟨_, rfl⟩
    have HP := Lib.hid (findAt_le c.b.s c.b.i c.b.g l)
    obtain ⟨P, hP⟩ : ∃ P, P = findAt c.b.s c.b.i c.b.g l := ⟨_, rfl⟩
    rw [← hT, ← hZ, ← hP] at eL
    rw [← hP] at HP
    rw [← hT, ← hZ, ← hP]
    clear hT hZ hP l0 ci
    cases T with
    | true =>
      have FN := Lib.hid (FINN.out (by rw [eL.out]; rfl) w2 (Keeps.refl _))
      go_wp2
      exact bodyPost_end (results_none rfl _ _ _) rfl ⟨rfl, FN.out⟩
    | false =>
      by_cases hz0 : 0 ≤ Z
      · rw [decide_eq_true hz0] at eL
        go_wp2_with fail
        have l0 := cellsAt_cell S2.out.c 1 _ rfl
        simp only [Nat.zero_add] at l0
        have CB : Hid (cellsAt w2 gc 4 11 = some (bdC c.b)) := Lib.hid (by
          have h := cellsAt_part (K2.out.cellsAt (K1.out.cellsAt CC.out)) 4 (bdC c.b) rfl (by simp)
          rwa [Nat.zero_add] at h)
        have cb := CB.out
        refine wp_region_late (fun _ => True) (fun w' => w'.cell? ⟨g, 1, none⟩ = some (.slice la l.length lc) ∧ cellsAt w' gc 4 11 = some (bdC c.b)) (fun j => j == 12) (by kernel_rfl) ?_
        first
          | (refine takeW (i := 0) (v := ?_) rfl rfl (by kernel_rfl) (by kernel_rfl) (by kernel_rfl) rfl (fun _ _ _ h => h) (Or.inl ⟨by rfl, ?_⟩) trivial (fun _ => ⟨l0,cb⟩) ?_; rotate_left; focus (intro w hSw; (try dsimp only at hSw); go_simp; (try rfl); done))
          | (refine takeL (i := 0) (v := ?_) rfl rfl (by kernel_rfl) (by kernel_rfl) (by kernel_rfl) (by kernel_rfl) (noLate_of (by kernel_rfl)) (fun _ _ _ h => h) (Or.inl ⟨by rfl, ?_⟩) trivial ⟨l0,cb⟩ ?_; rotate_left; focus (intro w hSw; (try dsimp only at hSw); go_simp; (try rfl); done))
        try simp only [List.setIfInBounds_toArray, List.set_cons_zero, List.set_cons_succ]
        first
          | (refine takeW (i := 1) (v := ?_) rfl rfl (by kernel_rfl) (by kernel_rfl) (by kernel_rfl) rfl (fun _ _ _ h => h) (Or.inl ⟨by rfl, ?_⟩) trivial (fun _ => ⟨l0,cb⟩) ?_; rotate_left; focus (intro w hSw; (try dsimp only at hSw); go_simp; (try rfl); done))
          | (refine takeL (i := 1) (v := ?_) rfl rfl (by kernel_rfl) (by kernel_rfl) (by kernel_rfl) (by kernel_rfl) (noLate_of (by kernel_rfl)) (fun _ _ _ h => h) (Or.inl ⟨by rfl, ?_⟩) trivial ⟨l0,cb⟩ ?_; rotate_left; focus (intro w hSw; (try dsimp only at hSw); go_simp; (try rfl); done))
        try simp only [List.setIfInBounds_toArray, List.set_cons_zero, List.set_cons_succ]
        first
          | (refine takeW (i := 2) (v := ?_) rfl rfl (by kernel_rfl) (by kernel_rfl) (by kernel_rfl) rfl (fun _ _ _ h => h) (Or.inl ⟨by rfl, ?_⟩) trivial (fun _ => ⟨l0,cb⟩) ?_; rotate_left; focus (intro w hSw; (try dsimp only at hSw); go_simp; (try rfl); done))
          | (refine takeL (i := 2) (v := ?_) rfl rfl (by kernel_rfl) (by kernel_rfl) (by kernel_rfl) (by kernel_rfl) (noLate_of (by kernel_rfl)) (fun _ _ _ h => h) (Or.inl ⟨by rfl, ?_⟩) trivial ⟨l0,cb⟩ ?_; rotate_left; focus (intro w hSw; (try dsimp only at hSw); go_simp; (try rfl); done))
        try simp only [List.setIfInBounds_toArray, List.set_cons_zero, List.set_cons_succ]
        first
          | (refine takeW (i := 3) (v := ?_) rfl rfl (by kernel_rfl) (by kernel_rfl) (by kernel_rfl) rfl (fun _ _ _ h => h) (Or.inl ⟨by rfl, ?_⟩) trivial (fun _ => ⟨l0,cb⟩) ?_; rotate_left; focus (intro w hSw; (try dsimp only at hSw); go_simp; (try rfl); done))
          | (refine takeL (i := 3) (v := ?_) rfl rfl (by kernel_rfl) (by kernel_rfl) (by kernel_rfl) (by kernel_rfl) (noLate_of (by kernel_rfl)) (fun _ _ _ h => h) (Or.inl ⟨by rfl, ?_⟩) trivial ⟨l0,cb⟩ ?_; rotate_left; focus (intro w hSw; (try dsimp only at hSw); go_simp; (try rfl); done))
        try simp only [List.setIfInBounds_toArray, List.set_cons_zero, List.set_cons_succ]
        first
          | (refine takeW (i := 4) (v := ?_) rfl rfl (by kernel_rfl) (by kernel_rfl) (by kernel_rfl) rfl (fun _ _ _ h => h) (Or.inl ⟨by rfl, ?_⟩) trivial (fun _ => ⟨l0,cb⟩) ?_; rotate_left; focus (intro w hSw; (try dsimp only at hSw); go_simp; (try rfl); done))
          | (refine takeL (i := 4) (v := ?_) rfl rfl (by kernel_rfl) (by kernel_rfl) (by kernel_rfl) (by kernel_rfl) (noLate_of (by kernel_rfl)) (fun _ _ _ h => h) (Or.inl ⟨by rfl, ?_⟩) trivial ⟨l0,cb⟩ ?_; rotate_left; focus (intro w hSw; (try dsimp only at hSw); go_simp; (try rfl); done))
        try simp only [List.setIfInBounds_toArray, List.set_cons_zero, List.set_cons_succ]
        first
          | (refine takeW (i := 5) (v := ?_) rfl rfl (by kernel_rfl) (by kernel_rfl) (by kernel_rfl) rfl (fun _ _ _ h => h) (Or.inl ⟨by rfl, ?_⟩) trivial (fun _ => ⟨l0,cb⟩) ?_; rotate_left; focus (intro w hSw; (try dsimp only at hSw); go_simp; (try rfl); done))
          | (refine takeL (i := 5) (v := ?_) rfl rfl (by kernel_rfl) (by kernel_rfl) (by kernel_rfl) (by kernel_rfl) (noLate_of (by kernel_rfl)) (fun _ _ _ h => h) (Or.inl ⟨by rfl, ?_⟩) trivial ⟨l0,cb⟩ ?_; rotate_left; focus (intro w hSw; (try dsimp only at hSw); go_simp; (try rfl); done))
        try simp only [List.setIfInBounds_toArray, List.set_cons_zero, List.set_cons_succ]
        first
          | (refine takeW (i := 6) (v := ?_) rfl rfl (by kernel_rfl) (by kernel_rfl) (by kernel_rfl) rfl (fun _ _ _ h => h) (Or.inl ⟨by rfl, ?_⟩) trivial (fun _ => ⟨l0,cb⟩) ?_; rotate_left; focus (intro w hSw; (try dsimp only at hSw); go_simp; (try rfl); done))
          | (refine takeL (i := 6) (v := ?_) rfl rfl (by kernel_rfl) (by kernel_rfl) (by kernel_rfl) (by kernel_rfl) (noLate_of (by kernel_rfl)) (fun _ _ _ h => h) (Or.inl ⟨by rfl, ?_⟩) trivial ⟨l0,cb⟩ ?_; rotate_left; focus (intro w hSw; (try dsimp only at hSw); go_simp; (try rfl); done))
        try simp only [List.setIfInBounds_toArray, List.set_cons_zero, List.set_cons_succ]
        first
          | (refine takeW (i := 7) (v := ?_) rfl rfl (by kernel_rfl) (by kernel_rfl) (by kernel_rfl) rfl (fun _ _ _ h => h) (Or.inl ⟨by rfl, ?_⟩) trivial (fun _ => ⟨l0,cb⟩) ?_; rotate_left; focus (intro w hSw; (try dsimp only at hSw); go_simp; (try rfl); done))
          | (refine takeL (i := 7) (v := ?_) rfl rfl (by kernel_rfl) (by kernel_rfl) (by kernel_rfl) (by kernel_rfl) (noLate_of (by kernel_rfl)) (fun _ _ _ h => h) (Or.inl ⟨by rfl, ?_⟩) trivial ⟨l0,cb⟩ ?_; rotate_left; focus (intro w hSw; (try dsimp only at hSw); go_simp; (try rfl); done))
        try simp only [List.setIfInBounds_toArray, List.set_cons_zero, List.set_cons_succ]
        have K3 : Hid (Keeps No w2 (w2.alloc (.cells (bdC c.b).toArray 38)).drew) := Lib.hid (((Keeps.refl w2).alloc _).drew)
        have hbx : Hid ((w2.alloc (.cells (bdC c.b).toArray 38)).drew.heap[w2.heap.size]? = some (.cells (bdC c.b).toArray 38 (0, 0))) := Lib.hid (by show (w2.alloc _).heap[w2.heap.size]? = _; unfold World.alloc; simp)
        refine readyL (rs := [8]) (by kernel_rfl) (by simp) ?_
        refine AllReadyL.cons rfl (fun K hK => ?_) AllReadyL.nil
        go_simp
        obtain ⟨w3, hw3⟩ : ∃ x, x = (w2.alloc (.cells (bdC c.b).toArray 38)).drew := ⟨_, rfl⟩
        rw [← hw3] at K3 hbx ⊢
        have l3 := K3.out.cell l0 (fun h => h)
        have cb3 := K3.out.cellsAt cb
        have S3 := Lib.hid (S2.out.no K3.out)
        refine hK.out _ _ trivial (fun _ => ⟨l3, cb3⟩) ?_
        clear hK K hw3
        refine readyL (rs := [9]) (by kernel_rfl) (by simp) ?_
        refine AllReadyL.cons rfl (fun K hK => ?_) AllReadyL.nil
        go_simp
        have HI := insert_bd w3 base (.slice la l.length lc) l S3.out.l HL.out P HP.out w2.heap.size c.b hbx.out (fun e => by have := (S2.out.l.lt _ e).2; omega) (Nat.le_trans HB.out (KF.out.trans K3.out (fun _ _ h => h)).size)
        obtain ⟨l2, hl2⟩ : ∃ x, x = l.take P ++ c.b :: l.drop P := ⟨_, rfl⟩
        rw [← hl2] at HI
        have eL2 : Hid (cmdL z l c = l2) := Lib.hid (by rw [eL.out, hl2]; rfl)
        clear hl2 eL
        refine HI.mono ?_
        rintro e w8 ⟨v', rfl, ho8, hk8, hb8⟩
        obtain ⟨ea, ec, rfl⟩ := ownsRow_slice ho8
        have l8 := hk8.cell l3 (fun e => S3.out.lg e)
        have cb8 := keepsS_cells hk8 (fun e => by
          have h1 := (H.out.l.lt _ e).2
          have h2 := GC.out
          omega) cb3
        have f1 := (keepsS_open hk8 (fun e => S3.out.lg e) S3.out.o).frozen 1
        have FIN : Hid (∃ lv' dv', StgAt (w8.setCell ⟨g, 1, none⟩ (.slice ea l2.length ec)) g base (.pointer (some ⟨m, 0, none⟩)) lv' ov gv dv' (cmdL z l c) (dead ++ cmdD l c) ∧ Keeps (SO g (.slice la l.length lc) dv) w (w8.setCell ⟨g, 1, none⟩ (.slice ea l2.length ec)) ∧ (∀ i, lv'.ownBlock = some i → (Value.slice la l.length lc).ownBlock = some i ∨ w.heap.size ≤ i) ∧ (∀ i, dv'.ownBlock = some i → dv.ownBlock = some i ∨ w.heap.size ≤ i)) := Lib.hid (by
          rw [eL2.out, eD.out]
          refine ⟨_, _, S3.out.put hk8 ho8 hb8, ?_, fun i hi => (hb8 i hi).imp id (fun h => Nat.le_trans (KF.out.trans K3.out (fun _ _ h => h)).size h), fun i hi => .inl hi⟩
          refine (((KF.out.trans K3.out (fun _ _ h => h)).mono (fun _ _ h => h.elim)).trans hk8 (fun i _ e => .inr (.inl e))).trans (keeps_set g 1 _) (fun i _ e => .inl e))
        refine hK.out _ _ trivial (fun _ => ⟨l8, cb8⟩) ?_
        clear hK K ho8 hk8 hb8 l0 cb l3 cb3
        first
          | (refine takeW (i := 10) (v := ?_) rfl rfl (by kernel_rfl) (by kernel_rfl) (by kernel_rfl) rfl (fun _ _ _ h => h) (Or.inl ⟨by rfl, ?_⟩) trivial (fun _ => ⟨l8,cb8⟩) ?_; rotate_left; focus (intro w hSw; (try dsimp only at hSw); go_simp; (try rfl); done))
          | (refine takeL (i := 10) (v := ?_) rfl rfl (by kernel_rfl) (by kernel_rfl) (by kernel_rfl) (by kernel_rfl) (noLate_of (by kernel_rfl)) (fun _ _ _ h => h) (Or.inl ⟨by rfl, ?_⟩) trivial ⟨l8,cb8⟩ ?_; rotate_left; focus (intro w hSw; (try dsimp only at hSw); go_simp; (try rfl); done))
        try simp only [List.setIfInBounds_toArray, List.set_cons_zero, List.set_cons_succ]
        first
          | (refine takeW (i := 11) (v := ?_) rfl rfl (by kernel_rfl) (by kernel_rfl) (by kernel_rfl) rfl (fun _ _ _ h => h) (Or.inl ⟨by rfl, ?_⟩) trivial (fun _ => ⟨l8,cb8⟩) ?_; rotate_left; focus (intro w hSw; (try dsimp only at hSw); go_simp; (try rfl); done))
          | (refine takeL (i := 11) (v := ?_) rfl rfl (by kernel_rfl) (by kernel_rfl) (by kernel_rfl) (by kernel_rfl) (noLate_of (by kernel_rfl)) (fun _ _ _ h => h) (Or.inl ⟨by rfl, ?_⟩) trivial ⟨l8,cb8⟩ ?_; rotate_left; focus (intro w hSw; (try dsimp only at hSw); go_simp; (try rfl); done))
        try simp only [List.setIfInBounds_toArray, List.set_cons_zero, List.set_cons_succ]
        refine readyL (rs := [12]) (by kernel_rfl) (by simp) ?_
        refine AllReadyL.cons rfl (fun K hK => ?_) AllReadyL.nil
        go_simp
        refine hK.out _ _ trivial (late_come 12 rfl (by kernel_rfl)) ?_
        clear hK K
        refine doneL (by kernel_rfl) ?_ _
        clear l8 cb8 f1
        go_wp2
        exact bodyPost_end (results_none rfl _ _ _) rfl ⟨rfl, FIN.out⟩
      · rw [decide_eq_false hz0] at eL
        have FN := Lib.hid (FINN.out (by rw [eL.out]; rfl) w2 (Keeps.refl _))
        go_wp2
        exact bodyPost_end (results_none rfl _ _ _) rfl ⟨rfl, FN.out⟩
  · have hkb : (c.k == 1) = false := by rw [beq_eq_false_iff_ne]; exact hk
    have eL : Hid (cmdL z l c = leftOf (fun b => obeyB b c) l) := Lib.hid (by unfold cmdL; rw [hkb]; rfl)
    have eD : Hid (cmdD l c = goneOf (fun b => obeyB b c) l) := Lib.hid (by unfold cmdD; rw [hkb]; rfl)
    have HA : Hid (AnswersB Tryz.prog (SD g dv) W 55 #[.pointer (some ⟨gc, 0, none⟩)] (fun b => obeyB b c)) := Lib.hid ⟨fun _ _ => by kernel_rfl, fun W2 b hk2 _ => obey1_any W2 gc c (keepsS_cells hk2 NS.out CC.out) b⟩
    go_wp2_with fail
    refine (each_any W g base _ _ _ _ _ l dead S0.out (Nat.le_trans HB.out KW.out.size) HL.out HD.out HOK.out _ _ _ HA.out).mono ?_
    rintro e w2 ⟨rfl, lv', dv', hst, hk2, hf1, hf2⟩
    have FIN : Hid (∃ lv' dv', StgAt w2 g base (.pointer (some ⟨m, 0, none⟩)) lv' ov gv dv' (cmdL z l c) (dead ++ cmdD l c) ∧ Keeps (SO g (.slice la l.length lc) dv) w w2 ∧ (∀ i, lv'.ownBlock = some i → (Value.slice la l.length lc).ownBlock = some i ∨ w.heap.size ≤ i) ∧ (∀ i, dv'.ownBlock = some i → dv.ownBlock = some i ∨ w.heap.size ≤ i)) := Lib.hid (by
      rw [eL.out, eD.out]
      refine ⟨lv', dv', hst, (KW.out.mono (fun _ _ h => h.elim)).trans hk2 (fun i _ e => ?_), fun i hi => .inr (Nat.le_trans KW.out.size (hf1 i hi)), fun i hi => (hf2 i hi).imp id (fun h => Nat.le_trans KW.out.size h)⟩
      rcases e with e | e
      · exact .inl e
      · exact .inr (.inr e))
    clear hst hk2 hf1 hf2
    go_wp2
    exact bodyPost_ret (v := .tuple #[]) (results_none rfl _ _ _) rfl ⟨rfl, FIN.out⟩
end Go.Proofs.YtcjeocibnfoenaaGreat
