/-
  Texts in one: LgQ, LgS, LgU, LgT. No conditions of their own.
-/
import Derived.Test.YtndjnkjcfdaegaaGreatDoorZh29
set_option linter.all false

/-
  A ledger, in memory; what a record says is done (ledger.fold). No conditions of their own.
-/
namespace Go.Proofs.YtndjnkjcfdaegaaGreatDoor
open Go.RowKit Go.Shelf Go.Sort Go.Joins Go.Deep

abbrev ledT : TypeId := 65
/-- a ledger's place in memory: its box, its desk, its log with its row of numbers, the disk, the open tick's commands -/
structure Lp where
  l : Nat
  D : Dp
  g : Nat
  v : Value
  p : Nat
  b : Nat
  cv : Value
abbrev LogSS (P : Lp) : Nat → Prop := LogS P.g P.p P.b P.v
/-- the blocks of a ledger that it writes -/
def LedS (P : Lp) : Nat → Prop := fun i => i = P.l ∨ DeskS P.D i ∨ LogSS P i
/-- THE LEDGER AT P. -/
structure LedAt (w : World) (base : Nat) (P : Lp) (ld : Ld) (ds : Ds) : Prop where
  box : w.heap[P.l]? = some (.cells #[dP P.D.d, dP P.g, .int .i64 ld.ep, P.cv, .int .i64 ld.e] ledT (0, 0))
  desk : DeskAt w base P.D ld.dk
  log : WLog w base P.g P.p P.b P.v ld.lg ds
  own : OwnInts w base P.v ld.lg.firsts
  cm : OwnOf cCm cmdT w base P.cv ld.cmds
  dl : ∀ i, DeskS P.D i → ¬ LogSS P i
  nl : ¬ DeskS P.D P.l ∧ ¬ LogSS P P.l
  nc : ∀ i, P.cv.ownBlock = some i → ¬ LedS P i
  nm : ¬ LedS P P.D.m
  bl : base ≤ P.l
  e0 : 0 ≤ ld.ep
  e1 : ld.ep ≤ 1099511627776
  cl : ld.cmds.length ≤ 64
section
variable {w w' : World} {base : Nat} {P : Lp} {ld : Ld} {ds : Ds} {S : Nat → Prop}
theorem logS_lt (h : WLog w base P.g P.p P.b P.v ld.lg ds) (ho : OwnInts w base P.v ld.lg.firsts) : ∀ i, LogSS P i → i < w.heap.size := by
  intro i hi
  rcases hi with e | e | e | e
  · have := h.log.lt; omega
  · have := h.disk.lt; omega
  · have := h.disk.lt; omega
  · exact (ho.lt i e).2
theorem LedAt.lt (h : LedAt w base P ld ds) : ∀ i, LedS P i → i < w.heap.size := by
  rintro i (e | e | e)
  · rw [e]; exact (Array.getElem?_eq_some_iff.1 h.box).1
  · exact h.desk.lt e
  · exact logS_lt h.log h.own i e
theorem LedAt.le (h : LedAt w base P ld ds) : ∀ i, LedS P i → base ≤ i := by
  rintro i (e | e | e)
  · rw [e]; exact h.bl
  · exact h.desk.le e
  · rcases e with e | e | e | e
    · rw [e]; exact h.log.log.bl
    · rw [e]; exact h.log.bp
    · rw [e]; exact h.log.bb
    · exact (h.own.lt i e).1
theorem LedAt.kept (h : LedAt w base P ld ds) (k : Keeps S w w') (hS : ∀ i, LedS P i → ¬ S i) (hc : ∀ i, P.cv.ownBlock = some i → ¬ S i) (hm : ¬ S P.D.m) : LedAt w' base P ld ds :=
  ⟨k.heap h.box (hS _ (.inl rfl)), h.desk.kept k (fun i hi => hS i (.inr (.inl hi))) hm, h.log.kept k (fun i hi => hS i (.inr (.inr hi))), k.owns h.own (fun i hi => hS i (.inr (.inr (.inr (.inr (.inr hi)))))), k.owns h.cm hc, h.dl, h.nl, h.nc, h.nm, h.bl, h.e0, h.e1, h.cl⟩
theorem LedAt.no (h : LedAt w base P ld ds) (k : Keeps No w w') : LedAt w' base P ld ds := h.kept k (fun _ _ h => h) (fun _ _ h => h) (fun h => h)
theorem LedAt.cells (h : LedAt w base P ld ds) : w.cell? ⟨P.l, 0, none⟩ = some (dP P.D.d) ∧ w.cell? ⟨P.l, 1, none⟩ = some (dP P.g) ∧ w.cell? ⟨P.l, 2, none⟩ = some (.int .i64 ld.ep) ∧ w.cell? ⟨P.l, 3, none⟩ = some P.cv ∧ w.cell? ⟨P.l, 4, none⟩ = some (.int .i64 ld.e) := by
  refine ⟨?_, ?_, ?_, ?_, ?_⟩ <;> · rw [cell_of_row _ _ _ _ _ _ h.box]; rfl
/-- what stays of the places; the open tick's row is the old one, or one of the ledger's, or a new one -/
structure Goes (n : Nat) (P P' : Lp) : Prop where
  l : P'.l = P.l
  p : P'.p = P.p
  b : P'.b = P.b
  g : P'.g = P.g
  m : P'.D.m = P.D.m
  c : ∀ i, P'.cv.ownBlock = some i → P.cv.ownBlock = some i ∨ LedS P i ∨ n ≤ i
/-- what a method that turns the ledger leaves -/
def LedPost (w : World) (base : Nat) (P : Lp) (ld' : Ld) (ds' : Ds) (w' : World) : Prop := ∃ P', LedAt w' base P' ld' ds' ∧ Keeps (LedS P) w w' ∧ (∀ i, LedS P' i → LedS P i ∨ w.heap.size ≤ i) ∧ Goes w.heap.size P P'
theorem LedPost.refl (h : LedAt w base P ld ds) : LedPost w base P ld ds w := ⟨P, h, Keeps.refl _, fun _ hi => .inl hi, ⟨rfl, rfl, rfl, rfl, rfl, fun _ hi => .inl hi⟩⟩
theorem LedPost.trans {P1 : Lp} {ld2 : Ld} {ds2 : Ds} {w1 w2 : World} (hk : Keeps (LedS P) w w1) (hn : ∀ i, LedS P1 i → LedS P i ∨ w.heap.size ≤ i) (hl : Goes w.heap.size P P1) (h : LedPost w1 base P1 ld2 ds2 w2) : LedPost w base P ld2 ds2 w2 := by
  obtain ⟨P2, a1, a2, a3, a4⟩ := h
  refine ⟨P2, a1, hk.trans a2 (fun i hi e => ?_), fun i hi => ?_, a4.l.trans hl.l, a4.p.trans hl.p, a4.b.trans hl.b, a4.g.trans hl.g, a4.m.trans hl.m, fun i hi => ?_⟩
  · rcases hn i e with e | e
    · exact e
    · omega
  · rcases a3 i hi with e | e
    · exact hn i e
    · exact .inr (Nat.le_trans hk.size e)
  · rcases a4.c i hi with e | e | e
    · exact hl.c i e
    · exact .inr (hn i e)
    · exact .inr (.inr (Nat.le_trans hk.size e))
/-- the desk is another one -/
theorem LedAt.desk' (h : LedAt w base P ld ds) {k' : Dk} {D' : Dp} (a1 : DeskAt w' base D' k') (a2 : Keeps (DeskS P.D) w w') (a3 : ∀ i, DeskS D' i → DeskS P.D i ∨ w.heap.size ≤ i) (a4 : D'.d = P.D.d) (a5 : D'.m = P.D.m) :
    LedAt w' base ⟨P.l, D', P.g, P.v, P.p, P.b, P.cv⟩ ⟨k', ld.lg, ld.ep, ld.cmds, ld.e⟩ ds ∧ (∀ i, LedS ⟨P.l, D', P.g, P.v, P.p, P.b, P.cv⟩ i → LedS P i ∨ w.heap.size ≤ i) := by
  have hlog : ∀ i, LogSS P i → ¬ DeskS P.D i := fun i hi e => h.dl i e hi
  refine ⟨⟨?_, a1, h.log.kept a2 hlog, a2.owns h.own (fun i hi => hlog i (.inr (.inr (.inr hi)))), a2.owns h.cm (fun i hi e => h.nc i hi (.inr (.inl e))), fun i hi e => ?_, ⟨fun e => ?_, h.nl.2⟩, fun i hi e => ?_, fun e => ?_, h.bl, h.e0, h.e1, h.cl⟩, fun i hi => ?_⟩
  · have := a2.heap h.box h.nl.1
    rw [this, a4]
  · rcases a3 i hi with e2 | e2
    · exact h.dl i e2 e
    · have := logS_lt h.log h.own i e
      omega
  · rcases a3 _ e with e2 | e2
    · exact h.nl.1 e2
    · have := h.lt _ (.inl rfl)
      simp only at e2
      omega
  · rcases e with e | e | e
    · exact h.nc i hi (.inl e)
    · rcases a3 i e with e2 | e2
      · exact h.nc i hi (.inr (.inl e2))
      · have := (h.cm.lt i hi).2
        omega
    · exact h.nc i hi (.inr (.inr e))
  · simp only [a5] at e
    rcases e with e | e | e
    · exact h.nm (.inl e)
    · rcases a3 _ e with e2 | e2
      · exact h.nm (.inr (.inl e2))
      · have := cellsAt_block h.desk.map
        omega
    · exact h.nm (.inr (.inr e))
  · rcases hi with e | e | e
    · exact .inl (.inl e)
    · rcases a3 i e with e | e
      · exact .inl (.inr (.inl e))
      · exact .inr e
    · exact .inl (.inr (.inr e))
theorem LedAt.deskPost (h : LedAt w base P ld ds) {k' : Dk} (hd : DeskPost w base P.D k' w') : LedPost w base P ⟨k', ld.lg, ld.ep, ld.cmds, ld.e⟩ ds w' := by
  obtain ⟨D', a1, a2, a3, a4, a5⟩ := hd
  obtain ⟨b1, b2⟩ := h.desk' a1 a2 a3 a4 a5
  exact ⟨_, b1, a2.mono (fun i _ e => .inr (.inl e)), b2, rfl, rfl, rfl, rfl, a5, fun _ hi => .inl hi⟩
/-- the box is another one: its epoch, its commands, its error -/
theorem LedAt.boxed (h : LedAt w base P ld ds) (hk : Keeps (Own P.l) w w') {cv : Value} {ep e : Int} {cs : List Cm} (hb : w'.heap[P.l]? = some (.cells #[dP P.D.d, dP P.g, .int .i64 ep, cv, .int .i64 e] ledT (0, 0)))
    (hc : OwnOf cCm cmdT w base cv cs) (hn : ∀ i, cv.ownBlock = some i → ¬ LedS P i) (h0 : 0 ≤ ep) (h1 : ep ≤ 1099511627776) (hl : cs.length ≤ 64) : LedAt w' base ⟨P.l, P.D, P.g, P.v, P.p, P.b, cv⟩ ⟨ld.dk, ld.lg, ep, cs, e⟩ ds := by
  have hS : ∀ i, DeskS P.D i → ¬ Own P.l i := fun i hi e => h.nl.1 (by have e : i = P.l := e; exact e ▸ hi)
  have hL : ∀ i, LogSS P i → ¬ Own P.l i := fun i hi e => h.nl.2 (by have e : i = P.l := e; exact e ▸ hi)
  exact ⟨hb, h.desk.kept hk hS (fun e => h.nm (.inl e)), h.log.kept hk hL, hk.owns h.own (fun i hi => hL i (.inr (.inr (.inr hi)))), hk.owns hc (fun i hi e => hn i hi (.inl e)), h.dl, h.nl, hn, h.nm, h.bl, h0, h1, hl⟩
end
end Go.Proofs.YtndjnkjcfdaegaaGreatDoor

/-
  What a record says is done (ledger.fold). No conditions of its own.
-/
namespace Go.Proofs.YtndjnkjcfdaegaaGreatDoor
open Go.RowKit Go.Shelf Go.Sort Go.Joins Go.Deep

abbrev recT : TypeId := 68
section
variable {w w' : World} {base : Nat} {P : Lp} {ld : Ld} {ds : Ds} {S : Nat → Prop}
theorem LedAt.own_off {cv : Value} (hn : ∀ i, cv.ownBlock = some i → ¬ LedS P i) : ∀ i, cv.ownBlock = some i → ¬ Own P.l i := fun i hi e => hn i hi (.inl e)
theorem LedAt.box_ep (h : LedAt w base P ld ds) {n : Int} (h0 : 0 ≤ n) (h1 : n ≤ 1099511627776) : LedAt (w.setCell ⟨P.l, 2, none⟩ (.int .i64 n)) base P ⟨ld.dk, ld.lg, n, ld.cmds, ld.e⟩ ds :=
  h.boxed (keepsCell _ _ _ _) (heap_setCell_at h.box _) h.cm h.nc h0 h1 h.cl
theorem LedAt.box_cv (h : LedAt w base P ld ds) {cv : Value} {cs : List Cm} (hc : OwnOf cCm cmdT w base cv cs) (hn : ∀ i, cv.ownBlock = some i → ¬ LedS P i) (hl : cs.length ≤ 64) : LedAt (w.setCell ⟨P.l, 3, none⟩ cv) base ⟨P.l, P.D, P.g, P.v, P.p, P.b, cv⟩ ⟨ld.dk, ld.lg, ld.ep, cs, ld.e⟩ ds :=
  h.boxed (keepsCell _ _ _ _) (heap_setCell_at h.box _) hc hn h.e0 h.e1 hl
theorem LedAt.box_e (h : LedAt w base P ld ds) (e : Int) : LedAt (w.setCell ⟨P.l, 4, none⟩ (.int .i64 e)) base P ⟨ld.dk, ld.lg, ld.ep, ld.cmds, e⟩ ds :=
  h.boxed (keepsCell _ _ _ _) (heap_setCell_at h.box _) h.cm h.nc h.e0 h.e1 h.cl
theorem Keeps.ofL {l : Nat} (h : l = P.l) (k : Keeps (Own l) w w') : Keeps (LedS P) w w' := k.mono (fun i _ e => .inl (by have e : i = l := e; rw [e, h]))
theorem LedPost.no (h : LedAt w base P ld ds) (k : Keeps No w w') : LedPost w base P ld ds w' := ⟨P, h.no k, k.mono (fun _ _ h => h.elim), fun _ hi => .inl hi, ⟨rfl, rfl, rfl, rfl, rfl, fun _ hi => .inl hi⟩⟩
/-- Keeps No ahead -/
theorem LedPost.after {ld' : Ld} {ds' : Ds} {w1 : World} (k : Keeps No w w1) (h : LedPost w1 base P ld' ds' w') : LedPost w base P ld' ds' w' := LedPost.trans (k.mono (fun _ _ h => h.elim)) (fun _ hi => .inl hi) ⟨rfl, rfl, rfl, rfl, rfl, fun _ hi => .inl hi⟩ h
def FoldPost (w : World) (base : Nat) (P : Lp) (x : Int × Ld) (ds : Ds) (e : Ending) (w' : World) : Prop := e = .returned (.int .i64 x.1) ∧ LedPost w base P x.2 ds w'
set_option maxRecDepth 100000 in
set_option maxHeartbeats 4000000 in
theorem fold_1 (h : LedAt w base P ld ds) (r : Lr) (v : Value) (hm : mayL r = true) (hk : r.k = 1) : Calls Tryz.prog 21 #[dP P.l, lrV r v] w (FoldPost w base P (ld.fold r) ds) := by
  obtain ⟨c0, _, c2, c3, _⟩ := h.cells
  have ll : P.l < w.heap.size := h.lt _ (.inl rfl)
  obtain ⟨E, hE⟩ : ∃ x, x = ld.fold r := ⟨_, rfl⟩
  rw [← hE]
  have b1 : (r.k == 1) = true := by rw [hk]; rfl
  have h0 := may_1 hk
  rw [hm] at h0
  have h1 := okI_iff.1 ((Bool.and_eq_true _ _).mp h0.symm).1
  have hE1 : E = bif decide (r.n = ld.ep + 1) then (0, ⟨⟨ld.dk.z, lapseP ld.dk.pl, ld.dk.q, ld.dk.t, ld.dk.o⟩, ld.lg, r.n, ld.cmds, ld.e⟩) else (14, ld) := by
    rw [hE]; unfold Ld.fold; rw [decide_eq_true hk, cond_true]
  have e0 := h.e0
  have e1 := h.e1
  have f2 : w.frozen? ⟨P.l, 2, none⟩ = false := frozen_of_row _ _ _ _ _ h.box
  have H := Lib.hid h
  have HE := Lib.hid hE1
  have HR := Lib.hid h1
  clear h hE hE1 h0 h1 hm hk
  by_cases ht : r.n = ld.ep + 1
  case neg =>
    have HE2 : Hid (E = (14, ld)) := Lib.hid (by rw [HE.out, decide_eq_false ht]; rfl)
    have bt : (r.n != ld.ep + 1) = true := by simpa using ht
    clear ht
    go_enter Tryz.func21, Tryz.ntmps21
    go_upto_region 3 with fail
    go_region
    all_goals go_wp2
    all_goals go_ret
    all_goals exact ⟨by rw [HE2.out]; rfl, by rw [HE2.out]; exact LedPost.no H.out (((Keeps.refl _).alloc _).drew)⟩
  have HE2 : Hid (E = (0, ⟨⟨ld.dk.z, lapseP ld.dk.pl, ld.dk.q, ld.dk.t, ld.dk.o⟩, ld.lg, r.n, ld.cmds, ld.e⟩)) := Lib.hid (by rw [HE.out, decide_eq_true ht]; rfl)
  have bt : (r.n != ld.ep + 1) = false := by simpa using ht
  clear ht
  go_enter Tryz.func21, Tryz.ntmps21
  go_upto_region 3 with fail
  go_region
  go_upto_region 5 with fail
  refine wp_world ?_
  intro W1 hW1
  have K1 : Hid (Keeps No w W1) := Lib.hid (by rw [hW1]; exact ((Keeps.refl _).alloc _).drew)
  have d0 := K1.out.cell c0 (fun h => h)
  have d2 := K1.out.cell c2 (fun h => h)
  have g2 : W1.frozen? ⟨P.l, 2, none⟩ = false := frozen_of_row _ _ _ _ _ (K1.out.heap H.out.box (fun h => h))
  have m1 : W1.cell? ⟨w.heap.size, 1, none⟩ = some (.int .i64 r.n) := by rw [hW1]; simp [go_sem]
  have H1 := Lib.hid (H.out.no K1.out)
  have H2 := Lib.hid (H1.out.box_ep (n := r.n) (by have := HR.out; omega) HR.out.2)
  have CL := Lib.hid (deskLapse_any H2.out.desk)
  clear hW1 c0 c2 c3 f2
  go_wp2_with fail
  (with_reducible refine CL.out.mono ?_)
  rintro e w6 ⟨⟨n, rfl⟩, hp⟩
  have P6 := Lib.hid (H2.out.deskPost hp)
  clear hp
  go_wp2
  go_ret
  exact ⟨by rw [HE2.out]; rfl, by rw [HE2.out]; exact LedPost.after K1.out (LedPost.trans (Keeps.ofL rfl (keepsCell _ _ _ _)) (fun _ hi => .inl hi) ⟨rfl, rfl, rfl, rfl, rfl, fun _ hi => .inl hi⟩ P6.out)⟩
set_option maxRecDepth 100000 in
set_option maxHeartbeats 4000000 in
theorem fold_2 (h : LedAt w base P ld ds) (r : Lr) (v : Value) (hk : r.k = 2) : Calls Tryz.prog 21 #[dP P.l, lrV r v] w (FoldPost w base P (ld.fold r) ds) := by
  obtain ⟨c0, _, c2, c3, _⟩ := h.cells
  have ll : P.l < w.heap.size := h.lt _ (.inl rfl)
  obtain ⟨E, hE⟩ : ∃ x, x = ld.fold r := ⟨_, rfl⟩
  rw [← hE]
  have b1 : (r.k == 1) = false := by rw [hk]; rfl
  have b2 : (r.k == 2) = true := by rw [hk]; rfl
  have hE1 : E = ((reserveP ld.dk.pl r.s r.i).1, ⟨⟨ld.dk.z, (reserveP ld.dk.pl r.s r.i).2, ld.dk.q, ld.dk.t, ld.dk.o⟩, ld.lg, ld.ep, ld.cmds, ld.e⟩) := by
    rw [hE]; unfold Ld.fold; rw [hk]; rfl
  have H := Lib.hid h
  have HE := Lib.hid hE1
  clear h hE hE1 hk
  go_enter Tryz.func21, Tryz.ntmps21
  go_upto_region 9 with fail
  refine wp_world ?_
  intro W1 hW1
  have K1 : Hid (Keeps No w W1) := Lib.hid (by rw [hW1]; exact (Keeps.refl _).alloc _)
  have d0 := K1.out.cell c0 (fun h => h)
  have m2 : W1.cell? ⟨w.heap.size, 2, none⟩ = some (.int .i64 r.s) := by rw [hW1]; simp [go_sem]
  have m3 : W1.cell? ⟨w.heap.size, 3, none⟩ = some (.int .i64 r.i) := by rw [hW1]; simp [go_sem]
  have H1 := Lib.hid (H.out.no K1.out.drew)
  have CL := Lib.hid (deskReserve_any H1.out.desk r.s r.i)
  have nl : Hid (¬ DeskS P.D P.l) := Lib.hid H.out.nl.1
  have nb : Hid (¬ DeskS P.D w.heap.size) := Lib.hid (fun e => by have := H.out.desk.lt e; omega)
  have KD : Hid (Keeps No w W1.drew) := Lib.hid K1.out.drew
  clear hW1 c0 c2 c3
  obtain ⟨X, hX⟩ : ∃ X, X = reserveP ld.dk.pl r.s r.i := ⟨_, rfl⟩
  rw [← hX] at CL HE
  clear hX
  go_region_held3 (fun w' => w'.cell? ⟨P.l, 0, none⟩ = some (dP P.D.d) ∧ w'.cell? ⟨w.heap.size, 2, none⟩ = some (.int .i64 r.s) ∧ w'.cell? ⟨w.heap.size, 3, none⟩ = some (.int .i64 r.i))
    (first | exact ⟨d0, m2, m3⟩ | assumption)
    (first
      | (go_at_call 54
         have hc := CL.out
         with_reducible refine hc.mono ?_
         clear hc
         rintro e w6 ⟨rfl, hp⟩
         have P6 := Lib.hid (LedPost.after KD.out (H1.out.deskPost hp))
         obtain ⟨_, _, hk6, _, _, _⟩ := hp
         have kk : Keeps (DeskS P.D) W1 w6 := ((Keeps.refl (S := No) W1).drew.mono (fun _ _ h => h.elim)).trans hk6 (fun _ _ h => h)
         have hS2 : w6.cell? ⟨P.l, 0, none⟩ = some (dP P.D.d) ∧ w6.cell? ⟨w.heap.size, 2, none⟩ = some (.int .i64 r.s) ∧ w6.cell? ⟨w.heap.size, 3, none⟩ = some (.int .i64 r.i) := ⟨kk.cell d0 nl.out, kk.cell m2 nb.out, kk.cell m3 nb.out⟩
         clear hk6 kk))
  all_goals go_wp2
  all_goals go_ret
  all_goals exact ⟨by rw [HE.out]; rfl, by rw [HE.out]; exact P6.out⟩
set_option maxRecDepth 100000 in
set_option maxHeartbeats 4000000 in
theorem fold_3 (h : LedAt w base P ld ds) (r : Lr) (v : Value) (hk : r.k = 3) : Calls Tryz.prog 21 #[dP P.l, lrV r v] w (FoldPost w base P (ld.fold r) ds) := by
  obtain ⟨c0, _, c2, c3, _⟩ := h.cells
  have ll : P.l < w.heap.size := h.lt _ (.inl rfl)
  obtain ⟨E, hE⟩ : ∃ x, x = ld.fold r := ⟨_, rfl⟩
  rw [← hE]
  have b1 : (r.k == 1) = false := by rw [hk]; rfl
  have b2 : (r.k == 2) = false := by rw [hk]; rfl
  have b3 : (r.k == 3) = true := by rw [hk]; rfl
  have hE1 : E = ((admitD ld.dk r.c).1, ⟨(admitD ld.dk r.c).2, ld.lg, ld.ep, ld.cmds, ld.e⟩) := by
    rw [hE]; unfold Ld.fold; rw [hk]; rfl
  have H := Lib.hid h
  have HE := Lib.hid hE1
  clear h hE hE1 hk
  go_enter Tryz.func21, Tryz.ntmps21
  go_upto_region 11 with fail
  refine wp_world ?_
  intro W1 hW1
  have K1 : Hid (Keeps No w W1) := Lib.hid (by rw [hW1]; exact (Keeps.refl _).alloc _)
  have d0 := K1.out.cell c0 (fun h => h)
  have m4 : cellsAt W1 w.heap.size 4 16 = some (cmC r.c) := by rw [hW1]; simp [go_sem]
  have H1 := Lib.hid (H.out.no K1.out.drew)
  have CL := Lib.hid (deskAdmit_any H1.out.desk r.c)
  have nl : Hid (¬ DeskS P.D P.l) := Lib.hid H.out.nl.1
  have nb : Hid (¬ DeskS P.D w.heap.size) := Lib.hid (fun e => by have := H.out.desk.lt e; omega)
  have KD : Hid (Keeps No w W1.drew) := Lib.hid K1.out.drew
  clear hW1 c0 c2 c3
  obtain ⟨X, hX⟩ : ∃ X, X = admitD ld.dk r.c := ⟨_, rfl⟩
  rw [← hX] at CL HE
  clear hX
  go_region_held3 (fun w' => w'.cell? ⟨P.l, 0, none⟩ = some (dP P.D.d) ∧ cellsAt w' w.heap.size 4 16 = some (cmC r.c))
    (first | exact ⟨d0, m4⟩ | assumption)
    (first
      | (go_at_call 55
         have hc := CL.out
         with_reducible refine hc.mono ?_
         clear hc
         rintro e w6 ⟨rfl, hp⟩
         have P6 := Lib.hid (LedPost.after KD.out (H1.out.deskPost hp))
         obtain ⟨_, _, hk6, _, _, _⟩ := hp
         have kk : Keeps (DeskS P.D) W1 w6 := ((Keeps.refl (S := No) W1).drew.mono (fun _ _ h => h.elim)).trans hk6 (fun _ _ h => h)
         have hS2 : w6.cell? ⟨P.l, 0, none⟩ = some (dP P.D.d) ∧ cellsAt w6 w.heap.size 4 16 = some (cmC r.c) := ⟨kk.cell d0 nl.out, cellsAt_kept kk m4 nb.out⟩
         clear hk6 kk))
  all_goals go_wp2
  all_goals go_ret
  all_goals exact ⟨by rw [HE.out]; rfl, by rw [HE.out]; exact P6.out⟩
theorem openD_len (k : Dk) (h : k.ok) : (openD k).2.1.length ≤ 64 := by
  have := h.few
  unfold openD
  cases k.o || decide (1099511627776 ≤ k.t)
  · exact this
  · exact Nat.zero_le _
set_option maxRecDepth 100000 in
set_option maxHeartbeats 4000000 in
theorem fold_4 (h : LedAt w base P ld ds) (r : Lr) (v : Value) (hk : r.k = 4) : Calls Tryz.prog 21 #[dP P.l, lrV r v] w (FoldPost w base P (ld.fold r) ds) := by
  obtain ⟨c0, _, c2, c3, _⟩ := h.cells
  have ll : P.l < w.heap.size := h.lt _ (.inl rfl)
  obtain ⟨E, hE⟩ : ∃ x, x = ld.fold r := ⟨_, rfl⟩
  rw [← hE]
  have b1 : (r.k == 1) = false := by rw [hk]; rfl
  have b2 : (r.k == 2) = false := by rw [hk]; rfl
  have b3 : (r.k == 3) = false := by rw [hk]; rfl
  have b4 : (r.k == 4) = true := by rw [hk]; rfl
  have hE1 : E = ((openD ld.dk).2.2.1, ⟨(openD ld.dk).2.2.2, ld.lg, ld.ep, (openD ld.dk).2.1, ld.e⟩) := by
    rw [hE]; unfold Ld.fold; rw [hk]; rfl
  have hlen := openD_len ld.dk h.desk.ok
  have H := Lib.hid h
  have HE := Lib.hid hE1
  have HL := Lib.hid hlen
  clear h hE hE1 hk hlen
  go_enter Tryz.func21, Tryz.ntmps21
  go_upto_region 13 with fail
  refine wp_world ?_
  intro W1 hW1
  have K1 : Hid (Keeps No w W1) := Lib.hid (by rw [hW1]; exact (Keeps.refl _).alloc _)
  have d0 := K1.out.cell c0 (fun h => h)
  have H1 := Lib.hid (H.out.no K1.out)
  have CL := Lib.hid (deskOpen_any H1.out.desk)
  obtain ⟨X, hX⟩ : ∃ X, X = openD ld.dk := ⟨_, rfl⟩
  rw [← hX] at CL HE HL
  clear hX hW1 c0 c2
  go_wp2_with fail
  (with_reducible refine CL.out.mono ?_)
  rintro e w6 ⟨D', cv, rfl, a1, a6, a7, a2, a3, a4, a5⟩
  obtain ⟨qa, qc, hcv⟩ := ownsRow_slice a6
  subst hcv
  obtain ⟨b1, b2⟩ := H1.out.desk' a1 a2 a3 a4 a5
  have hn : ∀ i, (Value.slice qa X.2.1.length qc).ownBlock = some i → ¬ LedS ⟨P.l, D', P.g, P.v, P.p, P.b, P.cv⟩ i := by
    intro i hi e
    obtain ⟨n1, n2⟩ := a7 i hi
    rcases e with e | e | e
    · have e : i = P.l := e
      exact H1.out.nl.1 (e ▸ n1)
    · exact n2 e
    · exact H1.out.dl i n1 e
  have B2 := b1.box_cv a6 hn HL.out
  have P6 : Hid (LedPost w base P ⟨X.2.2.2, ld.lg, ld.ep, X.2.1, ld.e⟩ ds (w6.setCell ⟨P.l, 3, none⟩ (.slice qa X.2.1.length qc))) := Lib.hid
    ⟨_, B2, ((K1.out.mono (fun _ _ h => h.elim)).trans (a2.mono (fun i _ e => .inr (.inl e))) (fun _ _ h => h)).trans (Keeps.ofL rfl (keepsCell _ _ _ _)) (fun _ _ h => h), fun i hi => by
      rcases b2 i hi with e | e
      · exact .inl e
      · exact .inr (Nat.le_trans K1.out.size e), rfl, rfl, rfl, rfl, a5, fun i hi => .inr (.inl (.inr (.inl (a7 i hi).1)))⟩
  have g3 : w6.frozen? ⟨P.l, 3, none⟩ = false := frozen_of_row _ _ _ _ _ b1.box
  have d3 := b1.cells.2.2.2.1
  simp only at d3
  have R6 : Hid (E.1 = X.2.2.1 ∧ E.2 = ⟨X.2.2.2, ld.lg, ld.ep, X.2.1, ld.e⟩) := Lib.hid ⟨by rw [HE.out], by rw [HE.out]⟩
  clear a1 a2 a3 a4 a5 a6 a7 b1 b2 hn B2 HE
  go_wp2
  go_ret
  exact ⟨by rw [R6.out.1]; rfl, by rw [R6.out.2]; exact P6.out⟩
set_option maxRecDepth 100000 in
set_option maxHeartbeats 4000000 in
theorem fold_5 (h : LedAt w base P ld ds) (r : Lr) (v : Value) (hv : RdOf cNam w v r.ids) (hm : mayL r = true) (hd : ∀ i, v.ownBlock = some i → ¬ LedS P i) (hk : r.k = 5) : Calls Tryz.prog 21 #[dP P.l, lrV r v] w (FoldPost w base P (ld.fold r) ds) := by
  obtain ⟨c0, _, c2, c3, _⟩ := h.cells
  have ll : P.l < w.heap.size := h.lt _ (.inl rfl)
  obtain ⟨E, hE⟩ : ∃ x, x = ld.fold r := ⟨_, rfl⟩
  rw [← hE]
  have b1 : (r.k == 1) = false := by rw [hk]; rfl
  have b2 : (r.k == 2) = false := by rw [hk]; rfl
  have b3 : (r.k == 3) = false := by rw [hk]; rfl
  have b4 : (r.k == 4) = false := by rw [hk]; rfl
  have hE1 : E = ((closeD ld.dk r.ids).2.1, ⟨(closeD ld.dk r.ids).2.2, ld.lg, ld.ep, [], ld.e⟩) := by
    rw [hE]; unfold Ld.fold; rw [hk]; rfl
  have hl := (may_sizes hm).2.2 hk
  have H := Lib.hid h
  have HE := Lib.hid hE1
  have HL := Lib.hid hl
  have HV := Lib.hid hv
  have HD := Lib.hid hd
  clear h hE hE1 hk hl hv hd hm
  go_enter Tryz.func21, Tryz.ntmps21
  go_upto_region 16 with fail
  refine wp_world ?_
  intro W1 hW1
  have K1 : Hid (Keeps No w W1) := Lib.hid (by rw [hW1]; exact (Keeps.refl _).alloc _)
  have d0 := K1.out.cell c0 (fun h => h)
  have m20 : W1.cell? ⟨w.heap.size, 20, none⟩ = some v := by rw [hW1]; simp [go_sem]
  have H1 := Lib.hid (H.out.no K1.out.drew)
  have CL := Lib.hid (deskClose_any H1.out.desk v r.ids (HV.out.kept K1.out.drew (fun _ _ h => h)) (by have := HL.out; omega) (fun i hi e => HD.out i hi (.inr (.inl e))))
  have nl : Hid (¬ DeskS P.D P.l) := Lib.hid H.out.nl.1
  have nb : Hid (¬ DeskS P.D w.heap.size) := Lib.hid (fun e => by have := H.out.desk.lt e; omega)
  have KD : Hid (Keeps No w W1.drew) := Lib.hid K1.out.drew
  clear hW1 c0 c2 c3
  obtain ⟨X, hX⟩ : ∃ X, X = closeD ld.dk r.ids := ⟨_, rfl⟩
  rw [← hX] at CL HE
  clear hX
  go_region_held3 (fun w' => w'.cell? ⟨P.l, 0, none⟩ = some (dP P.D.d) ∧ w'.cell? ⟨w.heap.size, 20, none⟩ = some v)
    (first | exact ⟨d0, m20⟩ | assumption)
    (first
      | (go_at_call 57
         have hc := CL.out
         with_reducible refine hc.mono ?_
         clear hc
         rintro e w6 ⟨rfl, hp⟩
         obtain ⟨P1, p1, p2, p3, p5⟩ := H1.out.deskPost hp
         have p4 := p5.l
         obtain ⟨_, _, hk6, _, _, _⟩ := hp
         have kk : Keeps (DeskS P.D) W1 w6 := ((Keeps.refl (S := No) W1).drew.mono (fun _ _ h => h.elim)).trans hk6 (fun _ _ h => h)
         have hS2 : w6.cell? ⟨P.l, 0, none⟩ = some (dP P.D.d) ∧ w6.cell? ⟨w.heap.size, 20, none⟩ = some v := ⟨kk.cell d0 nl.out, kk.cell m20 nb.out⟩
         have P6 : Hid (LedPost w base P ⟨X.2.2, ld.lg, ld.ep, [], ld.e⟩ ds (w6.setCell ⟨P.l, 3, none⟩ (.slice none 0 0))) := Lib.hid (LedPost.after KD.out (LedPost.trans p2 p3 p5 (by
           rw [← p4]
           exact ⟨_, p1.box_cv (World.ownsRow_nil _ _ _ _) (fun i hi => by cases hi) (Nat.zero_le _), Keeps.ofL rfl (keepsCell _ _ _ _), fun i hi => .inl hi, rfl, rfl, rfl, rfl, rfl, fun i hi => by cases hi⟩)))
         have g3 : w6.frozen? ⟨P.l, 3, none⟩ = false := frozen_of_row _ _ _ _ _ (by rw [← p4]; exact p1.box)
         have d3 : w6.cell? ⟨P.l, 3, none⟩ = some P1.cv := by rw [← p4]; exact p1.cells.2.2.2.1
         clear hk6 kk p1 p2 p3 p4 p5))
  all_goals go_wp2
  all_goals go_ret
  all_goals exact ⟨by rw [HE.out]; rfl, by rw [HE.out]; exact P6.out⟩
theorem ledFold_any (h : LedAt w base P ld ds) (r : Lr) (v : Value) (hv : RdOf cNam w v r.ids) (hm : mayL r = true) (hd : ∀ i, v.ownBlock = some i → ¬ LedS P i) : Calls Tryz.prog 21 #[dP P.l, lrV r v] w (FoldPost w base P (ld.fold r) ds) := by
  rcases may_kinds hm with e | e | e | e | e
  · exact fold_1 h r v hm e
  · exact fold_2 h r v e
  · exact fold_3 h r v e
  · exact fold_4 h r v e
  · exact fold_5 h r v hv hm hd e
end
end Go.Proofs.YtndjnkjcfdaegaaGreatDoor

/-
  What a ledger tells (Broken, Epoch, Tick, Cmds, Waiting, Alive), and nobody's answers; names are cloned. No conditions of their own.
-/
namespace Go.Proofs.YtndjnkjcfdaegaaGreatDoor
open Go.RowKit Go.Shelf Go.Sort Go.Joins Go.Deep

abbrev idT : TypeId := 36
set_option maxRecDepth 100000 in
theorem cloneNam (w : World) (v : Value) (l : List Nam) (hr : RdOf cNam w v l) (hl : l.length ≤ 100000) :
    Calls Tryz.prog 28 #[v] w fun e w' => ∃ v', e = .returned v' ∧ OwnOf cNam idT w' w.heap.size v' l ∧ Keeps No w w' := by
  obtain ⟨i0, hi, hz0, hz1, hz2⟩ := info_parts Tryz.infoID
  rcases hr.shape with ⟨rfl, hn⟩ | ⟨a, c, rfl, hc, hcm, hcell⟩
  · have hnil : l = [] := List.eq_nil_of_length_eq_zero hn
    subst hnil
    go_enter Tryz.func28, Tryz.ntmps28
    have hnil : ∀ w, (binOp .eql 66 (.slice none 0 0) (.slice none 0 0)).run Tryz.prog w = .ok (.bool true) w := fun w => by kernel_rfl
    go_wp2
    go_ret
    exact ⟨_, rfl, World.ownsRow_nil _ _ _ _, Keeps.refl _⟩
  · clear hcell
    have hnn : ∀ w, (binOp .eql 66 (.slice (some a) l.length c) (.slice none 0 0)).run Tryz.prog w = .ok (.bool false) w := fun w => Lib.run_eql_slice_nil w _ 36 _ _ _ _ _ Tryz.underlying66
    have hr' : Reads (w.alloc (.cells #[] 36)) 3 (.slice (some a) l.length c) l.length (rowsOf cNam l) := hr.kept ((Keeps.refl (S := No) w).alloc _) (fun _ _ h => h)
    have hlit : (w.alloc (.cells #[] 36)).ownsRow w.heap.size 36 3 (.slice (some ⟨w.heap.size, 0, none⟩) 0 0) 0 [] := World.ownsRow_lit w #[] 0 (Nat.le_refl _) (Nat.zero_le _) rfl
    have Hl := Lib.hid hl; clear hl
    go_enter Tryz.func28, Tryz.ntmps28
    go_wp2_with (at_builtin; refine wpList_append_reads rfl (.tmp 5) (.tmp 6) 66 rfl w.heap.size 36 i0 _ 3 24 Tryz.underlying66 hi hz0 hz1 hz2 rfl (by decide) _ 0 [] rfl hlit _ _ _ rfl hr' ?c1 ?c2 ?c3 ?c4)
    case c1 => have := Hl.out; unfold maxLen; omega
    case c2 => have := Hl.out; omega
    case c3 => simp
    case c4 =>
      intro v' w1 hown hk _ _
      go_wp2
      go_ret
      refine ⟨_, rfl, hown, ((Keeps.refl (S := No) w).alloc _).trans hk (fun i hi h => ?_)⟩
      simp [Of, Value.ownBlock] at h
      omega
section
variable {w w' : World} {base : Nat} {P : Lp} {ld : Ld} {ds : Ds}
set_option maxRecDepth 100000 in
theorem ledbroken_any (h : LedAt w base P ld ds) : Calls Tryz.prog 23 #[dP P.l] w fun e w' => e = .returned (.int .i64 ld.e) ∧ w' = w := by
  have c4 := h.cells.2.2.2.2
  clear h
  go_enter Tryz.func23, Tryz.ntmps23
  go_wp2
  go_ret
  exact ⟨rfl, rfl⟩
set_option maxRecDepth 100000 in
theorem ledCmds_any (h : LedAt w base P ld ds) : Calls Tryz.prog 27 #[dP P.l] w fun e w' => ∃ v, e = .returned v ∧ OwnOf cCm cmdT w' w.heap.size v ld.cmds ∧ Keeps No w w' := by
  have c3 := h.cells.2.2.2.1
  have hc := h.cm
  obtain ⟨qa, qc, hq⟩ := ownsRow_slice hc
  rw [hq] at c3 hc
  have C := Lib.hid (cloneCm w (.slice qa ld.cmds.length qc) ld.cmds hc.reads' (by have := h.cl; omega))
  clear h hc hq
  go_enter Tryz.func27, Tryz.ntmps27
  go_wp2_with fail
  (with_reducible refine C.out.mono ?_)
  rintro e w1 ⟨v, rfl, ho, hk⟩
  have OO := Lib.hid (And.intro ho hk)
  clear ho hk
  go_wp2
  go_ret
  exact ⟨v, rfl, OO.out.1, OO.out.2⟩
end
end Go.Proofs.YtndjnkjcfdaegaaGreatDoor

/-
  Records are laid and done (ledger.write). No conditions of its own, but that the tables are laid.
-/
namespace Go.Proofs.YtndjnkjcfdaegaaGreatDoor
open Go.RowKit Go.Shelf Go.Sort Go.Joins Go.Deep

/-- a record in memory: its names lie in a slice -/
structure Rc where
  r : Lr
  a : Option Addr
  n : Nat
  c : Nat
abbrev Rc.v (x : Rc) : Value := .slice x.a x.n x.c
def cRec : Codec Rc where
  cells x := lrC x.r x.v
  size := 21
  len _ := rfl
  one x u hu := by
    simp only [List.mem_cons, List.not_mem_nil, or_false] at hu
    rcases hu with rfl | rfl | rfl | rfl | rfl | rfl | rfl | rfl | rfl | rfl | rfl | rfl | rfl | rfl | rfl | rfl | rfl | rfl | rfl | rfl | rfl <;> rfl
  pos := by decide
/-- records in a row, off the blocks of B -/
structure Recs (w : World) (B : Nat → Prop) (av : Value) (xs : List Rc) : Prop where
  rd : RdOf cRec w av xs
  off : ∀ i, av.ownBlock = some i → i < w.heap.size ∧ ¬ B i
  one : ∀ x ∈ xs, RdOf cNam w x.v x.r.ids ∧ mayL x.r = true ∧ ∀ i, x.v.ownBlock = some i → i < w.heap.size ∧ ¬ B i
theorem Recs.kept {w w' : World} {B : Nat → Prop} {av : Value} {xs : List Rc} (h : Recs w B av xs) (k : Keeps B w w') : Recs w' B av xs :=
  ⟨h.rd.kept k (fun i hi => (h.off i hi).2), fun i hi => ⟨Nat.lt_of_lt_of_le (h.off i hi).1 k.size, (h.off i hi).2⟩, fun x hx => by
    obtain ⟨a, b, c⟩ := h.one x hx
    exact ⟨a.kept k (fun i hi => (c i hi).2), b, fun i hi => ⟨Nat.lt_of_lt_of_le (c i hi).1 k.size, (c i hi).2⟩⟩⟩
/-! ### what write makes, by how the log answered -/
section
variable {l : Ld} {d : Ds} {rs : List Lr} {e : Int} {g : Lg} {d1 : Ds}
theorem Ld.lay_no (h : l.lg.append d (textsOf rs) = (e, g, d1)) (he : ¬ e = 0) : l.lay d rs = (e, g, d1) := by
  unfold Ld.lay
  rw [h, decide_eq_false he, cond_false]
theorem Ld.lay_on (h : l.lg.append d (textsOf rs) = (0, g, d1)) : l.lay d rs = ((g.sync d1).1, g, (g.sync d1).2) := by
  unfold Ld.lay
  rw [h]
  rfl
theorem Ld.write_no (h : l.lay d rs = (e, g, d1)) (he : ¬ e = 0) : l.write d rs = (e, ⟨l.dk, g, l.ep, l.cmds, e⟩, d1) := by
  unfold Ld.write
  rw [h, decide_eq_false he, cond_false]
theorem Ld.write_ok (h : l.lay d rs = (0, g, d1)) : l.write d rs = (0, Ld.run ⟨l.dk, g, l.ep, l.cmds, 0⟩ rs, d1) := by
  unfold Ld.write
  rw [h]
  rfl
theorem Ld.run_snoc (l : Ld) (rs : List Lr) (r : Lr) : l.run (rs ++ [r]) = ((l.run rs).fold r).2 := by
  unfold Ld.run
  rw [List.foldl_append]
  rfl
end
section
variable {w w' : World} {base : Nat} {P : Lp} {ld : Ld} {ds : Ds}
/-- the log is another one -/
theorem LedAt.logged (h : LedAt w base P ld ds) {v1 : Value} {g1 : Lg} {d1 : Ds} (hW : WLog w' base P.g P.p P.b v1 g1 d1) (hO : OwnInts w' base v1 g1.firsts) (hN : Newer w P.v v1) (hK : Keeps (LogSS P) w w') :
    LedAt w' base ⟨P.l, P.D, P.g, v1, P.p, P.b, P.cv⟩ ⟨ld.dk, g1, ld.ep, ld.cmds, ld.e⟩ d1 ∧ (∀ i, LedS ⟨P.l, P.D, P.g, v1, P.p, P.b, P.cv⟩ i → LedS P i ∨ w.heap.size ≤ i) := by
  have hg : ∀ i, LogSS ⟨P.l, P.D, P.g, v1, P.p, P.b, P.cv⟩ i → LogSS P i ∨ w.heap.size ≤ i := by
    intro i hi
    rcases hi with e | e | e | e
    · exact .inl (.inl e)
    · exact .inl (.inr (.inl e))
    · exact .inl (.inr (.inr (.inl e)))
    · rcases hN i e with e | e
      · exact .inl (.inr (.inr (.inr e)))
      · exact .inr e
  refine ⟨⟨hK.heap h.box h.nl.2, h.desk.kept hK (fun i hi => h.dl i hi) (fun e => h.nm (.inr (.inr e))), hW, hO, hK.owns h.cm (fun i hi e => h.nc i hi (.inr (.inr e))), fun i hi e => ?_, ⟨h.nl.1, fun e => ?_⟩, fun i hi e => ?_, fun e => ?_, h.bl, h.e0, h.e1, h.cl⟩, fun i hi => ?_⟩
  · rcases hg i e with e | e
    · exact h.dl i hi e
    · have := h.desk.lt hi
      omega
  · rcases hg _ e with e | e
    · exact h.nl.2 e
    · have := h.lt _ (.inl rfl)
      simp only at e
      omega
  · rcases e with e | e | e
    · exact h.nc i hi (.inl e)
    · exact h.nc i hi (.inr (.inl e))
    · rcases hg i e with e | e
      · exact h.nc i hi (.inr (.inr e))
      · have := (h.cm.lt i hi).2
        omega
  · rcases e with e | e | e
    · exact h.nm (.inl e)
    · exact h.nm (.inr (.inl e))
    · rcases hg _ e with e | e
      · exact h.nm (.inr (.inr e))
      · have := cellsAt_block h.desk.map
        simp only at e
        omega
  · rcases hi with e | e | e
    · exact .inl (.inl e)
    · exact .inl (.inr (.inl e))
    · rcases hg i e with e | e
      · exact .inl (.inr (.inr e))
      · exact .inr e
theorem LedAt.disked (h : LedAt w base P ld ds) {d1 : Ds} (hW : WLog w' base P.g P.p P.b P.v ld.lg d1) (hK : Keeps (Two P.p P.b) w w') : LedAt w' base P ld d1 :=
  (h.logged hW (hK.owns h.own (fun i hi e => by rcases e with e | e; exact h.log.vp (e ▸ hi); exact h.log.vb (e ▸ hi))) (fun i hi => .inl hi) (two_log hK)).1
theorem Laid.led (hL : Laid w base) (h : LedAt w base P ld ds) (k : Keeps (LedS P) w w') : Laid w' base := hL.kept k h.le
/-- the texts of records -/
def recText (x : Rc) : ByteArray := toB (encL x.r).1
theorem textsOf_recs (xs : List Rc) : textsOf (xs.map Rc.r) = xs.map recText := by
  unfold textsOf
  rw [List.map_map]
  rfl
def WritePost (w : World) (base : Nat) (P : Lp) (x : Int × Ld × Ds) (e : Ending) (w' : World) : Prop := e = .returned (.int .i64 x.1) ∧ LedPost w base P x.2.1 x.2.2 w'
set_option maxRecDepth 100000 in
set_option maxHeartbeats 4000000 in
theorem ledWrite_any (hL : Laid w base) (hb : base ≤ w.heap.size) (h : LedAt w base P ld ds) (av : Value) (xs : List Rc) (hx : Recs w (LedS P) av xs) (hxl : xs.length ≤ 1000)
    (hnx : ld.lg.next + xs.length ≤ 1000000000000) (hfl : ld.lg.firsts.length + xs.length ≤ 1000000) : Calls Tryz.prog 22 #[dP P.l, av] w (WritePost w base P (ld.write ds (xs.map Rc.r))) := by
  obtain ⟨i0, hi, hz0, hz1, hz2⟩ := info_parts Tryz.infoStr
  obtain ⟨va, vc, rfl⟩ := RdOf.slice hx.rd
  obtain ⟨_, c1, _, _, c4⟩ := h.cells
  have ll : P.l < w.heap.size := h.lt _ (.inl rfl)
  have hlen : (xs.length : Int) ≤ 1000 := by omega
  obtain ⟨E, hE⟩ : ∃ x, x = ld.write ds (xs.map Rc.r) := ⟨_, rfl⟩
  rw [← hE]
  have H := Lib.hid h
  have HL := Lib.hid hL
  have Hb := Lib.hid hb
  have HX := Lib.hid hx
  have HE := Lib.hid hE
  have Hnx := Lib.hid hnx
  have Hfl := Lib.hid hfl
  clear h hL hb hx hE hnx hfl
  go_enter Tryz.func22, Tryz.ntmps22
  go_wp2
  go_loopw [5, 14] (fun o q wr => ∃ k : Nat, k ≤ xs.length ∧ q = .int .i64 k ∧ wr.ownsRow w.heap.size 9 1 o k ((xs.take k).map fun x => .string (recText x)) ∧ Keeps No w wr) (fun _ q _ => xs.length - (intOf q).toNat)
  case atStart => exact ⟨0, Nat.zero_le _, rfl, World.ownsRow_nil _ _ _ _, Keeps.refl _⟩
  case round =>
    obtain ⟨k, hk, rfl, hrow, hK⟩ := hrel
    have hk0 : (0 : Int) ≤ (k : Int) := by omega
    obtain ⟨oa, oc, rfl⟩ := ownsRow_slice hrow
    have HO := Lib.hid hrow
    have HK := Lib.hid hK
    by_cases hlt : k < xs.length
    · have hji : (k : Int) < (xs.length : Int) := by omega
      have hrr : RdOf cRec wr (.slice va xs.length vc) xs := HX.out.rd.kept hK (fun _ _ h => h)
      obtain ⟨g, off, rfl, _, _, lg⟩ := RdOf.addr cRec hrr (by omega)
      have cr : cellsAt wr g (off + k * 21) 21 = some (lrC xs[k].r xs[k].v) := RdOf.at cRec hrr k hlt
      obtain ⟨x1, x2, x3⟩ := HX.out.one xs[k] (List.getElem_mem hlt)
      have htk : xs.take (k + 1) = xs.take k ++ [xs[k]] := List.take_succ_eq_append_getElem hlt
      obtain ⟨x, hx⟩ : ∃ x, x = xs[k] := ⟨_, rfl⟩
      rw [← hx] at cr x1 x2 x3 htk
      have HT := Lib.hid htk
      have HV := Lib.hid (x1.kept hK (fun _ _ h => h))
      have HM := Lib.hid x2
      clear hrow hK hrr x1 x2 x3 htk hx
      go_upto_region 5 with fail
      refine wp_world ?_
      intro W hW
      have KW : Hid (Keeps No w W) := Lib.hid (HK.out.trans (by rw [hW]; exact (Keeps.refl _).alloc _) (fun _ _ h => h))
      have HO2 : Hid (W.ownsRow w.heap.size 9 1 (.slice oa k oc) k ((xs.take k).map fun x => .string (recText x))) := Lib.hid (by rw [hW]; exact ((Keeps.refl (S := No) wr).alloc _).owns HO.out (fun _ _ h => h))
      have b0 : cellsAt W wr.heap.size 0 21 = some (lrC x.r x.v) := by rw [hW]; simp [go_sem]
      have CE : Hid (Calls Tryz.prog 58 #[lrV x.r x.v] W fun e w' => e = .returned (.tuple #[.string (recText x), .int .i64 (encL x.r).2]) ∧ Keeps No W w') := Lib.hid (encode_any W x.r x.v (HV.out.kept (by rw [hW]; exact (Keeps.refl (S := No) wr).alloc _) (fun _ _ h => h)))
      have hws : w.heap.size ≤ wr.heap.size := HK.out.size
      clear hW cr HO HK
      go_wp2_with fail
      (with_reducible refine CE.out.mono ?_)
      rintro e w1 ⟨rfl, hk1⟩
      have K1 : Hid (Keeps No w w1) := Lib.hid (KW.out.trans hk1 (fun _ _ h => h))
      have Ho1 := Lib.hid (hk1.owns HO2.out (fun _ _ h => h))
      obtain ⟨T, hT⟩ : ∃ T, T = recText x := ⟨_, rfl⟩
      rw [← hT]
      have HTx := Lib.hid hT
      clear hk1 b0 CE HO2 hT
      go_wp2_with (at_builtin; refine wpList_append_own _ rfl _ _ 61 rfl w.heap.size 9 i0 (.string ⟨#[]⟩) 1 16 Tryz.underlying61 hi hz0 hz1 hz2 rfl (by decide) _ _ _ rfl (Ho1.out.alloc _) ⟨w1.heap.size, 0, none⟩ 1 1 [.string T] rfl rfl (cell_one_new _ _ _) (by simp [Value.oneCell']) (by unfold maxLen; omega) (by omega) (by have := K1.out.size; simp; omega) ?_; intro v' w2 hown2 hk2 _)
      have Ho2 := Lib.hid hown2
      have K2 : Hid (Keeps No w w2) := Lib.hid ((K1.out.alloc _).grown hk2 (fun i hi hlt => absurd hlt (Nat.not_lt.2 (Ho1.out.lt i hi).1)))
      clear hown2 hk2
      go_wp2
      go_roundw
      case rel =>
        refine ⟨k + 1, by omega, by go_num, ?_, K2.out⟩
        have h := Ho2.out
        rw [HT.out, List.map_append, List.map_singleton, ← HTx.out]
        exact h
      case measure => simp [intOf]; omega
    · have hjn : k = xs.length := by omega
      have hji : ¬ ((k : Int) < (xs.length : Int)) := by omega
      subst hjn
      have hws : w.heap.size ≤ wr.heap.size := hK.size
      have d1 := hK.cell c1 (fun h => h)
      have HR := Lib.hid (H.out.no hK)
      have hrd : RdStr wr (.slice oa xs.length oc) (xs.map recText) := by
        have h := Reads.ofOwn hrow (by intro u hu; obtain ⟨t, _, rfl⟩ := List.mem_map.1 hu; rfl)
        unfold RdStr
        rw [List.length_map, List.map_map]
        rw [List.take_length] at h
        exact h
      obtain ⟨⟨e1, g1, s1⟩, hA⟩ : ∃ x, ld.lg.append ds (textsOf (xs.map Rc.r)) = x := ⟨_, rfl⟩
      have HA := Lib.hid hA
      have CA := Lib.hid (appendLog_any (HL.out.kept hK (fun _ h => h.elim)) (Nat.le_trans Hb.out hws) HR.out.log HR.out.own (.slice oa xs.length oc) (xs.map recText) hrd (fun i hi e => by have h1 := (hrow.lt i hi).1; have h2 := logS_lt H.out.log H.out.own i e; omega)
        (by rw [List.length_map]; exact Hnx.out) (by rw [List.length_map]; exact Hfl.out) e1 g1 s1 (by rw [← textsOf_recs]; exact hA))
      clear hrow hK hrd hA
      go_wp2_with fail
      (with_reducible refine CA.out.mono ?_)
      rintro e w1 ⟨rfl, v1, hW1, hO1, hN1, hK1⟩
      obtain ⟨z1, z2⟩ := HR.out.logged hW1 hO1 hN1 hK1
      have L1 := Lib.hid z1
      have N1 : Hid (∀ i, LedS ⟨P.l, P.D, P.g, v1, P.p, P.b, P.cv⟩ i → LedS P i ∨ w.heap.size ≤ i) := Lib.hid (fun i hi => (z2 i hi).imp id (Nat.le_trans hws))
      have K1 : Hid (Keeps (LedS P) w w1) := Lib.hid ((HK.out.mono (fun _ _ h => h.elim)).trans hK1 (fun i _ e => .inr (.inr e)))
      have a4 := (z1.cells).2.2.2.2
      have f4 : w1.frozen? ⟨P.l, 4, none⟩ = false := frozen_of_row _ _ _ _ _ z1.box
      simp only at a4
      clear hW1 hO1 hN1 hK1 z1 z2 CA HR HO HK
      go_upto_region 9 with fail
      refine wp_world ?_
      intro W1 hW1
      have L2 : Hid (LedAt W1 base ⟨P.l, P.D, P.g, v1, P.p, P.b, P.cv⟩ ⟨ld.dk, g1, ld.ep, ld.cmds, e1⟩ s1) := Lib.hid (by rw [hW1]; exact L1.out.box_e e1)
      have K2 : Hid (Keeps (LedS P) w W1) := Lib.hid (K1.out.trans (by rw [hW1]; exact Keeps.ofL rfl (keepsCell _ _ _ _)) (fun _ _ h => h))
      have a4' : W1.cell? ⟨P.l, 4, none⟩ = some (.int .i64 e1) := L2.out.cells.2.2.2.2
      have a1' : W1.cell? ⟨P.l, 1, none⟩ = some (dP P.g) := L2.out.cells.2.1
      have f4' : W1.frozen? ⟨P.l, 4, none⟩ = false := frozen_of_row _ _ _ _ _ L2.out.box
      clear hW1 a4 f4 L1 K1 d1
      by_cases h1 : e1 = 0
      case neg =>
        have HE2 : Hid (E = (e1, ⟨ld.dk, g1, ld.ep, ld.cmds, e1⟩, s1)) := Lib.hid (by rw [HE.out]; exact Ld.write_no (Ld.lay_no HA.out h1) h1)
        have b1 : (e1 == 0) = false := by simpa using h1
        have b2 : (e1 != 0) = true := by simpa using h1
        clear h1
        go_wp2
        go_ret
        exact ⟨by rw [HE2.out]; rfl, by rw [HE2.out]; exact ⟨_, L2.out, K2.out, N1.out, ⟨rfl, rfl, rfl, rfl, rfl, fun _ hi => .inl hi⟩⟩⟩
      subst h1
      obtain ⟨⟨e2, s2⟩, hS⟩ : ∃ x, g1.sync s1 = x := ⟨_, rfl⟩
      have HS := Lib.hid hS
      have CS := Lib.hid (syncLog_any (HL.out.led H.out K2.out) L2.out.log e2 s2 hS)
      clear hS
      go_wp2_with fail
      (with_reducible refine CS.out.mono ?_)
      rintro e w3 ⟨rfl, hW3, hK3⟩
      have L3 := Lib.hid (L2.out.disked hW3 hK3)
      have K3 : Hid (Keeps (LedS P) w w3) := Lib.hid (K2.out.trans hK3 (fun i _ e => by rcases e with e | e; exact .inr (.inr (.inr (.inl e))); exact .inr (.inr (.inr (.inr (.inl e))))))
      have c4' : w3.cell? ⟨P.l, 4, none⟩ = some (.int .i64 0) := L3.out.cells.2.2.2.2
      have g4' : w3.frozen? ⟨P.l, 4, none⟩ = false := frozen_of_row _ _ _ _ _ L3.out.box
      clear hW3 hK3 CS a1' a4' f4'
      go_upto_region 11 with fail
      refine wp_world ?_
      intro W4 hW4
      have L4 : Hid (LedAt W4 base ⟨P.l, P.D, P.g, v1, P.p, P.b, P.cv⟩ ⟨ld.dk, g1, ld.ep, ld.cmds, e2⟩ s2) := Lib.hid (by rw [hW4]; exact L3.out.box_e e2)
      have K4 : Hid (Keeps (LedS P) w W4) := Lib.hid (K3.out.trans (by rw [hW4]; exact Keeps.ofL rfl (keepsCell _ _ _ _)) (fun _ _ h => h))
      have a4' : W4.cell? ⟨P.l, 4, none⟩ = some (.int .i64 e2) := L4.out.cells.2.2.2.2
      clear hW4 c4' g4' L3 K3 L2 K2
      have HLY : Hid (ld.lay ds (xs.map Rc.r) = (e2, g1, s2)) := Lib.hid (by rw [Ld.lay_on HA.out, HS.out])
      by_cases h2 : e2 = 0
      case neg =>
        have HE2 : Hid (E = (e2, ⟨ld.dk, g1, ld.ep, ld.cmds, e2⟩, s2)) := Lib.hid (by rw [HE.out]; exact Ld.write_no HLY.out h2)
        have b2 : (e2 != 0) = true := by simpa using h2
        clear h2
        go_wp2
        go_ret
        exact ⟨by rw [HE2.out]; rfl, by rw [HE2.out]; exact ⟨_, L4.out, K4.out, N1.out, ⟨rfl, rfl, rfl, rfl, rfl, fun _ hi => .inl hi⟩⟩⟩
      subst h2
      have HE2 : Hid (E = (0, Ld.run ⟨ld.dk, g1, ld.ep, ld.cmds, 0⟩ (xs.map Rc.r), s2)) := Lib.hid (by rw [HE.out]; exact Ld.write_ok HLY.out)
      obtain ⟨L0, hL0⟩ : ∃ x, x = (⟨ld.dk, g1, ld.ep, ld.cmds, 0⟩ : Ld) := ⟨_, rfl⟩
      rw [← hL0] at HE2 L4
      have P0 : Hid (LedPost w base P L0 s2 W4) := Lib.hid ⟨_, L4.out, K4.out, N1.out, ⟨rfl, rfl, rfl, rfl, rfl, fun _ hi => .inl hi⟩⟩
      clear hL0 L4 K4 N1 HLY HS HA HE hji
      go_wp2_with fail
      go_loopw [61] (fun q wr => ∃ k : Nat, k ≤ xs.length ∧ q = .int .i64 k ∧ LedPost w base P (L0.run ((xs.map Rc.r).take k)) s2 wr) (fun q _ => xs.length - (intOf q).toNat)
      case atStart => exact ⟨0, Nat.zero_le _, rfl, P0.out⟩
      case round =>
        obtain ⟨k, hk, rfl, P', hP', hK', hN', pg⟩ := hrel
        have hk1 : (0 : Int) ≤ (k : Int) := by omega
        by_cases hlt : k < xs.length
        · have hji : (k : Int) < (xs.length : Int) := by omega
          have hXr := HX.out.kept hK'
          obtain ⟨g, off, rfl, _, _, lg⟩ := RdOf.addr cRec hXr.rd (by omega)
          have cr : cellsAt wr g (off + k * 21) 21 = some (lrC xs[k].r xs[k].v) := RdOf.at cRec hXr.rd k hlt
          obtain ⟨x1, x2, x3⟩ := hXr.one xs[k] (List.getElem_mem hlt)
          have x4 := (HX.out.one xs[k] (List.getElem_mem hlt)).2.2
          have htk : (xs.map Rc.r).take (k + 1) = (xs.map Rc.r).take k ++ [xs[k].r] := by
            rw [List.take_succ_eq_append_getElem (by rw [List.length_map]; exact hlt), List.getElem_map]
          obtain ⟨x, hx⟩ : ∃ x, x = xs[k] := ⟨_, rfl⟩
          rw [← hx] at cr x1 x2 x3 x4 htk
          have HT := Lib.hid htk
          have HV := Lib.hid x1
          have HM := Lib.hid x2
          have HF : Hid (∀ i, x.v.ownBlock = some i → ¬ LedS P' i) := Lib.hid (fun i hi e => by
            rcases hN' i e with e | e
            · exact (x4 i hi).2 e
            · have := (x4 i hi).1
              omega)
          have HP := Lib.hid hP'
          have HK2 := Lib.hid hK'
          have HN2 := Lib.hid hN'
          have HE3 := Lib.hid pg
          clear hXr x1 x2 x3 x4 htk hx hP' hK' hN' pg a4' hlt
          go_upto_region 16 with fail
          refine wp_world ?_
          intro W hW
          have kw : Keeps No wr W := by rw [hW]; exact (Keeps.refl _).alloc _
          have b0 : cellsAt W wr.heap.size 0 21 = some (lrC x.r x.v) := by rw [hW]; simp [go_sem]
          have CF : Hid (Calls Tryz.prog 21 #[dP P.l, lrV x.r x.v] W (FoldPost W base P' ((L0.run ((xs.map Rc.r).take k)).fold x.r) s2)) := Lib.hid (by
            rw [← HE3.out.l]
            exact ledFold_any (HP.out.no kw) x.r x.v (HV.out.kept kw (fun _ _ h => h)) HM.out HF.out)
          have KW : Hid (Keeps (LedS P) w W) := Lib.hid (HK2.out.trans kw (fun _ _ h => h.elim))
          clear hW kw cr
          go_wp2_with fail
          (with_reducible refine CF.out.mono ?_)
          rintro e w6 ⟨rfl, hp⟩
          have P6 : Hid (LedPost w base P (L0.run ((xs.map Rc.r).take (k + 1))) s2 w6) := Lib.hid (by
            rw [HT.out, Ld.run_snoc]
            exact LedPost.trans KW.out HN2.out HE3.out hp)
          clear hp b0 CF
          go_wp2
          go_roundw
          case rel => exact ⟨k + 1, by omega, by go_num, P6.out⟩
          case measure => simp [intOf]; omega
        · have hjn : k = xs.length := by omega
          have hji : ¬ ((k : Int) < (xs.length : Int)) := by omega
          have P6 : Hid (LedPost w base P E.2.1 E.2.2 wr) := Lib.hid (by
            rw [HE2.out]
            rw [List.take_of_length_le (by rw [List.length_map]; omega)] at hP'
            exact ⟨P', hP', hK', hN', pg⟩)
          clear hP' hK' hN' pg
          go_wp2
          go_ret
          exact ⟨by rw [HE2.out]; rfl, P6.out⟩
end
end Go.Proofs.YtndjnkjcfdaegaaGreatDoor

