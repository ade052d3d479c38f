/-
  A tick is opened and closed (ledger.Begin, End). No conditions of their own, but that the tables are laid.
-/
import Derived.Test.YtpbpgjfdledgoaaGreatDoorZb38
namespace Go.Proofs.YtpbpgjfdledgoaaGreatDoor
open Go.RowKit Go.Shelf Go.Sort Go.Joins Go.Deep

/-- what a method that turns the ledger leaves, beside a value of the call's own -/
def LedBut (w : World) (base : Nat) (P : Lp) (ld' : Ld) (ds' : Ds) (v : Value) (w' : World) : Prop :=
  ∃ P', LedAt w' base P' ld' ds' ∧ Keeps (LedS P) w w' ∧ (∀ i, LedS P' i → LedS P i ∨ w.heap.size ≤ i) ∧ Goes w.heap.size P P' ∧ ∀ i, v.ownBlock = some i → w.heap.size ≤ i ∧ ¬ LedS P' i ∧ ¬ P'.cv.ownBlock = some i
/-- what Begin leaves -/
def BeginPost (w : World) (base : Nat) (P : Lp) (x : Int × List Cm × Int × Ld × Ds) (e : Ending) (w' : World) : Prop :=
  ∃ v, e = .returned (.tuple #[.int .i64 x.1, v, .int .i64 x.2.2.1]) ∧ LedBut w base P x.2.2.2.1 x.2.2.2.2 v w' ∧ OwnOf cCm cmdT w' w.heap.size v x.2.1
section
variable {w w' : World} {base : Nat} {P : Lp} {ld : Ld} {ds : Ds}
theorem LedPost.but_nil {ld' : Ld} {ds' : Ds} (h : LedPost w base P ld' ds' w') : LedBut w base P ld' ds' (.slice none 0 0) w' := by
  obtain ⟨P', a, b, c, d⟩ := h
  exact ⟨P', a, b, c, d, fun i hi => by cases hi⟩
set_option maxRecDepth 100000 in
set_option maxHeartbeats 4000000 in
theorem ledBegin_any (hL : Laid w base) (hb : base ≤ w.heap.size) (h : LedAt w base P ld ds) (hnx : ld.lg.next + 1 ≤ 1000000000000) (hfl : ld.lg.firsts.length + 1 ≤ 1000000) :
    Calls Tryz.prog 21 #[dP P.l] w (BeginPost w base P (ld.begin ds)) := by
  obtain ⟨c0, _, _, _, _⟩ := h.cells
  obtain ⟨E, hE⟩ : ∃ x, x = ld.begin ds := ⟨_, rfl⟩
  rw [← hE]
  unfold Ld.begin at hE
  have t0 := h.desk.ok.t0
  have t1 := h.desk.ok.t1
  have H := Lib.hid h
  have HL := Lib.hid hL
  have Hb := Lib.hid hb
  have HE := Lib.hid hE
  have Hnx := Lib.hid hnx
  have Hfl := Lib.hid hfl
  clear h hL hb hE hnx hfl
  go_enter Tryz.func21, Tryz.ntmps21
  go_wp2_with fail
  (with_reducible refine (ledbroken_any H.out).mono ?_)
  rintro e W ⟨rfl, rfl⟩
  by_cases te : ld.e = 0
  case neg =>
    have b0 : (ld.e != 0) = true := by simpa using te
    have HE2 : Hid (E = (0, [], ld.e, ld, ds)) := Lib.hid (by rw [HE.out, decide_eq_false te]; rfl)
    clear HE te
    go_wp2
    go_ret3
    exact ⟨_, by rw [HE2.out]; rfl, by rw [HE2.out]; exact (LedPost.refl H.out).but_nil, by rw [HE2.out]; exact World.ownsRow_nil _ _ _ _⟩
  have b0 : (ld.e != 0) = false := by simpa using te
  rw [decide_eq_true te] at HE
  simp only [Bool.not_true, cond_false] at HE
  clear te
  go_wp2_with fail
  (with_reducible refine (deskTick_any H.out.desk).mono ?_)
  rintro e W1 ⟨rfl, hk1⟩
  have K1 := Lib.hid hk1
  have c0' := hk1.cell c0 (fun h => h)
  clear hk1
  obtain ⟨O, hO⟩ : ∃ b, b = ld.dk.o := ⟨_, rfl⟩
  rw [← hO] at HE ⊢
  clear hO
  cases O
  case true =>
    have HE2 : Hid (E = (0, [], 14, ld, ds)) := Lib.hid (by rw [HE.out]; rfl)
    clear HE
    go_wp2
    go_ret3
    exact ⟨_, by rw [HE2.out]; rfl, by rw [HE2.out]; exact (LedPost.no H.out K1.out).but_nil, by rw [HE2.out]; exact World.ownsRow_nil _ _ _ _⟩
  by_cases tt : 1099511627776 ≤ ld.dk.t
  · have HE2 : Hid (E = (0, [], 14, ld, ds)) := Lib.hid (by rw [HE.out, decide_eq_true tt]; rfl)
    clear HE
    go_wp2
    go_ret3
    exact ⟨_, by rw [HE2.out]; rfl, by rw [HE2.out]; exact (LedPost.no H.out K1.out).but_nil, by rw [HE2.out]; exact World.ownsRow_nil _ _ _ _⟩
  rw [decide_eq_false tt] at HE
  simp only [Bool.or_self, cond_false] at HE
  obtain ⟨Y, hY⟩ : ∃ Y, Y = ld.write ds [openRec] := ⟨_, rfl⟩
  replace HE : Hid (E = bif decide ((ld.write ds [openRec]).1 = 0) then ((ld.write ds [openRec]).2.1.dk.t, (ld.write ds [openRec]).2.1.cmds, 0, (ld.write ds [openRec]).2.1, (ld.write ds [openRec]).2.2) else (0, [], (ld.write ds [openRec]).1, (ld.write ds [openRec]).2.1, (ld.write ds [openRec]).2.2)) := HE
  rw [← hY] at HE
  have HY := Lib.hid hY
  clear hY
  obtain ⟨W2, hW2⟩ : ∃ x, x = W1.alloc (.cells (rxC (litRc openRec)).toArray recT) := ⟨_, rfl⟩
  have k2 : Keeps No W W2 := K1.out.trans (by rw [hW2]; exact (Keeps.refl _).alloc _) (fun _ _ h => h)
  have g2 : W2.heap[W1.heap.size]? = some (.cells (rxC (litRc openRec)).toArray recT (0, 0)) := by rw [hW2]; exact heap_alloc_new W1 _
  have s1 : W.heap.size ≤ W1.heap.size := K1.out.size
  have CW := ledWrite_any (HL.out.kept k2 (fun _ h => h.elim)) (Nat.le_trans Hb.out k2.size) (H.out.no k2) (.slice (some ⟨W1.heap.size, 0, none⟩) 1 1) [litRc openRec] (recs_lit g2 (fun e => by have := H.out.lt _ e; omega) mayL_open rfl) (by simp) (by have := Hnx.out; simp only [List.length_cons, List.length_nil]; omega) (by have := Hfl.out; simp only [List.length_cons, List.length_nil]; omega)
  replace CW : Calls Tryz.prog 74 #[dP P.l, .slice (some ⟨W1.heap.size, 0, none⟩) 1 1] W2 (WritePost W2 base P Y) := by rw [HY.out]; exact CW
  have KK2 := Lib.hid k2
  rw [hW2] at CW
  have CWH : Hid (Calls Tryz.prog 74 #[dP P.l, .slice (some ⟨W1.heap.size, 0, none⟩) 1 1]
      (W1.alloc (.cells #[.int .i64 4, .int .i64 0, .int .i64 0, .int .i64 0, .int .i64 0, .int .i64 0, .int .i64 0, .int .i64 0, .int .i64 0, .int .i64 0, .int .i64 0, .int .i64 0, .int .i64 0, .int .i64 0, .int .i64 0, .int .i64 0, .int .i64 0, .int .i64 0, .int .i64 0, .int .i64 0, .slice none 0 0] 30)) (WritePost W2 base P Y)) := Lib.hid (by rw [hW2]; exact CW)
  clear CW k2 g2 hW2
  obtain ⟨y1, y2, y3⟩ := Y
  go_wp2_with fail
  (with_reducible refine CWH.out.mono ?_)
  rintro e w7 ⟨rfl, hp⟩
  have LP := Lib.hid (LedPost.after KK2.out hp)
  clear hp CWH HY
  by_cases ty : y1 = 0
  case neg =>
    have b7 : (y1 != 0) = true := by simpa using ty
    have HE2 : Hid (E = (0, [], y1, y2, y3)) := Lib.hid (by rw [HE.out, decide_eq_false ty]; rfl)
    clear HE ty
    go_wp2
    go_ret3
    exact ⟨_, by rw [HE2.out]; rfl, by rw [HE2.out]; exact LP.out.but_nil, by rw [HE2.out]; exact World.ownsRow_nil _ _ _ _⟩
  subst ty
  have HE2 : Hid (E = (y2.dk.t, y2.cmds, 0, y2, y3)) := Lib.hid (by rw [HE.out]; rfl)
  obtain ⟨P', q1, q2, q3, q4⟩ := LP.out
  have QQ := Lib.hid (And.intro q1 (And.intro q2 (And.intro q3 q4)))
  have d0 : w7.cell? ⟨P.l, 0, none⟩ = some (dP P'.D.d) := by have := q1.cells.1; rw [q4.l] at this; exact this
  have CT := Lib.hid (deskTick_any q1.desk)
  clear HE LP q1 q2 q3 q4 c0 c0'
  go_wp2_with fail
  (with_reducible refine CT.out.mono ?_)
  rintro e w8 ⟨rfl, hk8⟩
  have K8 := Lib.hid hk8
  have CC : Hid (Calls Tryz.prog 39 #[dP P.l] w8 fun e w' => ∃ v, e = .returned v ∧ OwnOf cCm cmdT w' w8.heap.size v y2.cmds ∧ Keeps No w8 w') := Lib.hid (by
    have := ledCmds_any (QQ.out.1.no hk8)
    rw [QQ.out.2.2.2.l] at this
    exact this)
  clear hk8 CT
  go_wp2_with fail
  (with_reducible refine CC.out.mono ?_)
  rintro e w9 ⟨v, rfl, ho, hk9⟩
  have O9 := Lib.hid ho
  have K9 := Lib.hid hk9
  clear ho hk9 CC
  go_wp2
  go_ret3
  have s8 : W.heap.size ≤ w8.heap.size := Nat.le_trans QQ.out.2.1.size K8.out.size
  have k79 : Keeps No w7 w9 := K8.out.trans K9.out (fun _ _ h => h)
  refine ⟨v, by rw [HE2.out]; rfl, ?_, by rw [HE2.out]; exact ownsRow_less O9.out s8⟩
  rw [HE2.out]
  refine ⟨P', QQ.out.1.no k79, QQ.out.2.1.trans (k79.mono (fun _ _ h => h.elim)) (fun _ _ h => h), QQ.out.2.2.1, QQ.out.2.2.2, fun i hi => ?_⟩
  have hi8 := (O9.out.lt i hi).1
  refine ⟨by omega, fun e => ?_, fun e => ?_⟩
  · have := QQ.out.1.lt i e
    have := K8.out.size
    omega
  · have := (QQ.out.1.cm.lt i e).2
    have := K8.out.size
    omega
set_option maxRecDepth 100000 in
set_option maxHeartbeats 4000000 in
theorem ledEnd_any (hL : Laid w base) (hb : base ≤ w.heap.size) (h : LedAt w base P ld ds) (v : Value) (l : List Nam) (hv : RdOf cNam w v l) (hl : l.length ≤ 100000) (hnx : ld.lg.next + 1 ≤ 1000000000000) (hfl : ld.lg.firsts.length + 1 ≤ 1000000) :
    Calls Tryz.prog 22 #[dP P.l, v] w (WritePost w base P (ld.finish ds l)) := by
  obtain ⟨c0, _, _, _, _⟩ := h.cells
  obtain ⟨E, hE⟩ : ∃ x, x = ld.finish ds l := ⟨_, rfl⟩
  rw [← hE]
  unfold Ld.finish at hE
  have CN := Lib.hid (cloneNam w v l hv hl)
  have H := Lib.hid h
  have HL := Lib.hid hL
  have Hb := Lib.hid hb
  have HE := Lib.hid hE
  have Hnx := Lib.hid hnx
  have Hfl := Lib.hid hfl
  clear h hL hb hE hnx hfl hv hl
  obtain ⟨r, hr⟩ : ∃ r, r = closeRec l := ⟨_, rfl⟩
  rw [← hr] at HE
  have HR := Lib.hid hr
  clear hr
  go_enter Tryz.func22, Tryz.ntmps22
  go_wp2_with fail
  (with_reducible refine CN.out.mono ?_)
  rintro e w1 ⟨v1, rfl, ho, hk1⟩
  obtain ⟨na, nc, rfl⟩ := ownsRow_slice ho
  have O1 := Lib.hid ho
  have K1 := Lib.hid hk1
  clear ho hk1 CN
  go_upto_region 2 with fail
  refine wp_world ?_
  intro W2 hW2
  have b0 : cellsAt W2 w1.heap.size 0 21 = some (lrC r (.slice na l.length nc)) := by rw [hW2, HR.out]; simp [go_sem, closeRec, Cm.zero, Bd.zero]
  have K2 : Hid (Keeps No w1 W2) := Lib.hid (by rw [hW2]; exact (Keeps.refl _).alloc _)
  have KW : Hid (Keeps No w W2) := Lib.hid (K1.out.trans K2.out (fun _ _ h => h))
  have hids : r.ids = l := by rw [HR.out]; rfl
  have HV : Hid (RdOf cNam W2 (.slice na l.length nc) r.ids) := Lib.hid (by rw [hids]; exact O1.out.reads'.kept K2.out (fun _ _ h => h))
  have s1 : w.heap.size ≤ w1.heap.size := K1.out.size
  have HO : Hid (∀ i, (Value.slice na l.length nc).ownBlock = some i → w.heap.size ≤ i ∧ i < W2.heap.size) := Lib.hid (fun i hi => by have := O1.out.lt i hi; have := K2.out.size; omega)
  clear hW2 O1 hids
  go_wp2_with fail
  (with_reducible refine (ledbroken_any (H.out.no KW.out)).mono ?_)
  rintro e W ⟨rfl, rfl⟩
  by_cases te : ld.e = 0
  case neg =>
    have bt : (ld.e != 0) = true := by simpa using te
    have HE2 : Hid (E = (ld.e, ld, ds)) := Lib.hid (by rw [HE.out, decide_eq_false te]; rfl)
    clear HE te
    go_wp2
    go_ret
    exact ⟨by rw [HE2.out]; rfl, by rw [HE2.out]; exact LedPost.no H.out KW.out⟩
  have bt : (ld.e != 0) = false := by simpa using te
  rw [decide_eq_true te] at HE
  simp only [Bool.not_true, cond_false] at HE
  clear te
  have CK := Lib.hid (ledCheck_any W r (.slice na l.length nc) HV.out)
  obtain ⟨M, hM⟩ : ∃ b, b = mayL r := ⟨_, rfl⟩
  rw [← hM] at CK HE
  have HM := Lib.hid hM
  clear hM
  go_wp2_with fail
  (with_reducible refine CK.out.mono ?_)
  rintro e w3 ⟨rfl, hk3⟩
  have K3 : Hid (Keeps No W w3) := Lib.hid hk3
  replace b0 := hk3.cellsAt b0
  clear hk3 CK
  cases M
  case false =>
    have HE2 : Hid (E = (1, ld, ds)) := Lib.hid (by rw [HE.out]; rfl)
    simp only [errB, cond_false]
    clear HE
    go_wp2
    go_ret
    exact ⟨by rw [HE2.out]; rfl, by rw [HE2.out]; exact LedPost.no H.out (KW.out.trans K3.out (fun _ _ h => h))⟩
  simp only [errB, cond_true]
  simp only [Bool.not_true, cond_false] at HE
  have K03 : Hid (Keeps No w w3) := Lib.hid (KW.out.trans K3.out (fun _ _ h => h))
  have d0 := K03.out.cell c0 (fun h => h)
  have CT := Lib.hid (deskTick_any (H.out.no K03.out).desk)
  obtain ⟨O, hO⟩ : ∃ b, b = ld.dk.o := ⟨_, rfl⟩
  rw [← hO] at HE CT
  clear hO c0
  go_wp2_with fail
  (with_reducible refine CT.out.mono ?_)
  rintro e w4 ⟨rfl, hk4⟩
  have K4 : Hid (Keeps No W w4) := Lib.hid (K3.out.trans hk4 (fun _ _ h => h))
  replace b0 := hk4.cellsAt b0
  clear hk4 CT
  cases O
  case false =>
    have HE2 : Hid (E = (14, ld, ds)) := Lib.hid (by rw [HE.out]; rfl)
    clear HE
    go_wp2
    go_ret
    exact ⟨by rw [HE2.out]; rfl, by rw [HE2.out]; exact LedPost.no H.out (KW.out.trans K4.out (fun _ _ h => h))⟩
  simp only [Bool.not_true, cond_false] at HE
  obtain ⟨W5, hW5⟩ : ∃ x, x = w4.alloc (.cells (lrC r (.slice na l.length nc)).toArray recT) := ⟨_, rfl⟩
  have k5 : Keeps No W W5 := K4.out.trans (by rw [hW5]; exact (Keeps.refl _).alloc _) (fun _ _ h => h)
  have k05 : Keeps No w W5 := KW.out.trans k5 (fun _ _ h => h)
  have g5 : W5.heap[w4.heap.size]? = some (.cells (rxC ⟨r, na, l.length, nc⟩).toArray recT (0, 0)) := by rw [hW5]; exact heap_alloc_new w4 _
  have s4 : w.heap.size ≤ w4.heap.size := (KW.out.trans K4.out (fun _ _ h => h)).size
  have hR5 : Recs W5 (LedS P) (.slice (some ⟨w4.heap.size, 0, none⟩) 1 1) [⟨r, na, l.length, nc⟩] :=
    recs_one g5 (fun e => by have := H.out.lt _ e; omega) HM.out.symm (HV.out.kept k5 (fun _ _ h => h)) (fun i hi => by
      have h1 := HO.out i hi
      have h2 := k5.size
      exact ⟨by omega, fun e => by have := H.out.lt _ e; omega⟩)
  have CW := ledWrite_any (HL.out.kept k05 (fun _ h => h.elim)) (Nat.le_trans Hb.out k05.size) (H.out.no k05) _ _ hR5 (by simp) (by have := Hnx.out; simp only [List.length_cons, List.length_nil]; omega) (by have := Hfl.out; simp only [List.length_cons, List.length_nil]; omega)
  have KK := Lib.hid k05
  rw [hW5] at CW
  have CWH := Lib.hid CW
  have HE2 : Hid (E = ld.write ds (List.map Rc.r [⟨r, na, l.length, nc⟩])) := Lib.hid HE.out
  rw [← HE2.out] at CWH
  rw [← hW5] at CWH
  have HW5 : Hid (∀ Q, Calls Tryz.prog 74 #[dP P.l, .slice (some ⟨w4.heap.size, 0, none⟩) 1 1] W5 Q → Calls Tryz.prog 74 #[dP P.l, .slice (some ⟨w4.heap.size, 0, none⟩) 1 1] (w4.alloc (.cells (lrC r (.slice na l.length nc)).toArray recT)) Q) := Lib.hid (fun Q h => by rw [← hW5]; exact h)
  clear CW hR5 k5 k05 g5 hW5 HE
  go_wp2_with fail
  (with_reducible refine HW5.out _ (CWH.out.mono ?_))
  rintro e w7 ⟨rfl, hp⟩
  have LP := Lib.hid (LedPost.after KK.out hp)
  clear hp CWH
  go_wp2
  go_ret
  exact ⟨rfl, LP.out⟩
end
end Go.Proofs.YtpbpgjfdledgoaaGreatDoor
