/-
  Texts in one: LgX, LgY, LgZ, LhA, LhB. No conditions of their own.
-/
import Derived.Test.YtndjnkjcfdaegaaGreatDoorZh32
set_option linter.all false

/-
  What a desk lets in may be written down; rows of one record or two. No conditions of their own.
-/
namespace Go.Proofs.YtndjnkjcfdaegaaGreatDoor
open Go.RowKit Go.Shelf Go.Sort Go.Joins Go.Deep

theorem headP_ok {p : Pl} (h : plOk p) {k : Int} (he : (headP p k).2.2 = 0) : idOk ⟨k, (headP p k).1, genP p k (headP p k).1⟩ = true := by
  unfold headP at he ⊢
  cases hs : shAt p k with
  | none => rw [hs] at he; cases he
  | some s =>
    rw [hs] at he
    obtain ⟨n, rfl, hn⟩ := shAt_some hs
    have sok := h.sh hn
    cases hf : s.free with
    | nil => simp only [headS, hf] at he; cases he
    | cons i l =>
      obtain ⟨x, hx, _, hg⟩ := sok.fr i (by rw [hf]; exact List.mem_cons_self ..)
      have hok := sok.at hx
      have hi := (List.getElem?_eq_some_iff.1 hx).1
      have hn2 := (List.getElem?_eq_some_iff.1 hn).1
      have e1 : (headS s).1 = (i : Int) := by simp only [headS, hf]
      simp only [e1]
      have e2 : genP p (n : Int) (i : Int) = x.g := by
        unfold genP ixAt
        rw [hs]
        simp only
        rw [ixIn_nat hx]
      rw [e2]
      have h16 := h.1
      have h16' := sok.n1
      have g0 := hok.g0
      unfold idOk okI
      simp only [Bool.and_eq_true, decide_eq_true_eq]
      omega
theorem cmdOk_named {c : Cm} (h : cmdOk c = true) (hk : c.k = 1) {a : Nam} (ha : idOk a = true) : cmdOk (c.named a) = true := by
  have b1 : (c.k == 1) = true := by rw [hk]; rfl
  unfold cmdOk at h ⊢
  rw [b1, cond_true] at h
  have b2 : ((c.named a).k == 1) = true := b1
  rw [b2, cond_true]
  simp only [Bool.and_eq_true] at h ⊢
  refine ⟨h.1, h.2.1, ?_⟩
  have h3 := h.2.2
  unfold bdOk at h3 ⊢
  simp only [Bool.and_eq_true] at h3 ⊢
  exact ⟨h3.1, h3.2.1, ha⟩
theorem lookD_ok {d : Dk} (hd : plOk d.pl) {c : Cm} (h : (lookD d c).2.2 = 0) : cmdOk (lookD d c).1 = true ∧ ((lookD d c).2.1 = true → okI (lookD d c).1.b.s 0 15 = true ∧ okI (lookD d c).1.b.i 0 15 = true) := by
  unfold lookD at h ⊢
  cases h1 : (!cmdOk c || (decide (c.k = 1) && !neq c.b.id Nam.zero)) with
  | true => rw [h1] at h; cases h
  | false =>
    rw [h1, cond_false] at h
    rw [cond_false]
    have hc : cmdOk c = true := by
      cases hh : cmdOk c with
      | true => rfl
      | false => rw [hh] at h1; cases h1
    by_cases hk : c.k = 1
    · rw [decide_eq_true hk, cond_true] at h ⊢
      cases h2 : decide (c.zone d.z < 0) with
      | true => rw [h2] at h; cases h
      | false =>
        rw [h2, cond_false] at h
        rw [cond_false]
        cases h3 : decide (d.z.q ≤ (d.q.length : Int)) with
        | true => rw [h3] at h; cases h
        | false =>
          rw [h3, cond_false] at h
          rw [cond_false]
          by_cases h4 : (headP d.pl (c.zone d.z)).2.2 = 0
          · rw [decide_eq_true h4]
            simp only [Bool.not_true, cond_false]
            have hi := headP_ok hd h4
            refine ⟨cmdOk_named hc hk hi, fun _ => ?_⟩
            unfold idOk at hi
            simp only [Bool.and_eq_true] at hi
            exact ⟨hi.1, hi.2.1⟩
          · rw [decide_eq_false h4] at h
            exact absurd (show (13 : Int) = 0 from h) (by decide)
    · rw [decide_eq_false hk, cond_false] at h ⊢
      cases h2 : (!aliveP d.pl c.id) with
      | true => rw [h2] at h; cases h
      | false =>
        rw [h2, cond_false] at h
        rw [cond_false]
        cases h3 : waitsQ d.q c.id with
        | true => rw [h3] at h; cases h
        | false =>
          rw [h3, cond_false] at h
          rw [cond_false]
          cases h4 : decide (d.z.q ≤ (d.q.length : Int)) with
          | true => rw [h4] at h; cases h
          | false =>
            rw [cond_false]
            exact ⟨hc, fun h => by cases h⟩
theorem cmEq_self (c : Cm) : cmEq c c = true := (cmEq_iff c c).2 rfl
theorem mayL_adm {c : Cm} (h : cmdOk c = true) : mayL (admRec c) = true := by
  rw [may_3 rfl]
  show (cmdOk c && ((0 == (0 : Int)) && ((0 == (0 : Int)) && ((0 == (0 : Int)) && (cmEq c c && (0 == 0)))))) = true
  rw [h, cmEq_self]
  rfl
theorem mayL_res {s i : Int} (hs : okI s 0 15 = true) (hi : okI i 0 15 = true) : mayL (resRec s i) = true := by
  unfold mayL resRec
  simp only
  show (decide ((0 : Int) = 0) && (okI s 0 15 && (okI i 0 15 && (cmEq Cm.zero Cm.zero && List.isEmpty ([] : List Nam))))) = true
  rw [hs, hi, cmEq_self]
  rfl
theorem mayL_open : mayL openRec = true := by kernel_rfl
theorem mayL_epoch {n : Int} (h0 : 1 ≤ n) (h1 : n ≤ 1099511627776) : mayL (epochRec n) = true := by
  rw [may_1 rfl]
  show (okI n 1 1099511627776 && ((n == n) && ((0 == (0 : Int)) && ((0 == (0 : Int)) && (cmEq Cm.zero Cm.zero && (0 == 0)))))) = true
  rw [okI_iff.2 ⟨h0, h1⟩, cmEq_self]
  simp
/-- a record without names -/
def litRc (r : Lr) : Rc := ⟨r, none, 0, 0⟩
theorem recs_one {W : World} {B : Nat → Prop} {x : Rc} {g : Nat} (hg : W.heap[g]? = some (.cells (rxC x).toArray recT (0, 0))) (hB : ¬ B g) (hm : mayL x.r = true) (hr : RdOf cNam W x.v x.r.ids) (ho : ∀ i, x.v.ownBlock = some i → i < W.heap.size ∧ ¬ B i) :
    Recs W B (.slice (some ⟨g, 0, none⟩) 1 1) [x] := by
  refine ⟨⟨rfl, fun u hu => ?_, .inr ⟨_, _, rfl, Nat.le_refl _, by unfold maxLen; omega, fun j v hj => ?_⟩⟩, fun i hi => ?_, fun y hy => ?_⟩
  · rw [rowsOf_one] at hu
    exact cRec.one x u hu
  · rw [rowsOf_one] at hj
    rw [Addr.add_lit, cell_of_row _ _ _ _ _ _ hg]
    rw [Nat.zero_add, List.getElem?_toArray]
    exact hj
  · have e : g = i := Option.some.inj hi
    subst e
    exact ⟨(Array.getElem?_eq_some_iff.1 hg).1, hB⟩
  · rw [List.mem_singleton] at hy
    subst hy
    exact ⟨hr, hm, ho⟩
theorem recs_lit {W : World} {B : Nat → Prop} {r : Lr} {g : Nat} (hg : W.heap[g]? = some (.cells (rxC (litRc r)).toArray recT (0, 0))) (hB : ¬ B g) (hm : mayL r = true) (hi : r.ids = []) : Recs W B (.slice (some ⟨g, 0, none⟩) 1 1) [litRc r] :=
  recs_one hg hB hm (by show RdOf cNam W (.slice none 0 0) r.ids; rw [hi]; exact Reads.nil _ _) (fun i hi => by cases hi)
theorem recs_two {W : World} {B : Nat → Prop} {r s : Lr} {base : Nat} {v : Value} (ho : OwnOf cRec recT W base v [litRc r, litRc s]) (hB : ∀ i, B i → i < base) (hm : mayL r = true ∧ mayL s = true) (hi : r.ids = [] ∧ s.ids = []) : Recs W B v [litRc r, litRc s] := by
  refine ⟨ho.reads', fun i h => ?_, fun y hy => ?_⟩
  · have := ho.lt i h
    exact ⟨this.2, fun e => by have := hB i e; omega⟩
  · have key : ∀ t : Lr, mayL t = true → t.ids = [] → RdOf cNam W (litRc t).v (litRc t).r.ids ∧ mayL (litRc t).r = true ∧ ∀ i, (litRc t).v.ownBlock = some i → i < W.heap.size ∧ ¬ B i :=
      fun t h1 h2 => ⟨by show RdOf cNam W (.slice none 0 0) t.ids; rw [h2]; exact Reads.nil _ _, h1, fun i hi => by cases hi⟩
    rw [List.mem_cons, List.mem_singleton] at hy
    rcases hy with rfl | rfl
    · exact key r hm.1 hi.1
    · exact key s hm.2 hi.2
end Go.Proofs.YtndjnkjcfdaegaaGreatDoor

/-
  A ledger lets a command in (ledger.Call). No conditions of its own, but that the tables are laid.
-/
namespace Go.Proofs.YtndjnkjcfdaegaaGreatDoor
open Go.RowKit Go.Shelf Go.Sort Go.Joins Go.Deep

/-- the command in its box is another one -/
theorem LkAt.turn {w W : World} {c : Cm} (h : LkAt w W c) (x : Cm) : LkAt w (W.setRow w.heap.size (cmC x).toArray) x := by
  refine ⟨h.kp.setRow (S := No) (fun hlt => absurd hlt (Nat.lt_irrefl _)) _, setRow_heap _ _ _ _ _ _ h.b, ?_⟩
  have k : Keeps (Own w.heap.size) W (W.setRow w.heap.size (cmC x).toArray) := Keeps.setRow (S := Own w.heap.size) (Keeps.refl W) (fun _ => rfl) _
  exact k.heap h.z (fun e => by have e : w.heap.size + 1 = w.heap.size := e; omega)
theorem box_out {W : World} {n : Nat} {y x : Cm} (hz : W.heap[n]? = some (.cells (cmC y).toArray cmdT (0, 0))) : cellsAt (W.setRow n (cmC x).toArray) n 0 16 = some (cmC x) := by rw [cellsAt_setRow_at _ _ _ _ _ ⟨_, _, hz⟩]; rfl
theorem box_keeps {x : Cm} (W : World) (n : Nat) : Keeps (Own n) W (W.setRow n (cmC x).toArray) := Keeps.setRow (S := Own n) (Keeps.refl W) (fun _ => rfl) _
theorem block_lt {W : World} {n : Nat} {o : Obj} (h : W.heap[n]? = some o) : n < W.heap.size := (Array.getElem?_eq_some_iff.1 h).1
/-- a box of the call's own is written, behind the ledger's method -/
theorem LedPost.put {w w1 w2 w3 : World} {base : Nat} {P : Lp} {ld ld' : Ld} {ds ds' : Ds} {b : Nat} (h : LedPost w1 base P ld' ds' w2) (h0 : LedAt w base P ld ds) (k1 : Keeps No w w1) (hb : w.heap.size ≤ b) (hb1 : b < w1.heap.size) (k2 : Keeps (Own b) w2 w3) :
    LedPost w base P ld' ds' w3 := by
  obtain ⟨P', a1, a2, a3, a4⟩ := h
  have off : ∀ i, LedS P i → ¬ i = b := fun i hi e => by have := h0.lt i hi; omega
  refine ⟨P', a1.kept k2 (fun i hi e => ?_) (fun i hi e => ?_) (fun e => ?_), ((k1.mono (fun _ _ h => h.elim)).trans a2 (fun _ _ h => h)).trans k2 (fun i hi e => ?_), fun i hi => (a3 i hi).imp id (Nat.le_trans k1.size), a4.l, a4.p, a4.b, a4.g, a4.m, fun i hi => ?_⟩
  · have e : i = b := e
    rcases a3 i hi with e2 | e2
    · exact off i e2 e
    · omega
  · have e : i = b := e
    rcases a4.c i hi with e2 | e2 | e2
    · have := (h0.cm.lt i e2).2
      omega
    · exact off i e2 e
    · omega
  · have e : P'.D.m = b := e
    rw [a4.m] at e
    have := cellsAt_block h0.desk.map
    omega
  · have e : i = b := e
    omega
  · rcases a4.c i hi with e | e | e
    · exact .inl e
    · exact .inr (.inl e)
    · exact .inr (.inr (Nat.le_trans k1.size e))
theorem own_one {W : World} {b g : Nat} {x : Rc} (hg : W.heap[g]? = some (.cells (rxC x).toArray recT (0, 0))) (hb : b ≤ g) : OwnOf cRec recT W b (.slice (some ⟨g, 0, none⟩) 1 1) [x] :=
  ⟨rfl, .inr ⟨g, 1, _, rfl, hb, hg, Nat.le_refl _, by unfold maxLen; omega, rfl, rfl⟩⟩
/-- what Insert leaves: a new row -/
def InsPost (W : World) (xs : List Rc) (e : Ending) (w' : World) : Prop := ∃ v a c, v = .slice a xs.length c ∧ e = .returned v ∧ OwnOf cRec recT w' W.heap.size v xs ∧ Keeps No W w'
set_option maxRecDepth 100000 in
/-- a record ahead of another one -/
theorem insert_two {W : World} {g : Nat} {x : Rc} (hg : W.heap[g]? = some (.cells (rxC x).toArray recT (0, 0))) (r : Lr) {C : Array Value} (hC : C = (rxC (litRc r)).toArray) :
    Calls Tryz.prog 25 #[.slice (some ⟨g, 0, none⟩) 1 1, .int .i64 0, .slice (some ⟨W.heap.size, 0, none⟩) 1 1] (W.alloc (.cells C recT)) (InsPost W [litRc r, x]) := by
  subst hC
  have hk : Keeps No W (W.alloc (.cells (rxC (litRc r)).toArray recT)) := (Keeps.refl W).alloc _
  have h := recs_insert (W.alloc (.cells (rxC (litRc r)).toArray recT)) g g 1 0 [x] (own_one (hk.heap hg (fun h => h)) (Nat.le_refl _)) (by simp) (by simp) (by simp) W.heap.size (litRc r) (heap_alloc_new W _) (by have := block_lt hg; have := hk.size; omega)
  refine h.mono ?_
  rintro e w' ⟨G, rfl, ho, hk2⟩
  refine ⟨_, _, _, rfl, rfl, ?_, hk.trans hk2 (fun _ _ h => h)⟩
  obtain ⟨o1, o2⟩ := ho
  refine ⟨o1, ?_⟩
  rcases o2 with ⟨e, _⟩ | ⟨g', cap, cur, e, _, o4⟩
  · cases e
  · exact .inr ⟨g', cap, cur, e, by simp only [Value.slice.injEq, Option.some.injEq, Addr.mk.injEq] at e; have := hk.size; omega, o4⟩
def CallPost (w : World) (base : Nat) (P : Lp) (x : Cm × Int × Ld × Ds) (e : Ending) (w' : World) : Prop := e = .returned (.tuple #[cmV x.1, .int .i64 x.2.1]) ∧ LedPost w base P x.2.2.1 x.2.2.2 w'
section
variable {w w' : World} {base : Nat} {P : Lp} {ld : Ld} {ds : Ds}
set_option maxRecDepth 100000 in
set_option maxHeartbeats 4000000 in
theorem ledCall_any (hL : Laid w base) (hb : base ≤ w.heap.size) (h : LedAt w base P ld ds) (c : Cm) (hnx : ld.lg.next + 2 ≤ 1000000000000) (hfl : ld.lg.firsts.length + 2 ≤ 1000000) :
    Calls Tryz.prog 8 #[dP P.l, cmV c] w (CallPost w base P (ld.call ds c)) := by
  obtain ⟨c0, _, _, _, c4⟩ := h.cells
  have ll : P.l < w.heap.size := h.lt _ (.inl rfl)
  obtain ⟨E, hE⟩ : ∃ x, x = ld.call ds c := ⟨_, rfl⟩
  rw [← hE]
  unfold Ld.call at hE
  have H := Lib.hid h
  have HL := Lib.hid hL
  have Hb := Lib.hid hb
  have HE := Lib.hid hE
  have Hnx := Lib.hid hnx
  have Hfl := Lib.hid hfl
  clear h hL hb hE hnx hfl
  go_enter Tryz.func8, Tryz.ntmps8
  go_upto_region 1 with fail
  refine wp_world ?_
  intro W0 hW0
  have A0 : Hid (LkAt w W0 c) := Lib.hid (by
    rw [hW0]
    refine ⟨((Keeps.refl w).alloc _).alloc _, ?_, ?_⟩
    · rw [Below.heap_alloc _ _ _ (by simp)]
      exact heap_alloc_new w _
    · have h0 := heap_alloc_new (w.alloc (.cells (cmC c).toArray cmdT)) (.cells (cmC Cm.zero).toArray cmdT)
      have e : (w.alloc (.cells (cmC c).toArray cmdT)).heap.size = w.heap.size + 1 := by simp
      rw [e] at h0
      exact h0)
  clear hW0
  go_wp2_with fail
  (with_reducible refine (ledbroken_any (H.out.no A0.out.kp)).mono ?_)
  rintro e W ⟨rfl, rfl⟩
  by_cases t0 : ld.e = 0
  case neg =>
    have b0 : (ld.e != 0) = true := by simpa using t0
    have HE2 : Hid (E = (Cm.zero, ld.e, ld, ds)) := Lib.hid (by rw [HE.out, decide_eq_false t0]; rfl)
    obtain ⟨oz, sz, _, _⟩ := A0.out.opened
    clear HE t0
    go_wp2
    obtain ⟨hcr, hkk⟩ := A0.out.row_out Cm.zero
    have hgoal : CallPost w base P E (.returned (.tuple #[cmV Cm.zero, .int .i64 ld.e])) _ := ⟨by rw [HE2.out], by rw [HE2.out]; exact LedPost.no H.out hkk⟩
    refine bodyPost_ret (v := .tuple #[cmV Cm.zero, .int .i64 ld.e]) ?_ rfl hgoal
    clear hgoal hkk
    simp only [cmC, Cm.zero, Bd.zero] at hcr
    simp [results, Tryz.results8, go_sem, hcr, Cm.zero, Bd.zero]
  have b0 : (ld.e != 0) = false := by simpa using t0
  rw [decide_eq_true t0] at HE
  simp only [Bool.not_true, cond_false] at HE
  clear t0
  -- how it would be let in
  obtain ⟨X, hX⟩ : ∃ X, X = lookD ld.dk c := ⟨_, rfl⟩
  have LK := Lib.hid (lookD_ok (d := ld.dk) H.out.desk.ok.pl (c := c))
  have CL : Hid (Calls Tryz.prog 24 #[dP P.D.d, cmV c] W.drew (LookPost W.drew X)) := Lib.hid (by rw [hX]; exact deskLook_any (H.out.no (A0.out.kp.drew)).desk c)
  rw [← hX] at HE LK
  replace c0 := A0.out.kp.cell c0 (fun h => h)
  have k1 := A0.out.cells
  obtain ⟨X1, X2, X3⟩ := X
  clear hX c4
  go_upto_region 4 with fail
  go_region_with (first
    | (go_at_call 24
       have hc := CL.out
       with_reducible refine hc.mono ?_
       clear hc
       rintro e w4 ⟨rfl, hk4⟩
       have A4 : Hid (LkAt w w4 c) := Lib.hid (A0.out.no (((Keeps.refl (S := No) W).drew).trans hk4 (fun _ _ h => h)))
       obtain ⟨_, _, ob, sb⟩ := A4.out.opened
       clear hk4))
  all_goals
    go_upto_region 5 with fail
    refine wp_world ?_
    intro W5 hW5
    have A5 : Hid (LkAt w W5 X1) := Lib.hid (by rw [hW5]; exact A4.out.turn X1)
    clear hW5 A4 ob sb
    by_cases t3 : X3 = 0
    case neg =>
      have b3 : (X3 != 0) = true := by simpa using t3
      have HE2 : Hid (E = (Cm.zero, X3, ld, ds)) := Lib.hid (by rw [HE.out, decide_eq_false t3]; rfl)
      obtain ⟨oz, sz, _, _⟩ := A5.out.opened
      clear HE t3
      go_wp2
      obtain ⟨hcr, hkk⟩ := A5.out.row_out Cm.zero
      have hgoal : CallPost w base P E (.returned (.tuple #[cmV Cm.zero, .int .i64 X3])) _ := ⟨by rw [HE2.out], by rw [HE2.out]; exact LedPost.no H.out hkk⟩
      refine bodyPost_ret (v := .tuple #[cmV Cm.zero, .int .i64 X3]) ?_ rfl hgoal
      clear hgoal hkk
      simp only [cmC, Cm.zero, Bd.zero] at hcr
      simp [results, Tryz.results8, go_sem, hcr, Cm.zero, Bd.zero]
    obtain ⟨cok, nok⟩ := LK.out t3
    subst t3
    simp only [decide_true, Bool.not_true, cond_false] at HE
    have k5 := A5.out.cells
    cases X2
    case false =>
      simp only [cond_false] at HE
      clear LK nok CL
      go_upto_region 10 with fail
      refine wp_world ?_
      intro W6 hW6
      have A6 : Hid (LkAt w W6 X1) := Lib.hid (A5.out.no (by rw [hW6]; exact (Keeps.refl _).alloc _))
      have R6 : Hid (Recs W6 (LedS P) (.slice (some ⟨W5.heap.size, 0, none⟩) 1 1) [litRc (admRec X1)]) := Lib.hid (recs_lit (by rw [hW6]; exact heap_alloc_new W5 _) (fun e => by have := H.out.lt _ e; have := A5.out.kp.size; omega) (mayL_adm cok) rfl)
      clear hW6 A5 k5
      have H6 := Lib.hid (H.out.no A6.out.kp)
      have CW : Hid (Calls Tryz.prog 22 #[dP P.l, .slice (some ⟨W5.heap.size, 0, none⟩) 1 1] W6 (WritePost W6 base P (ld.write ds [admRec X1]))) := Lib.hid (ledWrite_any (HL.out.kept A6.out.kp (fun _ h => h.elim)) (Nat.le_trans Hb.out A6.out.kp.size) H6.out _ [litRc (admRec X1)] R6.out (by simp only [List.length_cons, List.length_nil]; omega) (by have := Hnx.out; simp only [List.length_cons, List.length_nil]; omega) (by have := Hfl.out; simp only [List.length_cons, List.length_nil]; omega))
      replace HE : Hid (E = bif decide ((ld.write ds [admRec X1]).1 = 0) then (X1, 0, (ld.write ds [admRec X1]).2.1, (ld.write ds [admRec X1]).2.2) else (Cm.zero, (ld.write ds [admRec X1]).1, (ld.write ds [admRec X1]).2.1, (ld.write ds [admRec X1]).2.2)) := HE
      obtain ⟨Y, hY⟩ : ∃ Y, Y = ld.write ds [admRec X1] := ⟨_, rfl⟩
      rw [← hY] at CW HE
      clear hY
      obtain ⟨y1, y2, y3⟩ := Y
      go_wp2_with fail
      (with_reducible refine CW.out.mono ?_)
      rintro e w7 ⟨rfl, hp⟩
      have LP := Lib.hid hp
      obtain ⟨_, _, k7, _, _⟩ := hp
      have bx : w7.heap[w.heap.size]? = some (.cells (cmC X1).toArray cmdT (0, 0)) := k7.heap A6.out.b (fun e => by have := H.out.lt _ e; omega)
      have bz : w7.heap[w.heap.size + 1]? = some (.cells (cmC Cm.zero).toArray cmdT (0, 0)) := k7.heap A6.out.z (fun e => by have := H.out.lt _ e; omega)
      have BX := Lib.hid bx
      have BZ := Lib.hid bz
      have oz : Open w7 (w.heap.size + 1) := ⟨_, _, bz⟩
      have sz : (rowD w7 (w.heap.size + 1)).size = 16 := by unfold rowD; rw [bz]; rfl
      have kx : cellsAt w7 w.heap.size 0 16 = some (cmC X1) := by unfold cellsAt; rw [bx]; rfl
      clear bx bz k7 CW
      by_cases ty : y1 = 0
      case neg =>
        have b7 : (y1 != 0) = true := by simpa using ty
        have HE2 : Hid (E = (Cm.zero, y1, y2, y3)) := Lib.hid (by rw [HE.out, decide_eq_false ty]; rfl)
        clear HE ty
        go_wp2
        have hcr := box_out (x := Cm.zero) BZ.out
        have hgoal : CallPost w base P E (.returned (.tuple #[cmV Cm.zero, .int .i64 y1])) _ := ⟨by rw [HE2.out], by rw [HE2.out]; exact LP.out.put H.out A6.out.kp (by omega) (block_lt A6.out.z) (box_keeps (x := Cm.zero) _ _)⟩
        refine bodyPost_ret (v := .tuple #[cmV Cm.zero, .int .i64 y1]) ?_ rfl hgoal
        clear hgoal
        simp only [cmC, Cm.zero, Bd.zero] at hcr
        simp [results, Tryz.results8, go_sem, hcr, Cm.zero, Bd.zero]
      subst ty
      have HE2 : Hid (E = (X1, 0, y2, y3)) := Lib.hid (by rw [HE.out]; rfl)
      clear HE
      go_wp2
      have hcr := box_out (x := X1) BZ.out
      have hgoal : CallPost w base P E (.returned (.tuple #[cmV X1, .int .i64 0])) _ := ⟨by rw [HE2.out], by rw [HE2.out]; exact LP.out.put H.out A6.out.kp (by omega) (block_lt A6.out.z) (box_keeps (x := X1) _ _)⟩
      refine bodyPost_ret (v := .tuple #[cmV X1, .int .i64 0]) ?_ rfl hgoal
      clear hgoal
      simp [results, Tryz.results8, go_sem, hcr]
    case true =>
      simp only [cond_true] at HE
      obtain ⟨ns, ni⟩ := nok rfl
      clear LK nok CL
      have hs5 := A5.out.kp.size
      go_upto_region 9 with fail
      refine wp_world ?_
      intro W8 hW8
      have A8 : Hid (LkAt w W8 X1) := Lib.hid (A5.out.no (by rw [hW8]; exact (Keeps.refl _).alloc _))
      have g8 : W8.heap[W5.heap.size]? = some (.cells (rxC (litRc (admRec X1))).toArray recT (0, 0)) := by rw [hW8]; exact heap_alloc_new W5 _
      have n8 := (cellsAt_cell A8.out.cells 4 _ rfl)
      have n9 := (cellsAt_cell A8.out.cells 5 _ rfl)
      simp only [Nat.zero_add] at n8 n9
      clear hW8 k5 A5
      have hws : w.heap.size ≤ W8.heap.size := A8.out.kp.size
      have s58 : W5.heap.size < W8.heap.size := block_lt g8
      have s5 : w.heap.size ≤ W5.heap.size := hs5
      have CI : Hid (Calls Tryz.prog 25 #[.slice (some ⟨W5.heap.size, 0, none⟩) 1 1, .int .i64 0, .slice (some ⟨W8.heap.size, 0, none⟩) 1 1]
          (W8.alloc (.cells #[.int .i64 2, .int .i64 0, .int .i64 X1.b.s, .int .i64 X1.b.i, .int .i64 0, .int .i64 0, .int .i64 0, .int .i64 0, .int .i64 0, .int .i64 0, .int .i64 0, .int .i64 0, .int .i64 0, .int .i64 0, .int .i64 0, .int .i64 0, .int .i64 0, .int .i64 0, .int .i64 0, .int .i64 0, .slice none 0 0] 68)) (InsPost W8 [litRc (resRec X1.b.s X1.b.i), litRc (admRec X1)])) := Lib.hid (insert_two g8 (resRec X1.b.s X1.b.i) rfl)
      clear g8
      go_wp2_with fail
      (with_reducible refine CI.out.mono ?_)
      rintro e W9 ⟨v9, a9, c9, rfl, rfl, ho9, hk9⟩
      have A9 : Hid (LkAt w W9 X1) := Lib.hid (A8.out.no hk9)
      have R9 : Hid (Recs W9 (LedS P) (.slice a9 2 c9) [litRc (resRec X1.b.s X1.b.i), litRc (admRec X1)]) := Lib.hid (recs_two ho9 (fun i hi => by have := H.out.lt _ hi; omega) ⟨mayL_res ns ni, mayL_adm cok⟩ ⟨rfl, rfl⟩)
      clear ho9 hk9 CI A8 n8 n9
      go_upto_region 10 with fail
      refine wp_world ?_
      intro W6 hW6
      have A6 : Hid (LkAt w W6 X1) := Lib.hid (by rw [hW6]; exact A9.out)
      have R6 : Hid (Recs W6 (LedS P) (.slice a9 2 c9) [litRc (resRec X1.b.s X1.b.i), litRc (admRec X1)]) := Lib.hid (by rw [hW6]; exact R9.out)
      clear hW6 A9 R9
      have H6 := Lib.hid (H.out.no A6.out.kp)
      have CW : Hid (Calls Tryz.prog 22 #[dP P.l, .slice a9 2 c9] W6 (WritePost W6 base P (ld.write ds [resRec X1.b.s X1.b.i, admRec X1]))) := Lib.hid (ledWrite_any (HL.out.kept A6.out.kp (fun _ h => h.elim)) (Nat.le_trans Hb.out A6.out.kp.size) H6.out _ [litRc (resRec X1.b.s X1.b.i), litRc (admRec X1)] R6.out (by simp only [List.length_cons, List.length_nil]; omega) (by have := Hnx.out; simp only [List.length_cons, List.length_nil]; omega) (by have := Hfl.out; simp only [List.length_cons, List.length_nil]; omega))
      replace HE : Hid (E = bif decide ((ld.write ds [resRec X1.b.s X1.b.i, admRec X1]).1 = 0) then (X1, 0, (ld.write ds [resRec X1.b.s X1.b.i, admRec X1]).2.1, (ld.write ds [resRec X1.b.s X1.b.i, admRec X1]).2.2) else (Cm.zero, (ld.write ds [resRec X1.b.s X1.b.i, admRec X1]).1, (ld.write ds [resRec X1.b.s X1.b.i, admRec X1]).2.1, (ld.write ds [resRec X1.b.s X1.b.i, admRec X1]).2.2)) := HE
      obtain ⟨Y, hY⟩ : ∃ Y, Y = ld.write ds [resRec X1.b.s X1.b.i, admRec X1] := ⟨_, rfl⟩
      rw [← hY] at CW HE
      clear hY
      obtain ⟨y1, y2, y3⟩ := Y
      go_wp2_with fail
      (with_reducible refine CW.out.mono ?_)
      rintro e w7 ⟨rfl, hp⟩
      have LP := Lib.hid hp
      obtain ⟨_, _, k7, _, _⟩ := hp
      have bx : w7.heap[w.heap.size]? = some (.cells (cmC X1).toArray cmdT (0, 0)) := k7.heap A6.out.b (fun e => by have := H.out.lt _ e; omega)
      have bz : w7.heap[w.heap.size + 1]? = some (.cells (cmC Cm.zero).toArray cmdT (0, 0)) := k7.heap A6.out.z (fun e => by have := H.out.lt _ e; omega)
      have BX := Lib.hid bx
      have BZ := Lib.hid bz
      have oz : Open w7 (w.heap.size + 1) := ⟨_, _, bz⟩
      have sz : (rowD w7 (w.heap.size + 1)).size = 16 := by unfold rowD; rw [bz]; rfl
      have kx : cellsAt w7 w.heap.size 0 16 = some (cmC X1) := by unfold cellsAt; rw [bx]; rfl
      clear bx bz k7 CW
      by_cases ty : y1 = 0
      case neg =>
        have b7 : (y1 != 0) = true := by simpa using ty
        have HE2 : Hid (E = (Cm.zero, y1, y2, y3)) := Lib.hid (by rw [HE.out, decide_eq_false ty]; rfl)
        clear HE ty
        go_wp2
        have hcr := box_out (x := Cm.zero) BZ.out
        have hgoal : CallPost w base P E (.returned (.tuple #[cmV Cm.zero, .int .i64 y1])) _ := ⟨by rw [HE2.out], by rw [HE2.out]; exact LP.out.put H.out A6.out.kp (by omega) (block_lt A6.out.z) (box_keeps (x := Cm.zero) _ _)⟩
        refine bodyPost_ret (v := .tuple #[cmV Cm.zero, .int .i64 y1]) ?_ rfl hgoal
        clear hgoal
        simp only [cmC, Cm.zero, Bd.zero] at hcr
        simp [results, Tryz.results8, go_sem, hcr, Cm.zero, Bd.zero]
      subst ty
      have HE2 : Hid (E = (X1, 0, y2, y3)) := Lib.hid (by rw [HE.out]; rfl)
      clear HE
      go_wp2
      have hcr := box_out (x := X1) BZ.out
      have hgoal : CallPost w base P E (.returned (.tuple #[cmV X1, .int .i64 0])) _ := ⟨by rw [HE2.out], by rw [HE2.out]; exact LP.out.put H.out A6.out.kp (by omega) (block_lt A6.out.z) (box_keeps (x := X1) _ _)⟩
      refine bodyPost_ret (v := .tuple #[cmV X1, .int .i64 0]) ?_ rfl hgoal
      clear hgoal
      simp [results, Tryz.results8, go_sem, hcr]
end
end Go.Proofs.YtndjnkjcfdaegaaGreatDoor

/-
  A tick is opened and closed (ledger.Begin, End). No conditions of their own, but that the tables are laid.
-/
namespace Go.Proofs.YtndjnkjcfdaegaaGreatDoor
open Go.RowKit Go.Shelf Go.Sort Go.Joins Go.Deep

/-- what a method that turns the ledger leaves, beside a value of the call's own -/
def LedBut (w : World) (base : Nat) (P : Lp) (ld' : Ld) (ds' : Ds) (v : Value) (w' : World) : Prop :=
  ∃ P', LedAt w' base P' ld' ds' ∧ Keeps (LedS P) w w' ∧ (∀ i, LedS P' i → LedS P i ∨ w.heap.size ≤ i) ∧ Goes w.heap.size P P' ∧ ∀ i, v.ownBlock = some i → w.heap.size ≤ i ∧ ¬ LedS P' i ∧ ¬ P'.cv.ownBlock = some i
/-- what Begin leaves -/
def BeginPost (w : World) (base : Nat) (P : Lp) (x : Int × List Cm × Int × Ld × Ds) (e : Ending) (w' : World) : Prop :=
  ∃ v, e = .returned (.tuple #[.int .i64 x.1, v, .int .i64 x.2.2.1]) ∧ LedBut w base P x.2.2.2.1 x.2.2.2.2 v w' ∧ OwnOf cCm cmdT w' w.heap.size v x.2.1
section
variable {w w' : World} {base : Nat} {P : Lp} {ld : Ld} {ds : Ds}
theorem LedPost.but_nil {ld' : Ld} {ds' : Ds} (h : LedPost w base P ld' ds' w') : LedBut w base P ld' ds' (.slice none 0 0) w' := by
  obtain ⟨P', a, b, c, d⟩ := h
  exact ⟨P', a, b, c, d, fun i hi => by cases hi⟩
set_option maxRecDepth 100000 in
set_option maxHeartbeats 4000000 in
theorem ledBegin_any (hL : Laid w base) (hb : base ≤ w.heap.size) (h : LedAt w base P ld ds) (hnx : ld.lg.next + 1 ≤ 1000000000000) (hfl : ld.lg.firsts.length + 1 ≤ 1000000) :
    Calls Tryz.prog 9 #[dP P.l] w (BeginPost w base P (ld.begin ds)) := by
  obtain ⟨c0, _, _, _, _⟩ := h.cells
  obtain ⟨E, hE⟩ : ∃ x, x = ld.begin ds := ⟨_, rfl⟩
  rw [← hE]
  unfold Ld.begin at hE
  have t0 := h.desk.ok.t0
  have t1 := h.desk.ok.t1
  have H := Lib.hid h
  have HL := Lib.hid hL
  have Hb := Lib.hid hb
  have HE := Lib.hid hE
  have Hnx := Lib.hid hnx
  have Hfl := Lib.hid hfl
  clear h hL hb hE hnx hfl
  go_enter Tryz.func9, Tryz.ntmps9
  go_wp2_with fail
  (with_reducible refine (ledbroken_any H.out).mono ?_)
  rintro e W ⟨rfl, rfl⟩
  by_cases te : ld.e = 0
  case neg =>
    have b0 : (ld.e != 0) = true := by simpa using te
    have HE2 : Hid (E = (0, [], ld.e, ld, ds)) := Lib.hid (by rw [HE.out, decide_eq_false te]; rfl)
    clear HE te
    go_wp2
    go_ret3
    exact ⟨_, by rw [HE2.out]; rfl, by rw [HE2.out]; exact (LedPost.refl H.out).but_nil, by rw [HE2.out]; exact World.ownsRow_nil _ _ _ _⟩
  have b0 : (ld.e != 0) = false := by simpa using te
  rw [decide_eq_true te] at HE
  simp only [Bool.not_true, cond_false] at HE
  clear te
  go_wp2_with fail
  (with_reducible refine (deskTick_any H.out.desk).mono ?_)
  rintro e W1 ⟨rfl, hk1⟩
  have K1 := Lib.hid hk1
  have c0' := hk1.cell c0 (fun h => h)
  clear hk1
  obtain ⟨O, hO⟩ : ∃ b, b = ld.dk.o := ⟨_, rfl⟩
  rw [← hO] at HE ⊢
  clear hO
  cases O
  case true =>
    have HE2 : Hid (E = (0, [], 14, ld, ds)) := Lib.hid (by rw [HE.out]; rfl)
    clear HE
    go_wp2
    go_ret3
    exact ⟨_, by rw [HE2.out]; rfl, by rw [HE2.out]; exact (LedPost.no H.out K1.out).but_nil, by rw [HE2.out]; exact World.ownsRow_nil _ _ _ _⟩
  by_cases tt : 1099511627776 ≤ ld.dk.t
  · have HE2 : Hid (E = (0, [], 14, ld, ds)) := Lib.hid (by rw [HE.out, decide_eq_true tt]; rfl)
    clear HE
    go_wp2
    go_ret3
    exact ⟨_, by rw [HE2.out]; rfl, by rw [HE2.out]; exact (LedPost.no H.out K1.out).but_nil, by rw [HE2.out]; exact World.ownsRow_nil _ _ _ _⟩
  rw [decide_eq_false tt] at HE
  simp only [Bool.or_self, cond_false] at HE
  obtain ⟨Y, hY⟩ : ∃ Y, Y = ld.write ds [openRec] := ⟨_, rfl⟩
  replace HE : Hid (E = bif decide ((ld.write ds [openRec]).1 = 0) then ((ld.write ds [openRec]).2.1.dk.t, (ld.write ds [openRec]).2.1.cmds, 0, (ld.write ds [openRec]).2.1, (ld.write ds [openRec]).2.2) else (0, [], (ld.write ds [openRec]).1, (ld.write ds [openRec]).2.1, (ld.write ds [openRec]).2.2)) := HE
  rw [← hY] at HE
  have HY := Lib.hid hY
  clear hY
  obtain ⟨W2, hW2⟩ : ∃ x, x = W1.alloc (.cells (rxC (litRc openRec)).toArray recT) := ⟨_, rfl⟩
  have k2 : Keeps No W W2 := K1.out.trans (by rw [hW2]; exact (Keeps.refl _).alloc _) (fun _ _ h => h)
  have g2 : W2.heap[W1.heap.size]? = some (.cells (rxC (litRc openRec)).toArray recT (0, 0)) := by rw [hW2]; exact heap_alloc_new W1 _
  have s1 : W.heap.size ≤ W1.heap.size := K1.out.size
  have CW := ledWrite_any (HL.out.kept k2 (fun _ h => h.elim)) (Nat.le_trans Hb.out k2.size) (H.out.no k2) (.slice (some ⟨W1.heap.size, 0, none⟩) 1 1) [litRc openRec] (recs_lit g2 (fun e => by have := H.out.lt _ e; omega) mayL_open rfl) (by simp) (by have := Hnx.out; simp only [List.length_cons, List.length_nil]; omega) (by have := Hfl.out; simp only [List.length_cons, List.length_nil]; omega)
  replace CW : Calls Tryz.prog 22 #[dP P.l, .slice (some ⟨W1.heap.size, 0, none⟩) 1 1] W2 (WritePost W2 base P Y) := by rw [HY.out]; exact CW
  have KK2 := Lib.hid k2
  rw [hW2] at CW
  have CWH : Hid (Calls Tryz.prog 22 #[dP P.l, .slice (some ⟨W1.heap.size, 0, none⟩) 1 1]
      (W1.alloc (.cells #[.int .i64 4, .int .i64 0, .int .i64 0, .int .i64 0, .int .i64 0, .int .i64 0, .int .i64 0, .int .i64 0, .int .i64 0, .int .i64 0, .int .i64 0, .int .i64 0, .int .i64 0, .int .i64 0, .int .i64 0, .int .i64 0, .int .i64 0, .int .i64 0, .int .i64 0, .int .i64 0, .slice none 0 0] 68)) (WritePost W2 base P Y)) := Lib.hid (by rw [hW2]; exact CW)
  clear CW k2 g2 hW2
  obtain ⟨y1, y2, y3⟩ := Y
  go_wp2_with fail
  (with_reducible refine CWH.out.mono ?_)
  rintro e w7 ⟨rfl, hp⟩
  have LP := Lib.hid (LedPost.after KK2.out hp)
  clear hp CWH HY
  by_cases ty : y1 = 0
  case neg =>
    have b7 : (y1 != 0) = true := by simpa using ty
    have HE2 : Hid (E = (0, [], y1, y2, y3)) := Lib.hid (by rw [HE.out, decide_eq_false ty]; rfl)
    clear HE ty
    go_wp2
    go_ret3
    exact ⟨_, by rw [HE2.out]; rfl, by rw [HE2.out]; exact LP.out.but_nil, by rw [HE2.out]; exact World.ownsRow_nil _ _ _ _⟩
  subst ty
  have HE2 : Hid (E = (y2.dk.t, y2.cmds, 0, y2, y3)) := Lib.hid (by rw [HE.out]; rfl)
  obtain ⟨P', q1, q2, q3, q4⟩ := LP.out
  have QQ := Lib.hid (And.intro q1 (And.intro q2 (And.intro q3 q4)))
  have d0 : w7.cell? ⟨P.l, 0, none⟩ = some (dP P'.D.d) := by have := q1.cells.1; rw [q4.l] at this; exact this
  have CT := Lib.hid (deskTick_any q1.desk)
  clear HE LP q1 q2 q3 q4 c0 c0'
  go_wp2_with fail
  (with_reducible refine CT.out.mono ?_)
  rintro e w8 ⟨rfl, hk8⟩
  have K8 := Lib.hid hk8
  have CC : Hid (Calls Tryz.prog 27 #[dP P.l] w8 fun e w' => ∃ v, e = .returned v ∧ OwnOf cCm cmdT w' w8.heap.size v y2.cmds ∧ Keeps No w8 w') := Lib.hid (by
    have := ledCmds_any (QQ.out.1.no hk8)
    rw [QQ.out.2.2.2.l] at this
    exact this)
  clear hk8 CT
  go_wp2_with fail
  (with_reducible refine CC.out.mono ?_)
  rintro e w9 ⟨v, rfl, ho, hk9⟩
  have O9 := Lib.hid ho
  have K9 := Lib.hid hk9
  clear ho hk9 CC
  go_wp2
  go_ret3
  have s8 : W.heap.size ≤ w8.heap.size := Nat.le_trans QQ.out.2.1.size K8.out.size
  have k79 : Keeps No w7 w9 := K8.out.trans K9.out (fun _ _ h => h)
  refine ⟨v, by rw [HE2.out]; rfl, ?_, by rw [HE2.out]; exact ownsRow_less O9.out s8⟩
  rw [HE2.out]
  refine ⟨P', QQ.out.1.no k79, QQ.out.2.1.trans (k79.mono (fun _ _ h => h.elim)) (fun _ _ h => h), QQ.out.2.2.1, QQ.out.2.2.2, fun i hi => ?_⟩
  have hi8 := (O9.out.lt i hi).1
  refine ⟨by omega, fun e => ?_, fun e => ?_⟩
  · have := QQ.out.1.lt i e
    have := K8.out.size
    omega
  · have := (QQ.out.1.cm.lt i e).2
    have := K8.out.size
    omega
set_option maxRecDepth 100000 in
set_option maxHeartbeats 4000000 in
theorem ledEnd_any (hL : Laid w base) (hb : base ≤ w.heap.size) (h : LedAt w base P ld ds) (v : Value) (l : List Nam) (hv : RdOf cNam w v l) (hl : l.length ≤ 100000) (hnx : ld.lg.next + 1 ≤ 1000000000000) (hfl : ld.lg.firsts.length + 1 ≤ 1000000) :
    Calls Tryz.prog 10 #[dP P.l, v] w (WritePost w base P (ld.finish ds l)) := by
  obtain ⟨c0, _, _, _, _⟩ := h.cells
  obtain ⟨E, hE⟩ : ∃ x, x = ld.finish ds l := ⟨_, rfl⟩
  rw [← hE]
  unfold Ld.finish at hE
  have CN := Lib.hid (cloneNam w v l hv hl)
  have H := Lib.hid h
  have HL := Lib.hid hL
  have Hb := Lib.hid hb
  have HE := Lib.hid hE
  have Hnx := Lib.hid hnx
  have Hfl := Lib.hid hfl
  clear h hL hb hE hnx hfl hv hl
  obtain ⟨r, hr⟩ : ∃ r, r = closeRec l := ⟨_, rfl⟩
  rw [← hr] at HE
  have HR := Lib.hid hr
  clear hr
  go_enter Tryz.func10, Tryz.ntmps10
  go_wp2_with fail
  (with_reducible refine CN.out.mono ?_)
  rintro e w1 ⟨v1, rfl, ho, hk1⟩
  obtain ⟨na, nc, rfl⟩ := ownsRow_slice ho
  have O1 := Lib.hid ho
  have K1 := Lib.hid hk1
  clear ho hk1 CN
  go_upto_region 2 with fail
  refine wp_world ?_
  intro W2 hW2
  have b0 : cellsAt W2 w1.heap.size 0 21 = some (lrC r (.slice na l.length nc)) := by rw [hW2, HR.out]; simp [go_sem, closeRec, Cm.zero, Bd.zero]
  have K2 : Hid (Keeps No w1 W2) := Lib.hid (by rw [hW2]; exact (Keeps.refl _).alloc _)
  have KW : Hid (Keeps No w W2) := Lib.hid (K1.out.trans K2.out (fun _ _ h => h))
  have hids : r.ids = l := by rw [HR.out]; rfl
  have HV : Hid (RdOf cNam W2 (.slice na l.length nc) r.ids) := Lib.hid (by rw [hids]; exact O1.out.reads'.kept K2.out (fun _ _ h => h))
  have s1 : w.heap.size ≤ w1.heap.size := K1.out.size
  have HO : Hid (∀ i, (Value.slice na l.length nc).ownBlock = some i → w.heap.size ≤ i ∧ i < W2.heap.size) := Lib.hid (fun i hi => by have := O1.out.lt i hi; have := K2.out.size; omega)
  clear hW2 O1 hids
  go_wp2_with fail
  (with_reducible refine (ledbroken_any (H.out.no KW.out)).mono ?_)
  rintro e W ⟨rfl, rfl⟩
  by_cases te : ld.e = 0
  case neg =>
    have bt : (ld.e != 0) = true := by simpa using te
    have HE2 : Hid (E = (ld.e, ld, ds)) := Lib.hid (by rw [HE.out, decide_eq_false te]; rfl)
    clear HE te
    go_wp2
    go_ret
    exact ⟨by rw [HE2.out]; rfl, by rw [HE2.out]; exact LedPost.no H.out KW.out⟩
  have bt : (ld.e != 0) = false := by simpa using te
  rw [decide_eq_true te] at HE
  simp only [Bool.not_true, cond_false] at HE
  clear te
  have CK := Lib.hid (ledCheck_any W r (.slice na l.length nc) HV.out)
  obtain ⟨M, hM⟩ : ∃ b, b = mayL r := ⟨_, rfl⟩
  rw [← hM] at CK HE
  have HM := Lib.hid hM
  clear hM
  go_wp2_with fail
  (with_reducible refine CK.out.mono ?_)
  rintro e w3 ⟨rfl, hk3⟩
  have K3 : Hid (Keeps No W w3) := Lib.hid hk3
  replace b0 := hk3.cellsAt b0
  clear hk3 CK
  cases M
  case false =>
    have HE2 : Hid (E = (1, ld, ds)) := Lib.hid (by rw [HE.out]; rfl)
    simp only [errB, cond_false]
    clear HE
    go_wp2
    go_ret
    exact ⟨by rw [HE2.out]; rfl, by rw [HE2.out]; exact LedPost.no H.out (KW.out.trans K3.out (fun _ _ h => h))⟩
  simp only [errB, cond_true]
  simp only [Bool.not_true, cond_false] at HE
  have K03 : Hid (Keeps No w w3) := Lib.hid (KW.out.trans K3.out (fun _ _ h => h))
  have d0 := K03.out.cell c0 (fun h => h)
  have CT := Lib.hid (deskTick_any (H.out.no K03.out).desk)
  obtain ⟨O, hO⟩ : ∃ b, b = ld.dk.o := ⟨_, rfl⟩
  rw [← hO] at HE CT
  clear hO c0
  go_wp2_with fail
  (with_reducible refine CT.out.mono ?_)
  rintro e w4 ⟨rfl, hk4⟩
  have K4 : Hid (Keeps No W w4) := Lib.hid (K3.out.trans hk4 (fun _ _ h => h))
  replace b0 := hk4.cellsAt b0
  clear hk4 CT
  cases O
  case false =>
    have HE2 : Hid (E = (14, ld, ds)) := Lib.hid (by rw [HE.out]; rfl)
    clear HE
    go_wp2
    go_ret
    exact ⟨by rw [HE2.out]; rfl, by rw [HE2.out]; exact LedPost.no H.out (KW.out.trans K4.out (fun _ _ h => h))⟩
  simp only [Bool.not_true, cond_false] at HE
  obtain ⟨W5, hW5⟩ : ∃ x, x = w4.alloc (.cells (lrC r (.slice na l.length nc)).toArray recT) := ⟨_, rfl⟩
  have k5 : Keeps No W W5 := K4.out.trans (by rw [hW5]; exact (Keeps.refl _).alloc _) (fun _ _ h => h)
  have k05 : Keeps No w W5 := KW.out.trans k5 (fun _ _ h => h)
  have g5 : W5.heap[w4.heap.size]? = some (.cells (rxC ⟨r, na, l.length, nc⟩).toArray recT (0, 0)) := by rw [hW5]; exact heap_alloc_new w4 _
  have s4 : w.heap.size ≤ w4.heap.size := (KW.out.trans K4.out (fun _ _ h => h)).size
  have hR5 : Recs W5 (LedS P) (.slice (some ⟨w4.heap.size, 0, none⟩) 1 1) [⟨r, na, l.length, nc⟩] :=
    recs_one g5 (fun e => by have := H.out.lt _ e; omega) HM.out.symm (HV.out.kept k5 (fun _ _ h => h)) (fun i hi => by
      have h1 := HO.out i hi
      have h2 := k5.size
      exact ⟨by omega, fun e => by have := H.out.lt _ e; omega⟩)
  have CW := ledWrite_any (HL.out.kept k05 (fun _ h => h.elim)) (Nat.le_trans Hb.out k05.size) (H.out.no k05) _ _ hR5 (by simp) (by have := Hnx.out; simp only [List.length_cons, List.length_nil]; omega) (by have := Hfl.out; simp only [List.length_cons, List.length_nil]; omega)
  have KK := Lib.hid k05
  rw [hW5] at CW
  have CWH := Lib.hid CW
  have HE2 : Hid (E = ld.write ds (List.map Rc.r [⟨r, na, l.length, nc⟩])) := Lib.hid HE.out
  rw [← HE2.out] at CWH
  rw [← hW5] at CWH
  have HW5 : Hid (∀ Q, Calls Tryz.prog 22 #[dP P.l, .slice (some ⟨w4.heap.size, 0, none⟩) 1 1] W5 Q → Calls Tryz.prog 22 #[dP P.l, .slice (some ⟨w4.heap.size, 0, none⟩) 1 1] (w4.alloc (.cells (lrC r (.slice na l.length nc)).toArray recT)) Q) := Lib.hid (fun Q h => by rw [← hW5]; exact h)
  clear CW hR5 k5 k05 g5 hW5 HE
  go_wp2_with fail
  (with_reducible refine HW5.out _ (CWH.out.mono ?_))
  rintro e w7 ⟨rfl, hp⟩
  have LP := Lib.hid (LedPost.after KK.out hp)
  clear hp CWH
  go_wp2
  go_ret
  exact ⟨rfl, LP.out⟩
end
end Go.Proofs.YtndjnkjcfdaegaaGreatDoor

/-
  A ledger is opened (ledger.Open). No conditions of its own, but that the tables are laid.
-/
namespace Go.Proofs.YtndjnkjcfdaegaaGreatDoor
open Go.RowKit Go.Shelf Go.Sort Go.Joins Go.Deep

/-! ### plain -/
theorem Ld.replay_append (l : Ld) : ∀ (a b : List Nm), l.replay (a ++ b) = match l.replay a with | none => none | some x => x.replay b := by
  intro a
  induction a generalizing l with
  | nil => intro b; rfl
  | cons s a ih =>
    intro b
    show (bif decide ((decL s).2 = 0) && decide ((l.fold (decL s).1).1 = 0) then Ld.replay (l.fold (decL s).1).2 (a ++ b) else none) = match (bif decide ((decL s).2 = 0) && decide ((l.fold (decL s).1).1 = 0) then Ld.replay (l.fold (decL s).1).2 a else none) with | none => none | some x => x.replay b
    cases decide ((decL s).2 = 0) && decide ((l.fold (decL s).1).1 = 0)
    · rfl
    · exact ih _ b
theorem Ld.replay_snoc {l x : Ld} {a : List Nm} (h : l.replay a = some x) (s : Nm) : l.replay (a ++ [s]) = bif decide ((decL s).2 = 0) && decide ((x.fold (decL s).1).1 = 0) then some (x.fold (decL s).1).2 else none := by
  rw [Ld.replay_append, h]
  rfl
theorem Ld.replay_stop {l x : Ld} {out : List Nm} {k : Nat} (hk : k < out.length) (h : l.replay (out.take k) = some x) (hs : (decide ((decL out[k]).2 = 0) && decide ((x.fold (decL out[k]).1).1 = 0)) = false) : l.replay out = none := by
  have e : out = (out.take k ++ [out[k]]) ++ out.drop (k + 1) := by
    rw [← List.take_succ_eq_append_getElem hk, List.take_append_drop]
  rw [e, Ld.replay_append, Ld.replay_snoc h, hs]
  rfl
theorem decL_may {s : Nm} (h : (decL s).2 = 0) : mayL (decL s).1 = true := by
  unfold decL at h ⊢
  cases hh : (doneR (recRaw (rdI (some s)).1 (rdI (some s)).2).2 && mayL (recRaw (rdI (some s)).1 (rdI (some s)).2).1) with
  | true => rw [cond_true]; exact (Bool.and_eq_true _ _ ▸ hh).2
  | false => rw [hh] at h; cases h
theorem Ld.fold_lg (l : Ld) (r : Lr) : (l.fold r).2.lg = l.lg := by
  unfold Ld.fold
  cases decide (r.k = 1)
  · cases decide (r.k = 2)
    · cases decide (r.k = 3)
      · cases decide (r.k = 4) <;> rfl
      · rfl
    · rfl
  · cases decide (r.n = l.ep + 1) <;> rfl
/-- what stands behind Open: its error, the ledger, the disk -/
def openAll (z : Zf) (g : Lg) (out : List Nm) (d : Ds) : Int × Option Ld × Ds :=
  match openLd z g out with
  | none => (14, none, d)
  | some l => bif decide ((l.write d [epochRec (l.ep + 1)]).1 = 0) then (0, some (l.write d [epochRec (l.ep + 1)]).2.1, (l.write d [epochRec (l.ep + 1)]).2.2) else ((l.write d [epochRec (l.ep + 1)]).1, none, (l.write d [epochRec (l.ep + 1)]).2.2)
theorem openLd_far {z : Zf} {g : Lg} {out : List Nm} (h : 0 < g.firsts.headD 0) : openLd z g out = none := by
  unfold openLd
  rw [decide_eq_true h]
  rfl
theorem openLd_none {z : Zf} {g : Lg} {out : List Nm} (h : Ld.replay ⟨Dk.new z, g, 0, [], 0⟩ out = none) : openLd z g out = none := by
  unfold openLd
  rw [h]
  cases decide (0 < g.firsts.headD 0) <;> rfl
theorem openLd_some {z : Zf} {g : Lg} {out : List Nm} {x : Ld} (h0 : g.firsts.headD 0 = 0) (h : Ld.replay ⟨Dk.new z, g, 0, [], 0⟩ out = some x) : openLd z g out = bif decide (1099511627776 ≤ x.ep) then none else some x := by
  unfold openLd
  rw [h, h0]
  rfl

/-! ### in memory -/
/-- a ledger that was opened behind the world w, on the disk at p -/
structure LedNew (w w' : World) (base p b : Nat) (P : Lp) (ld : Ld) (ds : Ds) : Prop where
  led : LedAt w' base P ld ds
  pp : P.p = p
  pb : P.b = b
  new : ∀ i, LedS P i → i = p ∨ i = b ∨ w.heap.size ≤ i
  cv : ∀ i, P.cv.ownBlock = some i → w.heap.size ≤ i
  dm : w.heap.size ≤ P.D.m
def OpPost (w : World) (base p b : Nat) (x : Int × Option Ld × Ds) (e : Ending) (w' : World) : Prop :=
  Keeps (Two p b) w w' ∧ DAt w' p b x.2.2 ∧ match x.2.1 with
    | none => e = .returned (.tuple #[.pointer none, .int .i64 x.1])
    | some ld => ∃ P, e = .returned (.tuple #[dP P.l, .int .i64 x.1]) ∧ LedNew w w' base p b P ld x.2.2
section
variable {w w' : World} {base : Nat}
theorem DeskAt.lower {D : Dp} {k : Dk} {b : Nat} (h : DeskAt w base D k) (hb : b ≤ base) : DeskAt w b D k :=
  ⟨h.box, h.map, h.pool.lower hb, ownsRow_less h.q hb, h.nm, Nat.le_trans hb h.bd, h.ok⟩
theorem map_not_disk {m p b : Nat} {l : List Value} {d : Ds} (h : cellsAt w m 0 11 = some l) (hd : DAt w p b d) : m ≠ p ∧ m ≠ b := by
  constructor
  · rintro rfl
    unfold cellsAt at h
    rw [hd.cells] at h
    simp at h
  · rintro rfl
    obtain ⟨es, clock, hh, _⟩ := hd.own
    unfold cellsAt at h
    rw [hh] at h
    cases h
/-- THE LEDGER THAT COMES TO BE. -/
theorem LedNew.made {w w1 w2 w3 : World} {p b l : Nat} {v : Value} {D : Dp} {z : Zf} {g : Lg} {ds0 ds : Ds} (hd : DAt w p b ds0) (hbp : base ≤ w.heap.size) (hD : DeskAt w1 w.heap.size D (Dk.new z)) (k1 : Keeps No w w1)
    (hW : WLog w2 base l p b v g ds) (hO : OwnInts w2 w1.heap.size v g.firsts) (hl : w1.heap.size ≤ l) (k2 : Keeps (Two p b) w1 w2) (h3 : w3 = w2.alloc (.cells #[dP D.d, dP l, .int .i64 0, .slice none 0 0, .int .i64 0] ledT)) (hdm : w.heap.size ≤ D.m) :
    ∃ P, P.l = w2.heap.size ∧ P.g = l ∧ LedNew w w3 base p b P ⟨Dk.new z, g, 0, [], 0⟩ ds ∧ Keeps (Two p b) w w3 ∧ ∀ i, LedS P i → i = w2.heap.size ∨ i < w1.heap.size ∨ LogS l p b v i := by
  have k3 : Keeps No w2 w3 := by rw [h3]; exact (Keeps.refl _).alloc _
  have hb3 : w3.heap[w2.heap.size]? = some (.cells #[dP D.d, dP l, .int .i64 0, .slice none 0 0, .int .i64 0] ledT (0, 0)) := by rw [h3]; exact heap_alloc_new w2 _
  have pl := hd.lt
  have s1 := k1.size
  have s2 := k2.size
  have s3 := k3.size
  have dlt : ∀ i, DeskS D i → w.heap.size ≤ i ∧ i < w1.heap.size := fun i hi => ⟨hD.le hi, hD.lt hi⟩
  have hll : l < w2.heap.size := hW.log.lt
  have off : ∀ i, DeskS D i → ¬ Two p b i := fun i hi e => by have := dlt i hi; rcases e with e | e <;> omega
  have md := map_not_disk hD.map (hd.kept k1 (fun h => h) (fun h => h))
  have ml := cellsAt_block hD.map
  have mo : ¬ Two p b D.m := fun e => by rcases e with e | e; exact md.1 e; exact md.2 e
  have vlt : ∀ i, v.ownBlock = some i → w1.heap.size ≤ i ∧ i < w2.heap.size := fun i hi => hO.lt i hi
  have kk : Keeps (Two p b) w w3 := ((k1.mono (fun _ _ h => h.elim)).trans k2 (fun _ _ h => h)).trans (k3.mono (fun _ _ h => h.elim)) (fun _ _ h => h)
  refine ⟨⟨w2.heap.size, D, l, v, p, b, .slice none 0 0⟩, rfl, rfl, ⟨⟨hb3, ((hD.kept k2 off mo).no k3).lower hbp, hW.no k3, ownsRow_less (k3.owns hO (fun _ _ h => h)) (Nat.le_trans hbp s1), World.ownsRow_nil _ _ _ _, fun i hi e => ?_, ⟨fun e => ?_, fun e => ?_⟩, (fun i hi => by cases hi), fun e => ?_, (show base ≤ w2.heap.size by omega), Int.le_refl _, (show (0 : Int) ≤ 1099511627776 by decide), Nat.zero_le _⟩, rfl, rfl, fun i hi => ?_, (fun i hi => by cases hi), hdm⟩, kk, fun i hi => ?_⟩
  · have := dlt i hi
    rcases e with e | e | e | e
    · simp only at e; omega
    · simp only at e; omega
    · simp only at e; omega
    · have := vlt i e; omega
  · have := dlt _ e
    simp only at this
    omega
  · rcases e with e | e | e | e
    · simp only at e; omega
    · simp only at e; omega
    · simp only at e; omega
    · have := vlt _ e; simp only at this; omega
  · rcases e with e | e | e
    · simp only at e; omega
    · exact hD.nm e
    · rcases e with e | e | e | e
      · simp only at e; omega
      · exact md.1 e
      · exact md.2 e
      · have := vlt _ e; simp only at this; omega
  · rcases hi with e | e | e
    · simp only at e; omega
    · have := dlt i e; omega
    · rcases e with e | e | e | e
      · simp only at e; omega
      · exact .inl e
      · exact .inr (.inl e)
      · have := vlt i e; omega
  · rcases hi with e | e | e
    · exact .inl e
    · exact .inr (.inl (dlt i e).2)
    · exact .inr (.inr e)
/-- and it goes on -/
theorem LedNew.step {w1 w2 : World} {p b : Nat} {P : Lp} {ld ld' : Ld} {ds ds' : Ds} (h : LedNew w w1 base p b P ld ds) (hk : Keeps (Two p b) w w1) (hp : LedPost w1 base P ld' ds' w2) :
    ∃ P', P'.l = P.l ∧ P'.g = P.g ∧ LedNew w w2 base p b P' ld' ds' ∧ Keeps (Two p b) w w2 ∧ Keeps (LedS P) w1 w2 ∧ ∀ i, LedS P' i → LedS P i ∨ w1.heap.size ≤ i := by
  obtain ⟨P', a1, a2, a3, a4⟩ := hp
  have hn : ∀ i, LedS P' i → i = p ∨ i = b ∨ w.heap.size ≤ i := fun i hi => by
    rcases a3 i hi with e | e
    · exact h.new i e
    · exact .inr (.inr (Nat.le_trans hk.size e))
  refine ⟨P', a4.l, a4.g, ⟨a1, a4.p.trans h.pp, a4.b.trans h.pb, hn, fun i hi => ?_, by rw [a4.m]; exact h.dm⟩, hk.trans a2 (fun i hi e => ?_), a2, a3⟩
  · rcases a4.c i hi with e | e | e
    · exact h.cv i e
    · rcases h.new i e with e2 | e2 | e2
      · exact absurd (show LedS P' i from .inr (.inr (.inr (.inl (by rw [e2, a4.p, h.pp]))))) (a1.nc i hi)
      · exact absurd (show LedS P' i from .inr (.inr (.inr (.inr (.inl (by rw [e2, a4.b, h.pb])))))) (a1.nc i hi)
      · exact e2
    · exact Nat.le_trans hk.size e
  · rcases h.new i e with e2 | e2 | e2
    · exact .inl e2
    · exact .inr e2
    · omega
theorem LedNew.no {w1 w2 : World} {p b : Nat} {P : Lp} {ld : Ld} {ds : Ds} (h : LedNew w w1 base p b P ld ds) (k : Keeps No w1 w2) : LedNew w w2 base p b P ld ds := ⟨h.led.no k, h.pp, h.pb, h.new, h.cv, h.dm⟩
theorem LedNew.disk {w1 : World} {p b : Nat} {P : Lp} {ld : Ld} {ds : Ds} (h : LedNew w w1 base p b P ld ds) : DAt w1 p b ds := by
  have := h.led.log.disk
  rw [h.pp, h.pb] at this
  exact this
end
end Go.Proofs.YtndjnkjcfdaegaaGreatDoor

/-
  ledger.Open. No conditions of its own, but that the tables are laid.
-/
namespace Go.Proofs.YtndjnkjcfdaegaaGreatDoor
open Go.RowKit Go.Shelf Go.Sort Go.Joins Go.Deep

abbrev ledName : ByteArray := { data := #[108, 101, 100, 103, 101, 114] }
section
variable {w w' : World} {base : Nat}
/-- where the loop stands: some records are done -/
structure RepAt (w wr : World) (base p b l j : Nat) (z : Zf) (g : Lg) (out : List Nm) (ds : Ds) (B : Nat) (ov : Value) (k : Nat) (x : Ld) (P : Lp) : Prop where
  pl : P.l = l
  pg : P.g = j
  led : LedNew w wr base p b P x ds
  kp : Keeps (Two p b) w wr
  txt : OwnStr wr B ov out.length out
  off : ∀ i, ov.ownBlock = some i → ¬ LedS P i
  rep : Ld.replay ⟨Dk.new z, g, 0, [], 0⟩ (out.take k) = some x
  lg : x.lg = g
  far : k = 0 ∨ g.firsts.headD 0 = 0
theorem RepAt.no {wr W : World} {p b l j : Nat} {z : Zf} {g : Lg} {out : List Nm} {ds : Ds} {B : Nat} {ov : Value} {k : Nat} {x : Ld} {P : Lp} (h : RepAt w wr base p b l j z g out ds B ov k x P) (hk : Keeps No wr W) : RepAt w W base p b l j z g out ds B ov k x P :=
  ⟨h.pl, h.pg, h.led.no hk, h.kp.trans hk (fun _ _ h => h.elim), hk.owns h.txt (fun _ _ h => h), h.off, h.rep, h.lg, h.far⟩
theorem RepAt.next {wr W : World} {p b l j : Nat} {z : Zf} {g : Lg} {out : List Nm} {ds : Ds} {B : Nat} {ov : Value} {k : Nat} {x x' : Ld} {P : Lp} (h : RepAt w wr base p b l j z g out ds B ov k x P) (hp : LedPost wr base P x' ds W)
    (hr : Ld.replay ⟨Dk.new z, g, 0, [], 0⟩ (out.take (k + 1)) = some x') (hg : x'.lg = g) (hf : g.firsts.headD 0 = 0) : ∃ P', RepAt w W base p b l j z g out ds B ov (k + 1) x' P' := by
  obtain ⟨P', b1, b0, b2, b3, b4, b5⟩ := h.led.step h.kp hp
  refine ⟨P', b1.trans h.pl, b0.trans h.pg, b2, b3, b4.owns h.txt (fun i hi e => h.off i hi e), fun i hi e => ?_, hr, hg, .inr hf⟩
  rcases b5 i e with e | e
  · exact h.off i hi e
  · have := (h.txt.lt i hi).2
    omega
set_option maxRecDepth 100000 in
set_option maxHeartbeats 4000000 in
theorem ledOpen_any {p b : Nat} {d : Ds} (hL : Laid w base) (hb : base ≤ w.heap.size) (hd : DAt w p b d) (hbp : base ≤ p) (hbb : base ≤ b) (z : Zf) (hz : zfOk z = true) (there : List Nat) (d1 : Ds) (hth : opThere d ledName = (0, there, d1))
    (g : Lg) (out : List Nm) (d' : Ds) (hend : opEnd ledName there (opRun ledName there d1) = (g, out, d')) (hol : out.length ≤ 1000000000) (hos : ∀ t ∈ out, t.length ≤ 1000000000) (hnx : g.next + 1 ≤ 1000000000000) (hfl : g.firsts.length + 1 ≤ 1000000) :
    Calls Tryz.prog 6 #[dP p, zfV z] w (OpPost w base p b (openAll z g out d')) := by
  obtain ⟨E, hE⟩ : ∃ x, x = openAll z g out d' := ⟨_, rfl⟩
  rw [← hE]
  have HL := Lib.hid hL
  have Hb := Lib.hid hb
  have HD := Lib.hid hd
  have HBP := Lib.hid (And.intro hbp hbb)
  have HE := Lib.hid hE
  have HTH := Lib.hid hth
  have HEN := Lib.hid hend
  have HO := Lib.hid hos
  have Hnx := Lib.hid hnx
  have Hfl := Lib.hid hfl
  have CD := Lib.hid (fun W => deskNew_any W z hz)
  have hol2 : (out.length : Int) ≤ 1000000000 := by omega
  clear hL hb hd hbp hbb hE hth hend hos hnx hfl hz hol
  go_enter Tryz.func6, Tryz.ntmps6
  go_upto_region 1 with fail
  refine wp_world ?_
  intro W0 hW0
  have K0 : Hid (Keeps No w W0) := Lib.hid (by rw [hW0]; exact (Keeps.refl _).alloc _)
  have b0 : cellsAt W0 w.heap.size 0 7 = some [.int .i64 z.c, .int .i64 z.r, .int .i64 z.s, .int .i64 z.u, .int .i64 z.v, .int .i64 z.i, .int .i64 z.q] := by rw [hW0]; simp [go_sem]
  clear hW0
  go_wp2_with fail
  (with_reducible refine (CD.out _).mono ?_)
  rintro e w1 ⟨D, rfl, hD, hk1, hdm⟩
  have D1 := Lib.hid hD
  have HDM := Lib.hid hdm
  clear hdm
  have K1 : Hid (Keeps No w w1) := Lib.hid (K0.out.trans hk1 (fun _ _ h => h))
  have s01 := K0.out.size
  have CO := Lib.hid (openLog_any (HL.out.kept K1.out (fun _ h => h.elim)) (Nat.le_trans Hb.out K1.out.size) (HD.out.kept K1.out (fun h => h) (fun h => h)) HBP.out.1 HBP.out.2 ledName (by kernel_rfl) there d1 HTH.out _ rfl g out d' HEN.out)
  clear hD hk1 b0 CD
  go_wp2_with fail
  (with_reducible refine CO.out.mono ?_)
  rintro e w2 ⟨l, v, ov, rfl, hW, hO, hov, hl, hoff, hk2⟩
  obtain ⟨oa, oc, rfl⟩ := ownsRow_slice hov
  have hll : l < w2.heap.size := hW.log.lt
  obtain ⟨F, hF⟩ : ∃ F, g.firsts[0]? = some F := ⟨g.firsts[0]'hW.log.ne, List.getElem?_eq_getElem hW.log.ne⟩
  have hFh : g.firsts.headD 0 = F := by
    cases hfs : g.firsts with
    | nil => rw [hfs] at hF; cases hF
    | cons a r => rw [hfs] at hF; exact Option.some.inj hF
  have MK := Lib.hid (fun w3 (h3 : w3 = w2.alloc (.cells #[dP D.d, dP l, .int .i64 0, .slice none 0 0, .int .i64 0] ledT)) => LedNew.made HD.out Hb.out (D1.out.lower s01) K1.out hW hO hl hk2 h3 (Nat.le_trans s01 HDM.out))
  have OV := Lib.hid hov
  have OF := Lib.hid hoff
  have K2 := Lib.hid hk2
  have HF := Lib.hid (And.intro hF hFh)
  clear hW hO hov hl hoff hk2 hF hFh CO
  go_upto_region 8 with fail
  refine wp_world ?_
  intro W3 hW3
  have R0 : Hid (∃ P, RepAt w W3 base p b w2.heap.size l z g out d' w1.heap.size (.slice oa out.length oc) 0 ⟨Dk.new z, g, 0, [], 0⟩ P) := Lib.hid (by
    obtain ⟨P, m1, m0, m2, m3, m4⟩ := MK.out W3 hW3
    have k3 : Keeps No w2 W3 := by rw [hW3]; exact (Keeps.refl _).alloc _
    refine ⟨P, m1, m0, m2, m3, k3.owns OV.out (fun _ _ h => h), fun i hi e => ?_, rfl, rfl, .inl rfl⟩
    have h1 := OV.out.lt i hi
    rcases m4 i e with e | e | e
    · omega
    · omega
    · exact OF.out i hi e)
  clear hW3 MK OF hll
  go_wp2_with fail
  go_loopw [39] (fun q wr => ∃ (k : Nat) (x : Ld) (P : Lp), k ≤ out.length ∧ q = .int .i64 k ∧ RepAt w wr base p b w2.heap.size l z g out d' w1.heap.size (.slice oa out.length oc) k x P) (fun q _ => out.length - (intOf q).toNat)
  case atStart =>
    obtain ⟨P, hP⟩ := R0.out
    exact ⟨0, _, P, Nat.zero_le _, rfl, hP⟩
  case round =>
    obtain ⟨k, x, P, hk, rfl, hR⟩ := hrel
    have RR := Lib.hid hR
    have hk0 : (0 : Int) ≤ (k : Int) := by omega
    clear R0
    by_cases hlt : k < out.length
    · have hji : (k : Int) < (out.length : Int) := by omega
      have hrd : Reads wr 1 (.slice oa out.length oc) out.length (out.map encStr) := Reads.ofOwn hR.txt (by intro u hu; obtain ⟨t, _, rfl⟩ := List.mem_map.1 hu; rfl)
      obtain ⟨q, off, c', he, _, _, _, hx⟩ := Reads.addr hrd (by rw [List.length_map]; omega)
      simp only [Value.slice.injEq, true_and] at he
      obtain ⟨rfl, rfl⟩ := he
      have hc := hx k _ (by rw [List.getElem?_map, List.getElem?_eq_getElem hlt]; rfl)
      have hts := HO.out _ (List.getElem_mem hlt)
      obtain ⟨t, ht⟩ : ∃ t, t = out[k] := ⟨_, rfl⟩
      have HT := Lib.hid ht
      rw [← ht] at hc hts
      obtain ⟨T, hT⟩ : ∃ T, T = toB t := ⟨_, rfl⟩
      have hc2 : wr.cell? ⟨q, off + k, none⟩ = some (.string T) := by rw [hT]; exact hc
      have CDC : Hid (Calls Tryz.prog 19 #[.string T] wr (DecPost wr (decL t))) := Lib.hid (by
        have eT : T.size = t.length := by rw [hT]; simp [toB, ByteArray.size]
        have := decode_any wr T (by omega)
        rw [show T.data.toList = t by rw [hT]; simp [toB]] at this
        exact this)
      clear hx hc hrd ht hT hR
      go_wp2_with fail
      obtain ⟨Rd, hRd⟩ : ∃ R, R = decL t := ⟨_, rfl⟩
      rw [← hRd] at CDC
      have HRd := Lib.hid hRd
      clear hRd
      obtain ⟨r, ec⟩ := Rd
      (with_reducible refine CDC.out.mono ?_)
      rintro e w4 ⟨v4, rfl, ho4, hk4⟩
      obtain ⟨na, nc, rfl⟩ := ownsRow_slice ho4
      have O4 := Lib.hid ho4
      have R4 := Lib.hid (RR.out.no hk4)
      clear ho4 hk4 CDC hc2
      go_upto_region 12 with fail
      refine wp_world ?_
      intro W5 hW5
      have k5 : Keeps No w4 W5 := by rw [hW5]; exact (Keeps.refl _).alloc _
      have b5 : cellsAt W5 w4.heap.size 0 21 = some (lrC r (.slice na r.ids.length nc)) := by rw [hW5]; simp [go_sem]
      have R5 := Lib.hid (R4.out.no k5)
      have O5 : Hid (OwnOf cNam idT W5 wr.heap.size (.slice na r.ids.length nc) r.ids) := Lib.hid (k5.owns O4.out (fun _ _ h => h))
      clear hW5 k5 R4 O4
      by_cases te : ec = 0
      case neg =>
        have be : (ec != 0) = true := by simpa using te
        have HE2 : Hid (E = (14, none, d')) := Lib.hid (by
          have : openLd z g out = none := openLd_none (Ld.replay_stop hlt R5.out.rep (by rw [← HT.out, ← HRd.out, decide_eq_false te]; rfl))
          rw [HE.out]; unfold openAll; rw [this])
        clear te
        go_wp2
        go_ret2
        exact ⟨R5.out.kp, by rw [HE2.out]; exact R5.out.led.disk, by rw [HE2.out]; rfl⟩
      subst te
      have CF : Hid (Calls Tryz.prog 20 #[dP l] W5 fun e w' => e = .returned (.int .i64 F) ∧ w' = W5) := Lib.hid (by
        have h := firstLog_any R5.out.led.led.log.log F (by rw [R5.out.lg]; exact HF.out.1)
        rw [R5.out.pg] at h
        exact h)
      have hF0 : (0 : Int) ≤ (F : Int) := by omega
      by_cases tF : F = 0
      case neg =>
        have tF1 : (0 : Int) < (F : Int) := by omega
        have HE2 : Hid (E = (14, none, d')) := Lib.hid (by
          have : openLd z g out = none := openLd_far (by rw [HF.out.2]; omega)
          rw [HE.out]; unfold openAll; rw [this])
        clear tF hF0
        go_wp2_with fail
        (with_reducible refine CF.out.mono ?_)
        rintro e w6 ⟨rfl, rfl⟩
        go_wp2
        go_ret2
        exact ⟨R5.out.kp, by rw [HE2.out]; exact R5.out.led.disk, by rw [HE2.out]; rfl⟩
      have tF1 : ¬ (0 : Int) < (F : Int) := by omega
      have HM : Hid (mayL r = true) := Lib.hid (by
        have h : (decL t).2 = 0 := by rw [← HRd.out]
        have := decL_may h
        rw [← HRd.out] at this
        exact this)
      have CFO : Hid (Calls Tryz.prog 21 #[dP w2.heap.size, lrV r (.slice na r.ids.length nc)] W5 (FoldPost W5 base P (x.fold r) d')) := Lib.hid (by
        rw [← R5.out.pl]
        refine ledFold_any R5.out.led.led r _ O5.out.reads' HM.out (fun i hi e => ?_)
        have h1 := (O5.out.lt i hi).1
        have h2 := RR.out.led.led.lt i e
        omega)
      obtain ⟨⟨fe, x'⟩, hfx⟩ : ∃ y, y = x.fold r := ⟨_, rfl⟩
      rw [← hfx] at CFO
      have HFX := Lib.hid hfx
      clear hfx hF0
      go_wp2_with fail
      (with_reducible refine CF.out.mono ?_)
      rintro e w6 ⟨rfl, rfl⟩
      go_wp2_with fail
      (with_reducible refine CFO.out.mono ?_)
      rintro e w6 ⟨rfl, hp⟩
      have LP := Lib.hid hp
      clear hp CF CFO
      by_cases tf : fe = 0
      case neg =>
        have bf : (fe != 0) = true := by simpa using tf
        have HE2 : Hid (E = (14, none, d')) := Lib.hid (by
          have : openLd z g out = none := openLd_none (Ld.replay_stop hlt R5.out.rep (by rw [← HT.out, ← HRd.out]; simp only; rw [← HFX.out, decide_eq_false tf]; rfl))
          rw [HE.out]; unfold openAll; rw [this])
        clear tf
        go_wp2
        go_ret2
        obtain ⟨P', _, _, q2, q3, _, _⟩ := R5.out.led.step R5.out.kp LP.out
        exact ⟨q3, by rw [HE2.out]; exact q2.disk, by rw [HE2.out]; rfl⟩
      subst tf
      have RN : Hid (∃ P', RepAt w w6 base p b w2.heap.size l z g out d' w1.heap.size (.slice (some ⟨q, off, none⟩) out.length oc) (k + 1) x' P') := Lib.hid (by
        refine R5.out.next LP.out ?_ ?_ (by rw [HF.out.2, tF])
        · rw [List.take_succ_eq_append_getElem hlt, Ld.replay_snoc R5.out.rep, ← HT.out, ← HRd.out]
          simp only
          rw [← HFX.out]
          rfl
        · have h := Ld.fold_lg x r
          rw [← HFX.out] at h
          exact h.trans R5.out.lg)
      clear LP R5 O5
      go_wp2
      go_roundw
      case rel =>
        obtain ⟨P', hP'⟩ := RN.out
        exact ⟨k + 1, x', P', by omega, by go_num, hP'⟩
      case measure => simp [intOf]; omega
    · have hjn : k = out.length := by omega
      have hji : ¬ ((k : Int) < (out.length : Int)) := by omega
      have hrep : Ld.replay ⟨Dk.new z, g, 0, [], 0⟩ out = some x := by have := hR.rep; rw [hjn, List.take_length] at this; exact this
      have HRP := Lib.hid hrep
      have d2 : wr.cell? ⟨w2.heap.size, 2, none⟩ = some (.int .i64 x.ep) := by have := hR.led.led.cells.2.2.1; rw [hR.pl] at this; exact this
      have e0 := hR.led.led.e0
      have e1 := hR.led.led.e1
      have CF : Hid (Calls Tryz.prog 20 #[dP l] wr fun e w' => e = .returned (.int .i64 F) ∧ w' = wr) := Lib.hid (by
        have h := firstLog_any hR.led.led.log.log F (by rw [hR.lg]; exact HF.out.1)
        rw [hR.pg] at h
        exact h)
      have hF0 : (0 : Int) ≤ (F : Int) := by omega
      clear hrep hR hjn hlt
      by_cases te : 1099511627776 ≤ x.ep
      · have HE2 : Hid (E = (14, none, d')) := Lib.hid (by
          have h : openLd z g out = none := by
            by_cases tF : F = 0
            · rw [openLd_some (by rw [HF.out.2, tF]) HRP.out, decide_eq_true te]; rfl
            · exact openLd_far (by rw [HF.out.2]; omega)
          rw [HE.out]; unfold openAll; rw [h])
        clear hF0
        go_wp2
        go_ret2
        exact ⟨RR.out.kp, by rw [HE2.out]; exact RR.out.led.disk, by rw [HE2.out]; rfl⟩
      by_cases tF : F = 0
      case neg =>
        have tF1 : (0 : Int) < (F : Int) := by omega
        have HE2 : Hid (E = (14, none, d')) := Lib.hid (by
          have : openLd z g out = none := openLd_far (by rw [HF.out.2]; omega)
          rw [HE.out]; unfold openAll; rw [this])
        clear tF hF0
        go_wp2_with fail
        (with_reducible refine CF.out.mono ?_)
        rintro e w6 ⟨rfl, rfl⟩
        go_wp2
        go_ret2
        exact ⟨RR.out.kp, by rw [HE2.out]; exact RR.out.led.disk, by rw [HE2.out]; rfl⟩
      have tF1 : ¬ (0 : Int) < (F : Int) := by omega
      have HE3 : Hid (openLd z g out = some x) := Lib.hid (by rw [openLd_some (by rw [HF.out.2, tF]) HRP.out, decide_eq_false te]; rfl)
      obtain ⟨Y, hY⟩ : ∃ Y, Y = x.write d' [epochRec (x.ep + 1)] := ⟨_, rfl⟩
      have HE4 : Hid (E = bif decide (Y.1 = 0) then (0, some Y.2.1, Y.2.2) else (Y.1, none, Y.2.2)) := Lib.hid (by
        rw [HE.out, hY]
        unfold openAll
        rw [HE3.out])
      obtain ⟨W5, hW5⟩ : ∃ W, W = wr.alloc (.cells (rxC (litRc (epochRec (x.ep + 1)))).toArray recT) := ⟨_, rfl⟩
      have k5 : Keeps No wr W5 := by rw [hW5]; exact (Keeps.refl _).alloc _
      have g5 : W5.heap[wr.heap.size]? = some (.cells (rxC (litRc (epochRec (x.ep + 1)))).toArray recT (0, 0)) := by rw [hW5]; exact heap_alloc_new wr _
      have R5 := RR.out.no k5
      have hR5 : Recs W5 (LedS P) (.slice (some ⟨wr.heap.size, 0, none⟩) 1 1) [litRc (epochRec (x.ep + 1))] := recs_lit g5 (fun e => by have := RR.out.led.led.lt _ e; omega) (mayL_epoch (by omega) (by omega)) rfl
      have CW := ledWrite_any (HL.out.kept R5.kp (fun i hi => by rcases hi with e | e; exact e ▸ HBP.out.1; exact e ▸ HBP.out.2)) (Nat.le_trans Hb.out R5.kp.size) R5.led.led _ _ hR5 (by simp) (by have := Hnx.out; rw [R5.lg]; simp only [List.length_cons, List.length_nil]; omega) (by have := Hfl.out; rw [R5.lg]; simp only [List.length_cons, List.length_nil]; omega)
      replace CW : Calls Tryz.prog 22 #[dP w2.heap.size, .slice (some ⟨wr.heap.size, 0, none⟩) 1 1] W5 (WritePost W5 base P Y) := by rw [hY, ← R5.pl]; exact CW
      have RF := Lib.hid R5
      rw [hW5] at CW
      have CWH : Hid (Calls Tryz.prog 22 #[dP w2.heap.size, .slice (some ⟨wr.heap.size, 0, none⟩) 1 1]
          (wr.alloc (.cells #[.int .i64 1, .int .i64 (x.ep + 1), .int .i64 0, .int .i64 0, .int .i64 0, .int .i64 0, .int .i64 0, .int .i64 0, .int .i64 0, .int .i64 0, .int .i64 0, .int .i64 0, .int .i64 0, .int .i64 0, .int .i64 0, .int .i64 0, .int .i64 0, .int .i64 0, .int .i64 0, .int .i64 0, .slice none 0 0] 68)) (WritePost W5 base P Y)) := Lib.hid (by rw [hW5]; exact CW)
      clear CW R5 hR5 k5 g5 hW5 hY hF0
      obtain ⟨y1, y2, y3⟩ := Y
      go_wp2_with fail
      (with_reducible refine CF.out.mono ?_)
      rintro e w6 ⟨rfl, rfl⟩
      go_wp2_with fail
      (with_reducible refine CWH.out.mono ?_)
      rintro e w7 ⟨rfl, hp⟩
      have LP := Lib.hid hp
      clear hp CWH CF
      by_cases ty : y1 = 0
      case neg =>
        have b7 : (y1 != 0) = true := by simpa using ty
        have HE2 : Hid (E = (y1, none, y3)) := Lib.hid (by rw [HE4.out, decide_eq_false ty]; rfl)
        clear ty
        go_wp2
        go_ret2
        obtain ⟨P', _, _, q2, q3, _, _⟩ := RF.out.led.step RF.out.kp LP.out
        exact ⟨q3, by rw [HE2.out]; exact q2.disk, by rw [HE2.out]; rfl⟩
      subst ty
      have HE2 : Hid (E = (0, some y2, y3)) := Lib.hid (by rw [HE4.out]; rfl)
      go_wp2
      go_ret2
      obtain ⟨P', q1, _, q2, q3, _, _⟩ := RF.out.led.step RF.out.kp LP.out
      refine ⟨q3, by rw [HE2.out]; exact q2.disk, ?_⟩
      rw [HE2.out]
      exact ⟨P', by rw [q1, RF.out.pl]; rfl, q2⟩
end
end Go.Proofs.YtndjnkjcfdaegaaGreatDoor

