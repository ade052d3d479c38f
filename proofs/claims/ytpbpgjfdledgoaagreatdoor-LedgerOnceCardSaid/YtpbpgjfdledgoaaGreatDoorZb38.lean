/-
  Texts in one: LgX, LgY. No conditions of their own.
-/
import Derived.Test.YtpbpgjfdledgoaaGreatDoorZb34
import Derived.Test.YtpbpgjfdledgoaaGreatDoorZb37
import Derived.BigQuiet
import Derived.Deep.RegionHeld3

/-
  What a desk lets in may be written down; rows of one record or two. No conditions of their own.
-/
namespace Go.Proofs.YtpbpgjfdledgoaaGreatDoor
open Go.RowKit Go.Shelf Go.Sort Go.Joins Go.Deep

theorem headP_ok {p : Pl} (h : plOk p) {k : Int} (he : (headP p k).2.2 = 0) : idOk ⟨k, (headP p k).1, genP p k (headP p k).1⟩ = true := by
  unfold headP at he ⊢
  cases hs : shAt p k with
  | none => rw [hs] at he; cases he
  | some s =>
    rw [hs] at he
    obtain ⟨n, rfl, hn⟩ := shAt_some hs
    have sok := h.sh hn
    cases hf : s.free with
    | nil => simp only [headS, hf] at he; cases he
    | cons i l =>
      obtain ⟨x, hx, _, hg⟩ := sok.fr i (by rw [hf]; exact List.mem_cons_self ..)
      have hok := sok.at hx
      have hi := (List.getElem?_eq_some_iff.1 hx).1
      have hn2 := (List.getElem?_eq_some_iff.1 hn).1
      have e1 : (headS s).1 = (i : Int) := by simp only [headS, hf]
      simp only [e1]
      have e2 : genP p (n : Int) (i : Int) = x.g := by
        unfold genP ixAt
        rw [hs]
        simp only
        rw [ixIn_nat hx]
      rw [e2]
      have h16 := h.1
      have h16' := sok.n1
      have g0 := hok.g0
      unfold idOk okI
      simp only [Bool.and_eq_true, decide_eq_true_eq]
      omega
theorem cmdOk_named {c : Cm} (h : cmdOk c = true) (hk : c.k = 1) {a : Nam} (ha : idOk a = true) : cmdOk (c.named a) = true := by
  have b1 : (c.k == 1) = true := by rw [hk]; rfl
  unfold cmdOk at h ⊢
  rw [b1, cond_true] at h
  have b2 : ((c.named a).k == 1) = true := b1
  rw [b2, cond_true]
  simp only [Bool.and_eq_true] at h ⊢
  refine ⟨h.1, h.2.1, ?_⟩
  have h3 := h.2.2
  unfold bdOk at h3 ⊢
  simp only [Bool.and_eq_true] at h3 ⊢
  exact ⟨h3.1, h3.2.1, ha⟩
theorem lookD_ok {d : Dk} (hd : plOk d.pl) {c : Cm} (h : (lookD d c).2.2 = 0) : cmdOk (lookD d c).1 = true ∧ ((lookD d c).2.1 = true → okI (lookD d c).1.b.s 0 15 = true ∧ okI (lookD d c).1.b.i 0 15 = true) := by
  unfold lookD at h ⊢
  cases h1 : (!cmdOk c || (decide (c.k = 1) && !neq c.b.id Nam.zero)) with
  | true => rw [h1] at h; cases h
  | false =>
    rw [h1, cond_false] at h
    rw [cond_false]
    have hc : cmdOk c = true := by
      cases hh : cmdOk c with
      | true => rfl
      | false => rw [hh] at h1; cases h1
    by_cases hk : c.k = 1
    · rw [decide_eq_true hk, cond_true] at h ⊢
      cases h2 : decide (c.zone d.z < 0) with
      | true => rw [h2] at h; cases h
      | false =>
        rw [h2, cond_false] at h
        rw [cond_false]
        cases h3 : decide (d.z.q ≤ (d.q.length : Int)) with
        | true => rw [h3] at h; cases h
        | false =>
          rw [h3, cond_false] at h
          rw [cond_false]
          by_cases h4 : (headP d.pl (c.zone d.z)).2.2 = 0
          · rw [decide_eq_true h4]
            simp only [Bool.not_true, cond_false]
            have hi := headP_ok hd h4
            refine ⟨cmdOk_named hc hk hi, fun _ => ?_⟩
            unfold idOk at hi
            simp only [Bool.and_eq_true] at hi
            exact ⟨hi.1, hi.2.1⟩
          · rw [decide_eq_false h4] at h
            exact absurd (show (13 : Int) = 0 from h) (by decide)
    · rw [decide_eq_false hk, cond_false] at h ⊢
      cases h2 : (!aliveP d.pl c.id) with
      | true => rw [h2] at h; cases h
      | false =>
        rw [h2, cond_false] at h
        rw [cond_false]
        cases h3 : waitsQ d.q c.id with
        | true => rw [h3] at h; cases h
        | false =>
          rw [h3, cond_false] at h
          rw [cond_false]
          cases h4 : decide (d.z.q ≤ (d.q.length : Int)) with
          | true => rw [h4] at h; cases h
          | false =>
            rw [cond_false]
            exact ⟨hc, fun h => by cases h⟩
theorem cmEq_self (c : Cm) : cmEq c c = true := (cmEq_iff c c).2 rfl
theorem mayL_adm {c : Cm} (h : cmdOk c = true) : mayL (admRec c) = true := by
  rw [may_3 rfl]
  show (cmdOk c && ((0 == (0 : Int)) && ((0 == (0 : Int)) && ((0 == (0 : Int)) && (cmEq c c && (0 == 0)))))) = true
  rw [h, cmEq_self]
  rfl
theorem mayL_res {s i : Int} (hs : okI s 0 15 = true) (hi : okI i 0 15 = true) : mayL (resRec s i) = true := by
  unfold mayL resRec
  simp only
  show (decide ((0 : Int) = 0) && (okI s 0 15 && (okI i 0 15 && (cmEq Cm.zero Cm.zero && List.isEmpty ([] : List Nam))))) = true
  rw [hs, hi, cmEq_self]
  rfl
theorem mayL_open : mayL openRec = true := by kernel_rfl
theorem mayL_epoch {n : Int} (h0 : 1 ≤ n) (h1 : n ≤ 1099511627776) : mayL (epochRec n) = true := by
  rw [may_1 rfl]
  show (okI n 1 1099511627776 && ((n == n) && ((0 == (0 : Int)) && ((0 == (0 : Int)) && (cmEq Cm.zero Cm.zero && (0 == 0)))))) = true
  rw [okI_iff.2 ⟨h0, h1⟩, cmEq_self]
  simp
/-- a record without names -/
def litRc (r : Lr) : Rc := ⟨r, none, 0, 0⟩
theorem recs_one {W : World} {B : Nat → Prop} {x : Rc} {g : Nat} (hg : W.heap[g]? = some (.cells (rxC x).toArray recT (0, 0))) (hB : ¬ B g) (hm : mayL x.r = true) (hr : RdOf cNam W x.v x.r.ids) (ho : ∀ i, x.v.ownBlock = some i → i < W.heap.size ∧ ¬ B i) :
    Recs W B (.slice (some ⟨g, 0, none⟩) 1 1) [x] := by
  refine ⟨⟨rfl, fun u hu => ?_, .inr ⟨_, _, rfl, Nat.le_refl _, by unfold maxLen; omega, fun j v hj => ?_⟩⟩, fun i hi => ?_, fun y hy => ?_⟩
  · rw [rowsOf_one] at hu
    exact cRec.one x u hu
  · rw [rowsOf_one] at hj
    rw [Addr.add_lit, cell_of_row _ _ _ _ _ _ hg]
    rw [Nat.zero_add, List.getElem?_toArray]
    exact hj
  · have e : g = i := Option.some.inj hi
    subst e
    exact ⟨(Array.getElem?_eq_some_iff.1 hg).1, hB⟩
  · rw [List.mem_singleton] at hy
    subst hy
    exact ⟨hr, hm, ho⟩
theorem recs_lit {W : World} {B : Nat → Prop} {r : Lr} {g : Nat} (hg : W.heap[g]? = some (.cells (rxC (litRc r)).toArray recT (0, 0))) (hB : ¬ B g) (hm : mayL r = true) (hi : r.ids = []) : Recs W B (.slice (some ⟨g, 0, none⟩) 1 1) [litRc r] :=
  recs_one hg hB hm (by show RdOf cNam W (.slice none 0 0) r.ids; rw [hi]; exact Reads.nil _ _) (fun i hi => by cases hi)
theorem recs_two {W : World} {B : Nat → Prop} {r s : Lr} {base : Nat} {v : Value} (ho : OwnOf cRec recT W base v [litRc r, litRc s]) (hB : ∀ i, B i → i < base) (hm : mayL r = true ∧ mayL s = true) (hi : r.ids = [] ∧ s.ids = []) : Recs W B v [litRc r, litRc s] := by
  refine ⟨ho.reads', fun i h => ?_, fun y hy => ?_⟩
  · have := ho.lt i h
    exact ⟨this.2, fun e => by have := hB i e; omega⟩
  · have key : ∀ t : Lr, mayL t = true → t.ids = [] → RdOf cNam W (litRc t).v (litRc t).r.ids ∧ mayL (litRc t).r = true ∧ ∀ i, (litRc t).v.ownBlock = some i → i < W.heap.size ∧ ¬ B i :=
      fun t h1 h2 => ⟨by show RdOf cNam W (.slice none 0 0) t.ids; rw [h2]; exact Reads.nil _ _, h1, fun i hi => by cases hi⟩
    rw [List.mem_cons, List.mem_singleton] at hy
    rcases hy with rfl | rfl
    · exact key r hm.1 hi.1
    · exact key s hm.2 hi.2
end Go.Proofs.YtpbpgjfdledgoaaGreatDoor

/-
  A ledger lets a command in (ledger.Call). No conditions of its own, but that the tables are laid.
-/
namespace Go.Proofs.YtpbpgjfdledgoaaGreatDoor
open Go.RowKit Go.Shelf Go.Sort Go.Joins Go.Deep

/-- the command in its box is another one -/
theorem LkAt.turn {w W : World} {c : Cm} (h : LkAt w W c) (x : Cm) : LkAt w (W.setRow w.heap.size (cmC x).toArray) x := by
  refine ⟨h.kp.setRow (S := No) (fun hlt => absurd hlt (Nat.lt_irrefl _)) _, setRow_heap _ _ _ _ _ _ h.b, ?_⟩
  have k : Keeps (Own w.heap.size) W (W.setRow w.heap.size (cmC x).toArray) := Keeps.setRow (S := Own w.heap.size) (Keeps.refl W) (fun _ => rfl) _
  exact k.heap h.z (fun e => by have e : w.heap.size + 1 = w.heap.size := e; omega)
theorem box_out {W : World} {n : Nat} {y x : Cm} (hz : W.heap[n]? = some (.cells (cmC y).toArray cmdT (0, 0))) : cellsAt (W.setRow n (cmC x).toArray) n 0 16 = some (cmC x) := by rw [cellsAt_setRow_at _ _ _ _ _ ⟨_, _, hz⟩]; rfl
theorem box_keeps {x : Cm} (W : World) (n : Nat) : Keeps (Own n) W (W.setRow n (cmC x).toArray) := Keeps.setRow (S := Own n) (Keeps.refl W) (fun _ => rfl) _
theorem block_lt {W : World} {n : Nat} {o : Obj} (h : W.heap[n]? = some o) : n < W.heap.size := (Array.getElem?_eq_some_iff.1 h).1
/-- a box of the call's own is written, behind the ledger's method -/
theorem LedPost.put {w w1 w2 w3 : World} {base : Nat} {P : Lp} {ld ld' : Ld} {ds ds' : Ds} {b : Nat} (h : LedPost w1 base P ld' ds' w2) (h0 : LedAt w base P ld ds) (k1 : Keeps No w w1) (hb : w.heap.size ≤ b) (hb1 : b < w1.heap.size) (k2 : Keeps (Own b) w2 w3) :
    LedPost w base P ld' ds' w3 := by
  obtain ⟨P', a1, a2, a3, a4⟩ := h
  have off : ∀ i, LedS P i → ¬ i = b := fun i hi e => by have := h0.lt i hi; omega
  refine ⟨P', a1.kept k2 (fun i hi e => ?_) (fun i hi e => ?_) (fun e => ?_), ((k1.mono (fun _ _ h => h.elim)).trans a2 (fun _ _ h => h)).trans k2 (fun i hi e => ?_), fun i hi => (a3 i hi).imp id (Nat.le_trans k1.size), a4.l, a4.p, a4.b, a4.g, a4.m, fun i hi => ?_⟩
  · have e : i = b := e
    rcases a3 i hi with e2 | e2
    · exact off i e2 e
    · omega
  · have e : i = b := e
    rcases a4.c i hi with e2 | e2 | e2
    · have := (h0.cm.lt i e2).2
      omega
    · exact off i e2 e
    · omega
  · have e : P'.D.m = b := e
    rw [a4.m] at e
    have := cellsAt_block h0.desk.map
    omega
  · have e : i = b := e
    omega
  · rcases a4.c i hi with e | e | e
    · exact .inl e
    · exact .inr (.inl e)
    · exact .inr (.inr (Nat.le_trans k1.size e))
theorem own_one {W : World} {b g : Nat} {x : Rc} (hg : W.heap[g]? = some (.cells (rxC x).toArray recT (0, 0))) (hb : b ≤ g) : OwnOf cRec recT W b (.slice (some ⟨g, 0, none⟩) 1 1) [x] :=
  ⟨rfl, .inr ⟨g, 1, _, rfl, hb, hg, Nat.le_refl _, by unfold maxLen; omega, rfl, rfl⟩⟩
/-- what Insert leaves: a new row -/
def InsPost (W : World) (xs : List Rc) (e : Ending) (w' : World) : Prop := ∃ v a c, v = .slice a xs.length c ∧ e = .returned v ∧ OwnOf cRec recT w' W.heap.size v xs ∧ Keeps No W w'
set_option maxRecDepth 100000 in
/-- a record ahead of another one -/
theorem insert_two {W : World} {g : Nat} {x : Rc} (hg : W.heap[g]? = some (.cells (rxC x).toArray recT (0, 0))) (r : Lr) {C : Array Value} (hC : C = (rxC (litRc r)).toArray) :
    Calls Tryz.prog 77 #[.slice (some ⟨g, 0, none⟩) 1 1, .int .i64 0, .slice (some ⟨W.heap.size, 0, none⟩) 1 1] (W.alloc (.cells C recT)) (InsPost W [litRc r, x]) := by
  subst hC
  have hk : Keeps No W (W.alloc (.cells (rxC (litRc r)).toArray recT)) := (Keeps.refl W).alloc _
  have h := recs_insert (W.alloc (.cells (rxC (litRc r)).toArray recT)) g g 1 0 [x] (own_one (hk.heap hg (fun h => h)) (Nat.le_refl _)) (by simp) (by simp) (by simp) W.heap.size (litRc r) (heap_alloc_new W _) (by have := block_lt hg; have := hk.size; omega)
  refine h.mono ?_
  rintro e w' ⟨G, rfl, ho, hk2⟩
  refine ⟨_, _, _, rfl, rfl, ?_, hk.trans hk2 (fun _ _ h => h)⟩
  obtain ⟨o1, o2⟩ := ho
  refine ⟨o1, ?_⟩
  rcases o2 with ⟨e, _⟩ | ⟨g', cap, cur, e, _, o4⟩
  · cases e
  · exact .inr ⟨g', cap, cur, e, by simp only [Value.slice.injEq, Option.some.injEq, Addr.mk.injEq] at e; have := hk.size; omega, o4⟩
def CallPost (w : World) (base : Nat) (P : Lp) (x : Cm × Int × Ld × Ds) (e : Ending) (w' : World) : Prop := e = .returned (.tuple #[cmV x.1, .int .i64 x.2.1]) ∧ LedPost w base P x.2.2.1 x.2.2.2 w'
section
variable {w w' : World} {base : Nat} {P : Lp} {ld : Ld} {ds : Ds}
set_option maxRecDepth 100000 in
set_option maxHeartbeats 4000000 in
theorem ledCall_any (hL : Laid w base) (hb : base ≤ w.heap.size) (h : LedAt w base P ld ds) (c : Cm) (hnx : ld.lg.next + 2 ≤ 1000000000000) (hfl : ld.lg.firsts.length + 2 ≤ 1000000) :
    Calls Tryz.prog 20 #[dP P.l, cmV c] w (CallPost w base P (ld.call ds c)) := by
  obtain ⟨c0, _, _, _, c4⟩ := h.cells
  have ll : P.l < w.heap.size := h.lt _ (.inl rfl)
  obtain ⟨E, hE⟩ : ∃ x, x = ld.call ds c := ⟨_, rfl⟩
  rw [← hE]
  unfold Ld.call at hE
  have H := Lib.hid h
  have HL := Lib.hid hL
  have Hb := Lib.hid hb
  have HE := Lib.hid hE
  have Hnx := Lib.hid hnx
  have Hfl := Lib.hid hfl
  clear h hL hb hE hnx hfl
  go_enter Tryz.func20, Tryz.ntmps20
  go_upto_region 1 with fail
  refine wp_world ?_
  intro W0 hW0
  have A0 : Hid (LkAt w W0 c) := Lib.hid (by
    rw [hW0]
    refine ⟨((Keeps.refl w).alloc _).alloc _, ?_, ?_⟩
    · rw [Below.heap_alloc _ _ _ (by simp)]
      exact heap_alloc_new w _
    · have h0 := heap_alloc_new (w.alloc (.cells (cmC c).toArray cmdT)) (.cells (cmC Cm.zero).toArray cmdT)
      have e : (w.alloc (.cells (cmC c).toArray cmdT)).heap.size = w.heap.size + 1 := by simp
      rw [e] at h0
      exact h0)
  clear hW0
  go_wp2_with fail
  (with_reducible refine (ledbroken_any (H.out.no A0.out.kp)).mono ?_)
  rintro e W ⟨rfl, rfl⟩
  by_cases t0 : ld.e = 0
  case neg =>
    have b0 : (ld.e != 0) = true := by simpa using t0
    have HE2 : Hid (E = (Cm.zero, ld.e, ld, ds)) := Lib.hid (by rw [HE.out, decide_eq_false t0]; rfl)
    obtain ⟨oz, sz, _, _⟩ := A0.out.opened
    clear HE t0
    go_wp2
    obtain ⟨hcr, hkk⟩ := A0.out.row_out Cm.zero
    have hgoal : CallPost w base P E (.returned (.tuple #[cmV Cm.zero, .int .i64 ld.e])) _ := ⟨by rw [HE2.out], by rw [HE2.out]; exact LedPost.no H.out hkk⟩
    refine bodyPost_ret (v := .tuple #[cmV Cm.zero, .int .i64 ld.e]) ?_ rfl hgoal
    clear hgoal hkk
    simp only [cmC, Cm.zero, Bd.zero] at hcr
    simp [results, Tryz.results20, go_sem, hcr, Cm.zero, Bd.zero]
  have b0 : (ld.e != 0) = false := by simpa using t0
  rw [decide_eq_true t0] at HE
  simp only [Bool.not_true, cond_false] at HE
  clear t0
  -- how it would be let in
  obtain ⟨X, hX⟩ : ∃ X, X = lookD ld.dk c := ⟨_, rfl⟩
  have LK := Lib.hid (lookD_ok (d := ld.dk) H.out.desk.ok.pl (c := c))
  have CL : Hid (Calls Tryz.prog 76 #[dP P.D.d, cmV c] W.drew (LookPost W.drew X)) := Lib.hid (by rw [hX]; exact deskLook_any (H.out.no (A0.out.kp.drew)).desk c)
  rw [← hX] at HE LK
  replace c0 := A0.out.kp.cell c0 (fun h => h)
  have k1 := A0.out.cells
  obtain ⟨X1, X2, X3⟩ := X
  clear hX c4
  go_upto_region 4 with fail
  go_region_with (first
    | (go_at_call 76
       have hc := CL.out
       with_reducible refine hc.mono ?_
       clear hc
       rintro e w4 ⟨rfl, hk4⟩
       have A4 : Hid (LkAt w w4 c) := Lib.hid (A0.out.no (((Keeps.refl (S := No) W).drew).trans hk4 (fun _ _ h => h)))
       obtain ⟨_, _, ob, sb⟩ := A4.out.opened
       clear hk4))
  all_goals
    go_upto_region 5 with fail
    refine wp_world ?_
    intro W5 hW5
    have A5 : Hid (LkAt w W5 X1) := Lib.hid (by rw [hW5]; exact A4.out.turn X1)
    clear hW5 A4 ob sb
    by_cases t3 : X3 = 0
    case neg =>
      have b3 : (X3 != 0) = true := by simpa using t3
      have HE2 : Hid (E = (Cm.zero, X3, ld, ds)) := Lib.hid (by rw [HE.out, decide_eq_false t3]; rfl)
      obtain ⟨oz, sz, _, _⟩ := A5.out.opened
      clear HE t3
      go_wp2
      obtain ⟨hcr, hkk⟩ := A5.out.row_out Cm.zero
      have hgoal : CallPost w base P E (.returned (.tuple #[cmV Cm.zero, .int .i64 X3])) _ := ⟨by rw [HE2.out], by rw [HE2.out]; exact LedPost.no H.out hkk⟩
      refine bodyPost_ret (v := .tuple #[cmV Cm.zero, .int .i64 X3]) ?_ rfl hgoal
      clear hgoal hkk
      simp only [cmC, Cm.zero, Bd.zero] at hcr
      simp [results, Tryz.results20, go_sem, hcr, Cm.zero, Bd.zero]
    obtain ⟨cok, nok⟩ := LK.out t3
    subst t3
    simp only [decide_true, Bool.not_true, cond_false] at HE
    have k5 := A5.out.cells
    cases X2
    case false =>
      simp only [cond_false] at HE
      clear LK nok CL
      go_upto_region 10 with fail
      refine wp_world ?_
      intro W6 hW6
      have A6 : Hid (LkAt w W6 X1) := Lib.hid (A5.out.no (by rw [hW6]; exact (Keeps.refl _).alloc _))
      have R6 : Hid (Recs W6 (LedS P) (.slice (some ⟨W5.heap.size, 0, none⟩) 1 1) [litRc (admRec X1)]) := Lib.hid (recs_lit (by rw [hW6]; exact heap_alloc_new W5 _) (fun e => by have := H.out.lt _ e; have := A5.out.kp.size; omega) (mayL_adm cok) rfl)
      clear hW6 A5 k5
      have H6 := Lib.hid (H.out.no A6.out.kp)
      have CW : Hid (Calls Tryz.prog 74 #[dP P.l, .slice (some ⟨W5.heap.size, 0, none⟩) 1 1] W6 (WritePost W6 base P (ld.write ds [admRec X1]))) := Lib.hid (ledWrite_any (HL.out.kept A6.out.kp (fun _ h => h.elim)) (Nat.le_trans Hb.out A6.out.kp.size) H6.out _ [litRc (admRec X1)] R6.out (by simp only [List.length_cons, List.length_nil]; omega) (by have := Hnx.out; simp only [List.length_cons, List.length_nil]; omega) (by have := Hfl.out; simp only [List.length_cons, List.length_nil]; omega))
      replace HE : Hid (E = bif decide ((ld.write ds [admRec X1]).1 = 0) then (X1, 0, (ld.write ds [admRec X1]).2.1, (ld.write ds [admRec X1]).2.2) else (Cm.zero, (ld.write ds [admRec X1]).1, (ld.write ds [admRec X1]).2.1, (ld.write ds [admRec X1]).2.2)) := HE
      obtain ⟨Y, hY⟩ : ∃ Y, Y = ld.write ds [admRec X1] := ⟨_, rfl⟩
      rw [← hY] at CW HE
      clear hY
      obtain ⟨y1, y2, y3⟩ := Y
      go_wp2_with fail
      (with_reducible refine CW.out.mono ?_)
      rintro e w7 ⟨rfl, hp⟩
      have LP := Lib.hid hp
      obtain ⟨_, _, k7, _, _⟩ := hp
      have bx : w7.heap[w.heap.size]? = some (.cells (cmC X1).toArray cmdT (0, 0)) := k7.heap A6.out.b (fun e => by have := H.out.lt _ e; omega)
      have bz : w7.heap[w.heap.size + 1]? = some (.cells (cmC Cm.zero).toArray cmdT (0, 0)) := k7.heap A6.out.z (fun e => by have := H.out.lt _ e; omega)
      have BX := Lib.hid bx
      have BZ := Lib.hid bz
      have oz : Open w7 (w.heap.size + 1) := ⟨_, _, bz⟩
      have sz : (rowD w7 (w.heap.size + 1)).size = 16 := by unfold rowD; rw [bz]; rfl
      have kx : cellsAt w7 w.heap.size 0 16 = some (cmC X1) := by unfold cellsAt; rw [bx]; rfl
      clear bx bz k7 CW
      by_cases ty : y1 = 0
      case neg =>
        have b7 : (y1 != 0) = true := by simpa using ty
        have HE2 : Hid (E = (Cm.zero, y1, y2, y3)) := Lib.hid (by rw [HE.out, decide_eq_false ty]; rfl)
        clear HE ty
        go_wp2
        have hcr := box_out (x := Cm.zero) BZ.out
        have hgoal : CallPost w base P E (.returned (.tuple #[cmV Cm.zero, .int .i64 y1])) _ := ⟨by rw [HE2.out], by rw [HE2.out]; exact LP.out.put H.out A6.out.kp (by omega) (block_lt A6.out.z) (box_keeps (x := Cm.zero) _ _)⟩
        refine bodyPost_ret (v := .tuple #[cmV Cm.zero, .int .i64 y1]) ?_ rfl hgoal
        clear hgoal
        simp only [cmC, Cm.zero, Bd.zero] at hcr
        simp [results, Tryz.results20, go_sem, hcr, Cm.zero, Bd.zero]
      subst ty
      have HE2 : Hid (E = (X1, 0, y2, y3)) := Lib.hid (by rw [HE.out]; rfl)
      clear HE
      go_wp2
      have hcr := box_out (x := X1) BZ.out
      have hgoal : CallPost w base P E (.returned (.tuple #[cmV X1, .int .i64 0])) _ := ⟨by rw [HE2.out], by rw [HE2.out]; exact LP.out.put H.out A6.out.kp (by omega) (block_lt A6.out.z) (box_keeps (x := X1) _ _)⟩
      refine bodyPost_ret (v := .tuple #[cmV X1, .int .i64 0]) ?_ rfl hgoal
      clear hgoal
      simp [results, Tryz.results20, go_sem, hcr]
    case true =>
      simp only [cond_true] at HE
      obtain ⟨ns, ni⟩ := nok rfl
      clear LK nok CL
      have hs5 := A5.out.kp.size
      go_upto_region 9 with fail
      refine wp_world ?_
      intro W8 hW8
      have A8 : Hid (LkAt w W8 X1) := Lib.hid (A5.out.no (by rw [hW8]; exact (Keeps.refl _).alloc _))
      have g8 : W8.heap[W5.heap.size]? = some (.cells (rxC (litRc (admRec X1))).toArray recT (0, 0)) := by rw [hW8]; exact heap_alloc_new W5 _
      have n8 := (cellsAt_cell A8.out.cells 4 _ rfl)
      have n9 := (cellsAt_cell A8.out.cells 5 _ rfl)
      simp only [Nat.zero_add] at n8 n9
      clear hW8 k5 A5
      have hws : w.heap.size ≤ W8.heap.size := A8.out.kp.size
      have s58 : W5.heap.size < W8.heap.size := block_lt g8
      have s5 : w.heap.size ≤ W5.heap.size := hs5
      have CI : Hid (Calls Tryz.prog 77 #[.slice (some ⟨W5.heap.size, 0, none⟩) 1 1, .int .i64 0, .slice (some ⟨W8.heap.size, 0, none⟩) 1 1]
          (W8.alloc (.cells #[.int .i64 2, .int .i64 0, .int .i64 X1.b.s, .int .i64 X1.b.i, .int .i64 0, .int .i64 0, .int .i64 0, .int .i64 0, .int .i64 0, .int .i64 0, .int .i64 0, .int .i64 0, .int .i64 0, .int .i64 0, .int .i64 0, .int .i64 0, .int .i64 0, .int .i64 0, .int .i64 0, .int .i64 0, .slice none 0 0] 30)) (InsPost W8 [litRc (resRec X1.b.s X1.b.i), litRc (admRec X1)])) := Lib.hid (insert_two g8 (resRec X1.b.s X1.b.i) rfl)
      clear g8
      go_wp2_with fail
      (with_reducible refine CI.out.mono ?_)
      rintro e W9 ⟨v9, a9, c9, rfl, rfl, ho9, hk9⟩
      have A9 : Hid (LkAt w W9 X1) := Lib.hid (A8.out.no hk9)
      have R9 : Hid (Recs W9 (LedS P) (.slice a9 2 c9) [litRc (resRec X1.b.s X1.b.i), litRc (admRec X1)]) := Lib.hid (recs_two ho9 (fun i hi => by have := H.out.lt _ hi; omega) ⟨mayL_res ns ni, mayL_adm cok⟩ ⟨rfl, rfl⟩)
      clear ho9 hk9 CI A8 n8 n9
      go_upto_region 10 with fail
      refine wp_world ?_
      intro W6 hW6
      have A6 : Hid (LkAt w W6 X1) := Lib.hid (by rw [hW6]; exact A9.out)
      have R6 : Hid (Recs W6 (LedS P) (.slice a9 2 c9) [litRc (resRec X1.b.s X1.b.i), litRc (admRec X1)]) := Lib.hid (by rw [hW6]; exact R9.out)
      clear hW6 A9 R9
      have H6 := Lib.hid (H.out.no A6.out.kp)
      have CW : Hid (Calls Tryz.prog 74 #[dP P.l, .slice a9 2 c9] W6 (WritePost W6 base P (ld.write ds [resRec X1.b.s X1.b.i, admRec X1]))) := Lib.hid (ledWrite_any (HL.out.kept A6.out.kp (fun _ h => h.elim)) (Nat.le_trans Hb.out A6.out.kp.size) H6.out _ [litRc (resRec X1.b.s X1.b.i), litRc (admRec X1)] R6.out (by simp only [List.length_cons, List.length_nil]; omega) (by have := Hnx.out; simp only [List.length_cons, List.length_nil]; omega) (by have := Hfl.out; simp only [List.length_cons, List.length_nil]; omega))
      replace HE : Hid (E = bif decide ((ld.write ds [resRec X1.b.s X1.b.i, admRec X1]).1 = 0) then (X1, 0, (ld.write ds [resRec X1.b.s X1.b.i, admRec X1]).2.1, (ld.write ds [resRec X1.b.s X1.b.i, admRec X1]).2.2) else (Cm.zero, (ld.write ds [resRec X1.b.s X1.b.i, admRec X1]).1, (ld.write ds [resRec X1.b.s X1.b.i, admRec X1]).2.1, (ld.write ds [resRec X1.b.s X1.b.i, admRec X1]).2.2)) := HE
      obtain ⟨Y, hY⟩ : ∃ Y, Y = ld.write ds [resRec X1.b.s X1.b.i, admRec X1] := ⟨_, rfl⟩
      rw [← hY] at CW HE
      clear hY
      obtain ⟨y1, y2, y3⟩ := Y
      go_wp2_with fail
      (with_reducible refine CW.out.mono ?_)
      rintro e w7 ⟨rfl, hp⟩
      have LP := Lib.hid hp
      obtain ⟨_, _, k7, _, _⟩ := hp
      have bx : w7.heap[w.heap.size]? = some (.cells (cmC X1).toArray cmdT (0, 0)) := k7.heap A6.out.b (fun e => by have := H.out.lt _ e; omega)
      have bz : w7.heap[w.heap.size + 1]? = some (.cells (cmC Cm.zero).toArray cmdT (0, 0)) := k7.heap A6.out.z (fun e => by have := H.out.lt _ e; omega)
      have BX := Lib.hid bx
      have BZ := Lib.hid bz
      have oz : Open w7 (w.heap.size + 1) := ⟨_, _, bz⟩
      have sz : (rowD w7 (w.heap.size + 1)).size = 16 := by unfold rowD; rw [bz]; rfl
      have kx : cellsAt w7 w.heap.size 0 16 = some (cmC X1) := by unfold cellsAt; rw [bx]; rfl
      clear bx bz k7 CW
      by_cases ty : y1 = 0
      case neg =>
        have b7 : (y1 != 0) = true := by simpa using ty
        have HE2 : Hid (E = (Cm.zero, y1, y2, y3)) := Lib.hid (by rw [HE.out, decide_eq_false ty]; rfl)
        clear HE ty
        go_wp2
        have hcr := box_out (x := Cm.zero) BZ.out
        have hgoal : CallPost w base P E (.returned (.tuple #[cmV Cm.zero, .int .i64 y1])) _ := ⟨by rw [HE2.out], by rw [HE2.out]; exact LP.out.put H.out A6.out.kp (by omega) (block_lt A6.out.z) (box_keeps (x := Cm.zero) _ _)⟩
        refine bodyPost_ret (v := .tuple #[cmV Cm.zero, .int .i64 y1]) ?_ rfl hgoal
        clear hgoal
        simp only [cmC, Cm.zero, Bd.zero] at hcr
        simp [results, Tryz.results20, go_sem, hcr, Cm.zero, Bd.zero]
      subst ty
      have HE2 : Hid (E = (X1, 0, y2, y3)) := Lib.hid (by rw [HE.out]; rfl)
      clear HE
      go_wp2
      have hcr := box_out (x := X1) BZ.out
      have hgoal : CallPost w base P E (.returned (.tuple #[cmV X1, .int .i64 0])) _ := ⟨by rw [HE2.out], by rw [HE2.out]; exact LP.out.put H.out A6.out.kp (by omega) (block_lt A6.out.z) (box_keeps (x := X1) _ _)⟩
      refine bodyPost_ret (v := .tuple #[cmV X1, .int .i64 0]) ?_ rfl hgoal
      clear hgoal
      simp [results, Tryz.results20, go_sem, hcr]
end
end Go.Proofs.YtpbpgjfdledgoaaGreatDoor

