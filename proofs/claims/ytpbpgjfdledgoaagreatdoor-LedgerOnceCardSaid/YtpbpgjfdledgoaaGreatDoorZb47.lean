/-
  Texts in one: LhQ, LhS. No conditions of their own.
-/
import Derived.Test.YtpbpgjfdledgoaaGreatDoorZb45
import Derived.Test.YtpbpgjfdledgoaaGreatDoorZb46
import Derived.Deep.Strs

/-
  Deeds of a ledger among a law's arguments. No conditions of their own.
-/
namespace Go.Proofs.YtpbpgjfdledgoaaGreatDoor
open Go.ChangeShapes Go.WideShapes Go.ChangeAt Go.RowKit Go.Joins Go.Deep

/-- a deed: its kind, its number, its command, its names and where they lie -/
structure Du where
  k : Int
  n : Int
  c : Cm
  a : Option Addr
  p : Nat
  ids : List Nam
abbrev duC (x : Du) : List Value := [.int .i64 x.k, .int .i64 x.n, .int .i64 x.c.k, .int .i64 x.c.s, .int .i64 x.c.i, .int .i64 x.c.g, .int .i64 x.c.b.s, .int .i64 x.c.b.i, .int .i64 x.c.b.g, .int .i64 x.c.b.m, .int .i64 x.c.b.x, .int .i64 x.c.b.y, .int .i64 x.c.b.vx, .int .i64 x.c.b.vy, .int .i64 x.c.b.hp, .int .i64 x.c.b.pw, .int .i64 x.c.b.lf, .int .i64 x.c.m, .slice x.a x.ids.length x.p]
def cDu : Codec Du := ⟨duC, 19, fun _ => rfl, fun a u h => by simp [duC] at h; rcases h with rfl | rfl | rfl | rfl | rfl | rfl | rfl | rfl | rfl | rfl | rfl | rfl | rfl | rfl | rfl | rfl | rfl | rfl | rfl <;> rfl, by decide⟩
abbrev duT : TypeId := 55
/-- what is read of a deed -/
structure DuOk (w : World) (x : Du) : Prop where
  n : i64 x.n
  k : i64 x.k
  c : x.c.ok
  ids : RdOf cNam w (.slice x.a x.ids.length x.p) x.ids
theorem DuOk.kept {w w' : World} {S : Nat → Prop} {x : Du} (h : DuOk w x) (k : Keeps S w w') (hn : ∀ a, x.a = some a → ¬ S a.block) : DuOk w' x :=
  ⟨h.n, h.k, h.c, h.ids.kept k (fun i hi => by
    cases hx : x.a with
    | none => rw [hx] at hi; cases hi
    | some a => rw [hx] at hi; exact (Option.some.inj hi) ▸ hn a hx)⟩
theorem DuOk.no {w w' : World} {x : Du} (h : DuOk w x) (k : Keeps No w w') : DuOk w' x := h.kept k (fun _ _ h => h)
section
variable {H : Type} {enc : TypeId × Value → H} {w : World} {base : Nat} {spare : Nat → Bool} {held : Bool} {n : Nat} {cs : List Value} {x : DataW H × List MemPlace}
theorem kDu : Tryz.prog.cellsOf duT = 19 := by kernel_rfl
theorem kIds : Tryz.prog.cellsOf 28 = 1 := by kernel_rfl
theorem kCf : Tryz.prog.cellsOf 45 = 7 := by kernel_rfl
set_option maxRecDepth 100000 in
theorem trodZf (h : DataW.trod enc Tryz.prog w base spare held n 45 cs = some x) : ∃ z : Zf, cs = zfC z := by
  obtain ⟨xs, m, _, _, hl, hxl, hf⟩ := DataW.trod_struct Tryz.underlying45 h
  rw [kCf] at hl
  match cs, hl with
  | [c0, c1, c2, c3, c4, c5, c6], _ =>
    match xs, hxl with
    | [x0, x1, x2, x3, x4, x5, x6], _ =>
      have h0 := hf 0 _ rfl
      have h1 := hf 1 _ rfl
      have h2 := hf 2 _ rfl
      have h3 := hf 3 _ rfl
      have h4 := hf 4 _ rfl
      have h5 := hf 5 _ rfl
      have h6 := hf 6 _ rfl
      simp [k1] at h0 h1 h2 h3 h4 h5 h6
      obtain ⟨a0, rfl, _⟩ := one_ok (c := c0) h0
      obtain ⟨a1, rfl, _⟩ := one_ok (c := c1) h1
      obtain ⟨a2, rfl, _⟩ := one_ok (c := c2) h2
      obtain ⟨a3, rfl, _⟩ := one_ok (c := c3) h3
      obtain ⟨a4, rfl, _⟩ := one_ok (c := c4) h4
      obtain ⟨a5, rfl, _⟩ := one_ok (c := c5) h5
      obtain ⟨a6, rfl, _⟩ := one_ok (c := c6) h6
      exact ⟨⟨a0, a1, a2, a3, a4, a5, a6⟩, rfl⟩


/-- a slice of rows, each of a kind, out of a reading -/
theorem trodAllOf {α : Type} (C : Codec α) (a0 : α) (P : α → Prop) {t e : TypeId} (ht : Tryz.prog.underlying t = some (.slice e)) (hC : Tryz.prog.cellsOf e = C.size)
    (hel : ∀ {n : Nat} {cs : List Value} {x : DataW H × List MemPlace}, DataW.trod enc Tryz.prog w base spare held n e cs = some x → ∃ a, cs = C.cells a ∧ P a)
    (h : DataW.trod enc Tryz.prog w base spare held n t cs = some x) : ∃ (v : Value) (l : List α), cs = [v] ∧ RdOf C w v l ∧ ∀ a ∈ l, P a := by
  rcases open_slice ht h with ⟨rfl, _⟩ | ⟨a, len, cap, m, n', D, Pl, rfl, _, hl, hm, hmm, _, hx⟩
  · exact ⟨_, [], rfl, Reads.nil _ _, fun a h => by cases h⟩
  · have hlm : len ≤ m := by rw [hmm]; split <;> omega
    have hp : ∀ i, i < len → ∃ p : α, w.cells? base (a.add (i * C.size)) C.size = some (C.cells p) ∧ P p := by
      intro i hi
      obtain ⟨cs', h1, h2⟩ := hx i (by omega)
      rw [hC] at h1
      obtain ⟨p, rfl, hP⟩ := hel h2
      exact ⟨p, h1, hP⟩
    obtain ⟨g, hg⟩ := @choose_lt α ⟨a0⟩ len _ hp
    refine ⟨_, (List.range len).map g, rfl, ?_, fun p hp => ?_⟩
    · have hlen : ((List.range len).map g).length = len := by simp
      have := rdOf_of C (w := w) (a := a) (c := cap) (l := (List.range len).map g) (by omega) hm (fun i hi j u hu => by
        have hil : i < len := by simpa using hi
        have h1 := (hg i hil).1
        obtain ⟨_, h2, h3⟩ := World.cells?_some h1
        simp only [List.getElem_map, List.getElem_range] at hu
        have hj3 : j < C.size := by have := (List.getElem?_eq_some_iff.1 hu).1; rw [C.len] at this; exact this
        have := h3 j hj3
        rwa [add_add, hu] at this)
      rwa [hlen] at this
    · obtain ⟨i, hi, rfl⟩ := List.mem_map.1 hp
      exact (hg i (by simpa using hi)).2

set_option maxRecDepth 100000 in
theorem trodIds (h : DataW.trod enc Tryz.prog w base spare held n 28 cs = some x) : ∃ (a : Option Addr) (p : Nat) (l : List Nam), cs = [.slice a l.length p] ∧ RdOf cNam w (.slice a l.length p) l := by
  obtain ⟨v, l, rfl, hr, _⟩ := trodAllOf cNam Nam.zero (fun _ => True) Tryz.underlying28 kId (fun h => by obtain ⟨a, ha, _⟩ := trodNam h; exact ⟨a, ha, trivial⟩) h
  obtain ⟨a, c, rfl⟩ := hr.slice
  exact ⟨a, c, l, rfl, hr⟩
set_option maxRecDepth 100000 in
theorem trodDu (h : DataW.trod enc Tryz.prog w base spare held n duT cs = some x) : ∃ d : Du, cs = cDu.cells d ∧ DuOk w d := by
  obtain ⟨xs, m, _, _, hl, hxl, hf⟩ := DataW.trod_struct Tryz.underlying55 h
  rw [kDu] at hl
  match cs, hl with
  | [e0, e1, c0, c1, c2, c3, c4, c5, c6, c7, c8, c9, c10, c11, c12, c13, c14, c15, e18], _ =>
    match xs, hxl with
    | [x0, x1, x2, x3], _ =>
      have h0 := hf 0 _ rfl
      have h1 := hf 1 _ rfl
      have h2 := hf 2 _ rfl
      have h3 := hf 3 _ rfl
      simp [k1, kCm, kIds] at h0 h1 h2 h3
      obtain ⟨a0, rfl, z0⟩ := one_ok (c := e0) h0
      obtain ⟨a1, rfl, z1⟩ := one_ok (c := e1) h1
      obtain ⟨c, hc, hco⟩ := trodCm (cs := [c0, c1, c2, c3, c4, c5, c6, c7, c8, c9, c10, c11, c12, c13, c14, c15]) h2
      simp only [cmC, List.cons.injEq, and_true] at hc
      obtain ⟨rfl, rfl, rfl, rfl, rfl, rfl, rfl, rfl, rfl, rfl, rfl, rfl, rfl, rfl, rfl, rfl⟩ := hc
      obtain ⟨a, p, l, he, hr⟩ := trodIds (cs := [e18]) h3
      simp only [List.cons.injEq, and_true] at he
      subst he
      exact ⟨⟨a0, a1, c, a, p, l⟩, rfl, z1, z0, hco, hr⟩
end
set_option maxRecDepth 100000 in
theorem open_zf {H : Type} {enc : TypeId × Value → H} {W : World} {base : Nat} {v : Value} {d : DataW H} {ps : List MemPlace}
    (hv : Value.okWide Tryz.prog W .any base 45 v) (h : DataW.Trod enc Tryz.prog W 0 (fun _ => true) true 45 v d ps) : ∃ z : Zf, v = zfV z := by
  obtain ⟨cs, rfl, _⟩ := okWide_struct Tryz.underlying45 hv
  obtain ⟨n, hn⟩ := h
  obtain ⟨z, hc⟩ := trodZf hn
  refine ⟨z, ?_⟩
  have : cs = (zfC z).toArray := by simp [Value.cells] at hc; rw [← hc]
  rw [this]

set_option maxRecDepth 100000 in
theorem open_dus {H : Type} {enc : TypeId × Value → H} {W : World} {base : Nat} {v : Value} {d : DataW H} {ps : List MemPlace}
    (hv : Value.okWide Tryz.prog W .any base 46 v) (h : DataW.Trod enc Tryz.prog W 0 (fun _ => true) true 46 v d ps) : ∃ L : List Du, RdOf cDu W v L ∧ ∀ x ∈ L, DuOk W x := by
  obtain ⟨a, m, c, rfl⟩ := okWide_slice Tryz.underlying46 hv
  obtain ⟨n, hn⟩ := h
  obtain ⟨v, L, hc, hr, ht⟩ := trodAllOf cDu ⟨0, 0, Cm.zero, none, 0, []⟩ (DuOk W) Tryz.underlying46 kDu trodDu hn
  obtain rfl : .slice a m c = v := by simpa [Value.cells] using hc
  exact ⟨L, hr, ht⟩
end Go.Proofs.YtpbpgjfdledgoaaGreatDoor

/-
  hedgerowlaw20.few: not too many deeds, nor names. No conditions of its own.
-/
namespace Go.Proofs.YtpbpgjfdledgoaaGreatDoor
open Go.RowKit Go.Joins Go.Deep

theorem Tryz.infoDu : (Tryz.prog.info? duT).map (fun i => (i.zero, i.size, i.bytes)) = some (some (.agg (duC ⟨0, 0, Cm.zero, none, 0, []⟩).toArray), 19, 168) := by kernel_rfl
theorem RdOf.take {α : Type} {C : Codec α} {w : World} {a : Option Addr} {n c : Nat} {l : List α} (h : Reads w C.size (.slice a n c) n (rowsOf C l)) {m : Nat} (hm : m ≤ n) : Reads w C.size (.slice a m c) m (rowsOf C (l.take m)) := by
  have := Reads.take h hm
  rwa [rowsOf_take] at this
/-- a deed with few names -/
def Du.cut (x : Du) : Du := ⟨x.k, x.n, x.c, x.a, x.p, x.ids.take 40⟩
theorem DuOk.cut {w : World} {x : Du} (h : DuOk w x) (hl : 40 < x.ids.length) : DuOk w x.cut ∧ x.cut.ids.length ≤ 40 := by
  have e : (x.ids.take 40).length = 40 := by rw [List.length_take]; omega
  refine ⟨⟨h.n, h.k, h.c, ?_⟩, by show (x.ids.take 40).length ≤ 40; omega⟩
  have := RdOf.take h.ids (m := 40) (by omega)
  show Reads w cNam.size (.slice x.a (x.ids.take 40).length x.p) (x.ids.take 40).length (rowsOf cNam (x.ids.take 40))
  rw [e]
  exact this
def FewAt (w0 : World) (l : List Du) : Prop := ∀ x ∈ l, DuOk w0 x ∧ x.ids.length ≤ 40
def FewPost (w0 w : World) (e : Ending) (w' : World) : Prop := ∃ v' l', e = .returned v' ∧ OwnOf cDu duT w' w.heap.size v' l' ∧ l'.length ≤ 50 ∧ FewAt w0 l' ∧ Keeps No w w'
theorem FewAt.snoc {w0 : World} {l : List Du} {x : Du} (h : FewAt w0 l) (hx : DuOk w0 x ∧ x.ids.length ≤ 40) : FewAt w0 (l ++ [x]) := fun y hy => by
  rcases List.mem_append.1 hy with e | e
  · exact h y e
  · rw [List.mem_singleton.1 e]; exact hx
set_option maxRecDepth 100000 in
set_option maxHeartbeats 4000000 in
theorem few_small {w0 w : World} (k0 : Keeps No w0 w) (va : Option Addr) (vc : Nat) (L : List Du) (hv : RdOf cDu w (.slice va L.length vc) L) (hx : ∀ x ∈ L, DuOk w0 x) (h50 : ¬ 50 < L.length) :
    Calls Tryz.prog 19 #[.slice va L.length vc] w (FewPost w0 w) := by
  obtain ⟨i0, hi, hz0, hz1, hz2⟩ := info_parts Tryz.infoDu
  have Hmax := Lib.hid (RdOf.len cDu hv)
  have hni : ¬ (50 : Int) < (L.length : Int) := by omega
  have HN : Hid (L.length ≤ 50) := Lib.hid (by omega)
  have HR : Hid (∀ wr, Keeps No w wr → ∀ k : Nat, k < L.length → ∃ x : Du, L[k]? = some x ∧ DuOk w0 x ∧ ∃ g off, va = some ⟨g, off, none⟩ ∧ cellsAt wr g (off + k * 19) 19 = some (duC x) ∧ g < wr.heap.size) := Lib.hid (by
    intro wr hK k hlt
    have hlt' : k < L.length := by omega
    obtain ⟨g, off, rfl, _, _, hg⟩ := RdOf.addr cDu hv (by omega)
    have hgs := hK.size
    exact ⟨L[k], List.getElem?_eq_getElem hlt', hx _ (List.getElem_mem hlt'), g, off, rfl, RdOf.at cDu (hv.kept hK (fun _ _ h => h)) k hlt', by omega⟩)
  have HX := Lib.hid hx
  have K0 := Lib.hid k0
  clear hv hx k0
  go_enter Tryz.func19, Tryz.ntmps19
  go_wp2
  go_loopw [3, 4] (fun o q wr => ∃ (k : Nat) (l' : List Du), k ≤ L.length ∧ q = .int .i64 k ∧ OwnOf cDu duT wr w.heap.size o l' ∧ l'.length ≤ k ∧ FewAt w0 l' ∧ Keeps No w wr) (fun _ q _ => L.length - (intOf q).toNat)
  case atStart => exact ⟨0, [], Nat.zero_le _, rfl, World.ownsRow_nil _ _ _ _, Nat.le_refl _, (show FewAt w0 [] from fun d h => absurd h (List.not_mem_nil)), Keeps.refl _⟩
  case round =>
    obtain ⟨k, l', hk, rfl, hown, hlk, hall, hK⟩ := hrel
    obtain ⟨oa, oc, rfl⟩ := ownsRow_slice hown
    have FA := Lib.hid hall
    by_cases hlt : k < L.length
    · have hki : (k : Int) < (L.length : Int) := by omega
      have hk0 : (0 : Int) ≤ (k : Int) := by omega
      have hk1 : wrap64 ((k : Int) + 1) = (k : Int) + 1 := IntWalk.wrap64_in _ ⟨by omega, by have := HN.out; omega⟩
      obtain ⟨x, hxe, hxo, g, off, c19⟩ := HR.out wr hK k hlt
      obtain ⟨hva, c19, hgr⟩ := c19
      cases hva
      have HXO := Lib.hid hxo
      have HL5 : Hid (l'.length ≤ k ∧ k < 50) := Lib.hid ⟨hlk, by have := HN.out; omega⟩
      have OWN0 := Lib.hid hown
      have HOB : Hid (∀ i, (Value.slice oa l'.length oc).ownBlock = some i → i ≠ wr.heap.size) := Lib.hid (fun i hi e => by have := (hown.lt i hi).2; omega)
      have HWS : Hid (w.heap.size ≤ wr.heap.size) := Lib.hid hK.size
      have KR := Lib.hid hK
      clear hown hall hK hlk hxe hxo
      have hxp : x.ids.length ≤ maxLen := RdOf.len cNam HXO.out.ids
      obtain ⟨n, hn⟩ : ∃ n, n = x.ids.length := ⟨_, rfl⟩
      go_upto_region 8 with fail
      refine wp_world ?_
      intro W hW
      have KW1 : Keeps No wr W := by rw [hW]; exact (Keeps.refl wr).alloc _
      have KW : Hid (Keeps No w W) := Lib.hid (KR.out.trans KW1 (fun _ _ h => h))
      have OWN := Lib.hid (KW1.owns OWN0.out (fun _ _ h => h))
      have cB : cellsAt W wr.heap.size 0 19 = some (duC x) := by rw [hW]; simp [go_sem]
      have lB : wr.heap.size < W.heap.size := cellsAt_block cB
      have c18 : W.cell? ⟨wr.heap.size, 18, none⟩ = some (.slice x.a n x.p) := by rw [hn]; exact cellsAt_cell cB 18 _ rfl
      have oB : Open W wr.heap.size := by rw [hW]; simp [go_sem]
      have sB : (rowD W wr.heap.size).size = 19 := by rw [hW]; simp [go_sem]
      have f18 : W.frozen? ⟨wr.heap.size, 18, none⟩ = false := oB.frozen 18
      clear hW OWN0 KR c19 hgr
      by_cases h40 : 40 < x.ids.length
      · have h40i : (40 : Int) < (n : Int) := by omega
        have hxc := HXO.out.cut h40
        have HXC := Lib.hid hxc
        have H40 := Lib.hid h40
        obtain ⟨ab, ao, hxa, hcx, _, _⟩ := RdOf.addr cNam HXO.out.ids (by omega)
        have hp40 : 40 ≤ x.p := by omega
        clear hcx
        have hp40i : (40 : Int) ≤ (x.p : Int) := by omega
        rw [hxa] at c18
        clear h40 hxc hn
        go_upto_region 10 with fail
        refine wp_world ?_
        intro W2 hW2
        have K2 : Keeps (Own wr.heap.size) W W2 := by rw [hW2]; exact (Keeps.refl (S := Own wr.heap.size) W).setCell (p := ⟨wr.heap.size, 18, none⟩) (fun _ => (rfl : wr.heap.size = wr.heap.size)) _
        obtain ⟨y, hy⟩ : ∃ y, y = x.cut := ⟨_, rfl⟩
        rw [← hy] at HXC
        have cB2 : cellsAt W2 wr.heap.size 0 19 = some (duC y) := by
          have e : (x.ids.take 40).length = 40 := by rw [List.length_take]; have := H40.out; omega
          rw [hW2, cellsAt_setCell_at, cB, hy]
          show some ((duC x).set 18 _) = _
          unfold Du.cut duC
          simp only [e, hxa]
          rfl
        have lB2 : wr.heap.size < W2.heap.size := cellsAt_block cB2
        have KW2 : Hid (Keeps No w W2) := Lib.hid (KW.out.trans K2 (fun i hi e => by have e : i = wr.heap.size := e; have := HWS.out; omega))
        have OWN2 := Lib.hid (K2.owns OWN.out (fun i hi e => HOB.out i hi e))
        clear hW2 K2 cB lB c18 oB sB f18 hy KW OWN KW1
        go_wp2_with (at_builtin; refine wpList_append_reads rfl (.tmp 29) (.tmp 31) 46 rfl w.heap.size duT i0 _ 19 168 Tryz.underlying46 hi hz0 hz1 hz2 rfl (by decide) (.slice oa l'.length oc) l'.length (rowsOf cDu l') rfl (OWN2.out.alloc _) (.slice (some ⟨W2.heap.size, 0, none⟩) 1 1) 1 (duC y) rfl (litReads cDu W2 duT y) ?d1 ?d2 ?d3 ?d4)
        case d1 => have := HL5.out; unfold maxLen; omega
        case d2 => have := HL5.out; omega
        case d3 => have := KW2.out.size; simp; omega
        case d4 =>
          intro v2 w2 hown2 hk2 _ _
          have Ho2 := Lib.hid (ownApp (a := y) hown2)
          have K2 : Hid (Keeps No w w2) := Lib.hid ((KW2.out.alloc _).trans hk2 (fun i hi hof => absurd hi (Nat.not_lt.2 (OWN2.out.lt i hof).1)))
          clear hown2 hk2
          go_wp2
          go_roundw
          case rel => exact ⟨k + 1, l' ++ [y], by omega, by go_num, Ho2.out, by rw [List.length_append, List.length_singleton]; have := HL5.out; omega, FA.out.snoc HXC.out, K2.out⟩
          case measure => simp [intOf]; omega
      · have h40i : ¬ (40 : Int) < (n : Int) := by omega
        have hle : x.ids.length ≤ 40 := by omega
        clear h40 hn
        go_wp2_with (at_builtin; refine wpList_append_reads rfl (.tmp 29) (.tmp 31) 46 rfl w.heap.size duT i0 _ 19 168 Tryz.underlying46 hi hz0 hz1 hz2 rfl (by decide) (.slice oa l'.length oc) l'.length (rowsOf cDu l') rfl (OWN.out.alloc _) (.slice (some ⟨W.heap.size, 0, none⟩) 1 1) 1 (duC x) rfl (litReads cDu W duT x) ?c1 ?c2 ?c3 ?c4)
        case c1 => have := HL5.out; unfold maxLen; omega
        case c2 => have := HL5.out; omega
        case c3 => have := KW.out.size; simp; omega
        case c4 =>
          intro v2 w2 hown2 hk2 _ _
          have Ho2 := Lib.hid (ownApp (a := x) hown2)
          have K2 : Hid (Keeps No w w2) := Lib.hid ((KW.out.alloc _).trans hk2 (fun i hi hof => absurd hi (Nat.not_lt.2 (OWN.out.lt i hof).1)))
          clear hown2 hk2
          go_wp2
          go_roundw
          case rel => exact ⟨k + 1, l' ++ [x], by omega, by go_num, Ho2.out, by rw [List.length_append, List.length_singleton]; have := HL5.out; omega, FA.out.snoc ⟨HXO.out, hle⟩, K2.out⟩
          case measure => simp [intOf]; omega
    · have hki : ¬ (k : Int) < (L.length : Int) := by omega
      have OWN := Lib.hid hown
      have KR := Lib.hid hK
      have hl5 : l'.length ≤ 50 := by have := HN.out; omega
      clear hlt hk hown hall hK hlk
      go_wp2
      go_ret
      exact ⟨_, l', rfl, OWN.out, hl5, FA.out, KR.out⟩
set_option maxRecDepth 100000 in
set_option maxHeartbeats 4000000 in
theorem few_great {w0 w : World} (k0 : Keeps No w0 w) (va : Option Addr) (vc : Nat) (L : List Du) (hv : RdOf cDu w (.slice va L.length vc) L) (hx : ∀ x ∈ L, DuOk w0 x) (h50 : 50 < L.length) :
    Calls Tryz.prog 19 #[.slice va L.length vc] w (FewPost w0 w) := by
  obtain ⟨i0, hi, hz0, hz1, hz2⟩ := info_parts Tryz.infoDu
  have Hmax := Lib.hid (RdOf.len cDu hv)
  have hni : (50 : Int) < (L.length : Int) := by omega
  have HN : Hid (50 ≤ 50) := Lib.hid (Nat.le_refl _)
  have HR : Hid (∀ wr, Keeps No w wr → ∀ k : Nat, k < 50 → ∃ x : Du, L[k]? = some x ∧ DuOk w0 x ∧ ∃ g off, va = some ⟨g, off, none⟩ ∧ cellsAt wr g (off + k * 19) 19 = some (duC x) ∧ g < wr.heap.size) := Lib.hid (by
    intro wr hK k hlt
    have hlt' : k < L.length := by omega
    obtain ⟨g, off, rfl, _, _, hg⟩ := RdOf.addr cDu hv (by omega)
    have hgs := hK.size
    exact ⟨L[k], List.getElem?_eq_getElem hlt', hx _ (List.getElem_mem hlt'), g, off, rfl, RdOf.at cDu (hv.kept hK (fun _ _ h => h)) k hlt', by omega⟩)
  obtain ⟨gv, ov, rfl, hcv, _, _⟩ := RdOf.addr cDu hv (by omega)
  have hcvi : (50 : Int) ≤ (vc : Int) := by omega
  clear hcv
  have HX := Lib.hid hx
  have K0 := Lib.hid k0
  clear hv hx k0
  go_enter Tryz.func19, Tryz.ntmps19
  go_wp2
  go_loopw [3, 4] (fun o q wr => ∃ (k : Nat) (l' : List Du), k ≤ 50 ∧ q = .int .i64 k ∧ OwnOf cDu duT wr w.heap.size o l' ∧ l'.length ≤ k ∧ FewAt w0 l' ∧ Keeps No w wr) (fun _ q _ => 50 - (intOf q).toNat)
  case atStart => exact ⟨0, [], Nat.zero_le _, rfl, World.ownsRow_nil _ _ _ _, Nat.le_refl _, (show FewAt w0 [] from fun d h => absurd h (List.not_mem_nil)), Keeps.refl _⟩
  case round =>
    obtain ⟨k, l', hk, rfl, hown, hlk, hall, hK⟩ := hrel
    obtain ⟨oa, oc, rfl⟩ := ownsRow_slice hown
    have FA := Lib.hid hall
    by_cases hlt : k < 50
    · have hki : (k : Int) < 50 := by omega
      have hk0 : (0 : Int) ≤ (k : Int) := by omega
      have hk1 : wrap64 ((k : Int) + 1) = (k : Int) + 1 := IntWalk.wrap64_in _ ⟨by omega, by have := HN.out; omega⟩
      obtain ⟨x, hxe, hxo, g, off, c19⟩ := HR.out wr hK k hlt
      obtain ⟨hva, c19, hgr⟩ := c19
      cases hva
      have HXO := Lib.hid hxo
      have HL5 : Hid (l'.length ≤ k ∧ k < 50) := Lib.hid ⟨hlk, by have := HN.out; omega⟩
      have OWN0 := Lib.hid hown
      have HOB : Hid (∀ i, (Value.slice oa l'.length oc).ownBlock = some i → i ≠ wr.heap.size) := Lib.hid (fun i hi e => by have := (hown.lt i hi).2; omega)
      have HWS : Hid (w.heap.size ≤ wr.heap.size) := Lib.hid hK.size
      have KR := Lib.hid hK
      clear hown hall hK hlk hxe hxo
      have hxp : x.ids.length ≤ maxLen := RdOf.len cNam HXO.out.ids
      obtain ⟨n, hn⟩ : ∃ n, n = x.ids.length := ⟨_, rfl⟩
      go_upto_region 8 with fail
      refine wp_world ?_
      intro W hW
      have KW1 : Keeps No wr W := by rw [hW]; exact (Keeps.refl wr).alloc _
      have KW : Hid (Keeps No w W) := Lib.hid (KR.out.trans KW1 (fun _ _ h => h))
      have OWN := Lib.hid (KW1.owns OWN0.out (fun _ _ h => h))
      have cB : cellsAt W wr.heap.size 0 19 = some (duC x) := by rw [hW]; simp [go_sem]
      have lB : wr.heap.size < W.heap.size := cellsAt_block cB
      have c18 : W.cell? ⟨wr.heap.size, 18, none⟩ = some (.slice x.a n x.p) := by rw [hn]; exact cellsAt_cell cB 18 _ rfl
      have oB : Open W wr.heap.size := by rw [hW]; simp [go_sem]
      have sB : (rowD W wr.heap.size).size = 19 := by rw [hW]; simp [go_sem]
      have f18 : W.frozen? ⟨wr.heap.size, 18, none⟩ = false := oB.frozen 18
      clear hW OWN0 KR c19 hgr
      by_cases h40 : 40 < x.ids.length
      · have h40i : (40 : Int) < (n : Int) := by omega
        have hxc := HXO.out.cut h40
        have HXC := Lib.hid hxc
        have H40 := Lib.hid h40
        obtain ⟨ab, ao, hxa, hcx, _, _⟩ := RdOf.addr cNam HXO.out.ids (by omega)
        have hp40 : 40 ≤ x.p := by omega
        clear hcx
        have hp40i : (40 : Int) ≤ (x.p : Int) := by omega
        rw [hxa] at c18
        clear h40 hxc hn
        go_upto_region 10 with fail
        refine wp_world ?_
        intro W2 hW2
        have K2 : Keeps (Own wr.heap.size) W W2 := by rw [hW2]; exact (Keeps.refl (S := Own wr.heap.size) W).setCell (p := ⟨wr.heap.size, 18, none⟩) (fun _ => (rfl : wr.heap.size = wr.heap.size)) _
        obtain ⟨y, hy⟩ : ∃ y, y = x.cut := ⟨_, rfl⟩
        rw [← hy] at HXC
        have cB2 : cellsAt W2 wr.heap.size 0 19 = some (duC y) := by
          have e : (x.ids.take 40).length = 40 := by rw [List.length_take]; have := H40.out; omega
          rw [hW2, cellsAt_setCell_at, cB, hy]
          show some ((duC x).set 18 _) = _
          unfold Du.cut duC
          simp only [e, hxa]
          rfl
        have lB2 : wr.heap.size < W2.heap.size := cellsAt_block cB2
        have KW2 : Hid (Keeps No w W2) := Lib.hid (KW.out.trans K2 (fun i hi e => by have e : i = wr.heap.size := e; have := HWS.out; omega))
        have OWN2 := Lib.hid (K2.owns OWN.out (fun i hi e => HOB.out i hi e))
        clear hW2 K2 cB lB c18 oB sB f18 hy KW OWN KW1
        go_wp2_with (at_builtin; refine wpList_append_reads rfl (.tmp 29) (.tmp 31) 46 rfl w.heap.size duT i0 _ 19 168 Tryz.underlying46 hi hz0 hz1 hz2 rfl (by decide) (.slice oa l'.length oc) l'.length (rowsOf cDu l') rfl (OWN2.out.alloc _) (.slice (some ⟨W2.heap.size, 0, none⟩) 1 1) 1 (duC y) rfl (litReads cDu W2 duT y) ?d1 ?d2 ?d3 ?d4)
        case d1 => have := HL5.out; unfold maxLen; omega
        case d2 => have := HL5.out; omega
        case d3 => have := KW2.out.size; simp; omega
        case d4 =>
          intro v2 w2 hown2 hk2 _ _
          have Ho2 := Lib.hid (ownApp (a := y) hown2)
          have K2 : Hid (Keeps No w w2) := Lib.hid ((KW2.out.alloc _).trans hk2 (fun i hi hof => absurd hi (Nat.not_lt.2 (OWN2.out.lt i hof).1)))
          clear hown2 hk2
          go_wp2
          go_roundw
          case rel => exact ⟨k + 1, l' ++ [y], by omega, by go_num, Ho2.out, by rw [List.length_append, List.length_singleton]; have := HL5.out; omega, FA.out.snoc HXC.out, K2.out⟩
          case measure => simp [intOf]; omega
      · have h40i : ¬ (40 : Int) < (n : Int) := by omega
        have hle : x.ids.length ≤ 40 := by omega
        clear h40 hn
        go_wp2_with (at_builtin; refine wpList_append_reads rfl (.tmp 29) (.tmp 31) 46 rfl w.heap.size duT i0 _ 19 168 Tryz.underlying46 hi hz0 hz1 hz2 rfl (by decide) (.slice oa l'.length oc) l'.length (rowsOf cDu l') rfl (OWN.out.alloc _) (.slice (some ⟨W.heap.size, 0, none⟩) 1 1) 1 (duC x) rfl (litReads cDu W duT x) ?c1 ?c2 ?c3 ?c4)
        case c1 => have := HL5.out; unfold maxLen; omega
        case c2 => have := HL5.out; omega
        case c3 => have := KW.out.size; simp; omega
        case c4 =>
          intro v2 w2 hown2 hk2 _ _
          have Ho2 := Lib.hid (ownApp (a := x) hown2)
          have K2 : Hid (Keeps No w w2) := Lib.hid ((KW.out.alloc _).trans hk2 (fun i hi hof => absurd hi (Nat.not_lt.2 (OWN.out.lt i hof).1)))
          clear hown2 hk2
          go_wp2
          go_roundw
          case rel => exact ⟨k + 1, l' ++ [x], by omega, by go_num, Ho2.out, by rw [List.length_append, List.length_singleton]; have := HL5.out; omega, FA.out.snoc ⟨HXO.out, hle⟩, K2.out⟩
          case measure => simp [intOf]; omega
    · have hki : ¬ (k : Int) < 50 := by omega
      have OWN := Lib.hid hown
      have KR := Lib.hid hK
      have hl5 : l'.length ≤ 50 := by have := HN.out; omega
      clear hlt hk hown hall hK hlk
      go_wp2
      go_ret
      exact ⟨_, l', rfl, OWN.out, hl5, FA.out, KR.out⟩
theorem few_any {w0 w : World} (k0 : Keeps No w0 w) (v : Value) (L : List Du) (hv : RdOf cDu w v L) (hx : ∀ x ∈ L, DuOk w0 x) : Calls Tryz.prog 19 #[v] w (FewPost w0 w) := by
  obtain ⟨va, vc, rfl⟩ := hv.slice
  by_cases h50 : 50 < L.length
  · exact few_great k0 va vc L hv hx h50
  · exact few_small k0 va vc L hv hx h50
end Go.Proofs.YtpbpgjfdledgoaaGreatDoor

