/-
  tick: each entity of a stage. No conditions of its own.
-/
import Derived.Test.YtcjeocibnfoenaaGreatTjI
namespace Go.Proofs.YtcjeocibnfoenaaGreat
open Go.RowKit Go.Joins Go.Deep Go.Sort

section
variable {S : Nat → Prop} {a w : World} {b : Nat}
theorem keepsS_cells (h : Keeps S a w) (hn : ¬ S b) {o n : Nat} {l : List Value} (hc : cellsAt a b o n = some l) : cellsAt w b o n = some l := by
  have hb : b < a.heap.size := by
    unfold Proofs.YtcjeocibnfoenaaGreat.cellsAt at hc
    split at hc
    · rename_i hh
      exact (Array.getElem?_eq_some_iff.1 hh).1
    · cases hc
  unfold Proofs.YtcjeocibnfoenaaGreat.cellsAt at hc ⊢
  rw [h.block b hb hn]
  exact hc
theorem keepsS_open (h : Keeps S a w) (hn : ¬ S b) (ho : Open a b) : Open w b := by
  obtain ⟨C, t, hc⟩ := ho
  exact ⟨C, t, h.heap hc hn⟩
theorem keepsS_row (h : Keeps S a w) (hn : ¬ S b) {n : Nat} (ho : Open a b) (hz : (rowD a b).size = n) : (rowD w b).size = n := by
  obtain ⟨C, t, hc⟩ := ho
  have hw := h.heap hc hn
  unfold rowD at hz ⊢
  rw [hc] at hz
  rw [hw]
  exact hz
end
theorem Open.lt {w : World} {b : Nat} (h : Open w b) : b < w.heap.size := by
  obtain ⟨C, t, hc⟩ := h
  exact (Array.getElem?_eq_some_iff.1 hc).1

/-- a stage's box: the map, the entities, who stays, who goes, who is no more -/
structure StgAt (w : World) (g base : Nat) (mp lv ov gv dv : Value) (l : List Bd) (dead : List Nam) : Prop where
  c : cellsAt w g 0 5 = some [mp, lv, ov, gv, dv]
  o : Open w g
  s : (rowD w g).size = 5
  l : OwnOf cBd 38 w base lv l
  d : OwnOf cNam 36 w base dv dead
  lg : lv.ownBlock ≠ some g
  dg : dv.ownBlock ≠ some g
theorem StgAt.keep {w w' : World} {g base : Nat} {mp lv ov gv dv : Value} {l : List Bd} {dead : List Nam} (h : StgAt w g base mp lv ov gv dv l dead) {S : Nat → Prop} (k : Keeps S w w') (hg : ¬ S g) (hl : ∀ i, lv.ownBlock = some i → ¬ S i) (hd : ∀ i, dv.ownBlock = some i → ¬ S i) : StgAt w' g base mp lv ov gv dv l dead :=
  ⟨keepsS_cells k hg h.c, keepsS_open k hg h.o, keepsS_row k hg h.o h.s, k.owns h.l hl, k.owns h.d hd, h.lg, h.dg⟩
theorem StgAt.no {w w' : World} {g base : Nat} {mp lv ov gv dv : Value} {l : List Bd} {dead : List Nam} (h : StgAt w g base mp lv ov gv dv l dead) (k : Keeps No w w') : StgAt w' g base mp lv ov gv dv l dead :=
  h.keep k (fun h => h) (fun _ _ h => h) (fun _ _ h => h)
/-- the stage's box, and a row -/
def SD (g : Nat) (v : Value) : Nat → Prop := fun i => i = g ∨ Of v i
/-- who is left -/
def leftOf (f : Bd → Bd × Bool) (l : List Bd) : List Bd := l.filterMap fun b => bif (f b).2 then some (f b).1 else none
/-- who is no more -/
def goneOf (f : Bd → Bd × Bool) (l : List Bd) : List Nam := l.filterMap fun b => bif (f b).2 then none else some b.id
theorem leftOf_succ (f : Bd → Bd × Bool) (l : List Bd) (i : Nat) (h : i < l.length) : leftOf f (l.take (i + 1)) = leftOf f (l.take i) ++ bif (f l[i]).2 then [(f l[i]).1] else [] := by
  unfold leftOf
  rw [List.take_succ_eq_append_getElem h, List.filterMap_append]
  cases hb : (f l[i]).2 <;> simp [hb]
theorem goneOf_succ (f : Bd → Bd × Bool) (l : List Bd) (i : Nat) (h : i < l.length) : goneOf f (l.take (i + 1)) = goneOf f (l.take i) ++ bif (f l[i]).2 then [] else [l[i].id] := by
  unfold goneOf
  rw [List.take_succ_eq_append_getElem h, List.filterMap_append]
  cases hb : (f l[i]).2 <;> simp [hb]
theorem left_len (f : Bd → Bd × Bool) (l : List Bd) : (leftOf f l).length + (goneOf f l).length = l.length := by
  induction l with
  | nil => rfl
  | cons b l ih =>
    unfold leftOf goneOf at *
    cases hb : (f b).2 <;> simp [hb] <;> omega
/-- at a place within 'each' -/
structure EachAt (w0 wr : World) (g base : Nat) (mp lv ov gv dv0 dv o : Value) (l left : List Bd) (dead : List Nam) : Prop where
  st : StgAt wr g base mp lv ov gv dv l dead
  o : OwnOf cBd 38 wr w0.heap.size o left
  k : Keeps (SD g dv0) w0 wr
  f : ∀ i, dv.ownBlock = some i → dv0.ownBlock = some i ∨ w0.heap.size ≤ i
theorem EachAt.no {w0 wr w' : World} {g base : Nat} {mp lv ov gv dv0 dv o : Value} {l left : List Bd} {dead : List Nam} (h : EachAt w0 wr g base mp lv ov gv dv0 dv o l left dead) (k : Keeps No wr w') : EachAt w0 w' g base mp lv ov gv dv0 dv o l left dead :=
  ⟨h.st.no k, k.owns h.o (fun _ _ h => h), h.k.trans (k.mono (fun _ _ h => h.elim)) (fun _ _ h => h), h.f⟩
theorem cells_setN {W : World} {g n : Nat} {l l2 : List Value} (i : Nat) (v : Value) (h : cellsAt W g 0 n = some l) (hl : l.set i v = l2) : cellsAt (W.setCell ⟨g, i, none⟩ v) g 0 n = some l2 := by
  rw [cellsAt_setCell_at, h, Option.map_some]
  simp [← hl]
theorem keeps_set {W : World} (g i : Nat) (v : Value) : Keeps (Own g) W (W.setCell ⟨g, i, none⟩ v) := (Keeps.refl (S := Own g) W).setCell (p := ⟨g, i, none⟩) (fun _ => (rfl : g = g)) v
/-- one more is left -/
theorem EachAt.push {w0 wr w' : World} {g base : Nat} {mp lv ov gv dv0 dv o o' : Value} {l left left' : List Bd} {dead : List Nam} (h : EachAt w0 wr g base mp lv ov gv dv0 dv o l left dead) (hg : g < w0.heap.size) (hl : ∀ i, lv.ownBlock = some i → i < w0.heap.size)
    (k : Keeps (Of o) wr w') (ho : OwnOf cBd 38 w' w0.heap.size o' left') : EachAt w0 w' g base mp lv ov gv dv0 dv o' l left' dead := by
  have hlt : ∀ i, Of o i → w0.heap.size ≤ i := fun i hi => (h.o.lt i hi).1
  refine ⟨h.st.keep k (fun e => by have := hlt _ e; omega) (fun i hi e => by have := hlt _ e; have := hl i hi; omega) (rows_apart h.st.d h.o (by decide)), ho, h.k.trans k (fun i hi e => by have := hlt _ e; omega), h.f⟩
/-- one more is no more -/
theorem EachAt.die {w0 wr w' : World} {g base : Nat} {mp lv ov gv dv0 dv dv2 o : Value} {l left : List Bd} {dead dead2 : List Nam} (h : EachAt w0 wr g base mp lv ov gv dv0 dv o l left dead) (hg : g < w0.heap.size)
    (k : Keeps (Of dv) wr w') (hd : OwnOf cNam 36 w' base dv2 dead2) (hf : ∀ i, dv2.ownBlock = some i → dv.ownBlock = some i ∨ wr.heap.size ≤ i) :
    EachAt w0 (w'.setCell ⟨g, 4, none⟩ dv2) g base mp lv ov gv dv0 dv2 o l left dead2 := by
  have hgd : ¬ Of dv g := fun e => h.st.dg e
  have ks := keeps_set (W := w') g 4 dv2
  have gs : g < wr.heap.size := Nat.lt_of_lt_of_le hg h.k.size
  have ho : OwnOf cBd 38 w' w0.heap.size o left := k.owns h.o (fun i hi e => rows_apart h.o h.st.d (by decide) i hi e)
  have og : ∀ i, o.ownBlock = some i → ¬ Own g i := fun i hi e => by
    have e : i = g := e
    have := (h.o.lt i hi).1
    omega
  have dg2 : dv2.ownBlock ≠ some g := fun e => by
    rcases hf g e with h1 | h1
    · exact h.st.dg h1
    · omega
  have hl : OwnOf cBd 38 w' base lv l := k.owns h.st.l (fun i hi e => rows_apart h.st.l h.st.d (by decide) i hi e)
  have lg : ∀ i, lv.ownBlock = some i → ¬ Own g i := fun i hi e => by
    have e : i = g := e
    rw [e] at hi
    exact h.st.lg hi
  have dgi : ∀ i, dv2.ownBlock = some i → ¬ Own g i := fun i hi e => by
    have e : i = g := e
    rw [e] at hi
    exact dg2 hi
  refine ⟨⟨cells_setN 4 _ (keepsS_cells k hgd h.st.c) rfl, by rw [open_setCell]; exact keepsS_open k hgd h.st.o, by rw [rowD_setCell_at]; simpa using keepsS_row k hgd h.st.o h.st.s, ks.owns hl lg, ks.owns hd dgi, h.st.lg, dg2⟩, ks.owns ho og, ?_, fun i hi => ?_⟩
  · refine (h.k.trans k (T := Of dv) (fun i hi e => ?_)).trans ks (fun i hi e => .inl e)
    rcases h.f i e with h1 | h1
    · exact .inr h1
    · omega
  · rcases hf i hi with h1 | h1
    · exact h.f i h1
    · exact .inr (Nat.le_trans h.k.size h1)
theorem Tryz.infoID : (Tryz.prog.info? 36).map (fun i => (i.zero, i.size, i.bytes)) = some (some (.agg (namC ⟨0, 0, 0⟩).toArray), 3, 24) := by kernel_rfl

set_option maxRecDepth 100000 in
set_option maxHeartbeats 8000000 in
theorem each_any (w : World) (g base : Nat) (mp lv ov gv dv : Value) (l : List Bd) (dead : List Nam) (h : StgAt w g base mp lv ov gv dv l dead) (hb : base ≤ w.heap.size) (hl : l.length ≤ 1000) (hd : dead.length ≤ 100000) (hok : ∀ b ∈ l, b.ok)
    (fid : Nat) (captured : Array Value) (f : Bd → Bd × Bool) (hf : AnswersB Tryz.prog (SD g dv) w fid captured f) :
    Calls Tryz.prog 24 #[.pointer (some ⟨g, 0, none⟩), .func (.func fid) #[] captured] w fun e w' => e = .returned (.tuple #[]) ∧ ∃ lv' dv', StgAt w' g base mp lv' ov gv dv' (leftOf f l) (dead ++ goneOf f l) ∧
      Keeps (SD g dv) w w' ∧ (∀ i, lv'.ownBlock = some i → w.heap.size ≤ i) ∧ (∀ i, dv'.ownBlock = some i → dv.ownBlock = some i ∨ w.heap.size ≤ i) := by
  obtain ⟨i0, hi, hz0, hz1, hz2⟩ := info_parts Tryz.infoBd
  obtain ⟨j0, hj, jz0, jz1, jz2⟩ := info_parts Tryz.infoID
  obtain ⟨la, lc, rfl⟩ := ownsRow_slice h.l
  have H := Lib.hid h
  have HB := Lib.hid hb
  have HD := Lib.hid hd
  have HOK := Lib.hid hok
  have HF := Lib.hid hf
  have hn : (l.length : Int) ≤ 1000 := by omega
  have HL := Lib.hid hl
  have hcall := hf.call
  have e1 := cellsAt_cell h.c 1 _ rfl
  simp only [Nat.zero_add] at e1
  clear h hb hl hd hok hf
  go_enter Tryz.func24, Tryz.ntmps24
  go_wp2_with fail
  go_loopw [4, 14] (fun o q wr => ∃ k : Nat, k ≤ l.length ∧ q = .int .i64 k ∧ ∃ dv1, EachAt w wr g base mp (.slice la l.length lc) ov gv dv dv1 o l (leftOf f (l.take k)) (dead ++ goneOf f (l.take k))) (fun _ q _ => l.length - (intOf q).toNat)
  case atStart => exact ⟨0, Nat.zero_le _, rfl, dv, by
    have e : dead ++ goneOf f (l.take 0) = dead := by simp [goneOf]
    rw [e]
    exact ⟨H.out, World.ownsRow_nil _ _ _ _, Keeps.refl _, fun i hi => .inl hi⟩⟩
  case round =>
    obtain ⟨k, hkl, rfl, dv1, hE⟩ := hrel
    obtain ⟨wo, hwo⟩ : ∃ x : World, x = wr := ⟨_, rfl⟩
    subst hwo
    have E := Lib.hid hE
    obtain ⟨oa, oc, rfl⟩ := ownsRow_slice hE.o
    obtain ⟨da, dc, rfl⟩ := ownsRow_slice hE.st.d
    have hk0 : (0 : Int) ≤ (k : Int) := by omega
    clear hE
    by_cases hlt : k < l.length
    · have hlti : (k : Int) < (l.length : Int) := by omega
      have hrr : RdOf cBd wo (.slice la l.length lc) l := OwnOf.reads E.out.st.l
      obtain ⟨gl, off, rfl, _, _, _⟩ := RdOf.addr cBd hrr (by omega)
      have c11 := RdOf.at cBd hrr k hlt
      have HS1 := Lib.hid (leftOf_succ f l k hlt)
      have HS2 := Lib.hid (goneOf_succ f l k hlt)
      have HBK : Hid (l[k].ok) := Lib.hid (HOK.out _ (List.getElem_mem hlt))
      obtain ⟨b, hbb⟩ : ∃ b, b = l[k] := ⟨_, rfl⟩
      rw [← hbb] at HS1 HS2 HBK
      have c12 : cellsAt wo gl (off + k * 11) 11 = some (bdC b) := by rw [hbb]; exact c11
      clear c11 hbb hrr
      go_wp2_with fail
      have E1 : Hid (EachAt w (wo.alloc (.cells (bdC b).toArray 38)) g base mp (.slice (some ⟨gl, off, none⟩) l.length lc) ov gv dv (.slice da (dead ++ goneOf f (l.take k)).length dc) (.slice oa (leftOf f (l.take k)).length oc) l (leftOf f (l.take k)) (dead ++ goneOf f (l.take k))) := Lib.hid (E.out.no ((Keeps.refl wo).alloc _))
      have gbx : cellsAt (wo.alloc (.cells (bdC b).toArray 38)) wo.heap.size 0 11 = some (bdC b) := by simp [go_sem]
      refine (HF.out.ans _ b E1.out.k HBK.out).mono ?_
      rintro e w1 ⟨rfl, hk1⟩
      have E2 := Lib.hid (E1.out.no hk1)
      have gb2 : cellsAt w1 wo.heap.size 0 11 = some (bdC b) := hk1.cellsAt gbx
      obtain ⟨gb, hgb⟩ : ∃ g, g = wo.heap.size := ⟨_, rfl⟩
      have NG : Hid (g < gb ∧ (∀ i, (Value.slice da (dead ++ goneOf f (l.take k)).length dc).ownBlock = some i → i < gb) ∧ (∀ i, (Value.slice oa (leftOf f (l.take k)).length oc).ownBlock = some i → i < gb)) := Lib.hid ⟨by rw [hgb]; exact E.out.st.o.lt, fun i hi => by rw [hgb]; exact (E.out.st.d.lt i hi).2, fun i hi => by rw [hgb]; exact (E.out.o.lt i hi).2⟩
      rw [← hgb] at gb2 ⊢
      have GB2 := Lib.hid gb2
      have HLL := Lib.hid (left_len f (l.take k))
      obtain ⟨L, hL⟩ : ∃ L, L = leftOf f (l.take k) := ⟨_, rfl⟩
      obtain ⟨D, hD⟩ : ∃ D, D = dead ++ goneOf f (l.take k) := ⟨_, rfl⟩
      have HN : Hid (L.length ≤ 1000 ∧ D.length ≤ 101000) := Lib.hid (by
        have h1 := HLL.out
        have h2 := HL.out
        have h3 := HD.out
        rw [List.length_take] at h1
        rw [hL, hD, List.length_append]
        omega)
      have HD2 : Hid (dead ++ goneOf f (l.take (k + 1)) = D ++ bif (f b).2 then [] else [b.id]) := Lib.hid (by rw [HS2.out, hD, List.append_assoc])
      rw [← hL] at HS1 E2 NG ⊢
      rw [← hD] at E2 NG
      clear hk1 gbx E1 E hgb c12 HS2 HLL HBK hL hD
      obtain ⟨x, hx⟩ : ∃ x, x = (f b).1 := ⟨_, rfl⟩
      obtain ⟨ok, hok⟩ : ∃ x, x = (f b).2 := ⟨_, rfl⟩
      rw [← hx] at HS1 ⊢
      rw [← hok] at HS1 HD2 ⊢
      clear hx hok
      cases ok with
      | true =>
        have E3 : Hid (EachAt w ((w1.alloc (.cells (bdC x).toArray 38)).alloc (.cells (bdC x).toArray 38)) g base mp (.slice (some ⟨gl, off, none⟩) l.length lc) ov gv dv (.slice da D.length dc) (.slice oa L.length oc) l L D) := Lib.hid ((E2.out.no ((Keeps.refl w1).alloc _)).no ((Keeps.refl _).alloc _))
        have hO' := E3.out.o
        have hlit : Reads ((w1.alloc (.cells (bdC x).toArray 38)).alloc (.cells (bdC x).toArray 38)) 11 (.slice (some ⟨w1.heap.size + 1, 0, none⟩) 1 1) 1 (bdC x) := by
          have h := Reads.ofOwn (World.ownsRow_lit (base := 0) (e := 38) (size := 11) (w1.alloc (.cells (bdC x).toArray 38)) (bdC x).toArray 1 (Nat.zero_le _) (by unfold maxLen; omega) rfl) (cBd.one x)
          have e : (w1.alloc (.cells (bdC x).toArray 38)).heap.size = w1.heap.size + 1 := by simp
          rw [e] at h
          exact h
        go_wp2_with (at_builtin; refine wpList_append_reads rfl (.tmp 25) (.tmp 27) 27 rfl w.heap.size 38 i0 _ 11 88 Tryz.underlying27 hi hz0 hz1 hz2 rfl (by decide) _ L.length _ rfl hO' _ 1 (bdC x) rfl hlit ?c1 ?c2 ?c3 ?c4)
        case c1 => have := HN.out.1; unfold maxLen; omega
        case c2 => have := HN.out.1; omega
        case c3 => exact E3.out.k.size
        case c4 =>
          intro v' w5 hown1 hk1 _ _
          have O5 : OwnOf cBd 38 w5 w.heap.size v' (L ++ [x]) := by
            unfold OwnOf
            rw [List.length_append, rowsOf_append, rowsOf_one]
            exact hown1
          have E5 := Lib.hid (E3.out.push H.out.o.lt (fun i hi => (H.out.l.lt i hi).2) hk1 O5)
          clear hown1 hk1 hO' hlit O5
          go_wp2
          go_roundw
          case rel => exact ⟨k + 1, by omega, by go_num, .slice da D.length dc, by rw [HS1.out, HD2.out]; simpa using E5.out⟩
          case measure => simp [intOf]; omega
      | false =>
        have E3 : Hid (EachAt w (w1.alloc (.cells (bdC x).toArray 38)) g base mp (.slice (some ⟨gl, off, none⟩) l.length lc) ov gv dv (.slice da D.length dc) (.slice oa L.length oc) l L D) := Lib.hid (E2.out.no ((Keeps.refl w1).alloc _))
        have gb3 : Hid (cellsAt (w1.alloc (.cells (bdC x).toArray 38)) gb 0 11 = some (bdC b)) := Lib.hid (((Keeps.refl w1).alloc _).cellsAt gb2)
        go_wp2_with fail
        refine wp_world ?_
        intro w2 hw2
        rw [← hw2] at E3 gb3
        clear hw2 gb2 E2 GB2
        have y4 := cellsAt_cell E3.out.st.c 4 _ rfl
        have yb : cellsAt w2 gb 0 3 = some [.int .i64 b.s, .int .i64 b.i, .int .i64 b.g] := cellsAt_part gb3.out 0 [.int .i64 b.s, .int .i64 b.i, .int .i64 b.g] rfl (by simp)
        simp only [Nat.zero_add] at y4
        refine wp_region_late (fun _ => True) (fun w' => w'.cell? ⟨g, 4, none⟩ = some (.slice da D.length dc) ∧ cellsAt w' gb 0 3 = some [.int .i64 b.s, .int .i64 b.i, .int .i64 b.g]) (fun j => j == 13) (by kernel_rfl) ?_
        first
          | (refine takeW (i := 0) (v := ?_) rfl rfl (by kernel_rfl) (by kernel_rfl) (by kernel_rfl) rfl (fun _ _ _ h => h) (Or.inl ⟨by rfl, ?_⟩) trivial (fun _ => ⟨y4,yb⟩) ?_; rotate_left; focus (intro w hSw; (try dsimp only at hSw); go_simp; (try rfl); done))
          | (refine takeL (i := 0) (v := ?_) rfl rfl (by kernel_rfl) (by kernel_rfl) (by kernel_rfl) (by kernel_rfl) (noLate_of (by kernel_rfl)) (fun _ _ _ h => h) (Or.inl ⟨by rfl, ?_⟩) trivial ⟨y4,yb⟩ ?_; rotate_left; focus (intro w hSw; (try dsimp only at hSw); go_simp; (try rfl); done))
        try simp only [List.setIfInBounds_toArray, List.set_cons_zero, List.set_cons_succ]
        first
          | (refine takeW (i := 1) (v := ?_) rfl rfl (by kernel_rfl) (by kernel_rfl) (by kernel_rfl) rfl (fun _ _ _ h => h) (Or.inl ⟨by rfl, ?_⟩) trivial (fun _ => ⟨y4,yb⟩) ?_; rotate_left; focus (intro w hSw; (try dsimp only at hSw); go_simp; (try rfl); done))
          | (refine takeL (i := 1) (v := ?_) rfl rfl (by kernel_rfl) (by kernel_rfl) (by kernel_rfl) (by kernel_rfl) (noLate_of (by kernel_rfl)) (fun _ _ _ h => h) (Or.inl ⟨by rfl, ?_⟩) trivial ⟨y4,yb⟩ ?_; rotate_left; focus (intro w hSw; (try dsimp only at hSw); go_simp; (try rfl); done))
        try simp only [List.setIfInBounds_toArray, List.set_cons_zero, List.set_cons_succ]
        first
          | (refine takeW (i := 2) (v := ?_) rfl rfl (by kernel_rfl) (by kernel_rfl) (by kernel_rfl) rfl (fun _ _ _ h => h) (Or.inl ⟨by rfl, ?_⟩) trivial (fun _ => ⟨y4,yb⟩) ?_; rotate_left; focus (intro w hSw; (try dsimp only at hSw); go_simp; (try rfl); done))
          | (refine takeL (i := 2) (v := ?_) rfl rfl (by kernel_rfl) (by kernel_rfl) (by kernel_rfl) (by kernel_rfl) (noLate_of (by kernel_rfl)) (fun _ _ _ h => h) (Or.inl ⟨by rfl, ?_⟩) trivial ⟨y4,yb⟩ ?_; rotate_left; focus (intro w hSw; (try dsimp only at hSw); go_simp; (try rfl); done))
        try simp only [List.setIfInBounds_toArray, List.set_cons_zero, List.set_cons_succ]
        first
          | (refine takeW (i := 3) (v := ?_) rfl rfl (by kernel_rfl) (by kernel_rfl) (by kernel_rfl) rfl (fun _ _ _ h => h) (Or.inl ⟨by rfl, ?_⟩) trivial (fun _ => ⟨y4,yb⟩) ?_; rotate_left; focus (intro w hSw; (try dsimp only at hSw); go_simp; (try rfl); done))
          | (refine takeL (i := 3) (v := ?_) rfl rfl (by kernel_rfl) (by kernel_rfl) (by kernel_rfl) (by kernel_rfl) (noLate_of (by kernel_rfl)) (fun _ _ _ h => h) (Or.inl ⟨by rfl, ?_⟩) trivial ⟨y4,yb⟩ ?_; rotate_left; focus (intro w hSw; (try dsimp only at hSw); go_simp; (try rfl); done))
        try simp only [List.setIfInBounds_toArray, List.set_cons_zero, List.set_cons_succ]
        first
          | (refine takeW (i := 4) (v := ?_) rfl rfl (by kernel_rfl) (by kernel_rfl) (by kernel_rfl) rfl (fun _ _ _ h => h) (Or.inl ⟨by rfl, ?_⟩) trivial (fun _ => ⟨y4,yb⟩) ?_; rotate_left; focus (intro w hSw; (try dsimp only at hSw); go_simp; (try rfl); done))
          | (refine takeL (i := 4) (v := ?_) rfl rfl (by kernel_rfl) (by kernel_rfl) (by kernel_rfl) (by kernel_rfl) (noLate_of (by kernel_rfl)) (fun _ _ _ h => h) (Or.inl ⟨by rfl, ?_⟩) trivial ⟨y4,yb⟩ ?_; rotate_left; focus (intro w hSw; (try dsimp only at hSw); go_simp; (try rfl); done))
        try simp only [List.setIfInBounds_toArray, List.set_cons_zero, List.set_cons_succ]
        first
          | (refine takeW (i := 5) (v := ?_) rfl rfl (by kernel_rfl) (by kernel_rfl) (by kernel_rfl) rfl (fun _ _ _ h => h) (Or.inl ⟨by rfl, ?_⟩) trivial (fun _ => ⟨y4,yb⟩) ?_; rotate_left; focus (intro w hSw; (try dsimp only at hSw); go_simp; (try rfl); done))
          | (refine takeL (i := 5) (v := ?_) rfl rfl (by kernel_rfl) (by kernel_rfl) (by kernel_rfl) (by kernel_rfl) (noLate_of (by kernel_rfl)) (fun _ _ _ h => h) (Or.inl ⟨by rfl, ?_⟩) trivial ⟨y4,yb⟩ ?_; rotate_left; focus (intro w hSw; (try dsimp only at hSw); go_simp; (try rfl); done))
        try simp only [List.setIfInBounds_toArray, List.set_cons_zero, List.set_cons_succ]
        first
          | (refine takeW (i := 6) (v := ?_) rfl rfl (by kernel_rfl) (by kernel_rfl) (by kernel_rfl) rfl (fun _ _ _ h => h) (Or.inl ⟨by rfl, ?_⟩) trivial (fun _ => ⟨y4,yb⟩) ?_; rotate_left; focus (intro w hSw; (try dsimp only at hSw); go_simp; (try rfl); done))
          | (refine takeL (i := 6) (v := ?_) rfl rfl (by kernel_rfl) (by kernel_rfl) (by kernel_rfl) (by kernel_rfl) (noLate_of (by kernel_rfl)) (fun _ _ _ h => h) (Or.inl ⟨by rfl, ?_⟩) trivial ⟨y4,yb⟩ ?_; rotate_left; focus (intro w hSw; (try dsimp only at hSw); go_simp; (try rfl); done))
        try simp only [List.setIfInBounds_toArray, List.set_cons_zero, List.set_cons_succ]
        first
          | (refine takeW (i := 7) (v := ?_) rfl rfl (by kernel_rfl) (by kernel_rfl) (by kernel_rfl) rfl (fun _ _ _ h => h) (Or.inl ⟨by rfl, ?_⟩) trivial (fun _ => ⟨y4,yb⟩) ?_; rotate_left; focus (intro w hSw; (try dsimp only at hSw); go_simp; (try rfl); done))
          | (refine takeL (i := 7) (v := ?_) rfl rfl (by kernel_rfl) (by kernel_rfl) (by kernel_rfl) (by kernel_rfl) (noLate_of (by kernel_rfl)) (fun _ _ _ h => h) (Or.inl ⟨by rfl, ?_⟩) trivial ⟨y4,yb⟩ ?_; rotate_left; focus (intro w hSw; (try dsimp only at hSw); go_simp; (try rfl); done))
        try simp only [List.setIfInBounds_toArray, List.set_cons_zero, List.set_cons_succ]
        have E4 : Hid (EachAt w (w2.alloc (.cells #[.int .i64 b.s, .int .i64 b.i, .int .i64 b.g] 36)).drew g base mp (.slice (some ⟨gl, off, none⟩) l.length lc) ov gv dv (.slice da D.length dc) (.slice oa L.length oc) l L D) := Lib.hid (E3.out.no (((Keeps.refl w2).alloc _).drew))
        have hlit : Hid (Reads (w2.alloc (.cells #[.int .i64 b.s, .int .i64 b.i, .int .i64 b.g] 36)).drew 3 (.slice (some ⟨w2.heap.size, 0, none⟩) 1 1) 1 (namC b.id)) := Lib.hid (Reads.kept (S := No) ((Keeps.refl _).drew) (Reads.ofOwn (World.ownsRow_lit (base := 0) (e := 36) (size := 3) w2 #[.int .i64 b.s, .int .i64 b.i, .int .i64 b.g] 1 (Nat.zero_le _) (by unfold maxLen; omega) rfl) (cNam.one b.id)) (fun _ _ h => h))
        have hy4 := cellsAt_cell E4.out.st.c 4 _ rfl
        have hyb : cellsAt (w2.alloc (.cells #[.int .i64 b.s, .int .i64 b.i, .int .i64 b.g] 36)).drew gb 0 3 = some [.int .i64 b.s, .int .i64 b.i, .int .i64 b.g] := (((Keeps.refl (S := No) w2).alloc _).drew).cellsAt yb
        simp only [Nat.zero_add] at hy4
        refine readyL (rs := [8]) (by kernel_rfl) (by simp) ?_
        refine AllReadyL.cons rfl (fun K hK => ?_) AllReadyL.nil
        go_simp
        obtain ⟨w3, hw3⟩ : ∃ x, x = (w2.alloc (.cells #[.int .i64 b.s, .int .i64 b.i, .int .i64 b.g] 36)).drew := ⟨_, rfl⟩
        rw [← hw3] at E4 hlit hy4 hyb ⊢
        refine hK.out _ _ trivial (fun _ => ⟨hy4, hyb⟩) ?_
        clear hK K hw3
        have B1 : Hid (D.length + 1 ≤ maxLen) := Lib.hid (by have := HN.out.2; unfold maxLen; omega)
        have B2 : Hid ((D.length + 1) * 24 ≤ 140737488355328) := Lib.hid (by have := HN.out.2; omega)
        have B3 : Hid (base ≤ w3.heap.size) := Lib.hid (Nat.le_trans HB.out E4.out.k.size)
        refine readyL (rs := [9]) (by kernel_rfl) (by simp) ?_
        refine AllReadyL.cons rfl (fun K hK => ?_) AllReadyL.nil
        refine step_append_reads (by rfl) (.tmp 34) (.tmp 37) 42 (by rfl) base 36 j0 _ 3 24 Tryz.underlying42 hj jz0 jz1 jz2 (by rfl) (by decide) (.slice da D.length dc) D.length (rowsOf cNam D) (by rfl) E4.out.st.d _ 1 (namC b.id) (by rfl) hlit.out B1.out B2.out B3.out ?_
        intro v' w8 ho8 hk8 hb8 _
        have O8 : Hid (OwnOf cNam 36 w8 base v' (D ++ [b.id])) := Lib.hid (by
          unfold OwnOf
          rw [List.length_append, rowsOf_append, rowsOf_one]
          exact ho8)
        have K8 := Lib.hid hk8
        have HB8 := Lib.hid hb8
        obtain ⟨ea, ec, rfl⟩ := ownsRow_slice ho8
        have z4 := hk8.cell hy4 (fun e => E4.out.st.dg e)
        have zb := keepsS_cells hk8 (fun e => by have h1 := NG.out.2.1 gb e; omega) hyb
        refine put_of (d := 38) rfl ?_
        simp only [List.setIfInBounds_toArray, List.set_cons_zero, List.set_cons_succ]
        refine hK.out _ _ trivial (fun _ => ⟨z4, zb⟩) ?_
        clear hK K ho8 hk8 hb8
        first
          | (refine takeW (i := 10) (v := ?_) rfl rfl (by kernel_rfl) (by kernel_rfl) (by kernel_rfl) rfl (fun _ _ _ h => h) (Or.inl ⟨by rfl, ?_⟩) trivial (fun _ => ⟨z4,zb⟩) ?_; rotate_left; focus (intro w hSw; (try dsimp only at hSw); go_simp; (try rfl); done))
          | (refine takeL (i := 10) (v := ?_) rfl rfl (by kernel_rfl) (by kernel_rfl) (by kernel_rfl) (by kernel_rfl) (noLate_of (by kernel_rfl)) (fun _ _ _ h => h) (Or.inl ⟨by rfl, ?_⟩) trivial ⟨z4,zb⟩ ?_; rotate_left; focus (intro w hSw; (try dsimp only at hSw); go_simp; (try rfl); done))
        try simp only [List.setIfInBounds_toArray, List.set_cons_zero, List.set_cons_succ]
        first
          | (refine takeW (i := 11) (v := ?_) rfl rfl (by kernel_rfl) (by kernel_rfl) (by kernel_rfl) rfl (fun _ _ _ h => h) (Or.inl ⟨by rfl, ?_⟩) trivial (fun _ => ⟨z4,zb⟩) ?_; rotate_left; focus (intro w hSw; (try dsimp only at hSw); go_simp; (try rfl); done))
          | (refine takeL (i := 11) (v := ?_) rfl rfl (by kernel_rfl) (by kernel_rfl) (by kernel_rfl) (by kernel_rfl) (noLate_of (by kernel_rfl)) (fun _ _ _ h => h) (Or.inl ⟨by rfl, ?_⟩) trivial ⟨z4,zb⟩ ?_; rotate_left; focus (intro w hSw; (try dsimp only at hSw); go_simp; (try rfl); done))
        try simp only [List.setIfInBounds_toArray, List.set_cons_zero, List.set_cons_succ]
        first
          | (refine takeW (i := 12) (v := ?_) rfl rfl (by kernel_rfl) (by kernel_rfl) (by kernel_rfl) rfl (fun _ _ _ h => h) (Or.inl ⟨by rfl, ?_⟩) trivial (fun _ => ⟨z4,zb⟩) ?_; rotate_left; focus (intro w hSw; (try dsimp only at hSw); go_simp; (try rfl); done))
          | (refine takeL (i := 12) (v := ?_) rfl rfl (by kernel_rfl) (by kernel_rfl) (by kernel_rfl) (by kernel_rfl) (noLate_of (by kernel_rfl)) (fun _ _ _ h => h) (Or.inl ⟨by rfl, ?_⟩) trivial ⟨z4,zb⟩ ?_; rotate_left; focus (intro w hSw; (try dsimp only at hSw); go_simp; (try rfl); done))
        try simp only [List.setIfInBounds_toArray, List.set_cons_zero, List.set_cons_succ]
        have f4 := (keepsS_open K8.out (fun e => E4.out.st.dg e) E4.out.st.o).frozen 4
        refine readyL (rs := [13]) (by kernel_rfl) (by simp) ?_
        refine AllReadyL.cons rfl (fun K hK => ?_) AllReadyL.nil
        go_simp
        have E9 := Lib.hid (E4.out.die H.out.o.lt K8.out O8.out HB8.out)
        refine hK.out _ _ trivial (late_come 13 rfl (by kernel_rfl)) ?_
        clear hK K
        refine doneL (by kernel_rfl) ?_ _
        clear z4 zb f4 hy4 hyb y4 yb
        go_wp2
        go_roundw
        case rel => exact ⟨k + 1, by omega, by go_num, _, by rw [HS1.out, HD2.out]; simpa using E9.out⟩
        case measure => simp [intOf]; omega
    · have hke : k = l.length := by omega
      subst hke
      have hlti : ¬ ((l.length : Int) < (l.length : Int)) := by omega
      have hT : l.take l.length = l := List.take_of_length_le (Nat.le_refl _)
      rw [hT] at E ⊢
      have ob := E.out.st.o
      have f1 := E.out.st.o.frozen 1
      have lb := E.out.st.o.lt
      have y1 := cellsAt_cell E.out.st.c 1 _ rfl
      simp only [Nat.zero_add] at y1
      have FIN : Hid (StgAt (wo.setCell ⟨g, 1, none⟩ (.slice oa (leftOf f l).length oc)) g base mp (.slice oa (leftOf f l).length oc) ov gv (.slice da (dead ++ goneOf f l).length dc) (leftOf f l) (dead ++ goneOf f l) ∧ Keeps (SD g dv) w (wo.setCell ⟨g, 1, none⟩ (.slice oa (leftOf f l).length oc))) := Lib.hid (by
        have ks := keeps_set (W := wo) g 1 (.slice oa (leftOf f l).length oc)
        have gl := H.out.o.lt
        have og : ∀ i, (Value.slice oa (leftOf f l).length oc).ownBlock = some i → ¬ Own g i := fun i hi e => by
          have e : i = g := e
          have := (E.out.o.lt i hi).1
          omega
        have dgi : ∀ i, (Value.slice da (dead ++ goneOf f l).length dc).ownBlock = some i → ¬ Own g i := fun i hi e => by
          have e : i = g := e
          rw [e] at hi
          exact E.out.st.dg hi
        exact ⟨⟨cells_setN 1 _ E.out.st.c rfl, by rw [open_setCell]; exact E.out.st.o, by rw [rowD_setCell_at]; simpa using E.out.st.s, ks.owns (ownsRow_base E.out.o HB.out) og, ks.owns E.out.st.d dgi, fun e => og g e rfl, E.out.st.dg⟩, E.out.k.trans ks (fun i hi e => .inl e)⟩)
      go_wp2
      exact bodyPost_end (results_none rfl _ _ _) rfl ⟨rfl, _, _, FIN.out.1, FIN.out.2, fun i hi => (E.out.o.lt i hi).1, E.out.f⟩
end Go.Proofs.YtcjeocibnfoenaaGreat
