/-
  handoff.Fold, where one is adopted. No conditions of its own.
-/
import Derived.Test.YtggaeihinheojaaHoAA
namespace Go.Proofs.Ytggaeihinheojaa
open Go.RowKit

theorem cells_keep {S : Nat → Prop} {a w : World} (h : Keeps S a w) {b o n : Nat} {l : List Value} (hn : ¬ S b) (hc : cellsAt a b o n = some l) : cellsAt w b o n = some l := by
  have hb : b < a.heap.size := by
    unfold cellsAt at hc
    split at hc
    · rename_i hh
      exact (Array.getElem?_eq_some_iff.1 hh).1
    · cases hc
  unfold cellsAt at hc ⊢
  rw [h.block b hb hn]
  exact hc
theorem open_keep {S : Nat → Prop} {a w : World} (h : Keeps S a w) {b : Nat} (hn : ¬ S b) (ho : Open a b) : Open w b := by
  obtain ⟨C, t, hc⟩ := ho
  exact ⟨C, t, h.heap hc hn⟩
theorem size_keep {S : Nat → Prop} {a w : World} (h : Keeps S a w) {b n : Nat} (hS : ¬ S b) (ho : Open a b) (hn : (rowD a b).size = n) : (rowD w b).size = n := by
  obtain ⟨C, t, hc⟩ := ho
  have hw := h.heap hc hS
  unfold rowD at hn ⊢
  rw [hc] at hn
  rw [hw]
  exact hn

/-- what an Insert into a clone leaves -/
def InsPost (w5 : World) (base : Nat) (l' : List Bd) (e : Ending) (w7 : World) : Prop :=
  ∃ (a7 : Option Addr) (n7 c7 : Nat), e = .returned (.slice a7 n7 c7) ∧ OwnOf cBd 37 w7 base (.slice a7 n7 c7) l' ∧ Keeps No w5 w7 ∧ ∀ k, (Value.slice a7 n7 c7).ownBlock = some k → w5.heap.size ≤ k
theorem ins_a (w5 w6 : World) (base : Nat) (v6 : Value) (lw : List Bd) (ho : OwnOf cBd 37 w6 w5.heap.size v6 lw) (hk : Keeps No w5 w6) (hl : lw.length ≤ 1000) (P : Nat) (hp : P ≤ lw.length) (B : Bd) (hbase : base ≤ w5.heap.size) :
    Calls Try.prog 44 #[v6, .int .i64 P, .slice (some ⟨w6.heap.size, 0, none⟩) 1 1] (w6.alloc (.cells (bdC B).toArray 37)) (InsPost w5 base (lw.take P ++ B :: lw.drop P)) := by
  have hs := hk.size
  refine (insert_bd (w6.alloc (.cells (bdC B).toArray 37)) w5.heap.size v6 lw (ho.alloc _) hl P hp w6.heap.size B (heap_alloc_new _ _) (fun h => by have := (ho.lt _ h).2; omega) (by simp; omega)).mono ?_
  rintro e w7 ⟨v7, rfl, ho7, hk7, hb7⟩
  obtain ⟨a7, c7, rfl⟩ := ownsRow_slice ho7
  refine ⟨a7, _, c7, rfl, OwnOf.base ho7 hbase, (hk.alloc _).trans hk7 (fun i hi hof => absurd hi (Nat.not_lt.2 (ho.lt i hof).1)), fun k hk' => ?_⟩
  rcases hb7 k hk' with h | h
  · exact (ho.lt k h).1
  · simp at h; omega
theorem ins_b (w5 w6 : World) (base : Nat) (v6 : Value) (lw : List Bd) (B : Bd) (ho : OwnOf cBd 37 w6 (w5.heap.size + 1) v6 lw) (hk : Keeps No (w5.alloc (.cells (bdC B).toArray 37)) w6) (hl : lw.length ≤ 1000) (P : Nat) (hp : P ≤ lw.length) (hbase : base ≤ w5.heap.size) :
    Calls Try.prog 44 #[v6, .int .i64 P, .slice (some ⟨w5.heap.size, 0, none⟩) 1 1] w6 (InsPost w5 base (lw.take P ++ B :: lw.drop P)) := by
  have hs := hk.size
  simp only [World.size_alloc] at hs
  refine (insert_bd w6 w5.heap.size v6 lw (OwnOf.base ho (by omega)) hl P hp w5.heap.size B (hk.heap (heap_alloc_new _ _) (fun h => h)) (fun h => by have := (ho.lt _ h).1; omega) (by omega)).mono ?_
  rintro e w7 ⟨v7, rfl, ho7, hk7, hb7⟩
  obtain ⟨a7, c7, rfl⟩ := ownsRow_slice ho7
  refine ⟨a7, _, c7, rfl, OwnOf.base ho7 hbase, (((Keeps.refl (S := No) w5).alloc _).trans hk (fun _ _ h => h)).trans hk7 (fun i hi hof => by have := (ho.lt i hof).1; omega), fun k hk' => ?_⟩
  rcases hb7 k hk' with h | h
  · have := (ho.lt k h).1
    omega
  · omega

section
variable {w : World} {ep t nx : Int} {own dead outs ins gh : Value}

set_option maxRecDepth 100000 in
set_option maxHeartbeats 4000000 in
theorem fold_adopt {lo : List Ou} {li : List Inn} (hv : RdOf cOu w outs lo) (hi : RdOf cIn w ins li) (hlo : lo.length ≤ 1000) (hli : li.length ≤ 1000) (h2 : dead.oneCell' = true) (h4 : gh.oneCell' = true) (n f : Int) (b : Bd)
    {lw : List Bd} (hw : RdOf cBd w own lw) (hlw : lw.length ≤ 1000) (j : Nat) (hj : j < li.length) (hf : firstOf (isIn f n) li = j) (B : Bd) (hB : B = li[j].b) (P : Nat) (hP : findAt B.s B.i B.g lw = P) (T : Bool) (hT : findIs B.s B.i B.g lw = T) :
    Calls Try.prog 15 #[stV ep t own dead outs ins gh nx, recV 7 n f b] w fun e w' => Keeps No w w' ∧ ((T = true ∧ e = .returned (.tuple #[stV 0 0 (.slice none 0 0) (.slice none 0 0) (.slice none 0 0) (.slice none 0 0) (.slice none 0 0) 0, .int .i64 14])) ∨ (∃ ow vo vi, T = false ∧ e = .returned (.tuple #[stV ep t ow dead vo vi gh nx, .int .i64 0]) ∧ RdOf cBd w' ow (lw.take P ++ B :: lw.drop P) ∧ RdOf cOu w' vo lo ∧ RdOf cIn w' vi (li.eraseIdx j) ∧ Fresh w ow ∧ Fresh w vo ∧ Fresh w vi)) := by
  obtain ⟨va, vc, rfl⟩ := hv.slice
  obtain ⟨ia, ic, rfl⟩ := hi.slice
  have Hlo := Lib.hid hlo; clear hlo
  have Hli := Lib.hid hli; clear hli
  have Hf := Lib.hid hf; clear hf
  have Hlw := Lib.hid hlw; clear hlw
  have HP := Lib.hid hP
  have HT := Lib.hid hT
  have HPl : Hid (P ≤ lw.length) := by rw [← hP]; exact findAt_le _ _ _ _
  clear hP hT
  go_enter Try.func15, Try.ntmps15
  go_wp2_with fail
  refine wp_world ?_
  intro W hW
  have hk : Keeps No w W := by rw [hW]; exact (((Keeps.refl _).alloc _).alloc _).alloc _
  have hsz : W.heap.size = w.heap.size + 3 := by rw [hW]; simp
  have F : ∀ w', Keeps No W w' → ((w'.cell? ⟨w.heap.size, 4, none⟩ = some (.slice va lo.length vc) ∧ w'.cell? ⟨w.heap.size, 5, none⟩ = some (.slice ia li.length ic)) ∧ cellsAt w' w.heap.size 0 8 = some [.int .i64 ep, .int .i64 t, own, dead, .slice va lo.length vc, .slice ia li.length ic, gh, .int .i64 nx] ∧ Open w' (w.heap.size + 1 + 1) ∧ (rowD w' (w.heap.size + 1 + 1)).size = 8 ∧ Open w' w.heap.size ∧ w'.cell? ⟨w.heap.size + 1, 0, none⟩ = some (.int .i64 7) ∧ w'.cell? ⟨w.heap.size + 1, 1, none⟩ = some (.int .i64 n) ∧ w'.cell? ⟨w.heap.size + 1, 2, none⟩ = some (.int .i64 f) ∧ cellsAt w' (w.heap.size + 1) 4 11 = some (bdC b)) := by
    have q : ((W.cell? ⟨w.heap.size, 4, none⟩ = some (.slice va lo.length vc) ∧ W.cell? ⟨w.heap.size, 5, none⟩ = some (.slice ia li.length ic)) ∧ cellsAt W w.heap.size 0 8 = some [.int .i64 ep, .int .i64 t, own, dead, .slice va lo.length vc, .slice ia li.length ic, gh, .int .i64 nx] ∧ Open W (w.heap.size + 1 + 1) ∧ (rowD W (w.heap.size + 1 + 1)).size = 8 ∧ Open W w.heap.size ∧ W.cell? ⟨w.heap.size + 1, 0, none⟩ = some (.int .i64 7) ∧ W.cell? ⟨w.heap.size + 1, 1, none⟩ = some (.int .i64 n) ∧ W.cell? ⟨w.heap.size + 1, 2, none⟩ = some (.int .i64 f) ∧ cellsAt W (w.heap.size + 1) 4 11 = some (bdC b)) := by
      rw [hW]
      refine ⟨⟨?_, ?_⟩, ?_, ?_, ?_, ?_, ?_, ?_, ?_, ?_⟩ <;> simp [go_sem]
    intro w' hkk
    obtain ⟨⟨q1, q2⟩, q3, q4, q5, q6, q7, q8, q9, q10⟩ := q
    exact ⟨⟨hkk.cell q1 (fun h => h), hkk.cell q2 (fun h => h)⟩, hkk.cellsAt q3, hkk.opened q4, hkk.rowSize q4 q5, hkk.opened q6, hkk.cell q7 (fun h => h), hkk.cell q8 (fun h => h), hkk.cell q9 (fun h => h), hkk.cellsAt q10⟩
  have HF := Lib.hid F
  clear F hW
  obtain ⟨⟨p1, p2⟩, _⟩ := HF.out W (Keeps.refl W)
  have Hk := Lib.hid hk
  have Hsz := Lib.hid hsz
  clear hk hsz
  go_region_held3 (fun w' => w'.cell? ⟨w.heap.size, 4, none⟩ = some (.slice va lo.length vc) ∧ w'.cell? ⟨w.heap.size, 5, none⟩ = some (.slice ia li.length ic)) (exact ⟨p1, p2⟩)
    (first
      | (go_at_call 38
         refine (cloneOut W.drew _ lo (hv.kept Hk.out.drew (fun _ _ h => h)) Hlo.out).mono ?_
         rintro e w1 ⟨v1, rfl, ho, hk1⟩
         have Ho1 : Hid (OwnOf cOu 78 w1 W.heap.size v1 lo) := OwnOf.base ho (by simp)
         have Hk1 : Hid (Keeps No W w1) := ((Keeps.refl W).drew).trans hk1 (fun _ _ h => h)
         clear hk1 ho p1 p2
         obtain ⟨⟨p1, p2⟩, _⟩ := HF.out w1 Hk1.out)
      | (go_at_call 39
         refine (cloneIn W.drew _ li (hi.kept Hk.out.drew (fun _ _ h => h)) Hli.out).mono ?_
         rintro e w1 ⟨v2, rfl, ho, hk1⟩
         have Ho2 : Hid (OwnOf cIn 89 w1 W.heap.size v2 li) := OwnOf.base ho (by simp)
         have Hk1 : Hid (Keeps No W w1) := ((Keeps.refl W).drew).trans hk1 (fun _ _ h => h)
         clear hk1 ho p1 p2
         obtain ⟨⟨p1, p2⟩, _⟩ := HF.out w1 Hk1.out)
      | (go_at_call 38
         refine (cloneOut w1 _ lo (hv.kept (Hk.out.trans Hk1.out (fun _ _ h => h)) (fun _ _ h => h)) Hlo.out).mono ?_
         rintro e w2 ⟨v1, rfl, ho, hk1⟩
         have Hk2 : Hid (Keeps No W w2) := Hk1.out.trans hk1 (fun _ _ h => h)
         have HD := Lib.hid (two_rows (OwnOf.base ho (Hk1.out.size)) (hk1.owns Ho2.out (fun _ _ h => h)) (fun k h1 h2 => by have := (ho.lt k h1).1; have := (Ho2.out.lt k h2).2; omega))
         clear hk1 ho p1 p2 Ho2
         obtain ⟨⟨p1, p2⟩, _⟩ := HF.out w2 Hk2.out)
      | (go_at_call 39
         refine (cloneIn w1 _ li (hi.kept (Hk.out.trans Hk1.out (fun _ _ h => h)) (fun _ _ h => h)) Hli.out).mono ?_
         rintro e w2 ⟨v2, rfl, ho, hk1⟩
         have Hk2 : Hid (Keeps No W w2) := Hk1.out.trans hk1 (fun _ _ h => h)
         have HD := Lib.hid (two_rows (hk1.owns Ho1.out (fun _ _ h => h)) (OwnOf.base ho (Hk1.out.size)) (fun k h1 h2 => by have := (ho.lt k h2).1; have := (Ho1.out.lt k h1).2; omega))
         clear hk1 ho p1 p2 Ho1
         obtain ⟨⟨p1, p2⟩, _⟩ := HF.out w2 Hk2.out))
  all_goals
    clear p1 p2 Hk1
    obtain ⟨⟨p1, p2⟩, p3, p4, p5, p6, p7, p8, p9, p10⟩ := HF.out w2 Hk2.out
    obtain ⟨oa, oc, hv1⟩ := ownsRow_slice HD.out.1
    subst hv1
    obtain ⟨g, cap, hv2, hcl, hcm⟩ := own_at HD.out.2.1 (by omega)
    subst hv2
    have Hcl := Lib.hid hcl
    have Hcm := Lib.hid hcm
    clear hcl hcm
    go_wp2_with fail
    refine (in_any (hi.kept (Hk.out.trans Hk2.out (fun _ _ h => h)) (fun _ _ h => h)) _ _).mono ?_
    rintro e w4 ⟨rfl, hk4⟩
    rw [Hf.out]
    have Hk4 : Hid (Keeps No W w4) := Hk2.out.trans hk4 (fun _ _ h => h)
    have HD4 := Lib.hid (HD.out.keep hk4)
    clear hk4 p1 p2 p3 p4 p5 p6 p7 p8 p9 p10 HD Hk2
    obtain ⟨⟨p1, p2⟩, p3, p4, p5, p6, p7, p8, p9, p10⟩ := HF.out w4 Hk4.out
    have c13 : cellsAt w4 g (0 + j * 13) 13 = some (inC li[j]) := RdOf.at cIn HD4.out.2.1.reads j hj
    have q11 : cellsAt w4 g (j * 13 + 2) 11 = some (bdC B) := by
      have h := cellsAt_part c13 2 (bdC B) (by rw [hB]; rfl) (by simp [bdC])
      rw [Nat.zero_add] at h
      exact h
    have q3 : cellsAt w4 g (j * 13 + 2) 3 = some [.int .i64 B.s, .int .i64 B.i, .int .i64 B.g] := by
      have h := cellsAt_part q11 0 [.int .i64 B.s, .int .i64 B.i, .int .i64 B.g] rfl (by simp)
      exact h
    have p11 : w4.cell? ⟨w.heap.size, 2, none⟩ = some own := cellsAt_cell p3 2 _ rfl
    have hd0 : decide ((0 : Int) ≤ (j : Int)) = true := decide_eq_true (by omega)
    have hd1 : (0 : Int) ≤ (j : Int) := by omega
    have hd2 : (j : Int) < (li.length : Int) := by omega
    have hj1 : IntKind.i64.wrap ((j : Int) + 1) = (j : Int) + 1 := by have := Hli.out; rw [IntKind.wrap_i64]; omega
    have Hg : Hid (W.heap.size ≤ g ∧ g < w4.heap.size) := HD4.out.2.1.lt g rfl
    have Hq11 := Lib.hid q11
    have Hj := Lib.hid hj
    clear c13 hB p1 p2 p3 p4 p5 p6 p7 p8 p9 p10 q11 hj
    go_wp2_with fail
    go_region_held3 (fun w' => w'.cell? ⟨w.heap.size, 2, none⟩ = some own ∧ cellsAt w' g (j * 13 + 2) 3 = some [.int .i64 B.s, .int .i64 B.i, .int .i64 B.g]) (exact ⟨p11, q3⟩)
      ((go_at_call 43
        refine (find_any w4.drew own lw (hw.kept ((Hk.out.trans Hk4.out (fun _ _ h => h)).drew) (fun _ _ h => h)) Hlw.out B.s B.i B.g).mono ?_
        rintro e w5 ⟨rfl, hk5⟩
        rw [HP.out, HT.out]
        have Hk5 : Hid (Keeps No w4 w5) := ((Keeps.refl w4).drew).trans hk5 (fun _ _ h => h)
        have p11' := Hk5.out.cell p11 (fun h => h)
        have q3' := Hk5.out.cellsAt q3
        clear hk5 p11 q3
        have p11 := p11'
        have q3 := q3'
        clear p11' q3'))
    all_goals
      have q11 := Hk5.out.cellsAt Hq11.out
      have HkW5 : Hid (Keeps No W w5) := Hk4.out.trans Hk5.out (fun _ _ h => h)
      have HD5 := Lib.hid (HD4.out.keep Hk5.out)
      have l5a : w.heap.size < w5.heap.size := by have := HkW5.out.size; have := Hsz.out; omega
      have l5b : g < w5.heap.size := by have := Hg.out.2; have := Hk5.out.size; omega
      have Hbase : Hid (W.heap.size ≤ w5.heap.size) := HkW5.out.size
      clear q3 Hk5 Hq11 HD4 Hk4
      go_wp2_with fail
      go_region_with (first
        | (go_at_call 45
           refine (cloneBd w5.drew own lw (hw.kept ((Hk.out.trans HkW5.out (fun _ _ h => h)).drew) (fun _ _ h => h)) Hlw.out).mono ?_
           rintro e w6 ⟨v6, rfl, ho6, hk6⟩
           have HIns := Lib.hid (ins_a w5 w6 W.heap.size v6 lw ho6 (((Keeps.refl (S := No) w5).drew).trans hk6 (fun _ _ h => h)) Hlw.out P HPl.out B Hbase.out)
           have q11' := (((Keeps.refl (S := No) w5).drew).trans hk6 (fun _ _ h => h)).cellsAt q11
           clear ho6 hk6 q11 p11
           have q11 := q11'
           clear q11')
        | (go_at_call 45
           refine (cloneBd (w5.drew.alloc (.cells (bdC B).toArray 37)) own lw (hw.kept (((Hk.out.trans HkW5.out (fun _ _ h => h)).drew).alloc _) (fun _ _ h => h)) Hlw.out).mono ?_
           rintro e w6 ⟨v6, rfl, ho6, hk6⟩
           have HIns := Lib.hid (ins_b w5 w6 W.heap.size v6 lw B (OwnOf.base ho6 (by simp)) (((Keeps.refl (S := No) (w5.alloc (.cells (bdC B).toArray 37))).drew).trans hk6 (fun _ _ h => h)) Hlw.out P HPl.out Hbase.out)
           clear ho6 hk6 q11 p11)
        | (go_at_call 44
           refine HIns.out.mono ?_
           rintro e w7 ⟨a7, n7, c7, rfl, how7, hk7, hb7⟩
           have Hk7 : Hid (Keeps No W w7) := HkW5.out.trans hk7 (fun _ _ h => h)
           have HD7 := Lib.hid (HD5.out.keep hk7)
           have How7 := Lib.hid how7
           have Hb7 := Lib.hid hb7
           obtain ⟨⟨p1, p2⟩, p3, p4, p5, p6, p7, p8, p9, p10⟩ := HF.out w7 Hk7.out
           have p11 : w7.cell? ⟨w.heap.size, 2, none⟩ = some own := cellsAt_cell p3 2 _ rfl
           have fz2 := p6.frozen 2
           have Hp3 := Lib.hid p3
           have Hp4 := Lib.hid p4
           have Hp5 := Lib.hid p5
           have Hp6 := Lib.hid p6
           clear hk7 how7 hb7 p1 p2 p3 p4 p5 p6 p7 p8 p9 p10))
      all_goals
        have hgW := Hg.out.1
        have hs := Hsz.out
        have k78 : Keeps (fun i => i = w.heap.size) w7 (w7.setCell ⟨w.heap.size, 2, none⟩ (.slice a7 n7 c7)) := (Keeps.refl (S := fun i => i = w.heap.size) w7).setCell (p := ⟨w.heap.size, 2, none⟩) (fun _ => rfl) (.slice a7 n7 c7)
        have ho8 : OwnOf cIn 89 (w7.setCell ⟨w.heap.size, 2, none⟩ (.slice a7 n7 c7)) W.heap.size (.slice (some ⟨g, 0, none⟩) li.length cap) li := k78.owns HD7.out.2.1 (fun k hk hS => by have := (HD7.out.2.1.lt k hk).1; have hS' : k = w.heap.size := hS; omega)
        have c8 : cellsAt (w7.setCell ⟨w.heap.size, 2, none⟩ (.slice a7 n7 c7)) w.heap.size 0 8 = some [.int .i64 ep, .int .i64 t, .slice a7 n7 c7, dead, .slice va lo.length vc, .slice ia li.length ic, gh, .int .i64 nx] := by rw [cellsAt_setCell_at, Hp3.out]; rfl
        have k8 : Hid (Keeps No w (w7.setCell ⟨w.heap.size, 2, none⟩ (.slice a7 n7 c7))) := (Hk.out.trans Hk7.out (fun _ _ h => h)).setCell (p := ⟨w.heap.size, 2, none⟩) (fun h => absurd h (Nat.lt_irrefl _)) (.slice a7 n7 c7)
        have op6 : Open (w7.setCell ⟨w.heap.size, 2, none⟩ (.slice a7 n7 c7)) w.heap.size := (open_setCell _ _ _ _ _).2 Hp6.out
        have K78 := Lib.hid k78
        have Ho8 := Lib.hid ho8
        have C8 := Lib.hid c8
        have Op6 := Lib.hid op6
        clear k78 ho8 c8 op6 hgW hs
        try clear q11
        try clear p11
        try clear fz2
        try clear HIns
        go_wp2_with fail
        refine (deleteIn (w7.setCell ⟨w.heap.size, 2, none⟩ (.slice a7 n7 c7)) W.heap.size g cap j _ rfl li Ho8.out Hj.out Hcl.out Hcm.out).mono ?_
        rintro e w9 ⟨rfl, ho9, hk9⟩
        have hgW := Hg.out.1
        have hs := Hsz.out
        have K9 : Hid (Keeps (fun i => i = w.heap.size ∨ i = g) w7 w9) := (K78.out.mono (fun i _ h => .inl h)).trans hk9 (fun i _ h => .inr h)
        have HB9 : Hid (OwnOf cBd 37 w9 W.heap.size (.slice a7 n7 c7) (lw.take P ++ B :: lw.drop P)) := K9.out.owns How7.out (fun k hk hS => by have := Hb7.out k hk; have := (HD5.out.2.1.lt g rfl).2; have := Hbase.out; rcases hS with h | h <;> omega)
        have HO9 : Hid (OwnOf cOu 78 w9 W.heap.size (.slice oa lo.length oc) lo) := K9.out.owns HD7.out.1 (fun k hk hS => by
          rcases hS with h | h
          · have := (HD7.out.1.lt k hk).1
            omega
          · exact HD7.out.2.2 k hk (by rw [h]; rfl))
        have HI9 := Lib.hid ho9
        have kw9 : Hid (Keeps No w w9) := k8.out.trans hk9 (fun i hi hS => by have : i = g := hS; omega)
        have p3 := cells_keep hk9 (show ¬ w.heap.size = g by omega) C8.out
        have p4 : Open w9 (w.heap.size + 1 + 1) := open_keep K9.out (show ¬ (w.heap.size + 1 + 1 = w.heap.size ∨ w.heap.size + 1 + 1 = g) by omega) Hp4.out
        have p5 : (rowD w9 (w.heap.size + 1 + 1)).size = 8 := size_keep K9.out (show ¬ (w.heap.size + 1 + 1 = w.heap.size ∨ w.heap.size + 1 + 1 = g) by omega) Hp4.out Hp5.out
        have p6 : Open w9 w.heap.size := open_keep hk9 (show ¬ w.heap.size = g by omega) Op6.out
        have p1 : w9.cell? ⟨w.heap.size, 4, none⟩ = some (.slice va lo.length vc) := cellsAt_cell p3 4 _ rfl
        have p2 : w9.cell? ⟨w.heap.size, 5, none⟩ = some (.slice ia li.length ic) := cellsAt_cell p3 5 _ rfl
        have fz4 := p6.frozen 4
        have fz5 := p6.frozen 5
        have n6 : ¬ w.heap.size + 1 + 1 = w.heap.size := by omega
        clear hk9 ho9 hgW hs K78 Ho8 C8 Op6 k8 K9 How7 HD7 HD5
        cases T
        · go_wp2
          refine bodyPost_ret (v := .tuple #[stV ep t (.slice a7 n7 c7) dead (.slice oa lo.length oc) (.slice (some ⟨g, 0, none⟩) (li.length - 1) cap) gh nx, .int .i64 0]) ?_ rfl ?_
          · simp [results, Try.results15, go_sem, p4]
          · exact ⟨endKeeps kw9.out, _, _, _, rfl, endRd HB9.out Hsz.out, endRd HO9.out Hsz.out, endRd HI9.out Hsz.out, fresh_of HB9.out Hsz.out, fresh_of HO9.out Hsz.out, fresh_of HI9.out Hsz.out⟩
        · go_wp2
          refine bodyPost_ret (v := .tuple #[stV 0 0 (.slice none 0 0) (.slice none 0 0) (.slice none 0 0) (.slice none 0 0) (.slice none 0 0) 0, .int .i64 14]) ?_ rfl ?_
          · simp [results, Try.results15, go_sem, p4]
          · exact ⟨kw9.out.row (by omega) _, rfl⟩

end
end Go.Proofs.Ytggaeihinheojaa
