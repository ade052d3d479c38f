/-
  handoff.Fold, where an Out is sent, where one is done, and where one is staged. No conditions of its own.
-/
import Derived.Test.YtggaeihinheojaaHoZ
import Derived.Deep.RegionHeld3
namespace Go.Proofs.Ytggaeihinheojaa
open Go.RowKit

/-- the world behind what every Fold does at its end: the state's two slices, and the result's box -/
abbrev endW (w : World) (h : Nat) (u v : Value) (D : Array Value) : World := ((w.setCell ⟨h, 4, none⟩ u).setCell ⟨h, 5, none⟩ v).setRow (h + 1 + 1) D
theorem endKeep {S : Nat → Prop} {a w : World} (k : Keeps S a w) {h : Nat} {u v : Value} {D : Array Value} (h0 : h < a.heap.size → S h) (h2 : h + 1 + 1 < a.heap.size → S (h + 1 + 1)) : Keeps S a (endW w h u v D) :=
  ((k.setCell (p := ⟨h, 4, none⟩) h0 u).setCell (p := ⟨h, 5, none⟩) h0 v).setRow h2 D
theorem endRd {α : Type} {C : Codec α} {w W : World} {h : Nat} {x : Value} {l : List α} {u v : Value} {D : Array Value} {e : TypeId} (hr : OwnOf C e w W.heap.size x l) (hs : W.heap.size = h + 3) : RdOf C (endW w h u v D) x l :=
  hr.reads.kept (endKeep (S := fun i => i < W.heap.size) (Keeps.refl w) (fun _ => by omega) (fun _ => by omega)) (fun k hk hS => by have := (hr.lt k hk).1; have : k < W.heap.size := hS; omega)
theorem endKeeps {w0 w : World} (k : Keeps No w0 w) {u v : Value} {D : Array Value} : Keeps No w0 (endW w w0.heap.size u v D) :=
  endKeep k (fun h => by omega) (fun h => by omega)

theorem cmKeeps {w0 W w : World} (k : Keeps No w0 w) {g j : Nat} {x u v : Value} {D : Array Value} (hg : W.heap.size ≤ g) (hs : W.heap.size = w0.heap.size + 3) : Keeps No w0 (endW (w.setCell ⟨g, j * 14 + 2, none⟩ x) w0.heap.size u v D) :=
  endKeeps (k.setCell (p := ⟨g, j * 14 + 2, none⟩) (fun h => by have h' : g < w0.heap.size := h; omega) x)
theorem cmIns {w0 W w : World} {g n cap j : Nat} {lo : List Ou} {li : List Inn} {v2 : Value} {x u v : Value} {D : Array Value} (hd : TwoRows w W.heap.size (.slice (some ⟨g, 0, none⟩) n cap) lo v2 li) (hs : W.heap.size = w0.heap.size + 3) : RdOf cIn (endW (w.setCell ⟨g, j * 14 + 2, none⟩ x) w0.heap.size u v D) v2 li := by
  have k : Keeps (Own g) w (w.setCell ⟨g, j * 14 + 2, none⟩ x) := (Keeps.refl (S := Own g) w).setCell (p := ⟨g, j * 14 + 2, none⟩) (fun _ => (rfl : g = g)) x
  exact endRd (k.owns hd.2.1 (fun i hi h => hd.2.2 i (by have : i = g := h; rw [this]; rfl) hi)) hs
theorem cmOuts {w0 W w : World} {g cap j : Nat} {lo : List Ou} {li : List Inn} {v2 : Value} {u v : Value} {D : Array Value} (hd : TwoRows w W.heap.size (.slice (some ⟨g, 0, none⟩) lo.length cap) lo v2 li) (hj : j < lo.length) (hs : W.heap.size = w0.heap.size + 3) :
    RdOf cOu (endW (w.setCell ⟨g, j * 14 + 2, none⟩ (.int .i64 3)) w0.heap.size u v D) (.slice (some ⟨g, 0, none⟩) lo.length cap) (lo.set j ⟨lo[j].n, lo[j].to, 3, lo[j].b⟩) := by
  have h1 := (hd.1.stored (j * 14 + 2) (.int .i64 3)).1
  have e2 : (rowsOf cOu lo).set (j * 14 + 2) (.int .i64 3) = rowsOf cOu (lo.set j ⟨lo[j].n, lo[j].to, 3, lo[j].b⟩) := rowsOf_set1 cOu lo j hj 2 (by decide) _ _ rfl
  rw [e2] at h1
  have h3 : OwnOf cOu 78 (w.setCell ⟨g, j * 14 + 2, none⟩ (.int .i64 3)) W.heap.size (.slice (some ⟨g, 0, none⟩) lo.length cap) (lo.set j ⟨lo[j].n, lo[j].to, 3, lo[j].b⟩) := by
    unfold OwnOf
    rw [List.length_set]
    exact h1
  have h4 := endRd (u := u) (v := v) (D := D) h3 hs
  exact h4

/-- where a row of the call's own lies -/
theorem own_at {α : Type} {C : Codec α} {e : TypeId} {w : World} {base : Nat} {v : Value} {l : List α} (h : OwnOf C e w base v l) (hl : 0 < l.length) : ∃ g cap, v = .slice (some ⟨g, 0, none⟩) l.length cap ∧ l.length ≤ cap ∧ cap ≤ maxLen := by
  rcases h.2 with ⟨_, h0⟩ | ⟨g, cap, cur, hv, _, _, h1, h2, _⟩
  · omega
  · exact ⟨g, cap, hv, h1, h2⟩
theorem ownApp {α : Type} {C : Codec α} {e : TypeId} {w : World} {base : Nat} {v : Value} {l : List α} {a : α} (h : w.ownsRow base e C.size v (l.length + 1) (rowsOf C l ++ C.cells a)) : OwnOf C e w base v (l ++ [a]) := by
  unfold OwnOf
  rw [rowsOf_append, rowsOf_one, List.length_append]
  exact h
/-- a part of a struct's cells -/
theorem cellsAt_part {w : World} {b o n : Nat} {l : List Value} (h : cellsAt w b o n = some l) (a : Nat) (m : List Value) (hm : m = (l.drop a).take m.length) (h0 : 0 < m.length) : cellsAt w b (o + a) m.length = some m := by
  refine cellsAt_of (fun j v hv => ?_) h0
  have hj := (List.getElem?_eq_some_iff.1 hv).1
  rw [Nat.add_assoc]
  refine cellsAt_cell h (a + j) v ?_
  rw [hm, List.getElem?_take_of_lt hj, List.getElem?_drop] at hv
  exact hv

section
variable {w : World} {ep t nx : Int} {own dead outs ins gh : Value}

set_option maxRecDepth 100000 in
set_option maxHeartbeats 4000000 in
theorem fold_commit {lo : List Ou} {li : List Inn} (hv : RdOf cOu w outs lo) (hi : RdOf cIn w ins li) (hlo : lo.length ≤ 1000) (hli : li.length ≤ 1000) (h1 : own.oneCell' = true) (h2 : dead.oneCell' = true) (h4 : gh.oneCell' = true) (n f : Int) (b : Bd)
    (j : Nat) (hj : j < lo.length) (hf : firstOf (isOut n 2) lo = j) :
    Calls Try.prog 15 #[stV ep t own dead outs ins gh nx, recV 4 n f b] w fun e w' => ∃ vo vi, e = .returned (.tuple #[stV ep t own dead vo vi gh nx, .int .i64 0]) ∧ RdOf cOu w' vo (lo.set j ⟨lo[j].n, lo[j].to, 3, lo[j].b⟩) ∧ RdOf cIn w' vi li ∧ Keeps No w w' ∧ Fresh w vo ∧ Fresh w vi := by
  obtain ⟨va, vc, rfl⟩ := hv.slice
  obtain ⟨ia, ic, rfl⟩ := hi.slice
  have Hlo := Lib.hid hlo; clear hlo
  have Hli := Lib.hid hli; clear hli
  have Hf := Lib.hid hf; clear hf
  have Hj := Lib.hid hj
  go_enter Try.func15, Try.ntmps15
  go_wp2_with fail
  refine wp_world ?_
  intro W hW
  have hk : Keeps No w W := by rw [hW]; exact (((Keeps.refl _).alloc _).alloc _).alloc _
  have hsz : W.heap.size = w.heap.size + 3 := by rw [hW]; simp
  have F : ∀ w', Keeps No W w' → ((w'.cell? ⟨w.heap.size, 4, none⟩ = some (.slice va lo.length vc) ∧ w'.cell? ⟨w.heap.size, 5, none⟩ = some (.slice ia li.length ic)) ∧ cellsAt w' w.heap.size 0 8 = some [.int .i64 ep, .int .i64 t, own, dead, .slice va lo.length vc, .slice ia li.length ic, gh, .int .i64 nx] ∧ Open w' (w.heap.size + 1 + 1) ∧ (rowD w' (w.heap.size + 1 + 1)).size = 8 ∧ Open w' w.heap.size ∧ w'.cell? ⟨w.heap.size + 1, 0, none⟩ = some (.int .i64 4) ∧ w'.cell? ⟨w.heap.size + 1, 1, none⟩ = some (.int .i64 n) ∧ w'.cell? ⟨w.heap.size + 1, 2, none⟩ = some (.int .i64 f) ∧ cellsAt w' (w.heap.size + 1) 4 11 = some (bdC b)) := by
    have q : ((W.cell? ⟨w.heap.size, 4, none⟩ = some (.slice va lo.length vc) ∧ W.cell? ⟨w.heap.size, 5, none⟩ = some (.slice ia li.length ic)) ∧ cellsAt W w.heap.size 0 8 = some [.int .i64 ep, .int .i64 t, own, dead, .slice va lo.length vc, .slice ia li.length ic, gh, .int .i64 nx] ∧ Open W (w.heap.size + 1 + 1) ∧ (rowD W (w.heap.size + 1 + 1)).size = 8 ∧ Open W w.heap.size ∧ W.cell? ⟨w.heap.size + 1, 0, none⟩ = some (.int .i64 4) ∧ W.cell? ⟨w.heap.size + 1, 1, none⟩ = some (.int .i64 n) ∧ W.cell? ⟨w.heap.size + 1, 2, none⟩ = some (.int .i64 f) ∧ cellsAt W (w.heap.size + 1) 4 11 = some (bdC b)) := by
      rw [hW]
      refine ⟨⟨?_, ?_⟩, ?_, ?_, ?_, ?_, ?_, ?_, ?_, ?_⟩ <;> simp [go_sem]
    intro w' hkk
    obtain ⟨⟨q1, q2⟩, q3, q4, q5, q6, q7, q8, q9, q10⟩ := q
    exact ⟨⟨hkk.cell q1 (fun h => h), hkk.cell q2 (fun h => h)⟩, hkk.cellsAt q3, hkk.opened q4, hkk.rowSize q4 q5, hkk.opened q6, hkk.cell q7 (fun h => h), hkk.cell q8 (fun h => h), hkk.cell q9 (fun h => h), hkk.cellsAt q10⟩
  have HF := Lib.hid F
  clear F hW
  obtain ⟨⟨p1, p2⟩, _⟩ := HF.out W (Keeps.refl W)
  have Hk := Lib.hid hk
  have Hsz := Lib.hid hsz
  clear hk hsz
  go_region_held3 (fun w' => w'.cell? ⟨w.heap.size, 4, none⟩ = some (.slice va lo.length vc) ∧ w'.cell? ⟨w.heap.size, 5, none⟩ = some (.slice ia li.length ic)) (exact ⟨p1, p2⟩)
    (first
      | (go_at_call 38
         refine (cloneOut W.drew _ lo (hv.kept Hk.out.drew (fun _ _ h => h)) Hlo.out).mono ?_
         rintro e w1 ⟨v1, rfl, ho, hk1⟩
         have Ho1 : Hid (OwnOf cOu 78 w1 W.heap.size v1 lo) := OwnOf.base ho (by simp)
         have Hk1 : Hid (Keeps No W w1) := ((Keeps.refl W).drew).trans hk1 (fun _ _ h => h)
         clear hk1 ho p1 p2
         obtain ⟨⟨p1, p2⟩, _⟩ := HF.out w1 Hk1.out)
      | (go_at_call 39
         refine (cloneIn W.drew _ li (hi.kept Hk.out.drew (fun _ _ h => h)) Hli.out).mono ?_
         rintro e w1 ⟨v2, rfl, ho, hk1⟩
         have Ho2 : Hid (OwnOf cIn 89 w1 W.heap.size v2 li) := OwnOf.base ho (by simp)
         have Hk1 : Hid (Keeps No W w1) := ((Keeps.refl W).drew).trans hk1 (fun _ _ h => h)
         clear hk1 ho p1 p2
         obtain ⟨⟨p1, p2⟩, _⟩ := HF.out w1 Hk1.out)
      | (go_at_call 38
         refine (cloneOut w1 _ lo (hv.kept (Hk.out.trans Hk1.out (fun _ _ h => h)) (fun _ _ h => h)) Hlo.out).mono ?_
         rintro e w2 ⟨v1, rfl, ho, hk1⟩
         have Hk2 : Hid (Keeps No W w2) := Hk1.out.trans hk1 (fun _ _ h => h)
         have HD := Lib.hid (two_rows (OwnOf.base ho (Hk1.out.size)) (hk1.owns Ho2.out (fun _ _ h => h)) (fun k h1 h2 => by have := (ho.lt k h1).1; have := (Ho2.out.lt k h2).2; omega))
         clear hk1 ho p1 p2 Ho2
         obtain ⟨⟨p1, p2⟩, _⟩ := HF.out w2 Hk2.out)
      | (go_at_call 39
         refine (cloneIn w1 _ li (hi.kept (Hk.out.trans Hk1.out (fun _ _ h => h)) (fun _ _ h => h)) Hli.out).mono ?_
         rintro e w2 ⟨v2, rfl, ho, hk1⟩
         have Hk2 : Hid (Keeps No W w2) := Hk1.out.trans hk1 (fun _ _ h => h)
         have HD := Lib.hid (two_rows (hk1.owns Ho1.out (fun _ _ h => h)) (OwnOf.base ho (Hk1.out.size)) (fun k h1 h2 => by have := (ho.lt k h2).1; have := (Ho1.out.lt k h1).2; omega))
         clear hk1 ho p1 p2 Ho1
         obtain ⟨⟨p1, p2⟩, _⟩ := HF.out w2 Hk2.out))
  all_goals
    clear p1 p2 Hk1
    obtain ⟨⟨p1, p2⟩, p3, p4, p5, p6, p7, p8, p9, p10⟩ := HF.out w2 Hk2.out
    obtain ⟨g, cap, hv1⟩ := own_slice HD.out.1 (by omega)
    subst hv1
    obtain ⟨ja, jc, hv2⟩ := ownsRow_slice HD.out.2.1
    subst hv2
    go_wp2_with fail
    refine (out_any (hv.kept (Hk.out.trans Hk2.out (fun _ _ h => h)) (fun _ _ h => h)) _ _).mono ?_
    rintro e w4 ⟨rfl, hk4⟩
    rw [Hf.out]
    have Hk4 : Hid (Keeps No W w4) := Hk2.out.trans hk4 (fun _ _ h => h)
    have HD4 := Lib.hid (HD.out.keep hk4)
    clear hk4 p1 p2 p3 p4 p5 p6 p7 p8 p9 p10 HD Hk2
    obtain ⟨⟨p1, p2⟩, p3, p4, p5, p6, p7, p8, p9, p10⟩ := HF.out w4 Hk4.out
    have c2 := (HD4.out.1.cellAt (j * 14 + 2) (show j * 14 + 2 < lo.length * 14 by omega)).trans (rowsOf_at cOu lo j hj 2 (by decide))
    have e2 : w4.cell? ⟨g, j * 14 + 2, none⟩ = some (.int .i64 lo[j].st) := c2
    have f2 := HD4.out.1.frozenAt (j * 14 + 2)
    clear c2
    have hd0 : decide ((0 : Int) ≤ (j : Int)) = true := decide_eq_true (by omega)
    have hd1 : (0 : Int) ≤ (j : Int) := by omega
    have hd2 : (j : Int) < (lo.length : Int) := by omega
    have fz4 := p6.frozen 4
    have fz5 := p6.frozen 5
    have hgb := (HD4.out.1.lt g rfl).1
    have hs := Hsz.out
    have n0 : ¬ g = w.heap.size := by omega
    have n1 : ¬ g = w.heap.size + 1 := by omega
    have n2 : ¬ g = w.heap.size + 1 + 1 := by omega
    have n3 : ¬ w.heap.size = g := by omega
    have n4 : ¬ w.heap.size + 1 = g := by omega
    have n5 : ¬ w.heap.size + 1 + 1 = g := by omega
    have n6 : ¬ w.heap.size + 1 + 1 = w.heap.size := by omega
    have Hgb := Lib.hid hgb
    clear hgb hs
    go_wp2
    refine bodyPost_ret (v := .tuple #[stV ep t own dead (.slice (some ⟨g, 0, none⟩) lo.length cap) (.slice ja li.length jc) gh nx, .int .i64 0]) ?_ rfl ?_
    · simp [results, Try.results15, go_sem, p4]
    · exact ⟨_, _, rfl, cmOuts HD4.out hj Hsz.out, cmIns HD4.out Hsz.out, cmKeeps (Hk.out.trans Hk4.out (fun _ _ h => h)) Hgb.out Hsz.out, fresh_of HD4.out.1 Hsz.out, fresh_of HD4.out.2.1 Hsz.out⟩

end
end Go.Proofs.Ytggaeihinheojaa
