/-
  handoff.Fold, where one more is asked for. No conditions of its own.
-/
import Derived.Test.YtggaeihinheojaaHoH
import Derived.Deep.RegionHeld3
namespace Go.Proofs.Ytggaeihinheojaa
open Go.RowKit

theorem rowsOf_set1 {α : Type} (C : Codec α) (l : List α) (j : Nat) (hj : j < l.length) (i : Nat) (hi : i < C.size) (a : α) (u : Value) (h : C.cells a = (C.cells l[j]).set i u) : (rowsOf C l).set (j * C.size + i) u = rowsOf C (l.set j a) := by
  have e : rowsOf C l = rowsOf C (l.take j) ++ (C.cells l[j] ++ rowsOf C (l.drop (j + 1))) := by
    rw [← rowsOf_cons, ← List.drop_eq_getElem_cons hj, ← rowsOf_append, List.take_append_drop]
  have e2 : rowsOf C (l.set j a) = rowsOf C (l.take j) ++ (C.cells a ++ rowsOf C (l.drop (j + 1))) := by
    rw [List.set_eq_take_append_cons_drop, if_pos hj, rowsOf_append, rowsOf_cons]
  have hl : (rowsOf C (l.take j)).length = j * C.size := by rw [rowsOf_length, List.length_take, Nat.min_eq_left (by omega)]
  rw [e, e2, h, List.set_append_right _ _ (by omega), hl, Nat.add_sub_cancel_left, List.set_append_left _ _ (by rw [C.len]; exact hi)]

/-- two rows of the call's own, apart -/
def TwoRows (w : World) (base : Nat) (v1 : Value) (lo : List Ou) (v2 : Value) (li : List Inn) : Prop :=
  OwnOf cOu 78 w base v1 lo ∧ OwnOf cIn 89 w base v2 li ∧ ∀ k, v1.ownBlock = some k → v2.ownBlock = some k → False
theorem two_rows {w : World} {base : Nat} {v1 : Value} {lo : List Ou} {v2 : Value} {li : List Inn} (h1 : OwnOf cOu 78 w base v1 lo) (h2 : OwnOf cIn 89 w base v2 li) (h : ∀ k, v1.ownBlock = some k → v2.ownBlock = some k → False) : TwoRows w base v1 lo v2 li := ⟨h1, h2, h⟩
theorem TwoRows.keep {w w' : World} {base : Nat} {v1 : Value} {lo : List Ou} {v2 : Value} {li : List Inn} (h : TwoRows w base v1 lo v2 li) (k : Keeps No w w') : TwoRows w' base v1 lo v2 li :=
  ⟨k.owns h.1 (fun _ _ h => h), k.owns h.2.1 (fun _ _ h => h), h.2.2⟩
theorem own_slice {w : World} {base : Nat} {v : Value} {l : List Ou} (h : OwnOf cOu 78 w base v l) (hl : 0 < l.length) : ∃ g cap, v = .slice (some ⟨g, 0, none⟩) l.length cap := by
  rcases h.2 with ⟨_, h0⟩ | ⟨g, cap, cur, hv, _⟩
  · omega
  · exact ⟨g, cap, hv⟩

/-- the world behind the stores of an ask -/
abbrev askW (w : World) (g h j : Nat) (x y z : Value) (u v : Value) (D : Array Value) : World :=
  ((((((w.setCell ⟨g, j * 14, none⟩ x).setCell ⟨g, j * 14 + 2, none⟩ y).setCell ⟨h, 7, none⟩ z).setCell ⟨h, 4, none⟩ u).setCell ⟨h, 5, none⟩ v).setRow (h + 1 + 1) D).drew
theorem askKeep {S : Nat → Prop} {a w : World} (k : Keeps S a w) {g h j : Nat} {x y z u v : Value} {D : Array Value} (hg : g < a.heap.size → S g) (h0 : h < a.heap.size → S h) (h2 : h + 1 + 1 < a.heap.size → S (h + 1 + 1)) : Keeps S a (askW w g h j x y z u v D) :=
  ((((((k.setCell (p := ⟨g, j * 14, none⟩) hg x).setCell (p := ⟨g, j * 14 + 2, none⟩) hg y).setCell (p := ⟨h, 7, none⟩) h0 z).setCell (p := ⟨h, 4, none⟩) h0 u).setCell (p := ⟨h, 5, none⟩) h0 v).setRow h2 D).drew
theorem askKeeps {w0 W w : World} (k : Keeps No w0 w) {g j : Nat} {x y z u v : Value} {D : Array Value} (hg : W.heap.size ≤ g) (hs : W.heap.size = w0.heap.size + 3) : Keeps No w0 (askW w g w0.heap.size j x y z u v D) :=
  askKeep k (fun h => by omega) (fun h => by omega) (fun h => by omega)
theorem askIns {w0 W w : World} {g n cap j : Nat} {lo : List Ou} {li : List Inn} {v2 : Value} {x y z u v : Value} {D : Array Value} (hd : TwoRows w W.heap.size (.slice (some ⟨g, 0, none⟩) n cap) lo v2 li) (hg : W.heap.size ≤ g) (hs : W.heap.size = w0.heap.size + 3) : RdOf cIn (askW w g w0.heap.size j x y z u v D) v2 li := by
  refine hd.2.1.reads.kept (askKeep (S := fun i => i = g ∨ i < W.heap.size) (Keeps.refl w) (fun _ => .inl rfl) (fun _ => .inr (by omega)) (fun _ => .inr (by omega))) (fun k hk hS => ?_)
  rcases hS with rfl | hS
  · exact hd.2.2 _ rfl hk
  · have := (hd.2.1.lt k hk).1
    omega
theorem askOuts {w0 W w : World} {g cap j : Nat} {lo : List Ou} {li : List Inn} {v2 : Value} {N : Int} {z u v : Value} {D : Array Value} (hd : TwoRows w W.heap.size (.slice (some ⟨g, 0, none⟩) lo.length cap) lo v2 li) (hj : j < lo.length) (hg : W.heap.size ≤ g) (hs : W.heap.size = w0.heap.size + 3) :
    RdOf cOu (askW w g w0.heap.size j (.int .i64 N) (.int .i64 2) z u v D) (.slice (some ⟨g, 0, none⟩) lo.length cap) (lo.set j ⟨N, lo[j].to, 2, lo[j].b⟩) := by
  have h1 := (hd.1.stored (j * 14) (.int .i64 N)).1
  have h2 := (h1.stored (j * 14 + 2) (.int .i64 2)).1
  have e1 : (rowsOf cOu lo).set (j * 14) (.int .i64 N) = rowsOf cOu (lo.set j ⟨N, lo[j].to, lo[j].st, lo[j].b⟩) := rowsOf_set1 cOu lo j hj 0 (by decide) _ _ rfl
  have e2 : (rowsOf cOu (lo.set j ⟨N, lo[j].to, lo[j].st, lo[j].b⟩)).set (j * 14 + 2) (.int .i64 2) = rowsOf cOu (lo.set j ⟨N, lo[j].to, 2, lo[j].b⟩) := by
    have h := rowsOf_set1 cOu (lo.set j ⟨N, lo[j].to, lo[j].st, lo[j].b⟩) j (by simpa using hj) 2 (by decide) ⟨N, lo[j].to, 2, lo[j].b⟩ (.int .i64 2) (by rw [List.getElem_set_self]; rfl)
    rw [List.set_set] at h
    exact h
  rw [e1, e2] at h2
  have h3 : OwnOf cOu 78 ((w.setCell ⟨g, j * 14, none⟩ (.int .i64 N)).setCell ⟨g, j * 14 + 2, none⟩ (.int .i64 2)) W.heap.size (.slice (some ⟨g, 0, none⟩) lo.length cap) (lo.set j ⟨N, lo[j].to, 2, lo[j].b⟩) := by
    unfold OwnOf
    rw [List.length_set]
    exact h2
  have h4 := h3.reads
  have kk : Keeps (fun i => i < W.heap.size) ((w.setCell ⟨g, j * 14, none⟩ (.int .i64 N)).setCell ⟨g, j * 14 + 2, none⟩ (.int .i64 2)) (askW w g w0.heap.size j (.int .i64 N) (.int .i64 2) z u v D) :=
    (((((Keeps.refl _).setCell (p := ⟨w0.heap.size, 7, none⟩) (fun _ => by show w0.heap.size < _; omega) z).setCell (p := ⟨w0.heap.size, 4, none⟩) (fun _ => by show w0.heap.size < _; omega) u).setCell (p := ⟨w0.heap.size, 5, none⟩) (fun _ => by show w0.heap.size < _; omega) v).setRow (fun _ => by show w0.heap.size + 1 + 1 < _; omega) D).drew
  have h5 := h4.kept kk (fun k hk hS => by
    have hkg : g = k := Option.some.inj hk
    have hlt : k < W.heap.size := hS
    omega)
  rw [List.length_set] at h5
  unfold RdOf
  rw [List.length_set]
  exact h5

section
variable {w : World} {ep t nx : Int} {own dead outs ins gh : Value}

set_option maxRecDepth 100000 in
set_option maxHeartbeats 4000000 in
theorem fold_ask {lo : List Ou} {li : List Inn} (hv : RdOf cOu w outs lo) (hi : RdOf cIn w ins li) (hlo : lo.length ≤ 1000) (hli : li.length ≤ 1000) (h1 : own.oneCell' = true) (h2 : dead.oneCell' = true) (h4 : gh.oneCell' = true)
    (hm : mayNext lo nx = true) (hn : Hid (nx < 1099511627776 → wrap64 (nx + 1) = nx + 1)) (j : Nat) (hj : j < lo.length) (hf : firstOf isKept lo = j) :
    Calls Try.prog 15 #[stV ep t own dead outs ins gh nx, recV 3 (nx + 1) 0 Bd.zero] w fun e w' => ∃ vo vi, e = .returned (.tuple #[stV ep t own dead vo vi gh (nx + 1), .int .i64 0]) ∧ RdOf cOu w' vo (lo.set j ⟨nx + 1, lo[j].to, 2, lo[j].b⟩) ∧ RdOf cIn w' vi li ∧ Keeps No w w' ∧ Fresh w vo ∧ Fresh w vi := by
  obtain ⟨va, vc, rfl⟩ := hv.slice
  obtain ⟨ia, ic, rfl⟩ := hi.slice
  have Hlo := Lib.hid hlo; clear hlo
  have Hli := Lib.hid hli; clear hli
  have Hm := Lib.hid hm; clear hm
  have Hf := Lib.hid hf; clear hf
  have Hj := Lib.hid hj
  go_enter Try.func15, Try.ntmps15
  go_wp2_with fail
  refine wp_world ?_
  intro W hW
  have hk : Keeps No w W := by rw [hW]; exact (((Keeps.refl _).alloc _).alloc _).alloc _
  have hsz : W.heap.size = w.heap.size + 3 := by rw [hW]; simp
  have F : ∀ w', Keeps No W w' → ((w'.cell? ⟨w.heap.size, 4, none⟩ = some (.slice va lo.length vc) ∧ w'.cell? ⟨w.heap.size, 5, none⟩ = some (.slice ia li.length ic)) ∧ cellsAt w' w.heap.size 0 8 = some [.int .i64 ep, .int .i64 t, own, dead, .slice va lo.length vc, .slice ia li.length ic, gh, .int .i64 nx] ∧ Open w' (w.heap.size + 1 + 1) ∧ (rowD w' (w.heap.size + 1 + 1)).size = 8 ∧ Open w' w.heap.size ∧ w'.cell? ⟨w.heap.size + 1, 0, none⟩ = some (.int .i64 3) ∧ w'.cell? ⟨w.heap.size + 1, 1, none⟩ = some (.int .i64 (nx + 1))) := by
    have q : ((W.cell? ⟨w.heap.size, 4, none⟩ = some (.slice va lo.length vc) ∧ W.cell? ⟨w.heap.size, 5, none⟩ = some (.slice ia li.length ic)) ∧ cellsAt W w.heap.size 0 8 = some [.int .i64 ep, .int .i64 t, own, dead, .slice va lo.length vc, .slice ia li.length ic, gh, .int .i64 nx] ∧ Open W (w.heap.size + 1 + 1) ∧ (rowD W (w.heap.size + 1 + 1)).size = 8 ∧ Open W w.heap.size ∧ W.cell? ⟨w.heap.size + 1, 0, none⟩ = some (.int .i64 3) ∧ W.cell? ⟨w.heap.size + 1, 1, none⟩ = some (.int .i64 (nx + 1))) := by
      rw [hW]
      refine ⟨⟨?_, ?_⟩, ?_, ?_, ?_, ?_, ?_, ?_⟩ <;> simp [go_sem]
    intro w' hkk
    obtain ⟨⟨q1, q2⟩, q3, q4, q5, q6, q7, q8⟩ := q
    exact ⟨⟨hkk.cell q1 (fun h => h), hkk.cell q2 (fun h => h)⟩, hkk.cellsAt q3, hkk.opened q4, hkk.rowSize q4 q5, hkk.opened q6, hkk.cell q7 (fun h => h), hkk.cell q8 (fun h => h)⟩
  have HF := Lib.hid F
  clear F hW
  obtain ⟨⟨p1, p2⟩, _⟩ := HF.out W (Keeps.refl W)
  have Hk := Lib.hid hk
  have Hsz := Lib.hid hsz
  clear hk hsz
  go_region_held3 (fun w' => w'.cell? ⟨w.heap.size, 4, none⟩ = some (.slice va lo.length vc) ∧ w'.cell? ⟨w.heap.size, 5, none⟩ = some (.slice ia li.length ic)) (exact ⟨p1, p2⟩)
    (first
      | (go_at_call 38
         refine (cloneOut W.drew _ lo (hv.kept Hk.out.drew (fun _ _ h => h)) Hlo.out).mono ?_
         rintro e w1 ⟨v1, rfl, ho, hk1⟩
         have Ho1 : Hid (OwnOf cOu 78 w1 W.heap.size v1 lo) := OwnOf.base ho (by simp)
         have Hk1 : Hid (Keeps No W w1) := ((Keeps.refl W).drew).trans hk1 (fun _ _ h => h)
         clear hk1 ho p1 p2
         obtain ⟨⟨p1, p2⟩, _⟩ := HF.out w1 Hk1.out)
      | (go_at_call 39
         refine (cloneIn W.drew _ li (hi.kept Hk.out.drew (fun _ _ h => h)) Hli.out).mono ?_
         rintro e w1 ⟨v2, rfl, ho, hk1⟩
         have Ho2 : Hid (OwnOf cIn 89 w1 W.heap.size v2 li) := OwnOf.base ho (by simp)
         have Hk1 : Hid (Keeps No W w1) := ((Keeps.refl W).drew).trans hk1 (fun _ _ h => h)
         clear hk1 ho p1 p2
         obtain ⟨⟨p1, p2⟩, _⟩ := HF.out w1 Hk1.out)
      | (go_at_call 38
         refine (cloneOut w1 _ lo (hv.kept (Hk.out.trans Hk1.out (fun _ _ h => h)) (fun _ _ h => h)) Hlo.out).mono ?_
         rintro e w2 ⟨v1, rfl, ho, hk1⟩
         have Hk2 : Hid (Keeps No W w2) := Hk1.out.trans hk1 (fun _ _ h => h)
         have HD := Lib.hid (two_rows (OwnOf.base ho (Hk1.out.size)) (hk1.owns Ho2.out (fun _ _ h => h)) (fun k h1 h2 => by have := (ho.lt k h1).1; have := (Ho2.out.lt k h2).2; omega))
         clear hk1 ho p1 p2 Ho2
         obtain ⟨⟨p1, p2⟩, _⟩ := HF.out w2 Hk2.out)
      | (go_at_call 39
         refine (cloneIn w1 _ li (hi.kept (Hk.out.trans Hk1.out (fun _ _ h => h)) (fun _ _ h => h)) Hli.out).mono ?_
         rintro e w2 ⟨v2, rfl, ho, hk1⟩
         have Hk2 : Hid (Keeps No W w2) := Hk1.out.trans hk1 (fun _ _ h => h)
         have HD := Lib.hid (two_rows (hk1.owns Ho1.out (fun _ _ h => h)) (OwnOf.base ho (Hk1.out.size)) (fun k h1 h2 => by have := (ho.lt k h2).1; have := (Ho1.out.lt k h1).2; omega))
         clear hk1 ho p1 p2 Ho1
         obtain ⟨⟨p1, p2⟩, _⟩ := HF.out w2 Hk2.out))
  all_goals
    clear p1 p2 Hk1
    obtain ⟨⟨p1, p2⟩, p3, p4, p5, p6, p7, p8⟩ := HF.out w2 Hk2.out
    obtain ⟨g, cap, hv1⟩ := own_slice HD.out.1 (by omega)
    subst hv1
    obtain ⟨ja, jc, hv2⟩ := ownsRow_slice HD.out.2.1
    subst hv2
    go_wp2_with fail
    refine (next_any (hv.kept (Hk.out.trans Hk2.out (fun _ _ h => h)) (fun _ _ h => h)) Hlo.out hn).mono ?_
    rintro e w3 ⟨rfl, hk3⟩
    rw [Hm.out, cond_true]
    have Hk3 : Hid (Keeps No W w3) := Hk2.out.trans hk3 (fun _ _ h => h)
    have HD3 := Lib.hid (HD.out.keep hk3)
    clear hk3 p1 p2 p3 p4 p5 p6 p7 p8 HD Hk2
    go_wp2_with fail
    refine (idxOut No _ _ lo (HD3.out.1.reads.kept ((Keeps.refl (S := No) _).alloc _) (fun _ _ h => h)) _ _ _ isKept (kept1_answers _ _)).mono ?_
    rintro e w4 ⟨rfl, hk4⟩
    rw [Hf.out]
    have r1 : w4.cell? ⟨w3.heap.size, 1, none⟩ = some (.int .i64 (nx + 1)) := hk4.cell (by simp [go_sem]) (fun h => h)
    have Hk4 : Hid (Keeps No W w4) := (Hk3.out.alloc _).trans hk4 (fun _ _ h => h)
    have HD4 := Lib.hid (HD3.out.keep (((Keeps.refl (S := No) w3).alloc _).trans hk4 (fun _ _ h => h)))
    clear hk4 HD3 Hk3
    obtain ⟨⟨p1, p2⟩, p3, p4, p5, p6, p7, p8⟩ := HF.out w4 Hk4.out
    have c0 := (HD4.out.1.cellAt (j * 14) (show j * 14 < lo.length * 14 by omega)).trans (rowsOf_at cOu lo j hj 0 (by decide))
    have c2 := (HD4.out.1.cellAt (j * 14 + 2) (show j * 14 + 2 < lo.length * 14 by omega)).trans (rowsOf_at cOu lo j hj 2 (by decide))
    have e0 : w4.cell? ⟨g, j * 14, none⟩ = some (.int .i64 lo[j].n) := c0
    have e2 : w4.cell? ⟨g, j * 14 + 2, none⟩ = some (.int .i64 lo[j].st) := c2
    have f0 := HD4.out.1.frozenAt (j * 14)
    have f2 := HD4.out.1.frozenAt (j * 14 + 2)
    clear c0 c2
    have hd0 : decide ((0 : Int) ≤ (j : Int)) = true := decide_eq_true (by omega)
    have hd1 : (0 : Int) ≤ (j : Int) := by omega
    have hd2 : (j : Int) < (lo.length : Int) := by omega
    have fz := p6.frozen 7
    have fz4 := p6.frozen 4
    have fz5 := p6.frozen 5
    have p9 : w4.cell? ⟨w.heap.size, 7, none⟩ = some (.int .i64 nx) := cellsAt_cell p3 7 _ rfl
    have hgb := (HD4.out.1.lt g rfl).1
    have hs := Hsz.out
    have n0 : ¬ g = w.heap.size := by omega
    have n1 : ¬ g = w.heap.size + 1 := by omega
    have n2 : ¬ g = w.heap.size + 1 + 1 := by omega
    have n3 : ¬ w.heap.size = g := by omega
    have n4 : ¬ w.heap.size + 1 = g := by omega
    have n5 : ¬ w.heap.size + 1 + 1 = g := by omega
    have n6 : ¬ w.heap.size + 1 + 1 = w.heap.size := by omega
    have n7 : ¬ j * 14 + 2 = j * 14 := by omega
    have Hgb := Lib.hid hgb
    clear hgb hs
    go_wp2_with fail
    go_region
    all_goals
      go_wp2
      refine bodyPost_ret (v := .tuple #[stV ep t own dead (.slice (some ⟨g, 0, none⟩) lo.length cap) (.slice ja li.length jc) gh (nx + 1), .int .i64 0]) ?_ rfl ?_
      · simp [results, Try.results15, go_sem, p4]
      · exact ⟨_, _, rfl, askOuts HD4.out hj Hgb.out Hsz.out, askIns HD4.out Hgb.out Hsz.out, askKeeps (Hk.out.trans Hk4.out (fun _ _ h => h)) Hgb.out Hsz.out, fresh_of HD4.out.1 Hsz.out, fresh_of HD4.out.2.1 Hsz.out⟩

end
end Go.Proofs.Ytggaeihinheojaa
