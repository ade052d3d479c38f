/-
  hedgerowlaw21: it asks for the next one. No conditions of its own.
-/
import Derived.Test.YtggaeihinheojaaHpH
import Derived.Test.YtggaeihinheojaaHpJ
namespace Go.Proofs.Ytggaeihinheojaa
open Go.RowKit

theorem post_world {Q : Exit → Act → World → Prop} {e : Exit} {a : Act} {w : World} (h : ∀ W, W = w → Q e a W) : Q e a w := h w rfl
/-- what is turned was the world's own, or is new -/
def Onward (w : World) (g : Nat) (V V' : Vs) (w' : World) : Prop := Keeps (Mut g V) w w' ∧ ∀ i, Mut g V' i → Mut g V i ∨ w.heap.size ≤ i
theorem own_mut {w w' : World} {g : Nat} {V : Vs} (h : Keeps (Own g) w w') : Keeps (Mut g V) w w' := h.mono (fun _ _ hi => .inl hi)
theorem mut_setW {g : Nat} {V : Vs} {a b : Nat} {v : Value} {i : Nat} (h : Mut g (V.setW a b v) i) : Mut g V i ∨ v.ownBlock = some i := by
  rcases h with h | ⟨c, d, hc, hd, h⟩
  · exact .inl (.inl h)
  · change (upd2 V.w a b v c d).ownBlock = some i at h
    by_cases e : c = a ∧ d = b
    · obtain ⟨rfl, rfl⟩ := e
      rw [upd2_at] at h
      exact .inr h
    · rw [upd2_ne _ _ e] at h
      exact .inl (.inr ⟨c, d, hc, hd, h⟩)
/-- WHAT ASKING LEAVES -/
def AskPost (w : World) (g base T : Nat) (V : Vs) (ms : Nat → Nat → List Ms) (W : Wd) (k : Nat) (e : Ending) (w' : World) : Prop :=
  (mayNext (W.s k).outs (W.s k).nx = false ∧ e = .returned (.bool false) ∧ WAt w' g base V ms W ∧ Keeps No w w') ∨
  (e = .returned (.bool true) ∧ ∃ V' ms' W', WAt w' g base V' ms' W' ∧ Rest W W' T 1 ∧ Onward w g V V' w')

section
variable {w w' : World} {g base T : Nat} {V : Vs} {ms : Nat → Nat → List Ms} {W : Wd}
theorem WAt.mut_up (h : WAt w g base V ms W) {i : Nat} (hi : Mut g V i) : Up g i := by
  rcases hi with rfl | ⟨a, b, ha, hb, hi⟩
  · exact Nat.le_refl _
  · have h1 := ((h.row a b ha hb).lt i hi).1
    have h2 := h.gb
    show g ≤ i
    omega
/-- one more message on its way -/
theorem WAt.push (h : WAt w g base V ms W) {a b : Nat} (ha : a < 3) (hb : b < 3) (k : Keeps (Of (V.w a b)) w w') {v : Value} {m : Ms} (ho : OwnOf cMs 31 w' base v (ms a b ++ [m]))
    (hv : ∀ i, v.ownBlock = some i → (V.w a b).ownBlock = some i ∨ w.heap.size ≤ i) (hm : RdOf cBd w (mV m) m.bs ∧ FarL g V (mV m) m.bs) :
    WAt (w'.setCell ⟨g, 24 + a * 3 + b, none⟩ v) g base (V.setW a b v) (upd2 ms a b (ms a b ++ [m])) (W.push a b (mcOf m)) ∧ Keeps (fun i => Mut g V i) w (w'.setCell ⟨g, 24 + a * 3 + b, none⟩ v) := by
  have hall : ∀ x ∈ ms a b ++ [m], RdOf cBd w (mV x) x.bs ∧ FarL g V (mV x) x.bs := by
    intro x hx
    rcases List.mem_append.1 hx with h1 | h1
    · exact h.lists a b ha hb x h1
    · obtain rfl := List.mem_singleton.1 h1
      exact hm
  have q := h.setWay ha hb k ho hv (fun x hx => ⟨rd_kept (hall x hx).1 k (fun hne i hi hof => (hall x hx).2 hne i hi (.inr ⟨a, b, ha, hb, hof⟩)), fun hne i hi => ⟨(hall x hx).2 hne i hi, fun e => by
    rcases hv i e with h1 | h1
    · exact (hall x hx).2 hne i hi (.inr ⟨a, b, ha, hb, h1⟩)
    · have := rd_lt (hall x hx).1 hne hi
      omega⟩⟩)
  have e : (ms a b ++ [m]).map mcOf = W.way a b ++ [mcOf m] := by rw [List.map_append, h.said a b ha hb]; rfl
  rw [e] at q
  exact q
set_option maxRecDepth 100000 in
set_option maxHeartbeats 8000000 in
theorem wask_any (h : WAt w g base V ms W) (hO : Ok W T) (hbs : base ≤ w.heap.size) {k : Nat} (hk : k < 3) :
    Calls Try.prog 27 #[gP g, .int .i64 k] w fun e w' => AskPost w g base T V ms W k e w' := by
  obtain ⟨oa, oc, hVo⟩ := (h.own k hk).1.slice
  obtain ⟨ua, uc, hVu⟩ := (h.outs k hk).1.slice
  obtain ⟨ia, ic, hVi⟩ := (h.ins k hk).1.slice
  have hk0 : (0 : Int) ≤ (k : Int) := by omega
  have hk3 : (k : Int) < 3 := by omega
  have kb1 : k * 8 + 8 ≤ 34 := by omega
  have kb2 : k * 8 ≤ 26 := by omega
  have cS := h.st k hk
  unfold shC at cS
  rw [hVo, hVu, hVi] at cS
  have Hol := Lib.hid (outs_le hO.S hk)
  have Hil := Lib.hid (ins_le hO.S hk)
  have Hwr : Hid (((W.s k).nx : Int) < 1099511627776 → wrap64 (((W.s k).nx : Int) + 1) = ((W.s k).nx : Int) + 1) := fun h => IntWalk.wrap64_in _ ⟨by omega, by omega⟩
  have HU : Hid (RdOf cOu w (.slice ua (W.s k).outs.length uc) (W.s k).outs) := by rw [← hVu]; exact (h.outs k hk).1
  have HI : Hid (RdOf cIn w (.slice ia (W.s k).ins.length ic) (W.s k).ins) := by rw [← hVi]; exact (h.ins k hk).1
  have H := Lib.hid h
  have HO := Lib.hid hO
  have Hk := Lib.hid hk
  clear h hO
  cases hm : mayNext (W.s k).outs (W.s k).nx
  · go_enter Try.func27, Try.ntmps27
    go_wp2_with (go_at_call 17; refine (next_any HU.out (by have := Hol.out; omega) Hwr).mono ?_; rw [hm]; rintro e w1 ⟨rfl, hk1⟩; have K1 := Lib.hid hk1; clear hk1; simp only [cond_false])
    go_ret
    exact .inl ⟨hm, rfl, H.out.no (K1.out.alloc _), K1.out.alloc _⟩
  · go_enter Try.func27, Try.ntmps27
    go_wp2_with (go_at_call 17; refine (next_any HU.out (by have := Hol.out; omega) Hwr).mono ?_; rw [hm]; rintro e w1 ⟨rfl, hk1⟩; have K1 := Lib.hid hk1; clear hk1; simp only [cond_true])
    refine wp_world ?_
    intro Y hY
    have KY : Hid (Keeps No w Y) := by rw [hY]; exact K1.out.alloc _
    have sY : Hid (Y.heap.size = w1.heap.size + 1) := by show _ = _; rw [hY]; simp
    have cRY : cellsAt Y w1.heap.size 0 24 = some [.int .i64 3, .int .i64 ((W.s k).nx + 1), .int .i64 0, nilV, .int .i64 0, .int .i64 0, .int .i64 0, .int .i64 0, .int .i64 0, .int .i64 0, .int .i64 0, .int .i64 0, .int .i64 0, .int .i64 0, .int .i64 0, nilV, .int .i64 0, .int .i64 0, nilV, nilV, nilV, nilV, nilV, .int .i64 0] := by rw [hY]; simp [go_sem, Bd.zero]
    have cSY := KY.out.cellsAt cS
    clear hY cS
    obtain ⟨j, hj, D, hf, hst, hD3, hDk, hDe, hfo, hrest⟩ := ask_data HO.out Hk.out hm
    have Hrest := Lib.hid hrest
    have HDe := Lib.hid hDe
    clear hrest hDe
    have HC : Hid (∀ W', Keeps No Y W' → Calls Try.prog 15 #[stV 0 0 (.slice oa (W.s k).own.length oc) nilV (.slice ua (W.s k).outs.length uc) (.slice ia (W.s k).ins.length ic) nilV (W.s k).nx, recV 3 ((W.s k).nx + 1) 0 Bd.zero] W' fun e w' => ∃ vo vi, e = .returned (.tuple #[stV 0 0 (.slice oa (W.s k).own.length oc) nilV vo vi nilV ((W.s k).nx + 1), .int .i64 0]) ∧ RdOf cOu w' vo ((W.s k).outs.set j ⟨(W.s k).nx + 1, (W.s k).outs[j].to, 2, (W.s k).outs[j].b⟩) ∧ RdOf cIn w' vi (W.s k).ins ∧ Keeps No W' w' ∧ Keeps No Y w' ∧ Fresh W' vo ∧ Fresh W' vi) := fun W' hW => by
      refine (fold_ask (HU.out.kept (KY.out.trans hW (fun _ _ h => h)) (fun _ _ h => h)) (HI.out.kept (KY.out.trans hW (fun _ _ h => h)) (fun _ _ h => h)) (by have := Hol.out; omega) (by have := Hil.out; omega) rfl rfl rfl hm Hwr j hj hf).mono ?_
      rintro e w' ⟨vo, vi, h1, h2, h3, h4, h5, h6⟩
      exact ⟨vo, vi, h1, h2, h3, h4, hW.trans h4 (fun _ _ h => h), h5, h6⟩
    have Hst := Lib.hid hst
    have hne1 : g ≠ Y.heap.size := by have := (H.out.no KY.out).glt; omega
    have hne2 : w1.heap.size ≠ Y.heap.size := by have := sY.out; omega
    have Hne := Lib.hid (And.intro hne1 hne2)
    have Hbase : Hid (base ≤ w.heap.size) := hbs
    have hD0 : (0 : Int) ≤ (D : Int) := by omega
    have hD3' : (D : Int) < 3 := by omega
    have HZm : Hid (∀ {i : Nat}, Mut g V i → i < Y.heap.size) := fun hm => (H.out.no KY.out).mut_lt hm
    have Hj := Lib.hid hj
    have Hfo := Lib.hid hfo
    clear hfo hst
    obtain ⟨wa, wc, hVw⟩ : ∃ a c, V.w k D = .slice a (ms k D).length c := ownsRow_slice (H.out.row k D Hk.out hD3)
    have Hwl : Hid ((ms k D).length ≤ 12) := by
      have h := way_le HO.out Hk.out hD3
      rw [← H.out.said k D Hk.out hD3, List.length_map] at h
      exact h
    obtain ⟨i0, hi, hz0, hz1, hz2⟩ := info_parts Try.infoMs
    clear hf
    go_region_held3 (fun w' => cellsAt w' g (k * 8) 8 = some [.int .i64 0, .int .i64 0, .slice oa (W.s k).own.length oc, nilV, .slice ua (W.s k).outs.length uc, .slice ia (W.s k).ins.length ic, nilV, .int .i64 (W.s k).nx] ∧ cellsAt w' w1.heap.size 0 24 = some [.int .i64 3, .int .i64 ((W.s k).nx + 1), .int .i64 0, nilV, .int .i64 0, .int .i64 0, .int .i64 0, .int .i64 0, .int .i64 0, .int .i64 0, .int .i64 0, .int .i64 0, .int .i64 0, .int .i64 0, .int .i64 0, nilV, .int .i64 0, .int .i64 0, nilV, nilV, nilV, nilV, nilV, .int .i64 0])
      (first | exact ⟨cSY, cRY⟩ | exact ⟨((Keeps.refl (S := No) _).alloc _).cellsAt cSY, ((Keeps.refl (S := No) _).alloc _).cellsAt cRY⟩ | exact ⟨cells_row cSY hne1, cells_row cRY hne2⟩)
      (first
        | (go_at_call 15
           refine (HC.out Y.drew (Keeps.refl _).drew).mono ?_
           rintro e w2 ⟨vo, vi, rfl, hro, hri, hk2', hk2, hfo, hfi⟩
           obtain ⟨vao, vno, vco, rfl⟩ : ∃ a n c, vo = .slice a n c := by
             obtain ⟨a, c, he⟩ := hro.slice
             exact ⟨a, _, c, he⟩
           obtain ⟨vai, vni, vci, rfl⟩ : ∃ a n c, vi = .slice a n c := by
             obtain ⟨a, c, he⟩ := hri.slice
             exact ⟨a, _, c, he⟩
           have H2 : Hid (WAt w2 g base V ms W) := H.out.no (KY.out.trans hk2 (fun _ _ h => h))
           have lgw := H2.out.glt
           have cS2 := hk2.cellsAt cSY
           have cR2 := hk2.cellsAt cRY
           have l2 := hk2.size
           have HRO := Lib.hid hro
           have HRI := Lib.hid hri
           have K2 := Lib.hid hk2
           have NE : Hid (∀ i, ((Value.slice vao vno vco).ownBlock = some i ∨ (Value.slice vai vni vci).ownBlock = some i) → Y.heap.size ≤ i) := fun i hi => hi.elim (fun h => hfo i h) (fun h => hfi i h)
           clear cSY cRY hro hri hk2 hk2' hfo hfi
           have cSY := cS2
           have cRY := cR2
           clear cS2 cR2)
        | (go_at_call 15
           refine (HC.out _ (by first | exact ((Keeps.refl _).drew).alloc _ | exact ((Keeps.refl _).alloc _).drew)).mono ?_
           rintro e w2 ⟨vo, vi, rfl, hro, hri, hk2', hk2, hfo, hfi⟩
           obtain ⟨vao, vno, vco, rfl⟩ : ∃ a n c, vo = .slice a n c := by
             obtain ⟨a, c, he⟩ := hro.slice
             exact ⟨a, _, c, he⟩
           obtain ⟨vai, vni, vci, rfl⟩ : ∃ a n c, vi = .slice a n c := by
             obtain ⟨a, c, he⟩ := hri.slice
             exact ⟨a, _, c, he⟩
           have H2 : Hid (WAt w2 g base V ms W) := H.out.no (KY.out.trans hk2 (fun _ _ h => h))
           have lgw := H2.out.glt
           have cS2 := hk2.cellsAt cSY
           have cR2 := hk2.cellsAt cRY
           have l2 := hk2.size
           have o7 : Open w2 Y.heap.size := hk2'.opened (by simp [go_sem])
           have rs7 : (rowD w2 Y.heap.size).size = 8 := hk2'.rowSize (by simp [go_sem]) (by simp [go_sem])
           have f7 := o7.frozen 0
           have HRO := Lib.hid hro
           have HRI := Lib.hid hri
           have K2 := Lib.hid hk2
           have NE : Hid (∀ i, ((Value.slice vao vno vco).ownBlock = some i ∨ (Value.slice vai vni vci).ownBlock = some i) → Y.heap.size + 1 ≤ i) := fun i hi => hi.elim (fun h => by simpa using hfo i h) (fun h => by simpa using hfi i h)
           clear cSY cRY hro hri hk2 hk2' hfo hfi
           have cSY := cS2
           have cRY := cR2
           clear cS2 cR2))
    · refine post_world ?_
      intro Z hZ
      have KZ : Hid (Keeps No Y Z) := by
        rw [hZ]
        first
          | exact K2.out.alloc _
          | exact K2.out.row (Nat.le_refl _) _
      have RO : Hid (RdOf cOu Z (.slice vao vno vco) ((W.s k).outs.set j ⟨(W.s k).nx + 1, (W.s k).outs[j].to, 2, (W.s k).outs[j].b⟩)) := by
        rw [hZ]
        first
          | exact HRO.out.kept ((Keeps.refl (S := No) _).alloc _) (fun _ _ h => h)
          | exact HRO.out.kept ((Keeps.refl (S := fun i => i = Y.heap.size) w2).setRow (fun _ => rfl) _) (fun i hi e => by have := NE.out i (.inl hi); omega)
      have RI : Hid (RdOf cIn Z (.slice vai vni vci) (W.s k).ins) := by
        rw [hZ]
        first
          | exact HRI.out.kept ((Keeps.refl (S := No) _).alloc _) (fun _ _ h => h)
          | exact HRI.out.kept ((Keeps.refl (S := fun i => i = Y.heap.size) w2).setRow (fun _ => rfl) _) (fun i hi e => by have := NE.out i (.inr hi); omega)
      have NF : Hid (∀ i, ((Value.slice vao vno vco).ownBlock = some i ∨ (Value.slice vai vni vci).ownBlock = some i) → Y.heap.size ≤ i) := fun i hi => by have := NE.out i hi; omega
      have cR : cellsAt Z w1.heap.size 0 24 = some [.int .i64 3, .int .i64 ((W.s k).nx + 1), .int .i64 0, nilV, .int .i64 0, .int .i64 0, .int .i64 0, .int .i64 0, .int .i64 0, .int .i64 0, .int .i64 0, .int .i64 0, .int .i64 0, .int .i64 0, .int .i64 0, nilV, .int .i64 0, .int .i64 0, nilV, nilV, nilV, nilV, nilV, .int .i64 0] := by
        rw [hZ]
        first
          | exact ((Keeps.refl (S := No) _).alloc _).cellsAt cRY
          | exact cells_row cRY Hne.out.2
      have cR1 : Z.cell? ⟨w1.heap.size, 1, none⟩ = some (.int .i64 ((W.s k).nx + 1)) := cellsAt_cell cR 1 _ rfl
      have c7 : cellsAt Z w2.heap.size 0 8 = some [.int .i64 0, .int .i64 0, .slice oa (W.s k).own.length oc, nilV, .slice vao vno vco, .slice vai vni vci, nilV, .int .i64 ((W.s k).nx + 1)] := by
        rw [hZ]; simp [go_sem, *]
      have HZ := Lib.hid (H.out.no (KY.out.trans KZ.out (fun _ _ h => h)))
      clear hZ cR cRY cSY lgw l2 NE HRO HRI H2
      try clear o7 rs7 f7
      have HT : Hid (∀ W', Keeps No Z W' → Calls Try.prog 19 #[stV 0 0 (.slice oa (W.s k).own.length oc) nilV (.slice vao vno vco) (.slice vai vni vci) nilV ((W.s k).nx + 1), .int .i64 ((W.s k).nx + 1)] W' fun e w' => ∃ v, e = .returned (.tuple #[toV D 7 ((W.s k).nx + 1) v, .bool true]) ∧ RdOf cBd w' v [(W.s k).outs[j].b] ∧ (∀ i, v.ownBlock = some i → Z.heap.size ≤ i) ∧ Keeps No Z w') := fun W' hW => by
        refine (tell_any (RO.out.kept hW (fun _ _ h => h)) ((W.s k).nx + 1)).mono ?_
        rintro e w' ⟨ht, hk3⟩
        rcases ht with ⟨h1, _⟩ | ⟨j', hj', h1, h2, v, h3, h4, h5⟩ | ⟨j', hj', h1, h2, _⟩
        · exact absurd (Hfo.out.symm.trans h1) (by omega)
        · obtain rfl : j' = j := by have := Hfo.out.symm.trans h1; omega
          simp only [List.getElem_set_self] at h3 h4
          exact ⟨v, by rw [← HDe.out]; exact h3, h4, fun i hi => Nat.le_trans hW.size (h5 i hi), hW.trans hk3 (fun _ _ h => h)⟩
        · obtain rfl : j' = j := by have := Hfo.out.symm.trans h1; omega
          simp at h2
      go_wp2_with (go_at_call 19
                   refine (HT.out _ (Keeps.refl _)).mono ?_
                   rintro e w3 ⟨v3, rfl, hr3, hb3, hk3⟩
                   obtain ⟨va3, vc3, rfl⟩ : ∃ a c, v3 = .slice a 1 c := by
                     obtain ⟨a, c, he⟩ := hr3.slice
                     exact ⟨a, c, he⟩
                   have R3 := Lib.hid hr3
                   have B3 := Lib.hid hb3
                   have K3 := Lib.hid hk3
                   have c73 := hk3.cellsAt c7
                   clear hr3 hb3 hk3 c7 cR1
                   have c7 := c73
                   clear c73)
      refine wp_world ?_
      intro X hX
      have KX : Hid (Keeps No Z X) := by rw [hX]; exact K3.out.alloc _
      have cT : cellsAt X w3.heap.size 0 7 = some [.int .i64 D, .int .i64 7, .int .i64 0, .int .i64 ((W.s k).nx + 1), nilV, .slice va3 1 vc3, nilV] := by rw [hX]; simp [go_sem]
      have R3X : Hid (RdOf cBd X (.slice va3 1 vc3) [(W.s k).outs[j].b]) := by rw [hX]; exact R3.out.kept ((Keeps.refl (S := No) _).alloc _) (fun _ _ h => h)
      have c7X : cellsAt X w2.heap.size 0 8 = some [.int .i64 0, .int .i64 0, .slice oa (W.s k).own.length oc, nilV, .slice vao vno vco, .slice vai vni vci, nilV, .int .i64 ((W.s k).nx + 1)] := by rw [hX]; exact ((Keeps.refl (S := No) _).alloc _).cellsAt c7
      have sX : Hid (X.heap.size = w3.heap.size + 1) := by show _ = _; rw [hX]; simp
      have HX := Lib.hid (HZ.out.no KX.out)
      have obX := HX.out.box
      have rsX := HX.out.size
      have fX := HX.out.box.frozen (k * 8)
      clear hX c7
      go_region
      refine post_world ?_
      intro X2 hX2
      have hP := HX.out.put8 Hk.out ((W.s k).ask ((W.s k).outs.set j ⟨(W.s k).nx + 1, (W.s k).outs[j].to, 2, (W.s k).outs[j].b⟩)) (o := .slice oa (W.s k).own.length oc) (u := .slice vao vno vco) (i := .slice vai vni vci) (by rw [← hVo]; exact HX.out.own k Hk.out) ⟨RO.out.kept KX.out (fun _ _ h => h), fun _ i hi hm => by have h1 := HZm.out hm; have h2 := NF.out i (.inl hi); omega⟩ ⟨RI.out.kept KX.out (fun _ _ h => h), fun _ i hi hm => by have h1 := HZm.out hm; have h2 := NF.out i (.inr hi); omega⟩
      have HX2 : Hid (WAt X2 g base (V.setS k (.slice oa (W.s k).own.length oc) (.slice vao vno vco) (.slice vai vni vci)) ms (W.setS k ((W.s k).ask ((W.s k).outs.set j ⟨(W.s k).nx + 1, (W.s k).outs[j].to, 2, (W.s k).outs[j].b⟩)))) := by
        rw [hX2]
        exact hP.1.no ((Keeps.refl (S := No) _).drew)
      have KX2 : Hid (Keeps (Own g) X X2) := by
        rw [hX2]
        exact hP.2.trans ((Keeps.refl (S := No) _).drew) (fun _ _ h => h.elim)
      have HRW : Hid (OwnOf cMs 31 X2 base (.slice wa (ms k D).length wc) (ms k D)) := by rw [← hVw]; exact HX2.out.row k D Hk.out hD3
      have cW : X2.cell? ⟨g, 24 + k * 3 + D, none⟩ = some (.slice wa (ms k D).length wc) := by rw [← hVw]; exact HX2.out.wy k D Hk.out hD3
      have hng : w3.heap.size ≠ g := by have := (HZ.out.no K3.out).glt; omega
      have cT2 := cellsAt_keeps KX2.out cT hng
      have cD : X2.cell? ⟨w3.heap.size, 0, none⟩ = some (.int .i64 D) := cellsAt_cell cT2 0 _ rfl
      have cM : cellsAt X2 w3.heap.size 1 6 = some [.int .i64 7, .int .i64 0, .int .i64 ((W.s k).nx + 1), nilV, .slice va3 1 vc3, nilV] := cellsAt_part cT2 1 [.int .i64 7, .int .i64 0, .int .i64 ((W.s k).nx + 1), nilV, .slice va3 1 vc3, nilV] rfl (by simp)
      obtain ⟨M, hM⟩ : ∃ M : Ms, M = ⟨7, (W.s k).nx + 1, va3, vc3, [(W.s k).outs[j].b]⟩ := ⟨_, rfl⟩
      have HMl : Hid (RdOf cBd X2 (mV M) M.bs ∧ FarL g V (mV M) M.bs) := by
        rw [hM]
        refine ⟨R3X.out.kept KX2.out (fun i hi e => ?_), fun _ i hi hm => ?_⟩
        · have h1 := B3.out i hi
          have h2 := HZ.out.glt
          have h3 : i = g := e
          omega
        · have h1 := B3.out i hi
          have h2 := HZm.out hm
          have h3 := KZ.out.size
          omega
      have hbz : Hid (base ≤ X2.heap.size) := by
        show _ ≤ _
        have h1 := Hbase.out
        have h2 := (KY.out.trans KZ.out (fun _ _ h => h)).size
        have h3 := KX.out.size
        have h4 := KX2.out.size
        omega
      have HK := Lib.hid ((((KY.out.trans KZ.out (fun _ _ h => h)).trans KX.out (fun _ _ h => h)).mono (T := Mut g V) (fun _ _ h => h.elim)).trans (own_mut KX2.out) (fun _ _ h => h))
      clear hX2 hP cT2 cT c7X obX rsX fX
      have cWa : (X2.alloc (.cells #[.int .i64 7, .int .i64 0, .int .i64 ((W.s k).nx + 1), nilV, .slice va3 1 vc3, nilV] 31)).cell? ⟨g, 24 + k * 3 + D, none⟩ = some (.slice wa (ms k D).length wc) := ((Keeps.refl (S := No) X2).alloc _).cell cW (fun h => h)
      have cDa : (X2.alloc (.cells #[.int .i64 7, .int .i64 0, .int .i64 ((W.s k).nx + 1), nilV, .slice va3 1 vc3, nilV] 31)).cell? ⟨w3.heap.size, 0, none⟩ = some (.int .i64 D) := ((Keeps.refl (S := No) X2).alloc _).cell cD (fun h => h)
      go_wp2
      go_region_law (refine step_append_reads rfl (.tmp 75) (.tmp 78) 61 rfl base 31 i0 _ 6 96 Try.underlying61 hi hz0 hz1 hz2 rfl (by decide) (.slice wa (ms k D).length wc) (ms k D).length (rowsOf cMs (ms k D)) rfl ((((Keeps.refl (S := No) X2).drew).alloc _).owns HRW.out (fun _ _ h => h)) (.slice (some ⟨X2.heap.size, 0, none⟩) 1 1) 1 (msC ⟨7, (W.s k).nx + 1, va3, vc3, [(W.s k).outs[j].b]⟩) rfl (litReads cMs X2.drew 31 ⟨7, (W.s k).nx + 1, va3, vc3, [(W.s k).outs[j].b]⟩) (by have := Hwl.out; unfold maxLen; omega) (by have := Hwl.out; omega) (by have := hbz.out; simp; omega) ?_
                     intro v4 w4 ho4 hk4 hb4 _
                     have HPu := Lib.hid (WAt.push HX2.out Hk.out hD3 (w' := w4) (v := v4) (m := M) (by show Keeps (Of (V.w k D)) _ _; rw [hVw]; exact (((Keeps.refl X2).drew).alloc _).trans hk4 (fun _ _ h => h)) (by
                       show World.ownsRow _ _ _ _ _ _ _
                       rw [List.length_append, rowsOf_append, hM]
                       exact ho4) (fun i hi => by
                         show (V.w k D).ownBlock = some i ∨ _
                         rw [hVw]
                         rcases hb4 i hi with h | h
                         · exact .inl h
                         · exact .inr (by simp at h; omega)) HMl.out)
                     have Hb4 : Hid (∀ i, v4.ownBlock = some i → Mut g V i ∨ w.heap.size ≤ i) := fun i hi => by
                       rcases hb4 i hi with h | h
                       · exact .inl (.inr ⟨k, D, Hk.out, hD3, by rw [hVw]; exact h⟩)
                       · refine .inr ?_
                         have h2 := HK.out.size
                         simp at h
                         omega
                     have f4 : w4.frozen? ⟨g, 24 + k * 3 + D, none⟩ = false := ((open_setCell _ _ _ _ _).1 HPu.out.1.box).frozen _
                     obtain ⟨va4, vn4, vc4, rfl⟩ : ∃ a n c, v4 = .slice a n c := by
                       obtain ⟨a, c, he⟩ := ownsRow_slice ho4
                       exact ⟨a, _, c, he⟩
                     have c4 : w4.cell? ⟨g, 24 + k * 3 + D, none⟩ = some (.slice wa (ms k D).length wc) := ((((Keeps.refl X2).drew).alloc _).trans hk4 (fun _ _ h => h)).cell cW (fun e => by have h1 := (HRW.out.lt g e).1; have h2 := H.out.gb; omega)
                     have cD4 : w4.cell? ⟨w3.heap.size, 0, none⟩ = some (.int .i64 D) := ((((Keeps.refl X2).drew).alloc _).trans hk4 (fun _ _ h => h)).cell cD (fun e => by
                       have h1 : w3.heap.size < Y.heap.size := HZm.out (.inr ⟨k, D, Hk.out, hD3, by rw [hVw]; exact e⟩)
                       have h2 := KZ.out.size
                       have h3 := K3.out.size
                       omega)
                     clear ho4 hk4 hb4)
      all_goals
        go_wp2_with fail
        go_ret
        refine .inr ⟨rfl, _, _, _, HPu.out.1, by rw [hM]; exact Hrest.out, HK.out.trans HPu.out.2 (fun _ _ h => h), fun i hi => (mut_setW hi).elim (fun h => .inl h) (fun h => Hb4.out i h)⟩
    · refine post_world ?_
      intro Z hZ
      have KZ : Hid (Keeps No Y Z) := by
        rw [hZ]
        first
          | exact K2.out.alloc _
          | exact K2.out.row (Nat.le_refl _) _
      have RO : Hid (RdOf cOu Z (.slice vao vno vco) ((W.s k).outs.set j ⟨(W.s k).nx + 1, (W.s k).outs[j].to, 2, (W.s k).outs[j].b⟩)) := by
        rw [hZ]
        first
          | exact HRO.out.kept ((Keeps.refl (S := No) _).alloc _) (fun _ _ h => h)
          | exact HRO.out.kept ((Keeps.refl (S := fun i => i = Y.heap.size) w2).setRow (fun _ => rfl) _) (fun i hi e => by have := NE.out i (.inl hi); omega)
      have RI : Hid (RdOf cIn Z (.slice vai vni vci) (W.s k).ins) := by
        rw [hZ]
        first
          | exact HRI.out.kept ((Keeps.refl (S := No) _).alloc _) (fun _ _ h => h)
          | exact HRI.out.kept ((Keeps.refl (S := fun i => i = Y.heap.size) w2).setRow (fun _ => rfl) _) (fun i hi e => by have := NE.out i (.inr hi); omega)
      have NF : Hid (∀ i, ((Value.slice vao vno vco).ownBlock = some i ∨ (Value.slice vai vni vci).ownBlock = some i) → Y.heap.size ≤ i) := fun i hi => by have := NE.out i hi; omega
      have cR : cellsAt Z w1.heap.size 0 24 = some [.int .i64 3, .int .i64 ((W.s k).nx + 1), .int .i64 0, nilV, .int .i64 0, .int .i64 0, .int .i64 0, .int .i64 0, .int .i64 0, .int .i64 0, .int .i64 0, .int .i64 0, .int .i64 0, .int .i64 0, .int .i64 0, nilV, .int .i64 0, .int .i64 0, nilV, nilV, nilV, nilV, nilV, .int .i64 0] := by
        rw [hZ]
        first
          | exact ((Keeps.refl (S := No) _).alloc _).cellsAt cRY
          | exact cells_row cRY Hne.out.2
      have cR1 : Z.cell? ⟨w1.heap.size, 1, none⟩ = some (.int .i64 ((W.s k).nx + 1)) := cellsAt_cell cR 1 _ rfl
      have c7 : cellsAt Z Y.heap.size 0 8 = some [.int .i64 0, .int .i64 0, .slice oa (W.s k).own.length oc, nilV, .slice vao vno vco, .slice vai vni vci, nilV, .int .i64 ((W.s k).nx + 1)] := by
        rw [hZ]; simp [go_sem, *]
      have HZ := Lib.hid (H.out.no (KY.out.trans KZ.out (fun _ _ h => h)))
      clear hZ cR cRY cSY lgw l2 NE HRO HRI H2
      try clear o7 rs7 f7
      have HT : Hid (∀ W', Keeps No Z W' → Calls Try.prog 19 #[stV 0 0 (.slice oa (W.s k).own.length oc) nilV (.slice vao vno vco) (.slice vai vni vci) nilV ((W.s k).nx + 1), .int .i64 ((W.s k).nx + 1)] W' fun e w' => ∃ v, e = .returned (.tuple #[toV D 7 ((W.s k).nx + 1) v, .bool true]) ∧ RdOf cBd w' v [(W.s k).outs[j].b] ∧ (∀ i, v.ownBlock = some i → Z.heap.size ≤ i) ∧ Keeps No Z w') := fun W' hW => by
        refine (tell_any (RO.out.kept hW (fun _ _ h => h)) ((W.s k).nx + 1)).mono ?_
        rintro e w' ⟨ht, hk3⟩
        rcases ht with ⟨h1, _⟩ | ⟨j', hj', h1, h2, v, h3, h4, h5⟩ | ⟨j', hj', h1, h2, _⟩
        · exact absurd (Hfo.out.symm.trans h1) (by omega)
        · obtain rfl : j' = j := by have := Hfo.out.symm.trans h1; omega
          simp only [List.getElem_set_self] at h3 h4
          exact ⟨v, by rw [← HDe.out]; exact h3, h4, fun i hi => Nat.le_trans hW.size (h5 i hi), hW.trans hk3 (fun _ _ h => h)⟩
        · obtain rfl : j' = j := by have := Hfo.out.symm.trans h1; omega
          simp at h2
      go_wp2_with (go_at_call 19
                   refine (HT.out _ (Keeps.refl _)).mono ?_
                   rintro e w3 ⟨v3, rfl, hr3, hb3, hk3⟩
                   obtain ⟨va3, vc3, rfl⟩ : ∃ a c, v3 = .slice a 1 c := by
                     obtain ⟨a, c, he⟩ := hr3.slice
                     exact ⟨a, c, he⟩
                   have R3 := Lib.hid hr3
                   have B3 := Lib.hid hb3
                   have K3 := Lib.hid hk3
                   have c73 := hk3.cellsAt c7
                   clear hr3 hb3 hk3 c7 cR1
                   have c7 := c73
                   clear c73)
      refine wp_world ?_
      intro X hX
      have KX : Hid (Keeps No Z X) := by rw [hX]; exact K3.out.alloc _
      have cT : cellsAt X w3.heap.size 0 7 = some [.int .i64 D, .int .i64 7, .int .i64 0, .int .i64 ((W.s k).nx + 1), nilV, .slice va3 1 vc3, nilV] := by rw [hX]; simp [go_sem]
      have R3X : Hid (RdOf cBd X (.slice va3 1 vc3) [(W.s k).outs[j].b]) := by rw [hX]; exact R3.out.kept ((Keeps.refl (S := No) _).alloc _) (fun _ _ h => h)
      have c7X : cellsAt X Y.heap.size 0 8 = some [.int .i64 0, .int .i64 0, .slice oa (W.s k).own.length oc, nilV, .slice vao vno vco, .slice vai vni vci, nilV, .int .i64 ((W.s k).nx + 1)] := by rw [hX]; exact ((Keeps.refl (S := No) _).alloc _).cellsAt c7
      have sX : Hid (X.heap.size = w3.heap.size + 1) := by show _ = _; rw [hX]; simp
      have HX := Lib.hid (HZ.out.no KX.out)
      have obX := HX.out.box
      have rsX := HX.out.size
      have fX := HX.out.box.frozen (k * 8)
      clear hX c7
      go_region
      refine post_world ?_
      intro X2 hX2
      have hP := HX.out.put8 Hk.out ((W.s k).ask ((W.s k).outs.set j ⟨(W.s k).nx + 1, (W.s k).outs[j].to, 2, (W.s k).outs[j].b⟩)) (o := .slice oa (W.s k).own.length oc) (u := .slice vao vno vco) (i := .slice vai vni vci) (by rw [← hVo]; exact HX.out.own k Hk.out) ⟨RO.out.kept KX.out (fun _ _ h => h), fun _ i hi hm => by have h1 := HZm.out hm; have h2 := NF.out i (.inl hi); omega⟩ ⟨RI.out.kept KX.out (fun _ _ h => h), fun _ i hi hm => by have h1 := HZm.out hm; have h2 := NF.out i (.inr hi); omega⟩
      have HX2 : Hid (WAt X2 g base (V.setS k (.slice oa (W.s k).own.length oc) (.slice vao vno vco) (.slice vai vni vci)) ms (W.setS k ((W.s k).ask ((W.s k).outs.set j ⟨(W.s k).nx + 1, (W.s k).outs[j].to, 2, (W.s k).outs[j].b⟩)))) := by
        rw [hX2]
        exact hP.1.no ((Keeps.refl (S := No) _).drew)
      have KX2 : Hid (Keeps (Own g) X X2) := by
        rw [hX2]
        exact hP.2.trans ((Keeps.refl (S := No) _).drew) (fun _ _ h => h.elim)
      have HRW : Hid (OwnOf cMs 31 X2 base (.slice wa (ms k D).length wc) (ms k D)) := by rw [← hVw]; exact HX2.out.row k D Hk.out hD3
      have cW : X2.cell? ⟨g, 24 + k * 3 + D, none⟩ = some (.slice wa (ms k D).length wc) := by rw [← hVw]; exact HX2.out.wy k D Hk.out hD3
      have hng : w3.heap.size ≠ g := by have := (HZ.out.no K3.out).glt; omega
      have cT2 := cellsAt_keeps KX2.out cT hng
      have cD : X2.cell? ⟨w3.heap.size, 0, none⟩ = some (.int .i64 D) := cellsAt_cell cT2 0 _ rfl
      have cM : cellsAt X2 w3.heap.size 1 6 = some [.int .i64 7, .int .i64 0, .int .i64 ((W.s k).nx + 1), nilV, .slice va3 1 vc3, nilV] := cellsAt_part cT2 1 [.int .i64 7, .int .i64 0, .int .i64 ((W.s k).nx + 1), nilV, .slice va3 1 vc3, nilV] rfl (by simp)
      obtain ⟨M, hM⟩ : ∃ M : Ms, M = ⟨7, (W.s k).nx + 1, va3, vc3, [(W.s k).outs[j].b]⟩ := ⟨_, rfl⟩
      have HMl : Hid (RdOf cBd X2 (mV M) M.bs ∧ FarL g V (mV M) M.bs) := by
        rw [hM]
        refine ⟨R3X.out.kept KX2.out (fun i hi e => ?_), fun _ i hi hm => ?_⟩
        · have h1 := B3.out i hi
          have h2 := HZ.out.glt
          have h3 : i = g := e
          omega
        · have h1 := B3.out i hi
          have h2 := HZm.out hm
          have h3 := KZ.out.size
          omega
      have hbz : Hid (base ≤ X2.heap.size) := by
        show _ ≤ _
        have h1 := Hbase.out
        have h2 := (KY.out.trans KZ.out (fun _ _ h => h)).size
        have h3 := KX.out.size
        have h4 := KX2.out.size
        omega
      have HK := Lib.hid ((((KY.out.trans KZ.out (fun _ _ h => h)).trans KX.out (fun _ _ h => h)).mono (T := Mut g V) (fun _ _ h => h.elim)).trans (own_mut KX2.out) (fun _ _ h => h))
      clear hX2 hP cT2 cT c7X obX rsX fX
      have cWa : (X2.alloc (.cells #[.int .i64 7, .int .i64 0, .int .i64 ((W.s k).nx + 1), nilV, .slice va3 1 vc3, nilV] 31)).cell? ⟨g, 24 + k * 3 + D, none⟩ = some (.slice wa (ms k D).length wc) := ((Keeps.refl (S := No) X2).alloc _).cell cW (fun h => h)
      have cDa : (X2.alloc (.cells #[.int .i64 7, .int .i64 0, .int .i64 ((W.s k).nx + 1), nilV, .slice va3 1 vc3, nilV] 31)).cell? ⟨w3.heap.size, 0, none⟩ = some (.int .i64 D) := ((Keeps.refl (S := No) X2).alloc _).cell cD (fun h => h)
      go_wp2
      go_region_law (refine step_append_reads rfl (.tmp 75) (.tmp 78) 61 rfl base 31 i0 _ 6 96 Try.underlying61 hi hz0 hz1 hz2 rfl (by decide) (.slice wa (ms k D).length wc) (ms k D).length (rowsOf cMs (ms k D)) rfl ((((Keeps.refl (S := No) X2).drew).alloc _).owns HRW.out (fun _ _ h => h)) (.slice (some ⟨X2.heap.size, 0, none⟩) 1 1) 1 (msC ⟨7, (W.s k).nx + 1, va3, vc3, [(W.s k).outs[j].b]⟩) rfl (litReads cMs X2.drew 31 ⟨7, (W.s k).nx + 1, va3, vc3, [(W.s k).outs[j].b]⟩) (by have := Hwl.out; unfold maxLen; omega) (by have := Hwl.out; omega) (by have := hbz.out; simp; omega) ?_
                     intro v4 w4 ho4 hk4 hb4 _
                     have HPu := Lib.hid (WAt.push HX2.out Hk.out hD3 (w' := w4) (v := v4) (m := M) (by show Keeps (Of (V.w k D)) _ _; rw [hVw]; exact (((Keeps.refl X2).drew).alloc _).trans hk4 (fun _ _ h => h)) (by
                       show World.ownsRow _ _ _ _ _ _ _
                       rw [List.length_append, rowsOf_append, hM]
                       exact ho4) (fun i hi => by
                         show (V.w k D).ownBlock = some i ∨ _
                         rw [hVw]
                         rcases hb4 i hi with h | h
                         · exact .inl h
                         · exact .inr (by simp at h; omega)) HMl.out)
                     have Hb4 : Hid (∀ i, v4.ownBlock = some i → Mut g V i ∨ w.heap.size ≤ i) := fun i hi => by
                       rcases hb4 i hi with h | h
                       · exact .inl (.inr ⟨k, D, Hk.out, hD3, by rw [hVw]; exact h⟩)
                       · refine .inr ?_
                         have h2 := HK.out.size
                         simp at h
                         omega
                     have f4 : w4.frozen? ⟨g, 24 + k * 3 + D, none⟩ = false := ((open_setCell _ _ _ _ _).1 HPu.out.1.box).frozen _
                     obtain ⟨va4, vn4, vc4, rfl⟩ : ∃ a n c, v4 = .slice a n c := by
                       obtain ⟨a, c, he⟩ := ownsRow_slice ho4
                       exact ⟨a, _, c, he⟩
                     have c4 : w4.cell? ⟨g, 24 + k * 3 + D, none⟩ = some (.slice wa (ms k D).length wc) := ((((Keeps.refl X2).drew).alloc _).trans hk4 (fun _ _ h => h)).cell cW (fun e => by have h1 := (HRW.out.lt g e).1; have h2 := H.out.gb; omega)
                     have cD4 : w4.cell? ⟨w3.heap.size, 0, none⟩ = some (.int .i64 D) := ((((Keeps.refl X2).drew).alloc _).trans hk4 (fun _ _ h => h)).cell cD (fun e => by
                       have h1 : w3.heap.size < Y.heap.size := HZm.out (.inr ⟨k, D, Hk.out, hD3, by rw [hVw]; exact e⟩)
                       have h2 := KZ.out.size
                       have h3 := K3.out.size
                       omega)
                     clear ho4 hk4 hb4)
      all_goals
        go_wp2_with fail
        go_ret
        refine .inr ⟨rfl, _, _, _, HPu.out.1, by rw [hM]; exact Hrest.out, HK.out.trans HPu.out.2 (fun _ _ h => h), fun i hi => (mut_setW hi).elim (fun h => .inl h) (fun h => Hb4.out i h)⟩
end
end Go.Proofs.Ytggaeihinheojaa
