/-
  hedgerowlaw21: the next message comes. No conditions of its own.
-/
import Derived.Test.YtggaeihinheojaaHpK
import Derived.Test.YtggaeihinheojaaHpI
import Derived.Deep.DeepCutAuto
namespace Go.Proofs.Ytggaeihinheojaa
open Go.RowKit

/-- WHAT A MESSAGE THAT COMES LEAVES -/
def ComesPost (w : World) (g base T : Nat) (V : Vs) (ms : Nat → Nat → List Ms) (W : Wd) (a b : Nat) (e : Ending) (w' : World) : Prop :=
  e = .returned (.bool true) ∧ ((W.way a b = [] ∧ WAt w' g base V ms W ∧ Keeps No w w') ∨
  (W.way a b ≠ [] ∧ ∃ V' ms' W', WAt w' g base V' ms' W' ∧ Rest W W' T 1 ∧ Onward w g V V' w'))

section
variable {w w' : World} {g base T : Nat} {V : Vs} {ms : Nat → Nat → List Ms} {W : Wd}
/-- the first message is taken off its way -/
theorem WAt.pop (h : WAt w g base V ms W) {a b : Nat} (ha : a < 3) (hb : b < 3) {m0 : Ms} {ms1 : List Ms} (hms : ms a b = m0 :: ms1) (k : Keeps No w w') {v : Value} (ho : OwnOf cMs 31 w' base v ms1) (hv : ∀ i, v.ownBlock = some i → w.heap.size ≤ i) :
    WAt (w'.setCell ⟨g, 24 + a * 3 + b, none⟩ v) g base (V.setW a b v) (upd2 ms a b ms1) (W.setW a b (ms1.map mcOf)) ∧ Keeps (Own g) w (w'.setCell ⟨g, 24 + a * 3 + b, none⟩ v) := by
  have hm : ∀ m ∈ ms1, m ∈ ms a b := fun m hm => by rw [hms]; exact List.mem_cons_of_mem _ hm
  refine ⟨(h.setWay ha hb (k.mono (fun _ _ h => h.elim)) ho (fun i hi => .inr (hv i hi)) (fun m hm' => ?_)).1, (k.mono (fun _ _ h => h.elim)).trans ((Keeps.refl (S := Own g) w').setCell (p := ⟨g, 24 + a * 3 + b, none⟩) (fun _ => (rfl : g = g)) v) (fun _ _ h => h)⟩
  obtain ⟨h1, h2⟩ := h.lists a b ha hb m (hm m hm')
  refine ⟨rd_kept h1 k (fun _ _ _ h => h), fun hne i hi => ⟨h2 hne i hi, fun e => ?_⟩⟩
  have h3 := rd_lt h1 hne hi
  have h4 := hv i e
  omega
/-- what a loop of regions leaves, by a name -/
def PopAt (w : World) (g base : Nat) (V : Vs) (ms : Nat → Nat → List Ms) (W : Wd) (a b gq off : Nat) (m0 : Ms) (ms1 : List Ms) (wx : World) : Prop :=
  ∃ v, (∀ i, v.ownBlock = some i → w.heap.size ≤ i) ∧ WAt wx g base (V.setW a b v) (upd2 ms a b ms1) (W.setW a b (ms1.map mcOf)) ∧ Keeps (Own g) w wx ∧ cellsAt wx gq off 6 = some (msC m0) ∧ RdOf cBd wx (mV m0) m0.bs

theorem cells_new {w : World} {X : Obj} {k o n : Nat} {l : List Value} (h : cellsAt w k o n = some l) : cellsAt (w.alloc X) k o n = some l := ((Keeps.refl (S := No) w).alloc X).cellsAt h
/-- what hearing leaves -/
def HeardAt (c : Come) (wc : World) (s8 s9 s10 s11 : Value) (wx : World) : Prop :=
  ∃ p q : Nat, s8 = .pointer (some ⟨p, 0, none⟩) ∧ s9 = .bool c.wr ∧ s10 = .pointer (some ⟨q, 0, none⟩) ∧ s11 = .bool c.ans ∧ wc.heap.size ≤ p ∧ wc.heap.size ≤ q ∧
    cellsAt wx p 0 24 = some [.int .i64 c.rk, .int .i64 c.rn, .int .i64 c.rf, nilV, .int .i64 c.rb.s, .int .i64 c.rb.i, .int .i64 c.rb.g, .int .i64 c.rb.m, .int .i64 c.rb.x, .int .i64 c.rb.y, .int .i64 c.rb.vx, .int .i64 c.rb.vy, .int .i64 c.rb.hp, .int .i64 c.rb.pw, .int .i64 c.rb.lf, nilV, .int .i64 0, .int .i64 0, nilV, nilV, nilV, nilV, nilV, .int .i64 0] ∧
    cellsAt wx q 0 6 = some [.int .i64 c.ak, .int .i64 0, .int .i64 c.an, nilV, nilV, nilV] ∧ Keeps No wc wx

/-- what a record makes of a state -/
def FoldGot (c : Come) (own : Value) (lw : List Bd) (lo : Nat) (we : World) (a1 : Option Addr) (n1 c1 : Nat) (a2 : Option Addr) (n2 c2 : Nat) (a3 : Option Addr) (n3 c3 : Nat) (w' : World) : Prop :=
  RdOf cBd w' (.slice a1 n1 c1) c.x.own ∧ RdOf cOu w' (.slice a2 n2 c2) c.x.outs ∧ RdOf cIn w' (.slice a3 n3 c3) c.x.ins ∧
    ((Value.slice a1 n1 c1 = own ∧ c.x.own = lw) ∨ ∀ i, (Value.slice a1 n1 c1).ownBlock = some i → lo ≤ i) ∧ (∀ i, (Value.slice a2 n2 c2).ownBlock = some i → lo ≤ i) ∧ (∀ i, (Value.slice a3 n3 c3).ownBlock = some i → lo ≤ i) ∧ Keeps No we w'
section
variable {c : Come} {own : Value} {lw : List Bd} {lo : Nat} {we w1 w2 : World} {a1 : Option Addr} {n1 c1 : Nat} {a2 : Option Addr} {n2 c2 : Nat} {a3 : Option Addr} {n3 c3 : Nat}
theorem FoldGot.no (h : FoldGot c own lw lo we a1 n1 c1 a2 n2 c2 a3 n3 c3 w1) (hl : we.heap.size ≤ lo) (hk : Keeps No w1 w2) : FoldGot c own lw we.heap.size we a1 n1 c1 a2 n2 c2 a3 n3 c3 w2 :=
  ⟨h.1.kept hk (fun _ _ h => h), h.2.1.kept hk (fun _ _ h => h), h.2.2.1.kept hk (fun _ _ h => h), h.2.2.2.1.imp id (fun h i hi => Nat.le_trans hl (h i hi)), fun i hi => Nat.le_trans hl (h.2.2.2.2.1 i hi), fun i hi => Nat.le_trans hl (h.2.2.2.2.2.1 i hi), h.2.2.2.2.2.2.trans hk (fun _ _ h => h)⟩
theorem FoldGot.box (h : FoldGot c own lw lo we a1 n1 c1 a2 n2 c2 a3 n3 c3 w1) (hl : we.heap.size + 1 ≤ lo) (ho : lw ≠ [] → ∀ i, own.ownBlock = some i → i < we.heap.size) (C : Array Value) : FoldGot c own lw we.heap.size we a1 n1 c1 a2 n2 c2 a3 n3 c3 (w1.setRow we.heap.size C) := by
  have hk : Keeps (Own we.heap.size) w1 (w1.setRow we.heap.size C) := (Keeps.refl w1).setRow (S := Own we.heap.size) (fun _ => rfl) C
  refine ⟨rd_kept h.1 hk (fun hne i hi e => ?_), h.2.1.kept hk (fun i hi e => ?_), h.2.2.1.kept hk (fun i hi e => ?_), h.2.2.2.1.imp id (fun h i hi => by have := h i hi; omega), fun i hi => by have := h.2.2.2.2.1 i hi; omega, fun i hi => by have := h.2.2.2.2.2.1 i hi; omega, h.2.2.2.2.2.2.trans hk (fun i hi e => by have e : i = we.heap.size := e; have hi : i < we.heap.size := hi; omega)⟩
  · have e : i = we.heap.size := e
    rcases h.2.2.2.1 with ⟨h1, h2⟩ | h3
    · have := ho (by rw [← h2]; exact hne) i (by rw [← h1]; exact hi)
      omega
    · have := h3 i hi
      omega
  · have e : i = we.heap.size := e
    have := h.2.2.2.2.1 i hi
    omega
  · have e : i = we.heap.size := e
    have := h.2.2.2.2.2.1 i hi
    omega
end
def FoldRes (c : Come) (own : Value) (lw : List Bd) (lo : Nat) (nx : Nat) (we : World) (a1 : Option Addr) (n1 c1 : Nat) (a2 : Option Addr) (n2 c2 : Nat) (a3 : Option Addr) (n3 c3 : Nat) (e : Ending) (w' : World) : Prop :=
  e = .returned (.tuple #[stV 0 0 (.slice a1 n1 c1) nilV (.slice a2 n2 c2) (.slice a3 n3 c3) nilV nx, .int .i64 0]) ∧ FoldGot c own lw lo we a1 n1 c1 a2 n2 c2 a3 n3 c3 w'
def FoldedAt (c : Come) (own : Value) (lw : List Bd) (nx : Nat) (we : World) (s12 s13 : Value) (wx : World) : Prop :=
  ∃ (p : Nat) (a1 : Option Addr) (n1 c1 : Nat) (a2 : Option Addr) (n2 c2 : Nat) (a3 : Option Addr) (n3 c3 : Nat), s12 = .pointer (some ⟨p, 0, none⟩) ∧ s13 = .int .i64 0 ∧ we.heap.size ≤ p ∧
    cellsAt wx p 0 8 = some [.int .i64 0, .int .i64 0, .slice a1 n1 c1, nilV, .slice a2 n2 c2, .slice a3 n3 c3, nilV, .int .i64 nx] ∧ FoldGot c own lw we.heap.size we a1 n1 c1 a2 n2 c2 a3 n3 c3 wx
/-- what writing leaves -/
def WroteAt (w : World) (g base : Nat) (V : Vs) (ms2 : Nat → Nat → List Ms) (W : Wd) (a b : Nat) (l : List Mc) (c : Come) (q : Nat) (wx : World) : Prop :=
  ∃ V2, WAt wx g base V2 ms2 (W.wrote a b l c) ∧ cellsAt wx q 0 6 = some [.int .i64 c.ak, .int .i64 0, .int .i64 c.an, nilV, nilV, nilV] ∧ Keeps (Own g) w wx ∧ ∀ i, Mut g V2 i → Mut g V i ∨ w.heap.size ≤ i

set_option maxRecDepth 100000 in
set_option maxHeartbeats 8000000 in
theorem wcomes_any (h : WAt w g base V ms W) (hO : Ok W T) (hbs : base ≤ w.heap.size) {a b : Nat} (ha : a < 3) (hb : b < 3) :
    Calls Try.prog 28 #[gP g, .int .i64 a, .int .i64 b] w fun e w' => ComesPost w g base T V ms W a b e w' := by
  obtain ⟨wa, wk, hVw⟩ : ∃ x c, V.w a b = .slice x (ms a b).length c := ownsRow_slice (h.row a b ha hb)
  have cW : w.cell? ⟨g, 24 + a * 3 + b, none⟩ = some (.slice wa (ms a b).length wk) := by rw [← hVw]; exact h.wy a b ha hb
  have a0 : (0 : Int) ≤ (a : Int) := by omega
  have a3 : (a : Int) < 3 := by omega
  have b0 : (0 : Int) ≤ (b : Int) := by omega
  have b3 : (b : Int) < 3 := by omega
  have H := Lib.hid h
  have HO := Lib.hid hO
  have Ha := Lib.hid ha
  have Hb := Lib.hid hb
  cases hms : ms a b with
  | nil =>
    have hway : Hid (W.way a b = []) := by show _ = _; rw [← h.said a b ha hb, hms]; rfl
    rw [hms] at cW
    clear h hO hms hVw
    go_enter Try.func28, Try.ntmps28
    go_wp2_with fail
    go_ret
    exact ⟨rfl, .inl ⟨hway.out, H.out, Keeps.refl w⟩⟩
  | cons m0 ms1 =>
    have hway : W.way a b = mcOf m0 :: ms1.map mcOf := by rw [← h.said a b ha hb, hms]; rfl
    have Hway := Lib.hid hway
    have hab : a ≠ b := by
      intro e
      subst e
      rw [hO.M.diag a ha] at hway
      cases hway
    obtain ⟨c, hc⟩ := comes_data hO ha hb hab hway
    have Hc := Lib.hid hc
    obtain ⟨N, hN⟩ : ∃ N, N = ms1.length := ⟨_, rfl⟩
    have hN2 : (ms a b).length = N + 1 := by rw [hms, hN]; rfl
    have hrow : OwnOf cMs 31 w base (.slice wa (N + 1) wk) (m0 :: ms1) := by rw [← hN2, ← hVw, ← hms]; exact h.row a b ha hb
    rw [hN2] at cW hVw
    have hN12 : N ≤ 12 := by
      have h1 := way_le hO ha hb
      rw [← h.said a b ha hb, List.length_map] at h1
      omega
    have HN := Lib.hid hN
    have HVw := Lib.hid hVw
    have Hms := Lib.hid hms
    have Hab := Lib.hid hab
    have Hrow := Lib.hid hrow
    have hrd : RdOf cMs w (.slice wa (N + 1) wk) (m0 :: ms1) := hrow.reads
    have hl1 : (m0 :: ms1).length = N + 1 := by rw [hN]; rfl
    obtain ⟨gq, off, rfl, hNc, _, hgq⟩ : ∃ b off, wa = some ⟨b, off, none⟩ ∧ N + 1 ≤ wk ∧ wk ≤ maxLen ∧ b < w.heap.size := by
      have h := hrd
      rw [← hl1] at h
      obtain ⟨b, off, h1, h2, h3, h4⟩ := RdOf.addr cMs h (by simp)
      exact ⟨b, off, h1, by omega, h3, h4⟩
    have c0 : cellsAt w gq (off + 0 * 6) 6 = some (msC m0) := by
      have h := hrd
      rw [← hl1] at h
      exact RdOf.at cMs h 0 (by simp)
    rw [Nat.zero_mul, Nat.add_zero] at c0
    have hrd2 : Reads w 6 (.slice (some ⟨gq, off, none⟩) (N + 1) wk) (N + 1) (rowsOf cMs (m0 :: ms1)) := by
      show Reads _ _ _ _ _
      rw [← hl1] at hrd ⊢
      exact hrd
    have hdrop := hrd2.dropAny (m := 1) (by omega) _ rfl
    rw [show 1 * 6 = 1 * cMs.size from rfl, rowsOf_drop] at hdrop
    obtain ⟨ao, hao⟩ : ∃ ao, ao = if wk = 1 then some (⟨gq, off, none⟩ : Addr) else some ⟨gq, off + 6, none⟩ := ⟨_, rfl⟩
    have HD : Hid (Reads w 6 (.slice ao N (wk - 1)) N (rowsOf cMs ms1)) := by
      show Reads _ _ _ _ _
      rw [hao]
      have e : (if wk = 1 then some (⟨gq, off, none⟩ : Addr) else some ⟨gq, off + 6, none⟩) = (if wk = 1 then some ⟨gq, off, none⟩ else Option.map (fun x : Addr => x.add (1 * cMs.size)) (some ⟨gq, off, none⟩)) := by
        split <;> rfl
      rw [e]
      exact hdrop
    have Hao := Lib.hid hao
    obtain ⟨i0, hi, hz0, hz1, hz2⟩ := info_parts Try.infoMs
    have hNI : (0 : Int) ≤ (N : Int) := by omega
    have hN13 : (N : Int) ≤ 12 := by omega
    have hc1 : (1 : Int) ≤ (wk : Int) := by omega
    have hNc1 : (N : Int) + 1 ≤ (wk : Int) := by omega
    have lg := h.glt
    have fg := h.box.frozen (24 + a * 3 + b)
    have h1N : (1 : Int) ≤ (N : Int) + 1 := by omega
    have bz : ((N : Int) + 1 == 0) = false := beq_false_of_ne (by omega)
    unfold msC at c0
    clear h hO hms hVw hrow hrd hrd2 hdrop hao hway hc hN hN2 hl1 hab hN12
    go_enter Try.func28, Try.ntmps28
    go_upto_region 4 with fail
    go_cut [31] (fun s31 wx => PopAt w g base V ms W a b gq off m0 ms1 wx)
    case first =>
      --CUT{
      have hng : gq ≠ g := fun e => by
        have h1 := (Hrow.out.lt gq rfl).1
        have h2 := H.out.gb
        omega
      have Hown0 : Hid (((w.alloc (.cells #[] 31)).drew).ownsRow base 31 6 (.slice (some ⟨w.heap.size, 0, none⟩) 0 0) 0 []) := by
        show World.ownsRow _ _ _ _ _ _ _
        exact ((Keeps.refl (S := No) (w.alloc (.cells #[] 31))).drew).owns (World.ownsRow_made w #[] 0 hbs (by decide) rfl) (fun _ _ h => h)
      go_region_law (rw [← Hao.out]; refine step_append_reads rfl (.tmp 28) (.tmp 30) 61 rfl base 31 i0 _ 6 96 Try.underlying61 hi hz0 hz1 hz2 rfl (by decide) (.slice (some ⟨w.heap.size, 0, none⟩) 0 0) 0 [] rfl Hown0.out (.slice ao N (wk - 1)) N (rowsOf cMs ms1) rfl (HD.out.kept (((Keeps.refl (S := No) w).alloc _).drew) (fun _ _ h => h)) (by unfold maxLen; omega) (by omega) (by simp; omega) ?_
                     intro v2 w2 ho2 hk2 hb2 _
                     have K2 : Hid (Keeps No w w2) := (((Keeps.refl w).alloc _).drew).trans hk2 (fun i hi hof => by have h1 : w.heap.size = i := Option.some.inj hof; omega)
                     have cW2 := K2.out.cell cW (fun h => h)
                     have fW2 := (H.out.no K2.out).box.frozen (24 + a * 3 + b)
                     have HP := Lib.hid (H.out.pop Ha.out Hb.out Hms.out K2.out (v := v2) (by
                       show World.ownsRow _ _ _ _ _ _ _
                       rw [← HN.out]
                       have h := ho2
                       simp only [Nat.zero_add, List.nil_append] at h
                       exact h) (fun i hi => by
                         rcases hb2 i hi with h | h
                         · have h1 : w.heap.size = i := Option.some.inj h; omega
                         · simp at h; omega))
                     have Hb2 : Hid (∀ i, v2.ownBlock = some i → w.heap.size ≤ i) := fun i hi => by
                       rcases hb2 i hi with h | h
                       · have h1 : w.heap.size = i := Option.some.inj h; omega
                       · simp at h; omega
                     obtain ⟨va2, vn2, vc2, rfl⟩ : ∃ a n c, v2 = .slice a n c := by
                       obtain ⟨a, c, he⟩ := ownsRow_slice ho2
                       exact ⟨a, _, c, he⟩
                     clear ho2 hk2 hb2)
      all_goals
        go_wp2_with fail
        go_meet
        refine ⟨_, Hb2.out, HP.out.1, HP.out.2, cellsAt_keeps HP.out.2 c0 hng, ?_⟩
        obtain ⟨h1, h2⟩ := H.out.lists a b Ha.out Hb.out m0 (by rw [Hms.out]; exact List.mem_cons_self)
        exact rd_box h1 h2 HP.out.2
      --CUT}
    case rest =>
      obtain ⟨wb, hwb⟩ : ∃ x : World, x = wc := ⟨_, rfl⟩
      subst hwb
      have Hcut := Lib.hid hcut
      clear hcut cW fg HD Hao hi hz0 hz1 hz2 HVw Hrow
      rename_i s31
      obtain ⟨v1, hv1, h1, k1, c1, r1⟩ := Hcut.out
      have Hfr := Lib.hid hv1
      clear hv1
      have H1 := Lib.hid h1
      have K1 := Lib.hid k1
      have R1 := Lib.hid r1
      clear h1 k1 c0 Hcut r1
      obtain ⟨V1, hV1⟩ : ∃ V1, V1 = V.setW a b v1 := ⟨_, rfl⟩
      obtain ⟨ms2, hms2⟩ : ∃ ms2, ms2 = upd2 ms a b ms1 := ⟨_, rfl⟩
      obtain ⟨W1, hW1⟩ : ∃ W1, W1 = W.setW a b (ms1.map mcOf) := ⟨_, rfl⟩
      rw [← hV1, ← hms2, ← hW1] at H1
      have hs1 : (W1.s b) = W.s b := by rw [hW1]; rfl
      obtain ⟨oa, oc, hVo⟩ := (H1.out.own b hb).1.slice
      obtain ⟨ua, uc, hVu⟩ := (H1.out.outs b hb).1.slice
      obtain ⟨ia, ic, hVi⟩ := (H1.out.ins b hb).1.slice
      have cS := H1.out.st b hb
      unfold shC at cS
      rw [hVo, hVu, hVi, hs1] at cS
      rw [hs1] at hVo hVu hVi
      have HW : Hid (RdOf cBd wb (.slice oa (W.s b).own.length oc) (W.s b).own) := by rw [← hVo, ← hs1]; exact (H1.out.own b hb).1
      have HU : Hid (RdOf cOu wb (.slice ua (W.s b).outs.length uc) (W.s b).outs) := by rw [← hVu, ← hs1]; exact (H1.out.outs b hb).1
      have HI : Hid (RdOf cIn wb (.slice ia (W.s b).ins.length ic) (W.s b).ins) := by rw [← hVi, ← hs1]; exact (H1.out.ins b hb).1
      have HVo := Lib.hid hVo
      have HVu := Lib.hid hVu
      have HVi := Lib.hid hVi
      have HV1 := Lib.hid hV1
      have Hms2 := Lib.hid hms2
      have HW1 := Lib.hid hW1
      have Hs1 := Lib.hid hs1
      have kb1 : b * 8 + 8 ≤ 34 := by omega
      have kb2 : b * 8 ≤ 26 := by omega
      have hgq2 := hgq
      unfold msC at c1
      have c2 := c1
      clear c1 hVo hVu hVi hV1 hms2 hW1 hs1
      have HH : ∀ W', Keeps No wb W' → Calls Try.prog 11 #[stV 0 0 (.slice oa (W.s b).own.length oc) nilV (.slice ua (W.s b).outs.length uc) (.slice ia (W.s b).ins.length ic) nilV (W.s b).nx, .int .i64 a, msgIn m0.k 0 m0.n nilV (mV m0) nilV] W' fun e w' => e = .returned (.tuple #[recV c.rk c.rn c.rf c.rb, .bool c.wr, msgV c.ak c.an, .bool c.ans]) ∧ Keeps No wb w' ∧ Keeps No W' w' := fun W' hW =>
        (Hc.out.hear W' _ _ _ _ _ _ _ _ 0 (HU.out.kept hW (fun _ _ h => h)) (HI.out.kept hW (fun _ _ h => h)) (R1.out.kept hW (fun _ _ h => h))).mono fun e w' h => ⟨h.1, hW.trans h.2 (fun _ _ h => h), h.2⟩
      have HH0 : Hid (Calls Try.prog 11 #[stV 0 0 (.slice oa (W.s b).own.length oc) nilV (.slice ua (W.s b).outs.length uc) (.slice ia (W.s b).ins.length ic) nilV (W.s b).nx, .int .i64 a, msgIn m0.k 0 m0.n nilV (mV m0) nilV] wb.drew fun e w' => e = .returned (.tuple #[recV c.rk c.rn c.rf c.rb, .bool c.wr, msgV c.ak c.an, .bool c.ans]) ∧ Keeps No wb w' ∧ wb.heap.size ≤ w'.heap.size) :=
        (HH _ (Keeps.refl (S := No) wb).drew).mono fun e w' h => ⟨h.1, h.2.1, h.2.1.size⟩
      have HH1 : Hid (∀ C t, Calls Try.prog 11 #[stV 0 0 (.slice oa (W.s b).own.length oc) nilV (.slice ua (W.s b).outs.length uc) (.slice ia (W.s b).ins.length ic) nilV (W.s b).nx, .int .i64 a, msgIn m0.k 0 m0.n nilV (mV m0) nilV] (wb.alloc (.cells C t)).drew fun e w' => e = .returned (.tuple #[recV c.rk c.rn c.rf c.rb, .bool c.wr, msgV c.ak c.an, .bool c.ans]) ∧ Keeps No wb w' ∧ wb.heap.size + 1 ≤ w'.heap.size ∧ Open w' wb.heap.size ∧ (rowD w' wb.heap.size).size = C.size) := fun C t =>
        (HH _ ((Keeps.refl (S := No) wb).alloc _).drew).mono fun e w' h => ⟨h.1, h.2.1, by have h := h.2.2.size; simpa using h, h.2.2.opened (by simp [go_sem]), h.2.2.rowSize (by simp [go_sem]) (by simp [go_sem])⟩
      have HH2 : Hid (∀ C t C' t', Calls Try.prog 11 #[stV 0 0 (.slice oa (W.s b).own.length oc) nilV (.slice ua (W.s b).outs.length uc) (.slice ia (W.s b).ins.length ic) nilV (W.s b).nx, .int .i64 a, msgIn m0.k 0 m0.n nilV (mV m0) nilV] ((wb.alloc (.cells C t)).alloc (.cells C' t')).drew fun e w' => e = .returned (.tuple #[recV c.rk c.rn c.rf c.rb, .bool c.wr, msgV c.ak c.an, .bool c.ans]) ∧ Keeps No wb w' ∧ wb.heap.size + 1 + 1 ≤ w'.heap.size ∧ (Open w' wb.heap.size ∧ (rowD w' wb.heap.size).size = C.size) ∧ (Open w' (wb.heap.size + 1) ∧ (rowD w' (wb.heap.size + 1)).size = C'.size)) := fun C t C' t' =>
        (HH _ (((Keeps.refl (S := No) wb).alloc _).alloc _).drew).mono fun e w' h => ⟨h.1, h.2.1, by have h := h.2.2.size; simpa using h, ⟨h.2.2.opened (by simp [go_sem]), h.2.2.rowSize (by simp [go_sem]) (by simp [go_sem])⟩, ⟨h.2.2.opened (by simp [go_sem]), h.2.2.rowSize (by simp [go_sem]) (by simp [go_sem])⟩⟩
      clear HH
      go_upto_region 5 with fail
      go_cut [8, 9, 10, 11] (fun s8 s9 s10 s11 wx => HeardAt c wb s8 s9 s10 s11 wx)
      case first =>
        --CUT{
        have Hgs : Hid (g < wb.heap.size) := H1.out.glt
        have Hqs : Hid (gq < wb.heap.size) := Nat.lt_of_lt_of_le hgq K1.out.size
        have hne1 : g ≠ wb.heap.size := by have := Hgs.out; omega
        have hne2 : gq ≠ wb.heap.size := by have := Hqs.out; omega
        have hne3 : g ≠ wb.heap.size + 1 := by have := Hgs.out; omega
        have hne4 : gq ≠ wb.heap.size + 1 := by have := Hqs.out; omega
        clear H1 K1 R1 HW HU HI HVo HVu HVi HV1 Hms2 HW1 Hs1 Hc
        go_region_held3 (fun w' => cellsAt w' g (b * 8) 8 = some [.int .i64 0, .int .i64 0, .slice oa (W.s b).own.length oc, nilV, .slice ua (W.s b).outs.length uc, .slice ia (W.s b).ins.length ic, nilV, .int .i64 (W.s b).nx] ∧ cellsAt w' gq off 6 = some [.int .i64 m0.k, .int .i64 0, .int .i64 m0.n, .slice none 0 0, .slice m0.a m0.bs.length m0.c, .slice none 0 0])
          (first | exact ⟨cS, c2⟩ | (refine ⟨?_, ?_⟩ <;> repeat (first | exact cS | exact c2 | refine cells_new ?_ | refine cells_row ?_ hne1 | refine cells_row ?_ hne2 | refine cells_row ?_ hne3 | refine cells_row ?_ hne4)))
          (first
            | (go_at_call 11
               refine HH0.out.mono ?_
               rintro e w2 ⟨rfl, hk2, l2⟩
               have J2 := Lib.hid hk2
               clear hk2
               have cS2 := J2.out.cellsAt cS
               have c22 := J2.out.cellsAt c2
               clear cS c2
               have cS := cS2
               have c2 := c22
               clear cS2 c22)
            | (go_at_call 11
               refine (HH1.out _ _).mono ?_
               rintro e w2 ⟨rfl, hk2, l2, o7, hs7⟩
               have J2 := Lib.hid hk2
               have l7 : wb.heap.size < w2.heap.size := by omega
               first
                 | (have rs7 : (rowD w2 wb.heap.size).size = 24 := hs7; clear hs7)
                 | (have rs7 : (rowD w2 wb.heap.size).size = 6 := hs7; clear hs7)
               clear hk2
               have cS2 := J2.out.cellsAt cS
               have c22 := J2.out.cellsAt c2
               clear cS c2
               have cS := cS2
               have c2 := c22
               clear cS2 c22)
            | (go_at_call 11
               refine (HH2.out _ _ _ _).mono ?_
               rintro e w2 ⟨rfl, hk2, l2, ⟨o7, hs7⟩, o8, hs8⟩
               have J2 := Lib.hid hk2
               have l7 : wb.heap.size < w2.heap.size := by omega
               have l8 : wb.heap.size + 1 < w2.heap.size := by omega
               first
                 | (have rs7 : (rowD w2 wb.heap.size).size = 24 := hs7; have rs8 : (rowD w2 (wb.heap.size + 1)).size = 6 := hs8; clear hs7 hs8)
                 | (have rs7 : (rowD w2 wb.heap.size).size = 6 := hs7; have rs8 : (rowD w2 (wb.heap.size + 1)).size = 24 := hs8; clear hs7 hs8)
               clear hk2
               have cS2 := J2.out.cellsAt cS
               have c22 := J2.out.cellsAt c2
               clear cS c2
               have cS := cS2
               have c2 := c22
               clear cS2 c22))
        all_goals
          go_wp2_with fail
          go_meet
          have hpq : wb.heap.size ≠ wb.heap.size + 1 := by omega
          have hqp : wb.heap.size + 1 ≠ wb.heap.size := by omega
          refine ⟨_, _, rfl, rfl, rfl, rfl, by omega, by omega, ?_, ?_, ?_⟩
          · simp [go_sem, *]
          · simp [go_sem, *]
          · repeat (first | exact J2.out | refine Keeps.alloc ?_ _ | refine Keeps.row ?_ (by omega) _ | refine Keeps.drew ?_)
        --CUT}
      case rest =>
        obtain ⟨p, q, rfl, rfl, rfl, rfl, hp, hq, cp, cq, kk⟩ := hcut
        obtain ⟨we, hwe⟩ : ∃ x : World, x = wc := ⟨_, rfl⟩
        subst hwe
        have KK := Lib.hid kk
        have H2 := Lib.hid (H1.out.no kk)
        have Hgs : Hid (g < wb.heap.size) := H1.out.glt
        have hqg : q ≠ g := by have := Hgs.out; omega
        have cSe := kk.cellsAt cS
        have HWe : Hid (RdOf cBd we (.slice oa (W.s b).own.length oc) (W.s b).own) := HW.out.kept kk (fun _ _ h => h)
        have HUe : Hid (RdOf cOu we (.slice ua (W.s b).outs.length uc) (W.s b).outs) := HU.out.kept kk (fun _ _ h => h)
        have HIe : Hid (RdOf cIn we (.slice ia (W.s b).ins.length ic) (W.s b).ins) := HI.out.kept kk (fun _ _ h => h)
        have Hl : Hid (wb.heap.size ≤ we.heap.size) := kk.size
        have Hq := Lib.hid hq
        have Hp := Lib.hid hp
        have hpg : p ≠ g := by have := Hgs.out; omega
        have Hpg := Lib.hid hpg
        have Hqg := Lib.hid hqg
        clear cS c2 HW HU HI HH0 HH1 HH2 kk hp hq hpg hqg
        obtain ⟨wr, hwr⟩ : ∃ x, x = c.wr := ⟨_, rfl⟩
        rw [← hwr]
        have Hwr := Lib.hid hwr
        clear hwr
        have HMV : Hid (∀ i, Mut g V1 i → Mut g V i ∨ w.heap.size ≤ i) := fun i hi => by
          rw [HV1.out] at hi
          exact (mut_setW hi).elim .inl (fun h => .inr (Hfr.out i h))
        go_upto_if 52 with fail
        go_cut [12] (fun s12 wx => WroteAt w g base V ms2 W a b (ms1.map mcOf) c q wx)
        case first =>
          cases wr with
          | false =>
            go_wp2_with fail
            go_meet
            have e : W.wrote a b (ms1.map mcOf) c = W1 := by unfold Wd.wrote; rw [← Hwr.out, HW1.out]; rfl
            exact ⟨V1, by rw [e]; exact H2.out, cq, K1.out.trans (KK.out.mono (T := Own g) (fun _ _ h => h.elim)) (fun _ _ h => h), fun i hi => HMV.out i hi⟩
          | true =>
            have HFo : ∀ W', Keeps No we W' → Calls Try.prog 15 #[stV 0 0 (.slice oa (W.s b).own.length oc) nilV (.slice ua (W.s b).outs.length uc) (.slice ia (W.s b).ins.length ic) nilV (W.s b).nx, recV c.rk c.rn c.rf c.rb] W' fun e w' => ∃ a1 n1 c1 a2 n2 c2 a3 n3 c3, FoldRes c (.slice oa (W.s b).own.length oc) (W.s b).own W'.heap.size (W.s b).nx we a1 n1 c1 a2 n2 c2 a3 n3 c3 e w' ∧ Keeps No W' w' := fun W' hW => by
              refine (Hc.out.fold Hwr.out.symm W' _ _ _ rfl (HWe.out.kept hW (fun _ _ h => h)) (HUe.out.kept hW (fun _ _ h => h)) (HIe.out.kept hW (fun _ _ h => h))).mono ?_
              rintro e w' ⟨vo, vu, vi, h1, h2, h3, h4, h5, h6, h7, h8⟩
              obtain ⟨x1, z1, rfl⟩ := h2.slice
              obtain ⟨x2, z2, rfl⟩ := h3.slice
              obtain ⟨x3, z3, rfl⟩ := h4.slice
              exact ⟨x1, _, z1, x2, _, z2, x3, _, z3, ⟨h1, h2, h3, h4, h6, h7, h8, hW.trans h5 (fun _ _ h => h)⟩, h5⟩
            have HF0 : Hid (Calls Try.prog 15 #[stV 0 0 (.slice oa (W.s b).own.length oc) nilV (.slice ua (W.s b).outs.length uc) (.slice ia (W.s b).ins.length ic) nilV (W.s b).nx, recV c.rk c.rn c.rf c.rb] we.drew fun e w' => ∃ a1 n1 c1 a2 n2 c2 a3 n3 c3, FoldRes c (.slice oa (W.s b).own.length oc) (W.s b).own we.heap.size (W.s b).nx we a1 n1 c1 a2 n2 c2 a3 n3 c3 e w' ∧ we.heap.size ≤ w'.heap.size) :=
              (HFo _ (Keeps.refl (S := No) we).drew).mono fun e w' ⟨a1, n1, c1, a2, n2, c2, a3, n3, c3, h1, h2⟩ => ⟨a1, n1, c1, a2, n2, c2, a3, n3, c3, h1, h2.size⟩
            have HF1 : Hid (∀ C t, Calls Try.prog 15 #[stV 0 0 (.slice oa (W.s b).own.length oc) nilV (.slice ua (W.s b).outs.length uc) (.slice ia (W.s b).ins.length ic) nilV (W.s b).nx, recV c.rk c.rn c.rf c.rb] (we.alloc (.cells C t)).drew fun e w' => ∃ a1 n1 c1 a2 n2 c2 a3 n3 c3, FoldRes c (.slice oa (W.s b).own.length oc) (W.s b).own (we.heap.size + 1) (W.s b).nx we a1 n1 c1 a2 n2 c2 a3 n3 c3 e w' ∧ we.heap.size + 1 ≤ w'.heap.size ∧ Open w' we.heap.size ∧ (rowD w' we.heap.size).size = C.size) := fun C t =>
              (HFo _ ((Keeps.refl (S := No) we).alloc _).drew).mono fun e w' ⟨a1, n1, c1, a2, n2, c2, a3, n3, c3, h1, h2⟩ => ⟨a1, n1, c1, a2, n2, c2, a3, n3, c3, by simpa using h1, by have h := h2.size; simpa using h, h2.opened (by simp [go_sem]), h2.rowSize (by simp [go_sem]) (by simp [go_sem])⟩
            clear HFo
            go_upto_region 7 with fail
            go_cut [12, 13] (fun s12 s13 wx => FoldedAt c (.slice oa (W.s b).own.length oc) (W.s b).own (W.s b).nx we s12 s13 wx)
            case first =>
              have hgw : g < we.heap.size := by have := Hgs.out; have := Hl.out; omega
              have hne1 : g ≠ we.heap.size := by omega
              have hne2 : p ≠ we.heap.size := by
                have h := cp
                intro e
                rw [e] at h
                exact absurd h (by simp [Proofs.Ytggaeihinheojaa.cellsAt])
              have hbb : b * 8 + 8 ≤ 34 := kb1
              have Hown : Hid ((W.s b).own ≠ [] → ∀ i, (Value.slice oa (W.s b).own.length oc).ownBlock = some i → i < we.heap.size) := fun hne i hi => rd_lt HWe.out hne hi
              clear H1 H2 K1 KK R1 HWe HUe HIe HVo HVu HVi HV1 Hms2 HW1 Hs1 Hc cq
              go_region_held3 (fun w' => cellsAt w' g (b * 8) 8 = some [.int .i64 0, .int .i64 0, .slice oa (W.s b).own.length oc, nilV, .slice ua (W.s b).outs.length uc, .slice ia (W.s b).ins.length ic, nilV, .int .i64 (W.s b).nx] ∧ cellsAt w' p 0 24 = some [.int .i64 c.rk, .int .i64 c.rn, .int .i64 c.rf, nilV, .int .i64 c.rb.s, .int .i64 c.rb.i, .int .i64 c.rb.g, .int .i64 c.rb.m, .int .i64 c.rb.x, .int .i64 c.rb.y, .int .i64 c.rb.vx, .int .i64 c.rb.vy, .int .i64 c.rb.hp, .int .i64 c.rb.pw, .int .i64 c.rb.lf, nilV, .int .i64 0, .int .i64 0, nilV, nilV, nilV, nilV, nilV, .int .i64 0])
                (first | exact ⟨cSe, cp⟩ | (refine ⟨?_, ?_⟩ <;> repeat (first | exact cSe | exact cp | refine cells_new ?_ | refine cells_row ?_ hne1 | refine cells_row ?_ hne2)))
                (first
                  | (go_at_call 15
                     refine HF0.out.mono ?_
                     rintro e w2 ⟨a1, n1, c1, a2, n2, c2, a3, n3, c3, ⟨rfl, hr⟩, l2⟩
                     have J2 := Lib.hid hr
                     have cS2 := J2.out.2.2.2.2.2.2.cellsAt cSe
                     have c22 := J2.out.2.2.2.2.2.2.cellsAt cp
                     clear cSe cp hr
                     have cSe := cS2
                     have cp := c22
                     clear cS2 c22)
                  | (go_at_call 15
                     refine (HF1.out _ _).mono ?_
                     rintro e w2 ⟨a1, n1, c1, a2, n2, c2, a3, n3, c3, ⟨rfl, hr⟩, l2, o7, hs7⟩
                     have J2 := Lib.hid hr
                     have l7 : we.heap.size < w2.heap.size := by omega
                     have rs7 : (rowD w2 we.heap.size).size = 8 := hs7
                     have cS2 := J2.out.2.2.2.2.2.2.cellsAt cSe
                     have c22 := J2.out.2.2.2.2.2.2.cellsAt cp
                     clear cSe cp hr hs7
                     have cSe := cS2
                     have cp := c22
                     clear cS2 c22))
              all_goals
                go_wp2_with fail
                go_meet
                refine ⟨_, a1, n1, c1, a2, n2, c2, a3, n3, c3, rfl, rfl, by omega, ?_, ?_⟩
                · simp [go_sem, *]
                · first
                    | exact J2.out.no (by omega) ((Keeps.refl (S := No) _).alloc _)
                    | exact J2.out.box (by omega) Hown.out _
            case rest =>
              obtain ⟨p2, a1, n1, c1, a2, n2, c2, a3, n3, c3, rfl, rfl, hp2, c8, hgot⟩ := hcut
              obtain ⟨wf, hwf⟩ : ∃ x : World, x = wc := ⟨_, rfl⟩
              subst hwf
              have HG := Lib.hid hgot
              have Kf : Hid (Keeps No we wf) := hgot.2.2.2.2.2.2
              have H3 := Lib.hid (H2.out.no Kf.out)
              have cq3 := Kf.out.cellsAt cq
              have ob3 := H3.out.box
              have rs3 := H3.out.size
              have fr3 := ob3.frozen (b * 8)
              have HM : Hid (∀ {i : Nat}, Mut g V1 i → i < we.heap.size) := fun hm => H2.out.mut_lt hm
              have hP := H3.out.put8 Hb.out c.x (o := .slice a1 n1 c1) (u := .slice a2 n2 c2) (i := .slice a3 n3 c3)
                ⟨HG.out.1, by
                  rcases HG.out.2.2.2.1 with ⟨h1, h2⟩ | h3
                  · rw [h1, h2, ← HVo.out, ← Hs1.out]; exact (H2.out.own b Hb.out).2
                  · exact fun _ i hi hm => by have h4 := HM.out hm; have h5 := h3 i hi; omega⟩
                ⟨HG.out.2.1, fun _ i hi hm => by have h4 := HM.out hm; have h5 := HG.out.2.2.2.2.1 i hi; omega⟩
                ⟨HG.out.2.2.1, fun _ i hi hm => by have h4 := HM.out hm; have h5 := HG.out.2.2.2.2.2.1 i hi; omega⟩
              rw [Hc.out.nx] at hP
              have HP := Lib.hid hP
              have Hlf : Hid (g < we.heap.size) := by have h1 := Hgs.out; have h2 := Hl.out; show _ < _; omega
              have hgp : g ≠ p2 := by have := Hlf.out; omega
              clear hP hgot cSe cq hp2
              go_wp2_with fail
              go_region
              all_goals
                refine post_world ?_
                intro X hX
                have HX : Hid (WroteAt w g base V ms2 W a b (ms1.map mcOf) c q X) := by
                  rw [hX]
                  have e : W.wrote a b (ms1.map mcOf) c = W1.setS b c.x := by unfold Wd.wrote; rw [← Hwr.out, HW1.out]; rfl
                  refine ⟨_, by rw [e]; exact HP.out.1.no ((Keeps.refl (S := No) _).drew), cellsAt_keeps HP.out.2 cq3 Hqg.out, ?_⟩
                  exact ⟨(((K1.out.trans (KK.out.mono (T := Own g) (fun _ _ h => h.elim)) (fun _ _ h => h)).trans (Kf.out.mono (T := Own g) (fun _ _ h => h.elim)) (fun _ _ h => h)).trans HP.out.2 (fun _ _ h => h)).drew, fun i hi => HMV.out i hi⟩
                clear hX
                go_wp2_with fail
                go_meet
                exact HX.out
        case rest =>
          obtain ⟨V2, h4, c4, k4, m4⟩ := hcut
          have M4 := Lib.hid m4
          clear m4
          obtain ⟨wg, hwg⟩ : ∃ x : World, x = wc := ⟨_, rfl⟩
          subst hwg
          have H4 := Lib.hid h4
          have K4 := Lib.hid k4
          have hbsg : base ≤ wg.heap.size := Nat.le_trans hbs k4.size
          obtain ⟨an, han⟩ : ∃ x, x = c.ans := ⟨_, rfl⟩
          rw [← han]
          have Han := Lib.hid han
          obtain ⟨ra, rc, hVr⟩ : ∃ x z, V2.w b a = .slice x (ms2 b a).length z := ownsRow_slice (h4.row b a hb ha)
          have cW : wg.cell? ⟨g, 24 + b * 3 + a, none⟩ = some (.slice ra (ms2 b a).length rc) := by rw [← hVr]; exact h4.wy b a hb ha
          have HRW : Hid (OwnOf cMs 31 wg base (.slice ra (ms2 b a).length rc) (ms2 b a)) := by rw [← hVr]; exact h4.row b a hb ha
          have Hwl : Hid ((ms2 b a).length ≤ 12) := by
            have h := way_le HO.out hb ha
            have hne : ¬ (b = a ∧ a = b) := fun e => Hab.out e.2
            rw [Hms2.out, upd2_ne _ _ hne]
            rw [← H.out.said b a hb ha, List.length_map] at h
            exact h
          have HVr := Lib.hid hVr
          have fg := h4.box.frozen (24 + b * 3 + a)
          have lgg := h4.glt
          clear h4 k4 han hVr H1 K1 R1 HWe HUe HIe HVo HVu HVi cSe cp cq KK H2 Hgs Hl Hq Hp Hpg
          cases an with
          | false =>
            go_wp2_with fail
            go_ret
            have e : W.came a b (ms1.map mcOf) c = W.wrote a b (ms1.map mcOf) c := by unfold Wd.came; rw [← Han.out]; rfl
            refine ⟨rfl, .inr ⟨by rw [Hway.out]; exact List.cons_ne_nil _ _, V2, ms2, _, H4.out, by rw [← e]; exact Hc.out.rest, own_mut K4.out, M4.out⟩⟩
          | true =>
            obtain ⟨i0, hi, hz0, hz1, hz2⟩ := info_parts Try.infoMs
            obtain ⟨M, hM⟩ : ∃ M : Ms, M = ⟨c.ak, c.an, none, 0, []⟩ := ⟨_, rfl⟩
            have HMd := Lib.hid hM
            have cWa : (wg.alloc (.cells #[.int .i64 c.ak, .int .i64 0, .int .i64 c.an, nilV, nilV, nilV] 31)).cell? ⟨g, 24 + b * 3 + a, none⟩ = some (.slice ra (ms2 b a).length rc) := ((Keeps.refl (S := No) wg).alloc _).cell cW (fun h => h)
            clear hM
            go_wp2_with fail
            go_region_law (refine step_append_reads rfl (.tmp 83) (.tmp 85) 61 rfl base 31 i0 _ 6 96 Try.underlying61 hi hz0 hz1 hz2 rfl (by decide) (.slice ra (ms2 b a).length rc) (ms2 b a).length (rowsOf cMs (ms2 b a)) rfl ((((Keeps.refl (S := No) wg).drew).alloc _).owns HRW.out (fun _ _ h => h)) (.slice (some ⟨wg.heap.size, 0, none⟩) 1 1) 1 (msC ⟨c.ak, c.an, none, 0, []⟩) rfl (litReads cMs wg.drew 31 ⟨c.ak, c.an, none, 0, []⟩) (by have := Hwl.out; unfold maxLen; omega) (by have := Hwl.out; omega) (by simp; omega) ?_
                           intro v4 w4 ho4 hk4 hb4 _
                           have HPu := Lib.hid (WAt.push H4.out Hb.out Ha.out (w' := w4) (v := v4) (m := M) (by show Keeps (Of (V2.w b a)) _ _; rw [HVr.out]; exact (((Keeps.refl wg).drew).alloc _).trans hk4 (fun _ _ h => h)) (by
                             show World.ownsRow _ _ _ _ _ _ _
                             rw [List.length_append, rowsOf_append, HMd.out]
                             exact ho4) (fun i hi => by
                               show (V2.w b a).ownBlock = some i ∨ _
                               rw [HVr.out]
                               rcases hb4 i hi with h | h
                               · exact .inl h
                               · exact .inr (by simp at h; omega)) (by rw [HMd.out]; exact ⟨Reads.nil _ _, fun h => absurd rfl h⟩))
                           have Hb4 : Hid (∀ i, v4.ownBlock = some i → Mut g V i ∨ w.heap.size ≤ i) := fun i hi => by
                             rcases hb4 i hi with h | h
                             · exact M4.out i (.inr ⟨b, a, Hb.out, Ha.out, by rw [HVr.out]; exact h⟩)
                             · refine .inr ?_
                               have h2 := K4.out.size
                               simp at h
                               omega
                           have f4 : w4.frozen? ⟨g, 24 + b * 3 + a, none⟩ = false := ((open_setCell _ _ _ _ _).1 HPu.out.1.box).frozen _
                           obtain ⟨va4, vn4, vc4, rfl⟩ : ∃ a n c, v4 = .slice a n c := by
                             obtain ⟨a, c, he⟩ := ownsRow_slice ho4
                             exact ⟨a, _, c, he⟩
                           have c4 : w4.cell? ⟨g, 24 + b * 3 + a, none⟩ = some (.slice ra (ms2 b a).length rc) := ((((Keeps.refl wg).drew).alloc _).trans hk4 (fun _ _ h => h)).cell cW (fun e => by have h1 := (HRW.out.lt g e).1; have h2 := H.out.gb; omega)
                           clear ho4 hk4 hb4)
            all_goals
              go_wp2_with fail
              go_ret
              have e : W.came a b (ms1.map mcOf) c = (W.wrote a b (ms1.map mcOf) c).push b a (mcOf M) := by unfold Wd.came; rw [← Han.out, HMd.out]; rfl
              refine ⟨rfl, .inr ⟨by rw [Hway.out]; exact List.cons_ne_nil _ _, _, _, _, HPu.out.1, by rw [← e]; exact Hc.out.rest, (own_mut K4.out).trans HPu.out.2 (fun i hl hi => (M4.out i hi).elim id (fun h => absurd hl (Nat.not_lt.2 h))), fun i hi => (mut_setW hi).elim (fun h => M4.out i h) (fun h => Hb4.out i h)⟩⟩
end
end Go.Proofs.Ytggaeihinheojaa
