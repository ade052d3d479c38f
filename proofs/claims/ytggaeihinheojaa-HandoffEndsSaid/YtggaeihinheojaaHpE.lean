/-
  A world of three shards in memory: a way, one's own and the number of entities are other ones. No conditions of its own.
-/
import Derived.Test.YtggaeihinheojaaHpD
namespace Go.Proofs.Ytggaeihinheojaa
open Go.RowKit

section
variable {w w' : World} {g base : Nat} {V : Vs} {ms : Nat → Nat → List Ms} {W : Wd}

def Vs.setW (V : Vs) (a b : Nat) (v : Value) : Vs := ⟨V.o, V.u, V.i, upd2 V.w a b v⟩
theorem upd2_at {α : Type} (f : Nat → Nat → α) (a b : Nat) (x : α) : upd2 f a b x a b = x := by simp [upd2]
theorem upd2_ne {α : Type} (f : Nat → Nat → α) {a b c d : Nat} (x : α) (h : ¬ (c = a ∧ d = b)) : upd2 f a b x c d = f c d := by simp [upd2, h]
theorem heap_setCell_cells {w : World} {p i : Nat} {cs : Array Value} {t : TypeId} (h : w.heap[p]? = some (.cells cs t (0, 0))) (v : Value) : (w.setCell ⟨p, i, none⟩ v).heap[p]? = some (.cells (cs.setIfInBounds i v) t (0, 0)) := by
  have hp := (Array.getElem?_eq_some_iff.1 h).1
  simp [World.setCell, Array.getElem?_modify, h]
theorem cell_at_far (w : World) {g i j : Nat} (v : Value) (h : i ≠ j) : (w.setCell ⟨g, i, none⟩ v).cell? ⟨g, j, none⟩ = w.cell? ⟨g, j, none⟩ := World.cell?_setCell_other w _ _ v (fun e => h (by injection e with _ e))
theorem cell_at_same {w : World} {g i : Nat} (v : Value) (ho : Open w g) (hs : i < (rowD w g).size) : (w.setCell ⟨g, i, none⟩ v).cell? ⟨g, i, none⟩ = some v := by
  obtain ⟨C, t, hh⟩ := ho
  have hr : rowD w g = C := by unfold rowD; rw [hh]
  rw [hr] at hs
  have := heap_setCell_cells hh (i := i) v
  simp [World.cell?, this, hs]
theorem cellsAt_past {w : World} {g i o n : Nat} (v : Value) (h : i < o ∨ o + n ≤ i) : cellsAt (w.setCell ⟨g, i, none⟩ v) g o n = cellsAt w g o n := by
  rw [cellsAt_setCell_at]
  cases hc : cellsAt w g o n with
  | none => rfl
  | some l =>
    have hl := cellsAt_length hc
    show some (if o ≤ i then l.set (i - o) v else l) = some l
    congr 1
    rcases h with h | h
    · rw [if_neg (by omega)]
    · rw [if_pos (by omega), List.set_eq_of_length_le (by omega)]

/-- A WAY IS ANOTHER ONE: its row was turned, or is a new one, and its cell is stored -/
theorem WAt.setWay (h : WAt w g base V ms W) {a b : Nat} (ha : a < 3) (hb : b < 3) (k : Keeps (Of (V.w a b)) w w') {v : Value} {ms' : List Ms} (ho : OwnOf cMs 31 w' base v ms')
    (hv : ∀ i, v.ownBlock = some i → (V.w a b).ownBlock = some i ∨ w.heap.size ≤ i)
    (hl : ∀ m ∈ ms', RdOf cBd w' (mV m) m.bs ∧ (m.bs ≠ [] → ∀ i, (mV m).ownBlock = some i → ¬ Mut g V i ∧ v.ownBlock ≠ some i)) :
    WAt (w'.setCell ⟨g, 24 + a * 3 + b, none⟩ v) g base (V.setW a b v) (upd2 ms a b ms') (W.setW a b (ms'.map mcOf)) ∧ Keeps (fun i => Mut g V i) w (w'.setCell ⟨g, 24 + a * 3 + b, none⟩ v) := by
  have hgn : ¬ Of (V.w a b) g := fun e => by
    have h1 := ((h.row a b ha hb).lt g e).1
    have h2 := h.gb
    omega
  have kb : Keeps (Own g) w' (w'.setCell ⟨g, 24 + a * 3 + b, none⟩ v) := (Keeps.refl (S := Own g) w').setCell (p := ⟨g, 24 + a * 3 + b, none⟩) (fun _ => (rfl : g = g)) v
  have ho' : Open w' g := by
    obtain ⟨C, t, hh⟩ := h.box
    exact ⟨C, t, k.heap hh hgn⟩
  have hrow : rowD w' g = rowD w g := by
    obtain ⟨C, t, hh⟩ := h.box
    unfold rowD
    rw [hh, k.heap hh hgn]
  have hsz : (rowD w' g).size = 34 := by rw [hrow]; exact h.size
  have hcat : ∀ o n, cellsAt w' g o n = cellsAt w g o n := by
    intro o n
    obtain ⟨C, t, hh⟩ := h.box
    unfold cellsAt
    rw [hh, k.heap hh hgn]
  have hcel : ∀ j, w'.cell? ⟨g, j, none⟩ = w.cell? ⟨g, j, none⟩ := fun j => by
    obtain ⟨C, t, hh⟩ := h.box
    have h2 := k.heap hh hgn
    simp [World.cell?, hh, h2]
  have hmw : ∀ i, Of (V.w a b) i → Mut g V i := fun i hi => .inr ⟨a, b, ha, hb, hi⟩
  have far2 : ∀ {α : Type} {C : Codec α} {u : Value} {l : List α}, RdOf C w u l → FarL g V u l → RdOf C (w'.setCell ⟨g, 24 + a * 3 + b, none⟩ v) u l ∧ FarL g (V.setW a b v) u l := by
    intro α C u l hr hf
    have hf2 : FarL g (V.setW a b v) u l := by
      intro hne i hi hm
      rcases hm with rfl | ⟨c, d, hc, hd, hm⟩
      · exact hf hne _ hi (.inl rfl)
      · change (upd2 V.w a b v c d).ownBlock = some i at hm
        by_cases e : c = a ∧ d = b
        · obtain ⟨rfl, rfl⟩ := e
          rw [upd2_at] at hm
          rcases hv i hm with h1 | h1
          · exact hf hne i hi (.inr ⟨c, d, hc, hd, h1⟩)
          · have := rd_lt hr hne hi
            omega
        · rw [upd2_ne _ _ e] at hm
          exact hf hne i hi (.inr ⟨c, d, hc, hd, hm⟩)
    refine ⟨rd_kept (rd_kept hr k (fun hne i hi e => hf hne i hi (hmw i e))) kb (fun hne i hi e => hf hne i hi (.inl e)), hf2⟩
  refine ⟨⟨(open_setCell w' g _ v g).2 ho', by rw [rowD_setCell_at]; simp [hsz], ?_, ?_, ?_, fun i hi => far2 (h.own i hi).1 (h.own i hi).2, fun i hi => far2 (h.outs i hi).1 (h.outs i hi).2, fun i hi => far2 (h.ins i hi).1 (h.ins i hi).2, ?_, ?_, ?_, ?_, h.gb⟩,
    (k.mono (fun i _ hi => hmw i hi)).trans kb (fun i _ hi => .inl hi)⟩
  · intro i hi
    rw [cellsAt_past _ (.inr (by omega)), hcat]
    exact h.st i hi
  · intro c d hc hd
    show _ = some (upd2 V.w a b v c d)
    by_cases e : c = a ∧ d = b
    · obtain ⟨rfl, rfl⟩ := e
      rw [upd2_at]
      exact cell_at_same v ho' (by omega)
    · rw [upd2_ne _ _ e, cell_at_far _ _ (by omega), hcel]
      exact h.wy c d hc hd
  · rw [cell_at_far _ _ (by omega), hcel]
    exact h.n
  · intro c d hc hd
    show OwnOf cMs 31 _ base (upd2 V.w a b v c d) (upd2 ms a b ms' c d)
    by_cases e : c = a ∧ d = b
    · obtain ⟨rfl, rfl⟩ := e
      rw [upd2_at, upd2_at]
      exact kb.owns ho (fun i hi e => by have h1 := (ho.lt i hi).1; have h2 := h.gb; have : i = g := e; omega)
    · rw [upd2_ne _ _ e, upd2_ne _ _ e]
      have h1 : OwnOf cMs 31 w' base (V.w c d) (ms c d) := k.owns (h.row c d hc hd) (fun i hi e2 => by
        have := h.apart c d a b i hc hd ha hb hi e2
        exact e this)
      exact kb.owns h1 (fun i hi e => by have h1 := (h1.lt i hi).1; have h2 := h.gb; have : i = g := e; omega)
  · intro c d hc hd
    show (upd2 ms a b ms' c d).map mcOf = upd2 W.way a b (ms'.map mcOf) c d
    by_cases e : c = a ∧ d = b
    · obtain ⟨rfl, rfl⟩ := e
      rw [upd2_at, upd2_at]
    · rw [upd2_ne _ _ e, upd2_ne _ _ e]
      exact h.said c d hc hd
  · intro c d hc hd m hm
    change m ∈ upd2 ms a b ms' c d at hm
    by_cases e : c = a ∧ d = b
    · obtain ⟨rfl, rfl⟩ := e
      rw [upd2_at] at hm
      obtain ⟨h1, h2⟩ := hl m hm
      refine ⟨rd_kept h1 kb (fun hne i hi e => (h2 hne i hi).1 (.inl e)), fun hne i hi hm2 => ?_⟩
      rcases hm2 with rfl | ⟨p, q, hp, hq, hm2⟩
      · exact (h2 hne _ hi).1 (.inl rfl)
      · change (upd2 V.w c d v p q).ownBlock = some i at hm2
        by_cases e : p = c ∧ q = d
        · obtain ⟨rfl, rfl⟩ := e
          rw [upd2_at] at hm2
          exact (h2 hne i hi).2 hm2
        · rw [upd2_ne _ _ e] at hm2
          exact (h2 hne i hi).1 (.inr ⟨p, q, hp, hq, hm2⟩)
    · rw [upd2_ne _ _ e] at hm
      exact far2 (h.lists c d hc hd m hm).1 (h.lists c d hc hd m hm).2
  · intro c d p q i hc hd hp hq h1 h2
    change (upd2 V.w a b v c d).ownBlock = some i at h1
    change (upd2 V.w a b v p q).ownBlock = some i at h2
    by_cases e1 : c = a ∧ d = b <;> by_cases e2 : p = a ∧ q = b
    · exact ⟨e1.1.trans e2.1.symm, e1.2.trans e2.2.symm⟩
    · obtain ⟨rfl, rfl⟩ := e1
      rw [upd2_at] at h1
      rw [upd2_ne _ _ e2] at h2
      rcases hv i h1 with h3 | h3
      · exact h.apart _ _ _ _ i hc hd hp hq h3 h2
      · have := ((h.row p q hp hq).lt i h2).2
        omega
    · obtain ⟨rfl, rfl⟩ := e2
      rw [upd2_ne _ _ e1] at h1
      rw [upd2_at] at h2
      rcases hv i h2 with h3 | h3
      · exact h.apart _ _ _ _ i hc hd hp hq h1 h3
      · have := ((h.row c d hc hd).lt i h1).2
        omega
    · rw [upd2_ne _ _ e1] at h1
      rw [upd2_ne _ _ e2] at h2
      exact h.apart _ _ _ _ i hc hd hp hq h1 h2

/-- one's own alone -/
theorem WAt.putOwn (h : WAt w g base V ms W) {k : Nat} (hk : k < 3) {o : Value} {l : List Bd} (ho : RdOf cBd w o l ∧ FarL g V o l) :
    WAt (w.setCell ⟨g, k * 8 + 2, none⟩ o) g base (V.setS k o (V.u k) (V.i k)) ms (W.setS k ⟨l, (W.s k).outs, (W.s k).ins, (W.s k).nx⟩) ∧ Keeps (Own g) w (w.setCell ⟨g, k * 8 + 2, none⟩ o) := by
  have kb : Keeps (Own g) w (w.setCell ⟨g, k * 8 + 2, none⟩ o) := (Keeps.refl (S := Own g) w).setCell (p := ⟨g, k * 8 + 2, none⟩) (fun _ => (rfl : g = g)) o
  refine ⟨h.setS hk ((open_setCell w g _ o g).2 h.box) (by rw [rowD_setCell_at]; simp [h.size]) ?_ (fun j hj hne => cellsAt_past _ (by omega)) (fun j hj => cell_at_far _ _ (by omega)) kb ho (h.outs k hk) (h.ins k hk), kb⟩
  rw [cellsAt_setCell_at, h.st k hk]
  show some (if k * 8 ≤ k * 8 + 2 then _ else _) = _
  rw [if_pos (by omega), Nat.add_sub_cancel_left]
  rfl
/-- one more -/
theorem WAt.putN (h : WAt w g base V ms W) (n : Nat) : WAt (w.setCell ⟨g, 33, none⟩ (.int .i64 n)) g base V ms { W with n := n } ∧ Keeps (Own g) w (w.setCell ⟨g, 33, none⟩ (.int .i64 n)) := by
  have kb : Keeps (Own g) w (w.setCell ⟨g, 33, none⟩ (.int .i64 n)) := (Keeps.refl (S := Own g) w).setCell (p := ⟨g, 33, none⟩) (fun _ => (rfl : g = g)) _
  refine ⟨⟨(open_setCell w g _ _ g).2 h.box, by rw [rowD_setCell_at]; simp [h.size], fun i hi => ?_, fun a b ha hb => ?_, cell_at_same _ h.box (by rw [h.size]; omega),
    fun i hi => ⟨rd_box (h.own i hi).1 (h.own i hi).2 kb, (h.own i hi).2⟩, fun i hi => ⟨rd_box (h.outs i hi).1 (h.outs i hi).2 kb, (h.outs i hi).2⟩, fun i hi => ⟨rd_box (h.ins i hi).1 (h.ins i hi).2 kb, (h.ins i hi).2⟩,
    fun a b ha hb => own_box h ha hb kb, h.said, fun a b ha hb m hm => ⟨rd_box (h.lists a b ha hb m hm).1 (h.lists a b ha hb m hm).2 kb, (h.lists a b ha hb m hm).2⟩, h.apart, h.gb⟩, kb⟩
  · rw [cellsAt_past _ (.inr (by omega))]
    exact h.st i hi
  · rw [cell_at_far _ _ (by omega)]
    exact h.wy a b ha hb
end
end Go.Proofs.Ytggaeihinheojaa
