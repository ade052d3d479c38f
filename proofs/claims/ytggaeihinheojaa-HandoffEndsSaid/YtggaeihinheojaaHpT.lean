/-
  Three shards and three lists of names beside them, in memory; a rest as data. No conditions of its own.
-/
import Derived.Test.YtggaeihinheojaaHpL
import Derived.Test.YtggaeihinheojaaHpO
namespace Go.Proofs.Ytggaeihinheojaa
open Go.RowKit

theorem Try.infoId : (Try.prog.info? 35).map (fun i => (i.zero, i.size, i.bytes)) = some (some (.agg (idC ⟨0, 0, 0⟩).toArray), 3, 24) := by kernel_rfl
def idP (a : Idn) (b : Bd) : Prop := b.s = a.s ∧ b.i = a.i ∧ b.g = a.g

/-- THREE LISTS OF NAMES: the array at q, and their rows from B on -/
structure QAt (w : World) (q B : Nat) (vz : Nat → Value) (Z : Nat → List Idn) : Prop where
  box : Open w q
  size : (rowD w q).size = 3
  cell : ∀ t, t < 3 → w.cell? ⟨q, t, none⟩ = some (vz t)
  row : ∀ t, t < 3 → OwnOf cId 35 w B (vz t) (Z t)
  apart : ∀ s t i, s < 3 → t < 3 → (vz s).ownBlock = some i → (vz t).ownBlock = some i → s = t
  qB : q < B
/-- the blocks of the lists -/
def QBlk (q : Nat) (vz : Nat → Value) (i : Nat) : Prop := i = q ∨ ∃ t, t < 3 ∧ (vz t).ownBlock = some i

section
variable {w w' : World} {q B : Nat} {vz : Nat → Value} {Z : Nat → List Idn}
theorem QAt.qlt (h : QAt w q B vz Z) : q < w.heap.size := by
  obtain ⟨C, t, hh⟩ := h.box
  exact (Array.getElem?_eq_some_iff.1 hh).1
theorem QAt.lt (h : QAt w q B vz Z) {i : Nat} (hi : QBlk q vz i) : i < w.heap.size := by
  rcases hi with rfl | ⟨t, ht, hi⟩
  · exact h.qlt
  · exact ((h.row t ht).lt i hi).2
theorem QAt.ge (h : QAt w q B vz Z) {i : Nat} (hi : QBlk q vz i) : q ≤ i := by
  rcases hi with rfl | ⟨t, ht, hi⟩
  · exact Nat.le_refl _
  · have h1 := ((h.row t ht).lt i hi).1
    have h2 := h.qB
    omega
theorem QAt.keeps {S : Nat → Prop} (h : QAt w q B vz Z) (k : Keeps S w w') (hs : ∀ i, QBlk q vz i → ¬ S i) : QAt w' q B vz Z := by
  obtain ⟨C, t, hh⟩ := h.box
  have hq := k.heap hh (hs q (.inl rfl))
  refine ⟨⟨C, t, hq⟩, ?_, fun t ht => ?_, fun t ht => k.owns (h.row t ht) (fun i hi e => hs i (.inr ⟨t, ht, hi⟩) e), h.apart, h.qB⟩
  · have h1 : rowD w q = C := by unfold rowD; rw [hh]
    have h2 : rowD w' q = C := by unfold rowD; rw [hq]
    rw [h2, ← h1]
    exact h.size
  · have h1 := h.cell t ht
    simp [World.cell?, hh] at h1
    simp [World.cell?, hq, h1]
/-- one more in a list -/
theorem QAt.push (h : QAt w q B vz Z) {t : Nat} (ht : t < 3) (k : Keeps (Of (vz t)) w w') {v : Value} {l : List Idn} (ho : OwnOf cId 35 w' B v l) (hv : ∀ i, v.ownBlock = some i → (vz t).ownBlock = some i ∨ w.heap.size ≤ i) :
    QAt (w'.setCell ⟨q, t, none⟩ v) q B (upd vz t v) (upd Z t l) := by
  have hqn : ¬ Of (vz t) q := fun e => by
    have h1 := ((h.row t ht).lt q e).1
    have h2 := h.qB
    omega
  obtain ⟨C, ty, hh⟩ := h.box
  have hq := k.heap hh hqn
  have hbx : Open w' q := ⟨C, ty, hq⟩
  have hr : rowD w' q = rowD w q := by unfold rowD; rw [hh, hq]
  have hsz : (rowD w' q).size = 3 := by rw [hr]; exact h.size
  have kb : Keeps (Own q) w' (w'.setCell ⟨q, t, none⟩ v) := (Keeps.refl (S := Own q) w').setCell (p := ⟨q, t, none⟩) (fun _ => (rfl : q = q)) v
  refine ⟨(open_setCell w' q _ v q).2 hbx, by rw [rowD_setCell_at]; simp [hsz], fun s hs => ?_, fun s hs => ?_, fun s u i hs hu h1 h2 => ?_, h.qB⟩
  · by_cases e : s = t
    · subst e
      rw [upd_at]
      exact cell_at_same v hbx (by omega)
    · rw [upd_ne _ _ e, cell_at_far _ _ (fun h => e h.symm)]
      have h1 := h.cell s hs
      simp [World.cell?, hh] at h1
      simp [World.cell?, hq, h1]
  · by_cases e : s = t
    · subst e
      rw [upd_at, upd_at]
      exact kb.owns ho (fun i hi e => by have h1 := (ho.lt i hi).1; have h2 := h.qB; have : i = q := e; omega)
    · rw [upd_ne _ _ e, upd_ne _ _ e]
      have h1 : OwnOf cId 35 w' B (vz s) (Z s) := k.owns (h.row s hs) (fun i hi e2 => e (h.apart s t i hs ht hi e2))
      exact kb.owns h1 (fun i hi e => by have h1 := (h1.lt i hi).1; have h2 := h.qB; have : i = q := e; omega)
  · by_cases e1 : s = t <;> by_cases e2 : u = t
    · exact e1.trans e2.symm
    · subst e1
      rw [upd_at] at h1
      rw [upd_ne _ _ e2] at h2
      rcases hv i h1 with h3 | h3
      · exact absurd (h.apart _ _ i hs hu h3 h2).symm e2
      · have := ((h.row u hu).lt i h2).2
        omega
    · subst e2
      rw [upd_at] at h2
      rw [upd_ne _ _ e1] at h1
      rcases hv i h2 with h3 | h3
      · exact h.apart _ _ i hs hu h1 h3
      · have := ((h.row s hs).lt i h1).2
        omega
    · rw [upd_ne _ _ e1] at h1
      rw [upd_ne _ _ e2] at h2
      exact h.apart _ _ i hs hu h1 h2
end

/-- what is to be found at the end -/
def Wants (W : Wd) (Z : Nat → List Idn) : Prop := ∀ t, t < 3 → ∀ a ∈ Z t, Wt W t (idP a)

/-- A REST UNDER WAY -/
structure Live (w1 : World) (g q B : Nat) (vz : Nat → Value) (Z : Nat → List Idn) (U : Nat) (wr : World) (V : Vs) (ms : Nat → Nat → List Ms) (W : Wd) (T : Nat) : Prop where
  wat : WAt wr g (g + 1) V ms W
  ok : Ok W T
  sum : T + Pot W = U
  wts : Wants W Z
  qat : QAt wr q B vz Z
  sep : ∀ i, Mut g V i → ¬ QBlk q vz i
  up : Keeps (Up g) w1 wr
  hb : g + 1 ≤ wr.heap.size

section
variable {w1 wr w' : World} {g q B U T : Nat} {vz : Nat → Value} {Z : Nat → List Idn} {V V' : Vs} {ms ms' : Nat → Nat → List Ms} {W W' : Wd}
theorem Live.no (h : Live w1 g q B vz Z U wr V ms W T) (k : Keeps No wr w') : Live w1 g q B vz Z U w' V ms W T :=
  ⟨h.wat.no k, h.ok, h.sum, h.wts, h.qat.keeps k (fun _ _ h => h), h.sep, h.up.trans (k.mono (T := Up g) (fun _ _ h => h.elim)) (fun _ _ h => h), Nat.le_trans h.hb k.size⟩
theorem Live.step (h : Live w1 g q B vz Z U wr V ms W T) (hw : WAt w' g (g + 1) V' ms' W') (hr : Rest W W' T 1) (ho : Onward wr g V V' w') : Live w1 g q B vz Z U w' V' ms' W' (T + 1) := by
  refine ⟨hw, hr.ok, ?_, fun t ht a ha => hr.wt t _ (h.wts t ht a ha), h.qat.keeps ho.1 (fun i hi hm => h.sep i hm hi), fun i hm hi => ?_, h.up.trans (ho.1.mono (fun i _ hi => h.wat.mut_up hi)) (fun _ _ h => h), Nat.le_trans h.hb ho.1.size⟩
  · have h1 := h.sum
    have h2 := hr.pot
    omega
  · rcases ho.2 i hm with h1 | h1
    · exact h.sep i h1 hi
    · have := h.qat.lt hi
      omega
end

/-- nothing is asked for and nothing comes from the shards ahead of one -/
def Quiet (W : Wd) (a : Nat) : Prop := ∀ k, k < a → mayNext (W.s k).outs (W.s k).nx = false ∧ ∀ b, b < 3 → W.way k b = []
def b2n (b : Bool) : Nat := bif b then 0 else 1
/-- IN A ROUND: what was done so far, since W0 -/
def InRound (W0 W : Wd) (idle : Bool) (a : Nat) : Prop := Pot W + b2n idle ≤ Pot W0 ∧ (idle = true → W = W0 ∧ Quiet W0 a)
def InRow (W0 W : Wd) (idle : Bool) (a b : Nat) : Prop := Pot W + b2n idle ≤ Pot W0 ∧ (idle = true → W = W0 ∧ Quiet W0 a ∧ mayNext (W0.s a).outs (W0.s a).nx = false ∧ ∀ c, c < b → W0.way a c = [])
theorem InRound.start (W : Wd) : InRound W W true 0 := ⟨by simp [b2n], fun _ => ⟨rfl, fun k hk => by omega⟩⟩
theorem InRow.next {W0 W : Wd} {idle : Bool} {a : Nat} (h : InRow W0 W idle a 3) : InRound W0 W idle (a + 1) := by
  refine ⟨h.1, fun hi => ?_⟩
  obtain ⟨h1, h2, h3, h4⟩ := h.2 hi
  refine ⟨h1, fun k hk => ?_⟩
  by_cases e : k = a
  · subst e
    exact ⟨h3, fun b hb => h4 b hb⟩
  · exact h2 k (by omega)
theorem InRound.askNo {W0 W : Wd} {idle : Bool} {a : Nat} (h : InRound W0 W idle a) (hm : mayNext (W.s a).outs (W.s a).nx = false) : InRow W0 W idle a 0 := by
  refine ⟨h.1, fun hi => ?_⟩
  obtain ⟨rfl, h2⟩ := h.2 hi
  exact ⟨rfl, h2, hm, fun c hc => by omega⟩
theorem InRound.askYes {W0 W W' : Wd} {idle : Bool} {T a : Nat} (h : InRound W0 W idle a) (hr : Rest W W' T 1) : InRow W0 W' false a 0 := by
  refine ⟨?_, fun hi => by cases hi⟩
  have h1 := h.1
  have h2 := hr.pot
  show Pot W' + 1 ≤ Pot W0
  omega
theorem InRow.comeNo {W0 W : Wd} {idle : Bool} {a b : Nat} (h : InRow W0 W idle a b) (hw : W.way a b = []) : InRow W0 W idle a (b + 1) := by
  refine ⟨h.1, fun hi => ?_⟩
  obtain ⟨rfl, h2, h3, h4⟩ := h.2 hi
  refine ⟨rfl, h2, h3, fun c hc => ?_⟩
  by_cases e : c = b
  · subst e; exact hw
  · exact h4 c (by omega)
theorem InRow.comeYes {W0 W W' : Wd} {idle : Bool} {T a b : Nat} (h : InRow W0 W idle a b) (hr : Rest W W' T 1) : InRow W0 W' false a (b + 1) := by
  refine ⟨?_, fun hi => by cases hi⟩
  have h1 := h.1
  have h2 := hr.pot
  show Pot W' + 1 ≤ Pot W0
  omega
/-- the end of a rest -/
theorem rest_end {W0 W : Wd} {T : Nat} (h : InRound W0 W true 3) (hO : Ok W T) (hT : T < 1099511627776) : ∀ k, k < 3 → (W.s k).outs = [] ∧ (W.s k).ins = [] := by
  obtain ⟨rfl, hq⟩ := h.2 rfl
  exact idle_end hO hT (fun a b ha hb => (hq a ha).2 b hb) (fun k hk => (hq k hk).1)
theorem want_found {W : Wd} {T : Nat} (hO : Ok W T) (he : ∀ k, k < 3 → (W.s k).outs = [] ∧ (W.s k).ins = []) {t : Nat} (ht : t < 3) {a : Idn} (h : Wt W t (idP a)) : findIs a.s a.i a.g (W.s t).own = true := by
  rw [findIs_iff (hO.S.sorted t ht)]
  rcases h with ⟨b, hb, hP⟩ | ⟨k, hk, o, ho, _⟩
  · exact ⟨b, hb, hP⟩
  · rw [(he k hk).1] at ho
    cases ho
end Go.Proofs.Ytggaeihinheojaa
