/-
  Texts in one: Late, LateB, LateC. No conditions of their own.
-/
import Derived.Deep.RegionHeld3
import Derived.Test.YtndjnkjcfdaegaaGreatDoorZh01
set_option linter.all false

/-
  A region that draws its order, whose last operations store what its earlier ones load: what is loaded may be taken first, for the stores wait for it. Plain laws, over any program. No conditions of their own.
-/
namespace Go.Proofs.YtndjnkjcfdaegaaGreatDoor
open Go.RowKit

section
variable {P : Program} {ops : Array Oper} {Q : Exit → Act → World → Prop} {md : Region.Mode} {A S : World → Prop} {late : Nat → Bool}

/-- no late operation has come up -/
def NoLate (late : Nat → Bool) (listed : Array Bool) : Prop := ∀ j, late j = true → listed.getD j false = false
theorem NoLate.set {listed : Array Bool} {i : Nat} (h : late i = false) : NoLate late (listed.setIfInBounds i true) ↔ NoLate late listed := by
  unfold NoLate
  refine forall_congr' fun j => forall_congr' fun hj => ?_
  have hne : i ≠ j := fun e => by rw [e, hj] at h; cases h
  simp only [Array.getD_eq_getD_getElem?, Array.getElem?_setIfInBounds_ne hne]

/-- Whatever order is picked from here on: A holds behind every operation that is carried out, and S as long as no late one has come up. -/
def wpAnyL (P : Program) (md : Region.Mode) (ops : Array Oper) (Q : Exit → Act → World → Prop) (A S : World → Prop) (late : Nat → Bool) : Nat → Array Bool → Act → World → Prop
  | 0, listed, a, w => Region.ready md ops listed = [] ∧ Q .normal a w
  | fuel + 1, listed, a, w =>
    (Region.ready md ops listed = [] → Q .normal a w) ∧
    ∀ i ∈ Region.ready md ops listed, wpOp P ops Q i (fun a' w' => (A w' ∧ (NoLate late (listed.setIfInBounds i true) → S w')) ∧ wpAnyL P md ops Q A S late fuel (listed.setIfInBounds i true) a' w') a w

theorem wpAny_of_late : ∀ (fuel : Nat) (listed : Array Bool) (a : Act) (w : World), wpAnyL P md ops Q A S late fuel listed a w → wpAny P md ops Q fuel listed a w
  | 0, _, _, _, h => h
  | fuel + 1, _, _, _, h => ⟨h.1, fun i hi => wpOp_mono (fun a' w' h' => wpAny_of_late fuel _ a' w' h'.2) (h.2 i hi)⟩

/-- all late operations wait for number i -/
def lateWait (md : Region.Mode) (ops : Array Oper) (late : Nat → Bool) (i : Nat) : Bool :=
  (List.range ops.size).all fun j => !late j || match ops[j]? with
    | some oj => oj.after.toList.any fun e => Region.binds md e && e.on == i
    | none => true
theorem lateWait_spec {i j : Nat} {oj : Oper} (h : lateWait md ops late i = true) (hj : ops[j]? = some oj) (hl : late j = true) : ∃ e ∈ oj.after, Region.binds md e = true ∧ e.on = i := by
  unfold lateWait at h
  rw [List.all_eq_true] at h
  have := h j (List.mem_range.2 (Array.getElem?_eq_some_iff.1 hj).1)
  rw [hl, hj] at this
  simp only [Bool.not_true, Bool.false_or] at this
  rw [List.any_eq_true] at this
  obtain ⟨e, he, h2⟩ := this
  simp only [Bool.and_eq_true, beq_iff_eq] at h2
  exact ⟨e, by simpa using he, h2.1, h2.2⟩

theorem wpAnyL_first {T : World → Prop} {i : Nat} {oi : Oper} {v : Value} (hi : ops[i]? = some oi) (hsel : ∀ (j : Nat) (o : Oper) cs b, ops[j]? = some o → o.op ≠ .select cs b)
    (hQ : ∀ c a w, Q (.panic c) (a.put oi.dst v) w → Q (.panic c) a w) (hli : late i = false) (hT : (∀ w, A w → T w) ∨ ((∀ w, S w → T w) ∧ lateWait md ops late i = true)) :
    ∀ (fuel : Nat) (listed : Array Bool) (a : Act) (w : World),
      (∀ j oj, ops[j]? = some oj → j ≠ i → listed.getD j true = false → (∀ e ∈ oj.after, Region.binds md e = true → e.on ≠ i) → oi.apart ops oj = true) →
      i ∈ Region.ready md ops listed → YieldsIf P ops T oi v a → ((∀ w, A w → T w) ∨ NoLate late listed) → A w → (NoLate late listed → S w) →
      wpAnyL P md ops Q A S late fuel (listed.setIfInBounds i true) (a.put oi.dst v) w → wpAnyL P md ops Q A S late (fuel + 1) listed a w := by
  intro fuel
  induction fuel with
  | zero =>
    intro listed a w _ hr hy hN hA hS H
    refine ⟨fun h => (by rw [h] at hr; cases hr), fun j hj => ?_⟩
    by_cases hji : j = i
    · subst hji
      refine hy.wpOp hi ?_ ⟨⟨hA, fun h => hS ((NoLate.set hli).1 h)⟩, H⟩
      rcases hT with hT | ⟨hT, _⟩
      · exact hT w hA
      · rcases hN with hN | hN
        · exact hN w hA
        · exact hT w (hS hN)
    · have := ready_mono hj hji
      rw [H.1] at this
      cases this
  | succ fuel ih =>
    intro listed a w hfree hr hy hN hA hS H
    refine ⟨fun h => (by rw [h] at hr; cases hr), fun j hj => ?_⟩
    by_cases hji : j = i
    · subst hji
      refine hy.wpOp hi ?_ ⟨⟨hA, fun h => hS ((NoLate.set hli).1 h)⟩, H⟩
      rcases hT with hT | ⟨hT, _⟩
      · exact hT w hA
      · rcases hN with hN | hN
        · exact hN w hA
        · exact hT w (hS hN)
    · have h1 := H.2 j (ready_mono hj hji)
      obtain ⟨hjun, oj, hoj, hall⟩ := mem_ready.1 hj
      have hnot : ∀ e ∈ oj.after, Region.binds md e = true → e.on ≠ i := fun e he hb heq => by
        have h1 := hall e he hb
        have h0 := (mem_ready.1 hr).1
        rw [heq] at h1
        rcases Nat.lt_or_ge i listed.size with h' | h'
        · simp [h'] at h0 h1; rw [h0] at h1; cases h1
        · simp [Array.getElem?_eq_none h'] at h1
      have h2 := wpOp_putIf hoj (hfree j oj hoj hji hjun hnot) (fun cs b => hsel i oi cs b hi) (fun cs b => hsel j oj cs b hoj) hQ hy h1
      have hfree' : ∀ k ok, ops[k]? = some ok → k ≠ i → (listed.setIfInBounds j true).getD k true = false →
          (∀ e ∈ ok.after, Region.binds md e = true → e.on ≠ i) → oi.apart ops ok = true := fun k ok hk hki hun hno => by
        refine hfree k ok hk hki ?_ hno
        by_cases hjk : j = k
        · subst hjk; exact hjun
        · rw [getD_set_ne true hjk] at hun; exact hun
      have hN' : (∀ w, A w → T w) ∨ NoLate late (listed.setIfInBounds j true) := by
        rcases hT with hT | ⟨_, hw⟩
        · exact .inl hT
        · rcases hN with hN | hN
          · exact .inl hN
          · refine .inr ?_
            cases hlj : late j with
            | false => exact (NoLate.set hlj).2 hN
            | true =>
              obtain ⟨e, he, hb, hon⟩ := lateWait_spec hw hoj hlj
              exact absurd hon (hnot e he hb)
      have hcomm : (listed.setIfInBounds i true).setIfInBounds j true = (listed.setIfInBounds j true).setIfInBounds i true := (Array.setIfInBounds_comm _ _ (Ne.symm hji))
      refine wpOp_mono (fun a' w' h3 => ?_) h2
      have hS' : NoLate late (listed.setIfInBounds j true) → S w' := fun h => h3.2.1.2 (by rw [hcomm]; exact (NoLate.set hli).2 h)
      refine ⟨⟨h3.2.1.1, hS'⟩, ih (listed.setIfInBounds j true) a' w' hfree' (ready_mono hr (Ne.symm hji)) h3.1 hN' h3.2.1.1 hS' ?_⟩
      rw [← hcomm]
      exact h3.2.2

/-- Number i is taken first: it may come up, what it yields hangs on S alone, and all late ones wait for it. -/
theorem takeL {i d : Nat} {oi : Oper} {v : Value} {fuel : Nat} {listed : Array Bool} {a : Act} {w : World} (hi : ops[i]? = some oi) (hd : oi.dst = some d)
    (hs : Region.noSelect ops = true) (hf : Region.free md ops listed i = true) (hr : (Region.ready md ops listed).contains i = true) (hl : (!late i && lateWait md ops late i) = true) (hn : NoLate late listed)
    (hQ : ∀ c a w, Q (.panic c) (a.put oi.dst v) w → Q (.panic c) a w) (hy : YieldsIf P ops S oi v a) (hA : A w) (hS : S w)
    (h : wpAnyL P md ops Q A S late fuel (listed.setIfInBounds i true) ⟨a.tmps.setIfInBounds d v, a.defers⟩ w) : wpAnyL P md ops Q A S late (fuel + 1) listed a w := by
  simp only [Bool.and_eq_true, Bool.not_eq_true'] at hl
  exact wpAnyL_first (T := S) hi (Region.noSelect_spec hs) hQ hl.1 (.inr ⟨fun _ h => h, hl.2⟩) fuel listed a w (Region.free_spec hi hf) (by simpa using hr) hy (.inr hn) hA (fun _ => hS) (by rw [hd]; exact h)
/-- .. what it yields hangs on A alone -/
theorem takeW {i d : Nat} {oi : Oper} {v : Value} {fuel : Nat} {listed : Array Bool} {a : Act} {w : World} (hi : ops[i]? = some oi) (hd : oi.dst = some d)
    (hs : Region.noSelect ops = true) (hf : Region.free md ops listed i = true) (hr : (Region.ready md ops listed).contains i = true) (hl : late i = false)
    (hQ : ∀ c a w, Q (.panic c) (a.put oi.dst v) w → Q (.panic c) a w) (hy : YieldsIf P ops A oi v a) (hA : A w) (hS : NoLate late listed → S w)
    (h : wpAnyL P md ops Q A S late fuel (listed.setIfInBounds i true) ⟨a.tmps.setIfInBounds d v, a.defers⟩ w) : wpAnyL P md ops Q A S late (fuel + 1) listed a w :=
  wpAnyL_first (T := A) hi (Region.noSelect_spec hs) hQ hl (.inl fun _ h => h) fuel listed a w (Region.free_spec hi hf) (by simpa using hr) hy (.inl fun _ h => h) hA hS (by rw [hd]; exact h)

def AllReadyL (P : Program) (md : Region.Mode) (ops : Array Oper) (Q : Exit → Act → World → Prop) (A S : World → Prop) (late : Nat → Bool) (fuel : Nat) (listed : Array Bool) (a : Act) (w : World) (rs : List Nat) : Prop :=
  ∀ i ∈ rs, wpOp P ops Q i (fun a' w' => (A w' ∧ (NoLate late (listed.setIfInBounds i true) → S w')) ∧ wpAnyL P md ops Q A S late fuel (listed.setIfInBounds i true) a' w') a w
theorem AllReadyL.nil {fuel : Nat} {listed : Array Bool} {a : Act} {w : World} : AllReadyL P md ops Q A S late fuel listed a w [] := fun _ h => by cases h
theorem AllReadyL.cons {fuel : Nat} {listed : Array Bool} {a : Act} {w : World} {i : Nat} {o : Oper} {rs : List Nat} (ho : ops[i]? = some o)
    (h : ∀ K' : Act → World → Prop, Shut (∀ a w, A w → (NoLate late (listed.setIfInBounds i true) → S w) → wpAnyL P md ops Q A S late fuel (listed.setIfInBounds i true) a w → K' a w) → if Region.wanted o (yielded ops a.tmps) = true then Oper.wp P o a w K' Q else K' (a.put o.dst undef) w)
    (hs : AllReadyL P md ops Q A S late fuel listed a w rs) : AllReadyL P md ops Q A S late fuel listed a w (i :: rs) := fun j hj => by
  rcases List.mem_cons.1 hj with rfl | hj
  · exact wpOp_step ho (fun K' hK => h K' (fun a w hA hS hW => hK a w ⟨⟨hA, hS⟩, hW⟩))
  · exact hs j hj
theorem readyL {rs : List Nat} {fuel : Nat} {listed : Array Bool} {a : Act} {w : World} (hr : Region.ready md ops listed = rs) (hne : rs ≠ [])
    (h : AllReadyL P md ops Q A S late fuel listed a w rs) : wpAnyL P md ops Q A S late (fuel + 1) listed a w := ⟨fun h0 => absurd (hr ▸ h0) hne, hr ▸ h⟩
theorem doneL {listed : Array Bool} {a : Act} {w : World} (hr : Region.ready md ops listed = []) (h : Q .normal a w) : ∀ fuel, wpAnyL P md ops Q A S late fuel listed a w
  | 0 => ⟨hr, h⟩
  | _ + 1 => ⟨fun _ => h, by rw [hr]; simp⟩
theorem wp_region_late {id : Nat} {a : Act} {w : World} (A S : World → Prop) (late : Nat → Bool) (hm : P.follows .mixedOrders = true)
    (h : wpAnyL P .any ops Q A S late ops.size (Array.replicate ops.size false) a w.drew) : (Code.region id ops true).wp P Q a w :=
  wp_region_any hm (wpAny_of_late _ _ _ _ h)
end
end Go.Proofs.YtndjnkjcfdaegaaGreatDoor

/-
  Small laws beside Late. No conditions of their own.
-/
namespace Go.Proofs.YtndjnkjcfdaegaaGreatDoor

theorem noLate_of {late : Nat → Bool} {listed : Array Bool} (h : ((List.range listed.size).all fun j => !late j || !listed.getD j false) = true) : NoLate late listed := by
  intro j hj
  by_cases hl : j < listed.size
  · rw [List.all_eq_true] at h
    have := h j (List.mem_range.2 hl)
    rw [hj] at this
    simpa using this
  · simp [Array.getD_eq_getD_getElem?, hl]
theorem put_of {K : Act → World → Prop} {x : Option Nat} {d : Nat} {a : Act} {v : Value} {w : World} (hd : x = some d) (h : K ⟨a.tmps.setIfInBounds d v, a.defers⟩ w) : K (a.put x v) w := by
  rw [hd]; exact h
end Go.Proofs.YtndjnkjcfdaegaaGreatDoor

/-
  Late's takes by a list. No conditions of their own.
-/
namespace Go.Proofs.YtndjnkjcfdaegaaGreatDoor

section
variable {P : Program} {md : Region.Mode} {ops : Array Oper} {Q : Exit → Act → World → Prop} {A S : World → Prop} {late : Nat → Bool}
/-- what is to be taken first, in this order -/
def Todo (_ : List Nat) (p : Prop) : Prop := p
theorem Todo.of {p : Prop} (l : List Nat) (h : Todo l p) : p := h
theorem Todo.nil {p : Prop} (h : Todo [] p) : p := h
/-- takeW, for the first of a list; what the program alone decides is found by itself -/
theorem Todo.w {i d : Nat} {l : List Nat} {oi : Oper} {v : Value} {fuel : Nat} {listed : Array Bool} {a : Act} {w : World} (hy : ∀ w, A w → (execOp a.eval oi).run P w = .ok (.value v) w) (hA : A w) (hS : S w)
    (h : Todo l (wpAnyL P md ops Q A S late fuel (listed.setIfInBounds i true) ⟨a.tmps.setIfInBounds d v, a.defers⟩ w)) (hi : ops[i]? = some oi := by exact rfl) (hd : oi.dst = some d := by exact rfl)
    (hs : Region.noSelect ops = true := by kernel_rfl) (hf : Region.free md ops listed i = true := by kernel_rfl) (hr : (Region.ready md ops listed).contains i = true := by kernel_rfl) (hl : late i = false := by exact rfl)
    (hQ : ∀ c a w, Q (.panic c) (a.put oi.dst v) w → Q (.panic c) a w := by exact fun _ _ _ h => h) (hw : Region.wanted oi (yielded ops a.tmps) = true := by rfl) : Todo (i :: l) (wpAnyL P md ops Q A S late (fuel + 1) listed a w) :=
  takeW hi hd hs hf hr hl hQ (Or.inl ⟨hw, hy⟩) hA (fun _ => hS) h
/-- takeL, for the first of a list -/
theorem Todo.l {i d : Nat} {l : List Nat} {oi : Oper} {v : Value} {fuel : Nat} {listed : Array Bool} {a : Act} {w : World} (hy : ∀ w, S w → (execOp a.eval oi).run P w = .ok (.value v) w) (hA : A w) (hS : S w)
    (h : Todo l (wpAnyL P md ops Q A S late fuel (listed.setIfInBounds i true) ⟨a.tmps.setIfInBounds d v, a.defers⟩ w)) (hi : ops[i]? = some oi := by exact rfl) (hd : oi.dst = some d := by exact rfl)
    (hs : Region.noSelect ops = true := by kernel_rfl) (hf : Region.free md ops listed i = true := by kernel_rfl) (hr : (Region.ready md ops listed).contains i = true := by kernel_rfl) (hl : (!late i && lateWait md ops late i) = true := by kernel_rfl)
    (hn : ((List.range listed.size).all fun j => !late j || !listed.getD j false) = true := by kernel_rfl)
    (hQ : ∀ c a w, Q (.panic c) (a.put oi.dst v) w → Q (.panic c) a w := by exact fun _ _ _ h => h) (hw : Region.wanted oi (yielded ops a.tmps) = true := by rfl) : Todo (i :: l) (wpAnyL P md ops Q A S late (fuel + 1) listed a w) :=
  takeL hi hd hs hf hr hl (noLate_of hn) hQ (Or.inl ⟨hw, hy⟩) hA hS h
/-- the next one alone may come up -/
theorem onlyL {fuel : Nat} {listed : Array Bool} {a : Act} {w : World} (i : Nat) {o : Oper}
    (h : ∀ K' : Act → World → Prop, Shut (∀ a w, A w → (NoLate late (listed.setIfInBounds i true) → S w) → wpAnyL P md ops Q A S late fuel (listed.setIfInBounds i true) a w → K' a w) → if Region.wanted o (yielded ops a.tmps) = true then Oper.wp P o a w K' Q else K' (a.put o.dst undef) w)
    (ho : ops[i]? = some o := by exact rfl) (hr : Region.ready md ops listed = [i] := by kernel_rfl) : wpAnyL P md ops Q A S late (fuel + 1) listed a w :=
  readyL (rs := [i]) hr (by simp) (AllReadyL.cons ho h AllReadyL.nil)
end
end Go.Proofs.YtndjnkjcfdaegaaGreatDoor

