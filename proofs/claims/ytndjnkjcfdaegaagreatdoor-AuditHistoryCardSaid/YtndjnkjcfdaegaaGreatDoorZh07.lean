/-
  A drawn region whose operations only read, but for the last one, which waits for all of them (a store, say): walked once. No conditions of their own.
-/
import Derived.Test.YtndjnkjcfdaegaaGreatDoorZh01
import Derived.Shelf.SlSortCmp.QuietGrown
set_option linter.all false
namespace Go.Tail
open Go

section
variable {P : Program} {ops ops' : Array Oper} {C : World → Prop} {Q : Exit → Act → World → Prop} {n : Nat} {o o' : Oper}

/-- each operation waits for earlier ones alone -/
def upB (ops : Array Oper) : Bool := (List.range ops.size).all fun k => match ops[k]? with | none => true | some x => x.after.all fun e => !Region.binds .any e || decide (e.on < k)
/-- the last one waits for all the others -/
def lastB (ops : Array Oper) (n : Nat) : Bool := match ops[n]? with | none => false | some x => (List.range n).all fun j => x.after.any fun e => Region.binds .any e && e.on == j

theorem mem_ready {listed : Array Bool} {i : Nat} : i ∈ Region.ready .any ops listed ↔ i < ops.size ∧ listed.getD i true = false ∧ ∃ x, ops[i]? = some x ∧ ∀ e ∈ x.after, Region.binds .any e = true → listed.getD e.on false = true := by
  unfold Region.ready
  rw [List.mem_filter, List.mem_range]
  constructor
  · rintro ⟨h1, h2⟩
    rw [Bool.and_eq_true] at h2
    obtain ⟨h2, h3⟩ := h2
    refine ⟨h1, by simpa using h2, ops[i], Array.getElem?_eq_getElem h1, fun e he hb => ?_⟩
    rw [Array.getElem?_eq_getElem h1] at h3
    simp only [Option.map_some, Option.getD_some, Array.all_eq_true'] at h3
    have := h3 e he
    rw [hb] at this
    simpa using this
  · rintro ⟨h1, h2, x, hx, h3⟩
    refine ⟨h1, ?_⟩
    rw [Bool.and_eq_true]
    refine ⟨by rw [h2]; rfl, ?_⟩
    rw [hx]
    simp only [Option.map_some, Option.getD_some, Array.all_eq_true']
    intro e he
    cases hb : Region.binds .any e
    · rfl
    · rw [h3 e he hb]; rfl

theorem ready_nil (hu : upB ops = true) {listed : Array Bool} (hs : listed.size = ops.size) (h : Region.ready .any ops listed = []) : ∀ k i, i < k → i < ops.size → listed.getD i false = true := by
  intro k
  induction k with
  | zero => intro i hi; omega
  | succ k ih =>
    intro i hik hi
    by_cases hl : listed.getD i false = true
    · exact hl
    · exfalso
      have : i ∈ Region.ready .any ops listed := by
        refine mem_ready.2 ⟨hi, ?_, ops[i], Array.getElem?_eq_getElem hi, fun e he hb => ?_⟩
        · have : i < listed.size := by omega
          simp [Array.getD, this] at hl ⊢
          exact hl
        · unfold upB at hu
          rw [List.all_eq_true] at hu
          have h1 := hu i (List.mem_range.2 hi)
          rw [Array.getElem?_eq_getElem hi] at h1
          simp only [Array.all_eq_true'] at h1
          have h2 := h1 e he
          rw [hb] at h2
          have h3 : e.on < i := by simpa using h2
          exact ih e.on (by omega) (by omega)
      rw [h] at this
      cases this

theorem last_all (hl : lastB ops n = true) {listed : Array Bool} (h : n ∈ Region.ready .any ops listed) : ∀ j, j < n → listed.getD j false = true := by
  intro j hj
  obtain ⟨_, _, x, hx, h3⟩ := mem_ready.1 h
  unfold lastB at hl
  rw [hx] at hl
  simp only [List.all_eq_true] at hl
  have h1 := hl j (List.mem_range.2 hj)
  rw [Array.any_eq_true'] at h1
  obtain ⟨e, he, h2⟩ := h1
  rw [Bool.and_eq_true] at h2
  have h4 := h3 e he h2.1
  have h5 : e.on = j := by simpa using h2.2
  rwa [h5] at h4

theorem yielded_same (hops : ops' = ops.setIfInBounds n o') (ho : ops[n]? = some o) (hd : o'.dst = o.dst) (t : Array Value) : yielded ops' t = yielded ops t := by
  funext j
  unfold yielded
  rw [hops]
  by_cases hj : n = j
  · subst hj
    have := (Array.getElem?_eq_some_iff.1 ho).1
    rw [Array.getElem?_setIfInBounds_self_of_lt this, ho]
    simp [hd]
  · rw [Array.getElem?_setIfInBounds_ne hj]

theorem ready_same (hops : ops' = ops.setIfInBounds n o') (ho : ops[n]? = some o) (ha : o'.after = o.after) (listed : Array Bool) : Region.ready .any ops' listed = Region.ready .any ops listed := by
  unfold Region.ready
  have hz : ops'.size = ops.size := by rw [hops]; simp
  rw [hz]
  refine List.filter_congr fun i _ => ?_
  by_cases hj : n = i
  · subst hj
    have := (Array.getElem?_eq_some_iff.1 ho).1
    rw [hops, Array.getElem?_setIfInBounds_self_of_lt this, ho]
    simp [ha]
  · rw [hops, Array.getElem?_setIfInBounds_ne hj]

theorem wpAny_tail (hn : ops.size = n + 1) (ho : ops[n]? = some o) (hops : ops' = ops.setIfInBounds n o') (ha : o'.after = o.after) (hd : o.dst = none) (hd' : o'.dst = none) (hg : o.guard = none) (hu : upB ops = true) (hl : lastB ops n = true) :
    ∀ (fuel : Nat) (listed : Array Bool) (a : Act) (w : World), C w → listed.size = ops.size → listed.getD n true = false →
      wpAnyQ P .any ops' C (fun a' => ∀ w', C w' → o.wp P a' w' (fun a'' w'' => Q .normal a'' w'') Q) fuel listed a → wpAny P .any ops Q fuel listed a w := by
  intro fuel
  have nolast : ∀ listed : Array Bool, listed.size = ops.size → listed.getD n true = false → Region.ready .any ops listed ≠ [] := fun listed hs hf h0 => by
    have h1 := ready_nil hu hs h0 (n + 1) n (by omega) (by omega)
    have : n < listed.size := by omega
    simp [Array.getD, this] at h1 hf
    rw [h1] at hf
    cases hf
  induction fuel with
  | zero =>
    intro listed a w hC hs hf h
    have h0 := h.1
    rw [ready_same hops ho ha] at h0
    exact absurd h0 (nolast _ hs hf)
  | succ fuel ih =>
    intro listed a w hC hs hf h
    refine ⟨fun h0 => absurd h0 (nolast _ hs hf), fun i hi => ?_⟩
    have hi' : i ∈ Region.ready .any ops' listed := by rw [ready_same hops ho ha]; exact hi
    have hq := h.2 i hi'
    by_cases hin : i = n
    · subst hin
      have hlt : i < ops.size := by omega
      have ho' : ops'[i]? = some o' := by rw [hops, Array.getElem?_setIfInBounds_self_of_lt hlt]
      obtain ⟨v, _, hK⟩ := yieldsIn_of_qOp ho' hq
      rw [hd'] at hK
      have hr : Region.ready .any ops (listed.setIfInBounds i true) = [] := by
        rw [List.eq_nil_iff_forall_not_mem]
        intro j hj
        obtain ⟨h1, h2, _⟩ := mem_ready.1 hj
        have hall := last_all hl hi
        by_cases hji : j = i
        · subst hji
          have : j < listed.size := by omega
          simp [Array.getD, this] at h2
        · have hjl := hall j (by omega)
          have h3 : j < listed.size := by omega
          simp [Array.getD, h3, Ne.symm hji] at h2 hjl
          rw [hjl] at h2
          cases h2
      have hQ : ∀ w', C w' → o.wp P a w' (fun a'' w'' => Q .normal a'' w'') Q := by
        have hr' := hr
        rw [← ready_same hops ho ha] at hr'
        cases fuel with
        | zero => exact hK.2
        | succ f => exact hK.1 hr'
      unfold wpOp
      simp only [ho]
      have hw : Region.wanted o (yielded ops a.tmps) = true := by unfold Region.wanted; rw [hg]
      rw [if_pos hw]
      refine .inl (Oper.wp_mono (fun a'' w'' hh => ?_) (hQ w hC))
      cases fuel with
      | zero => exact ⟨hr, hh⟩
      | succ f => exact ⟨fun _ => hh, fun j hj => by rw [hr] at hj; cases hj⟩
    · have he : ops'[i]? = ops[i]? := by rw [hops, Array.getElem?_setIfInBounds_ne (fun h => hin h.symm)]
      have hq2 : qOp P ops C i (wpAnyQ P .any ops' C (fun a' => ∀ w', C w' → o.wp P a' w' (fun a'' w'' => Q .normal a'' w'') Q) fuel (listed.setIfInBounds i true)) a := by
        unfold qOp at hq ⊢
        rw [he, yielded_same hops ho (by rw [hd, hd'])] at hq
        exact hq
      refine wpOp_of_qOp hC (fun a' w' hw' hk => ih _ a' w' hw' (by simpa using hs) ?_ hk) hq2
      rw [Array.getD_eq_getD_getElem?, Array.getElem?_setIfInBounds_ne hin, ← Array.getD_eq_getD_getElem?]
      exact hf

/-- the region: the others quiet in the class C, the last one from any world of C -/
theorem wp_region_tail {id : Nat} {a : Act} {w : World} (hm : P.follows .mixedOrders = true) (hn : ops.size = n + 1) (ho : ops[n]? = some o) (hops : ops' = ops.setIfInBounds n o') (ha : o'.after = o.after) (hd : o.dst = none) (hd' : o'.dst = none) (hg : o.guard = none) (hu : upB ops = true) (hl : lastB ops n = true) (hB : Region.lexB .any ops' = true) (hC : C { w with drawn := w.drawn + 1 })
    (h : wpQuiet P ops' C (fun a' => ∀ w', C w' → o.wp P a' w' (fun a'' w'' => Q .normal a'' w'') Q) ops'.toList a) : (Code.region id ops true).wp P Q a w := by
  simp only [Region.lexB, Bool.and_eq_true] at hB
  have hz : ops'.size = ops.size := by rw [hops]; simp
  refine wp_region_any hm (wpAny_tail hn ho hops ha hd hd' hg hu hl _ _ _ _ hC (by simp) (by simp [Array.getD, hn]) ?_)
  have := wpAnyQ_lex (C := C) (md := .any) hB.1 ops'.toList 0 (Array.replicate ops'.size false) a (by simp) (by simpa using hB.2) h
  rw [← hz]
  simpa using this

open Go.Sort in
theorem wp_region_tail_grown {id : Nat} {a : Act} {w : World} {l l' : List Oper} (hm : P.follows .mixedOrders = true) (hn : l.length = n + 1) (ho : l[n]? = some o) (hl' : l' = l.set n { o with op := .move (.const undef) }) (hd : o.dst = none) (hg : o.guard = none) (hu : upB l.toArray = true) (hl : lastB l.toArray n = true) (hB : Region.lexB .any l'.toArray = true)
    (h : wpQuiet P l'.toArray (fun w' => ∃ p : GrownBy, w' = grow (w.drewN p.n) p.os) (fun a' => ∀ n os, o.wp P a' (grow (w.drewN n) os) (fun a'' w'' => Q .normal a'' w'') Q) l' a) : (Code.region id l.toArray true).wp P Q a w :=
  wp_region_tail (n := n) (o := o) (o' := { o with op := .move (.const undef) }) (C := fun w' => ∃ p : GrownBy, w' = grow (w.drewN p.n) p.os) hm (by simpa using hn) (by simpa using ho) (by rw [hl']; simp) rfl hd hd hg hu hl hB ⟨⟨1, #[]⟩, by rw [grow_empty]; rfl⟩ (by
    have e : (fun a' : Act => ∀ w', (∃ p : GrownBy, w' = grow (w.drewN p.n) p.os) → o.wp P a' w' (fun a'' w'' => Q .normal a'' w'') Q) = (fun a' => ∀ n os, o.wp P a' (grow (w.drewN n) os) (fun a'' w'' => Q .normal a'' w'') Q) := by
      funext a'
      exact propext ⟨fun h n os => h _ ⟨⟨n, os⟩, rfl⟩, fun h w' ⟨p, hp⟩ => by rw [hp]; exact h p.n p.os⟩
    rw [e]
    exact h)
end

end Go.Tail
