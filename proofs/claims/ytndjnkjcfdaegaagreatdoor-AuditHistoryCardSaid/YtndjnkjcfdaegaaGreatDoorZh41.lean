/-
  Texts in one: TjZ, TkB. No conditions of their own.
-/
import Derived.Test.YtndjnkjcfdaegaaGreatDoorZh40
set_option linter.all false

/-
  Claims: their order, the sort of a row that stands in order, owned. No conditions of its own. audit.Claims where what is owned stands in order. No conditions of its own.
-/
namespace Go.Proofs.YtndjnkjcfdaegaaGreatDoor
open Go.RowKit Go.Joins Go.Deep Go.Sort Go.Shelf

/-- who owns whom -/
structure Cl where
  s : Int
  i : Int
  g : Int
  q : Int
def Cl.id (c : Cl) : Nam := ⟨c.s, c.i, c.g⟩
abbrev clC (c : Cl) : List Value := [.int .i64 c.s, .int .i64 c.i, .int .i64 c.g, .int .i64 c.q]
def cCl : Codec Cl := ⟨clC, 4, fun _ => rfl, fun a u h => by simp [clC] at h; rcases h with rfl | rfl | rfl | rfl <;> rfl, by decide⟩
instance : Inhabited Cl := ⟨⟨0, 0, 0, 0⟩⟩
def clOf (x : Int × Bd) : Cl := ⟨x.2.s, x.2.i, x.2.g, x.1⟩
theorem Tryz.infoCl : (Tryz.prog.info? 99).map (fun i => (i.zero, i.size, i.bytes)) = some (some (.agg (clC ⟨0, 0, 0, 0⟩).toArray), 4, 32) := by kernel_rfl
def or2 (a b : Int) : Int := bif a == 0 then b else a
def ccmp (a b : Cl) : Int := or2 (ncmp a.id b.id) (cmpI a.q b.q)
theorem cmpI_neg (a b : Int) : cmpI a b < 0 ↔ a < b := by
  rcases Int.lt_trichotomy a b with h | h | h
  · rw [cmpI_lt h]; simp; omega
  · subst h; rw [cmpI_eq]; simp
  · rw [cmpI_gt h]; simp; omega
theorem ccmp_iff (a b : Cl) : ltOf ccmp a b = true ↔ nlt a.id b.id = true ∨ (a.id = b.id ∧ a.q < b.q) := by
  have h1 := ncmp_eq a.id b.id
  have h2 := ncmp_lt a.id b.id
  have h4 : nlt a.id b.id = true → a.id ≠ b.id := fun h e => by rw [e, nlt_irrefl] at h; cases h
  unfold ltOf ccmp or2
  by_cases h : ncmp a.id b.id = 0
  · have h5 : a.id = b.id := (neq_iff _ _).1 (by rw [← h1]; exact decide_eq_true h)
    have h6 : (ncmp a.id b.id == 0) = true := by simpa using h
    rw [h6, cond_true, decide_eq_true_iff, cmpI_neg]
    exact ⟨fun x => .inr ⟨h5, x⟩, fun x => by rcases x with x | x; exact absurd h5 (h4 x); exact x.2⟩
  · have h6 : (ncmp a.id b.id == 0) = false := by simpa using h
    have h5 : a.id ≠ b.id := fun e => h (of_decide_eq_true (h1.trans ((neq_iff _ _).2 e)))
    rw [h6, cond_false, h2]
    exact ⟨fun x => .inl x, fun x => by rcases x with x | x; exact x; exact absurd x.1 h5⟩
theorem cl_swo : SWO (ltOf ccmp) where
  irrefl x := by
    rw [Bool.eq_false_iff]
    intro h
    rcases (ccmp_iff _ _).1 h with h | h
    · rw [nlt_irrefl] at h; cases h
    · omega
  trans x y z h1 h2 := by
    rw [ccmp_iff] at *
    rcases h1 with a | a <;> rcases h2 with b | b
    · exact .inl (nlt_trans a b)
    · exact .inl (by rw [← b.1]; exact a)
    · exact .inl (by rw [a.1]; exact b)
    · exact .inr ⟨a.1.trans b.1, by omega⟩
  ntrans x y z h1 h2 := by
    rw [Bool.eq_false_iff] at *
    intro h3
    rw [Ne, ccmp_iff] at *
    have a1 : nlt x.id y.id = false := by rw [Bool.eq_false_iff]; exact fun e => h1 (.inl e)
    have a2 : nlt y.id z.id = false := by rw [Bool.eq_false_iff]; exact fun e => h2 (.inl e)
    rcases nlt_or a1 with b1 | b1 <;> rcases nlt_or a2 with b2 | b2
    · rcases h3 with h3 | h3
      · rw [nlt_asymm (nlt_trans b2 b1)] at h3; cases h3
      · have := nlt_trans b2 b1; rw [h3.1, nlt_irrefl] at this; cases this
    · rw [← b2] at h3
      rcases h3 with h3 | h3
      · rw [a1] at h3; cases h3
      · rw [h3.1, nlt_irrefl] at b1; cases b1
    · rw [b1] at h3
      rcases h3 with h3 | h3
      · rw [a2] at h3; cases h3
      · rw [h3.1, nlt_irrefl] at b2; cases b2
    · rcases h3 with h3 | h3
      · rw [b1, b2, nlt_irrefl] at h3; cases h3
      · have c1 : ¬ x.q < y.q := fun e => h1 (.inr ⟨b1, e⟩)
        have c2 : ¬ y.q < z.q := fun e => h2 (.inr ⟨b2, e⟩)
        omega

/-! ### a row that stands in order is what the sort makes of it -/
section
variable {α : Type} [Inhabited α] (lt : α → α → Bool)
theorem insInner_id (d : Array α) (a i : Nat) (h : ∀ j, j + 1 < d.size → lt d[j + 1]! d[j]! = false) (hi : i < d.size) : insInner lt a i d = d := by
  cases i with
  | zero => rfl
  | succ j =>
    unfold insInner
    rw [h j hi]
    simp
theorem insOuter_id (d : Array α) (a b : Nat) (hb : b ≤ d.size) (h : ∀ j, j + 1 < d.size → lt d[j + 1]! d[j]! = false) : ∀ (m i : Nat), b - i ≤ m → insOuter lt a b i d = d := by
  intro m
  induction m with
  | zero =>
    intro i hi
    unfold insOuter
    rw [if_neg (by omega)]
  | succ m ih =>
    intro i hi
    unfold insOuter
    by_cases hlt : i < b
    · rw [if_pos hlt, insInner_id lt d a i h (by omega)]
      exact ih (i + 1) (by omega)
    · rw [if_neg hlt]
theorem pdq_id (d : Array α) (n : Nat) (hn : d.size ≤ 12) (h : ∀ j, j + 1 < d.size → lt d[j + 1]! d[j]! = false) : pdq lt d 0 d.size n true true = d := by
  unfold pdq
  rw [if_pos (by omega)]
  exact insOuter_id lt d 0 d.size (Nat.le_refl _) h _ _ (Nat.le_refl _)
end

set_option maxHeartbeats 1000000 in
theorem or2_any (w : World) (g : Nat) (a b : Int) (hc : cellsAt w g 0 2 = some [.int .i64 a, .int .i64 b]) : Calls Tryz.prog 77 #[.slice (some ⟨g, 0, none⟩) 2 2] w fun e w' => e = .returned (.int .i64 (or2 a b)) ∧ w' = w := by
  have c0 := cellsAt_cell hc 0 _ rfl
  have c1 := cellsAt_cell hc 1 _ rfl
  simp only [Nat.zero_add, Nat.add_zero] at c0 c1
  clear hc
  go_enter Tryz.func77, Tryz.ntmps77
  go_wp2
  go_loop [8] (fun q => q = .int .i64 0 ∨ (a = 0 ∧ q = .int .i64 1) ∨ (a = 0 ∧ b = 0 ∧ q = .int .i64 2)) (fun q => 2 - (intOf q).toNat)
  case atStart => exact .inl rfl
  case round =>
    rcases hrel with rfl | ⟨rfl, rfl⟩ | ⟨rfl, rfl, rfl⟩
    · by_cases h : a = 0
      · subst h
        go_wp2
        go_round
        case rel => exact .inr (.inl ⟨trivial, by go_num⟩)
        case measure => simp [intOf]
      · have hb : (a == 0) = false := by simpa using h
        go_wp2
        go_ret
        exact ⟨by unfold or2; rw [hb]; rfl, rfl⟩
    · by_cases h : b = 0
      · subst h
        go_wp2
        go_round
        case rel => exact .inr (.inr ⟨trivial, trivial, by go_num⟩)
        case measure => simp [intOf]
      · go_wp2
        go_ret
        exact ⟨rfl, rfl⟩
    · go_wp2
      go_ret
      exact ⟨rfl, rfl⟩
set_option maxRecDepth 100000 in
set_option maxHeartbeats 2000000 in
theorem ccmp_any (w : World) (a b : Cl) : Calls Tryz.prog 76 #[.agg (clC a).toArray, .agg (clC b).toArray] w fun e w' => e = .returned (.int .i64 (ccmp a b)) ∧ Grown w w' := by
  obtain ⟨r1, h1⟩ : ∃ r, r = ncmp a.id b.id := ⟨_, rfl⟩
  obtain ⟨r2, h2⟩ : ∃ r, r = cmpI a.q b.q := ⟨_, rfl⟩
  have C1 : Hid (∀ W : World, Calls Tryz.prog 78 #[.agg #[.int .i64 a.s, .int .i64 a.i, .int .i64 a.g], .agg #[.int .i64 b.s, .int .i64 b.i, .int .i64 b.g]] W fun e w' => e = .returned (.int .i64 (ncmp a.id b.id)) ∧ Grown W w') := Lib.hid (fun W => compare_any W a.id b.id)
  have C2 := Lib.hid (fun W => compareI_any W a.q b.q)
  have HR : Hid (ccmp a b = or2 r1 r2) := Lib.hid (by unfold ccmp; rw [h1, h2])
  rw [← h1] at C1
  rw [← h2] at C2
  rw [HR.out]
  clear h1 h2
  go_enter Tryz.func76, Tryz.ntmps76
  go_upto_region 1 with fail
  refine wp_world ?_
  intro W hW
  have cA : cellsAt W w.heap.size 0 4 = some [.int .i64 a.s, .int .i64 a.i, .int .i64 a.g, .int .i64 a.q] := by rw [hW]; simp [go_sem]
  have cB : cellsAt W (w.heap.size + 1) 0 4 = some [.int .i64 b.s, .int .i64 b.i, .int .i64 b.g, .int .i64 b.q] := by rw [hW]; simp [go_sem]
  have G : Hid (Grown w W) := Lib.hid (by rw [hW]; exact ((Grown.same w).alloc _).alloc _)
  obtain ⟨ga, hga⟩ : ∃ g, g = w.heap.size := ⟨_, rfl⟩
  obtain ⟨gb, hgb⟩ : ∃ g, g = w.heap.size + 1 := ⟨_, rfl⟩
  rw [← hgb] at cB ⊢
  rw [← hga] at cA ⊢
  have a0 : cellsAt W ga 0 3 = some [.int .i64 a.s, .int .i64 a.i, .int .i64 a.g] := cellsAt_part cA 0 [.int .i64 a.s, .int .i64 a.i, .int .i64 a.g] rfl (by simp)
  have a3 := cellsAt_cell cA 3 _ rfl
  have b0 : cellsAt W gb 0 3 = some [.int .i64 b.s, .int .i64 b.i, .int .i64 b.g] := cellsAt_part cB 0 [.int .i64 b.s, .int .i64 b.i, .int .i64 b.g] rfl (by simp)
  have b3 := cellsAt_cell cB 3 _ rfl
  simp only [Nat.zero_add] at a3 b3
  have LA : ∀ w', Grown W w' → cellsAt w' ga 0 3 = some [.int .i64 a.s, .int .i64 a.i, .int .i64 a.g] := fun w' k => k.keeps.cellsAt a0
  have LB : ∀ w', Grown W w' → cellsAt w' gb 0 3 = some [.int .i64 b.s, .int .i64 b.i, .int .i64 b.g] := fun w' k => k.keeps.cellsAt b0
  have LC : ∀ w', Grown W w' → w'.cell? ⟨ga, 3, none⟩ = some (.int .i64 a.q) := fun w' k => k.keeps.cell a3 (fun h => h)
  have LD : ∀ w', Grown W w' → w'.cell? ⟨gb, 3, none⟩ = some (.int .i64 b.q) := fun w' k => k.keeps.cell b3 (fun h => h)
  clear hW cA cB hga hgb a0 a3 b0 b3
  go_region_held3 (fun w' => Grown W w')
    (first | assumption | exact (Grown.same W).drew | (refine Grown.alloc ?_ _; assumption))
    (first
      | (go_at_call 78
         have hc := C1.out
         with_reducible refine (hc _).mono ?_
         clear hc
         rintro e w1 ⟨rfl, hg⟩
         have hS1 : Grown W w1 := ((Grown.same W).drew).trans hg)
      | (go_at_call 79; have hc := C2.out; with_reducible refine (hc _).mono ?_; clear hc; rintro e w2 ⟨rfl, hw⟩; have hw := hw.symm; subst hw)
      | (go_at_call 77; refine (or2_any _ _ r1 r2 (by simp [go_sem])).mono ?_; rintro e w3 ⟨rfl, hw⟩; have hw := hw.symm; subst hw))
  all_goals go_wp2
  all_goals go_ret
  all_goals exact ⟨rfl, G.out.trans (hS1.alloc _)⟩

abbrev cmpClF : Value := .func (.func 76) #[] #[]
/-- a row that stands in order is sorted: it stays as it is -/
theorem sortClaim_ordered (w : World) (base : Nat) (v : Value) (l : List Cl) (h : OwnOf cCl 99 w base v l) (hne : l ≠ []) (hl : l.length ≤ 12) (hs : ∀ j, j + 1 < l.toArray.size → ltOf ccmp l.toArray[j + 1]! l.toArray[j]! = false) :
    Calls Tryz.prog 75 #[v, cmpClF] w fun e w' => e = .returned (.tuple #[]) ∧ ∃ g, v.ownBlock = some g ∧ OwnOf cCl 99 w' base v l ∧ Keeps (Own g) w w' := by
  obtain ⟨a, cap, rfl⟩ := ownsRow_slice h
  rcases h.2 with ⟨h', _⟩ | ⟨g, cap', cur, h', hb, hh, hnc, hcm, hcs, htake⟩
  · simp only [Value.slice.injEq] at h'
    exact absurd (List.length_eq_zero_iff.1 h'.2.1) hne
  simp only [Value.slice.injEq] at h'
  obtain ⟨rfl, _, rfl⟩ := h'
  have hcmp : CmpLays Tryz.prog 76 #[] cCl.cells 4 ccmp g 0 l.toArray.size w := fun m os dk _ x y => ccmp_any _ x y
  have hbl := (h.lt g rfl).2
  have hc := AnyQ.slices_SortFunc_eq Tryz.sortClaim 4 (fun w => by kernel_rfl) (fun w => by kernel_rfl) cCl.cells (fun x => rfl) (fun x v hv => cCl.one x v hv) ccmp cl_swo 76 #[] g 0 cap l.toArray w (fun args w => by kernel_rfl) hcmp (own_holds cCl h) hbl (by simp; omega)
  refine Calls.mono hc ?_
  rintro e w' ⟨rfl, n, os, rfl⟩
  rw [pdq_id _ _ _ (by simpa using hl) hs]
  obtain ⟨h1, h2⟩ := own_sorted cCl h l.toArray (by simp) n os
  exact ⟨rfl, g, rfl, h1, h2⟩

theorem owned_any (w : World) (v : Value) (va : Option Addr) (n c : Nat) (hv : v = .slice va n c) : Calls Tryz.prog 74 #[v] w fun e w' => e = .returned (.func (.func 122) #[] #[.pointer (some ⟨w.heap.size, 0, none⟩)]) ∧ w' = w.alloc (.cells #[v] 149) := by
  subst hv
  go_enter Tryz.func74, Tryz.ntmps74
  go_wp2
  go_ret
  exact ⟨rfl, rfl⟩
end Go.Proofs.YtndjnkjcfdaegaaGreatDoor

namespace Go.Proofs.YtndjnkjcfdaegaaGreatDoor
open Go.RowKit Go.Shelf Go.Sort Go.Joins
attribute [local go_sem] Oper.semAt_some

theorem BoxAt.own_from {B g n : Nat} {t : TypeId} {l : List Value} : OwnFrom B (fun (_ : Unit) W => BoxAt W g t n l) := fun _ W W' row h hg hr => by
  obtain ⟨C, hC⟩ := h.o
  have e : W'.heap[g]? = W.heap[g]? := hg.block g (Array.getElem?_eq_some_iff.1 hC).1 (fun e => by
    obtain ⟨_, o, ho, hc⟩ := hr g e.symm
    rw [hC] at ho
    cases ho
    cases hc)
  exact ⟨(cellsAt_same e).trans h.c, C, e.trans hC⟩
theorem KpT.no {n₀ : Nat} {A B : World} (h : Keeps No A B) (hn : n₀ ≤ A.heap.size) : KpT n₀ A B :=
  ⟨h.os, h.tape, h.output, h.size, fun k hk => h.block k (by omega) (fun h => h), fun k D u o hk _ => h.block k (Array.getElem?_eq_some_iff.1 hk).1 (fun h => h)⟩
section
variable {F : Fence} {n : Nat} {P : Program}
/-- a range over an iterator of two, whose first variable lies in a slot, and whose second one in a box -/
theorem range_box {α : Type} {g : Operand} {p1 p2 : Tmp} {assign body : Code} {Q : Exit → Act → World → Prop} {T : Array Value} {w : World}
    (hro : F.round = none) (h1 : 1 ≤ n) {gf : Nat} {lb : Array Value} (hg : Act.eval ⟨T, []⟩ g = .func (.func gf) #[] lb) (hFg : F.fn gf) (eg : ∀ args w, (callFunc gf args).run P w = .ok (.enter gf args) w)
    {e1 e2 : α → Value} {Kp : World → World → Prop} {S Sp : List α → Prop} {N : Nat} (hseq : SeqStopsK F (n - 1) P gf lb (fun x => #[e1 x, e2 x]) Kp S Sp N w)
    (hKt : ∀ {A B C : World}, Kp A B → Kp B C → Kp A C) (hKb : ∀ (W : World) (l : Nat) (o o' : Obj), w.heap.size ≤ l → W.heap[l]? = some o → o.isCells = false → o.isWalk = false → Kp W (W.putObj l o'))
    (I : List α → World → Prop) (hI : OwnFrom w.heap.size I) (h0 : I [] w) (t : TypeId) (m : Nat) (cells : α → List Value) (act : α → Nat → Act)
    (hassign : ∀ (l : Nat) (pre : List α) (x : α) (W : World) (K : Act → World → Prop), I pre W → (∀ a' W', KeepsFrom w.heap.size W W' → Kp W W' → I pre W' → (∃ b, a' = act x b ∧ BoxAt W' b t m (cells x)) → K a' W') →
      assign.wpIn (F.inRound l) (n - 1 - 1) P (Exit.then K (fun _ _ _ => False)) ⟨(T.setIfInBounds p1 (e1 x)).setIfInBounds p2 (e2 x), []⟩ W)
    (hbody : ∀ (l : Nat) (pre : List α) (x : α) (b : Nat) (W : World), I pre W → BoxAt W b t m (cells x) → pre.length < N → body.wpIn (F.inRound l) (n - 1 - 1) P (ownPostG w.heap.size Kp I (fun _ _ _ => False) (pre ++ [x]) W) (act x b) W)
    (hdone : ∀ (D : Nat) (xs : List α) (W : World), w.heap.size ≤ D → S xs → I xs W → W.heap[D]? = some (.deferred (some [])) → Q .normal ⟨T, [{ target := .collected D, args := #[] }]⟩ W) :
    (Code.rangeFunc g #[p1, p2] assign body).wpIn F n P Q ⟨T, []⟩ w :=
  wpIn_rangeFunc_ownH hro h1 hg hFg eg hseq hKt hKb (Below.refl _ _) (fun _ => rfl) I (fun _ _ _ => False) hI (fun _ _ _ _ _ hs _ _ => hs) h0 (fun x a' W => ∃ b, a' = act x b ∧ BoxAt W b t m (cells x))
    (fun x a' s W W' row h hg hr => by
      obtain ⟨b, he, hb⟩ := h
      exact ⟨b, he, BoxAt.own_from () W W' row hb hg hr⟩)
    (fun l pre x W K hi hK => by simpa using hassign l pre x W K hi hK) (fun l pre x a' W _ _ hi hx hlt => by
      obtain ⟨b, rfl, hb⟩ := hx
      exact hbody l pre x b W hi hb hlt)
    (fun D xs W h1 h2 h3 h4 => hdone D xs W h1 h2 h3 h4) (fun _ _ _ _ _ _ h _ => h.elim)
end
theorem own_type {α : Type} {C : Codec α} {e : TypeId} {w : World} {base : Nat} {v : Value} {l : List α} (h : OwnOf C e w base v l) {k : Nat} (hk : v.ownBlock = some k) : ∃ cur, w.heap[k]? = some (.cells cur e (0, 0)) ∧ base ≤ k := by
  rcases h.2 with ⟨rfl, _⟩ | ⟨g, cap, cur, rfl, hb, hh, _⟩
  · cases hk
  · obtain rfl : g = k := by simpa [Value.ownBlock] using hk
    exact ⟨cur, hh, hb⟩
/-- what a round of Claims leaves -/
theorem round_kept {n₀ p B : Nat} {W w3 : World} {v : Value} {l : List Cl} (hb : Go.Boxed W p 94 v) (ho : OwnOf cCl 99 W B v l) (hn : n₀ ≤ p) (hB : n₀ ≤ B) (kk : Keeps (fun i => i = p ∨ v.ownBlock = some i) W w3) (D : Nat) : KeepsFrom D W w3 ∧ KpT n₀ W w3 := by
  have hne : ∀ (k : Nat) (D : Array Value) (u : TypeId) (o : Nat × Nat), W.heap[k]? = some (Obj.cells D u o) → IsIt u → ¬ (k = p ∨ v.ownBlock = some k) := fun k D u o hk hu e => by
    rcases e with e | e
    · subst e
      rw [show W.heap[k]? = _ from hb] at hk
      cases hk
      unfold IsIt at hu
      revert hu
      decide
    · obtain ⟨cur, hh, _⟩ := own_type ho e
      rw [hh] at hk
      cases hk
      unfold IsIt at hu
      revert hu
      decide
  refine ⟨⟨kk.size, fun k o _ hk hc => (kk.block k (Array.getElem?_eq_some_iff.1 hk).1 (fun e => ?_)).trans hk⟩, kk.os, kk.tape, kk.output, kk.size, fun k hk => ?_, fun k D u o hk hu => kk.block k (Array.getElem?_eq_some_iff.1 hk).1 (hne k D u o hk hu)⟩
  · rcases e with e | e
    · subst e
      rw [show W.heap[k]? = _ from hb] at hk
      cases hk
      cases hc
    · obtain ⟨cur, hh, _⟩ := own_type ho e
      rw [hh] at hk
      cases hk
      cases hc
  · have hp : p < W.heap.size := hb.lt
    exact kk.block k (by omega) (fun e => by
      rcases e with e | e
      · omega
      · obtain ⟨_, _, h1⟩ := own_type ho e
        omega)
theorem owned1_stops (w w2 : World) (gB : Nat) (va : Option Addr) (vc : Nat) (L : List Sd) (hin : RdOf cSd w (.slice va L.length vc) L) (hrd : ∀ s ∈ L, SdReads w s) (hit : ItAt w gB (.slice va L.length vc) w2) :
    SeqStopsK Fence.wide (8 - 1) Tryz.prog 122 #[.pointer (some ⟨gB, 0, none⟩)] (fun x => #[.int .i64 x.1, .agg (bdC x.2).toArray]) (KpT w.heap.size) (fun xs => xs = ownedOf L L.length) (fun _ => True) (ownedOf L L.length).length w2 := fun l J Jx W hW hJ _ hY h0 => by
  have hk : Keeps No w2 W := ⟨hW.os, hW.tape, hW.output, hW.size, fun k hk _ => hW.block k hk⟩
  refine (owned1_in (8 - 1) (by decide) l w gB va vc L hin hrd J Jx (fun pre A B hj k => hJ pre A B none hj ⟨k.os, k.tape, k.output, k.size, fun i hi _ => k.block i hi (fun h => h)⟩ (fun r e => by cases e)) hY W (hit.no hk) h0).mono ?_
  rintro e W' ⟨hv, h | ⟨pre, h⟩⟩
  · exact ⟨hv, .inl ⟨_, rfl, h⟩⟩
  · exact ⟨hv, .inr ⟨pre, trivial, h⟩⟩

set_option maxRecDepth 100000 in
set_option maxHeartbeats 8000000 in
theorem claims_any (w : World) (va : Option Addr) (vc : Nat) (L : List Sd) (hin : RdOf cSd w (.slice va L.length vc) L) (hrd : ∀ s ∈ L, SdReads w s) (D : List Cl) (hD : (ownedOf L L.length).map clOf = D) (hne : D ≠ []) (hl : D.length ≤ 12)
    (hs : ∀ j, j + 1 < D.toArray.size → ltOf ccmp D.toArray[j + 1]! D.toArray[j]! = false) :
    Calls Tryz.prog 32 #[.slice va L.length vc] w fun e w' => ∃ v, e = .returned v ∧ RdOf cCl w' v D ∧ Keeps No w w' := by
  obtain ⟨i0, hi, hz0, hz1, hz2⟩ := info_parts Tryz.infoCl
  have HD := Lib.hid hD
  have HNE := Lib.hid hne
  have HL := Lib.hid hl
  have HS := Lib.hid hs
  have HIN := Lib.hid (owned1_stops w)
  have HI := Lib.hid hin
  have HR := Lib.hid hrd
  have HNL : Hid ((ownedOf L L.length).length ≤ 12) := Lib.hid (by rw [← hD, List.length_map] at hl; exact hl)
  clear hD hne hl hs hin hrd
  refine (callsIn_wide (n := 8)).1 ?_
  refine callsIn_of_wp_marks Tryz.func32 rfl trivial ?_ rfl
  refine (wpIn_wide (n := 8)).2 ?_
  simp only [Tryz.ntmps32, List.size_toArray, List.length_cons, List.length_nil, Nat.reduceAdd, Nat.reduceSub, Array.replicate_succ, Array.replicate_zero, List.push_toArray, List.append_toArray, List.nil_append, List.cons_append]
  go_wp2_with fail
  refine (owned_any _ _ _ _ _ rfl).mono ?_
  rintro e w2 ⟨rfl, hw2⟩
  have K2 : Hid (Keeps No w w2) := Lib.hid (by rw [hw2]; exact ((Keeps.refl w).alloc _).alloc _)
  have BP : Hid (Go.Boxed w2 w.heap.size 94 (.slice none 0 0)) := Lib.hid (by rw [hw2]; exact (Go.Boxed.new w _ _).alloc _)
  have IT : Hid (ItAt w (w.alloc (.cells #[.slice none 0 0] 94)).heap.size (.slice va L.length vc) w2) := Lib.hid ⟨K2.out, by rw [hw2]; exact World.alloc_heap_new _ _⟩
  have HSZ : Hid (w.heap.size < w2.heap.size) := Lib.hid (by rw [hw2]; simp; omega)
  obtain ⟨p, hp⟩ : ∃ p, p = w.heap.size := ⟨_, rfl⟩
  obtain ⟨gB, hgB⟩ : ∃ p, p = (w.alloc (.cells #[.slice none 0 0] 94)).heap.size := ⟨_, rfl⟩
  have HP := Lib.hid hp
  rw [← hgB] at IT ⊢
  rw [← hp] at BP HSZ
  try rw [← hp]
  clear hw2 hp hgB
  go_wp2_with fail
  refine (wpIn_wide (n := 8)).1 ?_
  refine range_box (α := Int × Bd) (e1 := fun x => .int .i64 x.1) (e2 := fun x => .agg (bdC x.2).toArray) (Kp := KpT w.heap.size) (n := 8) rfl (by decide) rfl trivial (enters_of Tryz.func122 (by kernel_rfl) rfl)
    (HIN.out w2 gB va vc L HI.out HR.out IT.out) (fun h k => h.trans k) (fun W i o o' h1 h2 h3 h4 => KpT.put K2.out.size W i o o' h1 h2 h3 h4)
    (fun pre W => (∃ v, Go.Boxed W p 94 v ∧ W.ownsRow w2.heap.size 99 4 v (pre.map clOf).length (rowsOf cCl (pre.map clOf)) ∧ True) ∧ Keeps (Own p) w2 W) ?own ?start 38 11 (fun x => bdC x.2)
    (fun x b => ⟨#[.slice va L.length vc, undef, .slice none 0 0, .pointer (some ⟨p, 0, none⟩), .int .i64 x.1, .pointer (some ⟨b, 0, none⟩), .slice va L.length vc, .func (.func 122) #[] #[.pointer (some ⟨gB, 0, none⟩)], .int .i64 x.1, .agg (bdC x.2).toArray, undef, undef, undef, undef, undef, undef, undef, undef, undef, undef], []⟩) ?assign ?body ?done
  case own =>
    rintro pre W W' row ⟨h1, h2⟩ hg hr
    refine ⟨holdsRow_own w2.heap.size p 94 99 4 (fun (pre : List (Int × Bd)) => (pre.map clOf).length) (fun pre => rowsOf cCl (pre.map clOf)) (fun _ _ => True) pre W W' row h1 hg (fun r e => (hr r e).2), h2.trans ((Keeps.refl (S := fun i => row = some i) W).grown hg (fun k e _ => e)) (fun i hi e => by have := (hr i e).1; omega)⟩
  case start => exact ⟨⟨_, BP.out, World.ownsRow_nil _ _ _ _, trivial⟩, Keeps.refl _⟩
  case assign =>
    rintro l pre x W K ⟨⟨v, hb, ho, _⟩, hk⟩ hK
    have HKK := Lib.hid hK
    have BX : Hid (BoxAt (W.alloc (.cells #[.int .i64 x.2.s, .int .i64 x.2.i, .int .i64 x.2.g, .int .i64 x.2.m, .int .i64 x.2.x, .int .i64 x.2.y, .int .i64 x.2.vx, .int .i64 x.2.vy, .int .i64 x.2.hp, .int .i64 x.2.pw, .int .i64 x.2.lf] 38)) W.heap.size 38 11 (bdC x.2)) := Lib.hid ⟨by simp [go_sem], openT_new _ _ _ _ rfl⟩
    have OW := Lib.hid ho
    have BW := Lib.hid hb
    have KW := Lib.hid hk
    clear hK ho hb hk
    simp only [List.setIfInBounds_toArray, List.set_cons_zero, List.set_cons_succ]
    gi_wp2
    exact HKK.out _ _ ((KeepsOthers.alloc W _).from _) (KpT.no ((Keeps.refl W).alloc _) (by have h1 := KW.out.size; have h2 := K2.out.size; omega)) ⟨⟨v, BW.out.alloc _, OW.out.alloc _, trivial⟩, KW.out.alloc _⟩ ⟨W.heap.size, rfl, BX.out⟩
  case body =>
    rintro lq pre x b W ⟨⟨v, hb, ho, _⟩, hk⟩ hbx hlt
    have LT : Hid ((pre.map clOf).length < 12) := Lib.hid (by rw [List.length_map]; have := HNL.out; omega)
    have MP : Hid ((pre ++ [x]).map clOf = pre.map clOf ++ [clOf x]) := Lib.hid (by simp)
    obtain ⟨cl, hcl⟩ : ∃ c, c = pre.map clOf := ⟨_, rfl⟩
    rw [← hcl] at ho LT MP
    have OW : Hid (OwnOf cCl 99 W w2.heap.size v cl) := Lib.hid ho
    have BW := Lib.hid hb
    have KW := Lib.hid hk
    obtain ⟨oa, oc, rfl⟩ := ownsRow_slice OW.out
    have x0 := hb.cell
    have lp := hb.lt
    have x1 : cellsAt W b 0 3 = some [.int .i64 x.2.s, .int .i64 x.2.i, .int .i64 x.2.g] := cellsAt_part hbx.c 0 [.int .i64 x.2.s, .int .i64 x.2.i, .int .i64 x.2.g] rfl (by simp)
    have lb := hbx.o.open.lt
    have hO' : (W.alloc (.cells #[.int .i64 x.2.s, .int .i64 x.2.i, .int .i64 x.2.g, .int .i64 x.1] 99)).ownsRow w2.heap.size 99 4 (.slice oa cl.length oc) cl.length (rowsOf cCl cl) := ho.alloc _
    have hlit : Reads (W.alloc (.cells #[.int .i64 x.2.s, .int .i64 x.2.i, .int .i64 x.2.g, .int .i64 x.1] 99)) 4 (.slice (some ⟨W.heap.size, 0, none⟩) 1 1) 1 (clC (clOf x)) := Reads.ofOwn (World.ownsRow_lit (base := 0) W #[.int .i64 x.2.s, .int .i64 x.2.i, .int .i64 x.2.g, .int .i64 x.1] 1 (Nat.zero_le _) (by unfold maxLen; omega) rfl) (cCl.one (clOf x))
    have hlc : ∀ j u, (clC (clOf x))[j]? = some u → (W.alloc (.cells #[.int .i64 x.2.s, .int .i64 x.2.i, .int .i64 x.2.g, .int .i64 x.1] 99)).cell? ((⟨W.heap.size, 0, none⟩ : Addr).add j) = some u := by
      obtain ⟨_, _, h | ⟨a, c, he, _, _, hx⟩⟩ := hlit
      · cases h.1
      · cases he
        exact hx
    have HO := Lib.hid hO'
    have HLC := Lib.hid hlc
    have XC : Hid (clC (clOf x) = [.int .i64 x.2.s, .int .i64 x.2.i, .int .i64 x.2.g, .int .i64 x.1]) := Lib.hid rfl
    clear ho hb hk hbx hlit hO' hlc hcl
    gi_wp2_with (gi_at_builtin; refine wpListIn_append_own _ rfl (.tmp 10) (.tmp 15) 94 rfl w2.heap.size 99 i0 _ 4 32 Tryz.underlying94 hi hz0 hz1 hz2 rfl (by decide) _ cl.length _ rfl HO.out ⟨W.heap.size, 0, none⟩ 1 1 (clC (clOf x)) rfl rfl HLC.out (cCl.one (clOf x)) ?c1 ?c2 ?c3 ?c4)
    case c1 => have := LT.out; unfold maxLen; omega
    case c2 => have := LT.out; omega
    case c3 => have := KW.out.size; simp; omega
    case c4 =>
      intro v' w5 hown1 hg1 hnil
      obtain ⟨ga, gcap, rfl⟩ := ownsRow_succ hown1
      have KA : Hid (Keeps (Of (.slice oa cl.length oc)) W w5) := Lib.hid ((((Keeps.refl (S := No) W).alloc _).mono (fun _ _ h => h.elim)).trans ((Keeps.refl _).grown hg1 (fun k hk _ => hk)) (fun i _ h => h))
      have B5 : Hid (Go.Boxed w5 p 94 (.slice oa cl.length oc)) := Lib.hid ((BW.out.alloc _).kept hg1 ((BW.out.alloc _).not_row (by decide) HO.out))
      have y0 := B5.out.cell
      have y1 := B5.out.frozen
      have y2 := B5.out.lt
      have KK : Hid (Keeps (fun i => i = p ∨ (Value.slice oa cl.length oc).ownBlock = some i) W (w5.setCell ⟨p, 0, none⟩ (.slice (some ⟨ga, 0, none⟩) (cl.length + 1) gcap))) := Lib.hid ((KA.out.mono (fun i _ h => .inr h)).setCell (fun _ => .inl rfl) _)
      have FN : Hid ((∃ v, Go.Boxed (w5.setCell ⟨p, 0, none⟩ (.slice (some ⟨ga, 0, none⟩) (cl.length + 1) gcap)) p 94 v ∧ (w5.setCell ⟨p, 0, none⟩ (.slice (some ⟨ga, 0, none⟩) (cl.length + 1) gcap)).ownsRow w2.heap.size 99 4 v (((pre ++ [x]).map clOf)).length (rowsOf cCl ((pre ++ [x]).map clOf)) ∧ True) ∧ Keeps (Own p) w2 (w5.setCell ⟨p, 0, none⟩ (.slice (some ⟨ga, 0, none⟩) (cl.length + 1) gcap))) := Lib.hid (by
        refine ⟨⟨_, B5.out.set _, ?_, trivial⟩, KW.out.trans KK.out (fun i hi e => ?_)⟩
        · rw [MP.out, List.length_append, rowsOf_append, rowsOf_one]
          exact hown1.kept (grownBy_setCell' w5 p _) (.inr (B5.out.not_row (by decide) hown1).symm)
        · rcases e with e | e
          · exact e
          · have := (OW.out.lt i e).1
            omega)
      have RK : Hid (KeepsFrom w2.heap.size W (w5.setCell ⟨p, 0, none⟩ (.slice (some ⟨ga, 0, none⟩) (cl.length + 1) gcap)) ∧ KpT w.heap.size W (w5.setCell ⟨p, 0, none⟩ (.slice (some ⟨ga, 0, none⟩) (cl.length + 1) gcap))) := Lib.hid (round_kept BW.out OW.out (by have := HP.out; omega) (K2.out.size) KK.out _)
      clear hown1 hg1 hnil x0 x1 lb lp
      gi_wp2
      exact ⟨RK.out.1, RK.out.2, FN.out⟩
  case done =>
    rintro q xs W hq hxs ⟨⟨v, hb, ho, _⟩, hk⟩ hdef
    rw [hxs, HD.out] at ho
    obtain ⟨va', vc', rfl⟩ := ownsRow_slice ho
    have OW : Hid (OwnOf cCl 99 W w2.heap.size (.slice va' D.length vc') D) := Lib.hid ho
    have KW := Lib.hid hk
    have HDF := Lib.hid hdef
    have x0 := hb.cell
    clear hb ho hk hdef hxs
    go_wp2_with fail
    refine (sortClaim_ordered W _ _ D OW.out HNE.out HL.out HS.out).mono ?_
    rintro e w4 ⟨rfl, g, hg, ho4, hk4⟩
    have gne : g ≠ p := fun e => by have h1 := (OW.out.lt g hg).1; have h2 := HSZ.out; omega
    have gnq : g ≠ q := fun e => by
      obtain ⟨cur, hh, _⟩ := own_type OW.out hg
      rw [e, HDF.out] at hh
      cases hh
    have x1 := hk4.cell x0 (fun e => gne e.symm)
    have hdY : w4.heap[q]? = some (.deferred (some [])) := hk4.heap HDF.out (fun e => gnq e.symm)
    have O4 : Hid (OwnOf cCl 99 w4 w2.heap.size (.slice va' D.length vc') D) := Lib.hid ho4
    have K4 : Hid (Keeps No w w4) := Lib.hid ((K2.out.trans KW.out (fun i hi e => by have e : i = p := e; have := HP.out; omega)).trans hk4 (fun i hi e => by
      have e : i = g := e
      have h1 := (OW.out.lt g hg).1
      have h2 := K2.out.size
      omega))
    have QG : Hid (w.heap.size ≤ q ∧ ∀ i, (Value.slice va' D.length vc').ownBlock = some i → i ≠ q) := Lib.hid ⟨by have := K2.out.size; omega, fun i hi e => by
      subst e
      exact gnq (Option.some.inj (hg.symm.trans hi))⟩
    clear x0 ho4 hk4 gne gnq hg
    go_wp2_with fail
    have kF : Keeps (fun i => i = q) w4 (w4.putObj q (.deferred none)) := (Keeps.refl w4).grown (grownBy_putObj' w4 q _) (fun k e _ => by cases e; rfl)
    refine ⟨by simp, .inl ⟨_, _, rfl, run_takeDeferred hdY, ?_⟩⟩
    refine ⟨_, results_tmp rfl _ _ _, .slice va' D.length vc', rfl, OwnOf.reads (kF.owns O4.out (fun i hi e => QG.out.2 i hi e)), K4.out.trans kF (fun i hi e => by have e : i = q := e; have := QG.out.1; omega)⟩
end Go.Proofs.YtndjnkjcfdaegaaGreatDoor

/-
  awake: the chapter's example. No conditions of its own.
-/
namespace Go.Proofs.YtndjnkjcfdaegaaGreatDoor
open Go.RowKit Go.Joins Go.Deep Go.Sort Go.Shelf

def bA : Bd := ⟨0, 0, 0, 1, 0, 0, 0, 0, 0, 0, 0⟩
def bB : Bd := ⟨0, 1, 0, 1, 0, 0, 0, 0, 0, 0, 0⟩
def bC : Bd := ⟨0, 2, 0, 1, 0, 0, 0, 0, 0, 0, 0⟩
def oS : Ou := ⟨5, 0, 3, bC⟩
def iS : Inn := ⟨1, 5, bC⟩
abbrev adr (g : Nat) : Option Addr := some ⟨g, 0, none⟩
def sS (rb ru : Nat) : Sd := ⟨adr rb, 1, [bB], adr ru, 1, [oS], none, 0, []⟩
def sX (ga : Nat) : Sd := ⟨adr ga, 1, [bA], none, 0, [], none, 0, []⟩
def sY (ga gi : Nat) : Sd := ⟨adr ga, 1, [bA], none, 0, [], adr gi, 1, [iS]⟩
def dX : List Cl := [⟨0, 0, 0, 0⟩, ⟨0, 1, 0, 1⟩]
def dY : List Cl := [⟨0, 0, 0, 0⟩, ⟨0, 1, 0, 1⟩, ⟨0, 2, 0, 0⟩]
theorem owned_x (ga rb ru : Nat) : (ownedOf [sX ga, sS rb ru] 2).map clOf = dX := by rfl
theorem owned_y (ga gi rb ru : Nat) : (ownedOf [sY ga gi, sS rb ru] 2).map clOf = dY := by rfl
theorem order_x : ∀ j, j + 1 < dX.toArray.size → ltOf ccmp dX.toArray[j + 1]! dX.toArray[j]! = false := fun j hj => by
  have h2 : dX.toArray.size = 2 := rfl
  obtain rfl : j = 0 := by omega
  rfl
theorem order_y : ∀ j, j + 1 < dY.toArray.size → ltOf ccmp dY.toArray[j + 1]! dY.toArray[j]! = false := fun j hj => by
  have h2 : dY.toArray.size = 3 := rfl
  rcases (show j = 0 ∨ j = 1 by omega) with rfl | rfl <;> rfl
theorem rdOne {α : Type} (C : Codec α) {w : World} {g : Nat} {x : α} (h : cellsAt w g 0 C.size = some (C.cells x)) : RdOf C w (.slice (adr g) 1 1) [x] :=
  rdOf_of C (l := [x]) (a := ⟨g, 0, none⟩) (c := 1) (Nat.le_refl _) (by unfold maxLen; omega) (fun i hi j u hu => by
    obtain rfl : i = 0 := by simpa using hi
    have := cellsAt_cell h j u hu
    simpa only [Nat.zero_mul, Nat.zero_add, Addr.add_lit] using this)
theorem rdTwo {α : Type} (C : Codec α) {w : World} {g : Nat} {x y : α} (h : cellsAt w g 0 (2 * C.size) = some (C.cells x ++ C.cells y)) : RdOf C w (.slice (adr g) 2 2) [x, y] :=
  rdOf_of C (l := [x, y]) (a := ⟨g, 0, none⟩) (c := 2) (Nat.le_refl _) (by unfold maxLen; omega) (fun i hi j u hu => by
    have hj : j < C.size := by have := (List.getElem?_eq_some_iff.1 hu).1; rw [C.len] at this; exact this
    rcases (show i = 0 ∨ i = 1 by simp at hi; omega) with rfl | rfl
    · have := cellsAt_cell h j u (by rw [List.getElem?_append_left (by rw [C.len]; exact hj)]; exact hu)
      simpa only [Nat.zero_mul, Nat.zero_add, Addr.add_lit] using this
    · have := cellsAt_cell h (C.size + j) u (by rw [List.getElem?_append_right (by rw [C.len]; omega), C.len, Nat.add_sub_cancel_left]; exact hu)
      simpa only [Nat.one_mul, Nat.zero_add, Addr.add_lit] using this)
/-- what a call of Claims leaves -/
def ClPost (D : List Cl) (w : World) (e : Ending) (w' : World) : Prop := ∃ v, e = .returned v ∧ RdOf cCl w' v D ∧ Keeps No w w'
/-- what the two states of the example need -/
structure ExAt (w : World) (rb ru : Nat) : Prop where
  b : cellsAt w rb 0 11 = some (bdC bB)
  u : cellsAt w ru 0 14 = some (ouC oS)
theorem ExAt.no {w w' : World} {rb ru : Nat} (h : ExAt w rb ru) (k : Keeps No w w') : ExAt w' rb ru := ⟨k.cellsAt h.b, k.cellsAt h.u⟩
theorem ExAt.reads {w : World} {rb ru : Nat} (h : ExAt w rb ru) : SdReads w (sS rb ru) := ⟨rdOne cBd h.b, rdOne cOu h.u, Reads.nil _ _⟩
theorem claims_x (w : World) (ga gl rb ru : Nat) (h : ExAt w rb ru) (ha : cellsAt w ga 0 11 = some [.int .i64 0, .int .i64 0, .int .i64 0, .int .i64 1, .int .i64 0, .int .i64 0, .int .i64 0, .int .i64 0, .int .i64 0, .int .i64 0, .int .i64 0]) (hl : cellsAt w gl 0 16 = some [.int .i64 0, .int .i64 0, .slice (some ⟨ga, 0, none⟩) 1 1, .slice none 0 0, .slice none 0 0, .slice none 0 0, .slice none 0 0, .int .i64 0, .int .i64 0, .int .i64 0, .slice (some ⟨rb, 0, none⟩) 1 1, .slice none 0 0, .slice (some ⟨ru, 0, none⟩) 1 1, .slice none 0 0, .slice none 0 0, .int .i64 0]) :
    Calls Tryz.prog 32 #[.slice (some ⟨gl, 0, none⟩) 2 2] w (ClPost dX w) :=
  claims_any w (adr gl) 2 [sX ga, sS rb ru] (rdTwo cSd hl) (fun s hs => by
    rcases List.mem_cons.1 hs with rfl | hs
    · exact ⟨rdOne cBd ha, Reads.nil _ _, Reads.nil _ _⟩
    · rcases List.mem_cons.1 hs with rfl | hs
      · exact h.reads
      · cases hs) dX (owned_x ga rb ru) (by decide +kernel) (by decide +kernel) order_x
theorem claims_y (w : World) (ga gi gl rb ru : Nat) (h : ExAt w rb ru) (ha : cellsAt w ga 0 11 = some [.int .i64 0, .int .i64 0, .int .i64 0, .int .i64 1, .int .i64 0, .int .i64 0, .int .i64 0, .int .i64 0, .int .i64 0, .int .i64 0, .int .i64 0]) (hi : cellsAt w gi 0 13 = some [.int .i64 1, .int .i64 5, .int .i64 0, .int .i64 2, .int .i64 0, .int .i64 1, .int .i64 0, .int .i64 0, .int .i64 0, .int .i64 0, .int .i64 0, .int .i64 0, .int .i64 0]) (hl : cellsAt w gl 0 16 = some [.int .i64 0, .int .i64 0, .slice (some ⟨ga, 0, none⟩) 1 1, .slice none 0 0, .slice none 0 0, .slice (some ⟨gi, 0, none⟩) 1 1, .slice none 0 0, .int .i64 0, .int .i64 0, .int .i64 0, .slice (some ⟨rb, 0, none⟩) 1 1, .slice none 0 0, .slice (some ⟨ru, 0, none⟩) 1 1, .slice none 0 0, .slice none 0 0, .int .i64 0]) :
    Calls Tryz.prog 32 #[.slice (some ⟨gl, 0, none⟩) 2 2] w (ClPost dY w) :=
  claims_any w (adr gl) 2 [sY ga gi, sS rb ru] (rdTwo cSd hl) (fun s hs => by
    rcases List.mem_cons.1 hs with rfl | hs
    · exact ⟨rdOne cBd ha, Reads.nil _ _, rdOne cIn hi⟩
    · rcases List.mem_cons.1 hs with rfl | hs
      · exact h.reads
      · cases hs) dY (owned_y ga gi rb ru) (by decide +kernel) (by decide +kernel) order_y

theorem claims_x_mono {w : World} {ga gl rb ru : Nat} {R : Ending → World → Prop} (hl : cellsAt w gl 0 16 = some [.int .i64 0, .int .i64 0, .slice (some ⟨ga, 0, none⟩) 1 1, .slice none 0 0, .slice none 0 0, .slice none 0 0, .slice none 0 0, .int .i64 0, .int .i64 0, .int .i64 0, .slice (some ⟨rb, 0, none⟩) 1 1, .slice none 0 0, .slice (some ⟨ru, 0, none⟩) 1 1, .slice none 0 0, .slice none 0 0, .int .i64 0]) (ha : cellsAt w ga 0 11 = some [.int .i64 0, .int .i64 0, .int .i64 0, .int .i64 1, .int .i64 0, .int .i64 0, .int .i64 0, .int .i64 0, .int .i64 0, .int .i64 0, .int .i64 0]) (h : ExAt w rb ru) (hm : ∀ e w', ClPost dX w e w' → R e w') : Calls Tryz.prog 32 #[.slice (some ⟨gl, 0, none⟩) 2 2] w R :=
  Calls.mono (claims_x w ga gl rb ru h ha hl) hm
theorem claims_y_mono {w : World} {ga gi gl rb ru : Nat} {R : Ending → World → Prop} (hl : cellsAt w gl 0 16 = some [.int .i64 0, .int .i64 0, .slice (some ⟨ga, 0, none⟩) 1 1, .slice none 0 0, .slice none 0 0, .slice (some ⟨gi, 0, none⟩) 1 1, .slice none 0 0, .int .i64 0, .int .i64 0, .int .i64 0, .slice (some ⟨rb, 0, none⟩) 1 1, .slice none 0 0, .slice (some ⟨ru, 0, none⟩) 1 1, .slice none 0 0, .slice none 0 0, .int .i64 0]) (ha : cellsAt w ga 0 11 = some [.int .i64 0, .int .i64 0, .int .i64 0, .int .i64 1, .int .i64 0, .int .i64 0, .int .i64 0, .int .i64 0, .int .i64 0, .int .i64 0, .int .i64 0]) (hi : cellsAt w gi 0 13 = some [.int .i64 1, .int .i64 5, .int .i64 0, .int .i64 2, .int .i64 0, .int .i64 1, .int .i64 0, .int .i64 0, .int .i64 0, .int .i64 0, .int .i64 0, .int .i64 0, .int .i64 0]) (h : ExAt w rb ru) (hm : ∀ e w', ClPost dY w e w' → R e w') : Calls Tryz.prog 32 #[.slice (some ⟨gl, 0, none⟩) 2 2] w R :=
  Calls.mono (claims_y w ga gi gl rb ru h ha hi hl) hm
theorem cells_new {w : World} {c : Array Value} {t : TypeId} {g n : Nat} {l : List Value} (hg : g = w.heap.size) (hl : c.toList = l) (hn : c.size = n := by rfl) : cellsAt (w.alloc (.cells c t)) g 0 n = some l := by
  subst hg hl hn
  rw [cellsAt_alloc_at _ _ _ _ _ _ rfl, if_pos (by omega), List.drop_zero, List.take_of_length_le (by simp)]
theorem cells_drew {w : World} {g n : Nat} {l : List Value} (h : cellsAt w g 0 n = some l) : cellsAt w.drew g 0 n = some l := h
theorem cells_past {w : World} {o : Obj} {g n : Nat} {l : List Value} (hg : g < w.heap.size) (h : cellsAt w g 0 n = some l) : cellsAt (w.alloc o) g 0 n = some l := (cellsAt_alloc_past w o g 0 n hg).trans h
/-- both are told -/
def ExCut (w0 : World) (x y : Value) (w' : World) : Prop := RdOf cCl w' x dX ∧ RdOf cCl w' y dY ∧ Keeps No w0 w'
set_option maxRecDepth 100000 in
set_option maxHeartbeats 8000000 in
theorem awake_any (w : World) : Calls Tryz.prog 15 #[] w fun e w' => e = .returned (.bool true) ∧ Keeps No w w' := by
  go_enter Tryz.func15, Tryz.ntmps15
  go_upto_region 3 with fail
  refine wp_world ?_
  intro w2 hw2
  have K2 : Hid (Keeps No w w2) := Lib.hid (by rw [hw2]; (repeat (first | exact Keeps.refl w | refine Keeps.alloc ?_ _)))
  have c1 : cellsAt w2 w.heap.size 0 11 = some (bdC bA) := by rw [hw2]; simp [go_sem, bA]
  have c2 : cellsAt w2 (w.heap.size + 1) 0 11 = some (bdC bB) := by rw [hw2]; simp [go_sem, bB]
  have c3 : cellsAt w2 (w.heap.size + 1 + 1) 0 11 = some (bdC bC) := by rw [hw2]; simp [go_sem, bC]
  have c4 : cellsAt w2 (w.heap.size + 1 + 1 + 1 + 1 + 1) 0 8 = some (sdC (sS (w.heap.size + 1 + 1 + 1) (w.heap.size + 1 + 1 + 1 + 1))) := by rw [hw2]; simp [go_sem, sS]
  have cr : cellsAt w2 (w.heap.size + 1 + 1 + 1) 0 11 = some (bdC bB) := by rw [hw2]; simp [go_sem, bB]
  have cu : cellsAt w2 (w.heap.size + 1 + 1 + 1 + 1) 0 14 = some (ouC oS) := by rw [hw2]; simp [go_sem, oS, bC]
  have HX : Hid (ExAt w2 (w.heap.size + 1 + 1 + 1) (w.heap.size + 1 + 1 + 1 + 1)) := Lib.hid ⟨cr, cu⟩
  clear hw2 cr cu
  obtain ⟨rb, hrb⟩ : ∃ g, g = w.heap.size + 1 + 1 + 1 := ⟨_, rfl⟩
  obtain ⟨ru, hru⟩ : ∃ g, g = w.heap.size + 1 + 1 + 1 + 1 := ⟨_, rfl⟩
  obtain ⟨g4, hg4⟩ : ∃ g, g = w.heap.size + 1 + 1 + 1 + 1 + 1 := ⟨_, rfl⟩
  obtain ⟨g3, hg3⟩ : ∃ g, g = w.heap.size + 1 + 1 := ⟨_, rfl⟩
  obtain ⟨g2, hg2⟩ : ∃ g, g = w.heap.size + 1 := ⟨_, rfl⟩
  obtain ⟨g1, hg1⟩ : ∃ g, g = w.heap.size := ⟨_, rfl⟩
  rw [← hg4] at c4 ⊢
  rw [← hru] at c4 HX ⊢
  rw [← hrb] at c4 HX ⊢
  rw [← hg3] at c3 ⊢
  rw [← hg2] at c2 ⊢
  rw [← hg1] at c1 ⊢
  clear hrb hru hg4 hg3 hg2 hg1
  have C2 := Lib.hid c2
  have C3 := Lib.hid c3
  dsimp only [bdC, bA, bC, sdC, sS, adr, List.length] at c1 c3 c4
  have LA : ∀ w', Keeps No w2 w' → cellsAt w' g1 0 11 = some _ := fun w' h => h.cellsAt c1
  have LC : ∀ w', Keeps No w2 w' → cellsAt w' g3 0 11 = some _ := fun w' h => h.cellsAt c3
  have LS : ∀ w', Keeps No w2 w' → cellsAt w' g4 0 8 = some _ := fun w' h => h.cellsAt c4
  have HEX : Hid (∀ w', Keeps No w2 w' → ExAt w' rb ru) := Lib.hid (fun w' h => HX.out.no h)
  clear c1 c2 c3 c4 HX
  go_cut [5, 6] (ExCut w2)
  case first =>
    go_region_held3 (fun w' => Keeps No w2 w')
      (repeat (first | assumption | exact Keeps.refl w2 | with_reducible refine Keeps.drew ?_ | with_reducible refine Keeps.alloc ?_ _))
      (first
        | (go_at_call 32
           with_reducible apply claims_x_mono
           (repeat (first | ((with_reducible refine cells_new ?_ ?_ ?_); (focus simp); (focus rfl); (focus rfl)) | with_reducible refine cells_past (by first | omega | (simp; done) | (simp; omega)) ?_ | with_reducible refine cells_drew ?_ | with_reducible refine hk5.cellsAt ?_))
           (repeat (first | ((with_reducible refine cells_new ?_ ?_ ?_); (focus simp); (focus rfl); (focus rfl)) | with_reducible refine cells_past (by first | omega | (simp; done) | (simp; omega)) ?_ | with_reducible refine cells_drew ?_ | with_reducible refine hk5.cellsAt ?_))
           exact HEX.out _ (by (repeat (first | assumption | exact Keeps.refl w2 | with_reducible refine Keeps.drew ?_ | with_reducible refine Keeps.alloc ?_ _)))
           rintro e w5 ⟨vx, rfl, hrx, hk5⟩
           have hz5 := hk5.size
           simp at hz5
           have hS5 : Keeps No w2 w5 := Keeps.trans (b := _) (by (repeat (first | assumption | exact Keeps.refl w2 | with_reducible refine Keeps.drew ?_ | with_reducible refine Keeps.alloc ?_ _))) hk5 (fun _ _ h => h))
        | (go_at_call 32
           with_reducible apply claims_y_mono
           (repeat (first | ((with_reducible refine cells_new ?_ ?_ ?_); (focus simp); (focus rfl); (focus rfl)) | with_reducible refine cells_past (by first | omega | (simp; done) | (simp; omega)) ?_ | with_reducible refine cells_drew ?_ | with_reducible refine hk5.cellsAt ?_))
           (repeat (first | ((with_reducible refine cells_new ?_ ?_ ?_); (focus simp); (focus rfl); (focus rfl)) | with_reducible refine cells_past (by first | omega | (simp; done) | (simp; omega)) ?_ | with_reducible refine cells_drew ?_ | with_reducible refine hk5.cellsAt ?_))
           (repeat (first | ((with_reducible refine cells_new ?_ ?_ ?_); (focus simp); (focus rfl); (focus rfl)) | with_reducible refine cells_past (by first | omega | (simp; done) | (simp; omega)) ?_ | with_reducible refine cells_drew ?_ | with_reducible refine hk5.cellsAt ?_))
           exact HEX.out _ (by (repeat (first | assumption | exact Keeps.refl w2 | with_reducible refine Keeps.drew ?_ | with_reducible refine Keeps.alloc ?_ _)))
           rintro e w6 ⟨vy, rfl, hry, hk6⟩
           have hS6 : Keeps No w5 w6 := Keeps.trans (b := _) (by (repeat (first | assumption | exact Keeps.refl w5 | with_reducible refine Keeps.drew ?_ | with_reducible refine Keeps.alloc ?_ _))) hk6 (fun _ _ h => h)
           have hS7 : Keeps No w2 w6 := hS5.trans hS6 (fun _ _ h => h)))
    all_goals go_wp2_with fail
    all_goals go_meet
    all_goals exact ⟨hrx.kept hS6 (fun _ _ h => h), hry, hS5.trans hS6 (fun _ _ h => h)⟩
  case rest =>
    obtain ⟨hx, hy, hk⟩ := hcut
    obtain ⟨wb, hwb⟩ : ∃ x : World, x = wc := ⟨_, rfl⟩
    subst hwb
    obtain ⟨xa, xc, rfl⟩ := hx.slice
    obtain ⟨ya, yc, rfl⟩ := hy.slice
    obtain ⟨gx, ox, rfl, _, _, _⟩ := RdOf.addr cCl hx (by decide)
    obtain ⟨gy, oy, rfl, _, _, _⟩ := RdOf.addr cCl hy (by decide)
    have x0 : cellsAt wb gx (ox + 0 * 4) 4 = some [.int .i64 0, .int .i64 0, .int .i64 0, .int .i64 0] := RdOf.at cCl hx 0 (by decide)
    have x1 : cellsAt wb gx (ox + 1 * 4) 4 = some [.int .i64 0, .int .i64 1, .int .i64 0, .int .i64 1] := RdOf.at cCl hx 1 (by decide)
    have y2 : cellsAt wb gy (oy + 2 * 4) 4 = some [.int .i64 0, .int .i64 2, .int .i64 0, .int .i64 0] := RdOf.at cCl hy 2 (by decide)
    have b3 : cellsAt wb g2 0 3 = some [.int .i64 0, .int .i64 1, .int .i64 0] := cellsAt_part (hk.cellsAt C2.out) 0 [.int .i64 0, .int .i64 1, .int .i64 0] rfl (by simp)
    have c3 : cellsAt wb g3 0 3 = some [.int .i64 0, .int .i64 2, .int .i64 0] := cellsAt_part (hk.cellsAt C3.out) 0 [.int .i64 0, .int .i64 2, .int .i64 0] rfl (by simp)
    have KF : Hid (Keeps No w wb) := Lib.hid (K2.out.trans hk (fun _ _ h => h))
    have ex : (dX.length : Int) = 2 := rfl
    have ey : (dY.length : Int) = 3 := rfl
    have ex' : dX.length = 2 := rfl
    have ey' : dY.length = 3 := rfl
    rw [ex', ey']
    simp only [Nat.zero_mul, Nat.add_zero, Nat.one_mul, Nat.reduceMul] at x0 x1 y2
    clear hx hy hk LA LC LS HEX ex ey ex' ey'
    go_wp2_with fail
    go_quiet (fail)
    go_wp2
    go_ret
    exact ⟨rfl, KF.out.drewN nq⟩
end Go.Proofs.YtndjnkjcfdaegaaGreatDoor

