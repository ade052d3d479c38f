/-
  A world of three shards, as data: entities have one owner each, one message speaks of each that is under way. Plain lemmas. No conditions of its own.
-/
import Derived.Test.YtggaeihinheojaaHoS
import Derived.Test.YtggaeihinheojaaHoX
namespace Go.Proofs.Ytggaeihinheojaa

/-! ### sums over lists -/
def sm {α : Type} (f : α → Nat) (l : List α) : Nat := (l.map f).sum
section
variable {α : Type} (f : α → Nat)
theorem sm_nil : sm f [] = 0 := rfl
theorem sm_cons (a : α) (l : List α) : sm f (a :: l) = f a + sm f l := by simp [sm]
theorem sm_append (l m : List α) : sm f (l ++ m) = sm f l + sm f m := by simp [sm]
theorem sm_mid (A B : List α) (a : α) : sm f (A ++ a :: B) = f a + sm f (A ++ B) := by simp [sm]; omega
theorem sm_congr {f g : α → Nat} {l : List α} (h : ∀ a ∈ l, f a = g a) : sm f l = sm g l := by
  unfold sm
  rw [List.map_congr_left h]
theorem sm_add (g : α → Nat) (l : List α) : sm (fun a => f a + g a) l = sm f l + sm g l := by
  induction l with
  | nil => rfl
  | cons a l ih => rw [sm_cons, sm_cons, sm_cons, ih]; omega
theorem sm_one (l : List α) : sm (fun _ => 1) l = l.length := by
  induction l with
  | nil => rfl
  | cons a l ih => rw [sm_cons, ih, List.length_cons]; omega
theorem sm_mem {l : List α} {a : α} (h : a ∈ l) : f a ≤ sm f l := by
  induction l with
  | nil => cases h
  | cons b l ih =>
    rw [sm_cons]
    rcases List.mem_cons.1 h with rfl | h
    · omega
    · have := ih h; omega
end

/-! ### a world of three shards, as data -/
/-- what a message says -/
abbrev Mc := Int × Int × List Bd
structure Sh where
  own : List Bd
  outs : List Ou
  ins : List Inn
  nx : Nat
structure Wd where
  s : Nat → Sh
  way : Nat → Nat → List Mc
  n : Nat
def Sh.nil : Sh := ⟨[], [], [], 0⟩
def Wd.nil : Wd := ⟨fun _ => .nil, fun _ _ => [], 0⟩
def upd {α : Type} (f : Nat → α) (k : Nat) (x : α) : Nat → α := fun i => if i = k then x else f i
def upd2 {α : Type} (f : Nat → Nat → α) (a b : Nat) (x : α) : Nat → Nat → α := fun i j => if i = a ∧ j = b then x else f i j
theorem upd_at {α : Type} (f : Nat → α) (k : Nat) (x : α) : upd f k x k = x := by simp [upd]
theorem upd_ne {α : Type} (f : Nat → α) {k i : Nat} (x : α) (h : i ≠ k) : upd f k x i = f i := by simp [upd, h]
def Wd.setS (W : Wd) (k : Nat) (x : Sh) : Wd := { W with s := upd W.s k x }
def Wd.setW (W : Wd) (a b : Nat) (l : List Mc) : Wd := { W with way := upd2 W.way a b l }
theorem Wd.setS_at (W : Wd) (k : Nat) (x : Sh) : (W.setS k x).s k = x := upd_at _ _ _
theorem Wd.setS_ne (W : Wd) {k i : Nat} (x : Sh) (h : i ≠ k) : (W.setS k x).s i = W.s i := upd_ne _ _ h
theorem Wd.setS_way (W : Wd) (k : Nat) (x : Sh) : (W.setS k x).way = W.way := rfl
theorem Wd.setS_n (W : Wd) (k : Nat) (x : Sh) : (W.setS k x).n = W.n := rfl
theorem Wd.setW_s (W : Wd) (a b : Nat) (l : List Mc) : (W.setW a b l).s = W.s := rfl
theorem Wd.setW_n (W : Wd) (a b : Nat) (l : List Mc) : (W.setW a b l).n = W.n := rfl

/-- an entity whose name was given here -/
structure Good (n : Nat) (b : Bd) : Prop where
  g0 : 0 ≤ b.g
  g1 : b.g < n
  i : b.i = b.g % 16
  s0 : 0 ≤ b.s
  s1 : b.s < 3
/-- ahead in the order of names -/
def Lt (a b : Bd) : Prop := cmpN a b.s b.i b.g < 0
/-- what an Out of shard k may be -/
structure OutOk (k nx : Nat) (o : Ou) : Prop where
  tgt : ∃ b : Nat, b < 3 ∧ b ≠ k ∧ o.to = b
  st : (o.st = 1 ∧ o.n = 0) ∨ ((o.st = 2 ∨ o.st = 3) ∧ 1 ≤ o.n ∧ o.n ≤ nx)
/-- the order of Outs: those under way first, by their numbers -/
def Ahead (o p : Ou) : Prop := (o.st = 1 → p.st = 1) ∧ (o.st ≠ 1 → p.st ≠ 1 → o.n < p.n)

/-- does the target of an Out of shard k still hold it back? -/
def staged (W : Wd) (k : Nat) (o : Ou) : Bool := (W.s o.to.toNat).ins.any (isIn k o.n)
/-- is it one's own still, or the target's already? -/
def counted (W : Wd) (k : Nat) (o : Ou) : Bool := !(o.st == 3) || staged W k o
/-- all that are owned, weighed -/
def piece (φ : Bd → Nat) (W : Wd) (k : Nat) : Nat := sm φ (W.s k).own + sm (fun o => if counted W k o = true then φ o.b else 0) (W.s k).outs
def tot (φ : Bd → Nat) (W : Wd) : Nat := piece φ W 0 + piece φ W 1 + piece φ W 2
def isG (g : Int) (b : Bd) : Nat := if b.g = g then 1 else 0

/-- an Out under way from a to b, in a state, with an entity -/
def Tr (W : Wd) (a b : Nat) (n st : Int) (x : Bd) : Prop := ∃ o ∈ (W.s a).outs, o.n = n ∧ o.to = b ∧ o.st = st ∧ o.b = x
/-- staged at b, from a -/
def Has (W : Wd) (b a : Nat) (n : Int) : Prop := ∃ x ∈ (W.s b).ins, x.f = a ∧ x.n = n

/-- the shards' states by themselves -/
structure OkS (W : Wd) (T : Nat) : Prop where
  n40 : W.n ≤ 40
  len : tot (fun _ => 1) W = W.n
  cnt : ∀ g : Int, tot (isG g) W = if 0 ≤ g ∧ g < W.n then 1 else 0
  good : ∀ k, k < 3 → (∀ b ∈ (W.s k).own, Good W.n b) ∧ ∀ o ∈ (W.s k).outs, Good W.n o.b
  sorted : ∀ k, k < 3 → (W.s k).own.Pairwise Lt
  outs : ∀ k, k < 3 → ∀ o ∈ (W.s k).outs, OutOk k (W.s k).nx o
  order : ∀ k, k < 3 → (W.s k).outs.Pairwise Ahead
  under : ∀ k, k < 3 → underOf (W.s k).outs ≤ 4
  nx : ∀ k, k < 3 → (W.s k).nx ≤ T
  ins : ∀ k, k < 3 → ∀ x ∈ (W.s k).ins, ∃ a : Nat, a < 3 ∧ a ≠ k ∧ x.f = a ∧ ∃ st, st ≠ 1 ∧ Tr W a k x.n st x.b
  insd : ∀ k, k < 3 → (W.s k).ins.Pairwise fun x y => ¬ (x.f = y.f ∧ x.n = y.n)

/-! ### the messages -/
def saysM (n : Int) (m : Mc) : Bool := (m.1 == 7 || m.1 == 9) && m.2.1 == n
def repsM (n : Int) (m : Mc) : Bool := (m.1 == 8 || m.1 == 10) && m.2.1 == n
def trO (b : Nat) (n : Int) (o : Ou) : Bool := !(o.st == 1) && (o.to == (b : Int) && o.n == n)
/-- how many messages are on their way of one that is under way -/
def cM (W : Wd) (a b : Nat) (n : Int) : Nat := (W.way a b).countP (saysM n) + (W.way b a).countP (repsM n)
def cT (W : Wd) (a b : Nat) (n : Int) : Nat := (W.s a).outs.countP (trO b n)
/-- what a message from a to b may be -/
def MsgOk (W : Wd) (a b : Nat) (m : Mc) : Prop :=
  (m.1 = 7 ∧ ∃ x, m.2.2 = [x] ∧ Tr W a b m.2.1 2 x) ∨ (m.1 = 9 ∧ m.2.2 = [] ∧ ∃ x, Tr W a b m.2.1 3 x) ∨
  (m.1 = 8 ∧ m.2.2 = [] ∧ (∃ x, Tr W b a m.2.1 2 x) ∧ Has W a b m.2.1) ∨ (m.1 = 10 ∧ m.2.2 = [] ∧ (∃ x, Tr W b a m.2.1 3 x) ∧ ¬ Has W a b m.2.1)
structure OkM (W : Wd) : Prop where
  msg : ∀ a b, a < 3 → b < 3 → ∀ m ∈ W.way a b, MsgOk W a b m
  one : ∀ a b, a < 3 → b < 3 → a ≠ b → ∀ n, cM W a b n = cT W a b n
  diag : ∀ a, a < 3 → W.way a a = []

/-- behind T steps -/
structure Ok (W : Wd) (T : Nat) : Prop where
  S : OkS W T
  M : OkM W

theorem ok_nil : Ok Wd.nil 0 := by
  refine ⟨⟨by decide, rfl, fun g => ?_, ?_, ?_, ?_, ?_, ?_, ?_, ?_, ?_⟩, ⟨?_, ?_, fun _ _ => rfl⟩⟩
  · have h : ¬ (0 ≤ g ∧ g < ((Wd.nil.n : Nat) : Int)) := by show ¬ (0 ≤ g ∧ g < ((0 : Nat) : Int)); omega
    rw [if_neg h]
    rfl
  all_goals intros
  all_goals simp_all [Wd.nil, Sh.nil, underOf, cM, cT]

/-! ### numbers are nobody else's -/
theorem pair_mem {α : Type} {R : α → α → Prop} {l : List α} (h : l.Pairwise R) {x y : α} (hx : x ∈ l) (hy : y ∈ l) (hne : x ≠ y) : R x y ∨ R y x := by
  induction l with
  | nil => cases hx
  | cons a l ih =>
    rw [List.pairwise_cons] at h
    rcases List.mem_cons.1 hx with e1 | hx <;> rcases List.mem_cons.1 hy with e2 | hy
    · exact absurd (e1.trans e2.symm) hne
    · exact .inl (e1 ▸ h.1 _ hy)
    · exact .inr (e2 ▸ h.1 _ hx)
    · exact ih h.2 hx hy
theorem ahead_mid {A B : List Ou} {o : Ou} (h : (A ++ o :: B).Pairwise Ahead) : (∀ p ∈ A, Ahead p o) ∧ (∀ p ∈ B, Ahead o p) ∧ (A ++ B).Pairwise Ahead := by
  rw [List.pairwise_append, List.pairwise_cons] at h
  obtain ⟨h1, ⟨h2, h3⟩, h4⟩ := h
  refine ⟨fun p hp => h4 p hp o (by simp), h2, ?_⟩
  rw [List.pairwise_append]
  exact ⟨h1, h3, fun x hx y hy => h4 x hx y (by simp [hy])⟩
/-- the others under way have other numbers -/
theorem num_ne {A B : List Ou} {o : Ou} (h : (A ++ o :: B).Pairwise Ahead) (ho : o.st ≠ 1) : ∀ p ∈ A ++ B, p.st ≠ 1 → p.n ≠ o.n := by
  obtain ⟨h1, h2, _⟩ := ahead_mid h
  intro p hp hs
  rcases List.mem_append.1 hp with hp | hp
  · have := (h1 p hp).2 hs ho; omega
  · have := (h2 p hp).2 ho hs; omega

theorem out_uniq {W : Wd} {T : Nat} (h : OkS W T) {a : Nat} (ha : a < 3) {o p : Ou} (ho : o ∈ (W.s a).outs) (hp : p ∈ (W.s a).outs) (h1 : o.st ≠ 1) (h2 : p.st ≠ 1) (hn : o.n = p.n) : o = p := by
  by_cases e : o = p
  · exact e
  · rcases pair_mem (h.order a ha) ho hp e with h3 | h3
    · have := h3.2 h1 h2; omega
    · have := h3.2 h2 h1; omega
theorem tr_uniq {W : Wd} {T : Nat} (h : OkS W T) {a b c : Nat} (ha : a < 3) {n s t : Int} {x y : Bd} (h1 : Tr W a b n s x) (h2 : Tr W a c n t y) (hs : s ≠ 1) (ht : t ≠ 1) : b = c ∧ s = t ∧ x = y := by
  obtain ⟨o, ho, rfl, hto, rfl, rfl⟩ := h1
  obtain ⟨p, hp, hn, hpo, rfl, rfl⟩ := h2
  obtain rfl := out_uniq h ha ho hp hs ht hn.symm
  exact ⟨by omega, rfl, rfl⟩

/-! ### weights -/
theorem tot_of {φ : Bd → Nat} {W W' : Wd} (h : ∀ i, i < 3 → piece φ W' i = piece φ W i) : tot φ W' = tot φ W := by
  unfold tot
  rw [h 0 (by omega), h 1 (by omega), h 2 (by omega)]
theorem counted_congr {W W' : Wd} (h : ∀ i, (W'.s i).ins = (W.s i).ins) (k : Nat) (o : Ou) : counted W' k o = counted W k o := by
  unfold counted staged
  rw [h]
theorem tot_move {φ : Bd → Nat} {W : Wd} {k : Nat} {x : Sh} (hi : x.ins = (W.s k).ins) (h : sm φ x.own + sm (fun o => if counted W k o = true then φ o.b else 0) x.outs = piece φ W k) : tot φ (W.setS k x) = tot φ W := by
  have hc : ∀ i o, counted (W.setS k x) i o = counted W i o := fun i o => counted_congr (fun j => by
    by_cases e : j = k
    · subst e; rw [Wd.setS_at, hi]
    · rw [Wd.setS_ne _ _ e]) i o
  refine tot_of fun i _ => ?_
  unfold piece
  simp only [hc]
  by_cases e : i = k
  · subst e
    rw [Wd.setS_at]
    exact h
  · rw [Wd.setS_ne _ _ e]
theorem tot_setW (φ : Bd → Nat) (W : Wd) (a b : Nat) (l : List Mc) : tot φ (W.setW a b l) = tot φ W := rfl

/-- the messages do not count for the states -/
theorem OkS.setW {W : Wd} {T : Nat} (h : OkS W T) (a b : Nat) (l : List Mc) : OkS (W.setW a b l) T :=
  ⟨h.n40, h.len, h.cnt, h.good, h.sorted, h.outs, h.order, h.under, h.nx, h.ins, h.insd⟩
theorem OkS.up {W : Wd} {T : Nat} (h : OkS W T) : OkS W (T + 1) :=
  ⟨h.n40, h.len, h.cnt, h.good, h.sorted, h.outs, h.order, h.under, fun k hk => Nat.le_succ_of_le (h.nx k hk), h.ins, h.insd⟩

/-- one shard's state is another one: what is to be shown of it -/
theorem OkS.set {W : Wd} {T T' : Nat} (h : OkS W T) {k : Nat} (hk : k < 3) {x : Sh} (hT : T ≤ T') (hlen : ∀ φ, tot φ (W.setS k x) = tot φ W)
    (hown : ∀ b ∈ x.own, Good W.n b) (hgo : ∀ o ∈ x.outs, Good W.n o.b) (hs : x.own.Pairwise Lt) (ho : ∀ o ∈ x.outs, OutOk k x.nx o) (hord : x.outs.Pairwise Ahead) (hu : underOf x.outs ≤ 4) (hnx : x.nx ≤ T')
    (hin : ∀ i, i < 3 → ∀ y ∈ ((W.setS k x).s i).ins, ∃ a : Nat, a < 3 ∧ a ≠ i ∧ y.f = a ∧ ∃ st, st ≠ 1 ∧ Tr (W.setS k x) a i y.n st y.b)
    (hind : x.ins.Pairwise fun x y => ¬ (x.f = y.f ∧ x.n = y.n)) : OkS (W.setS k x) T' := by
  refine ⟨h.n40, by rw [hlen]; exact h.len, fun g => by rw [hlen]; exact h.cnt g, ?_, ?_, ?_, ?_, ?_, ?_, hin, ?_⟩
  all_goals
    intro i hi
    by_cases e : i = k
    · subst e
      rw [Wd.setS_at]
      first
        | exact ⟨hown, hgo⟩
        | exact hs
        | exact ho
        | exact hord
        | exact hu
        | exact hnx
        | exact hind
    · rw [Wd.setS_ne _ _ e]
      first
        | exact h.good i hi
        | exact h.sorted i hi
        | exact h.outs i hi
        | exact h.order i hi
        | exact h.under i hi
        | exact Nat.le_trans (h.nx i hi) hT
        | exact h.insd i hi

theorem OutOk.mono {k n m : Nat} {o : Ou} (h : OutOk k n o) (hm : n ≤ m) : OutOk k m o := by
  refine ⟨h.tgt, ?_⟩
  rcases h.st with h | ⟨h1, h2, h3⟩
  · exact .inl h
  · exact .inr ⟨h1, h2, by omega⟩
theorem underOf_append (A B : List Ou) : underOf (A ++ B) = underOf A + underOf B := by simp [underOf]
theorem underOf_cons (o : Ou) (B : List Ou) : underOf (o :: B) = (if o.st = 1 then 0 else 1) + underOf B := by
  unfold underOf isKept
  by_cases h : o.st = 1
  · simp [h]
  · simp [h]; omega
theorem tr_ne {W : Wd} {k a b : Nat} {x : Sh} (h : a ≠ k) {n st : Int} {y : Bd} : Tr (W.setS k x) a b n st y ↔ Tr W a b n st y := by
  unfold Tr
  rw [Wd.setS_ne _ _ h]
theorem has_ne {W : Wd} {k a b : Nat} {x : Sh} (h : b ≠ k) {n : Int} : Has (W.setS k x) b a n ↔ Has W b a n := by
  unfold Has
  rw [Wd.setS_ne _ _ h]
theorem tr_at {W : Wd} {k b : Nat} {x : Sh} {n st : Int} {y : Bd} : Tr (W.setS k x) k b n st y ↔ ∃ o ∈ x.outs, o.n = n ∧ o.to = b ∧ o.st = st ∧ o.b = y := by
  unfold Tr
  rw [Wd.setS_at]
theorem has_at {W : Wd} {k a : Nat} {x : Sh} {n : Int} : Has (W.setS k x) k a n ↔ ∃ y ∈ x.ins, y.f = a ∧ y.n = n := by
  unfold Has
  rw [Wd.setS_at]
/-- the Ins stay right, where no Out under way is lost -/
theorem ins_stay {W : Wd} {T : Nat} (h : OkS W T) {k : Nat} {x : Sh} (hi : x.ins = (W.s k).ins) (ht : ∀ i (y : Inn), i < 3 → y ∈ (W.s i).ins → ∀ st, st ≠ 1 → Tr W k i y.n st y.b → y.f = k → ∃ st', st' ≠ 1 ∧ Tr (W.setS k x) k i y.n st' y.b) :
    ∀ i, i < 3 → ∀ y ∈ ((W.setS k x).s i).ins, ∃ a : Nat, a < 3 ∧ a ≠ i ∧ y.f = a ∧ ∃ st, st ≠ 1 ∧ Tr (W.setS k x) a i y.n st y.b := by
  intro i hi3 y hy
  have hy' : y ∈ (W.s i).ins := by
    by_cases e : i = k
    · subst e
      rw [Wd.setS_at, hi] at hy
      exact hy
    · rw [Wd.setS_ne _ _ e] at hy
      exact hy
  obtain ⟨a, ha, hne, hf, st, hst, htr⟩ := h.ins i hi3 y hy'
  refine ⟨a, ha, hne, hf, ?_⟩
  by_cases e : a = k
  · subst e
    exact ht i y hi3 hy' st hst htr hf
  · exact ⟨st, hst, (tr_ne e).2 htr⟩

/-- one more is asked for -/
theorem ask_S {W : Wd} {T k : Nat} (h : OkS W T) (hk : k < 3) {A B : List Ou} {o : Ou} (hl : (W.s k).outs = A ++ o :: B) (ho : o.st = 1) (hA : ∀ p ∈ A, p.st ≠ 1) (hu : underOf (W.s k).outs < 4) :
    OkS (W.setS k ⟨(W.s k).own, A ++ ⟨((W.s k).nx : Int) + 1, o.to, 2, o.b⟩ :: B, (W.s k).ins, (W.s k).nx + 1⟩) (T + 1) := by
  have hord := h.order k hk
  have hout := h.outs k hk
  have hgo := (h.good k hk).2
  rw [hl] at hord hout hgo hu
  obtain ⟨h1, h2, h3⟩ := ahead_mid hord
  have hmem : ∀ p, p ∈ A ∨ p ∈ B → p ∈ A ++ o :: B := fun p hp => by
    simp only [List.mem_append, List.mem_cons]
    rcases hp with hp | hp
    · exact .inl hp
    · exact .inr (.inr hp)
  refine h.set hk (by omega) (fun φ => tot_move rfl ?_) (h.good k hk).1 ?_ (h.sorted k hk) ?_ ?_ ?_ ?_ (ins_stay h rfl ?_) (h.insd k hk)
  · show _ = piece φ W k
    unfold piece
    rw [hl, sm_mid, sm_mid]
    have e1 : counted W k ⟨((W.s k).nx : Int) + 1, o.to, 2, o.b⟩ = true := by simp [counted]
    have e2 : counted W k o = true := by simp [counted, ho]
    rw [e1, e2]
  · intro p hp
    simp only [List.mem_append, List.mem_cons] at hp
    rcases hp with hp | rfl | hp
    · exact hgo p (hmem p (.inl hp))
    · exact hgo o (by simp)
    · exact hgo p (hmem p (.inr hp))
  · intro p hp
    simp only [List.mem_append, List.mem_cons] at hp
    rcases hp with hp | rfl | hp
    · exact (hout p (hmem p (.inl hp))).mono (by show _ ≤ _ + 1; omega)
    · exact ⟨(hout o (by simp)).tgt, .inr ⟨.inl rfl, by show (1 : Int) ≤ _ + 1; omega, by show ((W.s k).nx : Int) + 1 ≤ ((((W.s k).nx + 1 : Nat)) : Int); omega⟩⟩
    · exact (hout p (hmem p (.inr hp))).mono (by show _ ≤ _ + 1; omega)
  · show (A ++ _ :: B).Pairwise Ahead
    rw [List.pairwise_append, List.pairwise_cons]
    rw [List.pairwise_append] at h3
    refine ⟨h3.1, ⟨fun q hq => ⟨fun h0 => absurd h0 (show ¬ (2 : Int) = 1 by decide), fun _ hq1 => absurd ((h2 q hq).1 ho) hq1⟩, h3.2.1⟩, ?_⟩
    intro p hp q hq
    rcases List.mem_cons.1 hq with rfl | hq
    · refine ⟨fun h0 => absurd h0 (hA p hp), fun _ _ => ?_⟩
      rcases (hout p (hmem p (.inl hp))).st with h4 | ⟨_, _, h4⟩
      · exact absurd h4.1 (hA p hp)
      · show p.n < ((W.s k).nx : Int) + 1
        omega
    · exact h3.2.2 p hp q hq
  · show underOf (A ++ _ :: B) ≤ 4
    rw [underOf_append, underOf_cons] at hu ⊢
    rw [if_pos ho] at hu
    simp
    omega
  · show (W.s k).nx + 1 ≤ T + 1
    have := h.nx k hk
    omega
  · intro i y _ _ st hst htr _
    obtain ⟨p, hp, e1, e2, e3, e4⟩ := htr
    rw [hl] at hp
    simp only [List.mem_append, List.mem_cons] at hp
    refine ⟨st, hst, tr_at.2 ⟨p, ?_, e1, e2, e3, e4⟩⟩
    simp only [List.mem_append, List.mem_cons]
    rcases hp with hp | rfl | hp
    · exact .inl hp
    · rw [ho] at e3
      exact absurd e3.symm hst
    · exact .inr (.inr hp)

/-- what asks and commits leave of the others' transfers -/
theorem mid_tr {A B : List Ou} {o o' : Ou} {P : Ou → Prop} (h1 : ¬ P o) (h2 : ¬ P o') : (∃ p ∈ A ++ o :: B, P p) ↔ ∃ p ∈ A ++ o' :: B, P p := by
  constructor
  all_goals
    rintro ⟨p, hp, hP⟩
    simp only [List.mem_append, List.mem_cons] at hp
    refine ⟨p, ?_, hP⟩
    simp only [List.mem_append, List.mem_cons]
    rcases hp with hp | rfl | hp
    · exact .inl hp
    · first | exact absurd hP h1 | exact absurd hP h2
    · exact .inr (.inr hp)

/-- one is sent -/
theorem commit_S {W : Wd} {T k : Nat} (h : OkS W T) (hk : k < 3) {A B : List Ou} {o : Ou} (hl : (W.s k).outs = A ++ o :: B) (ho : o.st = 2) (hin : staged W k o = true) :
    OkS (W.setS k ⟨(W.s k).own, A ++ ⟨o.n, o.to, 3, o.b⟩ :: B, (W.s k).ins, (W.s k).nx⟩) (T + 1) := by
  have hord := h.order k hk
  have hout := h.outs k hk
  have hgo := (h.good k hk).2
  have hu := h.under k hk
  rw [hl] at hord hout hgo hu
  obtain ⟨h1, h2, h3⟩ := ahead_mid hord
  have hmem : ∀ p, p ∈ A ∨ p ∈ B → p ∈ A ++ o :: B := fun p hp => by
    simp only [List.mem_append, List.mem_cons]
    rcases hp with hp | hp
    · exact .inl hp
    · exact .inr (.inr hp)
  refine h.set hk (by omega) (fun φ => tot_move rfl ?_) (h.good k hk).1 ?_ (h.sorted k hk) ?_ ?_ ?_ (Nat.le_succ_of_le (h.nx k hk)) (ins_stay h rfl ?_) (h.insd k hk)
  · show _ = piece φ W k
    unfold piece
    rw [hl, sm_mid, sm_mid]
    have e1 : counted W k ⟨o.n, o.to, 3, o.b⟩ = true := by
      have : staged W k ⟨o.n, o.to, 3, o.b⟩ = staged W k o := rfl
      simp [counted, this, hin]
    have e2 : counted W k o = true := by simp [counted, ho]
    rw [e1, e2]
  · intro p hp
    simp only [List.mem_append, List.mem_cons] at hp
    rcases hp with hp | rfl | hp
    · exact hgo p (hmem p (.inl hp))
    · exact hgo o (by simp)
    · exact hgo p (hmem p (.inr hp))
  · intro p hp
    simp only [List.mem_append, List.mem_cons] at hp
    rcases hp with hp | rfl | hp
    · exact hout p (hmem p (.inl hp))
    · have h0 := hout o (by simp)
      refine ⟨h0.tgt, ?_⟩
      rcases h0.st with h4 | ⟨_, h4⟩
      · rw [ho] at h4; exact absurd h4.1 (by decide)
      · exact .inr ⟨.inr rfl, h4⟩
    · exact hout p (hmem p (.inr hp))
  · show (A ++ _ :: B).Pairwise Ahead
    rw [List.pairwise_append, List.pairwise_cons]
    rw [List.pairwise_append] at h3
    refine ⟨h3.1, ⟨fun q hq => ⟨fun h0 => absurd h0 (show ¬ (3 : Int) = 1 by decide), fun _ hq1 => (h2 q hq).2 (by rw [ho]; decide) hq1⟩, h3.2.1⟩, ?_⟩
    intro p hp q hq
    rcases List.mem_cons.1 hq with rfl | hq
    · refine ⟨fun h0 => absurd ((h1 p hp).1 h0) (by rw [ho]; decide), fun h4 _ => (h1 p hp).2 h4 (by rw [ho]; decide)⟩
    · exact h3.2.2 p hp q hq
  · show underOf (A ++ _ :: B) ≤ 4
    rw [underOf_append, underOf_cons] at hu ⊢
    rw [if_neg (by rw [ho]; decide)] at hu
    simp
    omega
  · intro i y _ _ st hst htr _
    obtain ⟨p, hp, e1, e2, e3, e4⟩ := htr
    rw [hl] at hp
    simp only [List.mem_append, List.mem_cons] at hp
    rcases hp with hp | rfl | hp
    · exact ⟨st, hst, tr_at.2 ⟨p, by simp [hp], e1, e2, e3, e4⟩⟩
    · exact ⟨3, by decide, tr_at.2 ⟨⟨p.n, p.to, 3, p.b⟩, by simp, e1, e2, rfl, e4⟩⟩
    · exact ⟨st, hst, tr_at.2 ⟨p, by simp [hp], e1, e2, e3, e4⟩⟩

/-- one is done -/
theorem done_S {W : Wd} {T k : Nat} (h : OkS W T) (hk : k < 3) {A B : List Ou} {o : Ou} (hl : (W.s k).outs = A ++ o :: B) (ho : o.st = 3) (hin : staged W k o = false) :
    OkS (W.setS k ⟨(W.s k).own, A ++ B, (W.s k).ins, (W.s k).nx⟩) (T + 1) := by
  have hord := h.order k hk
  have hout := h.outs k hk
  have hgo := (h.good k hk).2
  have hu := h.under k hk
  rw [hl] at hord hout hgo hu
  obtain ⟨h1, h2, h3⟩ := ahead_mid hord
  have hmem : ∀ p, p ∈ A ++ B → p ∈ A ++ o :: B := fun p hp => by
    simp only [List.mem_append, List.mem_cons] at hp ⊢
    rcases hp with hp | hp
    · exact .inl hp
    · exact .inr (.inr hp)
  refine h.set hk (by omega) (fun φ => tot_move rfl ?_) (h.good k hk).1 (fun p hp => hgo p (hmem p hp)) (h.sorted k hk) (fun p hp => hout p (hmem p hp)) h3 ?_ (Nat.le_succ_of_le (h.nx k hk)) (ins_stay h rfl ?_) (h.insd k hk)
  · show _ = piece φ W k
    unfold piece
    rw [hl, sm_mid]
    have e2 : counted W k o = false := by simp [counted, ho, hin]
    rw [e2]
    simp
  · show underOf (A ++ B) ≤ 4
    rw [underOf_append, underOf_cons] at hu
    rw [underOf_append]
    omega
  · intro i y hi3 hy st hst htr hf
    obtain ⟨p, hp, e1, e2, e3, e4⟩ := htr
    rw [hl] at hp
    simp only [List.mem_append, List.mem_cons] at hp
    rcases hp with hp | rfl | hp
    · exact ⟨st, hst, tr_at.2 ⟨p, by simp [hp], e1, e2, e3, e4⟩⟩
    · exfalso
      unfold staged at hin
      rw [List.any_eq_false] at hin
      have e5 : p.to.toNat = i := by omega
      rw [e5] at hin
      exact hin y hy (by simp [isIn, hf, e1])
    · exact ⟨st, hst, tr_at.2 ⟨p, by simp [hp], e1, e2, e3, e4⟩⟩

/-- one stands at the door -/
theorem leave_S {W : Wd} {T k d : Nat} (h : OkS W T) (hk : k < 3) (ht : d < 3) (hne : d ≠ k) {A B : List Bd} {b : Bd} (hl : (W.s k).own = A ++ b :: B) :
    OkS (W.setS k ⟨A ++ B, (W.s k).outs ++ [⟨0, d, 1, b⟩], (W.s k).ins, (W.s k).nx⟩) (T + 1) := by
  have hgb := (h.good k hk).1
  have hs := h.sorted k hk
  rw [hl] at hgb hs
  have hs2 : (A ++ B).Pairwise Lt := by
    rw [List.pairwise_append, List.pairwise_cons] at hs
    rw [List.pairwise_append]
    exact ⟨hs.1, hs.2.1.2, fun x hx y hy => hs.2.2 x hx y (by simp [hy])⟩
  refine h.set hk (by omega) (fun φ => tot_move rfl ?_) ?_ ?_ hs2 ?_ ?_ ?_ (Nat.le_succ_of_le (h.nx k hk)) (ins_stay h rfl ?_) (h.insd k hk)
  · show _ = piece φ W k
    unfold piece
    rw [hl, sm_mid φ A B b]
    show sm φ (A ++ B) + sm (fun o => if counted W k o = true then φ o.b else 0) ((W.s k).outs ++ [⟨0, d, 1, b⟩]) = _
    rw [sm_append (fun o => if counted W k o = true then φ o.b else 0) (W.s k).outs, sm_cons, sm_nil]
    have e : counted W k ⟨0, d, 1, b⟩ = true := by simp [counted]
    rw [e]
    simp
    omega
  · intro x hx
    exact hgb x (by simp only [List.mem_append, List.mem_cons] at hx ⊢; rcases hx with hx | hx; exact .inl hx; exact .inr (.inr hx))
  · intro p hp
    simp only [List.mem_append, List.mem_cons, List.not_mem_nil, or_false] at hp
    rcases hp with hp | rfl
    · exact (h.good k hk).2 p hp
    · exact hgb b (by simp)
  · intro p hp
    simp only [List.mem_append, List.mem_cons, List.not_mem_nil, or_false] at hp
    rcases hp with hp | rfl
    · exact h.outs k hk p hp
    · exact ⟨⟨d, ht, hne, rfl⟩, .inl ⟨rfl, rfl⟩⟩
  · show ((W.s k).outs ++ [_]).Pairwise Ahead
    rw [List.pairwise_append]
    refine ⟨h.order k hk, by simp, fun p _ q hq => ?_⟩
    simp only [List.mem_cons, List.not_mem_nil, or_false] at hq
    subst hq
    exact ⟨fun _ => rfl, fun _ h0 => absurd rfl h0⟩
  · show underOf ((W.s k).outs ++ [_]) ≤ 4
    rw [underOf_append, underOf_cons]
    have := h.under k hk
    simp [underOf] at this ⊢
    omega
  · intro i y _ _ st hst htr _
    obtain ⟨p, hp, e1, e2, e3, e4⟩ := htr
    exact ⟨st, hst, tr_at.2 ⟨p, by simp [hp], e1, e2, e3, e4⟩⟩

/-! ### one's own in the order of their names -/
theorem cmpN_lt (a : Bd) (s i g : Int) : cmpN a s i g < 0 ↔ a.s < s ∨ (a.s = s ∧ (a.i < i ∨ (a.i = i ∧ a.g < g))) := by
  unfold cmpN or3 cmpI
  grind
theorem cmpN_eq (a : Bd) (s i g : Int) : cmpN a s i g = 0 ↔ a.s = s ∧ a.i = i ∧ a.g = g := by
  unfold cmpN or3 cmpI
  grind
theorem lt_trans {a b c : Bd} (h1 : Lt a b) (h2 : Lt b c) : Lt a c := by
  unfold Lt at *
  rw [cmpN_lt] at *
  omega
theorem findAt_split (s i g : Int) (l : List Bd) : (∀ x ∈ l.take (findAt s i g l), cmpN x s i g < 0) ∧ (∀ h : findAt s i g l < l.length, 0 ≤ cmpN l[findAt s i g l] s i g) := by
  constructor
  · intro x hx
    obtain ⟨j, hj, rfl⟩ := List.getElem_of_mem hx
    rw [List.getElem_take]
    have hj2 : j < findAt s i g l := by simp at hj; omega
    have := List.not_of_lt_findIdx hj2
    simp [geN] at this
    exact this
  · intro h
    have := List.findIdx_getElem (p := geN s i g) (xs := l) (w := h)
    simp [geN] at this
    exact this
/-- in an ordered list: a name is found iff somebody bears it -/
theorem findIs_iff {l : List Bd} (hs : l.Pairwise Lt) (s i g : Int) : findIs s i g l = true ↔ ∃ x ∈ l, x.s = s ∧ x.i = i ∧ x.g = g := by
  obtain ⟨h1, h2⟩ := findAt_split s i g l
  unfold findIs
  constructor
  · intro h
    split at h
    · rename_i b hb
      obtain ⟨hlt, rfl⟩ := List.getElem?_eq_some_iff.1 hb
      exact ⟨_, List.getElem_mem hlt, (cmpN_eq _ _ _ _).1 (by simpa using h)⟩
    · cases h
  · rintro ⟨x, hx, e1, e2, e3⟩
    have hx0 : cmpN x s i g = 0 := (cmpN_eq _ _ _ _).2 ⟨e1, e2, e3⟩
    obtain ⟨j, hj, rfl⟩ := List.getElem_of_mem hx
    have hle : findAt s i g l ≤ j := by
      rcases Nat.lt_or_ge j (findAt s i g l) with h | h
      · have := h1 l[j] (by rw [List.mem_take_iff_getElem]; exact ⟨j, by omega, rfl⟩)
        omega
      · exact h
    have hlt : findAt s i g l < l.length := by omega
    rw [List.getElem?_eq_getElem hlt]
    have h3 := h2 hlt
    have : findAt s i g l = j := by
      rcases Nat.lt_or_ge (findAt s i g l) j with h | h
      · have h4 := List.pairwise_iff_getElem.1 hs _ _ hlt hj h
        unfold Lt at h4
        rw [e1, e2, e3] at h4
        omega
      · omega
    subst this
    simpa using hx0
theorem insert_sorted {l : List Bd} (hs : l.Pairwise Lt) (b : Bd) (h : findIs b.s b.i b.g l = false) : (l.take (findAt b.s b.i b.g l) ++ b :: l.drop (findAt b.s b.i b.g l)).Pairwise Lt := by
  obtain ⟨h1, h2⟩ := findAt_split b.s b.i b.g l
  have hs' := hs
  rw [← List.take_append_drop (findAt b.s b.i b.g l) l, List.pairwise_append] at hs'
  rw [List.pairwise_append, List.pairwise_cons]
  have hgt : ∀ x ∈ l.drop (findAt b.s b.i b.g l), Lt b x := by
    intro x hx
    obtain ⟨j, hj, rfl⟩ := List.getElem_of_mem hx
    simp only [List.length_drop] at hj
    have hlt : findAt b.s b.i b.g l < l.length := by omega
    have h3 := h2 hlt
    have h4 : Lt b l[findAt b.s b.i b.g l] := by
      have h5 : ¬ cmpN l[findAt b.s b.i b.g l] b.s b.i b.g = 0 := by
        intro h0
        have : findIs b.s b.i b.g l = true := (findIs_iff hs _ _ _).2 ⟨_, List.getElem_mem hlt, (cmpN_eq _ _ _ _).1 h0⟩
        rw [this] at h
        cases h
      have h6 : ¬ cmpN l[findAt b.s b.i b.g l] b.s b.i b.g < 0 := by omega
      unfold Lt
      rw [cmpN_lt] at h6 ⊢
      rw [cmpN_eq] at h5
      omega
    rw [List.getElem_drop]
    rcases Nat.eq_zero_or_pos j with rfl | hj0
    · exact h4
    · exact lt_trans h4 (List.pairwise_iff_getElem.1 hs _ _ hlt (by omega) (by omega))
  refine ⟨hs'.1, ⟨hgt, hs'.2.1⟩, fun x hx y hy => ?_⟩
  rcases List.mem_cons.1 hy with rfl | hy
  · exact h1 x hx
  · exact hs'.2.2 x hx y hy
theorem sm_insert {α : Type} (f : α → Nat) (l : List α) (k : Nat) (a : α) : sm f (l.take k ++ a :: l.drop k) = f a + sm f l := by
  rw [sm_mid, List.take_append_drop]

/-- an entity begins -/
theorem begin_S {W : Wd} {T k : Nat} (h : OkS W T) (hk : k < 3) (hn : W.n < 40) {b : Bd} (hs : b.s = k) (hi : b.i = (W.n : Int) % 16) (hg : b.g = W.n) (hf : findIs b.s b.i b.g (W.s k).own = false) :
    OkS { W.setS k ⟨(W.s k).own.take (findAt b.s b.i b.g (W.s k).own) ++ b :: (W.s k).own.drop (findAt b.s b.i b.g (W.s k).own), (W.s k).outs, (W.s k).ins, (W.s k).nx⟩ with n := W.n + 1 } (T + 1) := by
  have htot : ∀ φ : Bd → Nat, tot φ { W.setS k ⟨(W.s k).own.take (findAt b.s b.i b.g (W.s k).own) ++ b :: (W.s k).own.drop (findAt b.s b.i b.g (W.s k).own), (W.s k).outs, (W.s k).ins, (W.s k).nx⟩ with n := W.n + 1 } = φ b + tot φ W := by
    intro φ
    have hc : ∀ i o, counted { W.setS k ⟨(W.s k).own.take (findAt b.s b.i b.g (W.s k).own) ++ b :: (W.s k).own.drop (findAt b.s b.i b.g (W.s k).own), (W.s k).outs, (W.s k).ins, (W.s k).nx⟩ with n := W.n + 1 } i o = counted W i o := fun i o => counted_congr (fun j => by
      show ((W.setS k _).s j).ins = _
      by_cases e : j = k
      · subst e; rw [Wd.setS_at]
      · rw [Wd.setS_ne _ _ e]) i o
    have hp : ∀ i, piece φ { W.setS k ⟨(W.s k).own.take (findAt b.s b.i b.g (W.s k).own) ++ b :: (W.s k).own.drop (findAt b.s b.i b.g (W.s k).own), (W.s k).outs, (W.s k).ins, (W.s k).nx⟩ with n := W.n + 1 } i = (if i = k then φ b else 0) + piece φ W i := by
      intro i
      unfold piece
      simp only [hc]
      show sm φ ((W.setS k _).s i).own + sm _ ((W.setS k _).s i).outs = _
      by_cases e : i = k
      · subst e
        rw [Wd.setS_at, if_pos rfl, sm_insert]
        dsimp only
        omega
      · rw [Wd.setS_ne _ _ e, if_neg e, Nat.zero_add]
    unfold tot
    rw [hp, hp, hp]
    have : k = 0 ∨ k = 1 ∨ k = 2 := by omega
    rcases this with rfl | rfl | rfl <;> simp <;> omega
  have hgood : Good (W.n + 1) b := ⟨by omega, by omega, by omega, by omega, by omega⟩
  have hup : ∀ x, Good W.n x → Good (W.n + 1) x := fun x hx => ⟨hx.g0, by have := hx.g1; omega, hx.i, hx.s0, hx.s1⟩
  refine ⟨by show W.n + 1 ≤ 40; omega, ?_, ?_, ?_, ?_, ?_, ?_, ?_, ?_, ?_, ?_⟩
  · rw [htot, h.len]
    show 1 + W.n = W.n + 1
    omega
  · intro g
    rw [htot, h.cnt]
    show isG g b + _ = if 0 ≤ g ∧ g < ((W.n + 1 : Nat) : Int) then 1 else 0
    unfold isG
    split <;> split <;> split <;> omega
  · intro i hi3
    show (∀ x ∈ ((W.setS k _).s i).own, Good (W.n + 1) x) ∧ ∀ o ∈ ((W.setS k _).s i).outs, Good (W.n + 1) o.b
    by_cases e : i = k
    · subst e
      rw [Wd.setS_at]
      refine ⟨fun x hx => ?_, fun o ho => hup _ ((h.good i hi3).2 o ho)⟩
      simp only [List.mem_append, List.mem_cons] at hx
      rcases hx with hx | rfl | hx
      · exact hup _ ((h.good i hi3).1 x (List.mem_of_mem_take hx))
      · exact hgood
      · exact hup _ ((h.good i hi3).1 x (List.mem_of_mem_drop hx))
    · rw [Wd.setS_ne _ _ e]
      exact ⟨fun x hx => hup _ ((h.good i hi3).1 x hx), fun o ho => hup _ ((h.good i hi3).2 o ho)⟩
  all_goals
    intro i hi3
    first
      | show ((W.setS k _).s i).own.Pairwise Lt
      | show ∀ o ∈ ((W.setS k _).s i).outs, OutOk i ((W.setS k _).s i).nx o
      | show ((W.setS k _).s i).outs.Pairwise Ahead
      | show underOf ((W.setS k _).s i).outs ≤ 4
      | show ((W.setS k _).s i).nx ≤ T + 1
      | show ∀ x ∈ ((W.setS k _).s i).ins, ∃ a : Nat, a < 3 ∧ a ≠ i ∧ x.f = a ∧ ∃ st, st ≠ 1 ∧ Tr (W.setS k _) a i x.n st x.b
      | show ((W.setS k _).s i).ins.Pairwise _
    by_cases e : i = k
    · subst e
      rw [Wd.setS_at]
      first
        | exact insert_sorted (h.sorted i hi3) b hf
        | exact h.outs i hi3
        | exact h.order i hi3
        | exact h.under i hi3
        | exact Nat.le_succ_of_le (h.nx i hi3)
        | exact h.insd i hi3
        | (intro x hx
           obtain ⟨a, ha, hne, hxf, st, hst, htr⟩ := h.ins i hi3 x hx
           exact ⟨a, ha, hne, hxf, st, hst, (tr_ne hne).2 htr⟩)
    · rw [Wd.setS_ne _ _ e]
      first
        | exact h.sorted i hi3
        | exact h.outs i hi3
        | exact h.order i hi3
        | exact h.under i hi3
        | exact Nat.le_succ_of_le (h.nx i hi3)
        | exact h.insd i hi3
        | (intro x hx
           obtain ⟨a, ha, hne, hxf, st, hst, htr⟩ := h.ins i hi3 x hx
           refine ⟨a, ha, hne, hxf, st, hst, ?_⟩
           by_cases e2 : a = k
           · subst e2
             exact tr_at.2 htr
           · exact (tr_ne e2).2 htr)

theorem any_isIn {l : List Inn} {a : Nat} {n : Int} : l.any (isIn a n) = true ↔ ∃ x ∈ l, x.f = a ∧ x.n = n := by
  simp [isIn]
theorem staged_iff {W : Wd} {k b : Nat} {o : Ou} (ht : o.to = b) : staged W k o = true ↔ Has W b k o.n := by
  unfold staged Has
  rw [any_isIn, ht]
  simp

/-- one is staged -/
theorem stage_S {W : Wd} {T a b : Nat} (h : OkS W T) (ha : a < 3) (hb : b < 3) (hab : a ≠ b) {n : Int} {x : Bd} (htr : Tr W a b n 2 x) (hno : ¬ Has W b a n) :
    OkS (W.setS b ⟨(W.s b).own, (W.s b).outs, (W.s b).ins ++ [⟨a, n, x⟩], (W.s b).nx⟩) (T + 1) := by
  have hpiece : ∀ φ i, i < 3 → piece φ (W.setS b ⟨(W.s b).own, (W.s b).outs, (W.s b).ins ++ [⟨a, n, x⟩], (W.s b).nx⟩) i = piece φ W i := by
    intro φ i hi3
    have ho : ((W.setS b ⟨(W.s b).own, (W.s b).outs, (W.s b).ins ++ [⟨a, n, x⟩], (W.s b).nx⟩).s i).own = (W.s i).own ∧ ((W.setS b ⟨(W.s b).own, (W.s b).outs, (W.s b).ins ++ [⟨a, n, x⟩], (W.s b).nx⟩).s i).outs = (W.s i).outs := by
      by_cases e : i = b
      · subst e; rw [Wd.setS_at]; exact ⟨rfl, rfl⟩
      · rw [Wd.setS_ne _ _ e]; exact ⟨rfl, rfl⟩
    unfold piece
    rw [ho.1, ho.2]
    congr 1
    refine sm_congr fun o hoo => ?_
    have hc : counted (W.setS b ⟨(W.s b).own, (W.s b).outs, (W.s b).ins ++ [⟨a, n, x⟩], (W.s b).nx⟩) i o = counted W i o := by
      unfold counted
      by_cases h3 : o.st = 3
      · have e3 : (!(o.st == 3)) = false := by simp [h3]
        rw [e3, Bool.false_or, Bool.false_or]
        unfold staged
        by_cases e : o.to.toNat = b
        · rw [e, Wd.setS_at]
          show ((W.s b).ins ++ [_]).any _ = _
          rw [List.any_append]
          have : isIn i o.n ⟨a, n, x⟩ = false := by
            cases hq : isIn i o.n ⟨a, n, x⟩
            · rfl
            · exfalso
              simp [isIn] at hq
              obtain ⟨c, hc3, hcn, hct⟩ := (h.outs i hi3 o hoo).tgt
              have hcb : c = b := by omega
              have hia : a = i := by omega
              subst hia hcb
              have h4 : Tr W a c n 3 o.b := ⟨o, hoo, hq.2.symm, hct, h3, rfl⟩
              have := (tr_uniq h ha htr h4 (by decide) (by decide)).2.1
              omega
          simp [this]
        · rw [Wd.setS_ne _ _ e]
      · have e3 : (!(o.st == 3)) = true := by simp [h3]
        rw [e3, Bool.true_or, Bool.true_or]
    rw [hc]
  refine h.set hb (by omega) (fun φ => tot_of fun i hi3 => hpiece φ i hi3) (h.good b hb).1 (h.good b hb).2 (h.sorted b hb) (h.outs b hb) (h.order b hb) (h.under b hb) (Nat.le_succ_of_le (h.nx b hb)) ?_ ?_
  · have htrs : ∀ c d m s y, Tr W c d m s y → Tr (W.setS b ⟨(W.s b).own, (W.s b).outs, (W.s b).ins ++ [⟨a, n, x⟩], (W.s b).nx⟩) c d m s y := by
      intro c d m s y hh
      by_cases e : c = b
      · subst e; exact tr_at.2 hh
      · exact (tr_ne e).2 hh
    intro i hi3 y hy
    by_cases e : i = b
    · subst e
      rw [Wd.setS_at] at hy
      simp only [List.mem_append, List.mem_cons, List.not_mem_nil, or_false] at hy
      rcases hy with hy | rfl
      · obtain ⟨c, hc, hne, hf, st, hst, ht⟩ := h.ins i hi3 y hy
        exact ⟨c, hc, hne, hf, st, hst, htrs _ _ _ _ _ ht⟩
      · exact ⟨a, ha, hab, rfl, 2, by decide, htrs _ _ _ _ _ htr⟩
    · rw [Wd.setS_ne _ _ e] at hy
      obtain ⟨c, hc, hne, hf, st, hst, ht⟩ := h.ins i hi3 y hy
      exact ⟨c, hc, hne, hf, st, hst, htrs _ _ _ _ _ ht⟩
  · show ((W.s b).ins ++ [_]).Pairwise _
    rw [List.pairwise_append]
    refine ⟨h.insd b hb, by simp, fun p hp q hq hpq => ?_⟩
    simp only [List.mem_cons, List.not_mem_nil, or_false] at hq
    subst hq
    exact hno ⟨p, hp, hpq.1, hpq.2⟩

/-- one is adopted: it was nobody's own here, and is now -/
theorem adopt_free {W : Wd} {T a b : Nat} (h : OkS W T) (ha : a < 3) (hb : b < 3) (hab : a ≠ b) {A B : List Inn} {y : Inn} (hl : (W.s b).ins = A ++ y :: B) (hf : y.f = a) (htr : Tr W a b y.n 3 y.b) :
    findIs y.b.s y.b.i y.b.g (W.s b).own = false := by
  cases hq : findIs y.b.s y.b.i y.b.g (W.s b).own
  · rfl
  · exfalso
    obtain ⟨z, hz, _, _, hg⟩ := (findIs_iff (h.sorted b hb) _ _ _).1 hq
    obtain ⟨o, ho, hn, hto, hst, hob⟩ := htr
    have h1 : 1 ≤ sm (isG y.b.g) (W.s b).own := by
      have := sm_mem (isG y.b.g) hz
      simp [isG, hg] at this ⊢
      omega
    have h2 : 1 ≤ sm (fun o => if counted W a o = true then isG y.b.g o.b else 0) (W.s a).outs := by
      have := sm_mem (fun o => if counted W a o = true then isG y.b.g o.b else 0) ho
      have hs : staged W a o = true := (staged_iff hto).2 ⟨y, by rw [hl]; simp, hf, hn.symm⟩
      have hc : counted W a o = true := by simp [counted, hs]
      rw [hc, hob] at this
      simp [isG] at this
      exact this
    have h3 := h.cnt y.b.g
    have h4 : tot (isG y.b.g) W ≤ 1 := by rw [h3]; split <;> omega
    unfold tot piece at h4
    have : a = 0 ∨ a = 1 ∨ a = 2 := by omega
    have : b = 0 ∨ b = 1 ∨ b = 2 := by omega
    rcases ‹a = 0 ∨ a = 1 ∨ a = 2› with rfl | rfl | rfl <;> rcases ‹b = 0 ∨ b = 1 ∨ b = 2› with rfl | rfl | rfl <;> omega

theorem adopt_S {W : Wd} {T a b : Nat} (h : OkS W T) (ha : a < 3) (hb : b < 3) (hab : a ≠ b) {A B : List Inn} {y : Inn} (hl : (W.s b).ins = A ++ y :: B) (hf : y.f = a) (htr : Tr W a b y.n 3 y.b) :
    OkS (W.setS b ⟨(W.s b).own.take (findAt y.b.s y.b.i y.b.g (W.s b).own) ++ y.b :: (W.s b).own.drop (findAt y.b.s y.b.i y.b.g (W.s b).own), (W.s b).outs, A ++ B, (W.s b).nx⟩) (T + 1) := by
  have hfree := adopt_free h ha hb hab hl hf htr
  have hd := h.insd b hb
  rw [hl] at hd
  have hd2 : (A ++ B).Pairwise fun x y : Inn => ¬ (x.f = y.f ∧ x.n = y.n) := by
    rw [List.pairwise_append, List.pairwise_cons] at hd
    rw [List.pairwise_append]
    exact ⟨hd.1, hd.2.1.2, fun x hx z hz => hd.2.2 x hx z (by simp [hz])⟩
  have hother : ∀ z ∈ A ++ B, ¬ (z.f = y.f ∧ z.n = y.n) := by
    rw [List.pairwise_append, List.pairwise_cons] at hd
    intro z hz hc
    rcases List.mem_append.1 hz with hz | hz
    · exact hd.2.2 z hz y (by simp) hc
    · exact hd.2.1.1 z hz ⟨hc.1.symm, hc.2.symm⟩
  obtain ⟨o, ho, hn, hto, hst, hob⟩ := htr
  have hstag : staged W a o = true := (staged_iff hto).2 ⟨y, by rw [hl]; simp, hf, hn.symm⟩
  have hgood : Good W.n y.b := by rw [← hob]; exact (h.good a ha).2 o ho
  obtain ⟨Oa, Ob, hO⟩ := List.append_of_mem ho
  have key : ∀ X : Sh, X = ⟨(W.s b).own.take (findAt y.b.s y.b.i y.b.g (W.s b).own) ++ y.b :: (W.s b).own.drop (findAt y.b.s y.b.i y.b.g (W.s b).own), (W.s b).outs, A ++ B, (W.s b).nx⟩ →
      ∀ i, i < 3 → ∀ p ∈ (W.s i).outs, (i = a → p ≠ o) → counted (W.setS b X) i p = counted W i p := by
    intro X hX i hi3 p hp hpo
    unfold counted
    by_cases h3 : p.st = 3
    · have e3 : (!(p.st == 3)) = false := by simp [h3]
      rw [e3, Bool.false_or, Bool.false_or]
      unfold staged
      by_cases e : p.to.toNat = b
      · rw [e, Wd.setS_at, hl, hX]
        show (A ++ B).any _ = (A ++ y :: B).any _
        have : isIn i p.n y = false := by
          cases hq : isIn i p.n y
          · rfl
          · exfalso
            simp [isIn] at hq
            have hia : i = a := by omega
            subst hia
            exact hpo rfl (out_uniq h ha hp ho (by omega) (by omega) (by omega))
        simp [List.any_append, List.any_cons, this]
      · rw [Wd.setS_ne _ _ e]
    · have e3 : (!(p.st == 3)) = true := by simp [h3]
      rw [e3, Bool.true_or, Bool.true_or]
  have key2 : ∀ X : Sh, X = ⟨(W.s b).own.take (findAt y.b.s y.b.i y.b.g (W.s b).own) ++ y.b :: (W.s b).own.drop (findAt y.b.s y.b.i y.b.g (W.s b).own), (W.s b).outs, A ++ B, (W.s b).nx⟩ →
      ∀ φ i, i < 3 → piece φ (W.setS b X) i + (if i = a then φ y.b else 0) = piece φ W i + (if i = b then φ y.b else 0) := by
    intro X hX φ i hi3
    have hkey := key X hX
    unfold piece
    have hou : ((W.setS b X).s i).outs = (W.s i).outs := by
      by_cases e : i = b
      · subst e; rw [Wd.setS_at, hX]
      · rw [Wd.setS_ne _ _ e]
    have how : sm φ ((W.setS b X).s i).own = sm φ (W.s i).own + (if i = b then φ y.b else 0) := by
      by_cases e : i = b
      · subst e; rw [Wd.setS_at, hX, if_pos rfl]
        show sm φ (_ ++ _ :: _) = _
        rw [sm_insert]; omega
      · rw [Wd.setS_ne _ _ e, if_neg e]; omega
    rw [hou, how]
    by_cases e : i = a
    · subst e
      rw [if_pos rfl, if_neg hab]
      rw [hO]
      have hnum := num_ne (by have := h.order i ha; rw [hO] at this; exact this) (show o.st ≠ 1 by omega)
      rw [sm_mid _ Oa Ob o, sm_mid _ Oa Ob o]
      have hc1 : counted W i o = true := by simp [counted, hstag]
      have hc2 : counted (W.setS b X) i o = false := by
        unfold counted
        rw [show (!(o.st == 3)) = false by simp [hst], Bool.false_or]
        unfold staged
        rw [show o.to.toNat = b by omega, Wd.setS_at, hX]
        rw [List.any_eq_false]
        intro z hz hq
        simp [isIn] at hq
        exact hother z hz ⟨by omega, by omega⟩
      rw [hc1, hc2]
      have hsame : sm (fun o => if counted (W.setS b X) i o = true then φ o.b else 0) (Oa ++ Ob) = sm (fun o => if counted W i o = true then φ o.b else 0) (Oa ++ Ob) := by
        refine sm_congr fun p hp => ?_
        have hpm : p ∈ Oa ++ o :: Ob := by simp only [List.mem_append, List.mem_cons] at hp ⊢; rcases hp with hp | hp; exact .inl hp; exact .inr (.inr hp)
        by_cases h1 : p.st = 1
        · have : counted (W.setS b X) i p = counted W i p := by simp [counted, h1]
          rw [this]
        · rw [hkey i ha p (by rw [hO]; exact hpm) (fun _ e => hnum p hp h1 (by rw [e]))]
      rw [hsame, hob]
      simp
      omega
    · rw [if_neg e]
      have hsame : sm (fun o => if counted (W.setS b X) i o = true then φ o.b else 0) (W.s i).outs = sm (fun o => if counted W i o = true then φ o.b else 0) (W.s i).outs :=
        sm_congr fun p hp => by rw [hkey i hi3 p hp (fun h0 => absurd h0 e)]
      rw [hsame]
      omega
  refine h.set hb (by omega) (fun φ => ?_) ?_ (h.good b hb).2 (insert_sorted (h.sorted b hb) y.b hfree) (h.outs b hb) (h.order b hb) (h.under b hb) (Nat.le_succ_of_le (h.nx b hb)) ?_ hd2
  · have k0 := key2 _ rfl φ 0 (by omega)
    have k1 := key2 _ rfl φ 1 (by omega)
    have k2 := key2 _ rfl φ 2 (by omega)
    unfold tot
    have ea : a = 0 ∨ a = 1 ∨ a = 2 := by omega
    have eb : b = 0 ∨ b = 1 ∨ b = 2 := by omega
    rcases ea with rfl | rfl | rfl <;> rcases eb with rfl | rfl | rfl <;> simp at k0 k1 k2 hab <;> omega
  · intro x hx
    simp only [List.mem_append, List.mem_cons] at hx
    rcases hx with hx | rfl | hx
    · exact (h.good b hb).1 x (List.mem_of_mem_take hx)
    · exact hgood
    · exact (h.good b hb).1 x (List.mem_of_mem_drop hx)
  · have htrs : ∀ X : Sh, X.outs = (W.s b).outs → ∀ c d m s z, Tr W c d m s z → Tr (W.setS b X) c d m s z := by
      intro X hX c d m s z hh
      by_cases e : c = b
      · subst e
        refine tr_at.2 ?_
        rw [hX]
        exact hh
      · exact (tr_ne e).2 hh
    intro i hi3 z hz
    have hz' : z ∈ (W.s i).ins := by
      by_cases e : i = b
      · subst e
        rw [Wd.setS_at] at hz
        rw [hl]
        simp only [List.mem_append, List.mem_cons] at hz ⊢
        rcases hz with hz | hz
        · exact .inl hz
        · exact .inr (.inr hz)
      · rw [Wd.setS_ne _ _ e] at hz
        exact hz
    obtain ⟨c, hc, hne, hf, st, hst, ht⟩ := h.ins i hi3 z hz'
    exact ⟨c, hc, hne, hf, st, hst, by refine htrs _ ?_ _ _ _ _ _ ht; rfl⟩

/-! ### messages: one of each that is under way -/
theorem cM_setW {W : Wd} {a b : Nat} (hab : a ≠ b) (l : List Mc) (c d : Nat) (n : Int) :
    cM (W.setW a b l) c d n + (if c = a ∧ d = b then (W.way a b).countP (saysM n) else 0) + (if c = b ∧ d = a then (W.way a b).countP (repsM n) else 0) =
      cM W c d n + (if c = a ∧ d = b then l.countP (saysM n) else 0) + (if c = b ∧ d = a then l.countP (repsM n) else 0) := by
  unfold cM Wd.setW upd2
  dsimp only
  by_cases h1 : c = a ∧ d = b
  · obtain ⟨rfl, rfl⟩ := h1
    have h2 : ¬ (d = c ∧ c = d) := fun h => hab h.2
    have h3 : ¬ (c = d ∧ d = c) := fun h => hab h.1
    simp only [and_self, if_true, if_neg h2, if_neg h3]
    omega
  · by_cases h2 : c = b ∧ d = a
    · obtain ⟨rfl, rfl⟩ := h2
      have h3 : ¬ (c = d ∧ d = c) := fun h => h1 ⟨h.1, h.2⟩
      simp only [and_self, if_true, if_neg h3]
      omega
    · have h3 : ¬ (d = a ∧ c = b) := fun h => h2 ⟨h.2, h.1⟩
      simp only [if_neg h1, if_neg h2, if_neg h3]
/-- of which Out a message speaks -/
def Of3 (a b : Nat) (m : Mc) (c d : Nat) (n : Int) : Prop := (c = a ∧ d = b ∧ saysM n m = true) ∨ (c = b ∧ d = a ∧ repsM n m = true)
theorem cM_pop {W : Wd} {a b : Nat} (hab : a ≠ b) {m : Mc} {l : List Mc} (hl : W.way a b = m :: l) (c d : Nat) (n : Int) : (Of3 a b m c d n → cM W c d n = cM (W.setW a b l) c d n + 1) ∧ (¬ Of3 a b m c d n → cM W c d n = cM (W.setW a b l) c d n) := by
  have h := cM_setW (W := W) hab l c d n
  rw [hl, List.countP_cons, List.countP_cons] at h
  unfold Of3
  constructor
  · rintro (⟨rfl, rfl, h1⟩ | ⟨rfl, rfl, h1⟩)
    · have h3 : ¬ (c = d ∧ d = c) := fun h => hab h.1
      simp only [and_self, if_true, if_neg h3, h1] at h
      omega
    · have h3 : ¬ (c = d ∧ d = c) := fun h => hab h.2
      simp only [and_self, if_true, if_neg h3, h1] at h
      omega
  · intro hn
    by_cases h1 : c = a ∧ d = b
    · obtain ⟨rfl, rfl⟩ := h1
      have h3 : ¬ (c = d ∧ d = c) := fun h => hab h.1
      have h4 : ¬ saysM n m = true := fun h => hn (.inl ⟨rfl, rfl, h⟩)
      simp only [and_self, if_true, if_neg h3, if_neg h4] at h
      omega
    · by_cases h2 : c = b ∧ d = a
      · obtain ⟨rfl, rfl⟩ := h2
        have h3 : ¬ (c = d ∧ d = c) := fun h => hab h.2
        have h4 : ¬ repsM n m = true := fun h => hn (.inr ⟨rfl, rfl, h⟩)
        simp only [and_self, if_true, if_neg h3, if_neg h4] at h
        omega
      · simp only [if_neg h1, if_neg h2] at h
        omega
theorem cM_push {W : Wd} {a b : Nat} (hab : a ≠ b) (m : Mc) (c d : Nat) (n : Int) : (Of3 a b m c d n → cM (W.setW a b (W.way a b ++ [m])) c d n = cM W c d n + 1) ∧ (¬ Of3 a b m c d n → cM (W.setW a b (W.way a b ++ [m])) c d n = cM W c d n) := by
  have h := cM_setW (W := W) hab (W.way a b ++ [m]) c d n
  rw [List.countP_append, List.countP_append, List.countP_singleton, List.countP_singleton] at h
  unfold Of3
  constructor
  · rintro (⟨rfl, rfl, h1⟩ | ⟨rfl, rfl, h1⟩)
    · have h3 : ¬ (c = d ∧ d = c) := fun h => hab h.1
      simp only [and_self, if_true, if_neg h3, h1] at h
      omega
    · have h3 : ¬ (c = d ∧ d = c) := fun h => hab h.2
      simp only [and_self, if_true, if_neg h3, h1] at h
      omega
  · intro hn
    by_cases h1 : c = a ∧ d = b
    · obtain ⟨rfl, rfl⟩ := h1
      have h3 : ¬ (c = d ∧ d = c) := fun h => hab h.1
      have h4 : ¬ saysM n m = true := fun h => hn (.inl ⟨rfl, rfl, h⟩)
      simp only [and_self, if_true, if_neg h3, if_neg h4] at h
      omega
    · by_cases h2 : c = b ∧ d = a
      · obtain ⟨rfl, rfl⟩ := h2
        have h3 : ¬ (c = d ∧ d = c) := fun h => hab h.2
        have h4 : ¬ repsM n m = true := fun h => hn (.inr ⟨rfl, rfl, h⟩)
        simp only [and_self, if_true, if_neg h3, if_neg h4] at h
        omega
      · simp only [if_neg h1, if_neg h2] at h
        omega
theorem cT_le {W : Wd} {T : Nat} (h : OkS W T) {c : Nat} (hc : c < 3) (d : Nat) (n : Int) : cT W c d n ≤ 1 := by
  unfold cT
  have hp := h.order c hc
  generalize (W.s c).outs = l at hp
  induction l with
  | nil => simp
  | cons o l ih =>
    rw [List.pairwise_cons] at hp
    rw [List.countP_cons]
    have := ih hp.2
    by_cases ho : trO d n o = true
    · have : l.countP (trO d n) = 0 := by
        rw [List.countP_eq_zero]
        intro p hpl hq
        simp [trO] at ho hq
        have := (hp.1 p hpl).2 ho.1 hq.1
        omega
      rw [this, if_pos ho]
      omega
    · rw [if_neg ho]
      omega
theorem cT_pos {W : Wd} {c d : Nat} {n : Int} : 0 < cT W c d n ↔ ∃ st x, st ≠ 1 ∧ Tr W c d n st x := by
  unfold cT
  rw [List.countP_pos_iff]
  constructor
  · rintro ⟨o, ho, h⟩
    simp [trO] at h
    exact ⟨o.st, o.b, h.1, o, ho, h.2.2, h.2.1, rfl, rfl⟩
  · rintro ⟨st, x, hst, o, ho, rfl, h2, rfl, rfl⟩
    exact ⟨o, ho, by simp [trO, hst, h2]⟩
/-- a message speaks of an Out that is under way -/
theorem of3_tr {W : Wd} {a b c d : Nat} {n : Int} {m : Mc} (h : MsgOk W a b m) (ho : Of3 a b m c d n) : n = m.2.1 ∧ ∃ st x, st ≠ 1 ∧ Tr W c d n st x := by
  rcases ho with ⟨rfl, rfl, h1⟩ | ⟨rfl, rfl, h1⟩
  · simp [saysM] at h1
    obtain ⟨hk, rfl⟩ := h1
    refine ⟨rfl, ?_⟩
    rcases h with ⟨h7, x, _, ht⟩ | ⟨h7, _, x, ht⟩ | ⟨h7, _⟩ | ⟨h7, _⟩
    · exact ⟨2, x, by decide, ht⟩
    · exact ⟨3, x, by decide, ht⟩
    · omega
    · omega
  · simp [repsM] at h1
    obtain ⟨hk, rfl⟩ := h1
    refine ⟨rfl, ?_⟩
    rcases h with ⟨h7, _⟩ | ⟨h7, _⟩ | ⟨h7, _, ⟨x, ht⟩, _⟩ | ⟨h7, _, ⟨x, ht⟩, _⟩
    · omega
    · omega
    · exact ⟨2, x, by decide, ht⟩
    · exact ⟨3, x, by decide, ht⟩
/-- nobody else speaks of it -/
theorem alone {W : Wd} {T : Nat} (hS : OkS W T) (hM : OkM W) {a b : Nat} (hab : a ≠ b) {m : Mc} {l : List Mc} (hl : W.way a b = m :: l) {c d : Nat} {n : Int} (hc : c < 3) (hd : d < 3) (hcd : c ≠ d) (ho : Of3 a b m c d n) :
    cM (W.setW a b l) c d n = 0 := by
  have h1 := (cM_pop hab hl c d n).1 ho
  have h2 := hM.one c d hc hd hcd n
  have h3 := cT_le hS hc d n
  omega
theorem none_of {W : Wd} {c d : Nat} {n : Int} (h : cM W c d n = 0) {a b : Nat} {m : Mc} (hm : m ∈ W.way a b) : ¬ Of3 a b m c d n := by
  unfold cM at h
  rintro (⟨rfl, rfl, h1⟩ | ⟨rfl, rfl, h1⟩)
  · have : (W.way c d).countP (saysM n) = 0 := by omega
    rw [List.countP_eq_zero] at this
    exact this m hm h1
  · have : (W.way d c).countP (repsM n) = 0 := by omega
    rw [List.countP_eq_zero] at this
    exact this m hm h1
/-- two worlds whose states are alike but for one transfer -/
structure Frame (W W' : Wd) (c d : Nat) (n : Int) : Prop where
  tr : ∀ c' d' n' st x, c' < 3 → ¬ (c' = c ∧ d' = d ∧ n' = n) → st ≠ 1 → (Tr W' c' d' n' st x ↔ Tr W c' d' n' st x)
  has : ∀ c' d' n', d' < 3 → ¬ (c' = c ∧ d' = d ∧ n' = n) → (Has W' d' c' n' ↔ Has W d' c' n')
theorem MsgOk.frame {W W' : Wd} {c d : Nat} {n : Int} (hF : Frame W W' c d n) {a b : Nat} (ha : a < 3) (hb : b < 3) {m : Mc} (h : MsgOk W a b m) (ho : ¬ Of3 a b m c d n) : MsgOk W' a b m := by
  rcases h with ⟨h7, x, hx, ht⟩ | ⟨h7, h8, x, ht⟩ | ⟨h7, h8, ⟨x, ht⟩, hh⟩ | ⟨h7, h8, ⟨x, ht⟩, hh⟩
  · have hn : ¬ (a = c ∧ b = d ∧ m.2.1 = n) := fun ⟨e1, e2, e3⟩ => ho (.inl ⟨e1.symm, e2.symm, by simp [saysM, h7, e3]⟩)
    exact .inl ⟨h7, x, hx, (hF.tr a b _ _ _ ha hn (by decide)).2 ht⟩
  · have hn : ¬ (a = c ∧ b = d ∧ m.2.1 = n) := fun ⟨e1, e2, e3⟩ => ho (.inl ⟨e1.symm, e2.symm, by simp [saysM, h7, e3]⟩)
    exact .inr (.inl ⟨h7, h8, x, (hF.tr a b _ _ _ ha hn (by decide)).2 ht⟩)
  · have hn : ¬ (b = c ∧ a = d ∧ m.2.1 = n) := fun ⟨e1, e2, e3⟩ => ho (.inr ⟨e1.symm, e2.symm, by simp [repsM, h7, e3]⟩)
    exact .inr (.inr (.inl ⟨h7, h8, ⟨x, (hF.tr b a _ _ _ hb hn (by decide)).2 ht⟩, (hF.has b a _ ha hn).2 hh⟩))
  · have hn : ¬ (b = c ∧ a = d ∧ m.2.1 = n) := fun ⟨e1, e2, e3⟩ => ho (.inr ⟨e1.symm, e2.symm, by simp [repsM, h7, e3]⟩)
    exact .inr (.inr (.inr ⟨h7, h8, ⟨x, (hF.tr b a _ _ _ hb hn (by decide)).2 ht⟩, fun h => hh ((hF.has b a _ ha hn).1 h)⟩))
theorem cT_eq {W W' : Wd} {T T' : Nat} (h : OkS W T) (h' : OkS W' T') {c d : Nat} {n : Int} (hc : c < 3) (hi : (∃ st x, st ≠ 1 ∧ Tr W' c d n st x) ↔ ∃ st x, st ≠ 1 ∧ Tr W c d n st x) : cT W' c d n = cT W c d n := by
  have h1 := cT_le h hc d n
  have h2 := cT_le h' hc d n
  have h3 := cT_pos (W := W) (c := c) (d := d) (n := n)
  have h4 := cT_pos (W := W') (c := c) (d := d) (n := n)
  rw [hi] at h4
  by_cases hq : ∃ st x, st ≠ 1 ∧ Tr W c d n st x
  · have := h3.2 hq; have := h4.2 hq; omega
  · have : ¬ 0 < cT W c d n := fun h => hq (h3.1 h)
    have : ¬ 0 < cT W' c d n := fun h => hq (h4.1 h)
    omega

/-- ONE MESSAGE COMES AND IS ANSWERED, or not: what is to be shown -/
theorem comes_M {W W2 W3 : Wd} {T : Nat} (hS : OkS W T) (hM : OkM W) {a b : Nat} (ha : a < 3) (hb : b < 3) (hab : a ≠ b) {m : Mc} {l : List Mc} (hl : W.way a b = m :: l) {c d : Nat} {n : Int} (hc : c < 3) (hd : d < 3) (hcd : c ≠ d) (ho : Of3 a b m c d n)
    (hway : W2.way = (W.setW a b l).way) (hS2 : OkS W2 (T + 1)) (hF : Frame W W2 c d n)
    (hans : (∃ m' : Mc, W3 = W2.setW b a (W2.way b a ++ [m']) ∧ Of3 b a m' c d n ∧ (∀ c' d' n', c' < 3 → d' < 3 → c' ≠ d' → Of3 b a m' c' d' n' → c' = c ∧ d' = d ∧ n' = n) ∧ MsgOk W2 b a m' ∧ ∃ st x, st ≠ 1 ∧ Tr W2 c d n st x) ∨
      (W3 = W2 ∧ ¬ ∃ st x, st ≠ 1 ∧ Tr W2 c d n st x)) : OkM W3 := by
  have h0 := alone hS hM hab hl hc hd hcd ho
  have hofn : ∀ c' d' n', Of3 a b m c' d' n' → c' = c ∧ d' = d ∧ n' = n := by
    intro c' d' n' h
    have e1 := (of3_tr (hM.msg a b ha hb m (by rw [hl]; simp)) ho).1
    have e2 := (of3_tr (hM.msg a b ha hb m (by rw [hl]; simp)) h).1
    rcases ho with ⟨rfl, rfl, h1⟩ | ⟨rfl, rfl, h1⟩ <;> rcases h with ⟨rfl, rfl, h2⟩ | ⟨rfl, rfl, h2⟩
    · exact ⟨rfl, rfl, by omega⟩
    · exfalso
      simp [saysM] at h1
      simp [repsM] at h2
      omega
    · exfalso
      simp [repsM] at h1
      simp [saysM] at h2
      omega
    · exact ⟨rfl, rfl, by omega⟩
  have hcM2 : ∀ c' d' n', cM W2 c' d' n' = cM (W.setW a b l) c' d' n' := fun c' d' n' => by unfold cM; rw [hway]
  have hmsg2 : ∀ a' b', a' < 3 → b' < 3 → ∀ m' ∈ W2.way a' b', MsgOk W2 a' b' m' := by
    intro a' b' ha' hb' m' hm'
    have hm1 : m' ∈ (W.setW a b l).way a' b' := by rw [← hway]; exact hm'
    have hno := none_of h0 hm1
    have hm0 : m' ∈ W.way a' b' := by
      unfold Wd.setW upd2 at hm1
      dsimp only at hm1
      split at hm1
      · rename_i e
        obtain ⟨rfl, rfl⟩ := e
        rw [hl]
        exact List.mem_cons_of_mem _ hm1
      · exact hm1
    exact (hM.msg a' b' ha' hb' m' hm0).frame hF ha' hb' hno
  have hone : ∀ c' d' n', c' < 3 → d' < 3 → c' ≠ d' → ¬ (c' = c ∧ d' = d ∧ n' = n) → cM W2 c' d' n' = cT W2 c' d' n' := by
    intro c' d' n' hc' hd' hcd' hne
    rw [hcM2, ← (cM_pop hab hl c' d' n').2 (fun h => hne (hofn _ _ _ h)), hM.one c' d' hc' hd' hcd' n']
    refine (cT_eq hS hS2 hc' ?_).symm
    constructor
    · rintro ⟨st, x, hst, h⟩
      exact ⟨st, x, hst, (hF.tr _ _ _ _ _ hc' hne hst).1 h⟩
    · rintro ⟨st, x, hst, h⟩
      exact ⟨st, x, hst, (hF.tr _ _ _ _ _ hc' hne hst).2 h⟩
  have hdiag2 : ∀ i, i < 3 → W2.way i i = [] := by
    intro i hi
    rw [hway]
    unfold Wd.setW upd2
    dsimp only
    rw [if_neg (fun h => hab (h.1.symm.trans h.2))]
    exact hM.diag i hi
  rcases hans with ⟨m', rfl, hof', hofu, hok', htr⟩ | ⟨rfl, hno⟩
  · refine ⟨?_, ?_, ?_⟩
    · intro a' b' ha' hb' m'' hm''
      have hT : ∀ {c' d' n' st x}, Tr (W2.setW b a (W2.way b a ++ [m'])) c' d' n' st x ↔ Tr W2 c' d' n' st x := Iff.rfl
      show MsgOk W2 a' b' m''
      unfold Wd.setW upd2 at hm''
      dsimp only at hm''
      split at hm''
      · rename_i e
        obtain ⟨rfl, rfl⟩ := e
        rcases List.mem_append.1 hm'' with h | h
        · exact hmsg2 _ _ ha' hb' _ h
        · simp at h
          subst h
          exact hok'
      · exact hmsg2 _ _ ha' hb' _ hm''
    · intro c' d' hc' hd' hcd' n'
      show cM _ c' d' n' = cT W2 c' d' n'
      by_cases he : c' = c ∧ d' = d ∧ n' = n
      · obtain ⟨rfl, rfl, rfl⟩ := he
        rw [(cM_push hab.symm m' c' d' n').1 hof', hcM2, h0]
        have h1 := cT_le hS2 hc' d' n'
        have h2 := cT_pos.2 htr
        omega
      · rw [(cM_push hab.symm m' c' d' n').2 (fun h => he (hofu _ _ _ hc' hd' hcd' h))]
        exact hone c' d' n' hc' hd' hcd' he
    · intro i hi
      unfold Wd.setW upd2
      dsimp only
      rw [if_neg (fun h => hab (h.2.symm.trans h.1))]
      exact hdiag2 i hi
  · refine ⟨hmsg2, ?_, hdiag2⟩
    intro c' d' hc' hd' hcd' n'
    by_cases he : c' = c ∧ d' = d ∧ n' = n
    · obtain ⟨rfl, rfl, rfl⟩ := he
      rw [hcM2, h0]
      have h2 := cT_pos (W := W3) (c := c') (d := d') (n := n')
      have : ¬ 0 < cT W3 c' d' n' := fun h => hno (h2.1 h)
      omega
    · exact hone c' d' n' hc' hd' hcd' he
end Go.Proofs.Ytggaeihinheojaa
