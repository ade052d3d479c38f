/-
  Texts in one: LgB, LhK. No conditions of their own.
-/
import Derived.Test.YtndjnkjcfdaegaaGreatDoorZh11
import Derived.Test.YtndjnkjcfdaegaaGreatDoorZh21
set_option linter.all false

/-
  A desk and a ledger, as data: what each method makes of them. Plain. No conditions of its own.
-/
namespace Go.Proofs.YtndjnkjcfdaegaaGreatDoor

/-- a desk: its world, its names, what waits, the last tick, whether it is open -/
structure Dk where
  z : Zf
  pl : Pl
  q : List Cm
  t : Int
  o : Bool
def Dk.new (z : Zf) : Dk := ⟨z, plNew (z.c * z.r).toNat z.i.toNat, [], 0, false⟩
/-- does an entity wait for its end? -/
def endsOf (a : Nam) (c : Cm) : Bool := decide (c.k = 2) && neq c.id a
def waitsQ (q : List Cm) (a : Nam) : Bool := q.any (endsOf a)
def Cm.named (c : Cm) (a : Nam) : Cm := ⟨c.k, c.s, c.i, c.g, c.b.named a, c.m⟩
def Cm.zone (c : Cm) (z : Zf) : Int := zoneI z c.b.x c.b.y
/-- how a command would be let in -/
def lookD (d : Dk) (c : Cm) : Cm × Bool × Int :=
  bif !cmdOk c || (decide (c.k = 1) && !neq c.b.id Nam.zero) then (Cm.zero, false, 1) else
  bif decide (c.k = 1) then
    bif decide (c.zone d.z < 0) then (Cm.zero, false, 5) else
    bif decide (d.z.q ≤ (d.q.length : Int)) then (Cm.zero, false, 8) else
    bif !decide ((headP d.pl (c.zone d.z)).2.2 = 0) then (Cm.zero, false, 13) else
      (c.named ⟨c.zone d.z, (headP d.pl (c.zone d.z)).1, genP d.pl (c.zone d.z) (headP d.pl (c.zone d.z)).1⟩, !(headP d.pl (c.zone d.z)).2.1, 0)
  else
    bif !aliveP d.pl c.id then (Cm.zero, false, 9) else
    bif waitsQ d.q c.id then (Cm.zero, false, 10) else
    bif decide (d.z.q ≤ (d.q.length : Int)) then (Cm.zero, false, 8) else (c, false, 0)
/-- a command is let in that has its names -/
def admitD (d : Dk) (c : Cm) : Int × Dk :=
  bif !cmdOk c then (1, d) else
  bif decide (d.z.q ≤ (d.q.length : Int)) then (8, d) else
  bif decide (c.k = 1) then
    bif !decide (c.zone d.z = c.b.s) then (5, d) else
    bif decide ((takeP d.pl c.b.id).1 = 0) then (0, ⟨d.z, (takeP d.pl c.b.id).2, d.q ++ [c], d.t, d.o⟩) else ((takeP d.pl c.b.id).1, d)
  else
    bif !aliveP d.pl c.id then (9, d) else (0, ⟨d.z, d.pl, d.q ++ [c], d.t, d.o⟩)
def openD (d : Dk) : Int × List Cm × Int × Dk :=
  bif d.o || decide (1099511627776 ≤ d.t) then (0, [], 14, d) else (d.t + 1, d.q, 0, ⟨d.z, d.pl, [], d.t + 1, true⟩)
def freeAll (p : Pl) (l : List Nam) : Pl := l.foldl (fun p a => (freeP p a).2) p
/-- how many of them are freed -/
def freeN : Pl → List Nam → Nat
  | _, [] => 0
  | p, a :: l => (bif decide ((freeP p a).1 = 0) then 1 else 0) + freeN (freeP p a).2 l
def closeD (d : Dk) (l : List Nam) : Int × Int × Dk :=
  bif d.o then ((freeN d.pl l : Int), 0, ⟨d.z, freeAll d.pl l, d.q, d.t, false⟩) else (0, 14, d)
structure Dk.ok (d : Dk) : Prop where
  z : zfOk d.z = true
  pl : plOk d.pl
  pn : (d.pl.length : Int) = d.z.c * d.z.r
  q : (d.q.length : Int) ≤ d.z.q
  t0 : 0 ≤ d.t
  t1 : d.t ≤ 1099511627776

/-! ### the ledger -/
structure Ld where
  dk : Dk
  lg : Lg
  ep : Int
  cmds : List Cm
  e : Int
/-- what a record says is done -/
def Ld.fold (l : Ld) (r : Lr) : Int × Ld :=
  bif decide (r.k = 1) then (bif decide (r.n = l.ep + 1) then (0, ⟨⟨l.dk.z, lapseP l.dk.pl, l.dk.q, l.dk.t, l.dk.o⟩, l.lg, r.n, l.cmds, l.e⟩) else (14, l)) else
  bif decide (r.k = 2) then ((reserveP l.dk.pl r.s r.i).1, ⟨⟨l.dk.z, (reserveP l.dk.pl r.s r.i).2, l.dk.q, l.dk.t, l.dk.o⟩, l.lg, l.ep, l.cmds, l.e⟩) else
  bif decide (r.k = 3) then ((admitD l.dk r.c).1, ⟨(admitD l.dk r.c).2, l.lg, l.ep, l.cmds, l.e⟩) else
  bif decide (r.k = 4) then ((openD l.dk).2.2.1, ⟨(openD l.dk).2.2.2, l.lg, l.ep, (openD l.dk).2.1, l.e⟩) else
  ((closeD l.dk r.ids).2.1, ⟨(closeD l.dk r.ids).2.2, l.lg, l.ep, [], l.e⟩)
def Ld.run (l : Ld) (rs : List Lr) : Ld := rs.foldl (fun l r => (l.fold r).2) l
def textsOf (rs : List Lr) : List ByteArray := rs.map fun r => toB (encL r).1
/-- records are laid -/
def Ld.lay (l : Ld) (d : Ds) (rs : List Lr) : Int × Lg × Ds :=
  bif decide ((l.lg.append d (textsOf rs)).1 = 0) then
    (((l.lg.append d (textsOf rs)).2.1.sync (l.lg.append d (textsOf rs)).2.2).1, (l.lg.append d (textsOf rs)).2.1, ((l.lg.append d (textsOf rs)).2.1.sync (l.lg.append d (textsOf rs)).2.2).2)
  else l.lg.append d (textsOf rs)
/-- records are laid, and done -/
def Ld.write (l : Ld) (d : Ds) (rs : List Lr) : Int × Ld × Ds :=
  bif decide ((l.lay d rs).1 = 0) then (0, Ld.run ⟨l.dk, (l.lay d rs).2.1, l.ep, l.cmds, 0⟩ rs, (l.lay d rs).2.2)
  else ((l.lay d rs).1, ⟨l.dk, (l.lay d rs).2.1, l.ep, l.cmds, (l.lay d rs).1⟩, (l.lay d rs).2.2)
/-- records are read, one after another: none, as soon as one does not fit -/
def Ld.replay (l : Ld) : List Nm → Option Ld
  | [] => some l
  | s :: ss => bif decide ((decL s).2 = 0) && decide ((l.fold (decL s).1).1 = 0) then Ld.replay (l.fold (decL s).1).2 ss else none
/-- what stands behind the records of a log that was opened -/
def openLd (z : Zf) (g : Lg) (out : List Nm) : Option Ld :=
  bif decide (0 < g.firsts.headD 0) then none else
  match Ld.replay ⟨Dk.new z, g, 0, [], 0⟩ out with
  | none => none
  | some l => bif decide (1099511627776 ≤ l.ep) then none else some l
def epochRec (n : Int) : Lr := ⟨1, n, 0, 0, Cm.zero, []⟩
def resRec (s i : Int) : Lr := ⟨2, 0, s, i, Cm.zero, []⟩
def admRec (c : Cm) : Lr := ⟨3, 0, 0, 0, c, []⟩
def openRec : Lr := ⟨4, 0, 0, 0, Cm.zero, []⟩
def closeRec (l : List Nam) : Lr := ⟨5, 0, 0, 0, Cm.zero, l⟩
/-- a command is let in -/
def Ld.call (l : Ld) (d : Ds) (c : Cm) : Cm × Int × Ld × Ds :=
  bif !decide (l.e = 0) then (Cm.zero, l.e, l, d) else
  bif !decide ((lookD l.dk c).2.2 = 0) then (Cm.zero, (lookD l.dk c).2.2, l, d) else
  let x := (lookD l.dk c).1
  let w := l.write d (bif (lookD l.dk c).2.1 then [resRec x.b.s x.b.i, admRec x] else [admRec x])
  bif decide (w.1 = 0) then (x, 0, w.2.1, w.2.2) else (Cm.zero, w.1, w.2.1, w.2.2)
/-- a tick is opened -/
def Ld.begin (l : Ld) (d : Ds) : Int × List Cm × Int × Ld × Ds :=
  bif !decide (l.e = 0) then (0, [], l.e, l, d) else
  bif l.dk.o || decide (1099511627776 ≤ l.dk.t) then (0, [], 14, l, d) else
  let w := l.write d [openRec]
  bif decide (w.1 = 0) then (w.2.1.dk.t, w.2.1.cmds, 0, w.2.1, w.2.2) else (0, [], w.1, w.2.1, w.2.2)
/-- a tick is closed -/
def Ld.finish (l : Ld) (d : Ds) (dead : List Nam) : Int × Ld × Ds :=
  bif !decide (l.e = 0) then (l.e, l, d) else
  bif !mayL (closeRec dead) then (1, l, d) else
  bif !l.dk.o then (14, l, d) else l.write d [closeRec dead]
end Go.Proofs.YtndjnkjcfdaegaaGreatDoor

/-
  A pool's indices only rise: a name that was taken is never free again. Plain. No conditions of its own.
-/
namespace Go.Proofs.YtndjnkjcfdaegaaGreatDoor

/-- an index went on -/
def Up (x y : Ix) : Prop := x.g < y.g ∨ (x.g = y.g ∧ (x.a = true → y.a = true))
theorem Up.rfl' (x : Ix) : Up x x := .inr ⟨rfl, id⟩
theorem Up.trans {x y z : Ix} (h : Up x y) (k : Up y z) : Up x z := by
  rcases h with h | ⟨h, h2⟩ <;> rcases k with k | ⟨k, k2⟩
  · exact .inl (by omega)
  · exact .inl (by omega)
  · exact .inl (by omega)
  · exact .inr ⟨by omega, fun e => k2 (h2 e)⟩
/-- a row of indices went on -/
def IxsUp (A B : List Ix) : Prop := ∀ (i : Nat) (x : Ix), A[i]? = some x → ∃ y, B[i]? = some y ∧ Up x y
theorem IxsUp.rfl' (A : List Ix) : IxsUp A A := fun _ x h => ⟨x, h, Up.rfl' x⟩
theorem IxsUp.set {A : List Ix} {i : Nat} {x y : Ix} (hx : A[i]? = some x) (hu : Up x y) : IxsUp A (A.set i y) := by
  intro j z hz
  by_cases hij : i = j
  · subst hij
    rw [hx] at hz
    cases hz
    exact ⟨y, by rw [List.getElem?_set_self (List.getElem?_eq_some_iff.1 hx).1], hu⟩
  · exact ⟨z, by rw [List.getElem?_set_ne hij]; exact hz, Up.rfl' z⟩
/-- a pool went on -/
def PlUp (p q : Pl) : Prop := ∀ (s i : Int) (x : Ix), ixAt p s i = some x → ∃ y, ixAt q s i = some y ∧ Up x y
theorem PlUp.rfl' (p : Pl) : PlUp p p := fun _ _ x h => ⟨x, h, Up.rfl' x⟩
theorem PlUp.trans {p q r : Pl} (h : PlUp p q) (k : PlUp q r) : PlUp p r := fun s i x hx => by
  obtain ⟨y, hy, hu⟩ := h s i x hx
  obtain ⟨z, hz, hv⟩ := k s i y hy
  exact ⟨z, hz, hu.trans hv⟩
theorem ixAt_iff {p : Pl} {s i : Int} {x : Ix} : ixAt p s i = some x ↔ ∃ (k n : Nat) (h : Sh), s = k ∧ i = n ∧ p[k]? = some h ∧ h.all[n]? = some x := by
  constructor
  · intro h
    unfold ixAt at h
    cases hs : shAt p s with
    | none => rw [hs] at h; cases h
    | some t =>
      rw [hs] at h
      obtain ⟨k, rfl, hk⟩ := shAt_some hs
      obtain ⟨n, rfl, hn⟩ := ixIn_some h
      exact ⟨k, n, t, rfl, rfl, hk, hn⟩
  · rintro ⟨k, n, t, rfl, rfl, hk, hn⟩
    unfold ixAt
    rw [shAt_nat hk]
    exact ixIn_nat hn
theorem PlUp.put {p : Pl} {k : Nat} {s t : Sh} (hs : p[k]? = some s) (hu : IxsUp s.all t.all) : PlUp p (plPut p k t) := by
  intro a i x hx
  obtain ⟨j, n, h, rfl, rfl, hj, hn⟩ := ixAt_iff.1 hx
  by_cases hkj : k = j
  · subst hkj
    rw [hs] at hj
    cases hj
    obtain ⟨y, hy, hv⟩ := hu n x hn
    exact ⟨y, ixAt_iff.2 ⟨k, n, t, rfl, rfl, by unfold plPut; rw [List.getElem?_set_self (List.getElem?_eq_some_iff.1 hs).1], hy⟩, hv⟩
  · exact ⟨x, ixAt_iff.2 ⟨j, n, h, rfl, rfl, by unfold plPut; rw [List.getElem?_set_ne hkj]; exact hj, hn⟩, Up.rfl' x⟩
theorem reserveP_up (p : Pl) (k i : Int) : PlUp p (reserveP p k i).2 := by
  unfold reserveP
  cases hs : shAt p k with
  | none => exact PlUp.rfl' p
  | some s =>
    obtain ⟨n, rfl, hn⟩ := shAt_some hs
    simp only
    cases hx : ixIn s i with
    | none => exact PlUp.rfl' p
    | some x =>
      obtain ⟨m, rfl, hm⟩ := ixIn_some hx
      simp only
      cases decide (x.b = 1048576)
      · exact PlUp.put hn (IxsUp.set hm (.inr ⟨rfl, id⟩))
      · exact PlUp.rfl' p
theorem takeP_up (p : Pl) (a : Nam) : PlUp p (takeP p a).2 := by
  unfold takeP
  cases hs : shAt p a.s with
  | none => exact PlUp.rfl' p
  | some s =>
    obtain ⟨n, hn0, hn⟩ := shAt_some hs
    simp only
    cases hx : ixIn s a.i with
    | none => exact PlUp.rfl' p
    | some x =>
      obtain ⟨m, hm0, hm⟩ := ixIn_some hx
      simp only
      rw [hn0, hm0, Int.toNat_natCast]
      refine PlUp.put hn ?_
      unfold takeS'
      cases h1 : decide (a.g < 0)
      · cases h2 : (!freeHas s (m : Int))
        · cases h3 : decide (a.g < x.g) || decide (x.b ≤ a.g)
          · rw [Bool.or_eq_false_iff, decide_eq_false_iff_not] at h3
            simp only [cond_false]
            rw [Int.toNat_natCast]
            refine IxsUp.set hm ?_
            by_cases h : x.g < a.g
            · exact .inl h
            · exact .inr ⟨by simp only; omega, fun _ => rfl⟩
          · exact IxsUp.rfl' _
        · exact IxsUp.rfl' _
      · exact IxsUp.rfl' _
theorem freeP_up (p : Pl) (a : Nam) : PlUp p (freeP p a).2 := by
  unfold freeP
  cases hs : shAt p a.s with
  | none => exact PlUp.rfl' p
  | some s =>
    obtain ⟨n, hn0, hn⟩ := shAt_some hs
    simp only
    cases hx : ixIn s a.i with
    | none => exact PlUp.rfl' p
    | some x =>
      obtain ⟨m, hm0, hm⟩ := ixIn_some hx
      simp only
      rw [hn0, hm0, Int.toNat_natCast]
      refine PlUp.put hn ?_
      unfold freeS
      cases h1 : decide (a.g < 0)
      · cases h2 : (!aliveI x a.g)
        · simp only [cond_false]
          rw [Int.toNat_natCast]
          exact IxsUp.set hm (.inl (by simp only; omega))
        · exact IxsUp.rfl' _
      · exact IxsUp.rfl' _
theorem ixUp_up (x : Ix) : Up x (ixUp x) := by
  unfold ixUp
  cases h : decide (x.g < x.b)
  · exact Up.rfl' x
  · exact .inl (by simpa using h)
theorem lapseAll_up : ∀ (l : List Nat) (A : List Ix), IxsUp A (lapseAll A l)
  | [], A => IxsUp.rfl' A
  | j :: l, A => by
    intro i x hx
    have h1 : ∃ y, (A.modify j ixUp)[i]? = some y ∧ Up x y := by
      rw [List.getElem?_modify, hx]
      by_cases hij : j = i
      · exact ⟨ixUp x, by simp [hij], ixUp_up x⟩
      · exact ⟨x, by simp [hij], Up.rfl' x⟩
    obtain ⟨y, hy, hu⟩ := h1
    obtain ⟨z, hz, hv⟩ := lapseAll_up l (A.modify j ixUp) i y hy
    exact ⟨z, hz, hu.trans hv⟩
theorem lapseP_up (p : Pl) : PlUp p (lapseP p) := by
  intro a i x hx
  obtain ⟨k, n, h, rfl, rfl, hk, hn⟩ := ixAt_iff.1 hx
  obtain ⟨y, hy, hu⟩ := lapseAll_up h.free h.all n x hn
  exact ⟨y, ixAt_iff.2 ⟨k, n, lapseS h, rfl, rfl, by unfold lapseP; rw [List.getElem?_map, hk]; rfl, hy⟩, hu⟩
theorem freeAll_up (l : List Nam) : ∀ p : Pl, PlUp p (freeAll p l) := by
  induction l with
  | nil => exact fun p => PlUp.rfl' p
  | cons a l ih => exact fun p => (freeP_up p a).trans (ih _)
/-- A NAME THAT WAS TAKEN: its index has gone past it, or it is alive. -/
def Past (p : Pl) (a : Nam) : Prop := ∃ x, ixAt p a.s a.i = some x ∧ (a.g < x.g ∨ (x.g = a.g ∧ x.a = true))
theorem Past.up {p q : Pl} {a : Nam} (h : Past p a) (hu : PlUp p q) : Past q a := by
  obtain ⟨x, hx, hp⟩ := h
  obtain ⟨y, hy, hv⟩ := hu _ _ x hx
  refine ⟨y, hy, ?_⟩
  rcases hv with e | ⟨e, e2⟩ <;> rcases hp with f | ⟨f, f2⟩
  · exact .inl (by omega)
  · exact .inl (by omega)
  · exact .inl (by omega)
  · exact .inr ⟨by omega, e2 f2⟩
/-- what is taken is past -/
theorem takeP_past {p : Pl} {a : Nam} (h : (takeP p a).1 = 0) : Past (takeP p a).2 a := by
  unfold takeP at h ⊢
  cases hs : shAt p a.s with
  | none => rw [hs] at h; cases h
  | some s =>
    obtain ⟨n, hn0, hn⟩ := shAt_some hs
    rw [hs] at h
    simp only at h ⊢
    cases hx : ixIn s a.i with
    | none => rw [hx] at h; cases h
    | some x =>
      obtain ⟨m, hm0, hm⟩ := ixIn_some hx
      rw [hx] at h
      simp only at h ⊢
      unfold takeS' at h ⊢
      cases h1 : decide (a.g < 0)
      · cases h2 : (!freeHas s a.i)
        · cases h3 : decide (a.g < x.g) || decide (x.b ≤ a.g)
          · refine ⟨⟨a.g, x.b, true⟩, ?_, .inr ⟨rfl, rfl⟩⟩
            refine ixAt_iff.2 ⟨n, m, ⟨s.all.set m ⟨a.g, x.b, true⟩, freeNot s a.i⟩, hn0, hm0, ?_, ?_⟩
            · simp only [cond_false]
              unfold plPut
              rw [hn0, hm0, Int.toNat_natCast, Int.toNat_natCast, List.getElem?_set_self (List.getElem?_eq_some_iff.1 hn).1]
            · exact List.getElem?_set_self (List.getElem?_eq_some_iff.1 hm).1
          · rw [h1, h2, h3] at h; cases h
        · rw [h1, h2] at h; cases h
      · rw [h1] at h; cases h
/-- the next name of a shard is not past -/
theorem headP_fresh {p : Pl} (hp : plOk p) {k : Int} (he : (headP p k).2.2 = 0) : ¬ Past p ⟨k, (headP p k).1, genP p k (headP p k).1⟩ := by
  rintro ⟨x, hx, hh⟩
  simp only at hx hh
  have hg : genP p k (headP p k).1 = x.g := by
    unfold genP
    rw [hx]
  rw [hg] at hh
  rcases hh with hh | ⟨_, ha⟩
  · omega
  · obtain ⟨j, n, s, rfl, hn0, hj, hn⟩ := ixAt_iff.1 hx
    unfold headP at he hn0
    rw [shAt_nat hj] at he hn0
    simp only at he hn0
    cases hf : s.free with
    | nil => simp only [headS, hf] at he; cases he
    | cons i l =>
      obtain ⟨y, hy, hya, _⟩ := (hp.sh hj).fr i (by rw [hf]; exact List.mem_cons_self ..)
      simp only [headS, hf] at hn0
      have : i = n := by omega
      subst this
      rw [hy] at hn
      cases hn
      rw [ha] at hya
      cases hya
end Go.Proofs.YtndjnkjcfdaegaaGreatDoor

