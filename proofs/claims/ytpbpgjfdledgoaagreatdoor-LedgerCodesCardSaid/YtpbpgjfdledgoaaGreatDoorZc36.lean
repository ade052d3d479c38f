/-
  A desk and a ledger, as data: what each method makes of them. Plain. No conditions of its own.
-/
import Derived.Test.YtpbpgjfdledgoaaGreatDoorZc33
import Derived.Test.YtpbpgjfdledgoaaGreatDoorZc09
import Derived.Test.YtpbpgjfdledgoaaGreatDoorZc25
namespace Go.Proofs.YtpbpgjfdledgoaaGreatDoor

/-- a desk: its world, its names, what waits, the last tick, whether it is open -/
structure Dk where
  z : Zf
  pl : Pl
  q : List Cm
  t : Int
  o : Bool
def Dk.new (z : Zf) : Dk := ⟨z, plNew (z.c * z.r).toNat z.i.toNat, [], 0, false⟩
/-- does an entity wait for its end? -/
def endsOf (a : Nam) (c : Cm) : Bool := decide (c.k = 2) && neq c.id a
def waitsQ (q : List Cm) (a : Nam) : Bool := q.any (endsOf a)
def Cm.named (c : Cm) (a : Nam) : Cm := ⟨c.k, c.s, c.i, c.g, c.b.named a, c.m⟩
def Cm.zone (c : Cm) (z : Zf) : Int := zoneI z c.b.x c.b.y
/-- how a command would be let in -/
def lookD (d : Dk) (c : Cm) : Cm × Bool × Int :=
  bif !cmdOk c || (decide (c.k = 1) && !neq c.b.id Nam.zero) then (Cm.zero, false, 1) else
  bif decide (c.k = 1) then
    bif decide (c.zone d.z < 0) then (Cm.zero, false, 5) else
    bif decide (d.z.q ≤ (d.q.length : Int)) then (Cm.zero, false, 8) else
    bif !decide ((headP d.pl (c.zone d.z)).2.2 = 0) then (Cm.zero, false, 13) else
      (c.named ⟨c.zone d.z, (headP d.pl (c.zone d.z)).1, genP d.pl (c.zone d.z) (headP d.pl (c.zone d.z)).1⟩, !(headP d.pl (c.zone d.z)).2.1, 0)
  else
    bif !aliveP d.pl c.id then (Cm.zero, false, 9) else
    bif waitsQ d.q c.id then (Cm.zero, false, 10) else
    bif decide (d.z.q ≤ (d.q.length : Int)) then (Cm.zero, false, 8) else (c, false, 0)
/-- a command is let in that has its names -/
def admitD (d : Dk) (c : Cm) : Int × Dk :=
  bif !cmdOk c then (1, d) else
  bif decide (d.z.q ≤ (d.q.length : Int)) then (8, d) else
  bif decide (c.k = 1) then
    bif !decide (c.zone d.z = c.b.s) then (5, d) else
    bif decide ((takeP d.pl c.b.id).1 = 0) then (0, ⟨d.z, (takeP d.pl c.b.id).2, d.q ++ [c], d.t, d.o⟩) else ((takeP d.pl c.b.id).1, d)
  else
    bif !aliveP d.pl c.id then (9, d) else (0, ⟨d.z, d.pl, d.q ++ [c], d.t, d.o⟩)
def openD (d : Dk) : Int × List Cm × Int × Dk :=
  bif d.o || decide (1099511627776 ≤ d.t) then (0, [], 14, d) else (d.t + 1, d.q, 0, ⟨d.z, d.pl, [], d.t + 1, true⟩)
def freeAll (p : Pl) (l : List Nam) : Pl := l.foldl (fun p a => (freeP p a).2) p
/-- how many of them are freed -/
def freeN : Pl → List Nam → Nat
  | _, [] => 0
  | p, a :: l => (bif decide ((freeP p a).1 = 0) then 1 else 0) + freeN (freeP p a).2 l
def closeD (d : Dk) (l : List Nam) : Int × Int × Dk :=
  bif d.o then ((freeN d.pl l : Int), 0, ⟨d.z, freeAll d.pl l, d.q, d.t, false⟩) else (0, 14, d)
structure Dk.ok (d : Dk) : Prop where
  z : zfOk d.z = true
  pl : plOk d.pl
  pn : (d.pl.length : Int) = d.z.c * d.z.r
  q : (d.q.length : Int) ≤ d.z.q
  t0 : 0 ≤ d.t
  t1 : d.t ≤ 1099511627776

/-! ### the ledger -/
structure Ld where
  dk : Dk
  lg : Lg
  ep : Int
  cmds : List Cm
  e : Int
/-- what a record says is done -/
def Ld.fold (l : Ld) (r : Lr) : Int × Ld :=
  bif decide (r.k = 1) then (bif decide (r.n = l.ep + 1) then (0, ⟨⟨l.dk.z, lapseP l.dk.pl, l.dk.q, l.dk.t, l.dk.o⟩, l.lg, r.n, l.cmds, l.e⟩) else (14, l)) else
  bif decide (r.k = 2) then ((reserveP l.dk.pl r.s r.i).1, ⟨⟨l.dk.z, (reserveP l.dk.pl r.s r.i).2, l.dk.q, l.dk.t, l.dk.o⟩, l.lg, l.ep, l.cmds, l.e⟩) else
  bif decide (r.k = 3) then ((admitD l.dk r.c).1, ⟨(admitD l.dk r.c).2, l.lg, l.ep, l.cmds, l.e⟩) else
  bif decide (r.k = 4) then ((openD l.dk).2.2.1, ⟨(openD l.dk).2.2.2, l.lg, l.ep, (openD l.dk).2.1, l.e⟩) else
  ((closeD l.dk r.ids).2.1, ⟨(closeD l.dk r.ids).2.2, l.lg, l.ep, [], l.e⟩)
def Ld.run (l : Ld) (rs : List Lr) : Ld := rs.foldl (fun l r => (l.fold r).2) l
def textsOf (rs : List Lr) : List ByteArray := rs.map fun r => toB (encL r).1
/-- records are laid -/
def Ld.lay (l : Ld) (d : Ds) (rs : List Lr) : Int × Lg × Ds :=
  bif decide ((l.lg.append d (textsOf rs)).1 = 0) then
    (((l.lg.append d (textsOf rs)).2.1.sync (l.lg.append d (textsOf rs)).2.2).1, (l.lg.append d (textsOf rs)).2.1, ((l.lg.append d (textsOf rs)).2.1.sync (l.lg.append d (textsOf rs)).2.2).2)
  else l.lg.append d (textsOf rs)
/-- records are laid, and done -/
def Ld.write (l : Ld) (d : Ds) (rs : List Lr) : Int × Ld × Ds :=
  bif decide ((l.lay d rs).1 = 0) then (0, Ld.run ⟨l.dk, (l.lay d rs).2.1, l.ep, l.cmds, 0⟩ rs, (l.lay d rs).2.2)
  else ((l.lay d rs).1, ⟨l.dk, (l.lay d rs).2.1, l.ep, l.cmds, (l.lay d rs).1⟩, (l.lay d rs).2.2)
/-- records are read, one after another: none, as soon as one does not fit -/
def Ld.replay (l : Ld) : List Nm → Option Ld
  | [] => some l
  | s :: ss => bif decide ((decL s).2 = 0) && decide ((l.fold (decL s).1).1 = 0) then Ld.replay (l.fold (decL s).1).2 ss else none
/-- what stands behind the records of a log that was opened -/
def openLd (z : Zf) (g : Lg) (out : List Nm) : Option Ld :=
  bif decide (0 < g.firsts.headD 0) then none else
  match Ld.replay ⟨Dk.new z, g, 0, [], 0⟩ out with
  | none => none
  | some l => bif decide (1099511627776 ≤ l.ep) then none else some l
def epochRec (n : Int) : Lr := ⟨1, n, 0, 0, Cm.zero, []⟩
def resRec (s i : Int) : Lr := ⟨2, 0, s, i, Cm.zero, []⟩
def admRec (c : Cm) : Lr := ⟨3, 0, 0, 0, c, []⟩
def openRec : Lr := ⟨4, 0, 0, 0, Cm.zero, []⟩
/-- a command is let in -/
def Ld.call (l : Ld) (d : Ds) (c : Cm) : Cm × Int × Ld × Ds :=
  bif !decide (l.e = 0) then (Cm.zero, l.e, l, d) else
  bif !decide ((lookD l.dk c).2.2 = 0) then (Cm.zero, (lookD l.dk c).2.2, l, d) else
  let x := (lookD l.dk c).1
  let w := l.write d (bif (lookD l.dk c).2.1 then [resRec x.b.s x.b.i, admRec x] else [admRec x])
  bif decide (w.1 = 0) then (x, 0, w.2.1, w.2.2) else (Cm.zero, w.1, w.2.1, w.2.2)
/-- a tick is opened -/
def Ld.begin (l : Ld) (d : Ds) : Int × List Cm × Int × Ld × Ds :=
  bif !decide (l.e = 0) then (0, [], l.e, l, d) else
  bif l.dk.o || decide (1099511627776 ≤ l.dk.t) then (0, [], 14, l, d) else
  let w := l.write d [openRec]
  bif decide (w.1 = 0) then (w.2.1.dk.t, w.2.1.cmds, 0, w.2.1, w.2.2) else (0, [], w.1, w.2.1, w.2.2)
end Go.Proofs.YtpbpgjfdledgoaaGreatDoor
