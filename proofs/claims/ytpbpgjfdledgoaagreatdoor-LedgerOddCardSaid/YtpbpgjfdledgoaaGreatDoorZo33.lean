/- Lemmas. -/
import Derived.Test.YtpbpgjfdledgoaaGreatDoorZo32
set_option linter.all false
set_option maxRecDepth 100000
set_option maxHeartbeats 8000000
namespace Go.Proofs.YtpbpgjfdledgoaaGreatDoor
open Go.Proofs.Tryz
open Go.RowKit Go.Shelf Go.Sort Go.Joins Go.Deep
structure kz (w:World)(base q:Nat)(v:Value)(n:Nat)(pl:Pl):Prop where
 at':∃rq,jf w base q v rq∧qc n pl rq∧mR rq
 ok:jd pl
def JD (w:World)(base q:Nat)(v:Value)(n:Nat)(x:Int×Pl)(e:Ending)(w':World):Prop:=e= .returned (qI x.1)∧kz w' base q v n x.2∧ah (tK q v) w w'
section
variable {w w':World}{base q n:Nat}{v:Value}{pl:Pl}
theorem kz.kept {S:Nat→Prop}(h:kz w base q v n pl)(k:ah S w w')(hS:∀i,tK q v i→¬S i):kz w' base q v n pl:=by
 obtain⟨rq,a,b⟩:=h.at';exact⟨⟨rq,a.kept k hS,b⟩,h.ok⟩
theorem kz.box (h:kz w base q v n pl):∃C,w.heap[q]?=some (.cells C Qb (0,0))∧base≤q:=by
 obtain⟨rq,a,_⟩:=h.at';exact⟨_,a.box,a.bq⟩
theorem kz.row (h:kz w base q v n pl){i:Nat}(hi:v.ownBlock=some i):∃C,w.heap[i]?=some (.cells C Jv (0,0))∧base≤i:=by
 obtain⟨rq,a,_⟩:=h.at';exact a.row.block hi
theorem kz.lt (h:kz w base q v n pl){i:Nat}(hi:tK q v i):i<w.heap.size:=by
 rcases hi with rfl|hi
 ·obtain⟨C,a,_⟩:=h.box;exact(bX.1 a).1
 ·obtain⟨C,a,_⟩:=h.row hi;exact(bX.1 a).1
theorem kz.le (h:kz w base q v n pl){i:Nat}(hi:tK q v i):base≤i:=by
 rcases hi with rfl|hi
 ·obtain⟨C,b,a⟩:=h.box;exact a
 ·obtain⟨C,b,a⟩:=h.row hi;exact a
theorem kz.other (h:kz w base q v n pl){i:Nat}{C:Array Value}{t:TypeId}(hi:w.heap[i]?=some (.cells C t (0,0)))(b:t≠Qb)(c:t≠Jv):¬tK q v i:=by
 rintro(rfl|e)
 ·obtain⟨D,a,_⟩:=h.box;exact bO hi a b rfl
 ·obtain⟨D,a,_⟩:=h.row e;exact bO hi a c rfl
theorem Co (h:kz w base q v n pl)(k i:Int):Calls prog 178 #[dP q,qI k,qI i] w (JD w base q v n (cU pl k i)):=by
 obtain⟨rq,c,a,d⟩:=h.at';obtain⟨b,a2⟩:=F5 a h.ok k i;refine(Cn c (a.U4 h.ok) k i).mono ?_;rintro e w1 ⟨rfl,g,f⟩;exact⟨by rw[b],⟨⟨_,g,a2,d.reserve k i⟩,h.ok.reserve k i⟩,f⟩
theorem JE (h:kz w base q v n pl)(a:cO):Calls prog 234 #[dP q,iE a] w (JD w base q v n (jK pl a)):=by
 obtain⟨rq,d,b,f⟩:=h.at';obtain⟨c,a2⟩:=Od b h.ok a;refine(Jz d (b.U4 h.ok) a).mono ?_;rintro e w1 ⟨rfl,i,g⟩;exact⟨by rw[c],⟨⟨_,i,a2,f.take a⟩,h.ok.take a⟩,g⟩
theorem JF (h:kz w base q v n pl)(a:cO):Calls prog 236 #[dP q,iE a] w (JD w base q v n (iZ pl a)):=by
 obtain⟨rq,c,b,d⟩:=h.at';obtain⟨f,a2⟩:=Oe b h.ok a;refine(JA c (b.U4 h.ok) (d.few b h.ok c.few) a).mono ?_;rintro e w1 ⟨rfl,i,g⟩;exact⟨by rw[f],⟨⟨_,i,a2,d.free a⟩,h.ok.free a⟩,g⟩
theorem GM (h:kz w base q v n pl):Calls prog 177 #[dP q] w fun e w'=>∃m:Int,e= .returned (qI m)∧kz w' base q v n (iF pl)∧ah (tK q v) w w':=by
 obtain⟨rq,a,b,c⟩:=h.at';refine(GK a).mono ?_;rintro e w1 ⟨m,rfl,f,d⟩;exact⟨m,rfl,⟨⟨_,f,LP b h.ok,c.yw⟩,h.ok.yw⟩,d⟩
theorem GN (h:kz w base q v n pl)(a:cO):Calls prog 235 #[dP q,iE a] w (qG w ((.bool (j9 pl a)))):=by
 obtain⟨rq,b,c,d⟩:=h.at';rw[←c.alive a];exact yI b a
theorem JG (h:kz w base q v n pl):Calls prog 105 #[dP q] w fun e w'=>∃v',e= .returned v'∧aI bN 23 w' w.heap.size v' (mK pl)∧ah No w w':=by
 obtain⟨rq,a,b,c⟩:=h.at';rw[←Og b];exact JC a
end
theorem Mn (w:World)(n ids:Nat)(n1:1≤n)(a:n≤16)(m1:1≤ids)(m2:ids≤16):Calls prog 176 #[qI n,qI ids] w fun e w'=>∃q v,e= .returned (.tuple #[dP q,.bool true])∧kz w' w.heap.size q v ids (plNew n ids)∧ah No w w':=by
 refine(Mm w n ids n1 a m1 m2).mono ?_;rintro e w1 ⟨q,v,rfl,c,b⟩;exact⟨q,v,rfl,⟨⟨_,c,QT n ids m1,Pa n ids⟩,AL a m1 m2⟩,b⟩
abbrev U5:TypeId:=172
structure Rd where
 d:Nat
 q:Nat
 pv:Value
 lv:Value
def Bt (D:Rd):Nat→Prop:=fun i=>i=D.d∨tK D.q D.pv i∨D.lv.ownBlock=some i
abbrev Vq (z:Zf)(q:Nat)(lv:Value)(t:Int)(o:Bool):List Value:= [qI z.c,qI z.r,qI z.s,qI z.u,qI z.v,qI z.i,qI z.q,dP q,lv,qI t,.bool o]
structure fH (w:World)(base:Nat)(D:Rd)(k:Dk):Prop where
 box:w.heap[D.d]?=some (.cells (Vq k.z D.q D.lv k.t k.o).toArray U5 (0,0))
 pool:kz w base D.q D.pv k.z.i.toNat k.pl
 row:aI k_ dV w base D.lv k.q
 bd:base≤D.d
 ok:k.ok
section
variable {w w':World}{base:Nat}{D:Rd}{k:Dk}{S:Nat→Prop}
theorem fH.kept (h:fH w base D k)(a:ah S w w')(hS:∀i,Bt D i→¬S i):fH w' base D k:=
 ⟨a.heap h.box (hS _ (.inl rfl)),h.pool.kept a (fun i hi=>hS i (.inr (.inl hi))),a.owns h.row (fun i hi=>hS i (.inr (.inr hi))),h.bd,h.ok⟩
theorem fH.no (h:fH w base D k)(a:ah No w w'):fH w' base D k:=h.kept a (fun _ _ h=>h)
theorem fH.lt (h:fH w base D k){i:Nat}(hi:Bt D i):i<w.heap.size:=by
 rcases hi with rfl|hi|hi
 ·exact(bX.1 h.box).1
 ·exact h.pool.lt hi
 ·exact(h.row.lt i hi).2
theorem fH.le (h:fH w base D k){i:Nat}(hi:Bt D i):base≤i:=by
 rcases hi with rfl|hi|hi
 ·exact h.bd
 ·exact h.pool.le hi
 ·exact(h.row.lt i hi).1
theorem fH.iI (h:fH w base D k):¬tK D.q D.pv D.d:=h.pool.other h.box (by decide) (by decide)
theorem fH.GP (h:fH w base D k):∀i,D.lv.ownBlock=some i→¬tK D.q D.pv i:=by
 intro i hi;obtain⟨C,hC,_⟩:=h.row.block hi;exact h.pool.other hC (by decide) (by decide)
theorem fH.vY (h:fH w base D k):∀i,D.lv.ownBlock=some i→¬i=D.d:=by
 intro i hi e;obtain⟨C,hC,_⟩:=h.row.block hi;exact bO hC h.box (by decide) e
theorem fH.pooled (h:fH w base D k){a:Pl}(hp:kz w' base D.q D.pv k.z.i.toNat a)(b:ah (tK D.q D.pv) w w')(ok:(⟨k.z,a,k.q,k.t,k.o⟩:Dk).ok):fH w' base D ⟨k.z,a,k.q,k.t,k.o⟩:=
 ⟨b.heap h.box h.iI,hp,b.owns h.row h.GP,h.bd,ok⟩
theorem fH.cells (h:fH w base D k):ai w D.d 0 7=some (LI k.z)∧w.cell? ⟨D.d,6,none⟩=some (qI k.z.q)∧w.cell? ⟨D.d,7,none⟩=some (dP D.q)∧w.cell? ⟨D.d,8,none⟩=some D.lv∧w.cell? ⟨D.d,9,none⟩=some (qI k.t)∧w.cell? ⟨D.d,10,none⟩=some (.bool k.o):=by
 refine⟨?_,?_,?_,?_,?_,?_⟩
 ·unfold ai;rw[h.box];rfl
 all_goals rw[bW _ _ _ _ _ _ h.box];rfl
theorem fH.boxed (h:fH w base D k)(i:Nat)(u:Value){k':Dk}{U6:Value}(hc:(Vq k.z D.q D.lv k.t k.o).set i u=Vq k'.z D.q U6 k'.t k'.o)(c:k'.z.i=k.z.i)(hp:k'.pl=k.pl)(b:aI k_ dV (w.setCell ⟨D.d,i,none⟩ u) base U6 k'.q)(ok:k'.ok):fH (w.setCell ⟨D.d,i,none⟩ u) base ⟨D.d,D.q,D.pv,U6⟩ k':=by
 have f:ah (Own D.d) w (w.setCell ⟨D.d,i,none⟩ u):=(aA (S:=Own D.d) w).setCell (p:=⟨D.d,i,none⟩) (fun _=>(rfl:D.d=D.d)) _;refine⟨?_,?_,b,h.bd,ok⟩
 ·rw[aB h.box u];simp only[List.setIfInBounds_toArray,hc]
 ·rw[c,hp];exact h.pool.kept f (fun j a e=>h.iI (by have e:j=D.d:=e;rw[←e];exact a))
theorem fH.KN (h:fH w base D k)(i:Nat)(u:Value):aI k_ dV (w.setCell ⟨D.d,i,none⟩ u) base D.lv k.q:=
 ((aA (S:=Own D.d) w).setCell (p:=⟨D.d,i,none⟩) (fun _=>(rfl:D.d=D.d)) u).owns h.row (fun j a e=>h.vY j a e)
end
section
variable {w w':World}{base:Nat}{D:Rd}{k:Dk}{S:Nat→Prop}
def sI (w:World)(base:Nat)(D:Rd)(k:Dk)(e:Ending)(w':World):Prop:=∃(lv bv:Value),e= .returned (.tuple #[qI (jk k).1,bv,qI (jk k).2.2.1])∧fH w' base ⟨D.d,D.q,D.pv,lv⟩ (jk k).2.2.2∧aI k_ dV w' base bv (jk k).2.1∧(∀i,lv.ownBlock=some i→D.lv.ownBlock=some i)∧(∀i,bv.ownBlock=some i→D.lv.ownBlock=some i∧¬lv.ownBlock=some i)∧ah (Own D.d) w w'
theorem GQ (h:fH w base D k):Calls prog 180 #[dP D.d] w (sI w base D k):=by
 obtain⟨_,_,_,E,c9,s⟩:=h.cells;have HH:=af h;obtain⟨t,b⟩:=ay (k.t);obtain⟨o,f⟩:=ay (k.o);rw[←b]at c9;rw[←f]at s;have A:=af (And.intro b f);have t0:0≤t:=(by rw[b];exact h.ok.t0);have t1:t≤1099511627776:=(by rw[b];exact h.ok.t1);have g:∀j,w.frozen? ⟨D.d,j,none⟩=false:=fun j=>bF _ _ _ _ _ h.box;have G:D.d<w.heap.size:=(bX.1 h.box).1;by_cases hc:(o||decide (1099511627776≤t))=true
 ·have n:aj (jk k=(0,[],14,k)):=af (by unfold jk;rw[←b, ←f,hc];rfl);have a:aj (sI w base D k (.returned (.tuple #[qI 0,.slice none 0 0,qI 14])) w):=af (by
   unfold sI;rw[n.o];exact⟨D.lv,.slice none 0 0,rfl,HH.o,cJ _ _ _ _,fun _ h=>h,fun i hi=>(by cases hi),aA _⟩)
  clear b f h g;cases o with
  |true=>
   clear hc;(go_enter func180,ntmps180);go_wp2;refine aY (v:= .tuple #[qI 0,.slice none 0 0,qI 14]) ?_ rfl a.o;simp[results,results180]
  |false=>
   have m:1099511627776≤t:=(by simpa using hc);clear hc;(go_enter func180,ntmps180);go_wp2;refine aY (v:= .tuple #[qI 0,.slice none 0 0,qI 14]) ?_ rfl a.o;simp[results,results180]
 ·have u:o=false:=by cases o with|false=>rfl|true=>exact absurd rfl hc
  subst u;have m:¬1099511627776≤t:=(by simpa using hc);have n:aj (jk k=(t+1,k.q,0,⟨k.z,k.pl,[],t+1,true⟩)):=af (by unfold jk;rw[←b, ←f,aJ m];rfl);have b1:IntKind.i64.wrap (t+1)=t+1:=(by rw[cI];omega);have OK:=h.ok;have R1:aj (fH (w.setCell ⟨D.d,8,none⟩ (.slice none 0 0)) base ⟨D.d,D.q,D.pv,.slice none 0 0⟩ ⟨k.z,k.pl,[],k.t,k.o⟩):=af (h.boxed 8 (.slice none 0 0) rfl rfl rfl (cJ _ _ _ _) ⟨OK.z,OK.pl,OK.pn,by have:=OK.q;simp only[List.length_nil];omega,OK.t0,OK.t1⟩);have C:aj (aI k_ dV (w.setCell ⟨D.d,8,none⟩ (.slice none 0 0)) base D.lv k.q):=af (h.KN 8 _);have B:aj (ah (Own D.d) w (w.setCell ⟨D.d,8,none⟩ (.slice none 0 0))):=af ((aA (S:=Own D.d) w).setCell (p:=⟨D.d,8,none⟩) (fun _=>(rfl:D.d=D.d)) _);have y:=af h.vY;have c:aj (fH ((w.setCell ⟨D.d,8,none⟩ (.slice none 0 0)).setCell ⟨D.d,10,none⟩ (.bool true)) base ⟨D.d,D.q,D.pv,.slice none 0 0⟩ ⟨k.z,k.pl,[],k.t,true⟩):=af (R1.o.boxed 10 (.bool true) rfl rfl rfl (cJ _ _ _ _) ⟨R1.o.ok.z,R1.o.ok.pl,R1.o.ok.pn,R1.o.ok.q,R1.o.ok.t0,R1.o.ok.t1⟩);have x:aj (fH (((w.setCell ⟨D.d,8,none⟩ (.slice none 0 0)).setCell ⟨D.d,10,none⟩ (.bool true)).setCell ⟨D.d,9,none⟩ (qI (t+1))) base ⟨D.d,D.q,D.pv,.slice none 0 0⟩ ⟨k.z,k.pl,[],t+1,true⟩):=af (c.o.boxed 9 (qI (t+1)) rfl rfl rfl (cJ _ _ _ _) ⟨c.o.ok.z,c.o.ok.pl,c.o.ok.pn,c.o.ok.q,by simp only;omega,by simp only;omega⟩);have r:aj (ah (Own D.d) w (((w.setCell ⟨D.d,8,none⟩ (.slice none 0 0)).setCell ⟨D.d,10,none⟩ (.bool true)).setCell ⟨D.d,9,none⟩ (qI (t+1)))):=af (((bU _ _ _ _).aK (bU _ _ _ _)).aK (bU _ _ _ _));have a:aj (sI w base D k (.returned (.tuple #[qI (t+1),D.lv,qI 0])) (((w.setCell ⟨D.d,8,none⟩ (.slice none 0 0)).setCell ⟨D.d,10,none⟩ (.bool true)).setCell ⟨D.d,9,none⟩ (qI (t+1)))):=af (by
   unfold sI;rw[n.o];exact⟨.slice none 0 0,D.lv,rfl,x.o,r.o.owns HH.o.row (fun j F e=>y.o j F e),fun i hi=>(by cases hi),fun i hi=>⟨hi,fun h=>by cases h⟩,r.o⟩)
  have f8:=g 8;have f9:=g 9;have f10:=g 10;obtain⟨la,lc,l⟩:=aq h.row;rw[l]at E a;clear b f h hc OK R1 c x r B C g l;(go_enter func180,ntmps180);go_wp2;refine aY (v:= .tuple #[qI (t+1),.slice la k.q.length lc,qI 0]) ?_ rfl a.o;simp[results,results180]
end
