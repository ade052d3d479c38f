/- Lemmas. -/
import Derived.Test.YtpbpgjfdledgoaaGreatDoorZo25
import Derived.Test.YtpbpgjfdledgoaaGreatDoorZo29
set_option linter.all false
set_option maxRecDepth 100000
set_option maxHeartbeats 8000000
namespace Go.Proofs.YtpbpgjfdledgoaaGreatDoor
section
open Go.Proofs.Tryz
open Go.RowKit Go.Shelf Go.Sort Go.Joins Go.Deep
def C8 (k:Nat)(b:Ix×Nat):List cO:=bif b.1.a then [⟨(k:Int),(b.2:Int),b.1.g⟩]else []
def nO (p:Pl)(k:Nat):List cO:=(p.zipIdx.take k).flatMap fun a=>Ky a.2 a.1.all
def lZ (k:Nat)(A:List Ix)(i:Nat):List cO:=(A.zipIdx.take i).flatMap (C8 k)
theorem uz (p:Pl):nO p 0= []:=by simp[nO]
theorem Js (k:Nat)(A:List Ix):lZ k A 0= []:=by simp[lZ]
theorem uD (k:Nat)(A:List Ix)(i:Nat)(x:Ix)(h:A[i]?=some x):lZ k A (i+1)=lZ k A i++C8 k (x,i):=by
 unfold lZ;rw[tT,qT,zE,h];simp
theorem Bj (p:Pl)(k:Nat)(s:Sh)(h:p[k]?=some s):nO p (k+1)=nO p k++lZ k s.all s.all.length:=by
 unfold nO lZ;rw[tT,qT,zE,h];simp only[Option.map_some,Option.toList_some,List.flatMap_cons,List.flatMap_nil,List.append_nil,Nat.zero_add];rw[fA (l:=s.all.zipIdx) (by rw[DJ];exact bM _)];rfl
theorem C9 (p:Pl){k:Nat}(h:p.length≤k):nO p k=mK p:=by
 unfold nO mK;rw[fA (by rw[DJ];exact h)]
theorem pG (k:Nat)(A:List Ix):∀i,(lZ k A i).length≤i
 |0=>by simp[lZ]
 |i+1=>by
  cases h:A[i]? with
  |none=>
   have:lZ k A (i+1)=lZ k A i:=by
    unfold lZ;rw[tT,zE,h];simp
   rw[this];have:=pG k A i;omega
  |some x=>
   rw[uD k A i x h,cr];have:=pG k A i;have:(C8 k (x,i)).length≤1:=by unfold C8;cases x.a<;>simp
   omega
section
variable {w:World}{base p g:Nat}{R:List Rp}{pl:Pl}
theorem Er (h:bG w base p g R pl):Calls prog 189 #[dP p] w fun e w'=>∃v,e= .returned v∧aI bN 23 w' w.heap.size v (mK pl)∧ah No w w':=by
 obtain⟨i0,hi,aJ,aL,aM⟩:=fR Tryz.En;have c0:=h.vJ;have H:=af h;have ak:=h.ok.1;have bJ:(pl.length:Int)≤16:=(by omega);clear h ak;(go_enter func189,ntmps189);go_wp2
 go_loopw [16,3] (fun q v wr=>∃k:Nat,k≤pl.length∧q=qI k∧aI bN 23 wr w.heap.size v (nO pl k)∧(nO pl k).length≤16*k∧ah No w wr) (fun q _ _=>pl.length-(intOf q).toNat)
 case atStart=>exact⟨0,aX _,rfl,by rw[uz];exact cJ _ _ _ _,by rw[uz];simp,aA _⟩
 case round=>
  obtain⟨k,bP,rfl,f,m,hK⟩:=hrel;obtain⟨bK,oc,rfl⟩:=aq f;have X:=af hK;have Z:=af f;by_cases aH:k<pl.length
  ·have aF:(k:Int)<(pl.length:Int):=(by omega);have bI:(0:Int)≤(k:Int):=(by omega);have hs:pl[k]?=some pl[k]:=fw aH;obtain⟨s,F⟩:=ay (pl[k]);rw[←F]at hs;have C:=H.o.no hK;obtain⟨r,Q,G,_⟩:=C.place hs;have aW:(R.zip pl)[k]?=some (r,s):=(by rw[uK];exact⟨Q,hs⟩);have d0:ai wr g (k*2) 2=some (Vm (r,s)):=vI CW C.row k (r,s) aW;have aV:(s.all.length:Int)≤16:=(by have:=(H.o.ok.sh hs).n1;omega);have la:r.a<wr.heap.size:=C.lt (.inr (.inr ⟨r,dL Q,.inl rfl⟩));have lg:g<wr.heap.size:=C.lt (.inr (.inl rfl));have bg:=af G.all;have aO:=af hs;have V:=af Q;have c:=af m;clear F hs C Q G aW f hK m;go_wp2;refine au ?_;intro X0 D;have Y:aj (ah No wr X0):=af (by rw[D];exact(aA wr).alloc _);have bB:=af (X.o.aK Y.o);have aT:aj (aI bN 23 X0 w.heap.size (.slice bK (nO pl k).length oc) (nO pl k)):=af (Y.o.mM Z.o);have aN:=af (H.o.sh k r s V.o aO.o).all;clear D d0;obtain⟨M,av⟩:=ay (nO pl k);rw[←av]at aT c⊢;have bq:=af av;clear av Z;obtain⟨bQ,I⟩:=ay (wr);rw[←I]at Y X bg;clear I la lg
   go_loopw [24,3] (fun q v bf=>∃i:Nat,i≤s.all.length∧q=qI i∧aI bN 23 bf w.heap.size v (M++lZ k s.all i)∧ah No w bf) (fun q _ _=>s.all.length-(intOf q).toNat)
   case atStart=>exact⟨0,aX _,rfl,by rw[Js,kE];exact aT.o,bB.o⟩
   case round=>
    obtain⟨i,bH,rfl,f,hK⟩:=hrel;obtain⟨aY,mc,rfl⟩:=aq f;have aS:=af hK;have O:=af f;have bF:(0:Int)≤(i:Int):=(by omega);by_cases aD:i<s.all.length
    ·have aC:(i:Int)<(s.all.length:Int):=(by omega);have S:s.all[i]?=some s.all[i]:=fw aD;obtain⟨x,J⟩:=ay (s.all[i]);rw[←J]at S;have aR:=af S;have aU:ai wr r.a (i*3) 3=some (Ul x):=vI y5 (hK.heap aN.o (fun h=>h)) i x S;have la:r.a<wr.heap.size:=(bX.1 (hK.heap aN.o (fun h=>h))).1;obtain⟨N,P⟩:=ay (M++lZ k s.all i);rw[←P]at O⊢;have L:=af P;have A:aj (N.length≤1000):=af (by
      have bL:=pG k s.all i;have bM:=c.o;rw[P,cr];omega)
     have bn:aj (w.heap.size≤wr.heap.size):=af (hK.size);clear f hK S J P;obtain⟨T,aB⟩:=ay (x.a);have aP:=af aB;have K:Ul x= [qI x.g,qI x.b,.bool T]:=(by rw[aB]);rw[K]at aU;clear aB K;cases T
     case false=>
      have t:aj (M++lZ k s.all (i+1)=N):=af (by rw[uD k _ _ _ aR.o,L.o];unfold C8;rw[←aP.o];simp);go_wp2;go_roundw
      case rel=>exact⟨i+1,by omega,by go_num,by rw[t.o];exact O.o.alloc _,aS.o.alloc _⟩
      case measure=>simp[intOf];omega
     case true=>
      have t:aj (M++lZ k s.all (i+1)=N++ [⟨(k:Int),(i:Int),x.g⟩]):=af (by rw[uD k _ _ _ aR.o,L.o];unfold C8;rw[←aP.o];simp);obtain⟨nm,z⟩:=ay (⟨(k:Int),(i:Int),x.g⟩:cO);rw[←z]at t;go_upto_region 11 with fail
      refine au ?_;intro l u;have c1:l.cell? ⟨wr.heap.size,0,none⟩=some (qI x.g):=(by rw[u];simp[go_sem]);have W:aj (ah No wr l):=af (by rw[u];exact(aA wr).alloc _);have bC:=af (W.o.mM O.o);have U:aj (w.heap.size≤l.heap.size):=af (by have:=W.o.size;have:=bn.o;omega);have B:(l.alloc (.cells #[qI (k:Int),qI (i:Int),qI x.g] 23)).ownsRow w.heap.size 23 3 (.slice aY N.length mc) N.length (rowsOf bN N):=bC.o.alloc _;have n:Reads (l.alloc (.cells #[qI (k:Int),qI (i:Int),qI x.g] 23)) 3 (.slice (some ⟨l.heap.size,0,none⟩) 1 1) 1 (bk nm):=(by rw[z];exact Reads.fu (jO (base:=0) l #[qI (k:Int),qI (i:Int),qI x.g] 1 (aX _) (by unfold maxLen;omega) rfl) (bN.one ⟨(k:Int),(i:Int),x.g⟩));clear u z aU la;(go_wp2_with (at_builtin;refine aQ rfl (.tmp 31) (.tmp 37) 28 rfl w.heap.size 23 i0 _ 3 24 underlying28 hi aJ aL aM rfl (by decide) _ N.length _ rfl B _ 1 _ rfl n (by have:=A.o;unfold maxLen;omega) (by have:=A.o;omega) (by have:=U.o;simp;omega) ?_;intro v5 aZ d E y _));have bD:aj (aI bN 23 aZ w.heap.size v5 (N++ [nm])):=af (by
       unfold aI;rw[cr,bE,fL];exact d)
      have bA:aj (ah No w aZ):=af ((aS.o.aK W.o).trans (T:=Of (.slice aY N.length mc)) (((aA l).alloc _).aK E) (fun j bO h=>by have:=(O.o.lt j h).1;omega));clear d E y B n;go_wp2;go_roundw
      case rel=>exact⟨i+1,by omega,by go_num,by rw[t.o];exact bD.o,bA.o⟩
      case measure=>simp[intOf];omega
    ·have aE:i=s.all.length:=(by omega);have aC:¬((i:Int)<(s.all.length:Int)):=(by omega);have bu:=af f;have bp:=af hK;clear f hK;go_wp2;have t:aj (M++lZ k s.all i=nO pl (k+1)):=af (by rw[Bj pl k s aO.o,aE,bq.o]);have L:aj ((nO pl (k+1)).length≤16*(k+1)):=af (by rw[←t.o,cr];have:=pG k s.all i;have:=c.o;omega);refine⟨⟨k+1,by omega,by go_num,by rw[←t.o];exact bu.o,L.o,bp.o⟩,?_⟩;simp[intOf];omega
  ·have aG:pl.length≤k:=(by omega);have aF:¬((k:Int)<(pl.length:Int)):=(by omega);clear f hK;go_wp2;go_ret;exact⟨_,rfl,by rw[←C9 pl aG];exact Z.o,X.o⟩
end
end
section
open Go.Proofs.Tryz
structure Dk where
 z:Zf
 pl:Pl
 q:List Cm
 t:Int
 o:Bool
def Dk.new (z:Zf):Dk:=⟨z,plNew (z.c*z.r).toNat z.i.toNat,[],0,false⟩
def oN (a:cO)(c:Cm):Bool:=decide (c.k=2)&&neq c.id a
def qm (q:List Cm)(a:cO):Bool:=q.any (oN a)
def Cm.named (c:Cm)(a:cO):Cm:=⟨c.k,c.s,c.i,c.g,c.b.named a,c.m⟩
def Cm.zone (c:Cm)(z:Zf):Int:=ou z c.b.x c.b.y
def kV (d:Dk)(c:Cm):Cm×Bool×Int:=
 bif !bD c||(decide (c.k=1)&&!neq c.b.id cO.zero)then(Cm.zero,false,1)else
 bif decide (c.k=1)then
  bif decide (c.zone d.z<0)then(Cm.zero,false,5)else
  bif decide (d.z.q≤(d.q.length:Int))then(Cm.zero,false,8)else
  bif !decide ((nI d.pl (c.zone d.z)).2.2=0)then(Cm.zero,false,13)else
   (c.named ⟨c.zone d.z,(nI d.pl (c.zone d.z)).1,I3 d.pl (c.zone d.z) (nI d.pl (c.zone d.z)).1⟩,!(nI d.pl (c.zone d.z)).2.1,0)
 else
  bif !j9 d.pl c.id then(Cm.zero,false,9)else
  bif qm d.q c.id then(Cm.zero,false,10)else
  bif decide (d.z.q≤(d.q.length:Int))then(Cm.zero,false,8)else(c,false,0)
def jL (d:Dk)(c:Cm):Int×Dk:=
 bif !bD c then(1,d)else
 bif decide (d.z.q≤(d.q.length:Int))then(8,d)else
 bif decide (c.k=1)then
  bif !decide (c.zone d.z=c.b.s)then(5,d)else
  bif decide ((jK d.pl c.b.id).1=0)then(0,⟨d.z,(jK d.pl c.b.id).2,d.q++ [c],d.t,d.o⟩)else((jK d.pl c.b.id).1,d)
 else
  bif !j9 d.pl c.id then(9,d)else(0,⟨d.z,d.pl,d.q++ [c],d.t,d.o⟩)
def jk (d:Dk):Int×List Cm×Int×Dk:=
 bif d.o||decide (1099511627776≤d.t)then(0,[],14,d)else(d.t+1,d.q,0,⟨d.z,d.pl,[],d.t+1,true⟩)
def jF (p:Pl)(l:List cO):Pl:=l.foldl (fun p a=>(iZ p a).2) p
def kN:Pl→List cO→Nat
 |_,[]=>0
 |p,a::l=>(bif decide ((iZ p a).1=0)then 1 else 0)+kN (iZ p a).2 l
def jM (d:Dk)(l:List cO):Int×Int×Dk:=
 bif d.o then((kN d.pl l:Int),0,⟨d.z,jF d.pl l,d.q,d.t,false⟩)else(0,14,d)
structure Dk.ok (d:Dk):Prop where
 z:o9 d.z=true
 pl:jd d.pl
 pn:(d.pl.length:Int)=d.z.c*d.z.r
 q:(d.q.length:Int)≤d.z.q
 t0:0≤d.t
 t1:d.t≤1099511627776
structure Ld where
 dk:Dk
 lg:Lg
 ep:Int
 cmds:List Cm
 e:Int
def Ld.fold (l:Ld)(r:Lr):Int×Ld:=
 bif decide (r.k=1)then(bif decide (r.n=l.ep+1)then(0,⟨⟨l.dk.z,iF l.dk.pl,l.dk.q,l.dk.t,l.dk.o⟩,l.lg,r.n,l.cmds,l.e⟩)else(14,l))else
 bif decide (r.k=2)then((cU l.dk.pl r.s r.i).1,⟨⟨l.dk.z,(cU l.dk.pl r.s r.i).2,l.dk.q,l.dk.t,l.dk.o⟩,l.lg,l.ep,l.cmds,l.e⟩)else
 bif decide (r.k=3)then((jL l.dk r.c).1,⟨(jL l.dk r.c).2,l.lg,l.ep,l.cmds,l.e⟩)else
 bif decide (r.k=4)then((jk l.dk).2.2.1,⟨(jk l.dk).2.2.2,l.lg,l.ep,(jk l.dk).2.1,l.e⟩)else
 ((jM l.dk r.ids).2.1,⟨(jM l.dk r.ids).2.2,l.lg,l.ep,[],l.e⟩)
def Ld.run (l:Ld)(rs:List Lr):Ld:=rs.foldl (fun l r=>(l.fold r).2) l
def gS (rs:List Lr):List ByteArray:=rs.map fun r=>bB (dQ r).1
def Ld.lay (l:Ld)(d:Ds)(rs:List Lr):Int×Lg×Ds:=
 bif decide ((l.lg.append d (gS rs)).1=0)then
  (((l.lg.append d (gS rs)).2.1.sync (l.lg.append d (gS rs)).2.2).1,(l.lg.append d (gS rs)).2.1,((l.lg.append d (gS rs)).2.1.sync (l.lg.append d (gS rs)).2.2).2)
 else l.lg.append d (gS rs)
def Ld.write (l:Ld)(d:Ds)(rs:List Lr):Int×Ld×Ds:=
 bif decide ((l.lay d rs).1=0)then(0,Ld.run ⟨l.dk,(l.lay d rs).2.1,l.ep,l.cmds,0⟩ rs,(l.lay d rs).2.2)
 else((l.lay d rs).1,⟨l.dk,(l.lay d rs).2.1,l.ep,l.cmds,(l.lay d rs).1⟩,(l.lay d rs).2.2)
def Ld.replay (l:Ld):List Nm→Option Ld
 | []=>some l
 |s::ss=>bif decide ((ij s).2=0)&&decide ((l.fold (ij s).1).1=0)then Ld.replay (l.fold (ij s).1).2 ss else none
def je (z:Zf)(g:Lg)(out:List Nm):Option Ld:=
 bif decide (0<g.aD.headD 0)then none else
 match Ld.replay ⟨Dk.new z,g,0,[],0⟩ out with
 |none=>none
 |some l=>bif decide (1099511627776≤l.ep)then none else some l
def bP (n:Int):Lr:=⟨1,n,0,0,Cm.zero,[]⟩
def resRec (s i:Int):Lr:=⟨2,0,s,i,Cm.zero,[]⟩
def fG (c:Cm):Lr:=⟨3,0,0,0,c,[]⟩
def Ld.call (l:Ld)(d:Ds)(c:Cm):Cm×Int×Ld×Ds:=
 bif !decide (l.e=0)then(Cm.zero,l.e,l,d)else
 bif !decide ((kV l.dk c).2.2=0)then(Cm.zero,(kV l.dk c).2.2,l,d)else
 let x:=(kV l.dk c).1
 let w:=l.write d (bif (kV l.dk c).2.1 then [resRec x.b.s x.b.i,fG x]else [fG x])
 bif decide (w.1=0)then(x,0,w.2.1,w.2.2)else(Cm.zero,w.1,w.2.1,w.2.2)
end
