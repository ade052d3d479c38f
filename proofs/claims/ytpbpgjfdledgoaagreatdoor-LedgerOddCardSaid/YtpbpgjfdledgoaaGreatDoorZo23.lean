/- Lemmas. -/
import Derived.Test.YtpbpgjfdledgoaaGreatDoorZo22
set_option linter.all false
set_option maxRecDepth 100000
set_option maxHeartbeats 8000000
open Bool renaming and_eq_true→eA,and_eq_false_iff→Kv,not_eq_true'→Kw,not_eq_false'→R5
open List renaming append_assoc→o_,isEmpty_iff→Kx,getElem?_eq_none_iff→R6,mem_range→M7,mem_filter→N6,getElem?_set→R7,mem_singleton→ow,length_modify→R8,getElem_modify→R9,length_replicate→R_
open Nat renaming mul_add_div→N7,div_eq_of_lt→N8,add_left_cancel_iff→Sb
open Int renaming toNat_natCast→FX
open Option renaming map_some→N9
namespace Go.Proofs.YtpbpgjfdledgoaaGreatDoor
section
open Go.Proofs.Tryz
def dF (a:cO):Bool:=jo a.s 0 15&&(jo a.i 0 15&&jo a.g 0 1048575)
def nT (h:Bool)(n lo hi:Int):Bool:=bif h then jo n lo hi else decide (n=0)
def cE (b:Bd):Bool:=jo b.m 0 31&&(nT (hasB b.m 1) b.x (-1073741824) 1073741824&&(nT (hasB b.m 1) b.y (-1073741824) 1073741824&&(nT (hasB b.m 2) b.vx (-1073741824) 1073741824&&(nT (hasB b.m 2) b.vy (-1073741824) 1073741824&&(nT (hasB b.m 4) b.hp 1 1048576&&(nT (hasB b.m 8) b.pw 0 1024&&nT (hasB b.m 16) b.lf 1 1048576))))))
def kR (b:Bd):Bool:=cE b&&(hasB b.m 1&&dF b.id)
def gW (m:Int):Bool:=jo m 1 31&&!hasB m 1
def cO.zero:cO:=⟨0,0,0⟩
def pq (a b:Bd):Bool:=neq a.id b.id&&(decide (a.m=b.m)&&(decide (a.x=b.x)&&(decide (a.y=b.y)&&(decide (a.vx=b.vx)&&(decide (a.vy=b.vy)&&(decide (a.hp=b.hp)&&(decide (a.pw=b.pw)&&decide (a.lf=b.lf))))))))
def jc (a b:Cm):Bool:=decide (a.k=b.k)&&(neq a.id b.id&&(pq a.b b.b&&decide (a.m=b.m)))
theorem AA (a b:Bd):pq a b=true↔a=b:=by
 obtain⟨a0,e,a2,a3,a4,a5,f,g,h,a9,c⟩:=a;obtain⟨b0,b1,i,j,k,l,m,n,o,p,d⟩:=b;unfold pq;simp only[eA,decide_eq_true_eq,u6,Bd.id,cO.mk.injEq,Bd.mk.injEq,and_assoc]
theorem fZ (a b:Cm):jc a b=true↔a=b:=by
 obtain⟨a0,c,a2,a3,ab,a4⟩:=a;obtain⟨b0,b1,d,e,bb,f⟩:=b;unfold jc;simp only[eA,decide_eq_true_eq,u6,AA,Cm.id,cO.mk.injEq,Cm.mk.injEq,and_assoc]
def Cm.zero:Cm:=⟨0,0,0,0,Bd.zero,0⟩
def bD (c:Cm):Bool:=
 bif c.k==1 then neq c.id cO.zero&&(decide (c.m=0)&&kR c.b)else
 bif c.k==2 then dF c.id&&(decide (c.m=0)&&pq c.b Bd.zero)else
 bif c.k==3 then dF c.id&&(decide (c.m=0)&&(neq c.b.id cO.zero&&(gW c.b.m&&cE c.b)))else
 bif c.k==4 then dF c.id&&(pq c.b Bd.zero&&gW c.m)else false
structure Lr where
 k:Int
 n:Int
 s:Int
 i:Int
 c:Cm
 ids:List cO
def Lr.zero:Lr:=⟨0,0,0,0,Cm.zero,[]⟩
def cH (r:Lr):Bool:=
 bif r.k==1 then jo r.n 1 1099511627776&&(decide (r.s=0)&&(decide (r.i=0)&&(jc r.c Cm.zero&&r.ids.isEmpty)))else
 bif r.k==2 then decide (r.n=0)&&(jo r.s 0 15&&(jo r.i 0 15&&(jc r.c Cm.zero&&r.ids.isEmpty)))else
 bif r.k==3 then decide (r.n=0)&&(decide (r.s=0)&&(decide (r.i=0)&&(bD r.c&&r.ids.isEmpty)))else
 bif r.k==4 then decide (r.n=0)&&(decide (r.s=0)&&(decide (r.i=0)&&(jc r.c Cm.zero&&r.ids.isEmpty)))else
 bif r.k==5 then decide (r.n=0)&&(decide (r.s=0)&&(decide (r.i=0)&&(jc r.c Cm.zero&&(decide (r.ids.length≤1024)&&r.ids.all dF))))else false
def aO (a:cO):Nm:=bif dF a then aG a.s++aG a.i++aG a.g else []
def aC (h:Bool)(n:Int):Nm:=bif h then aG n else []
def cV (b:Bd):Nm:=aG b.m++aC (hasB b.m 1) b.x++aC (hasB b.m 1) b.y++aC (hasB b.m 2) b.vx++aC (hasB b.m 2) b.vy++aC (hasB b.m 4) b.hp++aC (hasB b.m 8) b.pw++aC (hasB b.m 16) b.lf
def ia (b:Bd):Nm:=bif kR b then aO b.id++cV b else []
def cQ (c:Cm):Nm:=bif bD c then aG c.k++
    (bif c.k==1 then ia c.b else bif c.k==3 then aO c.id++cV c.b else bif c.k==4 then aO c.id++aG c.m else aO c.id)else []
def nG {α:Type}(put:α→Nm)(l:List α):Nm:=aG l.length++l.flatMap put
def eF (r:Lr):Nm:=
 aG r.k++(bif r.k==1 then aG r.n else bif r.k==2 then aG r.s++aG r.i else bif r.k==3 then cQ r.c else bif r.k==5 then nG aO r.ids else [])
def dQ (r:Lr):Nm×Int:=bif cH r then(eF r,0)else([],1)
abbrev dx:=Option Nm
def Qa (s:Nm):Int×dx:=match jT s with
 |none=>(0,none)
 |some (n,k)=>(n,some (s.drop k))
def bR (r:dx):Int×dx:=match r with
 |none=>(0,none)
 |some s=>Qa s
def dc (most:Int)(r:dx):Int×dx:=bif decide ((bR r).1<0)||decide (most<(bR r).1)then(0,none)else bR r
def y4 (h:Bool)(r:dx):Int×dx:=bif h then bR r else(0,r)
def oI (r:dx):cO×dx:=(⟨(bR r).1,(bR (bR r).2).1,(bR (bR (bR r).2).2).1⟩,(bR (bR (bR r).2).2).2)
def aF (r:dx):cO×dx:=bif (oI r).2.isSome&&dF (oI r).1 then oI r else(cO.zero,none)
def iy (m:Int)(r:dx):Bd×dx:=
 let x:=y4 (hasB m 1) r
 let y:=y4 (hasB m 1) x.2
 let vx:=y4 (hasB m 2) y.2
 let vy:=y4 (hasB m 2) vx.2
 let hp:=y4 (hasB m 4) vy.2
 let pw:=y4 (hasB m 8) hp.2
 let lf:=y4 (hasB m 16) pw.2
 (⟨0,0,0,m,x.1,y.1,vx.1,vy.1,hp.1,pw.1,lf.1⟩,lf.2)
def cR (r:dx):Bd×dx:=bif jo (bR r).1 0 31&&(iy (bR r).1 (bR r).2).2.isSome then iy (bR r).1 (bR r).2 else(Bd.zero,none)
def Bd.named (b:Bd)(a:cO):Bd:=⟨a.s,a.i,a.g,b.m,b.x,b.y,b.vx,b.vy,b.hp,b.pw,b.lf⟩
def gX (r:dx):Bd×dx:=
 bif (cR (aF r).2).2.isSome&&kR ((cR (aF r).2).1.named (aF r).1)then((cR (aF r).2).1.named (aF r).1,(cR (aF r).2).2)else(Bd.zero,none)
def dY (k:Int)(r:dx):Cm×dx:=
 bif k==1 then(⟨k,0,0,0,(gX r).1,0⟩,(gX r).2)else
 bif k==2 then(⟨k,(aF r).1.s,(aF r).1.i,(aF r).1.g,Bd.zero,0⟩,(aF r).2)else
 bif k==3 then(⟨k,(aF r).1.s,(aF r).1.i,(aF r).1.g,(cR (aF r).2).1,0⟩,(cR (aF r).2).2)else
 bif k==4 then(⟨k,(aF r).1.s,(aF r).1.i,(aF r).1.g,Bd.zero,(bR (aF r).2).1⟩,(bR (aF r).2).2)else(⟨k,0,0,0,Bd.zero,0⟩,r)
def c8 (r:dx):Cm×dx:=bif (dY (bR r).1 (bR r).2).2.isSome&&bD (dY (bR r).1 (bR r).2).1 then dY (bR r).1 (bR r).2 else(Cm.zero,none)
def takeN {α:Type}(take:dx→α×dx):Nat→List α→dx→List α×dx
 |0,l,r=>(l,r)
 |k+1,l,r=>bif (take r).2.isSome then takeN take k (l++ [(take r).1]) (take r).2 else([],none)
def jx {α:Type}(take:dx→α×dx)(most:Int)(r:dx):List α×dx:=takeN take (dc most r).1.toNat [] (dc most r).2
def fM (k:Int)(r:dx):Lr×dx:=
 bif k==1 then(⟨k,(bR r).1,0,0,Cm.zero,[]⟩,(bR r).2)else
 bif k==2 then(⟨k,0,(bR r).1,(bR (bR r).2).1,Cm.zero,[]⟩,(bR (bR r).2).2)else
 bif k==3 then(⟨k,0,0,0,(c8 r).1,[]⟩,(c8 r).2)else
 bif k==5 then(⟨k,0,0,0,Cm.zero,(jx aF 1024 r).1⟩,(jx aF 1024 r).2)else(⟨k,0,0,0,Cm.zero,[]⟩,r)
def AB (r:dx):Bool:=match r with|some []=>true|_=>false
def ij (s:Nm):Lr×Int:=
 bif AB (fM (bR (some s)).1 (bR (some s)).2).2&&cH (fM (bR (some s)).1 (bR (some s)).2).1 then((fM (bR (some s)).1 (bR (some s)).2).1,0)else(Lr.zero,2)
theorem mO {n lo hi:Int} :jo n lo hi=true↔lo≤n∧n≤hi:=by unfold jo;simp
theorem eT {n lo hi:Int}(h:jo n lo hi=true)(a: -9223372036854775808≤lo:=by omega)(b:hi≤9223372036854775807:=by omega):i64 n:=by
 rw[mO]at h;exact⟨by omega,by omega⟩
theorem iT {n:Int}(h:i64 n)(t:Nm):bR (some (aG n++t))=(n,some t):=by
 unfold bR Qa;dsimp only;rw[Lc n h.1 h.2 t];dsimp only;rw[qV rfl]
theorem jh {h:Bool}{n lo hi:Int}(k:nT h n lo hi=true)(a: -9223372036854775808≤lo:=by omega)(b:hi≤9223372036854775807:=by omega):i64 n∧(h=false→n=0):=by
 unfold nT at k;cases h
 ·simp only[cond_false,decide_eq_true_eq]at k;subst k;exact⟨⟨by omega,by omega⟩,fun _=>rfl⟩
 ·simp only[cond_true]at k;exact⟨eT k a b,fun h=>by cases h⟩
theorem nH {h:Bool}{n:Int}(k:i64 n∧(h=false→n=0))(t:Nm):y4 h (some (aC h n++t))=(n,some t):=by
 unfold y4 aC;cases h
 ·simp[k.2 rfl]
 ·simp[iT k.1]
theorem IW {a:cO}(h:dF a=true)(t:Nm):oI (some (aG a.s++aG a.i++aG a.g++t))=(a,some t):=by
 unfold dF at h;simp only[eA]at h;obtain⟨b,c,d⟩:=h;unfold oI;simp only[o_,iT (eT b),iT (eT c),iT (eT d)]
theorem CS {a:cO}(h:dF a=true):aO a=aG a.s++aG a.i++aG a.g:=by unfold aO;rw[h];rfl
theorem lU {a:cO}(h:dF a=true)(t:Nm):aF (some (aO a++t))=(a,some t):=by
 unfold aF;rw[CS h,IW h,h];rfl
theorem vD {b:Bd}(h:cE b=true)(h0:b.id=cO.zero)(t:Nm):cR (some (cV b++t))=(b,some t):=by
 unfold cE at h;simp only[eA]at h;obtain⟨a,c,d,f,g,i,j,k⟩:=h;have e:iy b.m (some (aC (hasB b.m 1) b.x++(aC (hasB b.m 1) b.y++(aC (hasB b.m 2) b.vx++(aC (hasB b.m 2) b.vy++(aC (hasB b.m 4) b.hp++(aC (hasB b.m 8) b.pw++(aC (hasB b.m 16) b.lf++t))))))))=(b,some t):=by
  unfold iy;simp only[nH (jh c),nH (jh d),nH (jh f),nH (jh g),nH (jh i),nH (jh j),nH (jh k)];obtain⟨b0,b1,l,_,_,_,_,_,_,_,_⟩:=b;simp only[Bd.id,cO.zero,cO.mk.injEq]at h0;obtain⟨rfl,rfl,rfl⟩:=h0;rfl
 unfold cR cV;simp only[o_,iT (eT a),e,a];rfl
def Bd.bare (b:Bd):Bd:=⟨0,0,0,b.m,b.x,b.y,b.vx,b.vy,b.hp,b.pw,b.lf⟩
theorem B0 {b:Bd}(h:cE b=true)(t:Nm):cR (some (cV b++t))=(b.bare,some t):=vD (b:=b.bare) h rfl t
theorem IX (b:Bd):b.bare.named b.id=b:=rfl
theorem AF {b:Bd}(h:kR b=true):cE b=true∧hasB b.m 1=true∧dF b.id=true:=by
 unfold kR at h
 simpa only[eA]using h
theorem IY {b:Bd}(h:kR b=true)(t:Nm):gX (some (ia b++t))=(b,some t):=by
 obtain⟨a,d,c⟩:=AF h;unfold gX ia;rw[h];simp only[cond_true,o_,lU c,B0 a,IX,h];rfl
theorem IZ {c:Cm}(h:bD c=true)(t:Nm):c8 (some (cQ c++t))=(c,some t):=by
 have a:=h;unfold bD at h;unfold c8 cQ;rw[a];obtain⟨k,s,i,g,b,m⟩:=c;by_cases d:k=1
 ·subst d;simp only[beq_self_eq_true,cond_true,eA,decide_eq_true_eq,u6,Cm.id,cO.zero,cO.mk.injEq]at h;obtain⟨⟨rfl,rfl,rfl⟩,rfl,hb⟩:=h;have e:dY 1 (some (ia b++t))=(⟨1,0,0,0,b,0⟩,some t):=(by unfold dY;simp[IY hb]);simp only[cond_true,beq_self_eq_true,o_,iT (⟨by omega,by omega⟩:i64 1),e,a];rfl
 by_cases f:k=2
 ·subst f;simp only[(by decide:((2:Int)==1)=false),(by decide:((2:Int)==3)=false),(by decide:((2:Int)==4)=false),cond_false,beq_self_eq_true,cond_true,eA,decide_eq_true_eq,AA,Cm.id]at h⊢;obtain⟨hi,rfl,rfl⟩:=h;have e:dY 2 (some (aO ⟨s,i,g⟩++t))=(⟨2,s,i,g,Bd.zero,0⟩,some t):=(by unfold dY;simp[lU hi]);simp only[o_,iT (⟨by omega,by omega⟩:i64 2),e,a];rfl
 by_cases j:k=3
 ·subst j;simp only[(by decide:((3:Int)==1)=false),(by decide:((3:Int)==2)=false),cond_false,beq_self_eq_true,cond_true,eA,decide_eq_true_eq,u6,Cm.id]at h⊢;obtain⟨hi,rfl,o,_,n⟩:=h;have e:dY 3 (some (aO ⟨s,i,g⟩++(cV b++t)))=(⟨3,s,i,g,b,0⟩,some t):=(by unfold dY;simp[lU hi,vD n o]);simp only[o_,iT (⟨by omega,by omega⟩:i64 3),e,a];rfl
 by_cases l:k=4
 ·subst l;simp only[(by decide:((4:Int)==1)=false),(by decide:((4:Int)==2)=false),(by decide:((4:Int)==3)=false),cond_false,beq_self_eq_true,cond_true,eA,AA,Cm.id]at h⊢;obtain⟨hi,rfl,hm⟩:=h;unfold gW at hm;simp only[eA]at hm;have e:dY 4 (some (aO ⟨s,i,g⟩++(aG m++t)))=(⟨4,s,i,g,Bd.zero,m⟩,some t):=(by unfold dY;simp[lU hi,iT (eT hm.1)]);simp only[o_,iT (⟨by omega,by omega⟩:i64 4),e,a];rfl
 ·simp only[beq_eq_false_iff_ne.2 d,beq_eq_false_iff_ne.2 f,beq_eq_false_iff_ne.2 j,beq_eq_false_iff_ne.2 l,cond_false]at h;cases h
theorem CT {α:Type}{take:dx→α×dx}{put:α→Nm}{ok:α→Bool}(h:∀a t,ok a=true→take (some (put a++t))=(a,some t))(t:Nm):∀(l a:List α),l.all ok=true→takeN take l.length a (some (l.flatMap put++t))=(a++l,some t)
 | [],a,_=>by simp[takeN]
 |x::l,a,hl=>by
  rw[List.all_cons,mE]at hl;rw[g_,takeN,wW,eY,h x _ hl.1];simp only[Option.isSome_some,cond_true];rw[CT h t l _ hl.2,eY];rfl
theorem I0 {α:Type}{take:dx→α×dx}{put:α→Nm}{ok:α→Bool}(h:∀a t,ok a=true→take (some (put a++t))=(a,some t))(most:Nat)(l:List α)(hl:l.length≤most)(hm:most≤1048576)(b:l.all ok=true)(t:Nm):jx take most (some (nG put l++t))=(l,some t):=by
 have e:dc most (some (nG put l++t))=((l.length:Int),some (l.flatMap put++t)):=by
  unfold dc nG;rw[eY,iT (⟨by omega,by omega⟩:i64 (l.length:Int))];rw[aJ (by omega:¬(((l.length:Int),(some (l.flatMap put++t):dx)).1<0)),aJ (by dsimp only;omega)];rfl
 unfold jx;rw[e];dsimp only;rw[nW,CT h t l [] b,List.nil_append]
theorem I1 {r:Lr}(h:cH r=true):∃s,eF r=aG r.k++s∧i64 r.k∧fM r.k (some s)=(r,some []):=by
 obtain⟨k,n,s,i,c,ids⟩:=r;unfold cH at h;unfold eF;refine⟨_,rfl,?_⟩;by_cases b:k=1
 ·subst b;simp only[beq_self_eq_true,cond_true,eA,decide_eq_true_eq,fZ,Kx]at h⊢;obtain⟨hn,rfl,rfl,rfl,rfl⟩:=h;have:=iT (eT hn) [];rw[kE]at this;exact⟨⟨by omega,by omega⟩,by unfold fM;simp[this]⟩
 by_cases d:k=2
 ·subst d;simp only[(by decide:((2:Int)==1)=false),beq_self_eq_true,cond_false,cond_true,eA,decide_eq_true_eq,fZ,Kx]at h⊢;obtain⟨rfl,hs,hi,rfl,rfl⟩:=h;have:=iT (eT hi) [];rw[kE]at this;exact⟨⟨by omega,by omega⟩,by unfold fM;simp[iT (eT hs),this]⟩
 by_cases e:k=3
 ·subst e;simp only[(by decide:((3:Int)==1)=false),(by decide:((3:Int)==2)=false),beq_self_eq_true,cond_false,cond_true,eA,decide_eq_true_eq,Kx]at h⊢;obtain⟨rfl,rfl,rfl,hc,rfl⟩:=h;have:=IZ hc [];rw[kE]at this;exact⟨⟨by omega,by omega⟩,by unfold fM;simp[this]⟩
 by_cases f:k=4
 ·subst f;simp only[(by decide:((4:Int)==1)=false),(by decide:((4:Int)==2)=false),(by decide:((4:Int)==3)=false),(by decide:((4:Int)==5)=false),beq_self_eq_true,cond_false,cond_true,eA,decide_eq_true_eq,fZ,Kx]at h⊢;obtain⟨rfl,rfl,rfl,rfl,rfl⟩:=h;exact⟨⟨by omega,by omega⟩,by unfold fM;simp⟩
 by_cases g:k=5
 ·subst g;simp only[(by decide:((5:Int)==1)=false),(by decide:((5:Int)==2)=false),(by decide:((5:Int)==3)=false),(by decide:((5:Int)==4)=false),beq_self_eq_true,cond_false,cond_true,eA,decide_eq_true_eq,fZ]at h⊢;obtain⟨rfl,rfl,rfl,rfl,hl,l⟩:=h;have:=I0 (fun a t j=>lU j t) 1024 ids hl (by omega) l [];rw[kE]at this;exact⟨⟨by omega,by omega⟩,by unfold fM;simp[show jx aF 1024 (some (nG aO ids))=(ids,some [])from this]⟩
 ·simp only[beq_eq_false_iff_ne.2 b,beq_eq_false_iff_ne.2 d,beq_eq_false_iff_ne.2 e,beq_eq_false_iff_ne.2 f,beq_eq_false_iff_ne.2 g,cond_false]at h;cases h
theorem N_ {r:Lr}(h:cH r=true):ij (eF r)=(r,0):=by
 obtain⟨s,a,b,c⟩:=I1 h;unfold ij;rw[a];simp only[iT b,c,h];rfl
structure Ix where
 g:Int
 b:Int
 a:Bool
structure Sh where
 all:List Ix
 free:List Nat
abbrev Pl:=List Sh
def plNew (n ids:Nat):Pl:=List.replicate n ⟨List.replicate ids ⟨0,0,false⟩,List.range ids⟩
def lC (p:Pl)(k:Int):Option Sh:=bif decide (0≤k)&&decide (k<(p.length:Int))then p[k.toNat]? else none
def xD (s:Sh)(i:Int):Option Ix:=bif decide (0≤i)&&decide (i<(s.all.length:Int))then s.all[i.toNat]? else none
def iq (p:Pl)(k i:Int):Option Ix:=match lC p k with
 |some s=>xD s i
 |none=>none
def Sh.put (s:Sh)(i:Nat)(x:Ix):Sh:=⟨s.all.set i x,s.free⟩
def dZ (p:Pl)(k:Nat)(s:Sh):Pl:=p.set k s
def FY (s:Sh):Int×Bool×Int:=match s.free with
 | []=>(0,false,8)
 |i::_=>((i:Int),(match s.all[i]? with|some x=>decide (x.g<x.b)|none=>false),0)
def nI (p:Pl)(k:Int):Int×Bool×Int:=match lC p k with
 |none=>(0,false,1)
 |some s=>FY s
def I3 (p:Pl)(k i:Int):Int:=match iq p k i with
 |some x=>x.g
 |none=>0
def cU (p:Pl)(k i:Int):Int×Pl:=match lC p k with
 |none=>(1,p)
 |some s=>match xD s i with
  |none=>(1,p)
  |some x=>bif decide (x.b=1048576)then(5,p)else(0,dZ p k.toNat (s.put i.toNat ⟨x.g,min (x.b+8) 1048576,x.a⟩))
def oJ (x:Ix)(g:Int):Bool:=x.a&&decide (x.g=g)
def j9 (p:Pl)(a:cO):Bool:=match iq p a.s a.i with
 |none=>false
 |some x=>oJ x a.g
def p7 (s:Sh)(i:Int):Bool:=s.free.any (fun k=>decide ((k:Int)=i))
def p8 (s:Sh)(i:Int):List Nat:=s.free.filter (fun k=>!decide ((k:Int)=i))
def p9 (s:Sh)(x:Ix)(i g:Int):Int×Sh:=
 bif decide (g<0)then(1,s)else
 bif !p7 s i then(14,s)else
 bif decide (g<x.g)||decide (x.b≤g)then(9,s)else
 (0,⟨s.all.set i.toNat ⟨g,x.b,true⟩,p8 s i⟩)
def jK (p:Pl)(a:cO):Int×Pl:=match lC p a.s with
 |none=>(1,p)
 |some s=>match xD s a.i with
  |none=>(1,p)
  |some x=>((p9 s x a.i a.g).1,dZ p a.s.toNat (p9 s x a.i a.g).2)
def AJ (s:Sh)(x:Ix)(i g:Int):Int×Sh:=
 bif decide (g<0)then(1,s)else
 bif !oJ x g then(9,s)else
 (0,⟨s.all.set i.toNat ⟨x.g+1,x.b,false⟩,bif decide (x.g+1<1048576)then s.free++ [i.toNat]else s.free⟩)
def iZ (p:Pl)(a:cO):Int×Pl:=match lC p a.s with
 |none=>(1,p)
 |some s=>match xD s a.i with
  |none=>(1,p)
  |some x=>((AJ s x a.i a.g).1,dZ p a.s.toNat (AJ s x a.i a.g).2)
def nJ (x:Ix):Ix:=bif decide (x.g<x.b)then⟨x.b,x.b,x.a⟩else x
def eu (A:List Ix)(l:List Nat):List Ix:=l.foldl (fun A i=>A.modify i nJ) A
def full (A:List Ix)(i:Nat):Bool:=match A[i]? with|some x=>decide (x.g=1048576)|none=>false
def gI (s:Sh):Sh:=⟨eu s.all s.free,s.free.filter (fun i=>!full (eu s.all s.free) i)⟩
def iF (p:Pl):Pl:=p.map gI
def Ky (k:Nat)(A:List Ix):List cO:=(A.zipIdx).flatMap fun b=>bif b.1.a then [⟨(k:Int),(b.2:Int),b.1.g⟩]else []
def mK (p:Pl):List cO:=(p.zipIdx).flatMap fun a=>Ky a.2 a.1.all
structure Ix.ok (x:Ix):Prop where
 g0:0≤x.g
 g1:x.g≤1048576
 b0:0≤x.b
 b1:x.b≤1048576
 al:x.a=true→x.g<1048576
structure Sh.ok (s:Sh):Prop where
 ix:∀x∈s.all,x.ok
 n0:1≤s.all.length
 n1:s.all.length≤16
 nd:s.free.Nodup
 fr:∀i∈s.free,∃x,s.all[i]?=some x∧x.a=false∧x.g<1048576
def jd (p:Pl):Prop:=p.length≤16∧∀s∈p,s.ok
theorem FZ:∀(n:Nat) (l:List Nat),l.Nodup→(∀i∈l,i<n)→l.length≤n
 |0,l,_,h=>by
  cases l with
  |nil=>exact bM _
  |cons i l=>exact absurd (h i (m_ ..)) (w5 _)
 |n+1,l,hn,h=>by
  have b:=FZ n (l.erase n) (hn.erase n) fun i hi=>by
   have c:=h i (List.mem_of_mem_erase hi);have d:i≠n:=by
    rintro rfl;exact(hn.not_mem_erase) hi
   omega
  have e:=List.length_erase_le (a:=n) (l:=l);by_cases hm:n∈l
  ·have:=List.length_erase_of_mem hm;omega
  ·rw[List.erase_of_not_mem hm]at b;omega
theorem Sh.ok.few {s:Sh}(h:s.ok):s.free.length≤16:=by
 have a:s.free.length≤s.all.length:=by
  refine FZ _ _ h.nd fun i hi=>?_;obtain⟨x,b,_⟩:=h.fr i hi;exact(eC.1 b).1
 exact aU a h.n1
theorem eX {p:Pl}{k:Int}{s:Sh}(h:lC p k=some s):∃n:Nat,k=n∧p[n]?=some s:=by
 unfold lC at h;cases hb:decide (0≤k)&&decide (k<(p.length:Int))with
 |false=>rw[hb]at h;cases h
 |true=>
  rw[hb,bH]at h;simp only[eA,decide_eq_true_eq]at hb;exact⟨k.toNat,by omega,h⟩
theorem LL {p:Pl}{k:Int}(h:lC p k=none):k<0∨(p.length:Int)≤k:=by
 unfold lC at h;cases hb:decide (0≤k)&&decide (k<(p.length:Int))with
 |false=>
  simp only[Kv,decide_eq_false_iff_not]at hb;omega
 |true=>
  rw[hb,bH]at h;simp only[eA,decide_eq_true_eq]at hb;rw[R6]at h;omega
theorem gK {s:Sh}{i:Int}{x:Ix}(h:xD s i=some x):∃n:Nat,i=n∧s.all[n]?=some x:=by
 unfold xD at h;cases hb:decide (0≤i)&&decide (i<(s.all.length:Int))with
 |false=>rw[hb]at h;cases h
 |true=>
  rw[hb,bH]at h;simp only[eA,decide_eq_true_eq]at hb;exact⟨i.toNat,by omega,h⟩
theorem LM {s:Sh}{i:Int}(h:xD s i=none):i<0∨(s.all.length:Int)≤i:=by
 unfold xD at h;cases hb:decide (0≤i)&&decide (i<(s.all.length:Int))with
 |false=>
  simp only[Kv,decide_eq_false_iff_not]at hb;omega
 |true=>
  rw[hb,bH]at h;simp only[eA,decide_eq_true_eq]at hb;rw[R6]at h;omega
theorem AK {p:Pl}{n:Nat}{s:Sh}(h:p[n]?=some s):lC p (n:Int)=some s:=by
 have a:=(eC.1 h).1;unfold lC;rw[show(decide (0≤(n:Int))&&decide ((n:Int)<(p.length:Int)))=true by simp;omega,bH]
 simpa using h
theorem py {s:Sh}{n:Nat}{x:Ix}(h:s.all[n]?=some x):xD s (n:Int)=some x:=by
 have a:=(eC.1 h).1;unfold xD;rw[show(decide (0≤(n:Int))&&decide ((n:Int)<(s.all.length:Int)))=true by simp;omega,bH]
 simpa using h
theorem jd.sh {p:Pl}(h:jd p){n:Nat}{s:Sh}(hs:p[n]?=some s):s.ok:=h.2 s (dL hs)
theorem Sh.ok.at {s:Sh}(h:s.ok){n:Nat}{x:Ix}(a:s.all[n]?=some x):x.ok:=h.ix x (dL a)
theorem jd.put {p:Pl}(h:jd p)(n:Nat){s:Sh}(hs:s.ok):jd (dZ p n s):=by
 refine⟨by rw[dZ,nk];exact h.1,fun t b=>?_⟩;rcases zw b with a|a
 ·exact h.2 t a
 ·rw[a];exact hs
theorem Sh.ok.put {s:Sh}(h:s.ok)(n:Nat){x:Ix}(o:x.ok){y:Ix}(hy:s.all[n]?=some y)(k:x.a=y.a)(l:x.g=y.g):(s.put n x).ok:=by
 have f:=(eC.1 hy).1;refine⟨fun t m=>?_,by simp[Sh.put];exact h.n0,by simp[Sh.put];exact h.n1,h.nd,fun i hi=>?_⟩
 ·rcases zw m with e|e
  ·exact h.ix t e
  ·rw[e];exact o
 ·obtain⟨z,j,c,d⟩:=h.fr i hi;by_cases b:i=n
  ·subst b;refine⟨x,by simp[Sh.put,f],?_⟩;rw[hy]at j;cases j;rw[k,l];exact⟨c,d⟩
  ·exact⟨z,by simp[Sh.put,Ne.symm b];exact j,c,d⟩
theorem AL {n ids:Nat}(hn:n≤16)(h0:1≤ids)(b:ids≤16):jd (plNew n ids):=by
 refine⟨by simp[plNew];exact hn,fun s hs=>?_⟩;rw[plNew,DI]at hs;rw[hs.2];refine⟨fun x a=>?_,by simp;exact h0,by simp;exact b,List.nodup_range,fun i hi=>?_⟩
 ·rw[DI]at a;rw[a.2];exact⟨by simp,by simp,by simp,by simp,fun h=>by cases h⟩
 ·refine⟨⟨0,0,false⟩,?_,rfl,by decide⟩;have:=M7.1 hi;simp[this]
theorem jd.reserve {p:Pl}(h:jd p)(k i:Int):jd (cU p k i).2:=by
 unfold cU
 split
 ·exact h
 ·rename_i s hs
  split
  ·exact h
  ·rename_i x c
   cases hb:decide (x.b=1048576)
   ·obtain⟨n,rfl,hn⟩:=eX hs;obtain⟨m,rfl,hm⟩:=gK c;have a:=(h.sh hn).at hm;exact h.put _ ((h.sh hn).put _ ⟨a.g0,a.g1,by have:=a.b0;simp only;omega,by simp only;omega,a.al⟩ (y:=x) (by simpa using hm) rfl rfl)
   ·exact h
theorem jd.take {p:Pl}(h:jd p)(a:cO):jd (jK p a).2:=by
 unfold jK
 split
 ·exact h
 ·rename_i s hs
  split
  ·exact h
  ·rename_i x u
   obtain⟨n,q,hn⟩:=eX hs;obtain⟨m,o,hm⟩:=gK u;have ok:=h.sh hn;have c:=ok.at hm;refine h.put _ ?_;unfold p9;cases j:decide (a.g<0)
   ·cases w:!p7 s a.i
    ·cases k:decide (a.g<x.g)||decide (x.b≤a.g)
     ·simp only[cond_false];simp only[Bool.or_eq_false_iff,decide_eq_false_iff_not]at k;simp only[decide_eq_false_iff_not]at j;have l:=(eC.1 hm).1;refine⟨fun t r=>?_,by simpa using ok.n0,by simpa using ok.n1,ok.nd.filter _,fun i hi=>?_⟩
      ·rcases zw r with d|d
       ·exact ok.ix t d
       ·rw[d];have:=c.b1;exact⟨by simp only;omega,by simp only;omega,c.b0,c.b1,fun _=>by simp only;omega⟩
      ·simp only[p8,N6,Kw,decide_eq_false_iff_not]at hi;obtain⟨z,v,e,f⟩:=ok.fr i hi.1;refine⟨z,?_,e,f⟩;rw[R7,fC (by omega)];exact v
     ·exact ok
    ·exact ok
   ·exact ok
theorem jd.free {p:Pl}(h:jd p)(a:cO):jd (iZ p a).2:=by
 unfold iZ
 split
 ·exact h
 ·rename_i s hs
  split
  ·exact h
  ·rename_i x E
   obtain⟨n,C,hn⟩:=eX hs;obtain⟨m,B,hm⟩:=gK E;have ok:=h.sh hn;have c:=ok.at hm;refine h.put _ ?_;unfold AJ;cases F:decide (a.g<0)
   ·cases q:!oJ x a.g
    ·simp only[cond_false];simp only[oJ,R5,eA,decide_eq_true_eq]at q;have u:=(eC.1 hm).1;have A:=c.al q.1;have e:a.i.toNat=m:=(by omega);have l:m∉s.free:=fun k=>by
      obtain⟨z,o,d,_⟩:=ok.fr m k;rw[hm]at o;cases o;rw[q.1]at d;cases d
     have f:∀i∈s.free,∃y,(s.all.set a.i.toNat ⟨x.g+1,x.b,false⟩)[i]?=some y∧y.a=false∧y.g<1048576:=fun i hi=>by
      obtain⟨z,o,d,v⟩:=ok.fr i hi;refine⟨z,?_,d,v⟩;rw[R7,fC (by rintro rfl;exact l (e▸hi))];exact o
     refine⟨fun t D=>?_,by simpa using ok.n0,by simpa using ok.n1,?_,?_⟩
     ·rcases zw D with r|r
      ·exact ok.ix t r
      ·rw[r];have:=c.g0;exact⟨by simp only;omega,by simp only;omega,c.b0,c.b1,fun h=>by cases h⟩
     ·cases hc:decide (x.g+1<1048576)
      ·exact ok.nd
      ·simp only[cond_true];rw[List.nodup_append];refine⟨ok.nd,by simp,fun i hi j w=>?_⟩;simp only[ow]at w;rintro rfl;exact l (by rw[←e, ←w];exact hi)
     ·cases hc:decide (x.g+1<1048576)
      ·exact f
      ·simp only[cond_true];intro i hi;rcases fQ.1 hi with hi|hi
       ·exact f i hi
       ·simp only[ow]at hi;subst hi;exact⟨⟨x.g+1,x.b,false⟩,by simp[e,u],rfl,by simpa using hc⟩
    ·exact ok
   ·exact ok
theorem QO {x:Ix}(h:x.ok)(d:x.a=false):(nJ x).ok:=by
 unfold nJ;cases hb:decide (x.g<x.b)
 ·exact h
 ·exact⟨h.b0,h.b1,h.b0,h.b1,fun c=>by simp only[cond_true]at c;rw[d]at c;cases c⟩
theorem Oa (x:Ix):(nJ x).a=x.a:=by
 unfold nJ;cases decide (x.g<x.b)<;>rfl
theorem fN:∀(l:List Nat) (A:List Ix),(eu A l).length=A.length
 | [],_=>rfl
 |i::l,A=>by
  show(eu (A.modify i nJ) l).length=A.length;rw[fN l,R8]
theorem p_:∀(l:List Nat) (A:List Ix) (i:Nat) (x:Ix),A[i]?=some x→∃y,(eu A l)[i]?=some y∧y.a=x.a
 | [],_,_,x,h=>⟨x,h,rfl⟩
 |j::l,A,i,x,h=>by
  by_cases b:j=i
  ·obtain⟨y,hy,c⟩:=p_ l (A.modify j nJ) i (nJ x) (by simp[b,h]);exact⟨y,hy,by rw[c,Oa]⟩
  ·exact p_ l (A.modify j nJ) i x (by simp[b,h])
theorem rM:∀(l:List Nat) (A:List Ix) (i:Nat),l.Nodup→(eu A l)[i]?=A[i]?.map (fun x=>bif decide (i∈l)then nJ x else x)
 | [],A,i,_=>by simp[eu]
 |j::l,A,i,hn=>by
  rw[List.nodup_cons]at hn;show(eu (A.modify j nJ) l)[i]?=_;rw[rM l _ i hn.2,List.getElem?_modify];by_cases a:j=i
  ·subst a;rw[aJ hn.1,aM (m_ ..)];cases A[j]?<;>simp
  ·by_cases hl:i∈l
   ·rw[aM hl,aM (qQ _ hl)];cases A[i]?<;>simp[a]
   ·rw[aJ hl,aJ (by simp[hl,Ne.symm a])];cases A[i]?<;>simp[a]
theorem rN:∀(l:List Nat) (A:List Ix),(∀x∈A,x.ok)→(∀i∈l,∃x,A[i]?=some x∧x.a=false)→∀x∈eu A l,x.ok
 | [],_,h,_=>h
 |j::l,A,h,hl=>by
  refine rN l (A.modify j nJ) (fun x d=>?_) (fun i hi=>?_)
  ·obtain⟨i,hi,rfl⟩:=uL d;rw[R8]at hi;by_cases b:j=i
   ·subst b;obtain⟨y,hy,c⟩:=hl j (m_ ..);rw[R9,dM rfl];have:=(eC.1 hy).2;rw[this];exact QO (h y (dL hy)) c
   ·rw[R9,fC b];exact h _ (dw hi)
  ·obtain⟨y,hy,c⟩:=hl i (qQ _ hi);by_cases b:j=i
   ·exact⟨nJ y,by simp[b,hy],by rw[Oa,c]⟩
   ·exact⟨y,by simp[b,hy],c⟩
theorem Sh.ok.yw {s:Sh}(h:s.ok):(gI s).ok:=by
 refine⟨rN _ _ h.ix (fun i hi=>by obtain⟨x,c,b,_⟩:=h.fr i hi;exact⟨x,c,b⟩),by rw[gI,fN];exact h.n0,by rw[gI,fN];exact h.n1,h.nd.filter _,fun i hi=>?_⟩;simp only[gI,N6]at hi;obtain⟨x,c,b,_⟩:=h.fr i hi.1;obtain⟨y,hy,d⟩:=p_ s.free s.all i x c;refine⟨y,hy,by rw[d,b],?_⟩;have a:=hi.2;unfold full at a;rw[hy]at a;simp only[Kw,decide_eq_false_iff_not]at a;have:=(rN s.free s.all h.ix (fun i hi=>by obtain⟨x,c,b,_⟩:=h.fr i hi;exact⟨x,c,b⟩) y (dL hy)).g1;omega
theorem jd.yw {p:Pl}(h:jd p):jd (iF p):=by
 refine⟨by rw[iF,eE];exact h.1,fun s hs=>?_⟩;obtain⟨t,a,rfl⟩:=jq.1 hs;exact(h.2 t a).yw
structure Sl where
 s:Int
 i:Int
 g:Int
 b:Int
 r:Int
 a:Bool
structure Rq where
 l:List Sl
 put:Int
def AO (k i:Int)(x:Sl):Bool:=decide (x.s=k)&&decide (x.i=i)
def F2 (q:Rq)(k i:Int):Option Nat:=q.l.findIdx? (AO k i)
def rowAt (l:List Sl)(n:Nat):Int:=match l[n]? with|some x=>x.r|none=> -1
def lD (l:List Sl)(k:Int)(m:Option Nat)(x:Sl):Bool:=decide (x.s=k)&&(decide (0≤x.r)&&(match m with|none=>true|some j=>decide (x.r<rowAt l j)))
def dH (l:List Sl)(k:Int):Nat→Option Nat
 |0=>none
 |n+1=>match l[n]? with
  |none=>dH l k n
  |some x=>bif lD l k (dH l k n) x then some n else dH l k n
def AP (l:List Sl)(k:Int):Option Nat:=dH l k l.length
def F3 (q:Rq)(k:Int):Int×Bool×Int:=match F2 q k 0 with
 |none=>(0,false,1)
 |some _=>match AP q.l k with
  |none=>(0,false,8)
  |some n=>match q.l[n]? with
   |none=>(0,false,8)
   |some x=>(x.i,decide (x.g<x.b),0)
def ji (q:Rq)(k i:Int):Option (Nat×Sl):=match F2 q k i with
 |none=>none
 |some n=>match q.l[n]? with
  |none=>none
  |some x=>some (n,x)
def VL (q:Rq)(k i:Int):Int:=match ji q k i with
 |none=>0
 |some (_,x)=>x.g
def Rq.set (q:Rq)(n:Nat)(x:Sl):Rq:=⟨q.l.set n x,q.put⟩
def lV (q:Rq)(k i:Int):Int×Rq:=match ji q k i with
 |none=>(1,q)
 |some (n,x)=>bif decide (1048576≤x.b)then(5,q)else(0,q.set n ⟨x.s,x.i,x.g,bif decide (1048576<x.b+8)then 1048576 else x.b+8,x.r,x.a⟩)
def yx (q:Rq)(a:cO):Int×Rq:=match ji q a.s a.i with
 |none=>(1,q)
 |some (n,x)=>
  bif decide (a.g<0)then(1,q)else
  bif decide (x.r<0)then(14,q)else
  bif decide (a.g<x.g)||decide (x.b≤a.g)then(9,q)else
  (0,q.set n ⟨x.s,x.i,a.g,x.b, -1,true⟩)
def qa (q:Rq)(a:cO):Bool:=match ji q a.s a.i with
 |none=>false
 |some (_,x)=>x.a&&decide (x.g=a.g)
def yA (q:Rq)(a:cO):Int×Rq:=match ji q a.s a.i with
 |none=>(1,q)
 |some (n,x)=>
  bif decide (a.g<0)then(1,q)else
  bif !qa q a then(9,q)else
  bif decide (x.g+1<1048576)then(0,⟨q.l.set n ⟨x.s,x.i,x.g+1,x.b,q.put,false⟩,q.put+1⟩)else(0,q.set n ⟨x.s,x.i,x.g+1,x.b,x.r,false⟩)
def mP (x:Sl):Sl:=bif decide (x.r<0)||decide (x.b≤x.g)then x else⟨x.s,x.i,x.b,x.b,bif decide (x.b=1048576)then -1 else x.r,x.a⟩
def oK (q:Rq):Rq:=⟨q.l.map mP,q.put⟩
def Ob (q:Rq):List cO:=q.l.flatMap fun x=>bif x.a then [⟨x.s,x.i,x.g⟩]else []
structure qc (n:Nat)(p:Pl)(q:Rq):Prop where
 n0:1≤n
 uni:∀s∈p,s.all.length=n
 len:q.l.length=p.length*n
 spot:∀(k i:Nat) (s:Sh) (x:Ix),p[k]?=some s→s.all[i]?=some x→∃r,q.l[k*n+i]?=some ⟨k,i,x.g,x.b,r,x.a⟩∧(0≤r↔i∈s.free)∧r<q.put
 ord:∀(k:Nat) (s:Sh),p[k]?=some s→s.free.Pairwise fun i j=>rowAt q.l (k*n+i)<rowAt q.l (k*n+j)
 put:0≤q.put
theorem qf (l:List Sl)(k:Int):∀n:Nat,dH l k n=none→∀j x,j<n→l[j]?=some x→x.s=k→¬0≤x.r
 |0,_,j,_,d=>absurd d (w5 _)
 |n+1,h,j,x,d=>by
  intro b hs c;unfold dH at h;cases hn:l[n]? with
  |none=>
   rw[hn]at h;have a:j≠n:=(by rintro rfl;rw[b]at hn;cases hn);exact qf l k n h j x (by omega) b hs c
  |some y=>
   rw[hn]at h;simp only at h;cases hb:lD l k (dH l k n) y with
   |true=>rw[hb]at h;cases h
   |false=>
    rw[hb,aN]at h;by_cases a:j=n
    ·subst a;rw[b]at hn;cases hn;rw[h]at hb;simp[lD,hs,c]at hb
    ·exact qf l k n h j x (by omega) b hs c
theorem kJ (l:List Sl)(k:Int):∀(n m:Nat),dH l k n=some m→m<n∧∃x,l[m]?=some x∧x.s=k∧0≤x.r∧∀j y,j<n→l[j]?=some y→y.s=k→0≤y.r→x.r≤y.r
 |0,m,h=>by cases h
 |n+1,m,h=>by
  unfold dH at h;cases hn:l[n]? with
  |none=>
   rw[hn]at h;obtain⟨i,x,e,hs,f,a⟩:=kJ l k n m h;refine⟨by omega,x,e,hs,f,fun j y g hy=>?_⟩;have d:j≠n:=(by rintro rfl;rw[hy]at hn;cases hn);exact a j y (by omega) hy
  |some z=>
   rw[hn]at h;simp only at h;cases hb:lD l k (dH l k n) z with
   |true=>
    rw[hb,bH]at h;cases h;unfold lD at hb;simp only[eA,decide_eq_true_eq]at hb;obtain⟨hs,f,hm⟩:=hb;refine⟨by omega,z,hn,hs,f,fun j y g hy c b=>?_⟩;by_cases d:j=n
    ·subst d;rw[hy]at hn;cases hn;exact mH _
    ·cases hf:dH l k n with
     |none=>exact absurd b (qf l k n hf j y (by omega) hy c)
     |some o=>
      rw[hf]at hm;obtain⟨_,x,e,_,_,a⟩:=kJ l k n o hf;have p:=a j y (by omega) hy c b;simp only[decide_eq_true_eq,rowAt,e]at hm;omega
   |false=>
    rw[hb,aN]at h;obtain⟨i,x,e,hs,f,a⟩:=kJ l k n m h;refine⟨by omega,x,e,hs,f,fun j y g hy c b=>?_⟩;by_cases d:j=n
    ·subst d;rw[hy]at hn;cases hn;rw[h]at hb;simp only[lD,c,b,decide_true,Bool.true_and,rowAt,e,decide_eq_false_iff_not]at hb;omega
    ·exact a j y (by omega) hy c b
section
variable {n:Nat}{p:Pl}{q:Rq}
theorem qc.ix {h:qc n p q}{k:Nat}{s:Sh}(hs:p[k]?=some s)(i:Nat)(hi:i<n):∃x,s.all[i]?=some x:=by
 have:=h.uni s (dL hs);exact⟨s.all[i]'(by omega),fw _⟩
theorem qc.back (h:qc n p q){m:Nat}{y:Sl}(hm:q.l[m]?=some y):∃(k i:Nat) (s:Sh) (x:Ix),m=k*n+i∧i<n∧p[k]?=some s∧s.all[i]?=some x∧∃r,y=⟨k,i,x.g,x.b,r,x.a⟩∧(0≤r↔i∈s.free)∧r<q.put:=by
 have c:=(eC.1 hm).1;have hn:=h.n0;have e:m=(m/n)*n+m%n:=(by rw[mG];exact(Nat.div_add_mod m n).symm);have hi:m%n<n:=Nat.mod_lt _ hn;have t:m/n<p.length:=by
  rw[h.len]at c;exact(sU hn).2 c
 have hs:p[m/n]?=some p[m/n]:=fw t;obtain⟨x,f⟩:=qc.ix (h:=h) hs (m%n) hi;obtain⟨r,d,j,o⟩:=h.spot _ _ _ _ hs f;rw[←e,hm]at d;cases d;exact⟨m/n,m%n,_,x,e,hi,hs,f,r,rfl,j,o⟩
theorem F4 {n k i j m:Nat}(hi:i<n)(d:j<n)(h:k*n+i=m*n+j):k=m∧i=j:=by
 have a:k=m:=by
  have b:(k*n+i)/n=k:=(by rw[mG,N7 (by omega),N8 hi,oG]);have c:(m*n+j)/n=m:=(by rw[mG,N7 (by omega),N8 d,oG]);rw[←b,h,c]
 subst a;exact⟨rfl,by omega⟩
theorem qc.D_ (h:qc n p q){k i:Nat}{s:Sh}{x:Ix}(hs:p[k]?=some s)(b:s.all[i]?=some x):F2 q k i=some (k*n+i):=by
 obtain⟨r,f,_,_⟩:=h.spot k i s x hs b;have hi:i<n:=by
  have:=h.uni s (dL hs);have:=(eC.1 b).1;omega
 unfold F2;rw[E0];obtain⟨a,he⟩:=eC.1 f;refine⟨a,by rw[he];simp[AO],fun j o=>?_⟩;obtain⟨k',t,u,x',e,c,g,m,r',hy,_⟩:=h.back (fw (by omega:j<q.l.length));rw[hy];simp only[AO,Bool.not_eq_true,Kv,decide_eq_false_iff_not];by_cases d:k'=k
 ·right;subst d;omega
 ·left;omega
theorem qc.S5 (h:qc n p q){k i:Int}(a:iq p k i=none):F2 q k i=none:=by
 unfold F2;rw[Dz];intro y hy;obtain⟨m,hm,rfl⟩:=uL hy;obtain⟨k',j,l,x',e,g,b,c,r',d,_⟩:=h.back (fw hm);rw[d];simp only[AO,Kv,decide_eq_false_iff_not];by_cases f:(k':Int)=k
 ·right;rintro rfl;subst f;unfold iq at a;rw[AK b]at a;simp only[py c]at a;cases a
 ·exact .inl f
theorem qc.qg (h:qc n p q){k i:Int}(a:iq p k i=none):ji q k i=none:=by
 unfold ji;rw[h.S5 a]
theorem qc.vE (h:qc n p q){k i:Nat}{s:Sh}{x:Ix}(hs:p[k]?=some s)(c:s.all[i]?=some x):∃r,ji q k i=some (k*n+i,⟨k,i,x.g,x.b,r,x.a⟩)∧(0≤r↔i∈s.free)∧r<q.put:=by
 obtain⟨r,f,d,e⟩:=h.spot k i s x hs c;exact⟨r,by unfold ji;rw[h.D_ hs c];simp only[f],d,e⟩
theorem LN {p:Pl}{k i:Int}{x:Ix}(h:iq p k i=some x):∃(a b:Nat) (s:Sh),k=a∧i=b∧p[a]?=some s∧s.all[b]?=some x:=by
 unfold iq at h;cases hs:lC p k with
 |none=>rw[hs]at h;cases h
 |some s=>
  rw[hs]at h;obtain⟨a,rfl,c⟩:=eX hs;obtain⟨b,rfl,hb⟩:=gK h;exact⟨a,b,s,rfl,rfl,c,hb⟩
theorem qc.alive (h:qc n p q)(a:cO):qa q a=j9 p a:=by
 unfold qa j9;cases b:iq p a.s a.i with
 |none=>rw[h.qg b]
 |some x=>
  obtain⟨k,i,s,c,hi,hs,hb⟩:=LN b;obtain⟨r,d,_⟩:=h.vE hs hb;rw[c,hi,d];rfl
theorem sF (l:List Sl)(m:Nat)(y:Sl)(hm:m<l.length)(j:Nat):rowAt (l.set m y) j=bif decide (j=m)then y.r else rowAt l j:=by
 unfold rowAt;by_cases h:j=m
 ·subst h;rw[mD hm,aM rfl,bH]
 ·rw[qC (Ne.symm h),aJ h,aN]
theorem qc.turn (h:qc n p q)(ok:jd p){k i:Nat}{s:Sh}{x:Ix}(hs:p[k]?=some s)(N:s.all[i]?=some x)(x':Ix)(r':Int)(F':List Nat)(u:Int)(M:q.put≤u)(H:r'<u)
 (Q:∀j,j≠i→(j∈F'↔j∈s.free)) (hi:0≤r'↔i∈F') (F:F'.Pairwise fun a b=>(bif decide (a=i)then r' else rowAt q.l (k*n+a))<(bif decide (b=i)then r' else rowAt q.l (k*n+b))):
 qc n (dZ p k ⟨s.all.set i x',F'⟩) ⟨q.l.set (k*n+i) ⟨k,i,x'.g,x'.b,r',x'.a⟩,u⟩:=by
 have D:=(eC.1 hs).1;have G:=(eC.1 N).1;have I:=h.uni s (dL hs);have C:i<n:=(by omega);obtain⟨r,R,_,_⟩:=h.spot k i s x hs N;have hm:=(eC.1 R).1;refine⟨h.n0,fun t S=>?_,by rw[nk,dZ,nk];exact h.len,fun B i2 s2 O d f=>?_,fun B s2 d=>?_,by have:=h.put;simp only;omega⟩
 ·rcases zw S with v|v
  ·exact h.uni t v
  ·rw[v];simpa using I
 ·by_cases z:k=B
  ·subst z;rw[dZ,mD D]at d;cases d;by_cases o:i=i2
   ·subst o;rw[mD G]at f;cases f;exact⟨r',mD hm,hi,H⟩
   ·simp only[List.getElem?_set_ne o]at f;obtain⟨r2,A,v,P⟩:=h.spot k i2 s O hs f;refine⟨r2,by simp only;rw[qC (by omega)];exact A,?_,by simp only;omega⟩;rw[v,Q i2 (Ne.symm o)]
  ·rw[dZ,qC z]at d;obtain⟨r2,A,v,P⟩:=h.spot B i2 s2 O d f;have o:i2<n:=by
    have:=h.uni s2 (dL d);have:=(eC.1 f).1;omega
   refine⟨r2,?_,v,by simp only;omega⟩;simp only;rw[qC (fun e=>z (F4 C o e).1)];exact A
 ·by_cases z:k=B
  ·subst z;rw[dZ,mD D]at d;cases d;refine F.imp ?_;intro a b w;simp only;rw[sF _ _ _ hm,sF _ _ _ hm,zJ.2 (Sb (n:=k*n) (m:=a) (k:=i)),zJ.2 (Sb (n:=k*n) (m:=b) (k:=i))];exact w
  ·rw[dZ,qC z]at d;have L:=h.ord B s2 d;rw[E1]at L⊢;intro a b K hb w;have E:∀c (hc:c<s2.free.length),¬B*n+s2.free[c]=k*n+i:=fun c hc e=>by
    obtain⟨y,hy,_,_⟩:=(ok.sh d).fr _ (dw hc);have J:=(eC.1 hy).1;rw[h.uni s2 (dL d)]at J;exact z (F4 C J e.symm).1
   simp only;rw[sF _ _ _ hm,sF _ _ _ hm,aJ (E a K),aJ (E b hb)];exact L a b K hb w
theorem CU {a b i:Nat}{r:Int}{f:Nat→Int}(c:a≠i)(hb:b≠i)(h:f a<f b):(bif decide (a=i)then r else f a)<(bif decide (b=i)then r else f b):=by
 rw[aJ c,aJ hb];exact h
theorem qc.Oc (h:qc n p q){k i:Nat}{s:Sh}(hs:p[k]?=some s){r:Int}(f:rowAt q.l (k*n+i)=r):s.free.Pairwise fun a b=>(bif decide (a=i)then r else rowAt q.l (k*n+a))<(bif decide (b=i)then r else rowAt q.l (k*n+b)):=by
 refine(h.ord k s hs).imp ?_;intro a b d;have e:∀c:Nat,(bif decide (c=i)then r else rowAt q.l (k*n+c))=rowAt q.l (k*n+c):=fun c=>by
  by_cases hc:c=i
  ·rw[aM hc,bH,hc,f]
  ·rw[aJ hc,aN]
 rw[e,e];exact d
theorem qc.QR (h:qc n p q){k i:Nat}{s:Sh}(hs:p[k]?=some s)(hi:i∉s.free){r:Int} :s.free.Pairwise fun a b=>(bif decide (a=i)then r else rowAt q.l (k*n+a))<(bif decide (b=i)then r else rowAt q.l (k*n+b)):=by
 have j:=h.ord k s hs;rw[E1]at j⊢;intro a b g hb d;exact CU (f:=fun c=>rowAt q.l (k*n+c)) (fun e=>hi (e▸dw g)) (fun e=>hi (e▸dw hb)) (j a b g hb d)
theorem F5 (h:qc n p q)(ok:jd p)(k i:Int):(lV q k i).1=(cU p k i).1∧qc n (cU p k i).2 (lV q k i).2:=by
 unfold lV cU;cases hs:lC p k with
 |none=>
  have d:iq p k i=none:=(by unfold iq;rw[hs]);rw[h.qg d];exact⟨rfl,h⟩
 |some s=>
  cases d:xD s i with
  |none=>
   have o:iq p k i=none:=(by unfold iq;rw[hs];exact d);rw[h.qg o];simp only[d];exact⟨trivial,h⟩
  |some x=>
   obtain⟨a,rfl,c⟩:=eX hs;obtain⟨b,rfl,hb⟩:=gK d;obtain⟨r,j,t,u⟩:=h.vE c hb;obtain⟨r',l,_,_⟩:=h.spot a b s x c hb;have m:r'=r:=by
    unfold ji at j;rw[h.D_ c hb]at j;simp only[l]at j;cases j;rfl
   subst m;rw[j];simp only[d];have w:=((ok.sh c).at hb).b1;have v:=((ok.sh c).at hb).b0;by_cases f:x.b=1048576
   ·rw[aM f,aM (by omega:(1048576:Int)≤x.b)];exact⟨rfl,h⟩
   ·rw[aJ f,aJ (by omega:¬(1048576:Int)≤x.b)];refine⟨rfl,?_⟩;have e:(bif decide (1048576<x.b+8)then 1048576 else x.b+8)=min (x.b+8) 1048576:=by
     by_cases hc:1048576<x.b+8
     ·rw[aM hc,bH];omega
     ·rw[aJ hc,aN];omega
    rw[aN,aN,e];exact h.turn ok c hb ⟨x.g,min (x.b+8) 1048576,x.a⟩ r' s.free q.put (mH _) u (fun _ _=>Iff.rfl) t (h.Oc c (by unfold rowAt;rw[l]))
theorem Kz (h:qc n p q){k i:Nat}{s:Sh}{x:Ix}(hs:p[k]?=some s)(e:s.all[i]?=some x){m:Nat}{y:Sl}(d:ji q k i=some (m,y)):m=k*n+i∧rowAt q.l (k*n+i)=y.r∧y=⟨k,i,x.g,x.b,y.r,x.a⟩∧(0≤y.r↔i∈s.free)∧y.r<q.put:=by
 obtain⟨r',c,f,j⟩:=h.spot k i s x hs e;unfold ji at d;rw[h.D_ hs e]at d;simp only[c,Option.some.injEq,Prod.mk.injEq]at d;obtain⟨rfl,rfl⟩:=d;exact⟨rfl,by unfold rowAt;rw[c],rfl,f,j⟩
theorem nK {p:Pl}{k:Nat}{s:Sh}(hs:p[k]?=some s):dZ p k s=p:=by
 obtain⟨a,rfl⟩:=eC.1 hs;unfold dZ;simp
theorem F6 (s:Sh)(i:Nat):p7 s (i:Int)=decide (i∈s.free):=by
 unfold p7;rw[oT];simp only[List.any_eq_true,decide_eq_true_eq];constructor
 ·rintro⟨k,a,e⟩;have:k=i:=(by omega);exact this▸a
 ·exact fun h=>⟨i,h,rfl⟩
theorem Od (h:qc n p q)(ok:jd p)(a:cO):(yx q a).1=(jK p a).1∧qc n (jK p a).2 (yx q a).2:=by
 unfold yx jK;cases hs:lC p a.s with
 |none=>
  have e:iq p a.s a.i=none:=(by unfold iq;rw[hs]);rw[h.qg e];exact⟨rfl,h⟩
 |some s=>
  cases e:xD s a.i with
  |none=>
   have o:iq p a.s a.i=none:=(by unfold iq;rw[hs];exact e);rw[h.qg o];simp only[e];exact⟨trivial,h⟩
  |some x=>
   obtain⟨k,z,d⟩:=eX hs;obtain⟨i,hi,hb⟩:=gK e;obtain⟨r,v,_⟩:=h.vE d hb;obtain⟨_,m,hy,u,w⟩:=Kz h d hb v;simp only at m u w;simp only[z,hi,v,py hb];unfold p9;simp only[FX,F6];cases c1:decide (a.g<0)
   ·simp only[cond_false];have e2:decide (r<0)=!decide (i∈s.free):=by
     rw[←decide_not,zJ, ←u];omega
    rw[e2];cases c2:!decide (i∈s.free)
    ·simp only[cond_false];cases c3:decide (a.g<x.g)||decide (x.b≤a.g)
     ·simp only[cond_false];refine⟨trivial,?_⟩;refine h.turn ok d hb ⟨a.g,x.b,true⟩ (-1) (p8 s i) q.put (mH _) (by have:=h.put;omega) (fun j A=>?_) ?_ ?_
      ·unfold p8;simp only[N6,Kw,decide_eq_false_iff_not];constructor
       ·exact fun h=>h.1
       ·exact fun h=>⟨h,by omega⟩
      ·unfold p8;simp
      ·unfold p8;rw[List.pairwise_filter];refine(h.ord k s d).imp ?_;intro x y t e hy;simp only[Kw,decide_eq_false_iff_not]at e hy;exact CU (f:=fun c=>rowAt q.l (k*n+c)) (by omega) (by omega) t
     ·simp only[cond_true];exact⟨trivial,by rw[nK d];exact h⟩
    ·simp only[cond_true];exact⟨trivial,by rw[nK d];exact h⟩
   ·simp only[cond_true];exact⟨trivial,by rw[nK d];exact h⟩
theorem Oe (h:qc n p q)(ok:jd p)(a:cO):(yA q a).1=(iZ p a).1∧qc n (iZ p a).2 (yA q a).2:=by
 have f:=h.alive a;unfold yA iZ;cases hs:lC p a.s with
 |none=>
  have o:iq p a.s a.i=none:=(by unfold iq;rw[hs]);rw[h.qg o];exact⟨rfl,h⟩
 |some s=>
  cases o:xD s a.i with
  |none=>
   have m:iq p a.s a.i=none:=(by unfold iq;rw[hs];exact o);rw[h.qg m];simp only[o];exact⟨trivial,h⟩
  |some x=>
   have m:iq p a.s a.i=some x:=(by unfold iq;rw[hs];exact o);unfold j9 at f;rw[m]at f;simp only at f;obtain⟨k,G,e⟩:=eX hs;obtain⟨i,hi,hb⟩:=gK o;obtain⟨r,D,_⟩:=h.vE e hb;obtain⟨_,l,hy,B,C⟩:=Kz h e hb D;simp only at l B C;rw[f];simp only[G,hi,D,py hb];unfold AJ;simp only[FX];cases c1:decide (a.g<0)
   ·simp only[cond_false];cases c2:!oJ x a.g
    ·simp only[cond_false];simp only[oJ,R5,eA,decide_eq_true_eq]at c2;have u:i∉s.free:=fun t=>by
      obtain⟨z,w,v,_⟩:=(ok.sh e).fr i t;rw[hb]at w;cases w;rw[c2.1]at v;cases v
     cases c3:decide (x.g+1<1048576)
     ·simp only[cond_false];exact⟨trivial,h.turn ok e hb ⟨x.g+1,x.b,false⟩ r s.free q.put (mH _) C (fun _ _=>Iff.rfl) B (h.Oc e l)⟩
     ·simp only[cond_true];refine⟨trivial,?_⟩;refine h.turn ok e hb ⟨x.g+1,x.b,false⟩ q.put (s.free++ [i]) (q.put+1) (by omega) (by omega) (fun j F=>?_) ?_ ?_
      ·simp[F]
      ·have:=h.put;simp;omega
      ·rw[nV];refine⟨h.QR e u,by simp,fun c hc d hd=>?_⟩;simp only[ow]at hd;subst hd;have y:c≠d:=(by rintro rfl;exact u hc);rw[aJ y,aM rfl,aN,bH];obtain⟨z,w,_,_⟩:=(ok.sh e).fr c hc;obtain⟨H,A,_,E⟩:=h.spot k c s z e w;unfold rowAt;rw[A];exact E
    ·simp only[cond_true];exact⟨trivial,by rw[nK e];exact h⟩
   ·simp only[cond_true];exact⟨trivial,by rw[nK e];exact h⟩
theorem LP (h:qc n p q)(ok:jd p):qc n (iF p) (oK q):=by
 have key:∀(k i:Nat) (s:Sh) (x:Ix) (r:Int),p[k]?=some s→s.all[i]?=some x→(0≤r↔i∈s.free)→
  ∃(x':Ix) (r':Int),(gI s).all[i]?=some x'∧mP ⟨k,i,x.g,x.b,r,x.a⟩=⟨k,i,x'.g,x'.b,r',x'.a⟩∧(0≤r'↔i∈(gI s).free)∧(r'=r∨r'= -1)∧(i∈(gI s).free→r'=r):=by
  intro k i s x r hs u A;have F:=ok.sh hs;have d:=rM s.free s.all i F.nd;rw[u]at d;have c:i∈(gI s).free↔i∈s.free∧full (eu s.all s.free) i=false:=by
   simp[gI]
  by_cases hi:i∈s.free
  ·rw[aM hi]at d;have m:=A.2 hi;obtain⟨y,hy,_,P⟩:=F.fr i hi;rw[u]at hy;cases hy;simp only[N9,cond_true]at d;have w:full (eu s.all s.free) i=decide ((nJ x).g=1048576):=(by unfold full;rw[d]);rw[w]at c;by_cases B:x.g<x.b
   ·have hu:nJ x=⟨x.b,x.b,x.a⟩:=(by unfold nJ;rw[aM B];rfl);rw[hu]at d c;have f:mP ⟨k,i,x.g,x.b,r,x.a⟩=⟨k,i,x.b,x.b,bif decide (x.b=1048576)then -1 else r,x.a⟩:=by
     unfold mP;simp only;rw[aJ (by omega:¬r<0),aJ (by omega:¬x.b≤x.g)];rfl
    by_cases hm:x.b=1048576
    ·rw[aM hm]at c f;refine⟨_, -1,d,f,?_,.inr rfl,fun h=>?_⟩
     ·rw[c];simp
     ·rw[c]at h;simp at h
    ·rw[aJ hm]at c f;refine⟨_,r,d,f,?_,.inl rfl,fun _=>rfl⟩;rw[c];simp[hi,m]
   ·have hu:nJ x=x:=(by unfold nJ;rw[aJ B];rfl);rw[hu]at d c;rw[aJ (by omega:¬x.g=1048576)]at c;have f:mP ⟨k,i,x.g,x.b,r,x.a⟩=⟨k,i,x.g,x.b,r,x.a⟩:=by
     unfold mP;simp only;rw[aM (by omega:x.b≤x.g),Bool.or_true];rfl
    refine⟨x,r,d,f,?_,.inl rfl,fun _=>rfl⟩;rw[c];simp[hi,m]
  ·rw[aJ hi]at d;simp only[N9,cond_false]at d;have m:r<0:=by
    have:¬0≤r:=fun h=>hi (A.1 h);omega
   have f:mP ⟨k,i,x.g,x.b,r,x.a⟩=⟨k,i,x.g,x.b,r,x.a⟩:=by
    unfold mP;simp only;rw[aM m];rfl
   refine⟨x,r,d,f,?_,.inl rfl,fun _=>rfl⟩;rw[c];constructor
   ·intro h;omega
   ·exact fun h=>absurd h.1 hi
 have o:∀(k:Nat) (v:Sh),(iF p)[k]?=some v→∃s,p[k]?=some s∧v=gI s:=fun k v e=>by
  unfold iF at e;rw[oR]at e;cases hs:p[k]? with
  |none=>rw[hs]at e;cases e
  |some s=>rw[hs]at e;cases e;exact⟨s,rfl,rfl⟩
 refine⟨h.n0,fun v e=>?_,by simp[oK,iF,h.len],fun k i v x' e z=>?_,fun k v e=>?_,h.put⟩
 ·obtain⟨s,hs,rfl⟩:=jq.1 e;rw[gI,fN];exact h.uni s hs
 ·obtain⟨s,hs,rfl⟩:=o k v e;have C:=(eC.1 z).1;simp only[gI,fN]at C;have u:s.all[i]?=some s.all[i]:=fw C;obtain⟨r,A,H,M⟩:=h.spot k i s _ hs u;obtain⟨Q,r',E,f,K,G,_⟩:=key k i s _ r hs u H;rw[E]at z;cases z;refine⟨r',?_,K,?_⟩
  ·simp only[oK];rw[oR,A,sV,f]
  ·have:=h.put;simp only[oK];rcases G with G|G<;>omega
 ·obtain⟨s,hs,rfl⟩:=o k v e;have O:=h.ord k s hs;have t:∀i,i∈(gI s).free→rowAt (oK q).l (k*n+i)=rowAt q.l (k*n+i):=fun i hi=>by
   have J:i∈s.free:=(wZ.1 hi).1;obtain⟨x,u,_,_⟩:=(ok.sh hs).fr i J;obtain⟨r,A,H,M⟩:=h.spot k i s x hs u;obtain⟨Q,r',E,f,K,G,N⟩:=key k i s x r hs u H;unfold rowAt;simp only[oK];rw[oR,A,sV,f];exact N hi
  have D:(gI s).free.Pairwise fun i j=>rowAt q.l (k*n+i)<rowAt q.l (k*n+j):=O.filter _;rw[E1]at D⊢;intro a b L hb I;rw[t _ (dw L),t _ (dw hb)];exact D a b L hb I
def rO (x:Sl):List cO:=bif x.a then [⟨x.s,x.i,x.g⟩]else []
theorem AQ (h:qc n p q){k:Nat}{s:Sh}(hs:p[k]?=some s):∀m,m≤n→((q.l.drop (k*n)).take m).flatMap rO=(s.all.zipIdx.take m).flatMap fun b=>bif b.1.a then [⟨(k:Int),(b.2:Int),b.1.g⟩]else []
 |0,_=>by simp
 |m+1,hm=>by
  have ih:=AQ h hs m (by omega);obtain⟨x,c⟩:=qc.ix (h:=h) hs m (by omega);obtain⟨r,d,_,_⟩:=h.spot k m s x hs c;rw[tT,tT,qT,qT,ih,zy,d,zE,c];congr 1;simp[rO]
theorem Og (h:qc n p q):Ob q=mK p:=by
 have key:∀m,m≤p.length→(q.l.take (m*n)).flatMap rO=(p.zipIdx.take m).flatMap fun a=>Ky a.2 a.1.all:=by
  intro m;induction m with
  |zero=>intro _;simp
  |succ m ih=>
   intro hm;have hs:p[m]?=some p[m]:=fw (by omega);have b:=h.uni _ (dL hs);rw[tT,qT, ←ih (by omega),nu,List.take_add,qT,AQ h hs n (bM _),zE,hs];congr 1;simp only[N9,Option.toList_some,List.flatMap_cons,List.flatMap_nil,List.append_nil,Nat.zero_add];unfold Ky;rw[fA (by rw[DJ];omega)]
 have:=key p.length (bM _);rw[fA (by rw[h.len];exact bM _),fA (by rw[DJ];exact bM _)]at this;exact this
end
def rNew (n ids:Nat):Rq:=⟨(List.range (n*ids)).map fun m=>⟨(m/ids:Nat),(m%ids:Nat),0,0,m,false⟩,(n*ids:Nat)⟩
theorem QT (n ids:Nat)(h0:1≤ids):qc ids (plNew n ids) (rNew n ids):=by
 have hdiv:∀k i,i<ids→(k*ids+i)/ids=k∧(k*ids+i)%ids=i:=fun k i hi=>by
  constructor
  ·rw[mG,N7 (by omega),N8 hi,oG]
  ·rw[mG,Nat.mul_add_mod,Nat.mod_eq_of_lt hi]
 have e:∀k i,k<n→i<ids→k*ids+i<n*ids:=fun k i c hi=>by
  have:(k+1)*ids≤n*ids:=mY _ c;rw[nu]at this;omega
 have d:∀k i,k<n→i<ids→(rNew n ids).l[k*ids+i]?=some ⟨k,i,0,0,(k*ids+i:Nat),false⟩:=fun k i c hi=>by
  obtain⟨j,m⟩:=hdiv k i hi;simp only[rNew];rw[oR,List.getElem?_range (e k i c hi),sV,j,m]
 have f:∀(k:Nat) (s:Sh),(plNew n ids)[k]?=some s→k<n∧s=⟨List.replicate ids ⟨0,0,false⟩,List.range ids⟩:=fun k s hs=>by
  have c:=(eC.1 hs).1;simp only[plNew,R_]at c;refine⟨c,?_⟩;simp only[plNew]at hs;rw[Ia c]at hs;cases hs;rfl
 refine⟨h0,fun s hs=>?_,by simp[rNew,plNew],fun k i s x hs g=>?_,fun k s hs=>?_,by simp only[rNew];omega⟩
 ·rw[plNew,DI]at hs;rw[hs.2];simp
 ·obtain⟨c,rfl⟩:=f k s hs;have hi:=(eC.1 g).1;simp only[R_]at hi;simp only at g;rw[Ia hi]at g;cases g;refine⟨_,d k i c hi,?_,?_⟩
  ·have o:(0:Int)≤((k*ids+i:Nat):Int):=Int.natCast_nonneg _;simp only[M7,hi,o]
  ·simp only[rNew];have:=e k i c hi;omega
 ·obtain⟨c,rfl⟩:=f k s hs;rw[E1];intro a b h hb p;simp only[List.length_range]at h hb;simp only[List.getElem_range];unfold rowAt;rw[d k a c h,d k b c hb];simp only;omega
end
section
open Go.Proofs.Tryz
open Go.RowKit Go.Joins
theorem Ea (w:World)(e:TypeId)(s:ByteArray):ah No w (Lib.bytesWorld w e s):=
 have h:=below_bytesWorld w.heap.size w e s (bM _)
 ⟨h.os,h.tape,h.output,h.size,fun k a _=>h.block k a⟩
theorem KA {s:ByteArray}{x:UInt8}{t:Nm}(he:s.data.toList=x::t)(hp:0<s.size):s[0]=x:=by
 have a:s.data.toList[0]'(by rw[he];simp)=x:=(by simp[he]);have b:s.data[0]=x:=(by simpa using a);exact b
theorem Oh {s:ByteArray}{x y:UInt8}{t:Nm}(he:s.data.toList=x::y::t)(hp:1<s.size):s[1]=y:=by
 have a:s.data.toList[1]'(by rw[he];simp)=y:=(by simp[he]);have b:s.data[1]=y:=(by simpa using a);exact b
theorem LQ:∀x:Fin 256,bits .and .u8 (x.1:Int) 127=((x.1%128:Nat):Int):=by decide+kernel
theorem u8_and (x:Nat)(h:x<256):bits .and .u8 (x:Int) 127=((x%128:Nat):Int):=LQ ⟨x,h⟩
def I4 (l:Nm):Int:=l.foldl (fun n x=>bits .or .i64 (IntKind.i64.wrap (n*256)) (x.toNat:Int)) 0
theorem CV (l:Nm)(x:UInt8):I4 (l++ [x])=bits .or .i64 (IntKind.i64.wrap (I4 l*256)) (x.toNat:Int):=by simp[I4]
theorem I5 (n:Int):(BitVec.ofInt 64 (IntKind.i64.wrap n)).toNat=(n%18446744073709551616).toNat:=by
 rw[jU,cI];omega
theorem QU (m:Nat)(x:Nat)(hm:m<72057594037927936)(c:x<256):bits .or .i64 (IntKind.i64.wrap ((m:Int)*256)) (x:Int)=IntKind.i64.wrap ((256*m+x:Nat):Int):=by
 show IntKind.i64.wrap ((BitVec.ofInt 64 (IntKind.i64.wrap ((m:Int)*256))|||BitVec.ofInt 64 (x:Int)).toNat:Int)=_
 rw[BitVec.toNat_or,I5,jU];have e1:((m:Int)*256%18446744073709551616).toNat=m*256:=(by omega);have e2:((x:Int)%18446744073709551616).toNat=x:=(by omega);have a:m*256|||x=m*256+x:=by
  have:=H_ (i:=8) (b:=x) (by omega) m;rw[Nat.shiftLeft_eq]at this;exact this.symm
 rw[e1,e2,a,mG m 256]
theorem Oi (l:Nm)(h:l.length≤8):I4 l=IntKind.i64.wrap (gV l:Int):=by
 induction l using DP with
 |h0=>rfl
 |a s x ih=>
  rw[cr,gZ]at h;have c:=zi s;have d:256^s.length≤256^7:=wO (by omega) (by omega);have a:(256:Nat)^7=72057594037927936:=(by decide);have f:=x.toNat_lt;rw[CV,ih (by omega),jr];have e:IntKind.i64.wrap (gV s:Int)=(gV s:Int):=(by rw[cI];omega);rw[e];exact QU (gV s) x.toNat (by omega) (by omega)
theorem KB (V:Int)(a: -9223372036854775808≤V)(b:V≤9223372036854775807):bits .xor .i64 (-1) V= -V-1:=by
 show IntKind.i64.wrap ((BitVec.ofInt 64 (-1)^^^BitVec.ofInt 64 V).toNat:Int)=_;rw[show BitVec.ofInt 64 (-1)=BitVec.allOnes 64 by decide,BitVec.allOnes_xor,BitVec.toNat_not,jU,cI];omega
theorem LR (l:Nm)(a:Nat):l.foldl (fun n x=>256*n+x.toNat) a=a*256^l.length+gV l:=by
 induction l using DP with
 |h0=>simp[gV]
 |a s x ih=>
  rw[xT,ih,jr,cr,gZ,kU];simp only[List.foldl_cons,List.foldl_nil];rw[Nat.mul_add, ←Nat.mul_assoc,mG 256 a,Nat.mul_assoc,mG 256];omega
theorem LS (y:UInt8)(l:Nm):gV (y::l)=y.toNat*256^l.length+gV l:=by
 have:=LR l y.toNat;rw[←this];simp[gV]
def vF (o:Option (Int×Nat)):Value:=match o with
 |none=> .tuple #[.int .i64 0,.int .i64 0,.bool false]
 |some (n,k)=> .tuple #[.int .i64 n,.int .i64 k,.bool true]
theorem LU (w:World)(s:ByteArray)(hs:s.size=0):Calls prog 127 #[.string s] w (qG w ((vF (jT s.data.toList)))):=by
 have he:s.data.toList= []:=by
  apply qA
  simpa using hs
 have h0:s.toList= []:=(by rw[fP];exact he);have a:s.toList.isEmpty=true:=(by rw[h0];rfl);rw[he];have H:aj (vF (jT [])= .tuple #[qI 0,qI 0,.bool false]):=af rfl;rw[H.o];clear hs he;(go_enter func127,ntmps127);go_wp2
 go_ret3
 exact⟨rfl,aA _⟩
theorem F7 (w:World)(s:ByteArray)(x:UInt8)(t:Nm)(he:s.data.toList=x::t)(j:(s.size:Int)≤140737488355328)(hb:8<x.toNat%128∨t.length<x.toNat%128):Calls prog 127 #[.string s] w (qG w ((vF (jT s.data.toList)))):=by
 have f:s.size=t.length+1:=by
  have:=fJ List.length he
  simpa using this
 have k:s.toList.isEmpty=false:=(by rw[fP,he];rfl);have hp:0<s.size:=(by omega);have g0:s[0]=x:=KA he hp;have e:=x.toNat_lt;have d:=u8_and x.toNat e;have H:aj (vF (jT s.data.toList)= .tuple #[qI 0,qI 0,.bool false]):=by
  refine af ?_;rw[he,jT];have:fq x t=true:=by
   unfold fq;rcases hb with h|h
   ·rw[aM h];rfl
   ·rw[aM h];simp
  rw[this];rfl
 rw[H.o];obtain⟨X,b⟩:=ay (x.toNat);obtain⟨K,hK⟩:=ay (X%128);rw[←b]at hb e d;rw[←hK]at d hb;have g1:s[0].toNat=X:=(by rw[g0,b]);have m:K<128:=(by omega);clear g0 b hK he;have c:=af f;clear f;by_cases l:8<K
 ·clear hb;have a:(8:Int)<(K:Int):=(by omega);(go_enter func127,ntmps127);go_wp2
  go_ret3
  exact⟨rfl,aA _⟩
 ·have a:¬(8:Int)<(K:Int):=(by omega);have g:(s.size:Int)≤(K:Int):=(by have:=c.o;omega);have i:s.size≤K:=(by have:=c.o;omega);clear hb;(go_enter func127,ntmps127);go_wp2
  go_ret3
  exact⟨rfl,aA _⟩
theorem Vl {s:ByteArray}{x:UInt8}{t:Nm}(he:s.data.toList=x::t)(K:Nat)(hK:K≤t.length):(s.extract 1 (1+K)).data.toList=t.take K∧(s.extract 1 (1+K)).size=K:=by
 have h:(s.extract 1 (1+K)).data.toList=t.take K:=by
  rw[←fP,Lib.extract_toList,he];simp
 refine⟨h,?_⟩;have a:=fJ List.length h;rw[fB,qE hK]at a;have c:∀b:ByteArray,b.data.toList.length=b.size:=fun b=>(by simp);rw[c]at a;exact a
theorem QV (w:World)(s:ByteArray)(x:UInt8)(t:Nm)(he:s.data.toList=x::t)(bH:(s.size:Int)≤140737488355328)(aq:x.toNat%128≤8)(hl:x.toNat%128≤t.length):Calls prog 127 #[.string s] w (qG w ((vF (jT s.data.toList)))):=by
 have bg:s.size=t.length+1:=by
  have:=fJ List.length he
  simpa using this
 have bK:s.toList.isEmpty=false:=(by rw[fP,he];rfl);have hp:0<s.size:=(by omega);have g0:s[0]=x:=KA he hp;have aY:=x.toNat_lt;have aR:=u8_and x.toNat aY;obtain⟨C,hC⟩:=ay (s.extract 1 (1+x.toNat%128));obtain⟨m,hcs⟩:=Vl he _ hl;rw[←hC]at m hcs;obtain⟨X,ai⟩:=ay (x.toNat);obtain⟨K,hK⟩:=ay (X%128);have aN:=af ai;have bk:=af hK;rw[←ai]at aq hl aY aR hC m hcs;rw[←hK]at aR aq hl hC m hcs;have g1:s[0].toNat=X:=(by rw[g0,ai]);have bO:K<128:=(by omega);have bA:¬(8:Int)<(K:Int):=(by omega);have bF:¬(s.size:Int)≤(K:Int):=(by omega);have bG:¬s.size≤K:=(by omega);have bB:¬8<K:=(by omega);obtain⟨M,av⟩:=ay (1+K);have bE:s.extract 1 M=C:=(by rw[av];exact hC.symm);have e1:(1:Int)+(K:Int)=(M:Int):=(by omega);have e2:M≤s.size:=(by omega);have e3:(M:Int)≤(s.size:Int):=(by omega);have bI:(1:Int)≤(M:Int):=(by omega);have bJ:1≤M:=(by omega);have bn:=af av;clear av;obtain⟨R,aA⟩:=ay (vF (jT s.data.toList));rw[←aA];have U:=af aA;clear aA;have B:=Lib.run_convert_string_bytes (P:=prog) w 9 184 5 C underlying9 underlying184 underlying5;have hcell:=Lib.bytesWorld_cell w 5 C;have D:=Ea w 5 C;generalize grownCap w C.size 0 5=cap at B;generalize Lib.bytesWorld w 5 C=W at B hcell D;rw[hcs]at B hcell;rw[m]at hcell;have l:=af hcell;have G:=af D;clear hcell D;obtain⟨L,ah⟩:=ay (t.take K);have I:L.length=K:=(by rw[ah,fB,qE hl]);rw[←ah]at l;have aK:=af ah;have r:=af I;clear ah I m hcs;have aI:=af he;have bq:=af bg;clear g0 ai hK he bg hC;(go_enter func127,ntmps127);go_wp2
 go_loop [6,36] (fun n q=>∃j:Nat,j≤K∧q=qI j∧n=qI (I4 (L.take j))) (fun _ q=>K-(intOf q).toNat)
 case atStart=>exact⟨0,aX _,rfl,rfl⟩
 case round=>
  obtain⟨j,bN,rfl,rfl⟩:=hrel;by_cases E:j<K
  ·have hc:=l.o j E;have Q:j<L.length:=(by rw[r.o];exact E);have H:=CV (L.take j) L[j];rw[←iK Q]at H;have aS:L.getD j 0=L[j]:=(by simp[List.getD,Q]);rw[aS]at hc;obtain⟨c,A⟩:=ay (L[j].toNat);have bD:c<256:=(by rw[A];exact L[j].toNat_lt);rw[←A]at hc H;obtain⟨N,aQ⟩:=ay (I4 (L.take j));rw[←aQ]at H⊢;have S:(0:Int)≤(j:Int):=(by omega);have bp:=af H;clear H aQ A aS;go_wp2
   go_round
   case rel=>exact⟨j+1,by omega,by go_num,by rw[bp.o,IntWalk.i64_left]⟩
   case measure=>simp[intOf];omega
  ·have aC:K=j:=(by omega);subst aC;have aW:L.take K=L:=fA (by rw[r.o];exact bM _);rw[aW];have hV:=Oi L (by rw[r.o];exact aq);obtain⟨V,O⟩:=ay (I4 L);rw[←O]at hV⊢;have aL:=af hV;have p:aj (jT s.data.toList=bif fq x t then none else some (jY x t,1+x.toNat%128)):=by rw[aI.o];exact af rfl
   have Z:x.toNat%128=K:=(by rw[←aN.o,bk.o]);have b:aj (fq x t=((decide (0<K)&&((t.getD 0 0).toNat==0))||(decide (K=8)&&decide (127<(t.getD 0 0).toNat)))):=by
    refine af ?_;unfold fq;rw[Z,aJ (by omega),aJ (by omega)];rfl
   have e:aj (jY x t=bif decide (127<X)then -(gV L:Int)-1 else(gV L:Int)):=by
    refine af ?_;unfold jY;rw[Z,aN.o,aK.o]
   rw[Z]at p;have a:=zi L;rw[r.o]at a;clear hV O aW E Z;by_cases S:K=0
   ·subst S;have aH:V=0:=by
     rw[aL.o];have:gV L=0:=(by simp at a;exact a);rw[this];rfl
    have aU:gV L=0:=(by simp at a;exact a);subst aH;have hb:fq x t=false:=(by rw[b.o];rfl);have k:aj (R= .tuple #[qI (bif decide (127<X)then -1 else 0),qI 1,.bool true]):=by
     rw[U.o,p.o,hb,e.o,aU];exact af rfl
    clear a aU hb;have p:=af trivial;by_cases f:127<X
    ·rw[aM f]at k;have g:(127:Int)<(X:Int):=(by omega);go_wp2
     go_ret3
     exact⟨by rw[k.o];rfl,G.o⟩
    ·rw[aJ f]at k;have g:¬(127:Int)<(X:Int):=(by omega);go_wp2
     go_ret3
     exact⟨by rw[k.o];rfl,G.o⟩
   ·obtain⟨y,t',rfl⟩:∃y t',t=y::t':=by
     cases t with
     |nil=>simp at hl;omega
     |cons y t'=>exact⟨y,t',rfl⟩
    have aG:1<s.size:=(by rw[bq.o];simp);have aV:(1:Int)<(s.size:Int):=(by omega);have aP:=Oh aI.o aG;simp only[List.getD_cons_zero]at b;have hy:=y.toNat_lt;have aD:(0:Int)<(K:Int):=(by omega);obtain⟨Y,ak⟩:=ay (y.toNat);rw[←ak]at b hy;have bu:s[1].toNat=Y:=(by rw[aP,ak]);have J:(K=8∧127<Y→V<0)∧(¬(K=8∧127<Y)→V=(gV L:Int)∧V≤9223372036854775807):=by
     have aB:=aL.o;rw[cI]at aB;have au:L=y::t'.take (K-1):=by
      rw[aK.o];cases K with
      |zero=>omega
      |succ K=>rw[List.take_succ_cons,tP]
     have i:gV L=y.toNat*256^(K-1)+gV (t'.take (K-1)):=by
      rw[au];have:=LS y (t'.take (K-1));rw[this];congr 3;rw[fB];have:=g_▸hl;omega
     rw[←ak]at i;have aT:=zi (t'.take (K-1));have aE:(t'.take (K-1)).length≤K-1:=List.length_take_le _ _;have aF:256^(t'.take (K-1)).length≤256^(K-1):=wO (by omega) aE;by_cases v:K=8
     ·have aO:(256:Nat)^(K-1)=72057594037927936:=(by rw[v]);rw[aO]at i aF;constructor
      ·rintro⟨_,hb⟩;omega
      ·intro hb;have:¬127<Y:=fun h=>hb ⟨v,h⟩;omega
     ·have bL:256^K≤256^7:=wO (by omega) (by omega);have aO:(256:Nat)^7=72057594037927936:=(by decide);refine⟨fun h=>absurd h.1 v,fun _=>?_⟩;omega
    have u:=af J;clear aP ak J;rw[aM (show 0<K by omega),mF]at b;by_cases F:Y=0
    ·subst F;have hb:fq x (y::t')=true:=(by rw[b.o];rfl);have k:aj (R= .tuple #[qI 0,qI 0,.bool false]):=by
      rw[U.o,p.o,hb];exact af rfl
     clear a hb b e p;go_wp2
     go_ret3
     exact⟨by rw[k.o];rfl,G.o⟩
    ·have bf:((Y:Int)==0)=false:=(by simpa using F);by_cases d:K=8∧127<Y
     ·have T:V<0:=u.o.1 d;have hb:fq x (y::t')=true:=(by rw[b.o,aM d.1,aM d.2];simp);have k:aj (R= .tuple #[qI 0,qI 0,.bool false]):=by
       rw[U.o,p.o,hb];exact af rfl
      clear a hb b e p d;go_wp2
      go_ret3
      exact⟨by rw[k.o];rfl,G.o⟩
     ·have z:=(u.o.2 d).1;have bC:=(u.o.2 d).2;have T:¬V<0:=(by omega);have hb:fq x (y::t')=false:=by
       rw[b.o,eD.2 F,qY];by_cases h:K=8
       ·rw[aJ (show¬127<Y by omega),jR]
       ·rw[aJ h,iL]
      have k:aj (R= .tuple #[qI (bif decide (127<X)then -V-1 else V),qI (M:Int),.bool true]):=by
       rw[U.o,p.o,hb,e.o,z,bn.o];exact af rfl
      have aZ:bits .xor .i64 (-1) V= -V-1:=(by rw[z];exact KB _ (by omega) (by omega));clear a hb b e p d z;by_cases f:127<X
      ·rw[aM f]at k;have g:(127:Int)<(X:Int):=(by omega);go_wp2
       go_ret3
       exact⟨by rw[k.o];rfl,G.o⟩
      ·rw[aJ f]at k;have g:¬(127:Int)<(X:Int):=(by omega);go_wp2
       go_ret3
       exact⟨by rw[k.o];rfl,G.o⟩
theorem F8 (w:World)(s:ByteArray)(a:(s.size:Int)≤140737488355328):Calls prog 127 #[.string s] w (qG w ((vF (jT s.data.toList)))):=by
 cases he:s.data.toList with
 |nil=>
  rw[←he];refine LU w s ?_;have:=fJ List.length he
  simpa using this
 |cons x t=>
  rw[←he];by_cases b:8<x.toNat%128
  ·exact F7 w s x t he a (.inl b)
  ·by_cases hl:t.length<x.toNat%128
   ·exact F7 w s x t he a (.inr hl)
   ·exact QV w s x t he a (by omega) (by omega)
end
