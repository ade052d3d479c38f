/- Lemmas. -/
import Derived.Test.YtpbpgjfdledgoaaGreatDoorZo44
set_option linter.all false
set_option maxRecDepth 100000
set_option maxHeartbeats 8000000
open Bool renaming and_eq_true→eA,not_true→jj
open List renaming length_cons→iY,length_nil→iP
namespace Go.Proofs.YtpbpgjfdledgoaaGreatDoor
section
open Go.Proofs.Tryz
open Go.RowKit Go.Shelf Go.Sort Go.Joins Go.Deep
theorem PL {p:Pl}(h:jd p){k:Int}(he:(nI p k).2.2=0):dF ⟨k,(nI p k).1,I3 p k (nI p k).1⟩=true:=by
 unfold nI at he⊢;cases hs:lC p k with
 |none=>rw[hs]at he;cases he
 |some s=>
  rw[hs]at he;obtain⟨n,rfl,hn⟩:=eX hs;have a:=h.sh hn;cases hf:s.free with
  |nil=>simp only[FY,hf]at he;cases he
  |cons i l=>
   obtain⟨x,c,_,j⟩:=a.fr i (by rw[hf];exact m_ ..);have b:=a.at c;have hi:=(eC.1 c).1;have f:=(eC.1 hn).1;have e1:(FY s).1=(i:Int):=(by simp only[FY,hf]);simp only[e1];have e2:I3 p (n:Int) (i:Int)=x.g:=by
    unfold I3 iq;rw[hs];simp only;rw[py c]
   rw[e2];have e:=h.1;have d:=a.n1;have g0:=b.g0;unfold dF jo;simp only[eA,decide_eq_true_eq];omega
theorem Hr {c:Cm}(h:bD c=true)(f:c.k=1){a:cO}(e:dF a=true):bD (c.named a)=true:=by
 have b1:(c.k==1)=true:=(by rw[f];rfl);unfold bD at h⊢;rw[b1,bH]at h;have d:((c.named a).k==1)=true:=b1;rw[d,bH];simp only[eA]at h⊢;refine⟨h.1,h.2.1,?_⟩;have b:=h.2.2;unfold kR at b⊢;simp only[eA]at b⊢;exact⟨b.1,b.2.1,e⟩
theorem PN {d:Dk}(hd:jd d.pl){c:Cm}(h:(kV d c).2.2=0):bD (kV d c).1=true∧((kV d c).2.1=true→jo (kV d c).1.b.s 0 15=true∧jo (kV d c).1.b.i 0 15=true):=by
 unfold kV at h⊢;cases g:(!bD c||(decide (c.k=1)&&!neq c.b.id cO.zero))with
 |true=>rw[g]at h;cases h
 |false=>
  rw[g,aN]at h;rw[aN];have hc:bD c=true:=by
   cases l:bD c with
   |true=>rfl
   |false=>rw[l]at g;cases g
  by_cases j:c.k=1
  ·rw[aM j,bH]at h⊢;cases a:decide (c.zone d.z<0)with
   |true=>rw[a]at h;cases h
   |false=>
    rw[a,aN]at h;rw[aN];cases e:decide (d.z.q≤(d.q.length:Int))with
    |true=>rw[e]at h;cases h
    |false=>
     rw[e,aN]at h;rw[aN];by_cases f:(nI d.pl (c.zone d.z)).2.2=0
     ·rw[aM f];simp only[jj,cond_false];have hi:=PL hd f;refine⟨Hr hc j hi,fun _=>?_⟩;unfold dF at hi;simp only[eA]at hi;exact⟨hi.1,hi.2.1⟩
     ·rw[aJ f]at h;exact absurd (show(13:Int)=0 from h) (by decide)
  ·rw[aJ j,aN]at h⊢;cases a:(!j9 d.pl c.id)with
   |true=>rw[a]at h;cases h
   |false=>
    rw[a,aN]at h;rw[aN];cases e:qm d.q c.id with
    |true=>rw[e]at h;cases h
    |false=>
     rw[e,aN]at h;rw[aN];cases f:decide (d.z.q≤(d.q.length:Int))with
     |true=>rw[f]at h;cases h
     |false=>
      rw[aN];exact⟨hc,fun h=>by cases h⟩
theorem xK (c:Cm):jc c c=true:=(fZ c c).2 rfl
theorem Hs {c:Cm}(h:bD c=true):cH (fG c)=true:=by
 rw[St rfl];show(bD c&&((0==(0:Int))&&((0==(0:Int))&&((0==(0:Int))&&(jc c c&&(0==0))))))=true;rw[h,xK];rfl
theorem PO {s i:Int}(hs:jo s 0 15=true)(hi:jo i 0 15=true):cH (resRec s i)=true:=by
 unfold cH resRec;simp only;show(decide ((0:Int)=0)&&(jo s 0 15&&(jo i 0 15&&(jc Cm.zero Cm.zero&&List.isEmpty ([]:List cO)))))=true;rw[hs,hi,xK];rfl
theorem uH {n:Int}(h0:1≤n)(a:n≤1099511627776):cH (bP n)=true:=by
 rw[GF rfl];show(jo n 1 1099511627776&&((n==n)&&((0==(0:Int))&&((0==(0:Int))&&(jc Cm.zero Cm.zero&&(0==0))))))=true;rw[mO.2 ⟨h0,a⟩,xK];simp
def gy (r:Lr):Rc:=⟨r,none,0,0⟩
theorem PS {W:World}{B:Nat→Prop}{x:Rc}{g:Nat}(a:W.heap[g]?=some (.cells (wB x).toArray wi (0,0)))(c:¬B g)(hm:cH x.r=true)(f:aW bN W x.v x.r.ids)(d:∀i,x.v.ownBlock=some i→i<W.heap.size∧¬B i):
 xJ W B (.slice (some ⟨g,0,none⟩) 1 1) [x]:=by
 refine⟨⟨rfl,fun u hu=>?_,.inr ⟨_,_,rfl,bM _,by unfold maxLen;omega,fun j v b=>?_⟩⟩,fun i hi=>?_,fun y hy=>?_⟩
 ·rw[fL]at hu;exact gu.one x u hu
 ·rw[fL]at b;rw[qF,bW _ _ _ _ _ _ a];rw[jI,Ib];exact b
 ·have e:g=i:=nj hi;subst e;exact⟨(bX.1 a).1,c⟩
 ·rw[dA]at hy;subst hy;exact⟨f,hm,d⟩
theorem BG {W:World}{B:Nat→Prop}{r:Lr}{g:Nat}(b:W.heap[g]?=some (.cells (wB (gy r)).toArray wi (0,0)))(a:¬B g)(hm:cH r=true)(hi:r.ids= []):xJ W B (.slice (some ⟨g,0,none⟩) 1 1) [gy r]:=
 PS b a hm (by show aW bN W (.slice none 0 0) r.ids;rw[hi];exact Reads.nil _ _) (fun i hi=>by cases hi)
theorem PT {W:World}{B:Nat→Prop}{r s:Lr}{base:Nat}{v:Value}(a:aI gu wi W base v [gy r,gy s])(d:∀i,B i→i<base)(hm:cH r=true∧cH s=true)(hi:r.ids= []∧s.ids= []):xJ W B v [gy r,gy s]:=by
 refine⟨a.Bk,fun i h=>?_,fun y hy=>?_⟩
 ·have:=a.lt i h;exact⟨this.2,fun e=>by have:=d i e;omega⟩
 ·have key:∀t:Lr,cH t=true→t.ids= []→aW bN W (gy t).v (gy t).r.ids∧cH (gy t).r=true∧∀i,(gy t).v.ownBlock=some i→i<W.heap.size∧¬B i:=
   fun t b c=>⟨by show aW bN W (.slice none 0 0) t.ids;rw[c];exact Reads.nil _ _,b,fun i hi=>by cases hi⟩
  rw[q4,dA]at hy
  rcases hy with rfl|rfl
  ·exact key r hm.1 hi.1
  ·exact key s hm.2 hi.2
theorem lI.turn {w W:World}{c:Cm}(h:lI w W c)(x:Cm):lI w (W.setRow w.heap.size (ct x).toArray) x:=by
 refine⟨h.kp.setRow (S:=No) (fun a=>absurd a (Nat.lt_irrefl _)) _,kX _ _ _ _ _ _ h.b,?_⟩;have k:ah (Own w.heap.size) W (W.setRow w.heap.size (ct x).toArray):=ah.setRow (S:=Own w.heap.size) (aA W) (fun _=>rfl) _;exact k.heap h.z (fun e=>by have e:w.heap.size+1=w.heap.size:=e;omega)
theorem zu {W:World}{n:Nat}{y x:Cm}(a:W.heap[n]?=some (.cells (ct y).toArray dV (0,0))):ai (W.setRow n (ct x).toArray) n 0 16=some (ct x):=by rw[aH _ _ _ _ _ ⟨_,_,a⟩];rfl
theorem sO {x:Cm}(W:World)(n:Nat):ah (Own n) W (W.setRow n (ct x).toArray):=ah.setRow (S:=Own n) (aA W) (fun _=>rfl) _
theorem pN {W:World}{n:Nat}{o:Obj}(h:W.heap[n]?=some o):n<W.heap.size:=(bX.1 h).1
theorem cF.put {w w1 w2 d:World}{base:Nat}{P:Lp}{ld KP:Ld}{ds ds':Ds}{b:Nat}(h:cF w1 base P KP ds' w2)(h0:cq w base P ld ds)(k1:ah No w w1)(hb:w.heap.size≤b)(j:b<w1.heap.size)(a:ah (Own b) w2 d):
 cF w base P KP ds' d:=by
 obtain⟨P',f,a2,a3,a4⟩:=h;have off:∀i,gj P i→¬i=b:=fun i hi e=>(by have:=h0.lt i hi;omega);refine⟨P',f.kept a (fun i hi e=>?_) (fun i hi e=>?_) (fun e=>?_),((k1.mono (fun _ _ h=>h.elim)).aK a2).trans a (fun i hi e=>?_),fun i hi=>(a3 i hi).imp id (aU k1.size),a4.l,a4.p,a4.b,a4.g,a4.m,fun i hi=>?_⟩
 ·have e:i=b:=e;rcases a3 i hi with e2|e2
  ·exact off i e2 e
  ·omega
 ·have e:i=b:=e;rcases a4.c i hi with e2|e2|e2
  ·have:=(h0.cm.lt i e2).2;omega
  ·exact off i e2 e
  ·omega
 ·have e:P'.D.m=b:=e;rw[a4.m]at e;have:=cP h0.eH.map;omega
 ·have e:i=b:=e;omega
 ·rcases a4.c i hi with e|e|e
  ·exact .inl e
  ·exact .inr (.inl e)
  ·exact .inr (.inr (aU k1.size e))
theorem RE {W:World}{b g:Nat}{x:Rc}(a:W.heap[g]?=some (.cells (wB x).toArray wi (0,0)))(hb:b≤g):aI gu wi W b (.slice (some ⟨g,0,none⟩) 1 1) [x]:=
 ⟨rfl,.inr ⟨g,1,_,rfl,hb,a,bM _,by unfold maxLen;omega,rfl,rfl⟩⟩
def KX (W:World)(xs:List Rc)(e:Ending)(w':World):Prop:=∃v a c,v= .slice a xs.length c∧e= .returned v∧aI gu wi w' W.heap.size v xs∧ah No W w'
theorem J1 {W:World}{g:Nat}{x:Rc}(c:W.heap[g]?=some (.cells (wB x).toArray wi (0,0)))(r:Lr){C:Array Value}(hC:C=(wB (gy r)).toArray):
 Calls prog 77 #[.slice (some ⟨g,0,none⟩) 1 1,qI 0,.slice (some ⟨W.heap.size,0,none⟩) 1 1] (W.alloc (.cells C wi)) (KX W [gy r,x]):=by
 subst hC;have a:ah No W (W.alloc (.cells (wB (gy r)).toArray wi)):=(aA W).alloc _;have h:=Hq (W.alloc (.cells (wB (gy r)).toArray wi)) g g 1 0 [x] (RE (a.heap c (fun h=>h)) (bM _)) (by simp) (by simp) (by simp) W.heap.size (gy r) (bT W _) (by have:=pN c;have:=a.size;omega);refine h.mono ?_;rintro e w' ⟨G,rfl,d,b⟩;refine⟨_,_,_,rfl,rfl,?_,a.aK b⟩;obtain⟨f,i⟩:=d;refine⟨f,?_⟩;rcases i with⟨e,_⟩|⟨g',cap,cur,e,_,j⟩
 ·cases e
 ·exact .inr ⟨g',cap,cur,e,by simp only[Value.slice.injEq,Option.some.injEq,Addr.mk.injEq]at e;have:=a.size;omega,j⟩
def mo (w:World)(base:Nat)(P:Lp)(x:Cm×Int×Ld×Ds)(e:Ending)(w':World):Prop:=e= .returned (.tuple #[gH x.1,qI x.2.1])∧cF w base P x.2.2.1 x.2.2.2 w'
section
variable {w w':World}{base:Nat}{P:Lp}{ld:Ld}{ds:Ds}
theorem Hu (aV:Laid w base)(hb:base≤w.heap.size)(h:cq w base P ld ds)(c:Cm)(ah:ld.lg.next+2≤1000000000000)(U:ld.lg.aD.length+2≤1000000):
 Calls prog 20 #[dP P.l,gH c] w (mo w base P (ld.call ds c)):=by
 obtain⟨c0,_,_,_,c4⟩:=h.cells;have ll:P.l<w.heap.size:=h.lt _ (.inl rfl);obtain⟨E,aE⟩:=ay (ld.call ds c);rw[←aE];unfold Ld.call at aE;have H:=af h;have aQ:=af aV;have aR:=af hb;have k:=af aE;have L:=af ah;have K:=af U;clear h aV hb aE ah U;(go_enter func20,ntmps20);go_upto_region 1 with fail
 refine au ?_;intro bf Q;have y:aj (lI w bf c):=af (by
  rw[Q];refine⟨((aA w).alloc _).alloc _,?_,?_⟩
  ·rw[Below.heap_alloc _ _ _ (by simp)];exact bT w _
  ·have h0:=bT (w.alloc (.cells (ct c).toArray dV)) (.cells (ct Cm.zero).toArray dV);have e:(w.alloc (.cells (ct c).toArray dV)).heap.size=w.heap.size+1:=(by simp);rw[e]at h0;exact h0)
 clear Q;go_wp2_with fail
 (with_reducible refine(tM (H.o.no y.o.kp)).mono ?_)
 rintro e W ⟨rfl,rfl⟩;by_cases t0:ld.e=0
 case neg=>
  have b0:(ld.e !=0)=true:=(by simpa using t0);have g:aj (E=(Cm.zero,ld.e,ld,ds)):=af (by rw[k.o,aJ t0];rfl);obtain⟨aO,sz,_,_⟩:=y.o.opened;clear k t0;go_wp2;obtain⟨j,n⟩:=y.o.jG Cm.zero;have f:mo w base P E (.returned (.tuple #[gH Cm.zero,qI ld.e])) _:=⟨by rw[g.o],by rw[g.o];exact cF.no H.o n⟩;refine aY (v:= .tuple #[gH Cm.zero,qI ld.e]) ?_ rfl f;clear f n;simp only[ct,Cm.zero,Bd.zero]at j;simp[results,results20,go_sem,j,Cm.zero,Bd.zero]
 have b0:(ld.e !=0)=false:=(by simpa using t0);rw[aM t0]at k;simp only[jj,cond_false]at k;clear t0;obtain⟨X,aI⟩:=ay (kV ld.dk c);have aC:=af (PN (d:=ld.dk) H.o.eH.ok.pl (c:=c));have aF:aj (Calls prog 76 #[dP P.D.d,gH c] W.drew (f_ W.drew X)):=af (by rw[aI];exact Ew (H.o.no (y.o.kp.drew)).eH c);rw[←aI]at k aC;replace c0:=y.o.kp.cB c0;have k1:=y.o.cells;obtain⟨a,bg,N⟩:=X;clear aI c4;go_upto_region 4 with fail
 go_region_with (first
  |(go_at_call 76
    have hc:=aF.o
    with_reducible refine hc.mono ?_
    clear hc;rintro e bu ⟨rfl,V⟩;have A4:aj (lI w bu c):=af (y.o.no (((aA (S:=No) W).drew).aK V));obtain⟨_,_,ob,sb⟩:=A4.o.opened;clear V))
 all_goals
  go_upto_region 5 with fail
  refine au ?_;intro r R;have A5:aj (lI w r a):=af (by rw[R];exact A4.o.turn a);clear R A4 ob sb;by_cases t3:N=0
  case neg=>
   have bA:(N !=0)=true:=(by simpa using t3);have g:aj (E=(Cm.zero,N,ld,ds)):=af (by rw[k.o,aJ t3];rfl);obtain⟨aO,sz,_,_⟩:=A5.o.opened;clear k t3;go_wp2;obtain⟨j,n⟩:=A5.o.jG Cm.zero;have f:mo w base P E (.returned (.tuple #[gH Cm.zero,qI N])) _:=⟨by rw[g.o],by rw[g.o];exact cF.no H.o n⟩;refine aY (v:= .tuple #[gH Cm.zero,qI N]) ?_ rfl f;clear f n;simp only[ct,Cm.zero,Bd.zero]at j;simp[results,results20,go_sem,j,Cm.zero,Bd.zero]
  obtain⟨O,G⟩:=aC.o t3;subst t3;simp only[decide_true,jj,cond_false]at k;have aW:=A5.o.cells;cases bg
  case false=>
   simp only[cond_false]at k;clear aC G aF;go_upto_region 10 with fail
   refine au ?_;intro t m;have A6:aj (lI w t a):=af (A5.o.no (by rw[m];exact(aA _).alloc _));have aH:aj (xJ t (gj P) (.slice (some ⟨r.heap.size,0,none⟩) 1 1) [gy (fG a)]):=af (BG (by rw[m];exact bT r _) (fun e=>by have:=H.o.lt _ e;have:=A5.o.kp.size;omega) (Hs O) rfl);clear m A5 aW;have aG:=af (H.o.no A6.o.kp);have A:aj (Calls prog 74 #[dP P.l,.slice (some ⟨r.heap.size,0,none⟩) 1 1] t (pI t base P (ld.write ds [fG a]))):=af (qu (aQ.o.kept A6.o.kp (fun _ h=>h.elim)) (aU aR.o A6.o.kp.size) aG.o _ [gy (fG a)] aH.o (by simp only[iY,iP];omega) (by have:=L.o;simp only[iY,iP];omega) (by have:=K.o;simp only[iY,iP];omega));replace k:aj (E=bif decide ((ld.write ds [fG a]).1=0)then(a,0,(ld.write ds [fG a]).2.1,(ld.write ds [fG a]).2.2)else(Cm.zero,(ld.write ds [fG a]).1,(ld.write ds [fG a]).2.1,(ld.write ds [fG a]).2.2)):=k
   obtain⟨Y,T⟩:=ay (ld.write ds [fG a]);rw[←T]at A k;clear T;obtain⟨q,av,aB⟩:=Y;(go_wp2_with fail);refine A.o.mono ?_;rintro e p ⟨rfl,hp⟩;have M:=af hp;obtain⟨_,_,F,_,_⟩:=hp;have bx:p.heap[w.heap.size]?=some (.cells (ct a).toArray dV (0,0)):=F.heap A6.o.b (fun e=>by have:=H.o.lt _ e;omega);have u:p.heap[w.heap.size+1]?=some (.cells (ct Cm.zero).toArray dV (0,0)):=F.heap A6.o.z (fun e=>by have:=H.o.lt _ e;omega);have aZ:=af bx;have J:=af u;have aO:Open p (w.heap.size+1):=⟨_,_,u⟩;have sz:(aL p (w.heap.size+1)).size=16:=(by unfold aL;rw[u];rfl);have bp:ai p w.heap.size 0 16=some (ct a):=(by unfold ai;rw[bx];rfl);clear bx u F A;by_cases ty:q=0
   case neg=>
    have bk:(q !=0)=true:=(by simpa using ty);have g:aj (E=(Cm.zero,q,av,aB)):=af (by rw[k.o,aJ ty];rfl);clear k ty;go_wp2;have j:=zu (x:=Cm.zero) J.o;have f:mo w base P E (.returned (.tuple #[gH Cm.zero,qI q])) _:=⟨by rw[g.o],by rw[g.o];exact M.o.put H.o A6.o.kp (by omega) (pN A6.o.z) (sO (x:=Cm.zero) _ _)⟩;refine aY (v:= .tuple #[gH Cm.zero,qI q]) ?_ rfl f;clear f;simp only[ct,Cm.zero,Bd.zero]at j;simp[results,results20,go_sem,j,Cm.zero,Bd.zero]
   subst ty;have g:aj (E=(a,0,av,aB)):=af (by rw[k.o];rfl);clear k;go_wp2;have j:=zu (x:=a) J.o;have f:mo w base P E (.returned (.tuple #[gH a,qI 0])) _:=⟨by rw[g.o],by rw[g.o];exact M.o.put H.o A6.o.kp (by omega) (pN A6.o.z) (sO (x:=a) _ _)⟩;refine aY (v:= .tuple #[gH a,qI 0]) ?_ rfl f;clear f;simp[results,results20,go_sem,j]
  case true=>
   simp only[cond_true]at k;obtain⟨ns,ni⟩:=G rfl;clear aC G aF;have aN:=A5.o.kp.size;go_upto_region 9 with fail
   refine au ?_;intro B C;have I:aj (lI w B a):=af (A5.o.no (by rw[C];exact(aA _).alloc _));have g8:B.heap[r.heap.size]?=some (.cells (wB (gy (fG a))).toArray wi (0,0)):=(by rw[C];exact bT r _);have n8:=(ak I.o.cells 4 _ rfl);have aX:=(ak I.o.cells 5 _ rfl);simp only[Nat.zero_add]at n8 aX;clear C aW A5;have bn:w.heap.size≤B.heap.size:=I.o.kp.size;have bq:r.heap.size<B.heap.size:=pN g8;have bB:w.heap.size≤r.heap.size:=aN;have CI:aj (Calls prog 77 #[.slice (some ⟨r.heap.size,0,none⟩) 1 1,qI 0,.slice (some ⟨B.heap.size,0,none⟩) 1 1]
    (B.alloc (.cells #[qI 2,qI 0,qI a.b.s,qI a.b.i,qI 0,qI 0,qI 0,qI 0,qI 0,qI 0,qI 0,qI 0,qI 0,qI 0,qI 0,qI 0,qI 0,qI 0,qI 0,qI 0,.slice none 0 0] 30)) (KX B [gy (resRec a.b.s a.b.i),gy (fG a)])):=af (J1 g8 (resRec a.b.s a.b.i) rfl)
   clear g8;(go_wp2_with fail);refine CI.o.mono ?_;rintro e aT ⟨v9,a9,c9,rfl,rfl,aq,Z⟩;have aP:aj (lI w aT a):=af (I.o.no Z);have aS:aj (xJ aT (gj P) (.slice a9 2 c9) [gy (resRec a.b.s a.b.i),gy (fG a)]):=af (PT aq (fun i hi=>by have:=H.o.lt _ hi;omega) ⟨PO ns ni,Hs O⟩ ⟨rfl,rfl⟩);clear aq Z CI I n8 aX;go_upto_region 10 with fail
   refine au ?_;intro t m;have A6:aj (lI w t a):=af (by rw[m];exact aP.o);have aH:aj (xJ t (gj P) (.slice a9 2 c9) [gy (resRec a.b.s a.b.i),gy (fG a)]):=af (by rw[m];exact aS.o);clear m aP aS;have aG:=af (H.o.no A6.o.kp);have A:aj (Calls prog 74 #[dP P.l,.slice a9 2 c9] t (pI t base P (ld.write ds [resRec a.b.s a.b.i,fG a]))):=af (qu (aQ.o.kept A6.o.kp (fun _ h=>h.elim)) (aU aR.o A6.o.kp.size) aG.o _ [gy (resRec a.b.s a.b.i),gy (fG a)] aH.o (by simp only[iY,iP];omega) (by have:=L.o;simp only[iY,iP];omega) (by have:=K.o;simp only[iY,iP];omega));replace k:aj (E=bif decide ((ld.write ds [resRec a.b.s a.b.i,fG a]).1=0)then(a,0,(ld.write ds [resRec a.b.s a.b.i,fG a]).2.1,(ld.write ds [resRec a.b.s a.b.i,fG a]).2.2)else(Cm.zero,(ld.write ds [resRec a.b.s a.b.i,fG a]).1,(ld.write ds [resRec a.b.s a.b.i,fG a]).2.1,(ld.write ds [resRec a.b.s a.b.i,fG a]).2.2)):=k
   obtain⟨Y,T⟩:=ay (ld.write ds [resRec a.b.s a.b.i,fG a]);rw[←T]at A k;clear T;obtain⟨q,av,aB⟩:=Y;(go_wp2_with fail);refine A.o.mono ?_;rintro e p ⟨rfl,hp⟩;have M:=af hp;obtain⟨_,_,F,_,_⟩:=hp;have bx:p.heap[w.heap.size]?=some (.cells (ct a).toArray dV (0,0)):=F.heap A6.o.b (fun e=>by have:=H.o.lt _ e;omega);have u:p.heap[w.heap.size+1]?=some (.cells (ct Cm.zero).toArray dV (0,0)):=F.heap A6.o.z (fun e=>by have:=H.o.lt _ e;omega);have aZ:=af bx;have J:=af u;have aO:Open p (w.heap.size+1):=⟨_,_,u⟩;have sz:(aL p (w.heap.size+1)).size=16:=(by unfold aL;rw[u];rfl);have bp:ai p w.heap.size 0 16=some (ct a):=(by unfold ai;rw[bx];rfl);clear bx u F A;by_cases ty:q=0
   case neg=>
    have bk:(q !=0)=true:=(by simpa using ty);have g:aj (E=(Cm.zero,q,av,aB)):=af (by rw[k.o,aJ ty];rfl);clear k ty;go_wp2;have j:=zu (x:=Cm.zero) J.o;have f:mo w base P E (.returned (.tuple #[gH Cm.zero,qI q])) _:=⟨by rw[g.o],by rw[g.o];exact M.o.put H.o A6.o.kp (by omega) (pN A6.o.z) (sO (x:=Cm.zero) _ _)⟩;refine aY (v:= .tuple #[gH Cm.zero,qI q]) ?_ rfl f;clear f;simp only[ct,Cm.zero,Bd.zero]at j;simp[results,results20,go_sem,j,Cm.zero,Bd.zero]
   subst ty;have g:aj (E=(a,0,av,aB)):=af (by rw[k.o];rfl);clear k;go_wp2;have j:=zu (x:=a) J.o;have f:mo w base P E (.returned (.tuple #[gH a,qI 0])) _:=⟨by rw[g.o],by rw[g.o];exact M.o.put H.o A6.o.kp (by omega) (pN A6.o.z) (sO (x:=a) _ _)⟩;refine aY (v:= .tuple #[gH a,qI 0]) ?_ rfl f;clear f;simp[results,results20,go_sem,j]
end
theorem Ld.tO (l:Ld):∀(a b:List Nm),l.replay (a++b)=match l.replay a with|none=>none|some x=>x.replay b:=by
 intro a;induction a generalizing l with
 |nil=>intro b;rfl
 |cons s a ih=>
  intro b;show(bif decide ((ij s).2=0)&&decide ((l.fold (ij s).1).1=0)then Ld.replay (l.fold (ij s).1).2 (a++b)else none)=match(bif decide ((ij s).2=0)&&decide ((l.fold (ij s).1).1=0)then Ld.replay (l.fold (ij s).1).2 a else none)with|none=>none|some x=>x.replay b
  cases decide ((ij s).2=0)&&decide ((l.fold (ij s).1).1=0)
  ·rfl
  ·exact ih _ b
theorem Ld.rZ {l x:Ld}{a:List Nm}(h:l.replay a=some x)(s:Nm):l.replay (a++ [s])=bif decide ((ij s).2=0)&&decide ((x.fold (ij s).1).1=0)then some (x.fold (ij s).1).2 else none:=by
 rw[Ld.tO,h];rfl
theorem Ld.oz {l x:Ld}{out:List Nm}{k:Nat}(a:k<out.length)(h:l.replay (out.take k)=some x)(hs:(decide ((ij out[k]).2=0)&&decide ((x.fold (ij out[k]).1).1=0))=false):l.replay out=none:=by
 have e:out=(out.take k++ [out[k]])++out.drop (k+1):=by
  rw[←iK a,jN]
 rw[e,Ld.tO,Ld.rZ h,hs];rfl
theorem Hv {s:Nm}(h:(ij s).2=0):cH (ij s).1=true:=by
 unfold ij at h⊢;cases a:(AB (fM (bR (some s)).1 (bR (some s)).2).2&&cH (fM (bR (some s)).1 (bR (some s)).2).1)with
 |true=>rw[bH];exact(mE _ _▸a).2
 |false=>rw[a]at h;cases h
theorem Ld.EK (l:Ld)(r:Lr):(l.fold r).2.lg=l.lg:=by
 unfold Ld.fold;cases decide (r.k=1)
 ·cases decide (r.k=2)
  ·cases decide (r.k=3)
   ·cases decide (r.k=4)<;>rfl
   ·rfl
  ·rfl
 ·cases decide (r.n=l.ep+1)<;>rfl
def eG (z:Zf)(g:Lg)(out:List Nm)(d:Ds):Int×Option Ld×Ds:=
 match je z g out with
 |none=>(14,none,d)
 |some l=>bif decide ((l.write d [bP (l.ep+1)]).1=0)then(0,some (l.write d [bP (l.ep+1)]).2.1,(l.write d [bP (l.ep+1)]).2.2)else((l.write d [bP (l.ep+1)]).1,none,(l.write d [bP (l.ep+1)]).2.2)
theorem qx {z:Zf}{g:Lg}{out:List Nm}(h:0<g.aD.headD 0):je z g out=none:=by
 unfold je;rw[aM h];rfl
theorem oA {z:Zf}{g:Lg}{out:List Nm}(h:Ld.replay ⟨Dk.new z,g,0,[],0⟩ out=none):je z g out=none:=by
 unfold je;rw[h];cases decide (0<g.aD.headD 0)<;>rfl
theorem oB {z:Zf}{g:Lg}{out:List Nm}{x:Ld}(h0:g.aD.headD 0=0)(h:Ld.replay ⟨Dk.new z,g,0,[],0⟩ out=some x):je z g out=bif decide (1099511627776≤x.ep)then none else some x:=by
 unfold je;rw[h,h0];rfl
structure jB (w w':World)(base p b:Nat)(P:Lp)(ld:Ld)(ds:Ds):Prop where
 led:cq w' base P ld ds
 pp:P.p=p
 pb:P.b=b
 new:∀i,gj P i→i=p∨i=b∨w.heap.size≤i
 cv:∀i,P.cv.ownBlock=some i→w.heap.size≤i
 dm:w.heap.size≤P.D.m
def EL (w:World)(base p b:Nat)(x:Int×Option Ld×Ds)(e:Ending)(w':World):Prop:=
 ah (Two p b) w w'∧qN w' p b x.2.2∧match x.2.1 with
  |none=>e= .returned (.tuple #[.pointer none,.int .i64 x.1])
  |some ld=>∃P,e= .returned (.tuple #[dP P.l,.int .i64 x.1])∧jB w w' base p b P ld x.2.2
section
variable {w w':World}{base:Nat}
theorem bS.lower {D:Dp}{k:Dk}{b:Nat}(h:bS w base D k)(hb:b≤base):bS w b D k:=
 ⟨h.box,h.map,h.pool.lower hb,jD h.q hb,h.nm,aU hb h.bd,h.ok⟩
theorem EM {m p b:Nat}{l:List Value}{d:Ds}(h:ai w m 0 11=some l)(hd:qN w p b d):m≠p∧m≠b:=by
 constructor
 ·rintro rfl;unfold ai at h;rw[hd.cells]at h;simp at h
 ·rintro rfl;obtain⟨es,clock,a,_⟩:=hd.own;unfold ai at h;rw[a]at h;cases h
theorem jB.made {w w1 w2 j:World}{p b l:Nat}{v:Value}{D:Dp}{z:Zf}{g:Lg}{o ds:Ds}(hd:qN w p b o)(k:base≤w.heap.size)(f:bS w1 w.heap.size D (Dk.new z))(k1:ah No w w1)
 (hW:j8 w2 base l p b v g ds) (u:aV w2 w1.heap.size v g.aD) (hl:w1.heap.size≤l) (s:ah (Two p b) w1 w2) (t:j=w2.alloc (.cells #[dP D.d,dP l,qI 0,.slice none 0 0,qI 0] Po)) (r:w.heap.size≤D.m):
 ∃P,P.l=w2.heap.size∧P.g=l∧jB w j base p b P ⟨Dk.new z,g,0,[],0⟩ ds∧ah (Two p b) w j∧∀i,gj P i→i=w2.heap.size∨i<w1.heap.size∨nD l p b v i:=by
 have n:ah No w2 j:=(by rw[t];exact(aA _).alloc _);have q:j.heap[w2.heap.size]?=some (.cells #[dP D.d,dP l,qI 0,.slice none 0 0,qI 0] Po (0,0)):=(by rw[t];exact bT w2 _);have pl:=hd.lt;have s1:=k1.size;have s2:=s.size;have C:=n.size;have a:∀i,dW D i→w.heap.size≤i∧i<w1.heap.size:=fun i hi=>⟨f.le hi,f.lt hi⟩;have x:l<w2.heap.size:=hW.log.lt;have off:∀i,dW D i→¬Two p b i:=fun i hi e=>by have:=a i hi;rcases e with e|e<;>omega
 have md:=EM f.map (hd.kept k1 (fun h=>h) (fun h=>h));have B:=cP f.map;have A:¬Two p b D.m:=fun e=>by rcases e with e|e;exact md.1 e;exact md.2 e
 have c:∀i,v.ownBlock=some i→w1.heap.size≤i∧i<w2.heap.size:=fun i hi=>u.lt i hi;have y:ah (Two p b) w j:=((k1.mono (fun _ _ h=>h.elim)).aK s).aK (n.mono (fun _ _ h=>h.elim));refine⟨⟨w2.heap.size,D,l,v,p,b,.slice none 0 0⟩,rfl,rfl,⟨⟨q,((f.kept s off A).no n).lower k,hW.no n,jD (n.mM u) (aU k s1),cJ _ _ _ _,fun i hi e=>?_,⟨fun e=>?_,fun e=>?_⟩,(fun i hi=>by cases hi),fun e=>?_,(show base≤w2.heap.size by omega),mH _,(show(0:Int)≤1099511627776 by decide),aX _⟩,rfl,rfl,fun i hi=>?_,(fun i hi=>by cases hi),r⟩,y,fun i hi=>?_⟩
 ·have:=a i hi;rcases e with e|e|e|e
  ·simp only at e;omega
  ·simp only at e;omega
  ·simp only at e;omega
  ·have:=c i e;omega
 ·have:=a _ e;simp only at this;omega
 ·rcases e with e|e|e|e
  ·simp only at e;omega
  ·simp only at e;omega
  ·simp only at e;omega
  ·have:=c _ e;simp only at this;omega
 ·rcases e with e|e|e
  ·simp only at e;omega
  ·exact f.nm e
  ·rcases e with e|e|e|e
   ·simp only at e;omega
   ·exact md.1 e
   ·exact md.2 e
   ·have:=c _ e;simp only at this;omega
 ·rcases hi with e|e|e
  ·simp only at e;omega
  ·have:=a i e;omega
  ·rcases e with e|e|e|e
   ·simp only at e;omega
   ·exact .inl e
   ·exact .inr (.inl e)
   ·have:=c i e;omega
 ·rcases hi with e|e|e
  ·exact .inl e
  ·exact .inr (.inl (a i e).2)
  ·exact .inr (.inr e)
theorem jB.step {w1 w2:World}{p b:Nat}{P:Lp}{ld KP:Ld}{ds ds':Ds}(h:jB w w1 base p b P ld ds)(d:ah (Two p b) w w1)(hp:cF w1 base P KP ds' w2):
 ∃P',P'.l=P.l∧P'.g=P.g∧jB w w2 base p b P' KP ds'∧ah (Two p b) w w2∧ah (gj P) w1 w2∧∀i,gj P' i→gj P i∨w1.heap.size≤i:=by
 obtain⟨P',a,a2,a3,a4⟩:=hp;have hn:∀i,gj P' i→i=p∨i=b∨w.heap.size≤i:=fun i hi=>by
  rcases a3 i hi with e|e
  ·exact h.new i e
  ·exact .inr (.inr (aU d.size e))
 refine⟨P',a4.l,a4.g,⟨a,a4.p.trans h.pp,a4.b.trans h.pb,hn,fun i hi=>?_,by rw[a4.m];exact h.dm⟩,d.trans a2 (fun i hi e=>?_),a2,a3⟩
 ·rcases a4.c i hi with e|e|e
  ·exact h.cv i e
  ·rcases h.new i e with e2|e2|e2
   ·exact absurd (show gj P' i from .inr (.inr (.inr (.inl (by rw[e2,a4.p,h.pp]))))) (a.nc i hi)
   ·exact absurd (show gj P' i from .inr (.inr (.inr (.inr (.inl (by rw[e2,a4.b,h.pb])))))) (a.nc i hi)
   ·exact e2
  ·exact aU d.size e
 ·rcases h.new i e with e2|e2|e2
  ·exact .inl e2
  ·exact .inr e2
  ·omega
theorem jB.no {w1 w2:World}{p b:Nat}{P:Lp}{ld:Ld}{ds:Ds}(h:jB w w1 base p b P ld ds)(k:ah No w1 w2):jB w w2 base p b P ld ds:=⟨h.led.no k,h.pp,h.pb,h.new,h.cv,h.dm⟩
theorem jB.disk {w1:World}{p b:Nat}{P:Lp}{ld:Ld}{ds:Ds}(h:jB w w1 base p b P ld ds):qN w1 p b ds:=by
 have:=h.led.log.disk;rw[h.pp,h.pb]at this;exact this
end
abbrev aR:ByteArray:= { data:=#[108,101,100,103,101,114] }
section
variable {w w':World}{base:Nat}
structure wC (w wr:World)(base p b l j:Nat)(z:Zf)(g:Lg)(out:List Nm)(ds:Ds)(B:Nat)(ov:Value)(k:Nat)(x:Ld)(P:Lp):Prop where
 pl:P.l=l
 pg:P.g=j
 led:jB w wr base p b P x ds
 kp:ah (Two p b) w wr
 txt:gG wr B ov out.length out
 off:∀i,ov.ownBlock=some i→¬gj P i
 UE:Ld.replay ⟨Dk.new z,g,0,[],0⟩ (out.take k)=some x
 lg:x.lg=g
 far:k=0∨g.aD.headD 0=0
theorem wC.no {wr W:World}{p b l j:Nat}{z:Zf}{g:Lg}{out:List Nm}{ds:Ds}{B:Nat}{ov:Value}{k:Nat}{x:Ld}{P:Lp}(h:wC w wr base p b l j z g out ds B ov k x P)(a:ah No wr W):wC w W base p b l j z g out ds B ov k x P:=
 ⟨h.pl,h.pg,h.led.no a,h.kp.mS a,a.mM h.txt,h.off,h.UE,h.lg,h.far⟩
theorem wC.next {wr W:World}{p b l j:Nat}{z:Zf}{g:Lg}{out:List Nm}{ds:Ds}{B:Nat}{ov:Value}{k:Nat}{x x':Ld}{P:Lp}(h:wC w wr base p b l j z g out ds B ov k x P)(hp:cF wr base P x' ds W)
 (n:Ld.replay ⟨Dk.new z,g,0,[],0⟩ (out.take (k+1))=some x') (m:x'.lg=g) (hf:g.aD.headD 0=0):∃P',wC w W base p b l j z g out ds B ov (k+1) x' P':=by
 obtain⟨P',b1,b0,a,c,d,f⟩:=h.led.step h.kp hp;refine⟨P',b1.trans h.pl,b0.trans h.pg,a,c,d.owns h.txt (fun i hi e=>h.off i hi e),fun i hi e=>?_,n,m,.inr hf⟩;rcases f i e with e|e
 ·exact h.off i hi e
 ·have:=(h.txt.lt i hi).2;omega
theorem r8 {p b:Nat}{d:Ds}(cP:Laid w base)(hb:base≤w.heap.size)(hd:qN w p b d)(aZ:base≤p)(aY:base≤b)(z:Zf)(cU:o9 z=true)(there:List Nat)(d1:Ds)(bE:gQ d aR=(0,there,d1))
 (g:Lg) (out:List Nm) (A:Ds) (L:mJ aR there (kH aR there d1)=(g,out,A)) (cr:out.length≤1000000000) (bC:∀t∈out,t.length≤1000000000) (bA:g.next+1≤1000000000000) (bk:g.aD.length+1≤1000000):
 Calls prog 18 #[dP p,D8 z] w (EL w base p b (eG z g out A)):=by
 obtain⟨E,bY⟩:=ay (eG z g out A);rw[←bY];have cD:=af cP;have bS:=af hb;have cC:=af hd;have I:=af (And.intro aZ aY);have aF:=af bY;have bR:=af bE;have bO:=af L;have c8:=af bC;have bV:=af bA;have bU:=af bk;have cA:=af (fun W=>GI W z cU);have cR:(out.length:Int)≤1000000000:=(by omega);clear cP hb hd aZ aY bY bE L bC bA bk cU cr;(go_enter func18,ntmps18);go_upto_region 1 with fail
 refine au ?_;intro cM V;have cE:aj (ah No w cM):=af (by rw[V];exact(aA _).alloc _);have b0:ai cM w.heap.size 0 7=some [qI z.c,qI z.r,qI z.s,qI z.u,qI z.v,qI z.i,qI z.q]:=(by rw[V];simp[go_sem]);clear V;go_wp2_with fail
 (with_reducible refine(cA.o _).mono ?_)
 rintro e w1 ⟨D,rfl,cO,bq,bg⟩;have c6:=af cO;have bL:=af bg;clear bg;have bI:=af (cE.o.aK bq);have bG:=cE.o.size;have cB:=af (yh (cD.o.kept bI.o (fun _ h=>h.elim)) (aU bS.o bI.o.size) (cC.o.kept bI.o (fun h=>h) (fun h=>h)) I.o.1 I.o.2 aR (by kernel_rfl) there d1 bR.o _ rfl g out A bO.o);clear cO bq b0 cA;(go_wp2_with fail);refine cB.o.mono ?_;rintro e w2 ⟨l,v,ov,rfl,hW,cQ,aB,hl,M,ak⟩;obtain⟨cv,oc,rfl⟩:=aq aB;have cq:l<w2.heap.size:=hW.log.lt;obtain⟨F,aH⟩:∃F,g.aD[0]?=some F:=⟨g.aD[0]'hW.log.ne,fw hW.log.ne⟩;have aV:g.aD.headD 0=F:=by
  cases bn:g.aD with
  |nil=>rw[bn]at aH;cases aH
  |cons a r=>rw[bn]at aH;exact nj aH
 have cF:=af (fun dA (di:dA=w2.alloc (.cells #[dP D.d,dP l,qI 0,.slice none 0 0,qI 0] Po))=>jB.made cC.o bS.o (c6.o.lower bG) bI.o hW cQ hl ak di (aU bG bL.o));have cJ:=af aB;have OF:=af M;have dD:=af ak;have J:=af (And.intro aH aV);clear hW cQ aB hl M ak aH aV cB;go_upto_region 8 with fail
 refine au ?_;intro bX X;have cK:aj (∃P,wC w bX base p b w2.heap.size l z g out A w1.heap.size (.slice cv out.length oc) 0 ⟨Dk.new z,g,0,[],0⟩ P):=af (by
  obtain⟨P,m1,m0,m2,m3,m4⟩:=cF.o bX X;have dx:ah No w2 bX:=(by rw[X];exact(aA _).alloc _);refine⟨P,m1,m0,m2,m3,dx.mM cJ.o,fun i hi e=>?_,rfl,rfl,.inl rfl⟩;have dh:=cJ.o.lt i hi;rcases m4 i e with e|e|e
  ·omega
  ·omega
  ·exact OF.o i hi e)
 clear X cF OF cq;go_wp2_with fail
 go_loopw [39] (fun q wr=>∃(k:Nat) (x:Ld) (P:Lp),k≤out.length∧q=qI k∧wC w wr base p b w2.heap.size l z g out A w1.heap.size (.slice cv out.length oc) k x P) (fun q _=>out.length-(intOf q).toNat)
 case atStart=>
  obtain⟨P,dm⟩:=cK.o;exact⟨0,_,P,aX _,rfl,dm⟩
 case round=>
  obtain⟨k,x,P,dJ,rfl,G⟩:=hrel;have K:=af G;have dn:(0:Int)≤(k:Int):=(by omega);clear cK;by_cases C:k<out.length
  ·have cn:(k:Int)<(out.length:Int):=(by omega);have bD:Reads wr 1 (.slice cv out.length oc) out.length (out.map encStr):=Reads.fu G.txt (by intro u hu;obtain⟨t,_,rfl⟩:=jq.1 hu;rfl);obtain⟨q,off,c',he,_,_,_,cT⟩:=Reads.addr bD (by rw[eE];omega);simp only[Value.slice.injEq,true_and]at he;obtain⟨rfl,rfl⟩:=he;have hc:=cT k _ (by rw[oR,fw C];rfl);have cu:=c8.o _ (dw C);obtain⟨t,ct⟩:=ay (out[k]);have bQ:=af ct;rw[←ct]at hc cu;obtain⟨T,bJ⟩:=ay (bB t);have cg:wr.cell? ⟨q,off+k,none⟩=some (.string T):=(by rw[bJ];exact hc);have O:aj (Calls prog 12 #[.string T] wr (zm wr (ij t))):=af (by
    have dH:T.size=t.length:=(by rw[bJ];simp[bB,ByteArray.size]);have:=Jr wr T (by omega);rw[show T.data.toList=t by rw[bJ];simp[bB]]at this;exact this)
   clear cT hc bD ct bJ G;(go_wp2_with fail);obtain⟨Rd,U⟩:=ay (ij t);rw[←U]at O;have H:=af U;clear U;obtain⟨r,ec⟩:=Rd;refine O.o.mono ?_;rintro e cV ⟨v4,rfl,av,bu⟩;obtain⟨na,nc,rfl⟩:=aq av;have cI:=af av;have cL:=af (K.o.no bu);clear av bu O cg;go_upto_region 12 with fail
   refine au ?_;intro n m;have aL:ah No cV n:=(by rw[m];exact(aA _).alloc _);have dF:ai n cV.heap.size 0 21=some (fS r (.slice na r.ids.length nc)):=(by rw[m];simp[go_sem]);have j:=af (cL.o.no aL);have bW:aj (aI bN Tp n wr.heap.size (.slice na r.ids.length nc) r.ids):=af (aL.mM cI.o);clear m aL cL cI;by_cases te:ec=0
   case neg=>
    have be:(ec !=0)=true:=(by simpa using te);have f:aj (E=(14,none,A)):=af (by
     have:je z g out=none:=oA (Ld.oz C j.o.UE (by rw[←bQ.o, ←H.o,aJ te];rfl));rw[aF.o];unfold eG;rw[this])
    clear te;go_wp2
    go_ret2
    exact⟨j.o.kp,by rw[f.o];exact j.o.led.disk,by rw[f.o];rfl⟩
   subst te;have Q:aj (Calls prog 72 #[dP l] n (qW n (qI F))):=af (by
    have h:=vo j.o.led.led.log.log F (by rw[j.o.lg];exact J.o.1);rw[j.o.pg]at h;exact h)
   have B:(0:Int)≤(F:Int):=(by omega);by_cases aC:F=0
   case neg=>
    have aE:(0:Int)<(F:Int):=(by omega);have f:aj (E=(14,none,A)):=af (by
     have:je z g out=none:=qx (by rw[J.o.2];omega);rw[aF.o];unfold eG;rw[this])
    clear aC B;(go_wp2_with fail);refine Q.o.mono ?_;rintro e bH ⟨rfl,rfl⟩;go_wp2
    go_ret2
    exact⟨j.o.kp,by rw[f.o];exact j.o.led.disk,by rw[f.o];rfl⟩
   have aE:¬(0:Int)<(F:Int):=(by omega);have c7:aj (cH r=true):=af (by
    have h:(ij t).2=0:=(by rw[←H.o]);have:=Hv h;rw[←H.o]at this;exact this)
   have R:aj (Calls prog 73 #[dP w2.heap.size,oM r (.slice na r.ids.length nc)] n (l9 n base P (x.fold r) A)):=af (by
    rw[←j.o.pl];refine yJ j.o.led.led r _ bW.o.Bk c7.o (fun i hi e=>?_);have dh:=(bW.o.lt i hi).1;have dI:=K.o.led.led.lt i e;omega)
   obtain⟨⟨cN,x'⟩,Z⟩:∃y,y=x.fold r:=⟨_,rfl⟩;rw[←Z]at R;have S:=af Z;clear Z B;(go_wp2_with fail);refine Q.o.mono ?_;rintro e bH ⟨rfl,rfl⟩;(go_wp2_with fail);refine R.o.mono ?_;rintro e bH ⟨rfl,hp⟩;have aG:=af hp;clear hp Q R;by_cases bK:cN=0
   case neg=>
    have bf:(cN !=0)=true:=(by simpa using bK);have f:aj (E=(14,none,A)):=af (by
     have:je z g out=none:=oA (Ld.oz C j.o.UE (by rw[←bQ.o, ←H.o];simp only;rw[←S.o,aJ bK];rfl));rw[aF.o];unfold eG;rw[this])
    clear bK;go_wp2
    go_ret2
    obtain⟨P',_,_,aN,bF,_,_⟩:=j.o.led.step j.o.kp aG.o;exact⟨bF,by rw[f.o];exact aN.disk,by rw[f.o];rfl⟩
   subst bK;have dc:aj (∃P',wC w bH base p b w2.heap.size l z g out A w1.heap.size (.slice (some ⟨q,off,none⟩) out.length oc) (k+1) x' P'):=af (by
    refine j.o.next aG.o ?_ ?_ (by rw[J.o.2,aC])
    ·rw[iK C,Ld.rZ j.o.UE, ←bQ.o, ←H.o];simp only;rw[←S.o];rfl
    ·have h:=Ld.EK x r;rw[←S.o]at h;exact h.trans j.o.lg)
   clear aG j bW;go_wp2;go_roundw
   case rel=>
    obtain⟨P',bZ⟩:=dc.o;exact⟨k+1,x',P',by omega,by go_num,bZ⟩
   case measure=>simp[intOf];omega
  ·have bp:k=out.length:=(by omega);have cn:¬((k:Int)<(out.length:Int)):=(by omega);have N:Ld.replay ⟨Dk.new z,g,0,[],0⟩ out=some x:=(by have:=G.UE;rw[bp,jH]at this;exact this);have aS:=af N;have d2:wr.cell? ⟨w2.heap.size,2,none⟩=some (qI x.ep):=(by have:=G.led.led.cells.2.2.1;rw[G.pl]at this;exact this);have e0:=G.led.led.e0;have e1:=G.led.led.e1;have Q:aj (Calls prog 72 #[dP l] wr (qW wr (qI F))):=af (by
    have h:=vo G.led.led.log.log F (by rw[G.lg];exact J.o.1);rw[G.pg]at h;exact h)
   have B:(0:Int)≤(F:Int):=(by omega);clear N G bp C;by_cases te:1099511627776≤x.ep
   ·have f:aj (E=(14,none,A)):=af (by
     have h:je z g out=none:=by
      by_cases aC:F=0
      ·rw[oB (by rw[J.o.2,aC]) aS.o,aM te];rfl
      ·exact qx (by rw[J.o.2];omega)
     rw[aF.o];unfold eG;rw[h])
    clear B;go_wp2
    go_ret2
    exact⟨K.o.kp,by rw[f.o];exact K.o.led.disk,by rw[f.o];rfl⟩
   by_cases aC:F=0
   case neg=>
    have aE:(0:Int)<(F:Int):=(by omega);have f:aj (E=(14,none,A)):=af (by
     have:je z g out=none:=qx (by rw[J.o.2];omega);rw[aF.o];unfold eG;rw[this])
    clear aC B;(go_wp2_with fail);refine Q.o.mono ?_;rintro e bH ⟨rfl,rfl⟩;go_wp2
    go_ret2
    exact⟨K.o.kp,by rw[f.o];exact K.o.led.disk,by rw[f.o];rfl⟩
   have aE:¬(0:Int)<(F:Int):=(by omega);have bM:aj (je z g out=some x):=af (by rw[oB (by rw[J.o.2,aC]) aS.o,aJ te];rfl);obtain⟨Y,b_⟩:=ay (x.write A [bP (x.ep+1)]);have aQ:aj (E=bif decide (Y.1=0)then(0,some Y.2.1,Y.2.2)else(Y.1,none,Y.2.2)):=af (by
    rw[aF.o,b_];unfold eG;rw[bM.o])
   obtain⟨n,m⟩:=ay (wr.alloc (.cells (wB (gy (bP (x.ep+1)))).toArray wi));have aL:ah No wr n:=(by rw[m];exact(aA _).alloc _);have g5:n.heap[wr.heap.size]?=some (.cells (wB (gy (bP (x.ep+1)))).toArray wi (0,0)):=(by rw[m];exact bT wr _);have j:=K.o.no aL;have aW:xJ n (gj P) (.slice (some ⟨wr.heap.size,0,none⟩) 1 1) [gy (bP (x.ep+1))]:=BG g5 (fun e=>by have:=K.o.led.led.lt _ e;omega) (uH (by omega) (by omega)) rfl;have aO:=qu (cD.o.kept j.kp (fun i hi=>by rcases hi with e|e;exact e▸I.o.1;exact e▸I.o.2)) (aU bS.o j.kp.size) j.led.led _ _ aW (by simp) (by have:=bV.o;rw[j.lg];simp only[iY,iP];omega) (by have:=bU.o;rw[j.lg];simp only[iY,iP];omega)
   replace aO:Calls prog 74 #[dP w2.heap.size,.slice (some ⟨wr.heap.size,0,none⟩) 1 1] n (pI n base P Y):=(by rw[b_, ←j.pl];exact aO);have aT:=af j;rw[m]at aO;have aP:aj (Calls prog 74 #[dP w2.heap.size,.slice (some ⟨wr.heap.size,0,none⟩) 1 1]
    (wr.alloc (.cells #[qI 1,qI (x.ep+1),qI 0,qI 0,qI 0,qI 0,qI 0,qI 0,qI 0,qI 0,qI 0,qI 0,qI 0,qI 0,qI 0,qI 0,qI 0,qI 0,qI 0,qI 0,.slice none 0 0] 30)) (pI n base P Y)):=af (by rw[m];exact aO)
   clear aO j aW aL g5 m b_ B;obtain⟨cw,dB,cZ⟩:=Y;(go_wp2_with fail);refine Q.o.mono ?_;rintro e bH ⟨rfl,rfl⟩;(go_wp2_with fail);refine aP.o.mono ?_;rintro e dK ⟨rfl,hp⟩;have aG:=af hp;clear hp aP Q;by_cases ty:cw=0
   case neg=>
    have dG:(cw !=0)=true:=(by simpa using ty);have f:aj (E=(cw,none,cZ)):=af (by rw[aQ.o,aJ ty];rfl);clear ty;go_wp2
    go_ret2
    obtain⟨P',_,_,aN,bF,_,_⟩:=aT.o.led.step aT.o.kp aG.o;exact⟨bF,by rw[f.o];exact aN.disk,by rw[f.o];rfl⟩
   subst ty;have f:aj (E=(0,some dB,cZ)):=af (by rw[aQ.o];rfl);go_wp2
   go_ret2
   obtain⟨P',dz,_,aN,bF,_,_⟩:=aT.o.led.step aT.o.kp aG.o;refine⟨bF,by rw[f.o];exact aN.disk,?_⟩;rw[f.o];exact⟨P',by rw[dz,aT.o.pl];rfl,aN⟩
end
end
section
open Go.Proofs.Tryz
def Ld.like (l m:Ld):Prop:=l.dk=m.dk∧l.ep=m.ep∧l.cmds=m.cmds
theorem Ld.like.rfl' (l:Ld):l.like l:=⟨rfl,rfl,rfl⟩
theorem Ld.Dm {l m:Ld}(h:l.like m)(r:Lr):(l.fold r).1=(m.fold r).1∧(l.fold r).2.like (m.fold r).2:=by
 obtain⟨e,f,a,lcm,le⟩:=l;obtain⟨i,o,j,g,p⟩:=m;obtain⟨b,c,d⟩:=h;simp only at b c d;subst b c d;unfold Ld.fold;simp only;cases decide (r.k=1)
 ·cases decide (r.k=2)
  ·cases decide (r.k=3)
   ·cases decide (r.k=4)<;>exact⟨rfl,rfl,rfl,rfl⟩
   ·exact⟨rfl,rfl,rfl,rfl⟩
  ·exact⟨rfl,rfl,rfl,rfl⟩
 ·cases decide (r.n=a+1)<;>exact⟨rfl,rfl,rfl,rfl⟩
def Ld.fits:Ld→List Lr→Prop
 |_,[]=>True
 |l,r::rs=>cH r=true∧(l.fold r).1=0∧Ld.fits (l.fold r).2 rs
theorem Ld.pO:∀(rs:List Lr) {l m:Ld},l.like m→l.fits rs→m.fits rs
 | [],_,_,_,_=>trivial
 |r::rs,l,m,h,hf=>by
  obtain⟨a,b⟩:=Ld.Dm h r;exact⟨hf.1,a▸hf.2.1,Ld.pO rs b hf.2.2⟩
theorem Ld.kQ:∀(rs:List Lr) {l m:Ld},l.like m→(l.run rs).like (m.run rs)
 | [],_,_,h=>h
 |r::rs,_,_,h=>Ld.kQ rs (Ld.Dm h r).2
theorem Ld.uI (l:Ld)(a b:List Lr):l.run (a++b)=(l.run a).run b:=by
 unfold Ld.run;rw[xT]
theorem Ld.oC:∀(a b:List Lr) (l:Ld),l.fits (a++b)↔l.fits a∧(l.run a).fits b
 | [],_,_=>⟨fun h=>⟨trivial,h⟩,fun h=>h.2⟩
 |r::a,b,l=>by
  show(cH r=true∧(l.fold r).1=0∧(l.fold r).2.fits (a++b))↔(cH r=true∧(l.fold r).1=0∧(l.fold r).2.fits a)∧((l.fold r).2.run a).fits b;rw[Ld.oC a b];constructor
  ·rintro⟨c,d,e,f⟩;exact⟨⟨c,d,e⟩,f⟩
  ·rintro⟨⟨c,d,e⟩,f⟩;exact⟨c,d,e,f⟩
theorem Ld.MK {l:Ld}{rs:List Lr}(h:l.fits rs)(k:Nat):l.fits (rs.take k):=by
 rw[←jN k rs,Ld.oC]at h;exact h.1
theorem Ld.yP:∀(rs:List Lr) (l:Ld),l.fits rs→l.replay (rs.map eF)=some (l.run rs)
 | [],_,_=>rfl
 |r::rs,l,h=>by
  obtain⟨a,b,c⟩:=h;show(bif decide ((ij (eF r)).2=0)&&decide ((l.fold (ij (eF r)).1).1=0)then Ld.replay (l.fold (ij (eF r)).1).2 (rs.map eF)else none)=_
  rw[N_ a];simp only;rw[aM b];exact Ld.yP rs _ c
theorem qy:∀(rs:List Lr),(∀r∈rs,cH r=true)→gS rs=(rs.map eF).map bB
 | [],_=>rfl
 |r::rs,h=>by
  have a:dQ r=(eF r,0):=(by unfold dQ;rw[h r (m_ ..)];rfl);show bB (dQ r).1::gS rs=bB (eF r)::(rs.map eF).map bB;rw[a,qy rs (fun x b=>h x (qQ _ b))]
theorem Ld.BH:∀(rs:List Lr) {l:Ld},l.fits rs→∀r∈rs,cH r=true
 | [],_,_,_,b=>by cases b
 |r::rs,_,h,x,a=>by
  rcases q4.1 a with rfl|a
  ·exact h.1
  ·exact Ld.BH rs h.2.2 x a
theorem Ld.BI (l:Ld):l.fold (bP (l.ep+1))=(0,⟨⟨l.dk.z,iF l.dk.pl,l.dk.q,l.dk.t,l.dk.o⟩,l.lg,l.ep+1,l.cmds,l.e⟩):=by
 show(bif decide (l.ep+1=l.ep+1)then(0,⟨⟨l.dk.z,iF l.dk.pl,l.dk.q,l.dk.t,l.dk.o⟩,l.lg,l.ep+1,l.cmds,l.e⟩)else(14,l))=_
 rw[aM rfl];rfl
end
section
open Go.Proofs.Tryz
open Go.RowKit Go.Shelf Go.Sort Go.Joins Go.Deep
def Gives (w:World)(v:Value)(e:Ending)(w':World):Prop:=e= .returned v∧ah No w w'
def zS:Zf:=⟨1,1,256,0,0,2,2⟩
theorem Hw:o9 zS=true:=by kernel_rfl
theorem sP (w:World):Calls prog 28 #[] w (Gives w (D8 zS)):=by
 (go_enter func28,ntmps28);go_wp2;have a:Gives w (D8 zS) (.returned (D8 zS)) (w.alloc (.cells #[qI 1,qI 1,qI 256,qI 0,qI 0,qI 2,qI 2] 45)):=⟨rfl,(aA _).alloc _⟩;refine aY (v:=D8 zS) ?_ rfl a;simp[results,results28,go_sem,zS]
def cS:Cm:=⟨1,0,0,0,⟨0,0,0,1,0,0,0,0,0,0,0⟩,0⟩
def VF (g:Lg):Ld:=⟨Dk.new zS,g,0,[],0⟩
def U9:Ds:=(gQ Ds.new aR).2.2
theorem Vr:gQ Ds.new aR=(0,[0],U9):=by kernel_rfl
def UF:Lg×List Nm×Ds:=mJ aR [0] (kH aR [0] U9)
theorem Vs:mJ aR [0] (kH aR [0] U9)=(⟨aR,[0],0⟩,[],UF.2.2):=by kernel_rfl
def TX:Int×Option Ld×Ds:=eG zS ⟨aR,[0],0⟩ [] UF.2.2
def J2:Ld:=TX.2.1.getD (VF UF.1)
theorem Vt:eG zS ⟨aR,[0],0⟩ [] UF.2.2=(0,some J2,TX.2.2):=by kernel_rfl
theorem SH:J2.lg.next=1∧J2.lg.aD= [0]:=⟨by kernel_rfl,by kernel_rfl⟩
def UG:Cm×Int×Ld×Ds:=J2.call TX.2.2 cS
theorem Vu:J2.call TX.2.2 cS=(cS,0,UG.2.2.1,UG.2.2.2):=by kernel_rfl
def TY:Ds:=UG.2.2.2.RR 0
theorem Vv:gQ TY aR=(0,[0],TY):=by kernel_rfl
def SI:Lg×List Nm×Ds:=mJ aR [0] (kH aR [0] TY)
theorem Vw:mJ aR [0] (kH aR [0] TY)=(⟨aR,[0],3⟩,SI.2.1,SI.2.2):=by kernel_rfl
theorem SJ:SI.2.1.length=3∧SI.2.1.all (fun t=>Nat.ble t.length 100)=true:=⟨by kernel_rfl,by kernel_rfl⟩
def U_:Int×Option Ld×Ds:=eG zS ⟨aR,[0],3⟩ SI.2.1 SI.2.2
def PU:Ld:=U_.2.1.getD (VF UF.1)
theorem Vx:eG zS ⟨aR,[0],3⟩ SI.2.1 SI.2.2=(0,some PU,U_.2.2):=by kernel_rfl
theorem UH:PU.ep=2∧PU.dk.q.length=1:=⟨by kernel_rfl,by kernel_rfl⟩
theorem Vy:dQ (bP 2)=([1,1,1,2],0):=by kernel_rfl
theorem EN {w:World}{base:Nat}(aN:Laid w base)(hb:base≤w.heap.size):Calls prog 9 #[] w (qG w (.bool true)):=by
 have I:=af aN;have b:=af hb;clear aN hb;(go_enter func9,ntmps9);(go_wp2_with fail);refine(Kl w).mono ?_;rintro e w1 ⟨rfl,x,z⟩;have aP:=af z;have av:=af x;clear z x;(go_wp2_with fail);refine(sP w1).mono ?_;rintro e w2 ⟨rfl,n⟩;have u:=af (aP.o.aK n);have T:=u.o.size;have ay:=af (av.o.kept n (fun h=>h) (fun h=>h));have s:aj (Calls prog 18 #[dP (w.heap.size+1),D8 zS] w2 (EL w2 base (w.heap.size+1) w.heap.size (0,some J2,TX.2.2))):=af (by
  rw[←Vt];exact r8 (I.o.kept u.o (fun _ h=>h.elim)) (aU b.o T) ay.o (by have:=b.o;omega) b.o zS Hw [0] U9 Vr _ _ _ Vs (by decide) (fun t U=>by cases U) (by decide) (by decide))
 clear n av;(go_wp2_with fail);refine s.o.mono ?_;rintro e E ⟨d,R,hm⟩;obtain⟨P,rfl,A⟩:∃P,e= .returned (.tuple #[dP P.l,qI 0])∧jB w2 E base (w.heap.size+1) w.heap.size P J2 TX.2.2:=hm;have J:aj (ah (Two (w.heap.size+1) w.heap.size) w2 E):=af d;have aE:=af A;have aR:=af ((I.o.kept u.o (fun _ h=>h.elim)).kept d (fun i hi=>by have:=b.o;rcases hi with e|e<;>omega))
 have aX:=d.size;have CC:aj (Calls prog 20 #[dP P.l,.agg #[qI 1,qI 0,qI 0,qI 0,qI 0,qI 0,qI 0,qI 1,qI 0,qI 0,qI 0,qI 0,qI 0,qI 0,qI 0,qI 0]] E (mo E base P (cS,0,UG.2.2.1,UG.2.2.2))):=af (by
  rw[←Vu];exact Hu aR.o (by have:=b.o;omega) aE.o.led cS (by rw[SH.1];decide) (by rw[SH.2];decide))
 clear d R hm A s;(go_wp2_with fail);refine CC.o.mono ?_;rintro e F ⟨rfl,hp⟩;obtain⟨bg,_,_,B,p,_,_⟩:=aE.o.step J.o hp;have aB:=af B.disk;have K:aj (ah (Two (w.heap.size+1) w.heap.size) w2 F):=af p;have aY:=p.size;have aW:w.heap.size+1<w2.heap.size:=ay.o.lt.1;clear hp B p CC;go_upto_region 6 with fail
 refine au ?_;intro Q m;have aI:ai Q F.heap.size 4 3=some [qI 0,qI 0,qI 0]:=(by rw[m];simp[go_sem,cS]);have V:ah No F Q:=(by rw[m];exact(aA _).alloc _);have aC:=af (aB.o.kept V (fun h=>h) (fun h=>h));have L:aj (ah (Two (w.heap.size+1) w.heap.size) w2 Q):=af (K.o.mS V);clear m V aB;(go_wp2_with fail);refine(Lj aC.o 0).mono ?_;rintro e Y ⟨rfl,y,q⟩;have aD:aj (qN Y (w.heap.size+1) w.heap.size TY):=af y;have aJ:ai Y F.heap.size 4 3=some [qI 0,qI 0,qI 0]:=cK q aI (fun e=>by rcases e with e|e<;>omega)
 have M:=af (L.o.aK q);clear y q aI aC;(go_wp2_with fail);refine(sP Y).mono ?_;rintro e G ⟨rfl,f⟩;have aO:=af (aD.o.kept f (fun h=>h) (fun h=>h));have k:aj (ah (Two (w.heap.size+1) w.heap.size) w2 G):=af (M.o.mS f);have aL:=f.ai aJ;have aS:=af ((I.o.kept u.o (fun _ h=>h.elim)).kept k.o (fun i hi=>by have:=b.o;rcases hi with e|e<;>omega))
 have aZ:=k.o.size;have s:aj (Calls prog 18 #[dP (w.heap.size+1),D8 zS] G (EL G base (w.heap.size+1) w.heap.size (0,some PU,U_.2.2))):=af (by
  rw[←Vx];exact r8 aS.o (by have:=b.o;omega) aO.o (by have:=b.o;omega) b.o zS Hw [0] TY Vv _ _ _ Vw (by rw[SJ.1];decide) (fun t U=>by have h:=qD.1 SJ.2 t U;have:=Nat.le_of_ble_eq_true h;omega) (by decide) (by decide))
 clear f aJ aD;(go_wp2_with fail);refine s.o.mono ?_;rintro e H ⟨r,S,hm⟩;obtain⟨aH,rfl,C⟩:∃P,e= .returned (.tuple #[dP P.l,qI 0])∧jB G H base (w.heap.size+1) w.heap.size P PU U_.2.2:=hm;have aM:=cK r aL (fun e=>by rcases e with e|e<;>omega)
 have N:=af (k.o.aK r);have aF:=af C.led;have CE:aj (Calls prog 10 #[.agg #[qI 1,qI 2,qI 0,qI 0,qI 0,qI 0,qI 0,qI 0,qI 0,qI 0,qI 0,qI 0,qI 0,qI 0,qI 0,qI 0,qI 0,qI 0,qI 0,qI 0,.slice none 0 0]] H (qG H (.tuple #[.string ⟨#[1,1,1,2]⟩,qI 0]))):=af (by
  have h:=ux H (bP 2) (.slice none 0 0) (Reads.nil _ _);rw[Vy]at h;exact h)
 clear r S hm C s aL;(go_wp2_with fail);refine CE.o.mono ?_;rintro e D ⟨rfl,g⟩;have bk:=g.ai aM;have aG:=af (aF.o.no g);have O:aj (ah (Two (w.heap.size+1) w.heap.size) w2 D):=af (N.o.mS g);have Z:aj (Calls prog 25 #[dP aH.l] D (qW D (qI 2))):=af (by
  have h:=wj aG.o;rw[UH.1]at h;exact h)
 have ak:aj (Calls prog 40 #[dP aH.l] D fun e w'=>(∃a c,e= .returned (.slice a 1 c))∧ah No D w'):=af (by
  refine(rW aG.o).mono ?_;rintro e w' ⟨v,rfl,aV,aT⟩;obtain⟨a,c,rfl⟩:=aq aV;rw[UH.2];exact⟨⟨a,c,rfl⟩,aT⟩)
 have en:∀W,(binOp .eql 23 (.agg #[qI 0,qI 0,qI 0]) (.agg #[qI 0,qI 0,qI 0])).run prog W= .ok (.bool true) W:=fun W=>Bl cO.zero cO.zero W;clear g aM aF CE;(go_wp2_with fail);refine Z.o.mono ?_;rintro e bf ⟨rfl,rfl⟩;(go_wp2_with fail);refine ak.o.mono ?_;rintro e X ⟨⟨a,c,rfl⟩,j⟩;have aQ:aj (ah No w X):=af ((u.o.trans (O.o.mS j) (fun i hi e=>by rcases e with e|e<;>omega)))
 clear j ak Z;go_wp2;go_ret;exact⟨rfl,aQ.o⟩
end
