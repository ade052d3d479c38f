/- Lemmas. -/
import Derived.Test.YtpbpgjfdledgoaaGreatDoorZo31
set_option linter.all false
set_option maxRecDepth 100000
set_option maxHeartbeats 8000000
open Nat renaming add_zero→qH,zero_add→bC,min_eq_left→Gd
open List renaming length_set→O7,length_map→yB,length_take→yC,set_cons_zero→b_,setIfInBounds_toArray→cw,set_cons_succ→cn
namespace Go.Proofs.YtpbpgjfdledgoaaGreatDoor
open Go.Proofs.Tryz
open Go.RowKit Go.Shelf Go.Sort Go.Joins Go.Deep
abbrev Jv:TypeId:=259
abbrev Qb:TypeId:=257
abbrev HZ (x:Sl):List Value:= [qI x.s,qI x.i,qI x.g,qI x.b,qI x.r,.bool x.a]
def EZ:dX Sl:=⟨HZ,6,fun _=>rfl,fun a u h=>by simp[HZ]at h;rcases h with rfl|rfl|rfl|rfl|rfl|rfl<;>rfl,by decide⟩
structure jf (w:World)(base q:Nat)(v:Value)(rq:Rq):Prop where
 box:w.heap[q]?=some (.cells #[v,qI rq.put] Qb (0,0))
 row:aI EZ Jv w base v rq.l
 qn:¬v.ownBlock=some q
 bq:base≤q
 few:rq.l.length≤256
 p0:0≤rq.put
def tK (q:Nat)(v:Value):Nat→Prop:=fun i=>i=q∨v.ownBlock=some i
section
variable {w w':World}{base q:Nat}{v:Value}{rq:Rq}
theorem jf.kept {S:Nat→Prop}(h:jf w base q v rq)(k:ah S w w')(hS:∀i,tK q v i→¬S i):jf w' base q v rq:=
 ⟨k.heap h.box (hS _ (.inl rfl)),k.owns h.row (fun i hi=>hS i (.inr hi)),h.qn,h.bq,h.few,h.p0⟩
theorem jf.no (h:jf w base q v rq)(k:ah No w w'):jf w' base q v rq:=h.kept k (fun _ _ h=>h)
theorem jf.c0 (h:jf w base q v rq):w.cell? ⟨q,0,none⟩=some v:=by rw[bW _ _ _ _ _ _ h.box];rfl
theorem jf.c1 (h:jf w base q v rq):w.cell? ⟨q,1,none⟩=some (qI rq.put):=by rw[bW _ _ _ _ _ _ h.box];rfl
def Cl (o:Option Nat):Int:=match o with|some n=>n|none=> -1
theorem Bp {k i:Int}{x:Sl} :AO k i x=true↔x.s=k∧x.i=i:=by unfold AO;simp
theorem rT (h:jf w base q v rq)(k i:Int):Calls prog 232 #[dP q,qI k,qI i] w (qW w ((qI (Cl (F2 rq k i))))):=by
 obtain⟨R,u⟩:=ay (Cl (F2 rq k i));rw[←u];have D:=af u;obtain⟨va,vc,rfl⟩:=aq h.row;have c0:=h.c0;have E:=af (aI.reads h.row);have F:=af h.few;clear h u;(go_enter func232,ntmps232);go_wp2
 go_loopw [7] (fun C wr=>∃n:Nat,n≤rq.l.length∧C=qI n∧(∀j x,j<n→rq.l[j]?=some x→AO k i x=false)∧wr=w) (fun C _=>rq.l.length-(intOf C).toNat)
 case atStart=>exact⟨0,aX _,rfl,fun j x d=>absurd d (w5 _),rfl⟩
 case round=>
  obtain⟨n,hn,rfl,b,rfl⟩:=hrel;have f:=af b;have G:(0:Int)≤(n:Int):=(by omega);have H:(n:Int)≤256:=(by have:=F.o;omega);clear b;by_cases a:n<rq.l.length
  ·have A:(n:Int)<(rq.l.length:Int):=(by omega);obtain⟨g,off,rfl,_,_,_⟩:=aW.addr EZ E.o (by omega);have p:ai wr g (off+n*6) 6=some (HZ rq.l[n]):=aW.at EZ E.o n a;obtain⟨x,B⟩:=ay (rq.l[n]);rw[←B]at p;have r:aj (rq.l[n]?=some x):=af (by rw[B];exact fw a);have r0:=ak p 0 _ rfl;have r1:=ak p 1 _ rfl;simp only[qH]at r0;clear B p;have next:aj (AO k i x=false→∀j y,j<n+1→rq.l[j]?=some y→AO k i y=false):=af (fun hs j y d hy=>by
    by_cases e:j=n
    ·subst e;rw[r.o]at hy;cases hy;exact hs
    ·exact f.o j y (by omega) hy)
   by_cases hs:x.s=k
   ·by_cases hi:x.i=i
    ·have c:aj (R=(n:Int)):=af (by
      rw[D.o];unfold F2;rw[E0.2 ⟨a,by have:=r.o;rw[fw a]at this;rw[nj this];exact Bp.2 ⟨hs,hi⟩,fun j d=>by rw[f.o j _ d (fw (by omega))];decide⟩];rfl)
     have m:(x.s==k)=true:=(by simpa using hs);have z:(x.i==i)=true:=(by simpa using hi);clear hs hi next a f r;go_wp2;go_ret;exact⟨by rw[c.o];rfl,rfl⟩
    ·have t:=af (next.o (by cases e:AO k i x with|false=>rfl|true=>exact absurd (Bp.1 e).2 hi))
     have m:(x.s==k)=true:=(by simpa using hs);have z:(x.i==i)=false:=(by simpa using hi);clear hs hi next;go_wp2;go_roundw
     case rel=>exact⟨n+1,by omega,by go_num,t.o,by first|rfl|trivial⟩
     case measure=>simp[intOf];omega
   ·have t:=af (next.o (by cases e:AO k i x with|false=>rfl|true=>exact absurd (Bp.1 e).1 hs))
    have m:(x.s==k)=false:=(by simpa using hs);clear hs next;go_wp2;go_roundw
    case rel=>exact⟨n+1,by omega,by go_num,t.o,by first|rfl|trivial⟩
    case measure=>simp[intOf];omega
  ·have A:¬(n:Int)<(rq.l.length:Int):=(by omega);have c:aj (R= -1):=af (by
    rw[D.o];unfold F2;rw[Dz.2 (fun y hy=>by
     obtain⟨j,d,rfl⟩:=uL hy;exact f.o j _ (by omega) (fw d))]
    rfl)
   clear a f;go_wp2;go_ret;exact⟨by rw[c.o];rfl,rfl⟩
end
section
variable {w w':World}{base q:Nat}{v:Value}{rq:Rq}
theorem Ex (l:List Sl)(k:Int){n:Nat}{x:Sl}(a:l[n]?=some x):dH l k (n+1)=bif lD l k (dH l k n) x then some n else dH l k n:=by
 show(match l[n]? with|none=>dH l k n|some x=>bif lD l k (dH l k n) x then some n else dH l k n)=_
 rw[a]
theorem GJ (h:jf w base q v rq)(k:Int):Calls prog 289 #[dP q,qI k] w (qG w ((qI (Cl (AP rq.l k))))):=by
 obtain⟨R,H⟩:=ay (Cl (AP rq.l k));rw[←H];have Z:=af H;obtain⟨va,vc,rfl⟩:=aq h.row;have HH:=af h;have G:=af (aI.reads h.row);have Y:=af h.few;clear h H;(go_enter func289,ntmps289);go_wp2
 go_loopw [5,6] (fun m O wr=>∃n:Nat,n≤rq.l.length∧O=qI n∧m=qI (Cl (dH rq.l k n))∧ah No w wr) (fun _ O _=>rq.l.length-(intOf O).toNat)
 case atStart=>exact⟨0,aX _,rfl,rfl,aA _⟩
 case round=>
  obtain⟨n,hn,rfl,rfl,hK⟩:=hrel;obtain⟨p,L⟩:=ay (wr);subst L;have u:=af hK;have c0:=hK.cB HH.o.c0;have aE:(0:Int)≤(n:Int):=(by omega);have aF:(n:Int)≤256:=(by have:=Y.o;omega);clear hK;by_cases i:n<rq.l.length
  ·have J:(n:Int)<(rq.l.length:Int):=(by omega);obtain⟨g,off,rfl,_,_,_⟩:=aW.addr EZ G.o (by omega);have T:ai p g (off+n*6) 6=some (HZ rq.l[n]):=aW.at EZ (G.o.kept u.o (fun _ _ h=>h)) n i;have S:aj (∀j y,rq.l[j]?=some y→p.cell? ⟨g,off+j*6+4,none⟩=some (qI y.r)):=af (fun j y A=>by
    have B:j<rq.l.length:=(eC.1 A).1;have c:=aW.at EZ (G.o.kept u.o (fun _ _ h=>h)) j B;rw[fw B]at A;rw[nj A]at c;exact ak c 4 _ rfl)
   obtain⟨x,N⟩:=ay (rq.l[n]);rw[←N]at T;have av:aj (rq.l[n]?=some x):=af (by rw[N];exact fw i);have a:=af (Ex rq.l k av.o);have f:=af (fun m (e:dH rq.l k n=some m)=>(kJ rq.l k n m e).1);obtain⟨M,U⟩:=ay (dH rq.l k n);rw[←U]at a f⊢;clear N U;go_upto_region 6 with fail
   refine au ?_;intro W hW;have k1:ah No p W:=(by rw[hW];exact(aA p).alloc _);have D:ai W p.heap.size 0 6=some (HZ x):=(by rw[hW];simp[go_sem]);have z:=af (u.o.aK k1);have d0:=k1.cB c0;have F:aj (∀j y,rq.l[j]?=some y→W.cell? ⟨g,off+j*6+4,none⟩=some (qI y.r)):=af (fun j y A=>k1.cB (S.o j y A));obtain⟨X,V⟩:=ay (p.heap.size);rw[←V]at D⊢;have x0:=ak D 0 _ rfl;have P:=ak D 4 _ rfl;simp only[bC]at x0 P;have aH:∀m,(W.drewN m).cell? ⟨X,0,none⟩=some (qI x.s):=fun _=>x0;have aG:∀m,(W.drewN m).cell? ⟨X,4,none⟩=some (qI x.r):=fun _=>P;have lp:∀m,(W.drewN m).cell? ⟨q,0,none⟩=some (.slice (some ⟨g,off,none⟩) rq.l.length vc):=fun _=>d0;clear hW k1 V D T c0 u S x0 P d0;by_cases hs:x.s=k
   ·have K:(x.s==k)=true:=(by simpa using hs);by_cases E:0≤x.r
    ·cases M with
     |none=>
      have b:aj (dH rq.l k (n+1)=some n):=af (by rw[a.o];unfold lD;rw[aM hs,aM E];rfl);clear hs a f lp;have I:Cl none= -1:=rfl
      go_quiet (fail)
      go_wp2;go_roundw
      case rel=>exact⟨n+1,by omega,by go_num,by rw[b.o];rfl,z.o.drewN nq⟩
      case measure=>simp[intOf];omega
     |some j=>
      have C:=f.o j rfl;obtain⟨y,hy⟩:∃y,rq.l[j]?=some y:=⟨_,fw (by omega)⟩;have Q:=F.o j y hy;have aL:∀m,(W.drewN m).cell? ⟨g,off+j*6+4,none⟩=some (qI y.r):=fun _=>Q;have aB:(0:Int)≤(j:Int):=(by omega);have aC:(j:Int)<(rq.l.length:Int):=(by omega);have d:rowAt rq.l j=y.r:=(by unfold rowAt;rw[hy]);have I:Cl (some j)=(j:Int):=rfl;have aD:¬(j:Int)<0:=(by omega);by_cases hb:x.r<y.r
      ·have b:aj (dH rq.l k (n+1)=some n):=af (by rw[a.o];unfold lD;rw[aM hs,aM E];simp only[d];rw[aM hb];rfl);clear hs a f Q d hy C
       go_quiet (fail)
       go_wp2;go_roundw
       case rel=>exact⟨n+1,by omega,by go_num,by rw[b.o];rfl,z.o.drewN nq⟩
       case measure=>simp[intOf];omega
      ·have b:aj (dH rq.l k (n+1)=some j):=af (by rw[a.o];unfold lD;rw[aM hs,aM E];simp only[d];rw[aJ hb];rfl);clear hs a f Q d hy C
       go_quiet (fail)
       go_wp2;go_roundw
       case rel=>exact⟨n+1,by omega,by go_num,by rw[b.o],z.o.drewN nq⟩
       case measure=>simp[intOf];omega
    ·have b:aj (dH rq.l k (n+1)=M):=af (by rw[a.o];unfold lD;rw[aJ E,iL,jR];rfl);clear hs a f lp
     go_quiet (fail)
     go_wp2;go_roundw
     case rel=>exact⟨n+1,by omega,by go_num,by rw[b.o],z.o.drewN nq⟩
     case measure=>simp[intOf];omega
   ·have K:(x.s==k)=false:=(by simpa using hs);have b:aj (dH rq.l k (n+1)=M):=af (by rw[a.o];unfold lD;rw[aJ hs,iL];rfl);clear hs a f lp aG
    go_quiet (fail)
    go_wp2;go_roundw
    case rel=>exact⟨n+1,by omega,by go_num,by rw[b.o],z.o.drewN nq⟩
    case measure=>simp[intOf];omega
  ·have J:¬(n:Int)<(rq.l.length:Int):=(by omega);have t:aj (R=Cl (dH rq.l k n)):=af (by rw[Z.o];unfold AP;rw[show n=rq.l.length by omega]);obtain⟨m,hm⟩:=ay (Cl (dH rq.l k n));rw[←hm]at t⊢;clear i hm;go_wp2;go_ret;exact⟨by rw[t.o];rfl,u.o⟩
end
section
variable {w w':World}{base q:Nat}{v:Value}{rq:Rq}
theorem nQ {k i:Int}{n:Nat}{x:Sl}(h:ji rq k i=some (n,x)):F2 rq k i=some n∧rq.l[n]?=some x:=by
 unfold ji at h;cases b:F2 rq k i with
 |none=>rw[b]at h;cases h
 |some m=>
  rw[b]at h;simp only at h;cases a:rq.l[m]? with
  |none=>rw[a]at h;cases h
  |some y=>rw[a]at h;cases h;exact⟨rfl,a⟩
theorem Tc {k i:Int}{n:Nat}(h:F2 rq k i=some n):n<rq.l.length:=by
 unfold F2 at h;exact(E0.1 h).1
theorem qp {k i:Int}(h:ji rq k i=none):F2 rq k i=none:=by
 unfold ji at h;cases a:F2 rq k i with
 |none=>rfl
 |some m=>
  rw[a]at h;simp only[List.getElem?_eq_getElem (Tc a)]at h;cases h
theorem jf.slot (h:jf w base q v rq){n:Nat}{x:Sl}(a:rq.l[n]?=some x):∃g off c,v= .slice (some ⟨g,off,none⟩) rq.l.length c∧n<rq.l.length∧ai w g (off+n*6) 6=some (HZ x):=by
 obtain⟨va,vc,rfl⟩:=aq h.row;have hn:n<rq.l.length:=(eC.1 a).1;obtain⟨g,off,rfl,_,_,_⟩:=aW.addr EZ (aI.reads h.row) (by omega);have c:=aW.at EZ (aI.reads h.row) n hn;rw[fw hn]at a;rw[nj a]at c;exact⟨g,off,vc,rfl,hn,c⟩
theorem Td (h:jf w base q v rq)(k:Int):Calls prog 252 #[dP q,qI k] w (qG w ((.tuple #[qI (F3 rq k).1,.bool (F3 rq k).2.1,qI (F3 rq k).2.2]))):=by
 obtain⟨R,a⟩:=ay (F3 rq k);rw[←a];unfold F3 at a;have HH:=af h;have d:=af (rT h k 0);have f:=af (GJ h k);clear h;cases h0:F2 rq k 0 with
 |none=>
  rw[h0]at d a;have p:aj (R=(0,false,1)):=af a;have hm:Cl none= -1:=rfl;clear a h0 f;(go_enter func252,ntmps252);(go_wp2_with fail);refine d.o.mono ?_;rintro e w1 ⟨rfl,rfl⟩;go_wp2
  go_ret3
  exact⟨by rw[p.o];rfl,aA _⟩
 |some m=>
  rw[h0]at d a;have hm:Cl (some m)=(m:Int):=rfl;have E:¬(m:Int)<0:=(by omega);cases r:AP rq.l k with
  |none=>
   rw[r]at f a;have p:aj (R=(0,false,8)):=af a;have y:Cl none= -1:=rfl;clear a h0 r;(go_enter func252,ntmps252);(go_wp2_with fail);refine d.o.mono ?_;rintro e w1 ⟨rfl,rfl⟩;(go_wp2_with fail);refine f.o.mono ?_;rintro e w2 ⟨rfl,j⟩;have t:=af j;clear j f d;go_wp2
   go_ret3
   exact⟨by rw[p.o];rfl,t.o⟩
  |some n=>
   rw[r]at f a;obtain⟨z,x,A,_⟩:=kJ rq.l k rq.l.length n r;simp only[A]at a;have p:aj (R=(x.i,decide (x.g<x.b),0)):=af a;have y:Cl (some n)=(n:Int):=rfl;have F:¬(n:Int)<0:=(by omega);have C:(0:Int)≤(n:Int):=(by omega);have G:(n:Int)<(rq.l.length:Int):=(by omega);have B:=af A;clear a h0 r A z;(go_enter func252,ntmps252);(go_wp2_with fail);refine d.o.mono ?_;rintro e w1 ⟨rfl,rfl⟩;(go_wp2_with fail);refine f.o.mono ?_;rintro e w2 ⟨rfl,j⟩;have t:=af j;have u:=HH.o.no j;obtain⟨g,off,c,rfl,_,s⟩:=u.slot B.o;have d0:=u.c0;have r1:=ak s 1 _ rfl;have r2:=ak s 2 _ rfl;have D:=ak s 3 _ rfl;have lp:∀m,(w2.drewN m).cell? ⟨q,0,none⟩=some (.slice (some ⟨g,off,none⟩) rq.l.length c):=fun _=>d0;have l1:∀m,(w2.drewN m).cell? ⟨g,off+n*6+1,none⟩=some (qI x.i):=fun _=>r1;have l2:∀m,(w2.drewN m).cell? ⟨g,off+n*6+2,none⟩=some (qI x.g):=fun _=>r2;have H:∀m,(w2.drewN m).cell? ⟨g,off+n*6+3,none⟩=some (qI x.b):=fun _=>D;clear j f d u s d0 r1 r2 D B HH;go_upto_region 6 with fail
   go_quiet (fail)
   go_wp2
   go_ret3
   exact⟨by rw[p.o];rfl,t.o.drewN nq⟩
theorem yI (h:jf w base q v rq)(a:cO):Calls prog 235 #[dP q,iE a] w (qG w ((.bool (qa rq a)))):=by
 obtain⟨R,b⟩:=ay (qa rq a);rw[←b];unfold qa at b;(go_enter func235,ntmps235);go_upto_region 1 with fail
 refine au ?_;intro W hW;have k1:ah No w W:=(by rw[hW];exact(aA w).alloc _);have f:ai W w.heap.size 0 3=some (bk a):=(by rw[hW];simp[go_sem]);have HH:=af (h.no k1);have r:=af k1;have k:=af (rT HH.o a.s a.i);obtain⟨gi,j⟩:=ay (w.heap.size);rw[←j]at f⊢;have i0:=ak f 0 _ rfl;have i1:=ak f 1 _ rfl;have i2:=ak f 2 _ rfl;simp only[bC]at i0 i1 i2;clear hW j f k1 h;cases h0:ji rq a.s a.i with
 |none=>
  rw[qp h0]at k;rw[h0]at b;have d:aj (R=false):=af b;have hm:Cl none= -1:=rfl;clear b h0;(go_wp2_with fail);refine k.o.mono ?_;rintro e w1 ⟨rfl,rfl⟩;go_upto_region 2 with fail
  go_quiet (fail)
  go_wp2;go_ret;exact⟨by rw[d.o];rfl,r.o.drewN nq⟩
 |some p=>
  obtain⟨n,x⟩:=p;obtain⟨A,D⟩:=nQ h0;rw[A]at k;rw[h0]at b;have d:aj (R=(x.a&&decide (x.g=a.g))):=af b;have F:Cl (some n)=(n:Int):=rfl;have G:¬(n:Int)<0:=(by omega);have C:(0:Int)≤(n:Int):=(by omega);obtain⟨g,off,c,rfl,y,t⟩:=HH.o.slot D;have H:(n:Int)<(rq.l.length:Int):=(by omega);have d0:=HH.o.c0;have r2:=ak t 2 _ rfl;have z:=ak t 5 _ rfl;clear b h0 A D y t HH;obtain⟨T,B⟩:=ay (x.a);rw[←B]at d z;obtain⟨U,u⟩:=ay ((x.g==a.g));have E:aj (U=decide (x.g=a.g)):=af (by rw[u];rfl);replace u:=u.symm;clear B;(go_wp2_with fail);refine k.o.mono ?_;rintro e w1 ⟨rfl,rfl⟩;have I:∀m,(w1.drewN m).cell? ⟨q,0,none⟩=some (.slice (some ⟨g,off,none⟩) rq.l.length c):=fun _=>d0;have l2:∀m,(w1.drewN m).cell? ⟨g,off+n*6+2,none⟩=some (qI x.g):=fun _=>r2;have J:∀m,(w1.drewN m).cell? ⟨g,off+n*6+5,none⟩=some (.bool T):=fun _=>z;have li:∀m,(w1.drewN m).cell? ⟨gi,2,none⟩=some (qI a.g):=fun _=>i2;go_upto_region 2 with fail
  clear i0 i1 i2 d0 r2 z;cases T with
  |false=>
   go_quiet (fail)
   go_wp2;go_ret;exact⟨by rw[d.o];rfl,r.o.drewN nq⟩
  |true=>
   go_quiet (fail)
   go_wp2;go_ret;exact⟨by rw[d.o, ←E.o];rfl,r.o.drewN nq⟩
end
theorem Jw {α:Type}(C:dX α)(l:List α)(n:Nat)(hn:n<l.length)(a:α)(j:Nat)(u:Value)(d:j<C.size)(hC:(C.cells l[n]).set j u=C.cells a):(rowsOf C l).set (n*C.size+j) u=rowsOf C (l.set n a):=by
 have e1:l=l.take n++l[n]::l.drop (n+1):=(by rw[←mX hn,jN]);have e2:rowsOf C l=rowsOf C (l.take n)++(C.cells l[n]++rowsOf C (l.drop (n+1))):=by
  conv=>lhs;rw[e1]
  rw[bE,dJ]
 have e3:rowsOf C (l.set n a)=rowsOf C (l.take n)++(C.cells a++rowsOf C (l.drop (n+1))):=by
  rw[H7,dM hn,bE,dJ]
 have b:(rowsOf C (l.take n)).length=n*C.size:=(by rw[bV,fB,qE (by omega)]);have c:=C.len l[n];rw[e2,e3,zK,fC (by omega),b,Nat.add_sub_cancel_left,zK,dM (by omega),hC]
theorem O8 {α:Type}{C:dX α}{e:TypeId}{w:World}{base g cap:Nat}{l:List α}(h:aI C e w base (.slice (some ⟨g,0,none⟩) l.length cap) l)(n:Nat)(hn:n<l.length)(a:α)(j:Nat)(u:Value)(i:j<C.size)
 (hC:(C.cells l[n]).set j u=C.cells a):aI C e (w.setCell ⟨g,n*C.size+j,none⟩ u) base (.slice (some ⟨g,0,none⟩) l.length cap) (l.set n a):=by
 obtain⟨m,b⟩:=h;rcases b with⟨b,_⟩|⟨g',c,cur,hv,d,f,hc,hm,hs,k⟩
 ·cases b
 ·simp only[Value.slice.injEq,Option.some.injEq,Addr.mk.injEq,and_true,true_and]at hv;obtain⟨rfl,rfl⟩:=hv;refine⟨by rw[bV],.inr ⟨g,cap,_,by rw[nk],d,aB f u,by rw[nk];exact hc,hm,?_,?_⟩⟩
  ·rw[Array.size_setIfInBounds];exact hs
  ·rw[nk,Array.toList_setIfInBounds,List.take_set,k,Jw C l n hn a j u i hC]
structure Sl.ok (x:Sl):Prop where
 g0:0≤x.g
 g1:x.g≤1048576
 b0:0≤x.b
 b1:x.b≤1048576
 al:x.a=true→x.g<1048576
section
variable {w w':World}{base q g c:Nat}{v:Value}{rq:Rq}
theorem jf.own (h:jf w base q v rq){n:Nat}{x:Sl}(b:rq.l[n]?=some x):∃g c,v= .slice (some ⟨g,0,none⟩) rq.l.length c∧n<rq.l.length∧ai w g (n*6) 6=some (HZ x)∧Open w g:=by
 have hn:n<rq.l.length:=(eC.1 b).1;have a:=aI.reads h.row;rcases h.row.2 with⟨_,h0⟩|⟨g,cap,cur,hv,hb,e,f⟩
 ·omega
 ·rw[hv]at a;have d:=aW.at EZ a n hn;rw[fw hn]at b;rw[nj b,jI]at d;exact⟨g,cap,hv,hn,d,⟨_,_,e⟩⟩
theorem jf.turn (h:jf w base q (.slice (some ⟨g,0,none⟩) rq.l.length c) rq){n:Nat}{x:Sl}(b:rq.l[n]?=some x)(x':Sl)(j:Nat)(u:Value)(f:j<6)(hC:(HZ x).set j u=HZ x'):
 jf (w.setCell ⟨g,n*6+j,none⟩ u) base q (.slice (some ⟨g,0,none⟩) rq.l.length c) ⟨rq.l.set n x',rq.put⟩:=by
 have hn:n<rq.l.length:=(eC.1 b).1;have d:rq.l[n]=x:=(by rw[fw hn]at b;exact nj b);have a:¬g=q:=fun e=>h.qn (by rw[e];rfl);have k:ah (Own g) w (w.setCell ⟨g,n*6+j,none⟩ u):=(aA (S:=Own g) w).setCell (p:=⟨g,n*6+j,none⟩) (fun _=>(rfl:g=g)) _;exact⟨k.heap h.box (fun e=>a e.symm),O8 h.row n hn x' j u f (by rw[d];exact hC),h.qn,h.bq,by simp only[O7];exact h.few,h.p0⟩
def Jy (w:World)(base q:Nat)(v:Value)(x:Int×Rq)(e:Ending)(w':World):Prop:=e= .returned (qI x.1)∧jf w' base q v x.2∧ah (tK q v) w w'
theorem Rn {n:Nat} :∀i,Own g i→tK q (.slice (some ⟨g,0,none⟩) n c) i:=fun i e=> .inr (by have e:i=g:=e;rw[e];rfl)
structure eS (w0 w:World)(base q g c:Nat)(rq:Rq)(n:Nat)(x:Sl)(put:Int):Prop where
 at':jf w base q (.slice (some ⟨g,0,none⟩) rq.l.length c) ⟨rq.l.set n x,put⟩
 k:ah (tK q (.slice (some ⟨g,0,none⟩) rq.l.length c)) w0 w
 hn:n<rq.l.length
theorem eS.start (h:jf w base q (.slice (some ⟨g,0,none⟩) rq.l.length c) rq){n:Nat}{x:Sl}(a:rq.l[n]?=some x):eS w w base q g c rq n x rq.put:=by
 have hn:n<rq.l.length:=(eC.1 a).1;have e:rq.l.set n x=rq.l:=by
  rw[fw hn]at a;rw[←nj a,List.set_getElem_self]
 exact⟨by rw[e];exact h,aA _,hn⟩
theorem eS.same {w0:World}{n:Nat}{x:Sl}{put:Int}(h:eS w0 w base q g c rq n x put)(k:ah No w w'):eS w0 w' base q g c rq n x put:=⟨h.at'.no k,h.k.mS k,h.hn⟩
theorem eS.go {w0:World}{n:Nat}{x:Sl}{put:Int}(h:eS w0 w base q g c rq n x put)(x':Sl)(j:Nat)(u:Value)(d:j<6)(hC:(HZ x).set j u=HZ x'):eS w0 (w.setCell ⟨g,n*6+j,none⟩ u) base q g c rq n x' put:=by
 have hl:(rq.l.set n x).length=rq.l.length:=nk;have a:=h.at';rw[←hl]at a;have b:=jf.turn (rq:=⟨rq.l.set n x,put⟩) a (n:=n) (x:=x) (by simp[h.hn]) x' j u d hC;simp only[List.set_set,hl]at b;exact⟨b,h.k.setCell (p:=⟨g,n*6+j,none⟩) (fun _=>Rn g rfl) _,h.hn⟩
theorem eS.cells {w0:World}{n:Nat}{x:Sl}{put:Int}(h:eS w0 w base q g c rq n x put):ai w g (n*6) 6=some (HZ x)∧Open w g∧w.cell? ⟨q,0,none⟩=some (.slice (some ⟨g,0,none⟩) rq.l.length c):=by
 obtain⟨g',c',hv,_,hc,a⟩:=h.at'.own (n:=n) (x:=x) (by simp[h.hn]);simp only[Value.slice.injEq,Option.some.injEq,Addr.mk.injEq,and_true]at hv;obtain⟨rfl,_⟩:=hv;exact⟨hc,a,h.at'.c0⟩
theorem eS.counted {w0:World}{n:Nat}{x:Sl}{put:Int}(h:eS w0 w base q g c rq n x put){p:Int}(hp:0≤p):eS w0 (w.setCell ⟨q,1,none⟩ (qI p)) base q g c rq n x p:=by
 have k:ah (Own q) w (w.setCell ⟨q,1,none⟩ (qI p)):=(aA (S:=Own q) w).setCell (p:=⟨q,1,none⟩) (fun _=>(rfl:q=q)) _;refine⟨⟨aB h.at'.box _,k.owns h.at'.row (fun i hi e=>h.at'.qn (by have e:i=q:=e;rw[←e];exact hi)),h.at'.qn,h.at'.bq,h.at'.few,hp⟩,h.k.trans k (fun i _ e=> .inl e),h.hn⟩
theorem Cn (h:jf w base q v rq)(B:∀x∈rq.l,x.ok)(k i:Int):Calls prog 178 #[dP q,qI k,qI i] w (Jy w base q v (lV rq k i)):=by
 obtain⟨R,d⟩:=ay (lV rq k i);rw[←d];unfold lV at d;have HH:=af h;have t:=af (rT h k i);clear h;cases h0:ji rq k i with
 |none=>
  rw[qp h0]at t;rw[h0]at d;have f:aj (R=(1,rq)):=af d;have hm:Cl none= -1:=rfl;clear d h0;(go_enter func178,ntmps178);(go_wp2_with fail);refine t.o.mono ?_;rintro e w1 ⟨rfl,rfl⟩;go_wp2;go_ret;exact⟨by rw[f.o];rfl,by rw[f.o];exact HH.o,aA _⟩
 |some p=>
  obtain⟨n,x⟩:=p;obtain⟨I,D⟩:=nQ h0;rw[I]at t;rw[h0]at d;simp only at d;have C:=B x (dL D);have N:Cl (some n)=(n:Int):=rfl;have O:¬(n:Int)<0:=(by omega);have J:(0:Int)≤(n:Int):=(by omega);obtain⟨g,c,rfl,E,u,F⟩:=HH.o.own D;have P:(n:Int)<(rq.l.length:Int):=(by omega);have d0:=HH.o.c0;have Q:=ak u 3 _ rfl;have G:=af D;have f3:∀m,w.frozen? ⟨g,m,none⟩=false:=fun m=>F.frozen m;have M:=af C;clear h0 I D E u B C;by_cases hb:1048576≤x.b
  ·rw[aM hb]at d;have f:aj (R=(5,rq)):=af d;clear d f3 F G;(go_enter func178,ntmps178);(go_wp2_with fail);refine t.o.mono ?_;rintro e w1 ⟨rfl,rfl⟩;go_wp2;go_ret;exact⟨by rw[f.o];rfl,by rw[f.o];exact HH.o,aA _⟩
  ·rw[aJ hb]at d;have b0:=M.o.b0;have hw:IntKind.i64.wrap (x.b+8)=x.b+8:=(by rw[cI];omega);obtain⟨y,hy⟩:=ay (x.b+8);rw[←hy]at hw d;rw[hy]at hw;have T:=af hy;have f:aj (R=(0,rq.set n ⟨x.s,x.i,x.g,bif decide (1048576<y)then 1048576 else y,x.r,x.a⟩)):=af d
   clear d;(go_enter func178,ntmps178);(go_wp2_with fail);refine t.o.mono ?_;rintro e w1 ⟨rfl,rfl⟩;clear t;go_upto_region 6 with fail
   have L:=f3 (n*6+3);have T0:=af (eS.start HH.o G.o);clear f3 HH F
   go_region
   have j:aj (eS w1 (w1.setCell ⟨g,n*6+3,none⟩ (qI (x.b+8))).drew base q g c rq n ⟨x.s,x.i,x.g,x.b+8,x.r,x.a⟩ rq.put):=af ((T0.o.go ⟨x.s,x.i,x.g,x.b+8,x.r,x.a⟩ 3 (qI (x.b+8)) (by decide) rfl).same (aA _).drew);obtain⟨U,A⟩:=ay ((w1.setCell ⟨g,n*6+3,none⟩ (qI (x.b+8))).drew);rw[←A]at j⊢;rw[←hy]at j;obtain⟨u,K,d2⟩:=j.o.cells;have V:=ak u 3 _ rfl;have S:=K.frozen (n*6+3);clear A T0 d0 Q L u K hy hw;by_cases hm:1048576<y
   ·have z:aj (R=(0,⟨rq.l.set n ⟨x.s,x.i,x.g,1048576,x.r,x.a⟩,rq.put⟩)):=af (by rw[f.o,aM hm];rfl);have H:=af (j.o.go ⟨x.s,x.i,x.g,1048576,x.r,x.a⟩ 3 (qI 1048576) (by decide) rfl);clear f j;go_wp2;go_ret;exact⟨by rw[z.o];rfl,by rw[z.o];exact H.o.at',H.o.k⟩
   ·have z:aj (R=(0,⟨rq.l.set n ⟨x.s,x.i,x.g,y,x.r,x.a⟩,rq.put⟩)):=af (by rw[f.o,aJ hm];rfl);clear f;go_wp2;go_ret;exact⟨by rw[z.o];rfl,by rw[z.o];exact j.o.at',j.o.k⟩
end
section
variable {w w':World}{base q:Nat}{v:Value}{rq:Rq}
theorem Jz (h:jf w base q v rq)(H:∀x∈rq.l,x.ok)(a:cO):Calls prog 234 #[dP q,iE a] w (Jy w base q v (yx rq a)):=by
 obtain⟨R,d⟩:=ay (yx rq a);rw[←d];unfold yx at d;(go_enter func234,ntmps234);go_upto_region 1 with fail
 refine au ?_;intro W hW;have k1:ah No w W:=(by rw[hW];exact(aA w).alloc _);have D:ai W w.heap.size 0 3=some (bk a):=(by rw[hW];simp[go_sem]);have HH:=af (h.no k1);have C:aj (ah (tK q v) w W):=af (k1.mono (fun _ _ e=>e.elim));have A:aj (¬tK q v w.heap.size):=af (fun e=>by
  rcases e with e|e
  ·have:=(bX.1 h.box).1;omega
  ·have:=(h.row.lt _ e).2;omega)
 have B:=af (rT HH.o a.s a.i);obtain⟨gi,G⟩:=ay (w.heap.size);rw[←G]at D A⊢;have i0:=ak D 0 _ rfl;have i1:=ak D 1 _ rfl;have i2:=ak D 2 _ rfl;simp only[bC]at i0 i1 i2;have CI:=af D;clear hW G D k1 h;cases h0:ji rq a.s a.i with
 |none=>
  rw[qp h0]at B;rw[h0]at d;have f:aj (R=(1,rq)):=af d;have hm:Cl none= -1:=rfl;clear d h0 CI;(go_wp2_with fail);refine B.o.mono ?_;rintro e w1 ⟨rfl,rfl⟩;go_wp2;go_ret;exact⟨by rw[f.o];rfl,by rw[f.o];exact HH.o,C.o⟩
 |some p=>
  obtain⟨n,x⟩:=p;obtain⟨T,I⟩:=nQ h0;rw[T]at B;rw[h0]at d;simp only at d;have aD:Cl (some n)=(n:Int):=rfl;have aE:¬(n:Int)<0:=(by omega);have Y:(0:Int)≤(n:Int):=(by omega);have aP:=af (H x (dL I));obtain⟨g,c,rfl,O,S,aK⟩:=HH.o.own I;have aF:(n:Int)<(rq.l.length:Int):=(by omega);have d0:=HH.o.c0;have aQ:=af I;have aC:=af h0;have CR:=af S;have T0:=af (eS.start HH.o I);have N:¬g=gi:=fun e=>A.o (.inr (by rw[e];rfl));have aG:¬q=gi:=fun e=>A.o (.inl e.symm);clear h0 T I O S H aK;by_cases X:a.g<0
  ·rw[aM X]at d;have f:aj (R=(1,rq)):=af d;clear d T0 CI;(go_wp2_with fail);refine B.o.mono ?_;rintro e w1 ⟨rfl,rfl⟩;go_wp2;go_ret;exact⟨by rw[f.o];rfl,by rw[f.o];exact HH.o,C.o⟩
  rw[aJ X]at d;have r2:=ak CR.o 2 _ rfl;have aq:=ak CR.o 3 _ rfl;have aL:=ak CR.o 4 _ rfl;simp only[cond_false]at d;(go_wp2_with fail);refine B.o.mono ?_;rintro e w1 ⟨rfl,rfl⟩;clear B i0 i1;by_cases Z:x.r<0
  ·rw[aM Z]at d;have f:aj (R=(14,rq)):=af d;clear d T0 CI;have j:aj (ah No w1 w1):=af (aA _);go_wp2;go_ret;exact⟨by rw[f.o];rfl,by rw[f.o];exact HH.o.no j.o,C.o.trans j.o (fun _ _ e=>e.elim)⟩
  rw[aJ Z]at d;simp only[cond_false]at d;go_upto_region 6 with fail
  have aH:∀m,(w1.drewN m).cell? ⟨q,0,none⟩=some (.slice (some ⟨g,0,none⟩) rq.l.length c):=fun _=>d0;have l2:∀m,(w1.drewN m).cell? ⟨g,n*6+2,none⟩=some (qI x.g):=fun _=>r2;have aI:∀m,(w1.drewN m).cell? ⟨g,n*6+3,none⟩=some (qI x.b):=fun _=>aq;have li:∀m,(w1.drewN m).cell? ⟨gi,2,none⟩=some (qI a.g):=fun _=>i2;clear d0 r2 aq aL i2;by_cases U:a.g<x.g
  ·rw[aM U]at d;have f:aj (R=(9,rq)):=af d;clear d T0 CI
   go_quiet (fail)
   have j:aj (ah No w1 (w1.drewN nq)):=af ((aA _).drewN _);go_wp2;go_ret;exact⟨by rw[f.o];rfl,by rw[f.o];exact HH.o.no j.o,C.o.trans j.o (fun _ _ e=>e.elim)⟩
  rw[aJ U]at d;by_cases hb:x.b≤a.g
  ·rw[aM hb]at d;have f:aj (R=(9,rq)):=af d;clear d T0 CI
   go_quiet (fail)
   have j:aj (ah No w1 (w1.drewN nq)):=af ((aA _).drewN _);go_wp2;go_ret;exact⟨by rw[f.o];rfl,by rw[f.o];exact HH.o.no j.o,C.o.trans j.o (fun _ _ e=>e.elim)⟩
  rw[aJ hb]at d;have f:aj (R=(0,⟨rq.l.set n ⟨x.s,x.i,a.g,x.b, -1,true⟩,rq.put⟩)):=af d;clear d
  go_quiet (fail)
  have J:=af (T0.o.same ((aA w1).drewN nq));have y:aj (ai (w1.drewN nq) gi 0 3=some (bk a)):=CI;obtain⟨V,hV⟩:=ay (w1.drewN nq);rw[←hV]at J y⊢;clear aH l2 aI li hV T0 CI;obtain⟨t,u,M⟩:=J.o.cells;have aN:=ak t 4 _ rfl;have aB:=u.frozen (n*6+4);clear t u;go_upto_region 9 with fail
  have K:=af (J.o.go ⟨x.s,x.i,x.g,x.b, -1,x.a⟩ 4 (qI (-1)) (by decide) rfl);have z:aj (ai (V.setCell ⟨g,n*6+4,none⟩ (qI (-1))) gi 0 3=some (bk a)):=af (by rw[mI _ _ _ _ _ _ _ (fun e=>N e.symm)];exact y.o);obtain⟨Q,E⟩:=ay (V.setCell ⟨g,n*6+4,none⟩ (qI (-1)));rw[←E]at K z⊢;clear E J y aN aB M;obtain⟨t,u,M⟩:=K.o.cells;have s2:=ak t 2 _ rfl;have av:=u.frozen (n*6+2);have j2:=ak z.o 2 _ rfl;simp only[bC]at j2;clear t u
  go_region
  all_goals
   have L:aj (eS w1 (Q.setCell ⟨g,n*6+2,none⟩ (qI a.g)).drew base q g c rq n ⟨x.s,x.i,a.g,x.b, -1,x.a⟩ rq.put):=af ((K.o.go ⟨x.s,x.i,a.g,x.b, -1,x.a⟩ 2 (qI a.g) (by decide) rfl).same (aA _).drew);obtain⟨aR,F⟩:=ay ((Q.setCell ⟨g,n*6+2,none⟩ (qI a.g)).drew);rw[←F]at L⊢;clear F K s2 av M z j2;obtain⟨t,u,M⟩:=L.o.cells;have aS:=ak t 5 _ rfl;have aO:=u.frozen (n*6+5);have P:=af (L.o.go ⟨x.s,x.i,a.g,x.b, -1,true⟩ 5 (.bool true) (by decide) rfl);clear t u L;go_wp2;go_ret;exact⟨by rw[f.o];rfl,by rw[f.o];exact P.o.at',C.o.trans P.o.k (fun _ _ e=>e)⟩
theorem JA (h:jf w base q v rq)(O:∀x∈rq.l,x.ok)(z:rq.put≤4611686018427387904)(a:cO):Calls prog 236 #[dP q,iE a] w (Jy w base q v (yA rq a)):=by
 obtain⟨R,d⟩:=ay (yA rq a);rw[←d];unfold yA at d;(go_enter func236,ntmps236);go_upto_region 1 with fail
 refine au ?_;intro W hW;have k1:ah No w W:=(by rw[hW];exact(aA w).alloc _);have j:ai W w.heap.size 0 3=some (bk a):=(by rw[hW];simp[go_sem]);have HH:=af (h.no k1);have G:aj (ah (tK q v) w W):=af (k1.mono (fun _ _ e=>e.elim));have A:aj (¬tK q v w.heap.size):=af (fun e=>by
  rcases e with e|e
  ·have:=(bX.1 h.box).1;omega
  ·have:=(h.row.lt _ e).2;omega)
 have C:=af (rT HH.o a.s a.i);obtain⟨gi,M⟩:=ay (w.heap.size);rw[←M]at j A⊢;have i0:=ak j 0 _ rfl;have i1:=ak j 1 _ rfl;have i2:=ak j 2 _ rfl;simp only[bC]at i0 i1 i2;have CI:=af j;clear hW M j k1 h;cases h0:ji rq a.s a.i with
 |none=>
  rw[qp h0]at C;rw[h0]at d;have f:aj (R=(1,rq)):=af d;have hm:Cl none= -1:=rfl;clear d h0 CI;(go_wp2_with fail);refine C.o.mono ?_;rintro e w1 ⟨rfl,rfl⟩;go_wp2;go_ret;exact⟨by rw[f.o];rfl,by rw[f.o];exact HH.o,G.o⟩
 |some p=>
  obtain⟨n,x⟩:=p;obtain⟨aH,P⟩:=nQ h0;rw[aH]at C;rw[h0]at d;simp only at d;have aR:Cl (some n)=(n:Int):=rfl;have aS:¬(n:Int)<0:=(by omega);have aK:(0:Int)≤(n:Int):=(by omega);have X:=af (O x (dL P));obtain⟨g,c,rfl,aq,aG,aX⟩:=HH.o.own P;have aU:(n:Int)<(rq.l.length:Int):=(by omega);have d0:=HH.o.c0;have aP:=af P;have F:=af h0;have CR:=af aG;have T0:=af (eS.start HH.o P);have aT:¬g=gi:=fun e=>A.o (.inr (by rw[e];rfl));have aV:¬q=gi:=fun e=>A.o (.inl e.symm);clear h0 aH P aq aG O aX;by_cases aI:a.g<0
  ·rw[aM aI]at d;have f:aj (R=(1,rq)):=af d;clear d T0 CI;(go_wp2_with fail);refine C.o.mono ?_;rintro e w1 ⟨rfl,rfl⟩;go_wp2;go_ret;exact⟨by rw[f.o];rfl,by rw[f.o];exact HH.o,G.o⟩
  rw[aJ aI]at d;have E:=af z;have V:=af (fun W' (k:ah No W W')=>yI (HH.o.no k) a);clear z;obtain⟨T,Z⟩:=ay (qa rq a);have aB:aj (T=(x.a&&decide (x.g=a.g))):=af (by rw[Z];unfold qa;rw[F.o]);rw[←Z]at V d;simp only[cond_false]at d;clear Z F aP CR;(go_wp2_with fail);refine C.o.mono ?_;rintro e w1 ⟨rfl,rfl⟩;clear C i0 i1;have t:=af (V.o w1 (aA _));clear V;cases T with
  |false=>
   have f:aj (R=(9,rq)):=af d;clear d T0;have j:=CI.o;(go_wp2_with fail);refine t.o.mono ?_;rintro e w2 ⟨rfl,N⟩;have aC:=af N;clear N j CI t d0 i2;go_wp2;go_ret;exact⟨by rw[f.o];rfl,by rw[f.o];exact HH.o.no aC.o,G.o.trans aC.o (fun _ _ e=>e.elim)⟩
  |true=>
   have Q:x.a=true∧x.g=a.g:=by
    have:=aB.o;cases e:x.a with
    |false=>rw[e]at this;cases this
    |true=>rw[e]at this;exact⟨rfl,wY this.symm⟩
   have D:aj (0≤x.g∧x.g<1048576):=af ⟨X.o.g0,X.o.al Q.1⟩;have S:=af d;have j:=CI.o;clear d aB Q X;(go_wp2_with fail);refine t.o.mono ?_;rintro e w2 ⟨rfl,N⟩;have Y:=af (T0.o.same N);clear N j CI t d0 i2 T0 HH;obtain⟨m,u,I⟩:=Y.o.cells;have aZ:=ak m 5 _ rfl;have aO:=u.frozen (n*6+5);clear m u;go_upto_region 7 with fail
   have U:=af (Y.o.go ⟨x.s,x.i,x.g,x.b,x.r,false⟩ 5 (.bool false) (by decide) rfl);obtain⟨aE,J⟩:=ay (w2.setCell ⟨g,n*6+5,none⟩ (.bool false));rw[←J]at U⊢;clear J Y aZ aO I;obtain⟨m,u,I⟩:=U.o.cells;have s2:=ak m 2 _ rfl;have aL:=u.frozen (n*6+2);have g0:=D.o.1;have g1:=D.o.2;have hw:IntKind.i64.wrap (x.g+1)=x.g+1:=(by rw[cI];omega);clear m u
   go_region
   have B:aj (eS w1 (aE.setCell ⟨g,n*6+2,none⟩ (qI (x.g+1))).drew base q g c rq n ⟨x.s,x.i,x.g+1,x.b,x.r,false⟩ rq.put):=af ((U.o.go ⟨x.s,x.i,x.g+1,x.b,x.r,false⟩ 2 (qI (x.g+1)) (by decide) rfl).same (aA _).drew);obtain⟨aF,K⟩:=ay ((aE.setCell ⟨g,n*6+2,none⟩ (qI (x.g+1))).drew);rw[←K]at B⊢;clear K U s2 aL I hw;obtain⟨m,u,I⟩:=B.o.cells;have s2:=ak m 2 _ rfl;obtain⟨y,hy⟩:=ay (x.g+1);simp only[←hy]at s2;by_cases hm:y<1048576
   ·have f:aj (R=(0,⟨rq.l.set n ⟨x.s,x.i,x.g+1,x.b,rq.put,false⟩,rq.put+1⟩)):=af (by rw[S.o,aM (by omega)];rfl);have aY:=ak m 4 _ rfl;have aN:=u.frozen (n*6+4);have e1:=B.o.at'.c1;simp only at e1;clear m u S hy;go_upto_region 9 with fail
    go_region
    all_goals
     have H:aj (eS w1 (aF.setCell ⟨g,n*6+4,none⟩ (qI rq.put)).drew base q g c rq n ⟨x.s,x.i,x.g+1,x.b,rq.put,false⟩ rq.put):=af ((B.o.go ⟨x.s,x.i,x.g+1,x.b,rq.put,false⟩ 4 (qI rq.put) (by decide) rfl).same (aA _).drew);obtain⟨aQ,L⟩:=ay ((aF.setCell ⟨g,n*6+4,none⟩ (qI rq.put)).drew);rw[←L]at H⊢;clear L B s2 aY aN e1 I;have e1:=H.o.at'.c1;have bf:aQ.frozen? ⟨q,1,none⟩=false:=bF _ _ _ _ _ H.o.at'.box;have p0:=H.o.at'.p0;simp only at e1 p0;have av:=E.o;have hw:wrap64 (rq.put+1)=rq.put+1:=jP _ ⟨by omega,by omega⟩;have aW:IntKind.i64.wrap (rq.put+1)=rq.put+1:=(by rw[cI];omega);have aD:=af (H.o.counted (p:=rq.put+1) (by omega));clear E av;go_wp2;go_ret;exact⟨by rw[f.o];rfl,by rw[f.o];exact aD.o.at',G.o.trans aD.o.k (fun _ _ e=>e)⟩
   ·have f:aj (R=(0,⟨rq.l.set n ⟨x.s,x.i,x.g+1,x.b,x.r,false⟩,rq.put⟩)):=af (by rw[S.o,aJ (by omega)];rfl);clear m u S hy;go_wp2;go_ret;exact⟨by rw[f.o];rfl,by rw[f.o];exact B.o.at',G.o.trans B.o.k (fun _ _ e=>e)⟩
end
def oO (l:List Sl)(j:Nat):List Sl:=(l.take j).map mP++l.drop j
theorem l5 (l:List Sl)(j:Nat):(oO l j).length=l.length:=by unfold oO;simp;omega
theorem Ro {l:List Sl}{j:Nat}{x:Sl}(a:l[j]?=some x):(oO l j)[j]?=some x:=by
 have b:j<l.length:=(eC.1 a).1;unfold oO;rw[Dx (by simp;omega)];simp only[yB,yC,Gd (Nat.le_of_lt b),Nat.sub_self,List.getElem?_drop,qH];exact a
theorem O9 {l:List Sl}{j:Nat}{x:Sl}(b:l[j]?=some x):(oO l j).set j (mP x)=oO l (j+1):=by
 have a:j<l.length:=(eC.1 b).1;have c:l[j]=x:=(by rw[fw a]at b;exact nj b);unfold oO;rw[iK a,fI,mX a,c];rw[zK,fC (by simp;omega)];simp only[yB,yC,Gd (Nat.le_of_lt a),Nat.sub_self,b_];simp
section
variable {w w':World}{base q:Nat}{v:Value}{rq:Rq}
def JB (w:World)(base q:Nat)(v:Value)(rq:Rq)(m a:Value)(wr:World):Prop:=
 ∃(j:Nat) (n:Int),j≤rq.l.length∧a=qI j∧m=qI n∧0≤n∧n≤j∧jf wr base q v ⟨oO rq.l j,rq.put⟩∧ah (tK q v) w wr
def Rt (w:World)(base q:Nat)(v:Value)(rq:Rq)(e:Ending)(w':World):Prop:=∃n:Int,e= .returned (qI n)∧jf w' base q v (oK rq)∧ah (tK q v) w w'
theorem GK (h:jf w base q v rq):Calls prog 177 #[dP q] w (Rt w base q v rq):=by
 have Y:=af h;have aG:=af h.few;have O:=h.c0;have ah:aj (JB w base q v rq (qI 0) (qI 0) w):=af ⟨0,0,aX _,rfl,rfl,mH _,mH _,by
  have e:oO rq.l 0=rq.l:=(by simp[oO]);rw[e];exact h,aA _⟩
 clear h O;(go_enter func177,ntmps177);go_wp2
 go_loopw [3,4] (fun m X wr=>JB w base q v rq m X wr) (fun _ X _=>rq.l.length-(intOf X).toNat)
 case atStart=>exact ah.o
 case round=>
  obtain⟨j,n,aH,rfl,rfl,G,aN,d,hK⟩:=hrel;have HH:=af d;have ai:=af hK;have aI:(0:Int)≤(j:Int):=(by omega);have aK:(j:Int)≤256:=(by have:=aG.o;omega);have aL:n≤256:=(by omega);clear ah hK;by_cases t:j<rq.l.length
  ·obtain⟨x,U⟩:∃x,rq.l[j]?=some x:=⟨_,fw t⟩;have u:=Ro U;obtain⟨g,c,hv,S,I,aR⟩:=d.own u;have d0:=d.c0;have T0:aj (eS wr wr base q g c ⟨oO rq.l j,rq.put⟩ j x rq.put):=af (eS.start (by rw[←hv];exact d) u);have F:(oO rq.l j).length=rq.l.length:=l5 rq.l j;have D:=af (O9 U);obtain⟨N,L⟩:=ay (rq.l.length);have Z:aj (v= .slice (some ⟨g,0,none⟩) (oO rq.l j).length c):=af hv;rw[hv]at d0;simp only[F]at d0;rw[←L]at d0;have P:(j:Int)<(N:Int):=(by omega);have y:=af L;have r2:=ak I 2 _ rfl;have aB:=ak I 3 _ rfl;have aC:=ak I 4 _ rfl;have NEXT:aj (∀W n',0≤n'→n'≤(j:Int)+1→eS wr W base q g c ⟨oO rq.l j,rq.put⟩ j (mP x) rq.put→JB w base q v rq (qI n') (qI ((j+1:Nat):Int)) W):=af (fun W n' h0 aT M=>by
    have C:=M.at';have av:=M.k;simp only[D.o]at C;simp only[←Z.o]at C av;have Q:j+1≤rq.l.length:=(by have:=M.hn;simp only[l5]at this;omega);exact⟨j+1,n',Q,rfl,rfl,h0,by omega,C,ai.o.trans av (fun _ _ e=>e)⟩)
   clear d U u S I F L hv Z t aH HH Y;go_upto_region 5 with fail
   have aO:∀m,(wr.drewN m).cell? ⟨q,0,none⟩=some (.slice (some ⟨g,0,none⟩) N c):=fun _=>d0;have l2:∀m,(wr.drewN m).cell? ⟨g,j*6+2,none⟩=some (qI x.g):=fun _=>r2;have aP:∀m,(wr.drewN m).cell? ⟨g,j*6+3,none⟩=some (qI x.b):=fun _=>aB;have aQ:∀m,(wr.drewN m).cell? ⟨g,j*6+4,none⟩=some (qI x.r):=fun _=>aC;clear d0 r2 aB aC aR;by_cases T:x.r<0
   ·have hS:mP x=x:=(by unfold mP;rw[aM T];rfl);have z:=af hS;clear hS
    go_quiet (fail)
    have f:aj (eS wr (wr.drewN nq) base q g c ⟨oO rq.l j,rq.put⟩ j (mP x) rq.put):=af (by rw[z.o];exact T0.o.same ((aA _).drewN _));go_wp2;go_roundw
    case rel=>exact NEXT.o _ n G (by omega) f.o
    case measure=>simp[intOf];have:=y.o;omega
   by_cases hb:x.b≤x.g
   ·have hS:mP x=x:=(by unfold mP;rw[aM hb,Bool.or_true];rfl);have z:=af hS;clear hS
    go_quiet (fail)
    have f:aj (eS wr (wr.drewN nq) base q g c ⟨oO rq.l j,rq.put⟩ j (mP x) rq.put):=af (by rw[z.o];exact T0.o.same ((aA _).drewN _));go_wp2;go_roundw
    case rel=>exact NEXT.o _ n G (by omega) f.o
    case measure=>simp[intOf];have:=y.o;omega
   have z:aj (mP x=⟨x.s,x.i,x.b,x.b,bif decide (x.b=1048576)then -1 else x.r,x.a⟩):=af (by unfold mP;rw[aJ T,aJ hb];rfl)
   go_quiet (fail)
   have f:=af (T0.o.same ((aA wr).drewN nq));obtain⟨V,hV⟩:=ay (wr.drewN nq);rw[←hV]at f⊢;clear aO l2 aP aQ hV T0 T hb;obtain⟨p,H,B⟩:=f.o.cells;simp only[l5]at B;rw[←y.o]at B;have aS:=ak p 3 _ rfl;have s2:=ak p 2 _ rfl;have aE:=H.frozen (j*6+2);clear p H;go_upto_region 6 with fail
   go_region
   all_goals
    have A:aj (eS wr (V.setCell ⟨g,j*6+2,none⟩ (qI x.b)).drew base q g c ⟨oO rq.l j,rq.put⟩ j ⟨x.s,x.i,x.b,x.b,x.r,x.a⟩ rq.put):=af ((f.o.go ⟨x.s,x.i,x.b,x.b,x.r,x.a⟩ 2 (qI x.b) (by decide) rfl).same (aA _).drew);obtain⟨au,E⟩:=ay ((V.setCell ⟨g,j*6+2,none⟩ (qI x.b)).drew);rw[←E]at A⊢;clear E f s2 aS aE B;obtain⟨p,H,B⟩:=A.o.cells;simp only[l5]at B;rw[←y.o]at B;have s2:=ak p 2 _ rfl;have aD:=ak p 4 _ rfl;have aF:=H.frozen (j*6+4);simp only at s2 aD;have hw:wrap64 (n+1)=n+1:=jP _ ⟨by omega,by omega⟩;clear p H;by_cases hm:x.b=1048576
    ·have R:(x.b==1048576)=true:=(by simpa using hm);have K:aj (eS wr (au.setCell ⟨g,j*6+4,none⟩ (qI (-1))) base q g c ⟨oO rq.l j,rq.put⟩ j (mP x) rq.put):=af (by rw[z.o,aM hm];exact A.o.go ⟨x.s,x.i,x.b,x.b, -1,x.a⟩ 4 (qI (-1)) (by decide) rfl);clear hm A;go_wp2;go_roundw
     case rel=>exact NEXT.o _ (n+1) (by omega) (by omega) K.o
     case measure=>simp[intOf];have:=y.o;omega
    ·have R:(x.b==1048576)=false:=(by simpa using hm);have K:aj (eS wr au base q g c ⟨oO rq.l j,rq.put⟩ j (mP x) rq.put):=af (by rw[z.o,aJ hm];exact A.o);clear hm A aD aF;go_wp2;go_roundw
     case rel=>exact NEXT.o _ (n+1) (by omega) (by omega) K.o
     case measure=>simp[intOf];have:=y.o;omega
  ·have P:¬(j:Int)<(rq.l.length:Int):=(by omega);obtain⟨va,vc,hv⟩:=aq d.row;have d0:=d.c0;rw[hv]at d0;simp only[l5]at d0;have J:aj (jf wr base q v (oK rq)):=af (by
    have e:oO rq.l j=rq.l.map mP:=by
     unfold oO;rw[fA (by omega),List.drop_eq_nil_of_le (by omega),kE]
    have C:=d;rw[e]at C;exact C)
   clear d HH hv t Y;go_wp2;go_ret;exact⟨n,rfl,J.o,ai.o⟩
end
section
variable {w w':World}{base q:Nat}{v:Value}{rq:Rq}
theorem JC (h:jf w base q v rq):Calls prog 105 #[dP q] w fun e w'=>∃v',e= .returned v'∧aI bN 23 w' w.heap.size v' (Ob rq)∧ah No w w':=by
 obtain⟨R,U⟩:=ay (Ob rq);rw[←U];have aJ:aj (R=rq.l.flatMap rO):=af U;obtain⟨va,vc,rfl⟩:=aq h.row;have HH:=af h;have M:=af (aI.reads h.row);have aH:=af h.few;clear h U;(go_enter func105,ntmps105);go_wp2
 go_loopw [3,4] (fun o aC wr=>∃(n:Nat) (l':List cO),n≤rq.l.length∧aC=qI n∧l'=(rq.l.take n).flatMap rO∧l'.length≤n∧aI bN 23 wr w.heap.size o l'∧ah No w wr) (fun _ aC _=>rq.l.length-(intOf aC).toNat)
 case atStart=>exact⟨0,[],aX _,rfl,by simp,bM _,cJ _ _ _ _,aA _⟩
 case round=>
  obtain⟨n,l',hn,rfl,C,D,Q,hK⟩:=hrel;obtain⟨aE,oc,rfl⟩:=aq Q;obtain⟨j,Z⟩:=ay (wr);subst Z;have H:=af hK;have P:=af Q;have d0:=hK.cB HH.o.c0;have aL:(0:Int)≤(n:Int):=(by omega);have aM:(n:Int)≤256:=(by have:=aH.o;omega);have c:=af D;have z:=af C;clear hK Q D C;by_cases b:n<rq.l.length
  ·have X:(n:Int)<(rq.l.length:Int):=(by omega);obtain⟨g,off,rfl,_,_,_⟩:=aW.addr EZ M.o (by omega);have y:ai j g (off+n*6) 6=some (HZ rq.l[n]):=aW.at EZ (M.o.kept H.o (fun _ _ h=>h)) n b;have m:∀w',ah No w w'→w'.cell? ⟨q,0,none⟩=some (.slice (some ⟨g,off,none⟩) rq.l.length vc)∧ai w' g (off+n*6) 6=some (HZ rq.l[n]):=fun w' k=>⟨k.cB HH.o.c0,aW.at EZ (M.o.kept k (fun _ _ h=>h)) n b⟩;have A:aj ((rq.l.take (n+1)).flatMap rO=l'++rO rq.l[n]):=af (by rw[iK b,qT, ←z.o];simp);obtain⟨x,aD⟩:=ay (rq.l[n]);rw[←aD]at y A m;have FF:=af m;clear m;have r0:=ak y 0 _ rfl;have r1:=ak y 1 _ rfl;have r2:=ak y 2 _ rfl;have aF:=ak y 5 _ rfl;simp only[qH]at r0;obtain⟨T,V⟩:=ay (x.a);rw[←V]at aF;have F:=af V;clear aD y b V;cases T with
   |false=>
    have p:aj ((rq.l.take (n+1)).flatMap rO=l'):=af (by rw[A.o];unfold rO;rw[←F.o];simp);clear A F r0 r1 r2;go_wp2;go_roundw
    case rel=>exact⟨n+1,l',by omega,by go_num,p.o.symm,by have:=c.o;omega,P.o,H.o⟩
    case measure=>simp[intOf];omega
   |true=>
    obtain⟨nm,t⟩:=ay (⟨x.s,x.i,x.g⟩:cO);have p:aj ((rq.l.take (n+1)).flatMap rO=l'++ [nm]):=af (by rw[A.o,t];unfold rO;rw[←F.o];rfl);have L:=af t;obtain⟨i0,hi,au,av,aB⟩:=fR Tryz.En;clear A F t;go_upto_region 6 with fail
    clear aF;have I:aj (∀w',ah No w w'→w'.cell? ⟨q,0,none⟩=some (.slice (some ⟨g,off,none⟩) rq.l.length vc)∧w'.cell? ⟨g,off+n*6,none⟩=some (qI x.s)∧w'.cell? ⟨g,off+n*6+1,none⟩=some (qI x.i)∧w'.cell? ⟨g,off+n*6+2,none⟩=some (qI x.g)):=af (fun w' k=>by
     obtain⟨f0,f1⟩:=FF.o w' k;have r0:=ak f1 0 _ rfl;have r1:=ak f1 1 _ rfl;have r2:=ak f1 2 _ rfl;simp only[qH]at r0;exact⟨f0,r0,r1,r2⟩)
    clear FF;refine dN (fun w'=>w'.cell? ⟨q,0,none⟩=some (.slice (some ⟨g,off,none⟩) rq.l.length vc)∧w'.cell? ⟨g,off+n*6,none⟩=some (qI x.s)∧w'.cell? ⟨g,off+n*6+1,none⟩=some (qI x.i)∧w'.cell? ⟨g,off+n*6+2,none⟩=some (qI x.g)) (fun _=>True) (fun _=>false) (by kernel_rfl) ?_;refine bQ.of [0,1,2,3,4,5,6,7,8,9,10,11,12,13,14,15,16,17,18,19,20,21,22,23,24,25] ?_
    repeat((first|(refine bQ.w (v:=?_) ?_ ⟨d0,r0,r1,r2⟩ trivial ?_;rotate_left;focus(intro w r;(try dsimp only at r);go_simp;(try rfl);done))|(refine bQ.l (v:=?_) ?_ ⟨d0,r0,r1,r2⟩ trivial ?_;rotate_left;focus(intro w r;(try dsimp only at r);go_simp;(try rfl);done)));try simp only[cw,b_,cn])
    refine bQ.nil ?_;have f:aj (Reads (j.alloc (.cells #[qI x.s,qI x.i,qI x.g] 23)).drew 3 (.slice (some ⟨j.heap.size,0,none⟩) 1 1) 1 (bk nm)):=af (by rw[L.o];exact Reads.kept (S:=No) ((aA _).drew) (jw bN j 23 ⟨x.s,x.i,x.g⟩) (fun _ _ h=>h));have G:aj (ah No w (j.alloc (.cells #[qI x.s,qI x.i,qI x.g] 23)).drew):=af ((H.o.alloc _).drew);have O:aj (aI bN 23 (j.alloc (.cells #[qI x.s,qI x.i,qI x.g] 23)).drew w.heap.size (.slice aE l'.length oc) l'):=af (ah.owns (S:=No) (((aA j).alloc _).drew) P.o (fun _ _ h=>h));refine eZ 26 (fun K hK=>?_);go_simp;obtain⟨aP,E⟩:=ay ((j.alloc (.cells #[qI x.s,qI x.i,qI x.g] 23)).drew);rw[←E]at f G O⊢;refine hK.out _ _ (I.o _ G.o) (fun _=>trivial) ?_;clear hK K E d0 r0 r1 r2;refine eZ 27 (fun K hK=>?_);refine bL (by rfl) (.tmp 22) (.tmp 48) 28 (by rfl) w.heap.size 23 i0 _ 3 24 underlying28 hi au av aB (by rfl) (by decide) (.slice aE l'.length oc) l'.length (rowsOf bN l') (by rfl) O.o _ 1 (bk nm) (by rfl) f.o (by have:=c.o;unfold maxLen;omega) (by have:=c.o;omega) (by have:=G.o.size;omega) ?_;intro aN aG u B W _;have aK:aj (aI bN 23 aG w.heap.size aN (l'++ [nm])):=af (by
     unfold aI;rw[cr,bE,fL];exact u)
    have N:aj (ah No w aG):=af (G.o.trans B (fun i hi Y=>absurd hi (bY.2 (O.o.lt i Y).1)));obtain⟨aO,ec,rfl⟩:=aq u;refine tY (d:=49) rfl ?_;simp only[cw,b_,cn];refine hK.out _ _ (I.o _ N.o) (fun _=>trivial) ?_;clear hK K u B W;refine eZ 28 (fun K hK=>?_);go_simp;refine hK.out _ _ (I.o _ N.o) (fun _=>trivial) ?_;clear hK K;refine sZ (by kernel_rfl) ?_ _;go_wp2;go_roundw
    case rel=>exact⟨n+1,l'++ [nm],by omega,by go_num,p.o.symm,by have:=c.o;simp;omega,aK.o,N.o⟩
    case measure=>simp[intOf];omega
  ·have X:¬(n:Int)<(rq.l.length:Int):=(by omega);have J:aj (R=l'):=af (by rw[aJ.o,z.o,fA (by omega)]);clear b;go_wp2;go_ret;exact⟨_,rfl,by rw[J.o];exact P.o,H.o⟩
end
theorem pH {late:Nat→Bool}{listed:Array Bool}{p:Prop}(k:Nat)(a:late k=true)(h:listed.getD k false=true):iB late listed→p:=fun hn=>by
 rw[hn k a]at h;cases h
def Te (ids m:Nat):List Sl:=(List.range m).map fun j=>⟨(j/ids:Nat),(j%ids:Nat),0,0,j,false⟩
theorem Ru (ids m:Nat):(Te ids m).length=m:=by simp[Te]
theorem O_ (ids k i:Nat)(h:i<ids):Te ids (k*ids+i+1)=Te ids (k*ids+i)++ [⟨k,i,0,0,((k*ids+i:Nat):Int),false⟩]:=by
 have h0:0<ids:=(by omega);have e1:(k*ids+i)/ids=k:=(by rw[mG,Nat.mul_add_div h0,Nat.div_eq_of_lt h,oG]);have e2:(k*ids+i)%ids=i:=(by rw[mG,Nat.mul_add_mod,Nat.mod_eq_of_lt h]);unfold Te;rw[List.range_succ,fI,wR,e1,e2]
theorem Tryz.Tf:(prog.info? Jv).map (fun i=>(i.zero,i.size,i.bytes))=some (some (.agg #[qI 0,qI 0,qI 0,qI 0,qI 0,.bool false]),6,48):=by kernel_rfl
structure Br (w wr:World)(q ids m:Nat)(v:Value):Prop where
 box:wr.heap[q]?=some (.cells #[v,qI (m:Int)] Qb (0,0))
 row:aI EZ Jv wr (q+1) v (Te ids m)
 kp:ah No w wr
 eq:q=w.heap.size
theorem Br.done {w wr:World}{q n ids:Nat}{v:Value}(h:Br w wr q ids (n*ids) v)(hf:n*ids≤256):jf wr w.heap.size q v (rNew n ids):=
 ⟨h.box,aI.base h.row (by rw[h.eq];omega),fun e=>by have:=(h.row.lt _ e).1;omega,by rw[h.eq];exact bM _,by simp[rNew];exact hf,by simp only[rNew];omega⟩
theorem Br.c0 {w wr:World}{q ids m:Nat}{v:Value}(h:Br w wr q ids m v):wr.cell? ⟨q,0,none⟩=some v:=by rw[bW _ _ _ _ _ _ h.box];rfl
theorem Br.c1 {w wr:World}{q ids m:Nat}{v:Value}(h:Br w wr q ids m v):wr.cell? ⟨q,1,none⟩=some (qI (m:Int)):=by rw[bW _ _ _ _ _ _ h.box];rfl
def Uz (w:World)(n ids:Nat)(e:Ending)(w':World):Prop:=∃q v,e= .returned (.tuple #[dP q,.bool true])∧jf w' w.heap.size q v (rNew n ids)∧ah No w w'
theorem Mm (w:World)(n ids:Nat)(n1:1≤n)(aO:n≤16)(m1:1≤ids)(m2:ids≤16):Calls prog 176 #[qI n,qI ids] w (Uz w n ids):=by
 have n3:(1:Int)≤(n:Int):=(by omega);have bC:(n:Int)≤16:=(by omega);have m3:(1:Int)≤(ids:Int):=(by omega);have m4:(ids:Int)≤16:=(by omega);have I:aj (n*ids≤256):=af (Nat.mul_le_mul aO m2);have bA:=af (And.intro n1 (And.intro aO (And.intro m1 m2)));clear n1 aO m1 m2;(go_enter func176,ntmps176);go_wp2;refine au ?_;intro X0 J;obtain⟨q,W⟩:=ay (w.heap.size);have aS:aj (Br w X0 q ids 0 (.slice none 0 0)):=af (by
  rw[J,W];exact⟨bT _ _,cJ _ _ _ _,(aA w).alloc _,rfl⟩)
 rw[←W];have U:=af W;clear J W
 go_loopw [7] (fun E wr=>∃(k:Nat) (v:Value),k≤n∧E=qI k∧Br w wr q ids (k*ids) v) (fun E _=>n-(intOf E).toNat)
 case atStart=>exact⟨0,_,aX _,rfl,by rw[Nat.zero_mul];exact aS.o⟩
 case round=>
  obtain⟨k,v,bB,rfl,aU⟩:=hrel;have T:=af aU;have bn:(0:Int)≤(k:Int):=(by omega);have bp:(k:Int)≤16:=(by omega);clear aU aS;by_cases N:k<n
  ·have aF:(k:Int)<(n:Int):=(by omega);obtain⟨w1,aH⟩:=ay (wr);subst aH;go_wp2
   go_loopw [8] (fun E wr=>∃(i:Nat) (v:Value),i≤ids∧E=qI i∧Br w wr q ids (k*ids+i) v) (fun E _=>ids-(intOf E).toNat)
   case atStart=>exact⟨0,v,aX _,rfl,T.o⟩
   case round=>
    obtain⟨i,v1,hi,rfl,s⟩:=hrel;have bg:(0:Int)≤(i:Int):=(by omega);have bk:(i:Int)≤16:=(by omega);have z:=af s;by_cases x:i<ids
    ·have aE:(i:Int)<(ids:Int):=(by omega);obtain⟨bq,t,aL,aM,aN⟩:=fR Tryz.Tf;have d0:=s.c0;have d1:=s.c1;obtain⟨G,oc,rfl⟩:=aq s.row;have Y:=af (O_ ids k i x);have R:=af (Ru ids (k*ids+i));have f:aj (k*ids+i+1≤256):=af (by
      have m:(k+1)*ids≤n*ids:=mY _ N;rw[nu]at m;have:=I.o;omega)
     obtain⟨M,V⟩:=ay (k*ids+i);obtain⟨L,aC⟩:=ay (Te ids M);rw[←V]at z Y R f d0 d1;rw[←V]at s;rw[←aC]at Y R d0 z;have A:=af (And.intro V aC);clear s V aC x T;obtain⟨y,aJ⟩:=ay (wr);subst aJ;go_upto_region 10 with fail
     refine dN (fun _=>True) (fun w'=>w'.cell? ⟨q,0,none⟩=some (.slice G L.length oc)∧w'.cell? ⟨q,1,none⟩=some (qI (M:Int))) (fun j=>j==16) (by kernel_rfl) ?_;refine bQ.of [0,1,2,3,4,5,6,7,8,9,10,11] ?_
     repeat((first|(refine bQ.w (v:=?_) ?_ trivial ⟨d0,d1⟩ ?_;rotate_left;focus(intro w a;(try dsimp only at a);go_simp;(try rfl);done))|(refine bQ.l (v:=?_) ?_ trivial ⟨d0,d1⟩ ?_;rotate_left;focus(intro w a;(try dsimp only at a);go_simp;(try rfl);done)));try simp only[cw,b_,cn])
     refine bQ.nil ?_;have u:aj (Reads (y.alloc (.cells #[qI k,qI i,qI 0,qI 0,qI M,.bool false] Jv)).drew 6 (.slice (some ⟨y.heap.size,0,none⟩) 1 1) 1 (HZ ⟨k,i,0,0,M,false⟩)):=af (Reads.kept (S:=No) ((aA _).drew) (jw EZ y Jv ⟨k,i,0,0,M,false⟩) (fun _ _ h=>h));have B:aj (ah No y (y.alloc (.cells #[qI k,qI i,qI 0,qI 0,qI M,.bool false] Jv)).drew):=af (((aA y).alloc _).drew);refine eZ 12 (fun K hK=>?_);go_simp;obtain⟨aP,O⟩:=ay ((y.alloc (.cells #[qI k,qI i,qI 0,qI 0,qI M,.bool false] Jv)).drew);rw[←O]at u B⊢;have H:aj (y.heap.size≤aP.heap.size∧aP.heap[q]?=some (.cells #[.slice G L.length oc,qI (M:Int)] Qb (0,0))∧aI EZ Jv aP (q+1) (.slice G L.length oc) L):=af ⟨B.o.size,B.o.heap z.o.box (fun h=>h),by rw[A.o.2];have h:=B.o.mM z.o.row;rw[←A.o.2]at h⊢;exact h⟩;have e0:=B.o.cB d0;have e1:=B.o.cB d1;refine hK.out _ _ trivial (fun _=>⟨e0,e1⟩) ?_;clear hK K O d0 d1;refine eZ 13 (fun K hK=>?_);refine bL (by rfl) (.tmp 39) (.tmp 47) 255 (by rfl) (q+1) Jv bq _ 6 48 underlying255 t aL aM aN (by rfl) (by decide) (.slice G L.length oc) L.length (rowsOf EZ L) (by rfl) H.o.2.2 _ 1 (HZ ⟨k,i,0,0,M,false⟩) (by rfl) u.o (by have m:=R.o;have C:=f.o;unfold maxLen;omega) (by have m:=R.o;have C:=f.o;omega) (by have m:=H.o.1;have C:=(bX.1 z.o.box).1;omega) ?_;intro bu c D b aD _;have ak:aj (aI EZ Jv c (q+1) bu (L++ [⟨k,i,0,0,M,false⟩])):=af (by
      unfold aI;rw[cr,bE,fL];exact D)
     have r:¬Of (.slice G L.length oc) q:=fun h=>(by have:=(H.o.2.2.lt _ h).1;omega);have aQ:aj (ah No w c):=af ((z.o.kp.aK B.o).trans b (fun j t aG=>by have m:=(H.o.2.2.lt j aG).1;have C:=U.o;omega));have B8:aj (c.heap[q]?=some (.cells #[.slice G L.length oc,qI (M:Int)] Qb (0,0))):=af (b.heap H.o.2.1 r);have g0:=b.cell e0 r;have g1:=b.cell e1 r;obtain⟨g,ec,rfl⟩:=aq D;refine tY (d:=48) rfl ?_;simp only[cw,b_,cn];refine hK.out _ _ trivial (fun _=>⟨g0,g1⟩) ?_;clear hK K D b aD r;refine bQ.of [14,15] ?_
     repeat((first|(refine bQ.w (v:=?_) ?_ trivial ⟨g0,g1⟩ ?_;rotate_left;focus(intro w a;(try dsimp only at a);go_simp;(try rfl);done))|(refine bQ.l (v:=?_) ?_ trivial ⟨g0,g1⟩ ?_;rotate_left;focus(intro w a;(try dsimp only at a);go_simp;(try rfl);done)));try simp only[cw,b_,cn])
     refine bQ.nil ?_;have aT:=bF (j:=0) _ _ _ _ B8.o;have aV:q<c.heap.size:=(bX.1 B8.o).1;refine eZ 16 (fun K hK=>?_);go_simp;refine hK.out _ _ trivial (pH 16 rfl (by kernel_rfl)) ?_;clear hK K;refine sZ (by kernel_rfl) ?_ _;have B9:aj ((c.setCell ⟨q,0,none⟩ (.slice g (L.length+1) ec)).heap[q]?=some (.cells #[.slice g (L.length+1) ec,qI (M:Int)] Qb (0,0))):=af (aB B8.o _);have Z:ah (Own q) c (c.setCell ⟨q,0,none⟩ (.slice g (L.length+1) ec)):=(aA (S:=Own q) c).setCell (p:=⟨q,0,none⟩) (fun _=>(rfl:q=q)) _;have av:aj (aI EZ Jv (c.setCell ⟨q,0,none⟩ (.slice g (L.length+1) ec)) (q+1) (.slice g (L.length+1) ec) (L++ [⟨k,i,0,0,M,false⟩])):=af (Z.owns ak.o (fun j t e=>by have m:=(ak.o.lt j t).1;have C:j=q:=e;omega));have aR:aj (ah No w (c.setCell ⟨q,0,none⟩ (.slice g (L.length+1) ec))):=af (aQ.o.trans Z (fun j t e=>by have m:=U.o;have C:j=q:=e;omega));obtain⟨F,P⟩:=ay (c.setCell ⟨q,0,none⟩ (.slice g (L.length+1) ec));rw[←P]at B9 av aR⊢;clear P Z aT aV g0 g1 e0 e1 B8 ak aQ;have g1:F.cell? ⟨q,1,none⟩=some (qI (M:Int)):=(by rw[bW _ _ _ _ _ _ B9.o];rfl);have aT:=bF (j:=1) _ _ _ _ B9.o;have aV:q<F.heap.size:=(bX.1 B9.o).1;have aZ:(0:Int)≤(M:Int):=(by omega);have bf:(M:Int)≤256:=(by have:=f.o;omega);have aW:aj ((F.setCell ⟨q,1,none⟩ (qI ((M:Int)+1))).heap[q]?=some (.cells #[.slice g (L.length+1) ec,qI ((M:Int)+1)] Qb (0,0))):=af (aB B9.o _);have ai:ah (Own q) F (F.setCell ⟨q,1,none⟩ (qI ((M:Int)+1))):=(aA (S:=Own q) F).setCell (p:=⟨q,1,none⟩) (fun _=>(rfl:q=q)) _;have X:aj (Br w (F.setCell ⟨q,1,none⟩ (qI ((M:Int)+1))) q ids (k*ids+(i+1)) (.slice g (L.length+1) ec)):=af (by
      have e:k*ids+(i+1)=M+1:=(by have:=A.o.1;omega);rw[e];refine⟨by rw[Int.natCast_add];exact aW.o,?_,aR.o.trans ai (fun j t e=>by have m:=U.o;have C:j=q:=e;omega),U.o⟩;rw[Y.o];exact ai.owns av.o (fun j t e=>by have m:=(av.o.lt j t).1;have C:j=q:=e;omega))
     clear ai;go_wp2;go_roundw
     case rel=>exact⟨i+1,_,by omega,by go_num,X.o⟩
     case measure=>simp[intOf];omega
    ·have aE:¬(i:Int)<(ids:Int):=(by omega);have Q:aj (Br w wr q ids ((k+1)*ids) v1):=af (by
      have e:(k+1)*ids=k*ids+i:=(by rw[nu];omega);rw[e];exact s)
     clear s z;go_wp2;go_roundw
     case rel=>exact⟨k+1,v1,by omega,by go_num,Q.o⟩
     case measure=>simp[intOf];omega
  ·have aF:¬(k:Int)<(n:Int):=(by omega);have Q:aj (jf wr w.heap.size q v (rNew n ids)∧ah No w wr):=af (by
    have e:k=n:=(by omega);have h:=T.o;rw[e]at h;exact⟨h.done I.o,h.kp⟩)
   clear T N;go_wp2;refine aY (v:= .tuple #[dP q,.bool true]) ?_ rfl ⟨q,v,rfl,Q.o.1,Q.o.2⟩;simp[results,results176]
def vU:List Sl→Int
 | []=>0
 |x::l=>x.g+vU l
theorem Bs:∀(l:List Sl) (n:Nat) (x y:Sl),l[n]?=some x→vU (l.set n y)=vU l-x.g+y.g
 | [],n,x,y,h=>by simp at h
 |a::l,0,x,y,h=>by
  simp only[List.getElem?_cons_zero,Option.some.injEq]at h;subst h;simp only[b_,vU];omega
 |a::l,n+1,x,y,h=>by
  have ih:=Bs l n x y (by simpa using h);simp only[cn,vU];omega
theorem GL (f:Sl→Sl):∀l:List Sl,(∀x∈l,x.g≤(f x).g)→vU l≤vU (l.map f)
 | [],_=>mH _
 |a::l,h=>by
  have ih:=GL f l (fun x b=>h x (qQ _ b));have:=h a m_;simp only[List.map_cons,vU];omega
theorem KM:∀l:List Sl,(∀x∈l,x.ok)→vU l≤1048576*l.length
 | [],_=>by simp[vU]
 |a::l,h=>by
  have ih:=KM l (fun x b=>h x (qQ _ b));have:=(h a m_).g1;simp only[vU,List.length_cons];omega
theorem Db:∀l:List Sl,(∀x∈l,x.g=0)→vU l=0
 | [],_=>rfl
 |a::l,h=>by
  have ih:=Db l (fun x b=>h x (qQ _ b));have:=h a m_;simp only[vU];omega
def mR (q:Rq):Prop:=q.put≤q.l.length+vU q.l
theorem qc.U4 {n:Nat}{p:Pl}{q:Rq}(h:qc n p q)(ok:jd p):∀x∈q.l,x.ok:=by
 intro y hy;obtain⟨m,hm⟩:=List.getElem?_of_mem hy;obtain⟨k,i,s,x,_,_,hs,b,r,rfl,_,_⟩:=h.back hm;have a:=(ok.sh hs).ix x (dL b);exact⟨a.g0,a.g1,a.b0,a.b1,a.al⟩
theorem mR.few {n:Nat}{p:Pl}{q:Rq}(b:mR q)(h:qc n p q)(ok:jd p)(hf:q.l.length≤256):q.put≤4611686018427387904:=by
 have:=KM q.l (h.U4 ok);unfold mR at b;omega
theorem vW {q:Rq}{k i:Int}{n:Nat}{x:Sl}(h:ji q k i=some (n,x)):q.l[n]?=some x:=(nQ h).2
theorem mR.set {q:Rq}(b:mR q){n:Nat}{x y:Sl}(a:q.l[n]?=some x)(c:x.g≤y.g):mR (q.set n y):=by
 unfold mR Rq.set at*;have:=Bs q.l n x y a;simp only[O7];omega
theorem mR.reserve {q:Rq}(b:mR q)(k i:Int):mR (lV q k i).2:=by
 unfold lV;cases h:ji q k i with
 |none=>exact b
 |some p=>
  obtain⟨n,x⟩:=p;simp only;cases decide (1048576≤x.b)with
  |true=>exact b
  |false=>exact b.set (vW h) (mH _)
theorem mR.take {q:Rq}(b:mR q)(a:cO):mR (yx q a).2:=by
 unfold yx;cases h:ji q a.s a.i with
 |none=>exact b
 |some p=>
  obtain⟨n,x⟩:=p;simp only;cases decide (a.g<0)with
  |true=>exact b
  |false=>
   simp only[cond_false];cases decide (x.r<0)with
   |true=>exact b
   |false=>
    simp only[cond_false];by_cases c:a.g<x.g
    ·simp only[decide_eq_true c,Bool.true_or,cond_true];exact b
    ·simp only[decide_eq_false c,Bool.false_or];cases decide (x.b≤a.g)with
     |true=>exact b
     |false=>exact b.set (vW h) (by simp only;omega)
theorem mR.free {q:Rq}(b:mR q)(a:cO):mR (yA q a).2:=by
 unfold yA;cases h:ji q a.s a.i with
 |none=>exact b
 |some p=>
  obtain⟨n,x⟩:=p;simp only;cases decide (a.g<0)with
  |true=>exact b
  |false=>
   simp only[cond_false];cases !qa q a with
   |true=>exact b
   |false=>
    simp only[cond_false];cases decide (x.g+1<1048576)with
    |true=>
     have:=Bs q.l n x ⟨x.s,x.i,x.g+1,x.b,q.put,false⟩ (vW h);unfold mR at*;simp only[cond_true,O7]at*;omega
    |false=>exact b.set (vW h) (by simp only;omega)
theorem mR.yw {q:Rq}(b:mR q):mR (oK q):=by
 unfold mR oK at*;have:=GL mP q.l (fun x _=>by
  unfold mP;cases decide (x.r<0)with
  |true=>exact mH _
  |false=>
   by_cases hb:x.b≤x.g
   ·simp[hb]
   ·simp only[decide_eq_false hb,Bool.or_false,cond_false];omega)
 simp only[yB];omega
theorem Pa (n ids:Nat):mR (rNew n ids):=by
 have h:=Db (rNew n ids).l (fun x a=>by
  simp only[rNew,List.mem_map]at a;obtain⟨m,_,rfl⟩:=a;rfl)
 unfold mR;rw[h];simp[rNew]
