/- Lemmas. -/
import Derived.Test.YtpbpgjfdledgoaaGreatDoorZo42
import Derived.Test.YtpbpgjfdledgoaaGreatDoorZo45
set_option linter.all false
set_option maxRecDepth 100000
set_option maxHeartbeats 8000000
namespace Go.Proofs.YtpbpgjfdledgoaaGreatDoor
open Go.Proofs.Tryz
open Go.RowKit Go.Shelf Go.Sort Go.Joins Go.Deep
abbrev UI:TypeId:=156
structure Rl where
 l:Nat
 D:Rd
 sv:Value
 A:List Rs
 z:Rs
 q:Nat
 qv:Value
 cv:Value
abbrev UJ (R:Rl)(ep e:Int):Array Value:=#[dP R.D.d,.string aR,R.sv,dP R.q,qI ep,R.cv,qI e]
structure cN (w:World)(base qb:Nat)(R:Rl)(c:Nat)(ld:Ld)(ds:Ds):Prop where
 log:dz w base R.l 1 UI (UJ R ld.ep ld.e) aR R.sv R.A R.z
 lg:pJ aR R.A R.z=ld.lg
 eH:fH w base R.D ld.dk
 disk:nS w R.q qb R.qv c ds
 cm:aI k_ dV w base R.cv ld.cmds
 nc:∀i,R.cv.ownBlock=some i→¬R.D.lv.ownBlock=some i
 e0:0≤ld.ep
 e1:ld.ep≤1099511627776
 cl:ld.cmds.length≤64
def sQ (R:Rl):Nat→Prop:=fun i=>wz R.l R.sv R.A R.z i∨Bt R.D i∨QS R.q R.qv i
def eW (w:World)(base qb:Nat)(R:Rl)(c:Nat)(KP:Ld)(ds':Ds)(w':World):Prop:=
 ∃R',cN w' base qb R' c KP ds'∧ah (sQ R) w w'∧(∀i,sQ R' i→sQ R i∨w.heap.size≤i)∧R'.l=R.l∧R'.q=R.q∧∀i,R'.cv.ownBlock=some i→R.cv.ownBlock=some i∨sQ R i∨w.heap.size≤i
section
variable {w w':World}{base qb b o:Nat}{t:TypeId}{C:Array Value}{nm:ByteArray}{sv:Value}{A:List Rs}{z:Rs}{R:Rl}{c:Nat}{ld:Ld}{ds:Ds}{S:Nat→Prop}
theorem fH.typed {D:Rd}{k:Dk}(h:fH w base D k){i:Nat}(hi:Bt D i):∃X u,w.heap[i]?=some (.cells X u (0,0))∧(u=U5∨u=Qb∨u=Jv∨u=dV):=by
 rcases hi with rfl|hi|hi
 ·exact⟨_,_,h.box,.inl rfl⟩
 ·rcases hi with rfl|hi
  ·obtain⟨X,a,_⟩:=h.pool.box;exact⟨X,_,a,.inr (.inl rfl)⟩
  ·obtain⟨X,a,_⟩:=h.pool.row hi;exact⟨X,_,a,.inr (.inr (.inl rfl))⟩
 ·obtain⟨X,a⟩:=i_ h.row hi;exact⟨X,_,a,.inr (.inr (.inr rfl))⟩
theorem fH.other {D:Rd}{k:Dk}(h:fH w base D k){i:Nat}{X:Array Value}{u:TypeId}(hi:w.heap[i]?=some (.cells X u (0,0)))(b:u≠U5)(c:u≠Qb)(d:u≠Jv)(f:u≠dV):¬Bt D i:=by
 intro e;obtain⟨Y,v,a,hv⟩:=h.typed e;rw[hi]at a;simp only[Option.some.injEq,Obj.cells.injEq]at a;have:=a.2.1;rcases hv with hv|hv|hv|hv
 ·exact b (this.trans hv)
 ·exact c (this.trans hv)
 ·exact d (this.trans hv)
 ·exact f (this.trans hv)
theorem dz.other (h:dz w base b o t C nm sv A z){i:Nat}{X:Array Value}{u:TypeId}(hi:w.heap[i]?=some (.cells X u (0,0)))(c:u≠t)(d:u≠zo)(f:u≠oP):¬wz b sv A z i:=by
 intro e;obtain⟨Y,v,a,hv⟩:=h.typed e;rw[hi]at a;simp only[Option.some.injEq,Obj.cells.injEq]at a;have:=a.2.1;rcases hv with hv|hv|hv
 ·exact c (this.trans hv)
 ·exact d (this.trans hv)
 ·exact f (this.trans hv)
theorem dz.Tt (h:dz w base b o t C nm sv A z)(j:Nat)(u:Value)(h0:j≠o)(c:j≠o+1):dz (w.setCell ⟨b,j,none⟩ u) base b o t (C.setIfInBounds j u) nm sv A z:=by
 have a:ah (Own b) w (w.setCell ⟨b,j,none⟩ u):=(aA (S:=Own b) w).setCell (p:=⟨b,j,none⟩) (fun _=>(rfl:b=b)) _;refine⟨aB h.box _,?_,?_,cD h.row a (fun i hi e=>h.nb (by rw[←show i=b from e];exact hi)),fun s hs=>cD (h.txt s hs) a (fun i hi e=>h.nt s hs (by rw[←show i=b from e];exact hi)),h.sep,h.nb,h.nt,h.lt,h.nx,h.few,h.nm⟩
 ·rw[H9 h0];exact h.c0
 ·rw[H9 c];exact h.c1
theorem cN.mq (h:cN w base qb R c ld ds){i:Nat}(hi:wz R.l R.sv R.A R.z i):¬Bt R.D i:=by
 obtain⟨X,u,a,hu⟩:=h.log.typed hi;exact h.eH.other a (by rcases hu with rfl|rfl|rfl<;>decide) (by rcases hu with rfl|rfl|rfl<;>decide) (by rcases hu with rfl|rfl|rfl<;>decide) (by rcases hu with rfl|rfl|rfl<;>decide)
theorem cN.BJ (h:cN w base qb R c ld ds){i:Nat}(hi:wz R.l R.sv R.A R.z i):¬QS R.q R.qv i:=h.log.Tq h.disk (by decide) (by decide) hi
theorem cN.sR (h:cN w base qb R c ld ds){i:Nat}(hi:Bt R.D i):¬QS R.q R.qv i:=by
 obtain⟨X,u,a,hu⟩:=h.eH.typed hi;exact h.disk.other a (by rcases hu with rfl|rfl|rfl|rfl<;>decide) (by rcases hu with rfl|rfl|rfl|rfl<;>decide)
theorem cN.EO (h:cN w base qb R c ld ds){i:Nat}(hi:R.cv.ownBlock=some i):¬sQ R i:=by
 obtain⟨X,a⟩:=i_ h.cm hi;rintro(e|e|e)
 ·exact h.log.other a (by decide) (by decide) (by decide) e
 ·rcases e with e|e|e
  ·have:=h.eH.box;rw[←e,a]at this;simp only[Option.some.injEq,Obj.cells.injEq]at this;exact absurd this.2.1 (by decide)
  ·exact h.eH.pool.other a (by decide) (by decide) e
  ·exact h.nc i hi e
 ·exact h.disk.other a (by decide) (by decide) e
theorem cN.kept (h:cN w base qb R c ld ds)(k:ah S w w')(hS:∀i,sQ R i→¬S i)(hc:∀i,R.cv.ownBlock=some i→¬S i):cN w' base qb R c ld ds:=
 ⟨h.log.kept k (fun i hi=>hS i (.inl hi)),h.lg,h.eH.kept k (fun i hi=>hS i (.inr (.inl hi))),h.disk.kept k (fun i hi=>hS i (.inr (.inr hi))),cD h.cm k hc,h.nc,h.e0,h.e1,h.cl⟩
theorem cN.no (h:cN w base qb R c ld ds)(k:ah No w w'):cN w' base qb R c ld ds:=h.kept k (fun _ _ h=>h) (fun _ _ h=>h)
theorem cN.lt (h:cN w base qb R c ld ds){i:Nat}(hi:sQ R i):i<w.heap.size:=by
 rcases hi with hi|hi|hi
 ·exact h.log.lt' hi
 ·exact h.eH.lt hi
 ·exact h.disk.lt hi
theorem cN.cells (h:cN w base qb R c ld ds):w.cell? ⟨R.l,0,none⟩=some (dP R.D.d)∧w.cell? ⟨R.l,3,none⟩=some (dP R.q)∧w.cell? ⟨R.l,4,none⟩=some (qI ld.ep)∧w.cell? ⟨R.l,5,none⟩=some R.cv∧w.cell? ⟨R.l,6,none⟩=some (qI ld.e):=by
 refine⟨?_,?_,?_,?_,?_⟩<;>simp[World.cell?,h.log.box]
theorem eW.no (h:cN w base qb R c ld ds)(k:ah No w w'):eW w base qb R c ld ds w':=⟨R,h.no k,k.mono (fun _ _ h=>h.elim),fun _ h=> .inl h,rfl,rfl,fun _ h=> .inl h⟩
theorem eW.trans {R1:Rl}{c2:Nat}{JN:Ld}{JO:Ds}{w2:World}(k:ah (sQ R) w w')(hn:∀i,sQ R1 i→sQ R i∨w.heap.size≤i)(hl:R1.l=R.l)(m:R1.q=R.q)(hv:∀i,R1.cv.ownBlock=some i→R.cv.ownBlock=some i∨sQ R i∨w.heap.size≤i)(h:eW w' base qb R1 c2 JN JO w2):eW w base qb R c2 JN JO w2:=by
 obtain⟨a,b,c,d,f,g,j⟩:=h;have up:∀i,w'.heap.size≤i→w.heap.size≤i:=fun i e=>aU k.size e;refine⟨a,b,k.trans c (fun i hi e=>?_),fun i hi=>?_,f.trans hl,g.trans m,fun i hi=>?_⟩
 ·rcases hn i e with e|e
  ·exact e
  ·omega
 ·rcases d i hi with e|e
  ·exact hn i e
  ·exact .inr (up i e)
 ·rcases j i hi with e|e|e
  ·exact hv i e
  ·exact .inr (hn i e)
  ·exact .inr (.inr (up i e))
theorem eW.before {w0:World}(k:ah No w0 w)(h:eW w base qb R c ld ds w'):eW w0 base qb R c ld ds w':=
 eW.trans (w:=w0) (w':=w) (R1:=R) (k.mono (fun _ _ h=>h.elim)) (fun _ h=> .inl h) rfl rfl (fun _ h=> .inl h) h
theorem eW.after {w2:World}(h:eW w base qb R c ld ds w')(k:ah No w' w2):eW w base qb R c ld ds w2:=by
 obtain⟨R',a,b,d⟩:=h;exact⟨R',a.no k,b.mS k,d⟩
theorem cN.EP (h:cN w base qb R c ld ds){k':Dk}(hd:rV w base R.D k' w'):eW w base qb R c ⟨k',ld.lg,ld.ep,ld.cmds,ld.e⟩ ds w':=by
 obtain⟨lv,f,b,a⟩:=hd;refine⟨⟨R.l,⟨R.D.d,R.D.q,R.D.pv,lv⟩,R.sv,R.A,R.z,R.q,R.qv,R.cv⟩,⟨h.log.kept a (fun i hi=>h.mq hi),h.lg,f,h.disk.kept a (fun i hi e=>h.sR e hi),cD h.cm a (fun i hi e=>h.EO hi (.inr (.inl e))),fun i hi e=>?_,h.e0,h.e1,h.cl⟩,a.mono (fun i _ e=> .inr (.inl e)),fun i hi=>?_,rfl,rfl,fun i hi=> .inl hi⟩
 ·rcases b i e with e|e
  ·exact h.nc i hi e
  ·have:=(h.cm.lt i hi).2;omega
 ·rcases hi with e|e|e
  ·exact .inl (.inl e)
  ·rcases e with e|e|e
   ·exact .inl (.inr (.inl (.inl e)))
   ·exact .inl (.inr (.inl (.inr (.inl e))))
   ·rcases b i e with e|e
    ·exact .inl (.inr (.inl (.inr (.inr e))))
    ·exact .inr e
  ·exact .inl (.inr (.inr e))
theorem cN.boxed (h:cN w base qb R c ld ds)(j:Nat)(u:Value)(d:j≠1)(f:j≠2){cv:Value}{ep e:Int}{cs:List Cm}(hC:(UJ R ld.ep ld.e).setIfInBounds j u=UJ ⟨R.l,R.D,R.sv,R.A,R.z,R.q,R.qv,cv⟩ ep e)
 (hc:aI k_ dV w base cv cs) (hn:∀i,cv.ownBlock=some i→¬R.D.lv.ownBlock=some i) (e0:0≤ep) (e1:ep≤1099511627776) (cl:cs.length≤64):
 cN (w.setCell ⟨R.l,j,none⟩ u) base qb ⟨R.l,R.D,R.sv,R.A,R.z,R.q,R.qv,cv⟩ c ⟨ld.dk,ld.lg,ep,cs,e⟩ ds∧ah (sQ R) w (w.setCell ⟨R.l,j,none⟩ u):=by
 have a:ah (Own R.l) w (w.setCell ⟨R.l,j,none⟩ u):=(aA (S:=Own R.l) w).setCell (p:=⟨R.l,j,none⟩) (fun _=>(rfl:R.l=R.l)) _;have nl:∀i,Own R.l i→i=R.l:=fun i e=>e;refine⟨⟨?_,h.lg,h.eH.kept a (fun i hi e=>?_),h.disk.kept a (fun i hi e=>?_),cD hc a (fun i hi e=>?_),hn,e0,e1,cl⟩,a.mono (fun i _ e=> .inl (.inl (nl i e)))⟩
 ·have:=h.log.Tt j u d f;rw[hC]at this;exact this
 ·exact h.mq (.inl (nl i e)) hi
 ·exact h.BJ (.inl (nl i e)) hi
 ·obtain⟨X,b⟩:=i_ hc hi;rw[nl i e,h.log.box]at b;simp only[Option.some.injEq,Obj.cells.injEq]at b;exact absurd b.2.1 (by decide)
end
section
variable {w w':World}{base qb:Nat}{R:Rl}{c:Nat}{ld:Ld}{ds:Ds}{S:Nat→Prop}
theorem fH.SK {D:Rd}{k:Dk}(h:fH w base D k){a:Pl}(hp:kz w' base D.q D.pv k.z.i.toNat a)(b:ah (tK D.q D.pv) w w')(c:jd a)(hl:a.length=k.pl.length):rV w base D ⟨k.z,a,k.q,k.t,k.o⟩ w':=
 ⟨D.lv,h.pooled hp b ⟨h.ok.z,c,by simp only;rw[hl];exact h.ok.pn,h.ok.q,h.ok.t0,h.ok.t1⟩,fun _ hi=> .inl hi,b.mono (fun _ _ e=> .inr (.inl e))⟩
theorem cN.Tv (h:cN w base qb R c ld ds){lv:Value}{k':Dk}(b:fH w' base ⟨R.D.d,R.D.q,R.D.pv,lv⟩ k')(f:∀i,lv.ownBlock=some i→R.D.lv.ownBlock=some i∨w.heap.size≤i)(a:ah (Bt R.D) w w'):
 cN w' base qb ⟨R.l,⟨R.D.d,R.D.q,R.D.pv,lv⟩,R.sv,R.A,R.z,R.q,R.qv,R.cv⟩ c ⟨k',ld.lg,ld.ep,ld.cmds,ld.e⟩ ds:=by
 refine⟨h.log.kept a (fun i hi=>h.mq hi),h.lg,b,h.disk.kept a (fun i hi e=>h.sR e hi),cD h.cm a (fun i hi e=>h.EO hi (.inr (.inl e))),fun i hi e=>?_,h.e0,h.e1,h.cl⟩;rcases f i e with e|e
 ·exact h.nc i hi e
 ·have:=(h.cm.lt i hi).2;omega
def oD (w:World)(base qb:Nat)(R:Rl)(c:Nat)(x:Int×Ld)(ds:Ds)(e:Ending)(w':World):Prop:=e= .returned (.bool (decide (x.1=0)))∧eW w base qb R c x.2 ds w'
theorem Hy (p:Pl)(k i:Int):(cU p k i).2.length=p.length:=by
 unfold cU
 split
 ·rfl
 ·split
  ·rfl
  ·rename_i x _
   cases decide (x.b=1048576)<;>simp[dZ]
theorem Tw (h:cN w base qb R c ld ds)(r:Lr)(v:Value)(hm:cH r=true)(s:r.k=1):Calls prog 93 #[dP R.l,oM r v] w (oD w base qb R c (ld.fold r) ds):=by
 obtain⟨c0,_,c4,_,_⟩:=h.cells;obtain⟨_,_,x,_,_,_⟩:=h.eH.cells;have ll:R.l<w.heap.size:=h.lt (.inl (.inl rfl));obtain⟨E,y⟩:=ay (ld.fold r);rw[←y];have b1:(r.k==1)=true:=(by rw[s];rfl);have h0:=GF s;rw[hm]at h0;have C:=mO.1 ((mE _ _).mp h0.symm).1;have j:E=bif decide (r.n=ld.ep+1)then(0,⟨⟨ld.dk.z,iF ld.dk.pl,ld.dk.q,ld.dk.t,ld.dk.o⟩,ld.lg,r.n,ld.cmds,ld.e⟩)else(14,ld):=by
  rw[y];unfold Ld.fold;rw[aM s,bH]
 have e0:=h.e0;have e1:=h.e1;have H:=af h;have A:=af j;have B:=af C;clear h y j h0 C hm s;by_cases g:r.n=ld.ep+1
 case neg=>
  have a:aj (E=(14,ld)):=af (by rw[A.o,aJ g];rfl);have I:(r.n !=ld.ep+1)=true:=(by simpa using g);clear g x;(go_enter func93,ntmps93);go_upto_region 3 with fail
  go_region
  all_goals go_wp2
  all_goals go_ret
  all_goals exact⟨by rw[a.o];rfl,by rw[a.o];exact eW.no H.o (((aA _).alloc _).drew)⟩
 have a:aj (E=(0,⟨⟨ld.dk.z,iF ld.dk.pl,ld.dk.q,ld.dk.t,ld.dk.o⟩,ld.lg,r.n,ld.cmds,ld.e⟩)):=af (by rw[A.o,aM g];rfl);have I:(r.n !=ld.ep+1)=false:=(by simpa using g);clear g;(go_enter func93,ntmps93);go_upto_region 3 with fail
 go_region
 go_upto_region 5 with fail
 refine au ?_;intro u b;have f:aj (ah No w u):=af (by rw[b];exact((aA _).alloc _).drew);have d0:=f.o.cB c0;have d4:=f.o.cB c4;have d7:=f.o.cB x;have g4:u.frozen? ⟨R.l,4,none⟩=false:=bF _ _ _ _ _ (f.o.heap H.o.log.box (fun h=>h));have m1:u.cell? ⟨w.heap.size,1,none⟩=some (qI r.n):=(by rw[b];simp[go_sem]);have H1:=af (H.o.no f.o);have p:=af (H1.o.boxed 4 (qI r.n) (by decide) (by decide) (cv:=R.cv) (ep:=r.n) (e:=ld.e) (by simp) H1.o.cm H1.o.nc (by have:=B.o;omega) B.o.2 H1.o.cl);have F:=af (GM p.o.1.eH.pool);have nd:aj (¬R.D.d=R.l):=af (fun e=>H.o.mq (i:=R.l) (.inl rfl) (.inl e.symm));have J:¬R.D.d=R.l:=nd.o;clear b c0 c4 x;(go_wp2_with fail);refine F.o.mono ?_;rintro e K ⟨n,rfl,hp,m⟩;have G:=af (cN.EP p.o.1 (fH.SK p.o.1.eH hp m H.o.eH.ok.pl.yw (by simp[iF])));clear hp m;go_wp2;go_ret;exact⟨by rw[a.o];rfl,by rw[a.o];exact eW.before f.o (eW.trans p.o.2 (fun _ hi=> .inl hi) rfl rfl (fun _ hi=> .inl hi) G.o)⟩
theorem Tx (h:cN w base qb R c ld ds)(r:Lr)(v:Value)(u:r.k=2):Calls prog 93 #[dP R.l,oM r v] w (oD w base qb R c (ld.fold r) ds):=by
 obtain⟨c0,_,_,_,_⟩:=h.cells;obtain⟨_,_,C,_,_,_⟩:=h.eH.cells;have ll:R.l<w.heap.size:=h.lt (.inl (.inl rfl));obtain⟨E,A⟩:=ay (ld.fold r);rw[←A];have b1:(r.k==1)=false:=(by rw[u];rfl);have K:(r.k==2)=true:=(by rw[u];rfl);have j:E=((cU ld.dk.pl r.s r.i).1,⟨⟨ld.dk.z,(cU ld.dk.pl r.s r.i).2,ld.dk.q,ld.dk.t,ld.dk.o⟩,ld.lg,ld.ep,ld.cmds,ld.e⟩):=by
  rw[A];unfold Ld.fold;rw[u];rfl
 have H:=af h;have y:=af j;have b:aj (jd (cU ld.dk.pl r.s r.i).2∧(cU ld.dk.pl r.s r.i).2.length=ld.dk.pl.length):=af ⟨h.eH.ok.pl.reserve r.s r.i,Hy _ _ _⟩;clear h A j u;(go_enter func93,ntmps93);go_upto_region 9 with fail
 refine au ?_;intro g a;have p:aj (ah No w g):=af (by rw[a];exact(aA _).alloc _);have d0:=p.o.cB c0;have d7:=p.o.cB C;have m2:g.cell? ⟨w.heap.size,2,none⟩=some (qI r.s):=(by rw[a];simp[go_sem]);have m3:g.cell? ⟨w.heap.size,3,none⟩=some (qI r.i):=(by rw[a];simp[go_sem]);have H1:=af (H.o.no p.o.drew);have B:=af (Co H1.o.eH.pool r.s r.i);have nl:aj (¬tK R.D.q R.D.pv R.l):=af (fun e=>H.o.mq (i:=R.l) (.inl rfl) (.inr (.inl e)));have nd:aj (¬tK R.D.q R.D.pv R.D.d):=af H.o.eH.iI;have nb:aj (¬tK R.D.q R.D.pv w.heap.size):=af (fun e=>by have:=H.o.eH.pool.lt e;omega);have G:aj (ah No w g.drew):=af p.o.drew;clear a c0 C;obtain⟨X,F⟩:=ay (cU ld.dk.pl r.s r.i);rw[←F]at B y b;clear F
 go_region_held3 (fun w'=>(w'.cell? ⟨R.l,0,none⟩=some (dP R.D.d)∧w'.cell? ⟨R.D.d,7,none⟩=some (dP R.D.q))∧w'.cell? ⟨w.heap.size,2,none⟩=some (qI r.s)∧w'.cell? ⟨w.heap.size,3,none⟩=some (qI r.i))
  (first|exact⟨⟨d0,d7⟩,m2,m3⟩|assumption)
  (first
    |(go_at_call 178
      have hc:=B.o
      with_reducible refine hc.mono ?_
      clear hc;rintro e n ⟨rfl,hp,f⟩;have I:=af (eW.before G.o (cN.EP H1.o (fH.SK H1.o.eH hp f b.o.1 b.o.2)));have m:ah (tK R.D.q R.D.pv) g n:=((aA (S:=No) g).drew.mono (fun _ _ h=>h.elim)).aK f;have J:(n.cell? ⟨R.l,0,none⟩=some (dP R.D.d)∧n.cell? ⟨R.D.d,7,none⟩=some (dP R.D.q))∧n.cell? ⟨w.heap.size,2,none⟩=some (qI r.s)∧n.cell? ⟨w.heap.size,3,none⟩=some (qI r.i):=⟨⟨m.cell d0 nl.o,m.cell d7 nd.o⟩,m.cell m2 nb.o,m.cell m3 nb.o⟩;clear hp f m))
 have x:aj (Value.bool (X.1==0)= .bool (decide (E.1=0))):=af (by rw[y.o];congr 1);go_wp2;go_ret;exact⟨fJ Ending.returned x.o,by rw[y.o];exact I.o⟩
theorem Tz (h:cN w base qb R c ld ds)(r:Lr)(v:Value)(g:r.k=3):Calls prog 93 #[dP R.l,oM r v] w (oD w base qb R c (ld.fold r) ds):=by
 obtain⟨c0,_,_,_,_⟩:=h.cells;have ll:R.l<w.heap.size:=h.lt (.inl (.inl rfl));obtain⟨E,q⟩:=ay (ld.fold r);rw[←q];have b1:(r.k==1)=false:=(by rw[g];rfl);have B:(r.k==2)=false:=(by rw[g];rfl);have C:(r.k==3)=true:=(by rw[g];rfl);have f:E=((jL ld.dk r.c).1,⟨(jL ld.dk r.c).2,ld.lg,ld.ep,ld.cmds,ld.e⟩):=by
  rw[q];unfold Ld.fold;rw[g];rfl
 have H:=af h;have n:=af f;clear h q f g;(go_enter func93,ntmps93);go_upto_region 11 with fail
 refine au ?_;intro b a;have p:aj (ah No w b):=af (by rw[a];exact(aA _).alloc _);have d0:=p.o.cB c0;have m4:ai b w.heap.size 4 16=some (ct r.c):=(by rw[a];simp[go_sem]);have H1:=af (H.o.no p.o.drew);have u:=af (GV H1.o.eH r.c);have nl:aj (¬Bt R.D R.l):=af (fun e=>H.o.mq (i:=R.l) (.inl rfl) e);have nb:aj (¬Bt R.D w.heap.size):=af (fun e=>by have:=H.o.eH.lt e;omega);have y:aj (ah No w b.drew):=af p.o.drew;clear a c0;obtain⟨X,x⟩:=ay (jL ld.dk r.c);rw[←x]at u n;clear x
 go_region_held3 (fun w'=>w'.cell? ⟨R.l,0,none⟩=some (dP R.D.d)∧ai w' w.heap.size 4 16=some (ct r.c))
  (first|exact⟨d0,m4⟩|assumption)
  (first
    |(go_at_call 179
      have hc:=u.o
      with_reducible refine hc.mono ?_
      clear hc;rintro e t ⟨rfl,hp⟩;have z:=af (eW.before y.o (cN.EP H1.o hp));obtain⟨_,_,_,j⟩:=hp;have s:ah (Bt R.D) b t:=((aA (S:=No) b).drew.mono (fun _ _ h=>h.elim)).aK j;have A:t.cell? ⟨R.l,0,none⟩=some (dP R.D.d)∧ai t w.heap.size 4 16=some (ct r.c):=⟨s.cell d0 nl.o,cK s m4 nb.o⟩;clear j s))
 have m:aj (Value.bool (X.1==0)= .bool (decide (E.1=0))):=af (by rw[n.o];congr 1);go_wp2;go_ret;exact⟨fJ Ending.returned m.o,by rw[n.o];exact z.o⟩
theorem TA (h:cN w base qb R c ld ds)(r:Lr)(v:Value)(b:r.k=4):Calls prog 93 #[dP R.l,oM r v] w (oD w base qb R c (ld.fold r) ds):=by
 obtain⟨c0,_,_,_,_⟩:=h.cells;have ll:R.l<w.heap.size:=h.lt (.inl (.inl rfl));obtain⟨E,q⟩:=ay (ld.fold r);rw[←q];have b1:(r.k==1)=false:=(by rw[b];rfl);have D:(r.k==2)=false:=(by rw[b];rfl);have F:(r.k==3)=false:=(by rw[b];rfl);have G:(r.k==4)=true:=(by rw[b];rfl);have f:E=((jk ld.dk).2.2.1,⟨(jk ld.dk).2.2.2,ld.lg,ld.ep,(jk ld.dk).2.1,ld.e⟩):=by
  rw[q];unfold Ld.fold;rw[b];rfl
 have hlen:=Df ld.dk h.eH.ok;have H:=af h;have j:=af f;have y:=af hlen;clear h q f b hlen;(go_enter func93,ntmps93);go_upto_region 13 with fail
 refine au ?_;intro C g;have p:aj (ah No w C):=af (by rw[g];exact(aA _).alloc _);have d0:=p.o.cB c0;have H1:=af (H.o.no p.o);have n:=af (GQ H1.o.eH);unfold sI at n;obtain⟨X,A⟩:=ay (jk ld.dk);rw[←A]at n j y;clear A g c0;(go_wp2_with fail);refine n.o.mono ?_;rintro e x ⟨lv,bv,rfl,z,a2,a3,a4,a5⟩;obtain⟨t,u,s⟩:=aq a2;subst s;have a:=H1.o.Tv z (fun i hi=> .inl (a3 i hi)) (a5.mono (fun i _ e=> .inl e));have m:=a.boxed 5 (.slice t X.2.1.length u) (by decide) (by decide) (cv:= .slice t X.2.1.length u) (ep:=ld.ep) (e:=ld.e) (cs:=X.2.1) (by simp) a2 (fun i hi=>(a4 i hi).2) a.e0 a.e1 y.o;have B:aj (eW w base qb R c ⟨X.2.2.2,ld.lg,ld.ep,X.2.1,ld.e⟩ ds (x.setCell ⟨R.l,5,none⟩ (.slice t X.2.1.length u))):=af (eW.before p.o ⟨_,m.1,(a5.mono (fun i _ e=> .inr (.inl (.inl e)))).trans m.2 (fun i hi e=>by
  rcases e with e|e|e
  ·exact .inl e
  ·rcases e with e|e|e
   ·exact .inr (.inl (.inl e))
   ·exact .inr (.inl (.inr (.inl e)))
   ·exact .inr (.inl (.inr (.inr (a3 i e))))
  ·exact .inr (.inr e)),fun i hi=>by
  rcases hi with e|e|e
  ·exact .inl (.inl e)
  ·rcases e with e|e|e
   ·exact .inl (.inr (.inl (.inl e)))
   ·exact .inl (.inr (.inl (.inr (.inl e))))
   ·exact .inl (.inr (.inl (.inr (.inr (a3 i e)))))
  ·exact .inl (.inr (.inr e)),rfl,rfl,fun i hi=> .inr (.inl (.inr (.inl (.inr (.inr (a4 i hi).1)))))⟩)
 have d5:x.cell? ⟨R.l,5,none⟩=some R.cv:=a.cells.2.2.2.1;have g5:x.frozen? ⟨R.l,5,none⟩=false:=bF _ _ _ _ _ a.log.box;have d:aj (Value.bool (X.2.2.1==0)= .bool (decide (E.1=0))∧E.2=⟨X.2.2.2,ld.lg,ld.ep,X.2.1,ld.e⟩):=af ⟨by rw[j.o];congr 1,by rw[j.o]⟩;clear z a2 a3 a4 a5 a m j;go_wp2;go_ret;exact⟨fJ Ending.returned d.o.1,by rw[d.o.2];exact B.o⟩
theorem TB (h:cN w base qb R c ld ds)(r:Lr)(v:Value)(hv:aW bN w v r.ids)(hm:cH r=true)(hd:0<r.ids.length→∀i,v.ownBlock=some i→¬sQ R i)(b:r.k=5):Calls prog 93 #[dP R.l,oM r v] w (oD w base qb R c (ld.fold r) ds):=by
 obtain⟨c0,_,_,_,_⟩:=h.cells;have ll:R.l<w.heap.size:=h.lt (.inl (.inl rfl));obtain⟨E,y⟩:=ay (ld.fold r);rw[←y];have b1:(r.k==1)=false:=(by rw[b];rfl);have Q:(r.k==2)=false:=(by rw[b];rfl);have T:(r.k==3)=false:=(by rw[b];rfl);have U:(r.k==4)=false:=(by rw[b];rfl);have n:E=((jM ld.dk r.ids).2.1,⟨(jM ld.dk r.ids).2.2,ld.lg,ld.ep,[],ld.e⟩):=by
  rw[y];unfold Ld.fold;rw[b];rfl
 have hl:=(iH hm).2.2 b;have H:=af h;have s:=af n;have M:=af hl;have N:=af hv;have L:=af hd;clear h y n b hl hv hd hm;(go_enter func93,ntmps93);go_upto_region 16 with fail
 refine au ?_;intro m a;have t:aj (ah No w m):=af (by rw[a];exact(aA _).alloc _);have d0:=t.o.cB c0;have m20:m.cell? ⟨w.heap.size,20,none⟩=some v:=(by rw[a];simp[go_sem]);have H1:=af (H.o.no t.o.drew);have x:=af (GW H1.o.eH v r.ids (N.o.kept t.o.drew (fun _ _ h=>h)) (by have:=M.o;omega) (fun hl i hi e=>L.o hl i hi (.inr (.inl e))));unfold v8 at x;have nl:aj (¬Bt R.D R.l):=af (fun e=>H.o.mq (i:=R.l) (.inl rfl) e);have nb:aj (¬Bt R.D w.heap.size):=af (fun e=>by have:=H.o.eH.lt e;omega);have O:aj (ah No w m.drew):=af t.o.drew;clear a c0;obtain⟨X,C⟩:=ay (jM ld.dk r.ids);rw[←C]at x s;clear C
 go_region_held3 (fun w'=>w'.cell? ⟨R.l,0,none⟩=some (dP R.D.d)∧w'.cell? ⟨w.heap.size,20,none⟩=some v)
  (first|exact⟨d0,m20⟩|assumption)
  (first
    |(go_at_call 181
      have hc:=x.o
      with_reducible refine hc.mono ?_
      clear hc;rintro e g ⟨rfl,hp⟩;have B:=af (cN.EP H1.o hp);obtain⟨_,_,_,p⟩:=hp;have A:ah (Bt R.D) m g:=((aA (S:=No) m).drew.mono (fun _ _ h=>h.elim)).aK p;have z:g.cell? ⟨R.l,0,none⟩=some (dP R.D.d)∧g.cell? ⟨w.heap.size,20,none⟩=some v:=⟨A.cell d0 nl.o,A.cell m20 nb.o⟩;clear p A))
 obtain⟨P,f,F,G,q,I,J⟩:=B.o;have u:=f.boxed 5 (.slice none 0 0) (by decide) (by decide) (cv:= .slice none 0 0) (ep:=ld.ep) (e:=ld.e) (cs:= []) (by simp) (cJ _ _ _ _) (fun i hi=>by cases hi) f.e0 f.e1 (aX _);have K:aj (eW w base qb R c ⟨X.2.2,ld.lg,ld.ep,[],ld.e⟩ ds (g.setCell ⟨R.l,5,none⟩ (.slice none 0 0))):=af (eW.before O.o (eW.trans F G q I J (by
  rw[←q];exact⟨_,u.1,u.2,fun i hi=> .inl hi,rfl,rfl,fun i hi=>by cases hi⟩)))
 have d5:g.cell? ⟨R.l,5,none⟩=some P.cv:=(by rw[←q];exact f.cells.2.2.2.1);have g5:g.frozen? ⟨R.l,5,none⟩=false:=bF _ _ _ _ _ (by rw[←q];exact f.log.box);have j:aj (Value.bool (X.2.1==0)= .bool (decide (E.1=0))∧E.2=⟨X.2.2,ld.lg,ld.ep,[],ld.e⟩):=af ⟨by rw[s.o];congr 1,by rw[s.o]⟩;clear f F G q I J u B s z;go_wp2;go_ret;exact⟨fJ Ending.returned j.o.1,by rw[j.o.2];exact K.o⟩
theorem BK (h:cN w base qb R c ld ds)(r:Lr)(v:Value)(hv:aW bN w v r.ids)(hm:cH r=true)(hd:0<r.ids.length→∀i,v.ownBlock=some i→¬sQ R i):Calls prog 93 #[dP R.l,oM r v] w (oD w base qb R c (ld.fold r) ds):=by
 rcases sH hm with e|e|e|e|e
 ·exact Tw h r v hm e
 ·exact Tx h r v e
 ·exact Tz h r v e
 ·exact TA h r v e
 ·exact TB h r v hv hm hd e
end
