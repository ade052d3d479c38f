/- Lemmas. -/
import Derived.Test.YtpbpgjfdledgoaaGreatDoorZo46
import Derived.Test.YtpbpgjfdledgoaaGreatDoorZo47
import Derived.Test.YtpbpgjfdledgoaaGreatDoorZo48
set_option linter.all false
set_option maxRecDepth 100000
set_option maxHeartbeats 8000000
open List renaming setIfInBounds_toArray→cw,set_cons_zero→b_,set_cons_succ→cn
namespace Go.Proofs.YtpbpgjfdledgoaaGreatDoor
open Go.Proofs.Tryz
open Go.RowKit Go.Shelf Go.Sort Go.Joins Go.Deep
theorem K0 {r:Lr}(h:cH r=true):(eF r).length≤30000:=by
 have e:=(iH h).2.2;unfold eF;have l:=aP r.k;rw[cr];cases b1:r.k==1
 ·cases g:r.k==2
  ·cases j:r.k==3
   ·cases b:r.k==5
    ·simp only[cond_false,List.length_nil];omega
    ·have f:r.k=5:=(by simpa using b);have a:=BN r.ids;have d:=aP r.ids.length;have m:=e f;simp only[cond_false,cond_true];unfold nG;rw[cr];omega
   ·have a:=Bi r.c;simp only[cond_false,cond_true];omega
  ·have a:=aP r.s;have d:=aP r.i;simp only[cond_false,cond_true,List.length_append];omega
 ·have a:=aP r.n;simp only[cond_true];omega
theorem J7 {x:Rc}(h:cH x.r=true):(iA x).size≤65536:=by
 have e:(dQ x.r).1=eF x.r:=(by unfold dQ;rw[h];rfl);unfold iA;rw[e];have a:=K0 h;show(eF x.r).toArray.size≤_;rw[xV];omega
theorem ES {g:Lg}{d:Ds}{l:List ByteArray}(h:∀s∈l,s.size≤65536):g.append d l=layAll l g d:=by
 unfold Lg.append;have e:l.any jJ=false:=by
  rw[wU];intro s hs;have:=h s hs;unfold jJ;rw[tQ];omega
 rw[e];rfl
theorem Ld.UR (rs:List Lr):∀l:Ld,(l.run rs).e=l.e:=by
 induction rs with
 |nil=>intro l;rfl
 |cons r rs ih=>
  intro l;show(Ld.run (l.fold r).2 rs).e=l.e;rw[ih,Ld.P0]
section
variable {w w':World}{base qb:Nat}{R:Rl}{c c':Nat}{ld:Ld}{ds:Ds}{S:Nat→Prop}
theorem cN.logged (h:cN w base qb R c ld ds){g':Lg}{f:Ds}(o:Hg w base R.l 1 UI (UJ R ld.ep ld.e) aR R.sv R.A R.z R.q qb R.qv c' g' f w'):
 ∃R',cN w' base qb R' c' ⟨ld.dk,g',ld.ep,ld.cmds,ld.e⟩ f∧ah (sQ R) w w'∧(∀i,sQ R' i→sQ R i∨w.heap.size≤i)∧R'.l=R.l∧R'.q=R.q∧R'.cv=R.cv∧R'.D=R.D:=by
 obtain⟨A',p,n,d,b,g,j,k,m,a⟩:=o;have nd:∀i,Bt R.D i→¬(wz R.l R.sv R.A R.z i∨QS R.q R.qv i):=fun i hi e=>e.elim (fun e=>h.mq e hi) (fun e=>h.sR hi e);refine⟨⟨R.l,R.D,d,A',p,R.q,b,R.cv⟩,⟨g,n,h.eH.kept a nd,j,cD h.cm a (fun i hi e=>h.EO hi (e.elim .inl (fun e=> .inr (.inr e)))),h.nc,h.e0,h.e1,h.cl⟩,a.mono (fun i _ e=>e.elim .inl (fun e=> .inr (.inr e))),fun i hi=>?_,rfl,rfl,rfl,rfl⟩;rcases hi with e|e|e
 ·exact(k i e).imp .inl id
 ·exact .inl (.inr (.inl e))
 ·rcases e with e|e
  ·exact .inl (.inr (.inr (.inl e)))
  ·exact(m i e).imp (fun e=> .inr (.inr (.inr e))) id
theorem cN.mz (h:cN w base qb R c ld ds){d:Ds}(j:mC w R.q qb R.qv c' d w'):
 ∃R',cN w' base qb R' c' ld d∧ah (sQ R) w w'∧(∀i,sQ R' i→sQ R i∨w.heap.size≤i)∧R'.l=R.l∧R'.q=R.q∧R'.cv=R.cv∧R'.D=R.D:=by
 obtain⟨b,f,g,a⟩:=j;refine⟨⟨R.l,R.D,R.sv,R.A,R.z,R.q,b,R.cv⟩,⟨h.log.kept a (fun i hi=>h.BJ hi),h.lg,h.eH.kept a (fun i hi=>h.sR hi),f,cD h.cm a (fun i hi e=>h.EO hi (.inr (.inr e))),h.nc,h.e0,h.e1,h.cl⟩,a.mono (fun i _ e=> .inr (.inr e)),fun i hi=>?_,rfl,rfl,rfl,rfl⟩;rcases hi with e|e|e
 ·exact .inl (.inl e)
 ·exact .inl (.inr (.inl e))
 ·rcases e with e|e
  ·exact .inl (.inr (.inr (.inl e)))
  ·exact(g i e).imp (fun e=> .inr (.inr (.inr e))) id
theorem cN.err (h:cN w base qb R c ld ds)(e:Int):cN (w.setCell ⟨R.l,6,none⟩ (qI e)) base qb R c ⟨ld.dk,ld.lg,ld.ep,ld.cmds,e⟩ ds∧ah (sQ R) w (w.setCell ⟨R.l,6,none⟩ (qI e)):=
 h.boxed 6 (qI e) (by decide) (by decide) (cv:=R.cv) (ep:=ld.ep) (e:=e) (cs:=ld.cmds) (by simp) h.cm h.nc h.e0 h.e1 h.cl
theorem cN.US (h:cN w base qb R c ld ds):w.frozen? ⟨R.l,6,none⟩=false:=bF _ _ _ _ _ h.log.box
end
theorem P4 {α:Type}{C:dX α}{S:Nat→Prop}{w w':World}{v:Value}{l:List α}(h:aW C w v l)(k:ah S w w')(hd:0<l.length→∀i,v.ownBlock=some i→¬S i):aW C w' v l:=by
 by_cases h0:0<l.length
 ·exact h.kept k (hd h0)
 ·obtain rfl:l= []:=qA (by omega);obtain⟨a,b,c⟩:=h;refine⟨a,b,?_⟩;rcases c with c|⟨x,y,c1,c2,c3,c4⟩
  ·exact .inl c
  ·exact .inr ⟨x,y,c1,c2,c3,fun j u d=>by simp[rowsOf]at d⟩
structure HL (w:World)(B:Nat→Prop)(av:Value)(xs:List Rc):Prop where
 rd:aW gu w av xs
 off:∀i,av.ownBlock=some i→i<w.heap.size∧¬B i
 one:∀x∈xs,aW bN w x.v x.r.ids∧cH x.r=true∧(0<x.r.ids.length→∀i,x.v.ownBlock=some i→i<w.heap.size∧¬B i)
theorem HL.kept {w w':World}{B:Nat→Prop}{av:Value}{xs:List Rc}(h:HL w B av xs)(k:ah B w w'):HL w' B av xs:=
 ⟨h.rd.kept k (fun i hi=>(h.off i hi).2),fun i hi=>⟨eU (h.off i hi).1 k.size,(h.off i hi).2⟩,fun x d=>by
   obtain⟨a,b,c⟩:=h.one x d;exact⟨P4 a k (fun hl i hi=>(c hl i hi).2),b,fun hl i hi=>⟨eU (c hl i hi).1 k.size,(c hl i hi).2⟩⟩⟩
theorem xJ.VN {w:World}{B:Nat→Prop}{av:Value}{xs:List Rc}(h:xJ w B av xs):HL w B av xs:=
 ⟨h.rd,h.off,fun x d=>by
   obtain⟨a,b,c⟩:=h.one x d;exact⟨a,b,fun _=>c⟩⟩
section
variable {w w':World}{base qb:Nat}{R:Rl}{c:Nat}{ld:Ld}{ds:Ds}
def ET (w:World)(base qb:Nat)(R:Rl)(c:Nat)(x:Int×Ld×Ds)(e:Ending)(w':World):Prop:=e= .returned (qI x.1)∧eW w base qb R c x.2.1 x.2.2 w'
theorem EU (hb:base≤w.heap.size)(h:cN w base qb R c ld ds)(av:Value)(xs:List Rc)(C:HL w (sQ R) av xs)(dD:xs.length≤1000)(hc:c+xs.length*70000≤1000000000)
 (bg:ld.lg.next+xs.length≤1000000000) (aY:ld.lg.aD.length+xs.length≤900000):Calls prog 94 #[dP R.l,av] w (ET w base qb R (c+xs.length*70000) (ld.write ds (xs.map Rc.r))):=by
 obtain⟨i0,hi,cE,cF,cH⟩:=fR Tryz.mN;obtain⟨va,vc,rfl⟩:=aW.slice C.rd;obtain⟨_,c3,_,_,dx⟩:=h.cells;have ll:R.l<w.heap.size:=h.lt (.inl (.inl rfl));have hlen:(xs.length:Int)≤1000:=(by omega);obtain⟨E,ct⟩:=ay (ld.write ds (xs.map Rc.r));rw[←ct];have H:=af h;have di:=af hb;have aJ:=af C;have bJ:=af ct;have bZ:=af bg;have bX:=af aY;have c8:=af hc;clear h hb C ct bg aY hc;(go_enter func94,ntmps94);go_wp2
 go_loopw [5,6] (fun o q wr=>∃k:Nat,k≤xs.length∧q=qI k∧wr.ownsRow w.heap.size 9 1 o k ((xs.take k).map fun x=> .string (iA x))∧ah No w wr) (fun _ q _=>xs.length-(intOf q).toNat)
 case atStart=>exact⟨0,aX _,rfl,cJ _ _ _ _,aA _⟩
 case round=>
  obtain⟨k,cU,rfl,f,hK⟩:=hrel;have dB:(0:Int)≤(k:Int):=(by omega);obtain⟨cV,oc,rfl⟩:=aq f;have dc:=af f;have cP:=af hK;by_cases d:k<xs.length
  ·have M:(k:Int)<(xs.length:Int):=(by omega);have Y:aW gu wr (.slice va xs.length vc) xs:=aJ.o.rd.kept hK (fun _ _ h=>h);obtain⟨g,off,rfl,_,_,lg⟩:=aW.addr gu Y (by omega);have aS:ai wr g (off+k*21) 21=some (fS xs[k].r xs[k].v):=aW.at gu Y k d;obtain⟨aB,aH,bI⟩:=aJ.o.one xs[k] (dw d);have n:xs.take (k+1)=xs.take k++ [xs[k]]:=iK d;obtain⟨x,C⟩:=ay (xs[k]);rw[←C]at aS aB aH bI n;have bV:=af n;have dh:=af (aB.kept hK (fun _ _ h=>h));have CE:aj (Calls prog 11 #[oM x.r x.v] wr (qG wr ((.tuple #[.string (iA x),qI (dQ x.r).2])))):=af (Hz wr x.r x.v dh.o);have bu:w.heap.size≤wr.heap.size:=cP.o.size;clear f hK Y aB aH bI n C d;(go_wp2_with fail);refine CE.o.mono ?_;rintro e w1 ⟨rfl,N⟩;have cR:=af (cP.o.aK N);have aL:=af (N.mM dc.o);obtain⟨T,cu⟩:=ay (iA x);rw[←cu];have bW:=af cu;clear N CE cu aS;(go_wp2_with (at_builtin;refine xU _ rfl _ _ 67 rfl w.heap.size 9 i0 (.string ⟨#[]⟩) 1 16 underlying67 hi cE cF cH rfl (by decide) _ _ _ rfl (aL.o.alloc _) ⟨w1.heap.size,0,none⟩ 1 1 [.string T] rfl rfl (oF _ _ _) (by simp[Value.oneCell']) (by unfold maxLen;omega) (by omega) (by have:=cR.o.size;simp;omega) ?_;intro v' w2 B bf _));have cg:=af B;have bK:aj (ah No w w2):=af ((cR.o.alloc _).grown bf (fun i hi d=>absurd d (bY.2 (aL.o.lt i hi).1)));clear B bf;go_wp2;go_roundw
   case rel=>
    refine⟨k+1,by omega,by go_num,?_,bK.o⟩;have h:=cg.o;rw[bV.o,fI,wR, ←bW.o];exact h
   case measure=>simp[intOf];omega
  ·have aZ:k=xs.length:=(by omega);have M:¬((k:Int)<(xs.length:Int)):=(by omega);subst aZ;have bu:w.heap.size≤wr.heap.size:=hK.size;have aC:=af (H.o.no hK);have d3:=hK.cB c3;have bp:jg wr (.slice cV xs.length oc) (xs.map iA):=by
    have h:=Reads.fu f (by intro u hu;obtain⟨t,_,rfl⟩:=jq.1 hu;rfl);unfold jg;rw[eE,nY];rw[jH]at h;exact h
   have Z:∀s∈xs.map iA,s.size≤65536:=fun s hs=>by
    obtain⟨x,C,rfl⟩:=jq.1 hs;exact J7 (aJ.o.one x C).2.1
   obtain⟨⟨e1,g1,s1⟩,hA⟩:∃x,ld.lg.append ds (gS (xs.map Rc.r))=x:=⟨_,rfl⟩;have bP:=af hA;have aV:layAll (xs.map iA) (pJ aR R.A R.z) ds=(e1,g1,s1):=by
    rw[aC.o.lg, ←ES Z, ←wm];exact hA
   have cA:R.A.length+1=ld.lg.aD.length:=(by rw[←aC.o.lg];simp[pJ]);have bO:=af (fun W (P:ah No wr W)=>EH (aC.o.log.no P) (aC.o.disk.no P) (by decide) (by decide) (.slice cV xs.length oc) (xs.map iA) (bp.kept P (fun _ _ h=>h)) (fun i hi e=>by have aG:=(f.lt i hi).1;have aT:=H.o.lt (i:=i) (e.elim .inl (fun e=> .inr (.inr e)));omega) Z
    (by rw[eE];exact c8.o) (by rw[eE,aC.o.lg];exact bZ.o) (by rw[eE];have:=bX.o;omega) (by have:=di.o;have:=P.size;omega) e1 g1 s1 aV)
   simp only[List.length_map]at bO;have bR:=af hK;clear f hK bp hA Z aV cA c3 dx;obtain⟨w1,cC⟩:=ay (wr);subst cC;go_upto_region 7 with fail
   refine dN (fun _=>True) (fun w'=>w'.cell? ⟨R.l,3,none⟩=some (dP R.q)) (fun j=>j==12) (by kernel_rfl) ?_;refine bQ.of [0,1,2,3,4,5,6,7,8] ?_
   repeat((first|(refine bQ.w (v:=?_) ?_ trivial d3 ?_;rotate_left;focus(intro w a;(try dsimp only at a);go_simp;(try rfl);done))|(refine bQ.l (v:=?_) ?_ trivial d3 ?_;rotate_left;focus(intro w a;(try dsimp only at a);go_simp;(try rfl);done)));try simp only[cw,b_,cn])
   refine bQ.nil ?_;refine eZ 9 (fun K hK=>?_);go_simp;have hc:=bO.o _ ((aA w1).drew)
   with_reducible refine hc.mono ?_
   clear hc;rintro e w2 ⟨rfl,bq⟩;have O:Hg w1.drew base R.l 1 UI (UJ R ld.ep ld.e) aR R.sv R.A R.z R.q qb R.qv (c+xs.length*70000) g1 s1 w2:=bq;obtain⟨⟨l2,dG,bG,A2,z2,dK,ak,dz⟩,r1,r2,bB,bC,bD,bE,bF⟩:=(aC.o.no ((aA w1).drew)).logged O;simp only at bC bD bE bF;subst bC bD bE bF;have m:w2.cell? ⟨R.l,3,none⟩=some (dP R.q):=r1.cells.2.1;have V:w2.cell? ⟨R.l,6,none⟩=some (qI ld.e):=r1.cells.2.2.2.2;have g6:w2.frozen? ⟨R.l,6,none⟩=false:=r1.US;have cI:R.l<w2.heap.size:=r1.lt (i:=R.l) (.inl (.inl rfl));have bK:aj (ah (sQ R) w w2):=af (((bR.o.drew).mono (fun _ _ h=>h.elim)).aK r2);have aF:aj (∀i,sQ ⟨R.l,R.D,bG,A2,z2,R.q,ak,R.cv⟩ i→sQ R i∨w.heap.size≤i):=af (fun i hi=>(bB i hi).imp id (aU bu));have U:=af r1;clear bq O r1 r2 bB bO d3;go_simp;refine hK.out _ _ trivial (fun _=>m) ?_;clear hK K;refine bQ.of [10,11] ?_
   repeat((first|(refine bQ.w (v:=?_) ?_ trivial m ?_;rotate_left;focus(intro w a;(try dsimp only at a);go_simp;(try rfl);done))|(refine bQ.l (v:=?_) ?_ trivial m ?_;rotate_left;focus(intro w a;(try dsimp only at a);go_simp;(try rfl);done)));try simp only[cw,b_,cn])
   refine bQ.nil ?_;refine eZ 12 (fun K hK=>?_);go_simp;refine hK.out _ _ trivial (pH 12 rfl (by kernel_rfl)) ?_;clear hK K;refine sZ (by kernel_rfl) ?_ _;obtain⟨G,I⟩:=ay (w2.setCell ⟨R.l,6,none⟩ (qI e1));have F:aj (cN G base qb ⟨R.l,R.D,bG,A2,z2,R.q,ak,R.cv⟩ (c+xs.length*70000) ⟨ld.dk,g1,ld.ep,ld.cmds,e1⟩ s1):=af (by rw[I];exact(U.o.err e1).1);have aM:aj (ah (sQ R) w G):=af (bK.o.trans (by rw[I];exact(U.o.err e1).2) (fun i hi e=>by
    rcases aF.o i e with e|e
    ·exact e
    ·omega))
   have aQ:G.cell? ⟨R.l,6,none⟩=some (qI e1):=F.o.cells.2.2.2.2;have a3:G.cell? ⟨R.l,3,none⟩=some (dP R.q):=F.o.cells.2.1;rw[←I];clear I m V g6 cI U bK;by_cases aG:e1=0
   case neg=>
    have b:aj (E=(e1,⟨ld.dk,g1,ld.ep,ld.cmds,e1⟩,s1)):=af (by rw[bJ.o];exact Ld.rX (Ld.JQ bP.o aG) aG);have b1:(e1==0)=false:=(by simpa using aG);clear aG a3;go_wp2
    go_loopw [9] (fun q wr=>q=qI 0∧G=wr) (fun _ _=>0)
    case atStart=>exact⟨rfl,rfl⟩
    case round=>
     obtain⟨rfl,rfl⟩:=hrel;by_cases cD:(0:Int)<(xs.length:Int)
     ·go_wp2;go_ret;exact⟨by rw[b.o];rfl,by rw[b.o];exact⟨_,F.o,aM.o,aF.o,rfl,rfl,fun _ hi=> .inl hi⟩⟩
     ·go_wp2;go_ret;exact⟨by rw[b.o];rfl,by rw[b.o];exact⟨_,F.o,aM.o,aF.o,rfl,rfl,fun _ hi=> .inl hi⟩⟩
   subst aG;obtain⟨⟨e2,s2⟩,hS⟩:∃x,g1.sync s1=x:=⟨_,rfl⟩;have cQ:=af hS;have cO:=af (fun W (P:ah No G W)=>JZ (F.o.no P).log (F.o.no P).disk (fun i hi=>(F.o.no P).BJ hi) e2 s2 (by rw[F.o.lg];exact hS));clear hS;go_upto_region 9 with fail
   refine dN (fun _=>True) (fun w'=>w'.cell? ⟨R.l,3,none⟩=some (dP R.q)) (fun j=>j==11) (by kernel_rfl) ?_;refine bQ.of [0,1,2,3,4,5,6,7] ?_
   repeat((first|(refine bQ.w (v:=?_) ?_ trivial a3 ?_;rotate_left;focus(intro w a;(try dsimp only at a);go_simp;(try rfl);done))|(refine bQ.l (v:=?_) ?_ trivial a3 ?_;rotate_left;focus(intro w a;(try dsimp only at a);go_simp;(try rfl);done)));try simp only[cw,b_,cn])
   refine bQ.nil ?_;refine eZ 8 (fun K hK=>?_);go_simp;have hc:=cO.o _ ((aA G).drew)
   with_reducible refine hc.mono ?_
   clear hc;rintro e au ⟨rfl,bk⟩;have bn:mC G.drew R.q qb ak (c+xs.length*70000) s2 au:=bk;obtain⟨⟨dI,dH,bH,A3,z3,dL,bA,dA⟩,r1,r2,bB,bC,bD,bE,bF⟩:=(F.o.no ((aA G).drew)).mz bn;simp only at bC bD bE bF;subst bC bD bE bF;have m:au.cell? ⟨R.l,3,none⟩=some (dP R.q):=r1.cells.2.1;have V:au.cell? ⟨R.l,6,none⟩=some (qI 0):=r1.cells.2.2.2.2;have g6:au.frozen? ⟨R.l,6,none⟩=false:=r1.US;have cI:R.l<au.heap.size:=r1.lt (i:=R.l) (.inl (.inl rfl));have aO:aj (∀i,sQ ⟨R.l,R.D,bH,A3,z3,R.q,bA,R.cv⟩ i→sQ R i∨w.heap.size≤i):=af (fun i hi=>by
    rcases bB i hi with e|e
    ·exact aF.o i e
    ·exact .inr (aU aM.o.size e))
   have cT:aj (ah (sQ R) w au):=af (aM.o.trans (((aA (S:=No) G).drew.mono (fun _ _ h=>h.elim)).aK r2) (fun i hi e=>by
    rcases aF.o i e with e|e
    ·exact e
    ·omega))
   have U:=af r1;clear bk bn r1 r2 bB cO a3 aQ;go_simp;refine hK.out _ _ trivial (fun _=>m) ?_;clear hK K;refine bQ.of [9,10] ?_
   repeat((first|(refine bQ.w (v:=?_) ?_ trivial m ?_;rotate_left;focus(intro w a;(try dsimp only at a);go_simp;(try rfl);done))|(refine bQ.l (v:=?_) ?_ trivial m ?_;rotate_left;focus(intro w a;(try dsimp only at a);go_simp;(try rfl);done)));try simp only[cw,b_,cn])
   refine bQ.nil ?_;refine eZ 11 (fun K hK=>?_);go_simp;refine hK.out _ _ trivial (pH 11 rfl (by kernel_rfl)) ?_;clear hK K;refine sZ (by kernel_rfl) ?_ _;obtain⟨aP,J⟩:=ay (au.setCell ⟨R.l,6,none⟩ (qI e2));have aE:aj (cN aP base qb ⟨R.l,R.D,bH,A3,z3,R.q,bA,R.cv⟩ (c+xs.length*70000) ⟨ld.dk,g1,ld.ep,ld.cmds,e2⟩ s2):=af (by rw[J];exact(U.o.err e2).1);have bL:aj (ah (sQ R) w aP):=af (cT.o.trans (by rw[J];exact(U.o.err e2).2) (fun i hi e=>by
    rcases aO.o i e with e|e
    ·exact e
    ·omega))
   have aQ:aP.cell? ⟨R.l,6,none⟩=some (qI e2):=aE.o.cells.2.2.2.2;rw[←J];clear J m V g6 cI U cT aM F aF;have Q:aj (ld.lay ds (xs.map Rc.r)=(e2,g1,s2)):=af (by rw[Ld.EA bP.o,cQ.o]);by_cases aT:e2=0
   case neg=>
    have b:aj (E=(e2,⟨ld.dk,g1,ld.ep,ld.cmds,e2⟩,s2)):=af (by rw[bJ.o];exact Ld.rX Q.o aT);have b1:(e2==0)=false:=(by simpa using aT);clear aT;go_wp2
    go_loopw [9] (fun q wr=>q=qI 0∧aP=wr) (fun _ _=>0)
    case atStart=>exact⟨rfl,rfl⟩
    case round=>
     obtain⟨rfl,rfl⟩:=hrel;by_cases cD:(0:Int)<(xs.length:Int)
     ·go_wp2;go_ret;exact⟨by rw[b.o];rfl,by rw[b.o];exact⟨_,aE.o,bL.o,aO.o,rfl,rfl,fun _ hi=> .inl hi⟩⟩
     ·go_wp2;go_ret;exact⟨by rw[b.o];rfl,by rw[b.o];exact⟨_,aE.o,bL.o,aO.o,rfl,rfl,fun _ hi=> .inl hi⟩⟩
   subst aT;have b:aj (E=(0,Ld.run ⟨ld.dk,g1,ld.ep,ld.cmds,0⟩ (xs.map Rc.r),s2)):=af (by rw[bJ.o];exact Ld.wk Q.o);obtain⟨aN,X⟩:=ay ((⟨ld.dk,g1,ld.ep,ld.cmds,0⟩:Ld));rw[←X]at b aE;have bS:aj (aN.e=0):=af (by rw[X]);have dn:aj (eW w base qb R (c+xs.length*70000) aN s2 aP):=af ⟨_,aE.o,bL.o,aO.o,rfl,rfl,fun _ hi=> .inl hi⟩;clear X aE bL aO Q cQ bP bJ M aQ;go_wp2_with fail
   go_loopw [9] (fun q wr=>∃k:Nat,k≤xs.length∧q=qI k∧eW w base qb R (c+xs.length*70000) (aN.run ((xs.map Rc.r).take k)) s2 wr) (fun q _=>xs.length-(intOf q).toNat)
   case atStart=>exact⟨0,aX _,rfl,dn.o⟩
   case round=>
    obtain⟨k,cU,rfl,R',p,hK',y,cZ,c6,bM⟩:=hrel;obtain⟨dJ,c7,cL,A5,z5,dM,cK,cr⟩:=R';simp only at cZ c6;subst cZ c6;have N:(0:Int)≤(k:Int):=(by omega);have aQ:wr.cell? ⟨R.l,6,none⟩=some (qI 0):=by
     have:=p.cells.2.2.2.2;rw[Ld.UR,bS.o]at this;exact this
    by_cases d:k<xs.length
    ·have M:(k:Int)<(xs.length:Int):=(by omega);have L:=aJ.o.kept hK';obtain⟨g,off,rfl,_,_,lg⟩:=aW.addr gu L.rd (by omega);have aS:ai wr g (off+k*21) 21=some (fS xs[k].r xs[k].v):=aW.at gu L.rd k d;obtain⟨aB,aH,bI⟩:=L.one xs[k] (dw d);have bN:=(aJ.o.one xs[k] (dw d)).2.2;have n:(xs.map Rc.r).take (k+1)=(xs.map Rc.r).take k++ [xs[k].r]:=by
      rw[iK (by rw[eE];exact d),List.getElem_map]
     obtain⟨x,C⟩:=ay (xs[k]);rw[←C]at aS aB aH bI bN n;have bV:=af n;have cM:aj (Calls prog 93 #[dP R.l,oM x.r x.v] wr (oD wr base qb ⟨R.l,c7,cL,A5,z5,R.q,cK,cr⟩ (c+xs.length*70000) ((aN.run ((xs.map Rc.r).take k)).fold x.r) s2)):=
      af (BK p x.r x.v aB aH (fun hl i hi e=>by
       rcases y i e with e|e
       ·exact(bN hl i hi).2 e
       ·have:=(bN hl i hi).1;omega))
     have dm:=af hK';have bT:=af y;have bU:=af bM;have aI:=af d;clear L aB aH bI bN n C p hK' y bM d cU;(go_wp2_with fail);refine cM.o.mono ?_;rintro e dF ⟨rfl,hp⟩;have cq:aj (eW w base qb R (c+xs.length*70000) (aN.run ((xs.map Rc.r).take (k+1))) s2 dF):=af (by
      rw[bV.o,Ld.GY];exact eW.trans dm.o bT.o rfl rfl bU.o hp)
     clear hp cM aS aQ;go_wp2;go_roundw
     case rel=>exact⟨k+1,aI.o,by go_num,cq.o⟩
     case measure=>have:=aI.o;simp[intOf];omega
    ·have aZ:k=xs.length:=(by omega);have M:¬((k:Int)<(xs.length:Int)):=(by omega);have cq:aj (eW w base qb R (c+xs.length*70000) E.2.1 E.2.2 wr):=af (by
      rw[b.o];rw[fA (by rw[eE];omega)]at p;exact⟨_,p,hK',y,rfl,rfl,bM⟩)
     clear p hK' y bM;go_wp2;go_ret;exact⟨by rw[b.o];rfl,cq.o⟩
end
