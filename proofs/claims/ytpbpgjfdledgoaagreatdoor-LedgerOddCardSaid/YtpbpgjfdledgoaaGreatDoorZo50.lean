/- Lemmas. -/
import Derived.Test.YtpbpgjfdledgoaaGreatDoorZo49
set_option linter.all false
set_option maxRecDepth 100000
set_option maxHeartbeats 8000000
open List renaming length_cons→iY,length_nil→iP,setIfInBounds_toArray→cw,set_cons_zero→b_,set_cons_succ→cn
namespace Go.Proofs.YtpbpgjfdledgoaaGreatDoor
section
open Go.Proofs.Tryz
open Go.RowKit Go.Shelf Go.Sort Go.Joins Go.Deep
structure xO (w wr:World)(base q qb:Nat)(qv:Value)(c:Nat)(x:Ld)(ds:Ds)(R:Rl):Prop where
 led:cN wr base qb R c x ds
 rq:R.q=q
 new:∀i,sQ R i→QS q qv i∨w.heap.size≤i
 cv:∀i,R.cv.ownBlock=some i→QS q qv i∨w.heap.size≤i
 kp:ah (QS q qv) w wr
theorem r_:∀(ss:List Nm) (l x:Ld),l.replay ss=some x→x.lg=l.lg
 | [],l,x,h=>by cases h;rfl
 |s::ss,l,x,h=>by
  unfold Ld.replay at h;cases hb:decide ((ij s).2=0)&&decide ((l.fold (ij s).1).1=0)with
  |false=>rw[hb]at h;cases h
  |true=>
   rw[hb,bH]at h;rw[r_ ss _ _ h,Ld.EK]
def J8 (w:World)(base q qb:Nat)(qv:Value)(c:Nat)(x:Int×Option Ld×Ds)(e:Ending)(w':World):Prop:=match x.2.1 with
 |none=>e= .returned (.tuple #[.pointer none,.int .i64 x.1])∧mC w q qb qv c x.2.2 w'
 |some ld=>∃R,e= .returned (.tuple #[dP R.l,.int .i64 x.1])∧xO w w' base q qb qv c ld x.2.2 R
section
variable {w w' wr wy:World}{base base' q qb:Nat}{qv:Value}{c c':Nat}{d:Ds}{x x':Ld}{ds ds':Ds}{R:Rl}
theorem fH.lower {D:Rd}{k:Dk}(h:fH w base D k)(hb:base'≤base):fH w base' D k:=⟨h.box,h.pool.lower hb,aI.base h.row hb,aU hb h.bd,h.ok⟩
theorem xO.step (h:xO w wr base q qb qv c x ds R)(k:eW wr base qb R c' x' ds' wy):∃R',xO w wy base q qb qv c' x' ds' R'∧R'.l=R.l:=by
 obtain⟨R',a,b,d,f,g,j⟩:=k;have up:∀i,wr.heap.size≤i→w.heap.size≤i:=fun i e=>aU h.kp.size e;refine⟨R',⟨a,g.trans h.rq,fun i hi=>?_,fun i hi=>?_,h.kp.trans b (fun i hi e=>?_)⟩,f⟩
 ·rcases d i hi with e|e
  ·exact h.new i e
  ·exact .inr (up i e)
 ·rcases j i hi with e|e|e
  ·exact h.cv i e
  ·exact h.new i e
  ·exact .inr (up i e)
 ·rcases h.new i e with e|e
  ·exact e
  ·omega
theorem nS.ne (h:nS w q qb qv c d):¬qv.ownBlock=some q:=fun e=>by
 obtain⟨L,is,rr,a,_⟩:=h;exact a.ne q e rfl
theorem xO.toQ (h:xO w wr base q qb qv c x ds R):mC w q qb qv c ds wr:=by
 have a:=h.led.disk;rw[h.rq]at a;refine⟨R.qv,a,fun i hi=>?_,h.kp⟩;rcases h.new i (.inr (.inr (.inr hi)))with e|e
 ·rcases e with e|e
  ·exact absurd (show R.qv.ownBlock=some q by rw[←e];exact hi) a.ne
  ·exact .inl e
 ·exact .inr e
theorem xO.made {D:Rd}{z:Zf}{sv:Value}{A:List Rs}{zs:Rs}{g:Lg}{h:World}{b:Nat}(n:fH h base D (Dk.new z))(j:∀i,Bt D i→w.heap.size≤i)(hS:mh h base sv (A++ [zs]))(a:∀i,Hj sv (A++ [zs]) i→w.heap.size≤i)
 (m:pJ aR A zs=g) (hA:A.length≤64) (hn:g.next≤1000000000) (r:mC w q qb qv c d h) (k:h.heap[b]?=some (.cells #[dP D.d,.string aR,sv,dP q,qI 0,.slice none 0 0,qI 0] UI (0,0))) (p:w.heap.size≤b):
 ∃R,xO w h base q qb qv c ⟨Dk.new z,g,0,[],0⟩ d R∧R.l=b:=by
 obtain⟨v',s,t,u⟩:=r;refine⟨⟨b,D,sv,A,zs,q,v',.slice none 0 0⟩,⟨⟨?_,m,n,s,cJ _ _ _ _,fun i hi=>(by cases hi),mH _,by show(0:Int)≤_;omega,aX _⟩,rfl,fun i hi=>?_,fun i hi=>(by cases hi),u⟩,rfl⟩
 ·have e1:zs.f+zs.l.length=g.next:=(by rw[←m];rfl);exact hS.log (o:=1) (nm:=aR) k rfl rfl (by decide) (by decide) (by omega) (by omega) (by decide)
 ·rcases hi with e|e|e
  ·rcases e with e|e|e
   ·exact .inr (by have v:i=b:=e;omega)
   ·exact .inr (a i (.inl e))
   ·exact .inr (a i (.inr e))
  ·exact .inr (j i e)
  ·rcases e with e|e
   ·exact .inl (.inl e)
   ·exact(t i e).imp .inr id
theorem yR (h:nS w q qb qv c d)(hb:base≤w.heap.size)(z:Zf)(eV:o9 z=true)(there:List Nat)(d1:Ds)(cD:gQ d aR=(0,there,d1))(g:Lg)(out:List Nm)(j:Ds)(V:mJ aR there (kH aR there d1)=(g,out,j))
 (hc:c+70000≤1000000000) (cA:out.length≤1000000000) (cB:∀t∈out,t.length≤1000000000) (cu:g.next+1≤1000000000) (cg:g.aD.length+1≤900000):
 Calls prog 27 #[dP q,D8 z] w (J8 w base q qb qv (c+70000) (eG z g out j)):=by
 obtain⟨E,dI⟩:=ay (eG z g out j);rw[←dI];have H:=af h;have dz:=af hb;have av:=af dI;have dx:=af cD;have c8:=af V;have fD:=af cB;have dh:=af cA;have d8:=af hc;have aG:=af cu;have dA:=af cg;have cZ:=af (fun W=>Mx W z eV);unfold SA at cZ;have eU:(out.length:Int)≤1000000000:=(by omega);clear h hb dI cD V cB cu cg eV cA hc;(go_enter func27,ntmps27);go_upto_region 1 with fail
 refine au ?_;intro cN aQ;have bD:aj (ah No w cN):=af (by rw[aQ];exact(aA _).alloc _);have b0:ai cN w.heap.size 0 7=some (LI z):=(by rw[aQ];simp[go_sem]);clear aQ;have c7:=af (J0 (H.o.no bD.o) aR (by kernel_rfl) there d1 dx.o g out j c8.o (by have:=d8.o;omega));unfold EI at c7;(go_wp2_with fail);refine c7.o.mono ?_;rintro e w1 ⟨sv,A,zs,rfl,hS,cC,cE,O,hA⟩;obtain⟨sa,sc,dU⟩:=aq hS.row;subst dU;have d9:=af hS;have aE:=af cC;have bO:=af cE;have di:=af (O.before bD.o);have d7:=af hA;have b1:ai w1 w.heap.size 0 7=some (LI z):=by
  obtain⟨v',_,_,S⟩:=O;exact cK S b0 (fun e=>by have:=H.o.lt e;omega)
 have eD:aj (cN.heap.size≤w1.heap.size):=af (by obtain⟨v',_,_,S⟩:=O;exact S.size);clear hS cC cE O hA b0 c7;obtain⟨L,dL⟩:=ay ((A++ [zs]).length);rw[←dL];have fw:=af dL;clear dL;go_upto_region 4 with fail
 refine au ?_;intro m aS;have cL:aj (ah No w1 m):=af (by rw[aS];exact(aA _).alloc _);have B2:aj (m.heap[w1.heap.size]?=some (.cells #[.string aR,.slice sa L sc] RB (0,0))):=af (by rw[aS];exact bT w1 _);obtain⟨lb,bg⟩:=ay (w1.heap.size);rw[←bg]at B2⊢;have fB:=af bg;have l2:ai m lb 0 2=some [.string aR,.slice sa L sc]:=(by unfold ai;rw[B2.o];rfl);have eF:=cL.o.ai b1;clear aS b1 bg;have fE:∀w',ah No m w'→ai w' w.heap.size 0 7=some (LI z):=fun w' S=>S.ai eF;have fF:∀w',ah No m w'→ai w' lb 0 2=some [.string aR,.slice sa L sc]:=fun w' S=>S.ai l2
 go_region_held3 (fun w'=>ah No m w')
  (first|assumption|exact(aA m).drew|exact aA m|exact ah.alloc (by first|assumption|exact(aA m).drew) _)
  (first
    |(go_at_call 91
      have hc:=cZ.o
      with_reducible refine(hc _).mono ?_
      clear hc;rintro e cU ⟨D,rfl,eS,cn⟩;have aP:ah No m cU:=ah.trans (by first|assumption|exact(aA m).drew|exact aA m) cn (fun _ _ h=>h)
      have Z:=af eS;have aF:aj (m.heap.size≤m.drew.heap.size):=af (bM _);clear eS cn))
 have B4:=af (aP.heap B2.o (fun h=>h));have aH:=af (cL.o.aK aP);have eE:aj (w.heap.size≤m.heap.size):=af (aU bD.o.size (aU eD.o cL.o.size));clear aP fE fF l2 eF cZ cL;go_upto_region 5 with fail
 refine au ?_;intro U M;have d_:aj (ah No w1 U):=af (aH.o.aK (by rw[M];exact(aA _).alloc _));have Q:ah No cU U:=(by rw[M];exact(aA _).alloc _);have dZ:aj (U.heap[lb]?=some (.cells #[.string aR,.slice sa L sc] RB (0,0))):=af (Q.heap B4.o (fun h=>h));obtain⟨fq,P⟩:=ay (cU.heap.size);have d5:U.heap[fq]?=some (.cells #[dP D.d,.string aR,.slice sa L sc,dP q,qI 0,.slice none 0 0,qI 0] UI (0,0)):=(by rw[M,P];exact bT cU _);have cM:aj (mh U cN.heap.size (.slice sa L sc) (A++ [zs])):=af (by rw[fw.o];exact d9.o.no d_.o);have eB:aj (∃R,xO w U base q qb qv c ⟨Dk.new z,g,0,[],0⟩ j R∧R.l=fq):=af (xO.made ((Z.o.no Q).lower (aU dz.o (aU eE.o aF.o))) (fun i hi=>aU (aU eE.o aF.o) ((Z.o.no Q).le hi)) (cM.o.lower (aU dz.o bD.o.size)) (fun i hi=>aU bD.o.size (cM.o.ge hi)) aE.o d7.o (by have:=aG.o;omega) (di.o.after d_.o) d5 (by rw[P];have:=aH.o.size;have:=eD.o;have:=bD.o.size;omega));have cw:zs.f+zs.l.length=g.next:=(by rw[←aE.o];rfl);have bV:=af (cM.o.log (o:=0) (nm:=aR) dZ.o rfl rfl (by decide) (by decide) (by have:=aG.o;omega) (by have:=d7.o;omega) (by decide));rw[←P];clear P cw d5 Q M cM aH Z aF B4 d9;obtain⟨g7,eO,cF,_,_,_,_⟩:=bV.o.at';simp only[Value.slice.injEq]at cF;obtain⟨rfl,bY,rfl⟩:=cF;have l1:U.cell? ⟨lb,1,none⟩=some (.slice (some ⟨g7,0,none⟩) L sc):=bV.o.iM;have f0:=ak (bV.o.seg (by rw[bY]) 0 (by simp)) 0 _ rfl;simp only[Nat.zero_mul,Nat.add_zero]at f0;obtain⟨F,dJ⟩:=ay (((A++ [zs])[0]'(by simp)).f);have aC:aj (g.aD.headD 0=F):=af (by
  rw[dJ, ←aE.o];show((A++ [zs]).map Rs.f).headD 0=_;cases A<;>rfl)
 have dH:U.cell? ⟨g7,0,none⟩=some (qI F):=(by rw[dJ];exact f0);have dM:(0:Int)<(L:Int):=(by omega);have dK:(0:Int)≤(F:Int):=(by omega);clear f0 dJ bY;obtain⟨R,bZ,dN⟩:=eB.o;have aL:=af bZ;subst dN;clear eB bZ;by_cases cQ:F=0
 case neg=>
  have eM:((F:Int) !=0)=true:=(by simp only[bne_iff_ne,ne_eq];omega);have a:aj (E=(14,none,j)):=af (by
   have:je z g out=none:=qx (by rw[aC.o];omega);rw[av.o];unfold eG;rw[this])
  clear cQ;go_wp2
  go_ret2
  rw[a.o];exact⟨rfl,aL.o.toQ.up (by omega)⟩
 have eM:((F:Int) !=0)=false:=(by rw[cQ];rfl);have bI:aj (g.aD.headD 0=0):=af (by rw[aC.o,cQ]);have cV:=af (MH bV.o (by rw[bO.o];have:=dh.o;omega));rw[bO.o]at cV;clear cQ aC;(go_wp2_with fail);refine cV.o.mono ?_;rintro e dW ⟨ov,rfl,N,aZ⟩;have bU:aj (xO w dW base q qb qv c ⟨Dk.new z,g,0,[],0⟩ j R):=af ⟨aL.o.led.no aZ,aL.o.rq,aL.o.new,aL.o.cv,aL.o.kp.mS aZ⟩;have eA:=af N;have bR:aj (∀i,ov.ownBlock=some i→¬sQ R i):=af (fun i hi e=>by
  have n:=(N.lt i hi).1;have aN:=aL.o.led.lt e;omega)
 obtain⟨fI,oc,rfl⟩:=aq N;clear N aZ cV bV l1 dH dM dK eM dZ;go_wp2
 go_loopw [10] (fun bG wr=>∃(k:Nat) (x:Ld),k≤out.length∧bG=qI k∧Ld.replay ⟨Dk.new z,g,0,[],0⟩ (out.take k)=some x∧eW dW base qb R c x j wr) (fun bG _=>out.length-(intOf bG).toNat)
 case atStart=>exact⟨0,_,aX _,rfl,rfl,eW.no bU.o.led (aA _)⟩
 case round=>
  obtain⟨k,x,eT,rfl,b,J⟩:=hrel;have dS:(0:Int)≤(k:Int):=(by omega);by_cases I:k<out.length
  ·have dR:(k:Int)<(out.length:Int):=(by omega);have bn:aW cT wr (.slice fI out.length oc) out:=by
    obtain⟨_,_,S,_⟩:=J;exact eA.o.reads.kept S bR.o
   obtain⟨bG,off,rfl,_,_,_⟩:=aW.addr cT bn (by omega);have hc:∀t:Nm,t=out[k]→wr.cell? ⟨bG,off+k,none⟩=some (.string (bB t)):=fun t bF=>by
    subst bF;have:=ak (aW.at cT bn k I) 0 _ rfl
    simpa [cT]using this
   have bp:=fD.o _ (dw I);have v:=af I;obtain⟨t,bF⟩:=ay (out[k]'I);have dn:=af bF;have C:=af b;have bL:=af J;replace bp:List.length t≤1000000000:=(by rw[bF];exact bp);replace hc:=hc t bF;obtain⟨T,cO⟩:=ay (bB t);have dQ:wr.cell? ⟨bG,off+k,none⟩=some (.string T):=(by rw[cO];exact hc);have X:aj (Calls prog 13 #[.string T] wr (zm wr (ij t))):=af (by
    have fN:T.size=t.length:=(by rw[cO];simp[bB,ByteArray.size]);have:=HE wr T (by omega);rw[show T.data.toList=t by rw[cO];simp[bB]]at this;exact this)
   obtain⟨dG,aO⟩:∃R,R=ij t:=⟨_,rfl⟩;rw[←aO]at X;have G:=af aO;clear aO hc bn bF cO b J bp eT;obtain⟨r,ec⟩:=dG;obtain⟨bu,bq⟩:=ay (wr);subst bq;(go_wp2_with fail);refine X.o.mono ?_;rintro e dX ⟨fO,rfl,bk,cq⟩;obtain⟨na,nc,rfl⟩:=aq bk;have ew:=af bk;have eu:=af cq;clear bk cq X dQ;go_upto_region 12 with fail
   refine au ?_;intro bX aT;have dV:ah No dX bX:=(by rw[aT];exact(aA _).alloc _);have eH:ai bX dX.heap.size 0 21=some (fS r (.slice na r.ids.length nc)):=(by rw[aT];simp[go_sem]);have dB:=af (eu.o.aK dV);have ez:aj (aI bN Tp bX bu.heap.size (.slice na r.ids.length nc) r.ids):=af (dV.mM ew.o);clear aT dV ew eu;obtain⟨fG,b_⟩:=ay (dX.heap.size);rw[←b_]at eH⊢;clear b_;by_cases te:ec=0
   case neg=>
    have be:(ec !=0)=true:=(by simpa using te);have a:aj (E=(14,none,j)):=af (by
     have:je z g out=none:=oA (Ld.oz v.o C.o (dn.o▸(by rw[←G.o,aJ te];rfl:(decide ((ij t).2=0)&&decide ((x.fold (ij t).1).1=0))=false)));rw[av.o];unfold eG;rw[this])
    clear te;go_wp2
    go_ret2
    rw[a.o];obtain⟨R',n,_⟩:=bU.o.step (bL.o.after dB.o);exact⟨rfl,n.toQ.up (by omega)⟩
   subst te;have fC:aj (cH r=true):=af (by
    have h:(ij t).2=0:=(by rw[←G.o]);have:=Hv h;rw[←G.o]at this;exact this)
   obtain⟨⟨fH,bC,u,bA,z9,cJ,s,p⟩,r1,r2,eX,eY,eZ,fe⟩:=bL.o;simp only at eY eZ;subst eY eZ;have c6:aj (Calls prog 93 #[dP R.l,oM r (.slice na r.ids.length nc)] bX (oD bX base qb ⟨R.l,bC,u,bA,z9,R.q,s,p⟩ c (x.fold r) j)):=af (by
    refine BK (r1.no dB.o) r _ ez.o.reads fC.o (fun _ i hi e=>?_);have n:=(ez.o.lt i hi).1;have aN:=r1.lt e;omega)
   have dF:=af (And.intro r2 (And.intro eX fe));obtain⟨⟨eP,x'⟩,aY⟩:∃y,y=x.fold r:=⟨_,rfl⟩;rw[←aY]at c6;have bJ:=af aY;clear aY r1 r2 eX fe;(go_wp2_with fail);refine c6.o.mono ?_;rintro e fL ⟨rfl,hp⟩;have eC:aj (eW dW base qb R c x' j fL):=af (eW.trans dF.o.1 dF.o.2.1 rfl rfl dF.o.2.2 (eW.before dB.o hp));clear hp c6 eH;by_cases cR:eP=0
   case neg=>
    have bf:decide (eP=0)=false:=aJ cR;have a:aj (E=(14,none,j)):=af (by
     have:je z g out=none:=oA (Ld.oz v.o C.o (dn.o▸(by rw[←G.o];simp only;rw[←bJ.o,aJ cR];rfl:(decide ((ij t).2=0)&&decide ((x.fold (ij t).1).1=0))=false)));rw[av.o];unfold eG;rw[this])
    clear cR;go_wp2
    go_ret2
    rw[a.o];obtain⟨R',n,_⟩:=bU.o.step eC.o;exact⟨rfl,n.toQ.up (by omega)⟩
   subst cR;have dm:aj (Ld.replay ⟨Dk.new z,g,0,[],0⟩ (out.take (k+1))=some x'):=af (by
    have e:out.take (k+1)=out.take k++ [t]:=(by rw[dn.o];exact iK v.o);rw[e,Ld.rZ C.o, ←G.o];simp only;rw[←bJ.o];rfl)
   go_wp2;go_roundw
   case rel=>exact⟨k+1,x',v.o,by go_num,dm.o,eC.o⟩
   case measure=>have:=v.o;simp[intOf];omega
  ·have dR:¬(k:Int)<(out.length:Int):=(by omega);have cr:out.take k=out:=fA (by omega);rw[cr]at b;have ct:=r_ _ _ _ b;have K:aj (je z g out=bif decide (1099511627776≤x.ep)then none else some x):=af (oB bI.o b)
   obtain⟨⟨fH,bC,u,bA,z9,cJ,s,p⟩,n,aN⟩:=bU.o.step J;simp only at aN;subst aN;have bW:=af n;have c4:=n.led.cells.2.2.1;have e0:=n.led.e0;have e1:=n.led.e1;clear b J cr I eT n dS bU eA bR bI;simp only at c4;obtain⟨bu,bq⟩:=ay (wr);subst bq;by_cases te:1099511627776≤x.ep
   ·have a:aj (E=(14,none,j)):=af (by
     rw[av.o];unfold eG;rw[K.o,aM te];rfl)
    clear K av;go_wp2
    go_ret2
    rw[a.o];exact⟨rfl,bW.o.toQ.up (by omega)⟩
   obtain⟨Y,dO⟩:=ay (x.write j [bP (x.ep+1)]);have a:aj (E=bif decide (Y.1=0)then(0,some Y.2.1,Y.2.2)else(Y.1,none,Y.2.2)):=af (by
    rw[av.o,dO];unfold eG;rw[K.o,aJ te];rfl)
   have bK:=af ct;have we:IntKind.i64.wrap (x.ep+1)=x.ep+1:=(by rw[cI];omega);have dc:aj (cH (bP (x.ep+1))=true):=af (uH (by omega) (by omega));have bQ:=af dO;clear K av ct dO;(go_wp2_with fail);refine eN ?_;intro bE aV;have cP:ah No bu bE:=(by rw[aV];exact(aA _).alloc _);have g9:bE.heap[bu.heap.size]?=some (.cells (wB (gy (bP (x.ep+1)))).toArray wi (0,0)):=(by rw[aV];exact bT bu _);have fJ:=bW.o.kp.size;have d6:=EU (base:=base) (by have:=dz.o;have:=cP.size;omega) (bW.o.led.no cP) (.slice (some ⟨bu.heap.size,0,none⟩) 1 1) [gy (bP (x.ep+1))] (BG (B:=sQ ⟨R.l,bC,u,bA,z9,cJ,s,p⟩) g9 (fun e=>by have:=bW.o.led.lt e;omega) dc.o rfl).VN (by simp) (by have:=d8.o;simp only[iY,iP];omega) (by rw[bK.o];have:=aG.o;simp only[iY,iP];omega) (by rw[bK.o];have:=dA.o;simp only[iY,iP];omega);have bH:aj (Calls prog 94 #[dP R.l,.slice (some ⟨bu.heap.size,0,none⟩) 1 1] bE (ET bE base qb ⟨R.l,bC,u,bA,z9,cJ,s,p⟩ (c+70000) Y)):=af (by rw[bQ.o];exact(show ET bE base qb ⟨R.l,bC,u,bA,z9,cJ,s,p⟩ (c+1*70000) (x.write j [bP (x.ep+1)])=ET bE base qb ⟨R.l,bC,u,bA,z9,cJ,s,p⟩ (c+70000) (x.write j [bP (x.ep+1)])by rw[Nat.one_mul])▸d6);have dD:=af cP;clear d6 cP g9 aV fJ;obtain⟨dY,fM,fu⟩:=Y;refine bH.o.mono ?_;rintro e fK ⟨rfl,hp⟩;obtain⟨R',n,aN⟩:=bW.o.step (eW.before dD.o hp);have bS:=af n;simp only at aN;clear hp n bH bQ c4;by_cases ty:dY=0
   case neg=>
    have fG:(dY !=0)=true:=(by simpa using ty);have aB:aj (E=(dY,none,fu)):=af (by rw[a.o];simp only;rw[aJ ty];rfl);clear a ty;go_wp2
    go_ret2
    rw[aB.o];exact⟨rfl,bS.o.toQ⟩
   subst ty;have aB:aj (E=(0,some fM,fu)):=af (by rw[a.o];rfl);clear a;go_wp2
   go_ret2
   rw[aB.o];exact⟨R',by rw[aN];rfl,bS.o⟩
end
theorem J9 (a b:cO)(W:World):(binOp .neq 23 (iE a) (iE b)).run prog W= .ok (.bool (!neq a b)) W:=by
 obtain⟨a0,c,a2⟩:=a;obtain⟨b0,b1,d⟩:=b;simp only[neq];simp[go_sem];simp only[Jc,Bool.or_false]
def yS (p:Prop)(w:World)(e:Ending)(w':World):Prop:=(∃b,e= .returned (.bool b)∧(p→b=true))∧ah No w w'
theorem qz (w:World)(v u:Value)(l m:List Cm)(hv:aW k_ w v l)(hu:aW k_ w u m)(hl:l.length≤1000)(hm:m.length≤1000):Calls prog 104 #[v,u] w (yS (l=m) w):=by
 obtain⟨va,vc,rfl⟩:=hv.slice;obtain⟨O,uc,rfl⟩:=hu.slice;have G:=af hv;have F:=af hu;have M:(l.length:Int)≤1000:=(by omega);have N:(m.length:Int)≤1000:=(by omega);clear hv hu hl hm;by_cases d:(l.length:Int)=(m.length:Int)
 case neg=>
  have b0:((l.length:Int) !=(m.length:Int))=true:=(by simpa using d);have b:aj (yS (l=m) w (.returned (.bool false)) w):=af ⟨⟨false,rfl,fun e=>absurd (fJ (fun x=>(List.length x:Int)) e) d⟩,aA _⟩;clear d;(go_enter func104,ntmps104);go_wp2;go_ret;exact b.o
 have b0:((l.length:Int) !=(m.length:Int))=false:=(by simpa using d);have r:aj (l.length=m.length):=af (by omega);clear d;(go_enter func104,ntmps104);go_wp2
 go_loopw [5] (fun q wr=>∃k:Nat,k≤l.length∧q=qI k∧ah No w wr) (fun q _=>l.length-(intOf q).toNat)
 case atStart=>exact⟨0,aX _,rfl,aA _⟩
 case round=>
  obtain⟨k,J,rfl,hK⟩:=hrel;have B:=af hK;have K:(0:Int)≤(k:Int):=(by omega);by_cases t:k<l.length
  ·have A:(k:Int)<(l.length:Int):=(by omega);have L:(k:Int)<(m.length:Int):=(by have:=r.o;omega);have f:k<m.length:=(by have:=r.o;omega);have j:aW k_ wr (.slice va l.length vc) l:=G.o.kept hK (fun _ _ h=>h);have p:aW k_ wr (.slice O m.length uc) m:=F.o.kept hK (fun _ _ h=>h);obtain⟨g,off,rfl,_,_,_⟩:=aW.addr k_ j (by omega);obtain⟨g2,y,rfl,_,_,_⟩:=aW.addr k_ p (by omega);have H:ai wr g (off+k*16) 16=some (ct l[k]):=aW.at k_ j k t;have cs:ai wr g2 (y+k*16) 16=some (ct m[k]):=aW.at k_ p k f;have i:aj (l=m→l[k]=m[k]):=af (fun e=>by subst e;rfl);obtain⟨a,D⟩:=ay (l[k]);obtain⟨c,hc⟩:=ay (m[k]);rw[←D]at H i;rw[←hc]at cs i;have s:∀W,(binOp .neq 27 (.agg (ct a).toArray) (.agg (ct c).toArray)).run prog W= .ok (.bool (!jc a c)) W:=fun W=>C0 a c W;obtain⟨T,z⟩:=ay (!jc a c);rw[←z]at s;have E:=af z;clear j p D hc hK z f;cases T with
   |false=>
    go_wp2
    go_quiet (fail)
    rename_i nq
    go_wp2;go_roundw
    case rel=>exact⟨k+1,by omega,by go_num,B.o.drewN _⟩
    case measure=>simp[intOf];omega
   |true=>
    have b:aj (∀n,yS (l=m) w (.returned (.bool false)) (wr.drewN n)):=af (fun n=>⟨⟨false,rfl,fun e=>by
     have I:=(fZ a c).2 (i.o e);have C:=E.o;rw[I]at C;cases C⟩,B.o.drewN n⟩)
    go_wp2
    go_quiet (fail)
    rename_i nq
    go_wp2;go_ret;exact b.o nq
  ·have b:aj (yS (l=m) w (.returned (.bool true)) wr):=af ⟨⟨true,rfl,fun _=>rfl⟩,hK⟩;have A:¬(k:Int)<(l.length:Int):=(by omega);clear hK J t;go_wp2;go_ret;exact b.o
theorem HQ (w:World)(v u:Value)(l m:List cO)(hv:aW bN w v l)(hu:aW bN w u m)(hl:l.length≤1000)(hm:m.length≤1000):Calls prog 69 #[v,u] w (yS (l=m) w):=by
 obtain⟨va,vc,rfl⟩:=hv.slice;obtain⟨O,uc,rfl⟩:=hu.slice;have G:=af hv;have F:=af hu;have M:(l.length:Int)≤1000:=(by omega);have N:(m.length:Int)≤1000:=(by omega);clear hv hu hl hm;by_cases d:(l.length:Int)=(m.length:Int)
 case neg=>
  have b0:((l.length:Int) !=(m.length:Int))=true:=(by simpa using d);have b:aj (yS (l=m) w (.returned (.bool false)) w):=af ⟨⟨false,rfl,fun e=>absurd (fJ (fun x=>(List.length x:Int)) e) d⟩,aA _⟩;clear d;(go_enter func69,ntmps69);go_wp2;go_ret;exact b.o
 have b0:((l.length:Int) !=(m.length:Int))=false:=(by simpa using d);have r:aj (l.length=m.length):=af (by omega);clear d;(go_enter func69,ntmps69);go_wp2
 go_loopw [5] (fun q wr=>∃k:Nat,k≤l.length∧q=qI k∧ah No w wr) (fun q _=>l.length-(intOf q).toNat)
 case atStart=>exact⟨0,aX _,rfl,aA _⟩
 case round=>
  obtain⟨k,J,rfl,hK⟩:=hrel;have B:=af hK;have K:(0:Int)≤(k:Int):=(by omega);by_cases t:k<l.length
  ·have A:(k:Int)<(l.length:Int):=(by omega);have L:(k:Int)<(m.length:Int):=(by have:=r.o;omega);have f:k<m.length:=(by have:=r.o;omega);have j:aW bN wr (.slice va l.length vc) l:=G.o.kept hK (fun _ _ h=>h);have p:aW bN wr (.slice O m.length uc) m:=F.o.kept hK (fun _ _ h=>h);obtain⟨g,off,rfl,_,_,_⟩:=aW.addr bN j (by omega);obtain⟨g2,y,rfl,_,_,_⟩:=aW.addr bN p (by omega);have H:ai wr g (off+k*3) 3=some (bk l[k]):=aW.at bN j k t;have cs:ai wr g2 (y+k*3) 3=some (bk m[k]):=aW.at bN p k f;have i:aj (l=m→l[k]=m[k]):=af (fun e=>by subst e;rfl);obtain⟨a,D⟩:=ay (l[k]);obtain⟨c,hc⟩:=ay (m[k]);rw[←D]at H i;rw[←hc]at cs i;have s:∀W,(binOp .neq 23 (.agg (bk a).toArray) (.agg (bk c).toArray)).run prog W= .ok (.bool (!neq a c)) W:=fun W=>J9 a c W;obtain⟨T,z⟩:=ay (!neq a c);rw[←z]at s;have E:=af z;clear j p D hc hK z f;cases T with
   |false=>
    go_wp2
    go_quiet (fail)
    rename_i nq
    go_wp2;go_roundw
    case rel=>exact⟨k+1,by omega,by go_num,B.o.drewN _⟩
    case measure=>simp[intOf];omega
   |true=>
    have b:aj (∀n,yS (l=m) w (.returned (.bool false)) (wr.drewN n)):=af (fun n=>⟨⟨false,rfl,fun e=>by
     have I:=(u6 a c).2 (i.o e);have C:=E.o;rw[I]at C;cases C⟩,B.o.drewN n⟩)
    go_wp2
    go_quiet (fail)
    rename_i nq
    go_wp2;go_ret;exact b.o nq
  ·have b:aj (yS (l=m) w (.returned (.bool true)) wr):=af ⟨⟨true,rfl,fun _=>rfl⟩,hK⟩;have A:¬(k:Int)<(l.length:Int):=(by omega);clear hK J t;go_wp2;go_ret;exact b.o
structure Ld.seen (a b:Ld):Prop where
 ep:a.ep=b.ep
 e:a.e=b.e
 t:a.dk.t=b.dk.t
 o:a.dk.o=b.dk.o
 c:a.cmds=b.cmds
 q:a.dk.q=b.dk.q
 l:mK a.dk.pl=mK b.dk.pl
theorem Dq {p:Pl}(h:jd p):(mK p).length≤1000:=by
 have H:∀k,k≤p.length→(nO p k).length≤16*k:=by
  intro k;induction k with
  |zero=>intro _;rw[uz];simp
  |succ k ih=>
   intro a;have hs:p[k]?=some p[k]:=fw a;rw[Bj p k _ hs,cr];have b:=ih (Nat.le_of_succ_le a);have c:=pG k p[k].all p[k].all.length;have d:=(h.2 _ (dw a)).n1;omega
 have b:=H p.length (bM _);rw[C9 p (bM _)]at b;have c:=h.1;omega
def Va:Cm:= { Cm.zero with k:= -1 }
def TJ (w:World)(base:Nat)(ca:Option Addr)(n cc:Nat):Prop:=∃l:List Cm,l.length=n∧aI k_ dV w base (.slice ca n cc) l
theorem TJ.fits {w:World}{base:Nat}{ca:Option Addr}{n cc:Nat}(h:TJ w base ca n cc)(h0:0<n):∃g,ca=some ⟨g,0,none⟩∧base≤g∧Open w g∧(aL w g).size=cc*16∧n≤cc:=by
 obtain⟨l,rfl,a⟩:=h;obtain⟨g,cap,hv,hc,b,c,hs⟩:=D4 a h0;cases hv;exact⟨g,rfl,b,c,hs,hc⟩
theorem TJ.set {w:World}{base g n cc:Nat}(h:TJ w base (some ⟨g,0,none⟩) n cc)(k:Nat)(b:k<n):TJ (w.setRow g (splice (aL w g) (k*16) (ct Va))) base (some ⟨g,0,none⟩) n cc:=by
 obtain⟨l,rfl,a⟩:=h;exact⟨l.set k Va,nk,Ay (C:=k_) a k b Va⟩
section
variable {w w':World}{base K1 qb:Nat}{P:Lp}{R:Rl}{c:Nat}{a b:Ld}{ds dq:Ds}
theorem J_ (cU:cq w base P a ds)(cV:cN w K1 qb R c b dq)(hs:a.seen b):Calls prog 35 #[dP P.l,dP R.l] w (qG w (.bool true)):=by
 have bG:=af cU;have aG:=af cV;have i:=af hs;clear cU cV hs;(go_enter func35,ntmps35);go_wp2_with fail
 (with_reducible refine(GX bG.o).mono ?_)
 rintro e w1 ⟨rfl,B⟩;have bW:=af B;have cu:=af (bG.o.no B);have R1:=af (aG.o.no B);clear B;go_wp2_with fail
 (with_reducible refine(yK cu.o).mono ?_)
 rintro e w2 ⟨cv,rfl,au,C⟩;have cK:=af (bW.o.aK C);have I:=af (cu.o.no C);have u:=af (R1.o.no C);have bS:aj (aI k_ dV w2 w.heap.size cv a.cmds):=af (au.base bW.o.size);obtain⟨ca,cc,rfl⟩:=aq au;have ST:aj (∀W,ah No w2 W→(((W.cell? ⟨R.l,0,none⟩=some (dP R.D.d)∧W.cell? ⟨R.l,4,none⟩=some (qI a.ep))∧(W.cell? ⟨R.l,5,none⟩=some R.cv∧W.cell? ⟨R.l,6,none⟩=some (qI a.e)))∧((W.cell? ⟨R.D.d,7,none⟩=some (dP R.D.q)∧W.cell? ⟨R.D.d,8,none⟩=some R.D.lv)∧(W.cell? ⟨R.D.d,9,none⟩=some (qI a.dk.t)∧W.cell? ⟨R.D.d,10,none⟩=some (.bool a.dk.o))))):=af (fun W cF=>by
  have h:=u.o.no cF;obtain⟨e0,_,dz,bO,dA⟩:=h.cells;obtain⟨_,_,d7,d8,d9,Vz⟩:=h.eH.cells;rw[i.o.ep,i.o.e,i.o.t,i.o.o];exact⟨⟨⟨e0,dz⟩,bO,dA⟩,⟨d7,d8⟩,d9,Vz⟩)
 obtain⟨cZ,rc,aC⟩:=aq u.o.cm;obtain⟨la,lc,aB⟩:=aq u.o.eH.row;have aH:aj (aI k_ dV w2 K1 (.slice cZ b.cmds.length rc) b.cmds):=af (by rw[←aC];exact u.o.cm);have aF:aj (aI k_ dV w2 K1 (.slice la b.dk.q.length lc) b.dk.q):=af (by rw[←aB];exact u.o.eH.row);rw[aC,aB]at ST;have m:aj (a.cmds.length≤64∧b.cmds.length≤64):=af ⟨I.o.cl,u.o.cl⟩;have bC:aj (a.dk.q.length≤1000):=af (aU I.o.eH.ok.few (by decide));have bD:aj (b.dk.q.length≤1000):=af (aU u.o.eH.ok.few (by decide));have bA:aj ((mK a.dk.pl).length≤1000):=af (Dq I.o.eH.ok.pl);have bB:aj ((mK b.dk.pl).length≤1000):=af (Dq u.o.eH.ok.pl);clear au C bW cu R1 aC aB;have aE:=ST.o _ (aA w2);go_upto_region 3 with fail
 refine dN (fun _=>True) (fun W=>(((W.cell? ⟨R.l,0,none⟩=some (dP R.D.d)∧W.cell? ⟨R.l,4,none⟩=some (qI a.ep))∧(W.cell? ⟨R.l,5,none⟩=some (.slice cZ b.cmds.length rc)∧W.cell? ⟨R.l,6,none⟩=some (qI a.e)))∧((W.cell? ⟨R.D.d,7,none⟩=some (dP R.D.q)∧W.cell? ⟨R.D.d,8,none⟩=some (.slice la b.dk.q.length lc))∧(W.cell? ⟨R.D.d,9,none⟩=some (qI a.dk.t)∧W.cell? ⟨R.D.d,10,none⟩=some (.bool a.dk.o))))) (fun j=>j==99) (by kernel_rfl) ?_;refine bQ.of [0,2,3,4,5] ?_
 repeat((first|(refine bQ.w (v:=?_) ?_ trivial aE ?_;rotate_left;focus(intro w f;(try dsimp only at f);go_simp;(try rfl);done))|(refine bQ.l (v:=?_) ?_ trivial aE ?_;rotate_left;focus(intro w f;(try dsimp only at f);go_simp;(try rfl);done)));try simp only[cw,b_,cn])
 refine bQ.nil ?_;refine eZ 1 (fun K hK=>?_);go_simp;refine eN ?_;intro dw aS;have bI:aj (ah No w2 dw):=af (by rw[aS];exact(aA w2).drew);clear aS aE;have bP:=ST.o _ bI.o
 with_reducible refine(wj (I.o.no bI.o)).mono ?_
 rintro e w' ⟨rfl,rfl⟩;go_simp;refine hK.out _ _ trivial (fun _=>bP) ?_;clear hK K;refine bQ.of [6,7,8,10,11,12,13] ?_
 repeat((first|(refine bQ.w (v:=?_) ?_ trivial bP ?_;rotate_left;focus(intro w f;(try dsimp only at f);go_simp;(try rfl);done))|(refine bQ.l (v:=?_) ?_ trivial bP ?_;rotate_left;focus(intro w f;(try dsimp only at f);go_simp;(try rfl);done)));try simp only[cw,b_,cn])
 refine bQ.nil ?_;refine eZ 9 (fun K hK=>?_);go_simp;refine eN ?_;intro dx aT;have bJ:aj (ah No w2 dx):=af (by rw[aT];exact bI.o);clear aT bP bI;have H:=ST.o _ bJ.o
 with_reducible refine(Cp (I.o.no bJ.o)).mono ?_
 rintro e w' ⟨rfl,rfl⟩;go_simp;refine hK.out _ _ trivial (fun _=>H) ?_;clear hK K;refine bQ.of [14,15,16,17,18,19,20,21,22,23,24,25,26,27,28,29,30,31,32,33,34,35,36,37,38,39,40,41,42,43] ?_
 repeat((first|(refine bQ.w (v:=?_) ?_ trivial H ?_;rotate_left;focus(intro w f;(try dsimp only at f);go_simp;(try rfl);done))|(refine bQ.l (v:=?_) ?_ trivial H ?_;rotate_left;focus(intro w f;(try dsimp only at f);go_simp;(try rfl);done)));try simp only[cw,b_,cn])
 refine bQ.nil ?_;refine eZ 44 (fun K hK=>?_);go_simp;refine eN ?_;intro cQ aV;have bK:aj (ah No w2 cQ):=af (by rw[aV];exact bJ.o);clear aV H bJ
 with_reducible refine(qz cQ _ _ _ _ (aI.reads (bK.o.mM bS.o)) (aI.reads (bK.o.mM aH.o)) (aU m.o.1 (by decide)) (aU m.o.2 (by decide))).mono ?_
 rintro e dL ⟨⟨dS,rfl,bu⟩,bf⟩;obtain rfl:=bu i.o.c;have bX:=af (bK.o.aK bf);clear bf bu bK;have bR:=ST.o _ bX.o;go_simp;refine hK.out _ _ trivial (fun _=>bR) ?_;clear hK K;refine bQ.of [45,46,47,48,50,51,52,53,54,55,56] ?_
 repeat((first|(refine bQ.w (v:=?_) ?_ trivial bR ?_;rotate_left;focus(intro w f;(try dsimp only at f);go_simp;(try rfl);done))|(refine bQ.l (v:=?_) ?_ trivial bR ?_;rotate_left;focus(intro w f;(try dsimp only at f);go_simp;(try rfl);done)));try simp only[cw,b_,cn])
 refine bQ.nil ?_;refine eZ 49 (fun K hK=>?_);go_simp;refine eN ?_;intro cR aW;have bZ:aj (ah No w2 cR):=af (by rw[aW];exact bX.o);clear aW bR bX
 with_reducible refine(rW (I.o.no bZ.o)).mono ?_
 rintro e dM ⟨dI,rfl,bp,bg⟩;have cg:=af (bZ.o.aK bg);have cO:=af bp;clear bg bp bZ;have s8:=ST.o _ cg.o;go_simp;refine hK.out _ _ trivial (fun _=>s8) ?_;clear hK K;refine eZ 57 (fun K hK=>?_);go_simp;refine eN ?_;intro cC ak;have cr:aj (ah No w2 cC):=af (by rw[ak];exact cg.o);have cP:aj (aI k_ dV cC cR.heap.size dI a.dk.q):=af (by rw[ak];exact cO.o);clear ak s8 cg cO
 with_reducible refine(qz cC _ _ _ _ (aI.reads cP.o) (aI.reads (cr.o.mM aF.o)) bC.o bD.o).mono ?_
 rintro e dm ⟨⟨dJ,rfl,S⟩,L⟩;obtain rfl:=S i.o.q;have U:=af (cr.o.aK L);clear L S cr cP;have F:=ST.o _ U.o;go_simp;refine hK.out _ _ trivial (fun _=>F) ?_;clear hK K;refine bQ.of [58,59,60,61,63,64,65,66,67,68,69] ?_
 repeat((first|(refine bQ.w (v:=?_) ?_ trivial F ?_;rotate_left;focus(intro w f;(try dsimp only at f);go_simp;(try rfl);done))|(refine bQ.l (v:=?_) ?_ trivial F ?_;rotate_left;focus(intro w f;(try dsimp only at f);go_simp;(try rfl);done)));try simp only[cw,b_,cn])
 refine bQ.nil ?_;refine eZ 62 (fun K hK=>?_);go_simp;refine eN ?_;intro y J;have V:aj (ah No w2 y):=af (by rw[J];exact U.o);clear J F U
 with_reducible refine(Ez (I.o.no V.o)).mono ?_
 rintro e dn ⟨v12,rfl,O,M⟩;have X:=af (V.o.aK M);have aO:=af O;clear M O V;have bE:=ST.o _ X.o;go_simp;refine hK.out _ _ trivial (fun _=>bE) ?_;clear hK K;refine eZ 70 (fun K hK=>?_);go_simp;refine eN ?_;intro ai r;have Y:aj (ah No w2 ai):=af (by rw[r];exact X.o);have aP:aj (aI bN Tp ai y.heap.size v12 (mK a.dk.pl)):=af (by rw[r];exact aO.o);clear r bE X aO
 with_reducible refine(JG (u.o.no Y.o).eH.pool).mono ?_
 rintro e cA ⟨cH,rfl,Q,s⟩;have Z:=af (Y.o.aK s);have aQ:aj (aI bN Tp cA y.heap.size v12 (mK a.dk.pl)):=af (s.mM aP.o);have aM:=af Q;clear s Q Y aP;have bF:=ST.o _ Z.o;go_simp;refine hK.out _ _ trivial (fun _=>bF) ?_;clear hK K;refine eZ 71 (fun K hK=>?_);go_simp;refine eN ?_;intro z p;have aJ:aj (ah No w2 z):=af (by rw[p];exact Z.o);have aR:aj (aI bN Tp z y.heap.size v12 (mK a.dk.pl)):=af (by rw[p];exact aQ.o);have aN:aj (aI bN Tp z ai.heap.size cH (mK b.dk.pl)):=af (by rw[p];exact aM.o);clear p bF Z aQ aM
 with_reducible refine(HQ z _ _ _ _ (aI.reads aR.o) (aI.reads aN.o) bA.o bB.o).mono ?_
 rintro e cB ⟨⟨dK,rfl,T⟩,N⟩;obtain rfl:=T i.o.l;have x:=af (aJ.o.aK N);clear N T aJ aR aN;have G:=ST.o _ x.o;go_simp;refine hK.out _ _ trivial (fun _=>G) ?_;clear hK K;refine bQ.of [72,73] ?_
 repeat((first|(refine bQ.w (v:=?_) ?_ trivial G ?_;rotate_left;focus(intro w f;(try dsimp only at f);go_simp;(try rfl);done))|(refine bQ.l (v:=?_) ?_ trivial G ?_;rotate_left;focus(intro w f;(try dsimp only at f);go_simp;(try rfl);done)));try simp only[cw,b_,cn])
 refine bQ.nil ?_;refine sZ (by kernel_rfl) ?_ _;clear G;obtain⟨n,hn⟩:=ay (a.cmds.length);have CR:aj (TJ cB w.heap.size ca n cc):=af ⟨a.cmds,hn.symm,by rw[hn];exact x.o.mM bS.o⟩;have dh:=af (cK.o.aK x.o);have di:aj (n≤64):=af (by rw[hn];exact m.o.1);have ln:(n:Int)≤64:=(by have:=di.o;omega);rw[←hn]at*;clear hn ST m bC bD bA bB u I cK bS aH aF x;go_wp2_with fail
 go_loopw [8] (fun(v:Value) (wr:World)=>∃k:Nat,k≤n∧v=qI k∧TJ wr w.heap.size ca n cc∧ah No w wr) (fun q _=>n-(intOf q).toNat)
 case atStart=>exact⟨0,aX _,rfl,CR.o,dh.o⟩
 case round=>
  obtain⟨k,dD,rfl,hC,hK⟩:=hrel;have bL:=af hK;have CC:=af hC;clear hK hC;by_cases E:k<n
  ·have cE:(k:Int)<(n:Int):=(by omega);have dF:(0:Int)≤(k:Int):=(by omega);obtain⟨g,rfl,dB,dG,bk,cD⟩:=CC.o.fits (xS (aX _) E);have dH:k*16+16≤(aL wr g).size:=(by rw[bk];omega);clear bk cD;have c6:=af (CC.o.set k E);have dc:aj (ah No w (wr.setRow g (splice (aL wr g) (k*16) (ct Va)))):=af (bL.o.setRow (fun h=>absurd h (bY.2 dB)) _);go_wp2;refine⟨⟨k+1,E,rfl,c6.o,dc.o⟩,?_⟩;show n-((k:Int)+1).toNat<n-(k:Int).toNat;omega
  ·have cE:¬(k:Int)<(n:Int):=(by omega);obtain⟨cI,cJ,aD⟩:=aq aG.o.cm;have bT:aj (aI k_ dV w K1 (.slice cI b.cmds.length cJ) b.cmds):=af (by rw[←aD];exact aG.o.cm);have ST:aj (∀W,ah No wr W→W.cell? ⟨R.l,5,none⟩=some (.slice cI b.cmds.length cJ)):=af (fun W cF=>by
    have h:=aG.o.no (bL.o.aK cF);obtain⟨_,_,_,bO,_⟩:=h.cells;rw[aD]at bO;exact bO)
   have m:aj (a.cmds.length≤1000∧b.cmds.length≤1000):=af ⟨aU bG.o.cl (by decide),aU aG.o.cl (by decide)⟩;clear aD CC dD E;have aE:=ST.o _ (aA wr);go_upto_region 9 with fail
   refine dN (fun _=>True) (fun W=>W.cell? ⟨R.l,5,none⟩=some (.slice cI b.cmds.length cJ)) (fun j=>j==99) (by kernel_rfl) ?_;refine bQ.of [0,2,3,4,5] ?_
   repeat((first|(refine bQ.w (v:=?_) ?_ trivial aE ?_;rotate_left;focus(intro w f;(try dsimp only at f);go_simp;(try rfl);done))|(refine bQ.l (v:=?_) ?_ trivial aE ?_;rotate_left;focus(intro w f;(try dsimp only at f);go_simp;(try rfl);done)));try simp only[cw,b_,cn])
   refine bQ.nil ?_;refine eZ 1 (fun K hK=>?_);go_simp;refine eN ?_;intro cT aY;have bU:aj (ah No wr cT):=af (by rw[aY];exact(aA wr).drew);clear aY aE
   with_reducible refine(yK (bG.o.no (bL.o.aK bU.o))).mono ?_
   rintro e dO ⟨u2,rfl,bn,aZ⟩;have bH:=af (bU.o.aK aZ);have cL:=af bn;clear aZ bn bU;have s2:=ST.o _ bH.o;go_simp;refine hK.out _ _ trivial (fun _=>s2) ?_;clear hK K;refine eZ 6 (fun K hK=>?_);go_simp;refine eN ?_;intro bM A;have bV:aj (ah No w bM):=af (by rw[A];exact bL.o.aK bH.o);have cM:aj (aI k_ dV bM cT.heap.size u2 a.cmds):=af (by rw[A];exact cL.o);have c7:aj (ah No wr bM):=af (by rw[A];exact bH.o);clear A s2 cL bH
   with_reducible refine(qz bM _ _ _ _ (aI.reads cM.o) (aI.reads (bV.o.mM bT.o)) m.o.1 m.o.2).mono ?_
   rintro e dQ ⟨⟨dR,rfl,bq⟩,av⟩;obtain rfl:=bq i.o.c;have c8:=af (bV.o.aK av);have H:=ST.o _ (c7.o.aK av);clear av bq bV cM;go_simp;refine hK.out _ _ trivial (fun _=>H) ?_;clear hK K;refine bQ.of [7] ?_
   repeat((first|(refine bQ.w (v:=?_) ?_ trivial H ?_;rotate_left;focus(intro w f;(try dsimp only at f);go_simp;(try rfl);done))|(refine bQ.l (v:=?_) ?_ trivial H ?_;rotate_left;focus(intro w f;(try dsimp only at f);go_simp;(try rfl);done)));try simp only[cw,b_,cn])
   refine bQ.nil ?_;refine sZ (by kernel_rfl) ?_ _;clear H;go_wp2;go_ret;exact⟨rfl,c8.o⟩
end
end
section
open Go.Proofs.Tryz
open Go.RowKit Go.WideShapes
structure Bq (w:World)(p b q base:Nat)(v:Value)(L:List Rf)(is:Bool)(room rr:Int)(dead:Bool):Prop where
 d:bu w p b (dn L) room dead
 r:bZ w q base v L is rr dead
 ok:JU L
theorem Bq.no {w w':World}{p b q base:Nat}{v:Value}{L:List Rf}{is:Bool}{room rr:Int}{dead:Bool}(h:Bq w p b q base v L is room rr dead)(k:ah No w w'):Bq w' p b q base v L is room rr dead:=
 ⟨h.d.kept k (fun h=>h) (fun h=>h),h.r.kept k (fun h=>h) (fun _ _ h=>h),h.ok⟩
theorem Bq.fits {w:World}{p b q base:Nat}{v:Value}{L:List Rf}{is:Bool}{room rr:Int}{dead:Bool}(h:Bq w p b q base v L is room rr dead){r:Rf}(a:r∈L):iJ r:=h.ok.fit r a
theorem Bq.nm {w:World}{p b q base:Nat}{v:Value}{L:List Rf}{is:Bool}{room rr:Int}{dead:Bool}(h:Bq w p b q base v L is room rr dead){r:Rf}(a:r∈L):1≤r.name.size:=h.ok.nm r a
def Names (wr:World)(a:Nat)(lv:Value)(L:List Rf)(k:Nat):Prop:=∃ns:List Nm,ns.length=L.length∧(∀j,k≤j→(b:j<L.length)→ns[j]?=some L[j].name.data.toList)∧gG wr a lv L.length ns
theorem HT {w:World}{a:Nat}{lv:Value}{L:List Rf}(h:gG w a lv (dn L).length (bA (dn L))):Names w a lv L 0:=by
 refine⟨bA (dn L),by simp[bA],fun j _ b=>?_,by simpa using h⟩;unfold bA dn;rw[nY,oR,fw b];rfl
theorem TK (s:ByteArray):encStr s.data.toList= .string s:=by
 show Value.string ⟨s.data.toList.toArray⟩=_;rfl
theorem Names.kept {w w':World}{a:Nat}{lv:Value}{L:List Rf}{k:Nat}(h:Names w a lv L k)(e:ah No w w'):Names w' a lv L k:=by
 obtain⟨ns,b,c,d⟩:=h;exact⟨ns,b,c,e.mM d⟩
theorem Names.cell {w:World}{a:Nat}{lv:Value}{L:List Rf}{k:Nat}(h:Names w a lv L k)(i:k<L.length):∃g cap,lv= .slice (some ⟨g,0,none⟩) L.length cap∧a≤g∧Open w g∧w.cell? ⟨g,k,none⟩=some (.string L[k].name):=by
 obtain⟨ns,j,d,b⟩:=h;rcases b.2 with⟨_,h0⟩|⟨g,cap,cur,hv,e,f,_⟩
 ·omega
 ·refine⟨g,cap,hv,e,⟨_,_,f⟩,?_⟩;have c:=b.cells (g:=g) (by rw[hv];rfl) k (.string L[k].name) (by rw[oR,d k (bM _) i];exact fJ some (TK _));rw[qF,jI]at c;exact c
theorem Names.UT {w:World}{a g cap:Nat}{L:List Rf}{k:Nat}(h:Names w a (.slice (some ⟨g,0,none⟩) L.length cap) L k)(s:ByteArray):Names (w.setCell ⟨g,k,none⟩ (.string s)) a (.slice (some ⟨g,0,none⟩) L.length cap) L (k+1):=by
 obtain⟨ns,b,c,d⟩:=h;refine⟨ns.set k s.data.toList,by simpa using b,fun j f hl=>?_,?_⟩
 ·rw[qC (by omega)];exact c j (by omega) hl
 ·have e:=(d.stored k (.string s)).1;unfold gG;rw[List.map_set];exact e
theorem mL {P:Program}{ops:Array Oper}{Q:Exit→Act→World→Prop}{md:Region.Mode}{S:World→Prop}{i d:Nat}{oi:Oper}{v:Value}{fuel:Nat}{listed:Array Bool}{a:Act}{w:World}(hi:ops[i]?=some oi)(hd:oi.dst=some d)
 (hs:Region.noSelect ops=true) (hf:Region.free md ops listed i=true) (e:(Region.ready md ops listed).contains i=true)
 (b:∀c a w,Q (.panic c) (a.put oi.dst v) w→Q (.panic c) a w) (hy:YieldsIf P ops S oi v a) (hS:S w)
 (h:wpAnyH P md ops Q S fuel (listed.setIfInBounds i true) ⟨a.tmps.setIfInBounds d v,a.defers⟩ w):wpAnyH P md ops Q S (fuel+1) listed a w:=
 wpAnyH_take hi hs hf e b hy hS (by rw[hd];exact h)
section
variable {w:World}{p b q base:Nat}{v:Value}{L:List Rf}{is:Bool}{room rr:Int}{dead:Bool}
theorem P5 {fs:Fs}{n:ByteArray}(a:1≤n.size)(b:n.size≤32){f:Fi}(h:eV fs n.data.toList=some f):gP fs n=(f,0):=by
 unfold gP;rw[aJ (show¬(n.size:Int)<1 by omega),aJ (show¬(32:Int)<n.size by omega),aN,aN,h]
theorem Bq.find (h:Bq w p b q base v L is room rr dead)(k:Nat)(a:k<L.length):gP (dn L) L[k].name=(jA L[k],0):=by
 have c:k<(dn L).length:=(by simpa using a);have e:(dn L)[k]=Cq L[k]:=(by simp);have f:=get_at h.d.rising k c;rw[e]at f;exact P5 (h.nm (dw a)) (h.ok.lg _ (dw a)) f
theorem Ka (h:Bq w p b q base v L is room rr dead):Calls prog 36 #[dP p,dP q] w (qG w (.bool true)):=by
 obtain⟨va,vc,rfl⟩:=aq h.r.own;have H:=af h;have z:=h.r.few;clear h;(go_enter func36,ntmps36);(go_wp2_with fail);refine(o4 H.o.d).mono ?_;rintro e w1 ⟨lv,rfl,I,B⟩;have aT:=af (HT I);have aR:=af B;obtain⟨la,lc,Z⟩:=aq I;rw[eE]at Z;subst Z;have aP:=af (H.o.no B);have c0:w1.cell? ⟨q,0,none⟩=some (.slice va L.length vc):=(by simp[World.cell?,aP.o.r.cells]);clear I B;go_wp2;clear c0
 go_loopw [6] (fun i wr=>∃k:Nat,k≤L.length∧i=qI k∧Names wr w.heap.size (.slice la L.length lc) L k∧ah No w wr) (fun i _=>L.length-(intOf i).toNat)
 case atStart=>exact⟨0,aX _,rfl,aT.o,aR.o⟩
 case round=>
  obtain⟨k,Y,rfl,y,hK⟩:=hrel;have aQ:=af y;have aI:=af hK;have O:=af (H.o.no hK);have c0:wr.cell? ⟨q,0,none⟩=some (.slice va L.length vc):=(by simp[World.cell?,O.o.r.cells]);clear y hK aT aR aP;by_cases f:k<L.length
  ·obtain⟨g,cap,he,aV,aB,d0⟩:=aQ.o.cell f;simp only[Value.slice.injEq,true_and]at he;obtain⟨rfl,rfl⟩:=he;have c:=H.o.find k f;have J:aW kS wr (.slice va L.length vc) L:=O.o.r.own.reads;obtain⟨gr,off,rfl,_,_,X⟩:=aW.addr kS J (by omega);have c3:ai wr gr (off+k*3) 3=some (wJ L[k]):=aW.at kS J k f;have n:=H.o.fits (dw f);obtain⟨r,aC⟩:=ay (L[k]);rw[←aC]at c3 c d0 n;have G:(k:Int)<(L.length:Int):=(by omega);have bB:(0:Int)≤(k:Int):=(by omega);have aZ:(k:Int)≤64:=(by omega);have aU:∀W:World,(Op.stringOp .add r.sure r.loose).run prog W= .ok (.string (r.sure++r.loose)) W:=fun W=>kD W _ _ (by unfold iJ at n;omega);have m:=af c;have Q:=af f;unfold wJ at c3;have C3:=af c3;have bg:=af aV;clear aC J n c Y f aV;(go_wp2_with fail);refine(z6 O.o.d r.name _ _ m.o).mono ?_;rintro e w2 ⟨rfl,C⟩;have aS:=af C;have T:=C.cB d0;clear C;(go_wp2_with fail);refine(Fh (O.o.no aS.o).d r.name _ _ m.o).mono ?_;rintro e u ⟨rfl,D⟩;have P:aj (ah No wr u):=aS.o.aK D;have U:=D.cB T;have aL:u.cell? ⟨q,0,none⟩=some (.slice (some ⟨gr,off,none⟩) L.length vc):=P.o.cB c0;have aM:=P.o.ai C3.o;have aY:gr<u.heap.size:=(by have:=P.o.size;omega);have A:=P.o.opened aB;clear D c0 c3 d0 T X aB;have aD:(jA r).s=r.sure++r.loose:=rfl;have aE:(jA r).k=r.sure.size:=rfl;rw[aD,aE];clear aD aE;go_wp2;refine au ?_;intro W hW;have aG:aj (ah No u W):=(by rw[hW];exact(aA (S:=No) u).alloc _);have aH:ai W u.heap.size 0 3=some [.string r.name,.string r.sure,.string r.loose]:=(by rw[hW];simp[go_sem]);have b0:W.cell? ⟨u.heap.size,0,none⟩=some (.string r.name):=ak aH 0 _ rfl;have b1:W.cell? ⟨u.heap.size,1,none⟩=some (.string r.sure):=ak aH 1 _ rfl;have bH:W.cell? ⟨u.heap.size,2,none⟩=some (.string r.loose):=ak aH 2 _ rfl;have d0:W.cell? ⟨g,k,none⟩=some (.string r.name):=aG.o.cB U;have bI:=(aG.o.opened A).frozen k;have bp:aj (Names W w.heap.size (.slice (some ⟨g,0,none⟩) L.length lc) L k):=aQ.o.kept (P.o.aK aG.o);have bn:aj (ah No w W):=aI.o.aK (P.o.aK aG.o);clear hW U aL A aH C3 aM
   go_quiet (fail)
   rename_i nq
   go_wp2;go_roundw
   case rel=>
    refine⟨k+1,Q.o,by go_num,((bp.o.UT _)).kept ((aA (S:=No) _).drewN nq),?_⟩;exact(bn.o.setCell (p:=⟨g,k,none⟩) (fun h=>absurd h (bY.2 bg.o)) _).drewN nq
   case measure=>have:=Q.o;simp[intOf];omega
  ·obtain rfl:k=L.length:=(by omega);have G:¬(L.length:Int)<(L.length:Int):=(by omega);clear f Y;have B2:=af (O.o.no (aA (S:=No) wr).drew);by_cases bf:L.length=0
   ·obtain⟨N,y⟩:=ay (L.length);rw[←y]at c0 G z⊢;have aF:N=0:=(by omega);clear y bf;subst aF;go_wp2
    go_quiet (fail)
    rename_i nq
    go_wp2;go_ret;exact⟨rfl,aI.o.drewN nq⟩
   ·have t:0<L.length:=(by omega);have J:aW kS wr (.slice va L.length vc) L:=O.o.r.own.reads;obtain⟨gr,off,rfl,_,_,X⟩:=aW.addr kS J t;have c3:ai wr gr (off+0*3) 3=some (wJ L[0]):=aW.at kS J 0 t;obtain⟨x,aO⟩:=ay (L[0]);rw[←aO]at c3;have d0:wr.cell? ⟨gr,off,none⟩=some (.string x.name):=(by simpa using ak c3 0 _ rfl);have l:aj (∀M (v5:Value),gG M wr.drew.heap.size v5 (dn L).length (bA (dn L))→∃g5 j,v5= .slice (some ⟨g5,0,none⟩) L.length j∧M.cell? ⟨g5,0,none⟩=some (.string x.name)):=by
     intro M v5 bC;obtain⟨g5,j,bq,_,_,bu⟩:=(HT bC).cell t;exact⟨g5,j,bq,by rw[aO];exact bu⟩
    obtain⟨N,y⟩:=ay (L.length);rw[←y]at l c0 G z⊢;have aF:0<N:=(by omega);have bD:(N==0)=false:=beq_false_of_ne (by omega);have bE:((N:Int)==0)=false:=beq_false_of_ne (by omega);have bF:decide (N=0)=false:=aJ (by omega);have bG:(0:Int)<(N:Int):=(by omega);clear y bf t aO c3 J;(go_wp2_with fail);refine wp_region_held_drew (S:=fun w'=>w'.cell? ⟨q,0,none⟩=some (.slice (some ⟨gr,off,none⟩) N vc)∧w'.cell? ⟨gr,off,none⟩=some (.string x.name)) (by kernel_rfl) ⟨c0,d0⟩ (fun hHeld=>?_);refine mL (i:=0) (d:=95) (v:= .slice la N lc) rfl rfl (by kernel_rfl) (by kernel_rfl) (by kernel_rfl) (fun _ _ _ h=>h) (Or.inl ⟨by rfl,fun w a=>by(try dsimp only at a);go_simp⟩) (by assumption) ?_;simp only[cw,b_,cn];refine mL (i:=1) (d:=96) (v:=qI N) rfl rfl (by kernel_rfl) (by kernel_rfl) (by kernel_rfl) (fun _ _ _ h=>h) (Or.inl ⟨by rfl,fun w a=>by(try dsimp only at a);go_simp⟩) (by assumption) ?_;simp only[cw,b_,cn];refine mL (i:=2) (d:=97) (v:= .bool false) rfl rfl (by kernel_rfl) (by kernel_rfl) (by kernel_rfl) (fun _ _ _ h=>h) (Or.inl ⟨by rfl,fun w a=>by(try dsimp only at a);go_simp⟩) (by assumption) ?_;simp only[cw,b_,cn];refine mL (i:=3) (d:=98) (v:= .bool false) rfl rfl (by kernel_rfl) (by kernel_rfl) (by kernel_rfl) (fun _ _ _ h=>h) (Or.inl ⟨by rfl,fun w a=>by(try dsimp only at a);go_simp⟩) (by assumption) ?_;simp only[cw,b_,cn];refine mL (i:=4) (d:=99) (v:=dP p) rfl rfl (by kernel_rfl) (by kernel_rfl) (by kernel_rfl) (fun _ _ _ h=>h) (Or.inl ⟨by rfl,fun w a=>by(try dsimp only at a);go_simp⟩) (by assumption) ?_;simp only[cw,b_,cn];refine mL (i:=8) (d:=103) (v:=dP q) rfl rfl (by kernel_rfl) (by kernel_rfl) (by kernel_rfl) (fun _ _ _ h=>h) (Or.inl ⟨by rfl,fun w a=>by(try dsimp only at a);go_simp⟩) (by assumption) ?_;simp only[cw,b_,cn];refine mL (i:=9) (d:=104) (v:= .pointer (some ⟨q,0,none⟩)) rfl rfl (by kernel_rfl) (by kernel_rfl) (by kernel_rfl) (fun _ _ _ h=>h) (Or.inl ⟨by rfl,fun w a=>by(try dsimp only at a);go_simp⟩) (by assumption) ?_;simp only[cw,b_,cn];refine mL (i:=10) (d:=105) (v:= .pointer (some ⟨q,0,none⟩)) rfl rfl (by kernel_rfl) (by kernel_rfl) (by kernel_rfl) (fun _ _ _ h=>h) (Or.inl ⟨by rfl,fun w a=>by(try dsimp only at a);go_simp⟩) (by assumption) ?_;simp only[cw,b_,cn];refine mL (i:=11) (d:=106) (v:= .slice (some ⟨gr,off,none⟩) N vc) rfl rfl (by kernel_rfl) (by kernel_rfl) (by kernel_rfl) (fun _ _ _ h=>h) (Or.inl ⟨by rfl,fun w a=>by(try dsimp only at a);go_simp⟩) (by assumption) ?_;simp only[cw,b_,cn];refine mL (i:=12) (d:=107) (v:= .pointer (some ⟨gr,off,none⟩)) rfl rfl (by kernel_rfl) (by kernel_rfl) (by kernel_rfl) (fun _ _ _ h=>h) (Or.inl ⟨by rfl,fun w a=>by(try dsimp only at a);go_simp⟩) (by assumption) ?_;simp only[cw,b_,cn];refine mL (i:=13) (d:=108) (v:= .pointer (some ⟨gr,off,none⟩)) rfl rfl (by kernel_rfl) (by kernel_rfl) (by kernel_rfl) (fun _ _ _ h=>h) (Or.inl ⟨by rfl,fun w a=>by(try dsimp only at a);go_simp⟩) (by assumption) ?_;simp only[cw,b_,cn];refine mL (i:=14) (d:=109) (v:= .string x.name) rfl rfl (by kernel_rfl) (by kernel_rfl) (by kernel_rfl) (fun _ _ _ h=>h) (Or.inl ⟨by rfl,fun w a=>by(try dsimp only at a);go_simp⟩) (by assumption) ?_;simp only[cw,b_,cn];refine wpAnyH_ready (rs:= [5]) (by kernel_rfl) (by simp) ?_;refine AllReadyH.cons rfl (fun K hK=>?_) AllReadyH.nil;go_simp
    go_at_call 31
    refine(o4 B2.o.d).mono ?_;rintro e M ⟨v5,rfl,av,E⟩;obtain⟨g5,j,aN,d5⟩:=l.o M v5 av;subst aN;have bk:aj (ah No w M):=(aI.o.drew).aK E;have F:ah No wr M:=((aA (S:=No) wr).drew).aK E;have R:=F.cB c0;have V:=F.cB d0;clear c0 d0 av E F hHeld;refine hK.out _ _ ⟨R,V⟩ (fun hHeld=>?_);clear hK K
    try simp only[Act.put,cw,b_,cn]
    refine mL (i:=6) (d:=101) (v:= .pointer (some ⟨g5,0,none⟩)) rfl rfl (by kernel_rfl) (by kernel_rfl) (by kernel_rfl) (fun _ _ _ h=>h) (Or.inl ⟨by rfl,fun w a=>by(try dsimp only at a);go_simp⟩) (by assumption) ?_;simp only[cw,b_,cn];refine wpAnyH_ready (rs:= [7]) (by kernel_rfl) (by simp) ?_;refine AllReadyH.cons rfl (fun K hK=>?_) AllReadyH.nil;go_simp;refine hK.out _ _ ⟨R,V⟩ (fun hHeld=>?_);clear hK K
    try simp only[Act.put,cw,b_,cn]
    refine mL (i:=15) (d:=110) (v:= .bool true) rfl rfl (by kernel_rfl) (by kernel_rfl) (by kernel_rfl) (fun _ _ _ h=>h) (Or.inl ⟨by rfl,fun w a=>by(try dsimp only at a);go_simp⟩) (by assumption) ?_;simp only[cw,b_,cn];refine mL (i:=16) (d:=111) (v:= .bool true) rfl rfl (by kernel_rfl) (by kernel_rfl) (by kernel_rfl) (fun _ _ _ h=>h) (Or.inl ⟨by rfl,fun w a=>by(try dsimp only at a);go_simp⟩) (by assumption) ?_;simp only[cw,b_,cn];refine mL (i:=17) (d:=4) (v:= .bool true) rfl rfl (by kernel_rfl) (by kernel_rfl) (by kernel_rfl) (fun _ _ _ h=>h) (Or.inl ⟨by rfl,fun w a=>by(try dsimp only at a);go_simp⟩) (by assumption) ?_;simp only[cw,b_,cn];refine wpAnyH_done (by kernel_rfl) ?_ _
    all_goals
     go_wp2;go_ret;exact⟨rfl,bk.o⟩
end
set_option linter.unusedVariables false in
theorem Dr {w:World}{p b q base:Nat}{v:Value}{c:Nat}{d:Ds}(hd:qN w p b d)(e:nS w q base v c d):Calls prog 36 #[dP p,dP q] w (qG w (.bool true)):=by
 obtain⟨L,is,rr,f,hf,a,_⟩:=e;refine Ka (b:=b) (base:=base) (v:=v) (L:=L) (is:=is) (room:=d.room) (rr:=rr) (dead:=d.dead) ⟨?_,f,a⟩;rw[←hf];exact hd
end
