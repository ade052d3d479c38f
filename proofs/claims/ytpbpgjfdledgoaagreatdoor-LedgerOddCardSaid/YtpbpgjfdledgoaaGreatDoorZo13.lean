/- Lemmas. -/
import Derived.Test.YtpbpgjfdledgoaaGreatDoorZo12
import Derived.Test.YtpbpgjfdledgoaaGreatDoorZo02
set_option linter.all false
set_option maxRecDepth 100000
set_option maxHeartbeats 8000000
open List renaming setIfInBounds_toArray→cw,set_cons_zero→b_,set_cons_succ→cn,filter_filter→RV
namespace Go.Proofs.YtpbpgjfdledgoaaGreatDoor
section
open Go.Proofs.Tryz
open Go.RowKit Go.Shelf Go.Sort Go.Joins
attribute [local go_sem] Oper.semAt_some
section
variable {F:Fence}{n:Nat}{P:Program}
theorem Lm {α:Type}{g:Operand}{i j:Tmp}{assign body:Code}{Q:Exit→Act→World→Prop}{T:Array Value}{w:World}
 (r:F.round=none) (k:1≤n) {e:Nat}{lb:Array Value} (E:Act.eval ⟨T,[]⟩ g= .func (.func e) #[] lb) (m:F.fn e) (eg:∀args w,(callFunc e args).run P w= .ok (.enter e args) w)
 {e1 e2:α→Value}{Kp:World→World→Prop}{S s:List α→Prop}{N:Nat} (f:SeqStopsK F (n-1) P e lb (fun x=>#[e1 x,e2 x]) Kp S s N w)
 (q:∀ {A B C:World},Kp A B→Kp B C→Kp A C) (p:∀(W:World) (l:Nat) (o o':Obj),w.heap.size≤l→W.heap[l]?=some o→o.isCells=false→o.isWalk=false→Kp W (W.putObj l o'))
 (I:List α→World→Prop) (z:OwnFrom w.heap.size I) (h0:I [] w) (d:Nat) (v:α→Value)
 (a:∀(l:Nat) (x:α) (W:World) (K:Act→World→Prop),K ⟨((T.setIfInBounds i (e1 x)).setIfInBounds j (e2 x)).setIfInBounds d (v x),[]⟩ W→
   assign.wpIn (F.inRound l) (n-1-1) P (Exit.then K (fun _ _ _=>False)) ⟨(T.setIfInBounds i (e1 x)).setIfInBounds j (e2 x),[]⟩ W)
 (b:∀(l:Nat) (pre:List α) (x:α) (W:World),I pre W→pre.length<N→body.wpIn (F.inRound l) (n-1-1) P (ownPostG w.heap.size Kp I (fun _ _ _=>False) (pre++ [x]) W) ⟨((T.setIfInBounds i (e1 x)).setIfInBounds j (e2 x)).setIfInBounds d (v x),[]⟩ W)
 (c:∀(D:Nat) (xs:List α) (W:World),w.heap.size≤D→S xs→I xs W→W.heap[D]?=some (.deferred (some []))→Q .normal ⟨T,[{ target:= .collected D,args:=#[] }]⟩ W):
 (Code.rangeFunc g #[i,j] assign body).wpIn F n P Q ⟨T,[]⟩ w:=
 wpIn_rangeFunc_ownG r k E m eg f q p (Below.refl _ _) (fun _=>rfl) I (fun _ _ _=>False) z (fun _ _ _ _ _ hs _ _=>hs) h0 _ (fun l x W K hK=>by simpa using a l x W K hK) b
  (fun D xs W k t u y=>c D xs W k t u y) (fun _ _ _ _ _ _ h _=>h.elim)
end
theorem nE {w:World}{b1 d s1 s2:Nat}{e1 e2:TypeId}{v1 v2:Value}{n1 i:Nat}{j l:List Value}(e:w.ownsRow b1 e1 s1 v1 n1 j)(f:w.ownsRow d e2 s2 v2 i l)(he:e1≠e2):∀k,v1.ownBlock=some k→¬v2.ownBlock=some k:=by
 intro k b c;rcases e.2 with⟨rfl,_⟩|⟨g,_,_,rfl,_,h,_⟩
 ·cases b
 ·rcases f.2 with⟨rfl,_⟩|⟨g',_,_,rfl,_,a,_⟩
  ·cases c
  ·cases b;cases c;rw[h]at a;simp only[Option.some.injEq,Obj.cells.injEq]at a;exact he a.2.1
theorem jD {w:World}{b1 a s:Nat}{e:TypeId}{v:Value}{n:Nat}{xs:List Value}(h:w.ownsRow b1 e s v n xs)(hb:a≤b1):w.ownsRow a e s v n xs:=by
 refine⟨h.1,?_⟩;rcases h.2 with b|⟨g,cap,cur,rfl,c,r⟩
 ·exact .inl b
 ·exact .inr ⟨g,cap,cur,rfl,aU hb c,r⟩
structure lu where
 whole:Bool
 aD:List Nat
 next:Nat
 out:List Nm
 d:Ds
def lu.recs (name:ByteArray)(st:lu)(n:Nat):List Nm:=parse (st.d.look (aZ name n)).s.data.toList
def c7 (name:ByteArray)(st:lu)(n:Nat):lu:=
 bif st.whole&&decide (n=st.next)then
  ⟨decide (bK (st.recs name n)=(st.d.look (aZ name n)).s.size),st.aD++ [n],st.next+(st.recs name n).length,st.out++st.recs name n,(st.d.truncate (aZ name n) (bK (st.recs name n))).2⟩
 else⟨false,st.aD,st.next,st.out,st.d⟩
def gQ (d:Ds)(name:ByteArray):Int×List Nat×Ds:=
 bif (eO name.data.toList (bA d.fs)).isEmpty then((d.append (aZ name 0) ⟨#[]⟩).1,[0],(d.append (aZ name 0) ⟨#[]⟩).2)else(0,eO name.data.toList (bA d.fs),d)
def kH (name:ByteArray)(there:List Nat)(d:Ds):lu:=there.foldl (c7 name) ⟨true,[],there.headD 0,[],d⟩
def mJ (name:ByteArray)(there:List Nat)(st:lu):Lg×List Nm×Ds:=
 (⟨name,st.aD,st.next⟩,st.out,((lS name (there.drop st.aD.length).reverse st.d).sync (aZ name (nC st.aD))).2)
theorem BZ (name:ByteArray)(st:lu)(n:Nat):(c7 name st n).aD=st.aD∨(c7 name st n).aD=st.aD++ [n]:=by
 unfold c7;cases st.whole&&decide (n=st.next)
 ·exact .inl rfl
 ·exact .inr rfl
theorem vv (name:ByteArray):∀(L:List Nat) (st:lu),st.aD.length≤(L.foldl (c7 name) st).aD.length
 | [],_=>bM _
 |n::L,st=>by
  refine aU ?_ (vv name L (c7 name st n));rcases BZ name st n with h|h<;>rw[h]
  ·exact bM _
  ·simp
theorem FD (name:ByteArray)(there:List Nat)(d:Ds)(h:0<there.length):0<(kH name there d).aD.length:=by
 cases there with
 |nil=>cases h
 |cons a r=>
  unfold kH;rw[qX];refine eU ?_ (vv name r _);have:(c7 name ⟨true,[],List.headD (a::r) 0,[],d⟩ a).aD= [a]:=by
   unfold c7;simp
  rw[this];exact Nat.zero_lt_one
structure Ln (wS wr:World)(l p b:Nat)(name:ByteArray)(v ov:Value)(st:lu)(k:Nat):Prop where
 kp:ah (Core l p b) wS wr
 disk:qN wr p b st.d
 cl:wr.heap[l]?=some (.cells #[dP p,.string name,v,qI st.next] lT (0,0))
 row:aV wr wS.heap.size v st.aD
 out:gG wr wS.heap.size ov st.out.length st.out
 bf:st.aD.length≤k
 bo:(st.out.length:Int)≤(k:Int)*599187
 bn:(st.next:Int)≤100000000+(k:Int)*599187
 bl:∀n∈st.aD,n<100000000
theorem Ln.skip {wS wr:World}{l p b:Nat}{name:ByteArray}{v ov:Value}{s:lu}{k:Nat}(h:Ln wS wr l p b name v ov s k):Ln wS wr l p b name v ov ⟨false,s.aD,s.next,s.out,s.d⟩ (k+1):=
 ⟨h.kp,h.disk,h.cl,h.row,h.out,by have:=h.bf;show s.aD.length≤_;omega,by have:=h.bo;show(s.out.length:Int)≤_;omega,by have:=h.bn;show(s.next:Int)≤_;omega,h.bl⟩
def FE (w:World)(base p b:Nat)(g:Lg)(out:List Nm)(a:Ds)(e:Ending)(w':World):Prop:=
 ∃(l:Nat) (v ov:Value),e= .returned (.tuple #[dP l,ov,qI 0])∧j8 w' base l p b v g a∧aV w' w.heap.size v g.aD∧gG w' w.heap.size ov out.length out∧w.heap.size≤l∧(∀k,ov.ownBlock=some k→¬nD l p b v k)∧ah (Two p b) w w'
structure Qz (wA:World)(p b B:Nat)(there:List Nat)(d1:Ds)(s8:Value)(wx:World):Prop where
 rd:rC wx s8 there
 kp:ah (Two p b) wA wx
 disk:qN wx p b d1
 tb:∀k,s8.ownBlock=some k→B<k
 ne:0<there.length
 few:there.length≤64
 lt:∀n∈there,n<100000000
theorem Nz {w:World}{p b:Nat}{d:Ds}(h:qN w p b d)(name:Nm):(eO name (bA d.fs)).length≤64∧∀n∈eO name (bA d.fs),n<100000000:=by
 refine⟨aU (DB _ _) (by simpa [bA]using h.few),fun n hn=>?_⟩;unfold eO at hn;obtain⟨f,_,hf⟩:=List.mem_filterMap.1 hn;exact Al hf
theorem yh {w:World}{base p b:Nat}{d:Ds}(eD:Laid w base)(hb:base≤w.heap.size)(hd:qN w p b d)(f4:base≤p)(fZ:base≤b)(name:ByteArray)(cR:pY name=true)(there:List Nat)(d1:Ds)(z:gQ d name=(0,there,d1))
 (st:lu) (bk:kH name there d1=st) (g:Lg) (out:List Nm) (iF:Ds) (H:mJ name there st=(g,out,iF)):
 Calls prog 26 #[dP p,.string name] w (FE w base p b g out iF):=by
 have aI:aj (1≤name.size∧name.size≤16):=af (by
  unfold pY at cR;simp only[Bool.and_eq_true,decide_eq_true_eq]at cR;exact cR.2)
 obtain⟨i0,hi,i_,jc,jd⟩:=fR Tryz.sA;obtain⟨kO,dn,je,jf,jg⟩:=fR Tryz.mN;have dO:=af hb;have jr:=af eD;have jt:=af hd;have Z:=af (And.intro f4 fZ);have jX:=af cR;have iz:=af z;have fB:=af bk;have eS:=af H;clear hb eD hd f4 fZ cR z bk H;refine(tW (n:=8)).1 ?_;refine callsIn_of_wp_marks func26 rfl trivial ?_ rfl;refine(pQ (n:=8)).2 ?_;simp only[ntmps26,List.size_toArray,List.length_cons,List.length_nil,Nat.reduceAdd,Nat.reduceSub,Array.replicate_succ,Array.replicate_zero,List.push_toArray,List.append_toArray,List.nil_append,List.cons_append];(go_wp2_with fail);refine(Lk _ name (by have:=aI.o;omega) true jX.o).mono ?_;rintro e w1 ⟨rfl,cM⟩;have jY:aj (ah No w w1):=af (((aA (S:=No) w).alloc _).aK cM);have b0:w1.cell? ⟨w.heap.size,0,none⟩=some (dP p):=cM.cB (oF _ _ _ 0 _ rfl);have iX:w.heap.size<w1.heap.size:=(by have:=cM.size;simp at this;omega);clear cM;(go_wp2_with fail);obtain⟨l,hl⟩:∃l,w1.heap.size=l:=⟨_,rfl⟩;obtain⟨C,cF⟩:∃B,w.heap.size=B:=⟨_,rfl⟩;obtain⟨wA,aL⟩:=ay (((w1.alloc (.cells #[dP p,.string name,.slice none 0 0,qI 0] lT)).alloc (.cells #[dP l] 66)));have gM:aj (ah No w wA):=(by rw[aL];exact af ((jY.o.alloc _).alloc _));have gE:ah No w1 wA:=(by rw[aL];exact((aA (S:=No) w1).alloc _).alloc _);have a0:wA.cell? ⟨C,0,none⟩=some (dP p):=(by rw[←cF];exact gE.cB b0);have acl:wA.heap[l]?=some (.cells #[dP p,.string name,.slice none 0 0,qI 0] lT (0,0)):=(by rw[aL, ←hl];exact((aA (S:=No) _).alloc _).heap (bT _ _) (fun h=>h));have a2:wA.cell? ⟨l+1,0,none⟩=some (dP l):=by
  have h:=bT (w1.alloc (.cells #[dP p,.string name,.slice none 0 0,qI 0] lT)) (.cells #[dP l] 66);rw[World.size_alloc,hl, ←aL]at h;simp[World.cell?,h]
 have kK:wA.heap.size=l+2:=(by rw[aL];simp[hl]);have j9:C<l:=(by omega);have cH:=af (jt.o.kept gM.o (fun h=>h) (fun h=>h));have kI:p<C∧b<C:=(by have:=jt.o.lt;omega);rw[hl,cF, ←aL];have bC:=af (And.intro hl cF);clear aL hl cF gE b0 iX;refine(DV cH.o name (by have:=aI.o;omega) (by simp[World.cell?,acl]) (by simp[World.cell?,acl])).mono ?_;rintro e w2 ⟨sv,rfl,cT,aG⟩;have d8:=Nz cH.o name.data.toList;obtain⟨M,bW⟩:=ay (eO name.data.toList (bA d.fs));have z:=iz.o;unfold gQ at z;rw[←bW]at cT d8 z;obtain⟨sa,sc,rfl⟩:=aq cT;have dS:=af cT;have bI:=af aG;have dU:=af d8;have bG:=af z;have dI:=af (cH.o.kept aG (fun h=>h) (fun h=>h));clear cT aG d8 z bW;go_upto_if 35 with fail
 go_cut [8,9]from 36 to 44 (fun s8 kV wx=>Qz wA p b (l+1) there d1 s8 wx)
 case first=>
  by_cases bg:0<M.length
  ·have he:M.isEmpty=false:=by cases M with|nil=>cases bg|cons=>rfl
   have dB:¬(M.length:Int)=0:=(by omega);have jA:((M.length:Int)==0)=false:=(by simpa using dB);have z:=bG.o;rw[he,aN]at z;simp only[Prod.mk.injEq,true_and]at z;obtain⟨rfl,rfl⟩:=z;(go_wp2_with fail);go_meet
   case rel=>exact⟨Reads.fu dS.o (fun u hu=>lq u _ hu),bI.o.mono (fun _ _ h=>h.elim),dI.o,fun k dX=>by have:=(dS.o.lt k dX).1;omega,bg,dU.o.1,dU.o.2⟩
  ·have iV:M= []:=qA (by omega);subst iV;have z:=bG.o;simp only[List.isEmpty_nil,cond_true,Prod.mk.injEq]at z;obtain⟨he,rfl,rfl⟩:=z;have dM:aj (d.append (aZ name 0) ⟨#[]⟩=(0,(d.append (aZ name 0) ⟨#[]⟩).2)):=af (Prod.ext he rfl);have jZ:=af ((jr.o.kept gM.o (fun _ h=>h.elim)).kept bI.o (fun _ h=>h.elim));have c1:w2.cell? ⟨l,1,none⟩=some (.string name):=bI.o.cB (by simp[World.cell?,acl]);have e0:=bI.o.cB a0;have e2:=bI.o.cB a2;have kz:l+1<w2.heap.size:=(by have:=bI.o.size;omega);have j7:C<w2.heap.size:=(by omega);clear he bg;go_wp2_with fail
   go_region_held3 (fun w'=>w'.cell? ⟨C,0,none⟩=some (dP p)∧w'.cell? ⟨l+1,0,none⟩=some (dP l)) (exact⟨e0,e2⟩)
    (first
      |(go_at_call 83
        refine(o5 _ base (jZ.o.kept ((aA (S:=No) w2).drew) (fun _ h=>h.elim)) l name (by have:=aI.o;omega) c1 0 (by omega)).mono ?_;rintro e bZ ⟨rfl,U⟩;have cg:aj (ah No w2 bZ):=af (((aA (S:=No) w2).drew).aK U);have f0:=cg.o.cB e0;have f2:=cg.o.cB e2;clear U e0 e2 c1;have e0:=f0;have e2:=f2;clear f0 f2)
      |(go_at_call 82
        refine(uk (dI.o.kept cg.o (fun h=>h) (fun h=>h)) (aZ name 0) ⟨#[]⟩ 0 _ dM.o).mono ?_;rintro e gI ⟨rfl,f7,V⟩;have dc:aj (ah (Two p b) wA gI):=af (((bI.o.aK cg.o).mono (fun _ _ h=>h.elim)).aK V);have ia:=af f7;have f0:=V.cell e0 (fun e=>by rcases e with e|e;(have J:C=p:=e;omega);(have J:C=b:=e;omega))
        have f2:=V.cell e2 (fun e=>by rcases e with e|e;(have J:l+1=p:=e;omega);(have J:l+1=b:=e;omega))
        clear V f7 e0 e2;have e0:=f0;have e2:=f2;clear f0 f2))
   have kC:l+1<gI.heap.size:=(by have:=dc.o.size;omega);(go_wp2_with fail);go_meet
   case rel=>exact⟨Reads.fu (jO gI #[qI 0] 1 (aX _) (by unfold maxLen;omega) rfl) (fun u hu=>lq u _ hu),dc.o.alloc _,ia.o.kept ((aA (S:=No) gI).alloc _) (fun h=>h) (fun h=>h),fun k dX=>by cases dX;omega,by decide,by decide,fun n hn=>by rw[dA.1 hn];omega⟩
 case rest=>
  obtain⟨cZ,iY⟩:=ay (wc);subst iY;obtain⟨ta,tc,rfl⟩:=hcut.rd.slice;obtain⟨aT,aS,kQ,gB,gA,_,kM,ew⟩:=rC.cell hcut.rd hcut.ne;simp only[Value.slice.injEq,true_and]at gB;obtain⟨rfl,rfl⟩:=gB;have bg:=hcut.ne;obtain⟨t0,d_⟩:∃n,there[0]?=some n:=⟨there[0],fw bg⟩;have gy:cZ.cell? ⟨aT,aS,none⟩=some (qI t0):=ew 0 t0 d_;have f:=hcut.kp;have jh:∀k,C≤k→¬Two p b k:=fun k dX e=>by rcases e with e|e<;>omega
  have x0:=f.cell a0 (jh _ (bM _));have jJ:=f.cell a2 (jh _ (by show C≤l+1;omega));have gY:=f.heap acl (jh _ (by omega));have fl:cZ.frozen? ⟨l,3,none⟩=false:=bF cZ l 3 _ _ gY;have kS:cZ.cell? ⟨l,3,none⟩=some (qI 0):=(by simp[World.cell?,gY]);have iR:l+1<cZ.heap.size:=(by have:=f.size;omega);have I:=af hcut;have fK:=af gY;have fD:=af d_;have iy:=af gA;have fH:=af ew;have cQ:aT≠l:=(by have:=hcut.tb aT rfl;omega);have jB:¬l=aT:=fun e=>cQ e.symm;have dZ:¬aT=p:=(by have:=hcut.tb aT rfl;omega);have dY:¬aT=b:=(by have:=hcut.tb aT rfl;omega);have kF:(0:Int)<(there.length:Int):=(by omega);clear hcut f gY d_ ew gA dS bI dU bG dI;go_wp2_with fail
  go_region_held3 (fun w'=>w'.cell? ⟨aT,aS,none⟩=some (qI t0)∧w'.cell? ⟨l+1,0,none⟩=some (dP l)) (simp[*,World.cell?_setCell_far]) (fail)
  obtain⟨wS,bX⟩:=ay ((cZ.setCell ⟨l,3,none⟩ (qI t0)).drew);have eE:ah (Own l) cZ wS:=(by rw[bX];exact((aA (S:=Own l) cZ).setCell (p:=⟨l,3,none⟩) (fun _=>(rfl:l=l)) _).drew);have jv:aj (ah (Core l p b) wA wS):=af ((Nv I.o.kp).trans eE (fun _ _ e=> .inl e));have jm:wS.cell? ⟨C,0,none⟩=some (dP p):=eE.cell x0 (fun e=>by have J:C=l:=e;omega);have s2:wS.cell? ⟨l+1,0,none⟩=some (dP l):=eE.cell jJ (fun e=>by have J:l+1=l:=e;omega);have fV:wS.heap[l]?=some (.cells #[dP p,.string name,.slice none 0 0,qI t0] lT (0,0)):=(by rw[bX];exact aB (i:=3) fK.o _);have eF:aj (qN wS p b d1):=af (I.o.disk.kept eE (fun e=>by have J:p=l:=e;omega) (fun e=>by have J:b=l:=e;omega));have fG:aj (∀(j n:Nat),there[j]?=some n→wS.cell? ⟨aT,aS+j,none⟩=some (qI n)):=af (fun j n dn=>eE.cell (fH.o j n dn) (fun e=>cQ e));have fC:aj (Ln wS wS l p b name (.slice none 0 0) (.slice none 0 0) ⟨true,[],t0,[],d1⟩ 0):=af ⟨aA _,eF.o,fV,cJ _ _ _ _,cJ _ _ _ _,by simp,by simp,by have:=I.o.lt t0 (dL fD.o);show(t0:Int)≤_;omega,fun n hn=>absurd hn qU⟩;have gu:cZ.heap.size=wS.heap.size:=(by rw[bX];simp);have kE:l+1<wS.heap.size:=(by omega);have jC:aT<wS.heap.size:=(by omega);have ai:aj (there.length≤64∧∀n∈there,n<100000000):=af ⟨I.o.few,I.o.lt⟩;have iO:(there.length:Int)≤64:=(by have:=I.o.few;omega);have iC:aj (Laid wS base):=af ((jr.o.kept gM.o (fun _ h=>h.elim)).kept jv.o (fun i hi=>by have:=dO.o;have:=Z.o;have:=bC.o;rcases hi with e|e|e<;>omega))
  rw[←bX];have dR:aj (there.headD 0=t0):=af (by have:=fD.o;cases there with|nil=>cases this|cons a r=>simpa using this)
  clear bX eE x0 jJ fl kS iR fK gy gu fH eF fV a0 acl a2 cH bg;go_wp2
  go_loopw [10,11,52] (fun ov kR q wr=>∃(k:Nat) (v:Value) (s:lu),k≤there.length∧q=qI k∧kR= .bool s.whole∧(there.take k).foldl (c7 name) ⟨true,[],t0,[],d1⟩=s∧Ln wS wr l p b name v ov s k) (fun _ _ q _=>there.length-(intOf q).toNat)
  case atStart=>exact⟨0,_,_,aX _,rfl,rfl,rfl,fC.o⟩
  case round=>
   obtain⟨k,v,s,dX,rfl,rfl,P,E⟩:=hrel;obtain⟨va,vc,rfl⟩:=aq E.row;obtain⟨bY,oc,rfl⟩:=aq E.out;have kx:(0:Int)≤(k:Int):=(by omega);by_cases bR:k<there.length
   ·have iP:(k:Int)<(there.length:Int):=(by omega);have f:=E.kp;have au:∀i,¬i=l→¬i=p→¬i=b→¬Core l p b i:=fun i cE X eC e=>by rcases e with e|e|e;exact cE e;exact X e;exact eC e
    have j3:=f.cell (fG.o k _ (fw bR)) (au aT cQ dZ dY);have bB:=f.cell jm (au C (by omega) (by omega) (by omega));have av:=f.cell s2 (au (l+1) (by omega) (by omega) (by omega));have jK:wr.cell? ⟨l,3,none⟩=some (qI s.next):=(by simp[World.cell?,E.cl]);have gZ:wr.cell? ⟨l,1,none⟩=some (.string name):=(by simp[World.cell?,E.cl]);have iT:l+1<wr.heap.size:=(by have:=f.size;omega);have Q:(there.take (k+1)).foldl (c7 name) ⟨true,[],t0,[],d1⟩=c7 name s there[k]:=by
     rw[iK bR,xT,P];rfl
    have cP:=ai.o.2 _ (dw bR);generalize there[k]=n at j3 Q cP;have O:=af Q;have c:=af E;clear Q P E f;cases ez:s.whole with
    |false=>
     have bp:c7 name s n=⟨false,s.aD,s.next,s.out,s.d⟩:=(by unfold c7;rw[ez,iL,aN]);have eB:=af bp;clear bp;go_wp2;go_roundw
     case rel=>
      refine⟨k+1,.slice va s.aD.length vc,⟨false,s.aD,s.next,s.out,s.d⟩,by omega,by go_num,rfl,by rw[O.o,eB.o],?_⟩;exact c.o.skip
     case measure=>simp[intOf];omega
    |true=>
     by_cases gj:n=s.next
     ·subst gj;have kg:((s.next:Int) !=(s.next:Int))=false:=(by simp);obtain⟨⟨aP,j4⟩,aE⟩:∃x,gP s.d.fs (aZ name s.next)=x:=⟨_,rfl⟩;have aH:s.d.look (aZ name s.next)=aP:=(by unfold Ds.look;rw[aE]);have eU:aj (aP.s.size≤4194304):=af (aH▸(look_ok c.o.disk (aZ name s.next)).1);have eB:aj (c7 name s s.next=⟨decide (bK (parse aP.s.data.toList)=aP.s.size),s.aD++ [s.next],s.next+(parse aP.s.data.toList).length,s.out++parse aP.s.data.toList,(s.d.truncate (aZ name s.next) (bK (parse aP.s.data.toList))).2⟩):=af (by
       unfold c7 lu.recs;rw[ez,aH,aM rfl,Bool.and_true,bH])
      have dQ:=af aE;have Lr:=af (iC.o.kept c.o.kp (fun i hi=>by have:=dO.o;have:=Z.o;have:=bC.o;rcases hi with e|e|e<;>omega))
      have bS:aj ((s.next:Int)≤4611686018427387904):=af (by have:=cP;omega);clear aH aE;go_wp2_with fail
      go_region_held3 (fun w'=>w'.cell? ⟨C,0,none⟩=some (dP p)∧w'.cell? ⟨l+1,0,none⟩=some (dP l)) (exact⟨bB,av⟩)
       (first
         |(go_at_call 83
           refine(o5 _ base (Lr.o.kept ((aA (S:=No) wr).drew) (fun _ h=>h.elim)) l name (by have:=aI.o;omega) gZ s.next bS.o).mono ?_;rintro e bZ ⟨rfl,U⟩;have cg:aj (ah No wr bZ):=af (((aA (S:=No) wr).drew).aK U);have f0:=cg.o.cB bB;have f2:=cg.o.cB av;clear U bB av gZ;have bB:=f0;have av:=f2;clear f0 f2)
         |(go_at_call 32
           refine(z6 (c.o.disk.kept cg.o (fun h=>h) (fun h=>h)) _ aP j4 dQ.o).mono ?_;rintro e gI ⟨rfl,V⟩;have dc:=af (cg.o.aK V);have f0:=V.cB bB;have f2:=V.cB av;clear V bB av;have bB:=f0;have av:=f2;clear f0 f2))
      (go_wp2_with fail);refine(Qw _ base (Lr.o.kept dc.o (fun _ h=>h.elim)) (by have:=dO.o;have:=bC.o;have:=dc.o.size;omega) aP.s eU.o).mono ?_;rintro e Y ⟨kU,rfl,bV,cN⟩;have cq:=af (dc.o.aK cN);obtain⟨R,gS⟩:=ay (parse aP.s.data.toList);rw[←gS]at bV eB;obtain⟨jl,rc,rfl⟩:=aq bV;have ig:aj (Reads Y 1 (.slice jl R.length rc) R.length (R.map encStr)):=af (Reads.fu bV (by intro u hu;obtain⟨t,_,rfl⟩:=jq.1 hu;rfl));have iq:aj (∀k,(Value.slice jl R.length rc).ownBlock=some k→wr.heap.size≤k):=af (fun k dX=>by have:=(bV.lt k dX).1;have:=dc.o.size;omega);have f0:=cN.cB bB;have f2:=cN.cB av;have jW:=af gS;clear cN bB av bV cg dc;have bB:=f0;have av:=f2;clear f0 f2;rw[←gS];clear gS;have z2:Y.cell? ⟨l,2,none⟩=some (.slice va s.aD.length vc):=cq.o.cB (by simp[World.cell?,c.o.cl]);have z3:Y.cell? ⟨l,3,none⟩=some (qI s.next):=cq.o.cB jK;obtain⟨cD,fU⟩:=ay (s.next+R.length);have bN:aj ((R.length:Int)≤599187):=af (by
       have cE:=vr aP.s.data.toList;have X:=eU.o;have eC:aP.s.data.toList.length=aP.s.size:=(by simp);rw[←jW.o]at cE;omega)
      have kN:IntKind.i64.wrap ((s.next:Int)+(R.length:Int))=(cD:Int):=(by have:=bN.o;have:=cP;rw[cI];omega);have eH:=af fU;have kD:l+1<Y.heap.size:=(by have:=cq.o.size;omega);clear fU jK;(go_wp2_with fail);refine wp_region_noPanic ?_;refine dN (fun w'=>w'.cell? ⟨l+1,0,none⟩=some (dP l)) (fun w'=>w'.cell? ⟨l,2,none⟩=some (.slice va s.aD.length vc)∧w'.cell? ⟨l,3,none⟩=some (qI s.next)) (fun j=>j==21||j==24) (by kernel_rfl) ?_
      refine bQ.of [0,1,2,3,4,5,6,9,10,11,12,13,14,15,16,17] ?_
      repeat((first|(refine bQ.w (v:=?_) ?_ av ⟨z2,z3⟩ ?_;rotate_left;focus(intro w G;(try dsimp only at G);go_simp;(try rfl);done))|(refine bQ.l (v:=?_) ?_ av ⟨z2,z3⟩ ?_;rotate_left;focus(intro w G;(try dsimp only at G);go_simp;(try rfl);done)));try simp only[cw,b_,cn])
      refine bQ.nil ?_;have aU:aj (ah No Y ((Y.alloc (.cells #[qI s.next] 3)).drew)):=af (((aA (S:=No) Y).alloc _).drew);have eA:aj (aV Y wS.heap.size (.slice va s.aD.length vc) s.aD∧gG Y wS.heap.size (.slice bY s.out.length oc) s.out.length s.out):=af ⟨cq.o.mM c.o.row,cq.o.mM c.o.out⟩;have g2:=aU.o.cB av;have g3:=aU.o.cB z2;have g4:=aU.o.cB z3;refine eZ 7 (fun K hK=>?_);go_simp;refine hK.out _ _ g2 (fun _=>⟨g3,g4⟩) ?_;clear hK K av z2 z3
      try simp only[Act.put,cw,b_,cn]
      have fe:aj (aV ((Y.alloc (.cells #[qI s.next] 3)).drew) wS.heap.size (.slice va s.aD.length vc) s.aD):=af (aU.o.mM eA.o.1);have iu:aj (Reads ((Y.alloc (.cells #[qI s.next] 3)).drew) 1 (.slice (some ⟨Y.heap.size,0,none⟩) 1 1) 1 [qI s.next]):=af (Reads.kept (S:=No) ((aA _).drew) (Reads.fu (jO Y #[qI s.next] 1 (aX _) (by unfold maxLen;omega) rfl) (by simp[Value.oneCell'])) (fun _ _ h=>h));have jL:aj (s.aD.length+1≤maxLen):=af (by have:=c.o.bf;have:=ai.o.1;unfold maxLen;omega);have B2:aj ((s.aD.length+1)*8≤140737488355328):=af (by have:=c.o.bf;have:=ai.o.1;omega);have jM:aj (wS.heap.size≤((Y.alloc (.cells #[qI s.next] 3)).drew).heap.size):=af (by have:=c.o.kp.size;have:=cq.o.size;have:=aU.o.size;omega);have jU:aj (wS.heap.size≤Y.heap.size):=af (by have:=c.o.kp.size;have:=cq.o.size;omega);refine eZ 8 (fun K hK=>?_);refine bL (by rfl) (.tmp 84) (.tmp 86) 135 (by rfl) wS.heap.size 3 i0 _ 1 8 underlying135 hi i_ jc jd (by rfl) (by decide) (.slice va s.aD.length vc) s.aD.length (iW s.aD) (by rfl) fe.o _ 1 [qI s.next] (by rfl) iu.o jL.o B2.o jM.o ?_;intro v' gX d5 bP iJ _;obtain⟨bD,ec,rfl⟩:=aq d5;have gL:aj (ah (Of (.slice va s.aD.length vc)) Y gX):=af ((aU.o.mono (fun _ _ h=>h.elim)).aK bP);have eW:=af d5;have nv:∀i,i<wS.heap.size→¬Of (.slice va s.aD.length vc) i:=fun i aF e=>(by have:=(eA.o.1.lt i e).1;omega);have ji:=bP.cell g2 (nv _ (by show l+1<_;omega));have jj:=bP.cell g3 (nv _ (by show l<_;omega));have jk:=bP.cell g4 (nv _ (by show l<_;omega));refine tY (d:=87) rfl ?_;simp only[cw,b_,cn];refine hK.out _ _ ji (fun _=>⟨jj,jk⟩) ?_;clear hK K d5 bP iJ g2 g3 g4;have eM:aj (∀i,(Value.slice va s.aD.length vc).ownBlock=some i→¬(Value.slice bY s.out.length oc).ownBlock=some i):=af (nE eA.o.1 eA.o.2 (by decide));have ij:aj (Reads gX 1 (.slice jl R.length rc) R.length (R.map encStr)):=af (Reads.kept gL.o ig.o (fun i hi e=>by have:=iq.o i hi;have:=(c.o.row.lt i e).2;omega));have eX:aj (gG gX wS.heap.size (.slice bY s.out.length oc) s.out.length s.out):=af (gL.o.owns eA.o.2 (fun i hi e=>eM.o i e hi));have C1:aj (s.out.length+R.length≤maxLen):=af (by have:=c.o.bo;have:=bN.o;unfold maxLen;omega);have jN:aj ((s.out.length+R.length)*16≤140737488355328):=af (by have:=c.o.bo;have:=bN.o;omega);have C3:aj (wS.heap.size≤gX.heap.size):=af (by have:=gL.o.size;have:=jU.o;omega);refine eZ 18 (fun K hK=>?_);refine bL (by rfl) (.tmp 95) (.tmp 96) 67 (by rfl) wS.heap.size 9 kO _ 1 16 underlying67 dn je jf jg (by rfl) (by decide) (.slice bY s.out.length oc) s.out.length (s.out.map encStr) (by rfl) eX.o _ R.length (R.map encStr) (by rfl) ij.o C1.o jN.o C3.o ?_;intro v' aO d6 aY iM _;have dD:gG aO wS.heap.size v' (s.out++R).length (s.out++R):=by
       have e1:(s.out++R).length=s.out.length+R.length:=cr;unfold gG;rw[e1,fI];exact d6
      have ju:aj (ah (fun i=>Of (.slice va s.aD.length vc) i∨Of (.slice bY s.out.length oc) i) Y aO):=af ((gL.o.mono (fun _ _ h=> .inl h)).trans aY (fun _ _ h=> .inr h));obtain⟨jG,pc,rfl⟩:=aq d6;have c8:=af dD;have cV:∀i,i<wS.heap.size→¬Of (.slice bY s.out.length oc) i:=fun i aF e=>(by have:=(eA.o.2.lt i e).1;omega);have c6:aj (aV aO wS.heap.size (.slice bD (s.aD.length+1) ec) (s.aD++ [s.next])):=af (by
       refine aY.owns ?_ (fun i hi e=>?_)
       ·have e2:(s.aD++ [s.next]).length=s.aD.length+1:=(by simp);rw[e2];unfold iW;rw[fI];exact eW.o
       ·exact nE eW.o eX.o (by decide) i hi e)
      have r2:=aY.cell ji (cV _ (by show l+1<_;omega));have gU:=aY.cell jj (cV _ (by show l<_;omega));have gV:=aY.cell jk (cV _ (by show l<_;omega));have dh:=cq.o.heap c.o.cl (fun h=>h);have bO:=ju.o.heap dh (fun e=>by rcases e with e|e;exact nv l (by omega) e;exact cV l (by omega) e)
      have iG:aO.frozen? ⟨l,2,none⟩=false:=bF aO l 2 _ _ bO;have eN:=af bO;refine tY (d:=97) rfl ?_;simp only[cw,b_,cn];refine hK.out _ _ r2 (fun _=>⟨gU,gV⟩) ?_;clear hK K d6 aY iM ji jj jk dh bO dD;refine bQ.of [19,20] ?_
      repeat((first|(refine bQ.w (v:=?_) ?_ r2 ⟨gU,gV⟩ ?_;rotate_left;focus(intro w G;(try dsimp only at G);go_simp;(try rfl);done))|(refine bQ.l (v:=?_) ?_ r2 ⟨gU,gV⟩ ?_;rotate_left;focus(intro w G;(try dsimp only at G);go_simp;(try rfl);done)));try simp only[cw,b_,cn])
      refine bQ.nil ?_;refine eZ 21 (fun K hK=>?_);go_simp;have u2:(aO.setCell ⟨l,2,none⟩ (.slice bD (s.aD.length+1) ec)).cell? ⟨l+1,0,none⟩=some (dP l):=((aA (S:=Own l) aO).setCell (p:=⟨l,2,none⟩) (fun _=>(rfl:l=l)) _).cell r2 (fun e=>by have J:l+1=l:=e;omega);have N:aj ((aO.setCell ⟨l,2,none⟩ (.slice bD (s.aD.length+1) ec)).heap[l]?=some (.cells #[dP p,.string name,.slice bD (s.aD.length+1) ec,qI s.next] lT (0,0))):=af (aB (i:=2) eN.o _);have fN:=bF (aO.setCell ⟨l,2,none⟩ (.slice bD (s.aD.length+1) ec)) l 3 _ _ N.o;have fL:aj (ah (Own l) aO (aO.setCell ⟨l,2,none⟩ (.slice bD (s.aD.length+1) ec))):=af ((aA (S:=Own l) aO).setCell (p:=⟨l,2,none⟩) (fun _=>(rfl:l=l)) _);have jI:(aO.setCell ⟨l,2,none⟩ (.slice bD (s.aD.length+1) ec)).cell? ⟨l,3,none⟩=some (qI s.next):=(by simp[World.cell?,N.o]);refine hK.out _ _ u2 (fun hn=>by have X:true=false:=hn 21 rfl;cases X) ?_;obtain⟨bq,dG⟩:=ay (aO.setCell ⟨l,2,none⟩ (.slice bD (s.aD.length+1) ec));rw[←dG]at u2 jI N fN fL⊢;clear hK K r2 gU gV iG dG;refine M8 (i:=22) (d:=100) (v:=dP l) rfl rfl (by kernel_rfl) (by kernel_rfl) (by kernel_rfl) rfl (fun _ _ _ h=>h) (Or.inl ⟨by rfl,fun w G=>by(try dsimp only at G);go_simp⟩) u2 (fun hn=>by have X:true=false:=hn 21 rfl;cases X) ?_;simp only[cw,b_,cn];refine M8 (i:=23) (d:=101) (v:= .pointer (some ⟨l,3,none⟩)) rfl rfl (by kernel_rfl) (by kernel_rfl) (by kernel_rfl) rfl (fun _ _ _ h=>h) (Or.inl ⟨by rfl,fun w G=>by(try dsimp only at G);go_simp⟩) u2 (fun hn=>by have X:true=false:=hn 21 rfl;cases X) ?_;simp only[cw,b_,cn];refine eZ 24 (fun K hK=>?_);go_simp;have v2:(bq.setCell ⟨l,3,none⟩ (qI cD)).cell? ⟨l+1,0,none⟩=some (dP l):=((aA (S:=Own l) bq).setCell (p:=⟨l,3,none⟩) (fun _=>(rfl:l=l)) _).cell u2 (fun e=>by have J:l+1=l:=e;omega);have aC:aj ((bq.setCell ⟨l,3,none⟩ (qI cD)).heap[l]?=some (.cells #[dP p,.string name,.slice bD (s.aD.length+1) ec,qI cD] lT (0,0))):=af (aB (i:=3) N.o _);have cv:aj (ah (Own l) aO (bq.setCell ⟨l,3,none⟩ (qI cD))):=af (fL.o.aK ((aA (S:=Own l) bq).setCell (p:=⟨l,3,none⟩) (fun _=>(rfl:l=l)) _));refine hK.out _ _ v2 (fun hn=>by have X:true=false:=hn 21 rfl;cases X) ?_;obtain⟨F,dH⟩:=ay (bq.setCell ⟨l,3,none⟩ (qI cD));rw[←dH]at v2 aC cv⊢;clear hK K u2 jI fN dH;refine eZ 25 (fun K hK=>?_);go_simp;refine hK.out _ _ v2 (fun hn=>by have X:true=false:=hn 21 rfl;cases X) ?_;clear hK K;refine sZ (by kernel_rfl) ?_ _;refine NoPanic.normal ?_;have iH:wr.heap.size≤Y.heap.size:=cq.o.size;have gn:∀i,Of (.slice va s.aD.length vc) i→wS.heap.size≤i:=fun i e=>(c.o.row.lt i e).1;have gq:∀i,Of (.slice bY s.out.length oc) i→wS.heap.size≤i:=fun i e=>(c.o.out.lt i e).1;have jw:aj (ah (fun i=>i=l∨wS.heap.size≤i) wr F):=af (((cq.o.mono (fun _ _ h=>h.elim)).trans ju.o (T:=fun i=>Of (.slice va s.aD.length vc) i∨Of (.slice bY s.out.length oc) i) (fun i _ e=>by rcases e with e|e;exact .inr (gn i e);exact .inr (gq i e))).trans cv.o (fun i _ e=> .inl e))
      have cu:aj (aV F wS.heap.size (.slice bD (s.aD.length+1) ec) (s.aD++ [s.next])∧gG F wS.heap.size (.slice jG (s.out.length+R.length) pc) (s.out++R).length (s.out++R)):=af ⟨cv.o.owns c6.o (fun i hi e=>by have:=(c6.o.lt i hi).1;have J:i=l:=e;omega),cv.o.owns c8.o (fun i hi e=>by have:=(c8.o.lt i hi).1;have J:i=l:=e;omega)⟩;have g_:aj (qN F p b s.d):=af (c.o.disk.kept jw.o (fun e=>by rcases e with e|e<;>omega) (fun e=>by rcases e with e|e<;>omega))
      have bJ:aj (ah (Core l p b) wS F):=af (c.o.kp.trans jw.o (fun i hi e=>by rcases e with e|e;exact .inl e;omega))
      have iB:aj (Laid F base):=af (iC.o.kept bJ.o (fun i hi=>by have:=dO.o;have:=Z.o;have:=bC.o;rcases hi with e|e|e<;>omega))
      have v1:F.cell? ⟨l,1,none⟩=some (.string name):=(by simp[World.cell?,aC.o]);have v0:F.cell? ⟨C,0,none⟩=some (dP p):=bJ.o.cell jm (au C (by omega) (by omega) (by omega));obtain⟨gK,fO⟩:=ay (bK R);obtain⟨T,fW⟩:=ay (aP.s);obtain⟨d3,aW⟩:=ay ((s.d.truncate (aZ name s.next) (bK R)));obtain⟨te,gW⟩:=d3;have eu:s.d.truncate (aZ name s.next) (bK R)=(te,gW):=aW.symm;have fF:=af eu;have bp:=eB.o;rw[eu]at bp;rw[←fO]at bp fF⊢;rw[←fW]at bp⊢;dsimp only at bp;obtain⟨q,iU⟩:=ay (decide (gK=T.size));have kJ:((gK:Int)==(T.size:Int))=q:=by
       rw[iU];by_cases f9:gK=T.size
       ·rw[f9];simp
       ·have f_:¬(gK:Int)=(T.size:Int):=(by omega);rw[aJ f9];simpa using f_
      rw[←iU]at bp;have iA:=af bp;clear bp aW eu fO fW iU iH gn gq;go_wp2_with fail
      go_region_held3 (fun w'=>w'.cell? ⟨C,0,none⟩=some (dP p)∧w'.cell? ⟨l+1,0,none⟩=some (dP l)) (exact⟨v0,v2⟩)
       (first
         |(go_at_call 83
           refine(o5 _ base (iB.o.kept ((aA (S:=No) F).drew) (fun _ h=>h.elim)) l name (by have:=aI.o;omega) v1 s.next bS.o).mono ?_;rintro e jo ⟨rfl,dx⟩;have cA:aj (ah No F jo):=af (((aA (S:=No) F).drew).aK dx);have f0:=cA.o.cB v0;have f2:=cA.o.cB v2;clear dx v0 v2 v1;have v0:=f0;have v2:=f2;clear f0 f2)
         |(go_at_call 85
           refine(DU (g_.o.kept cA.o (fun h=>h) (fun h=>h)) _ _ te gW fF.o).mono ?_;rintro e gH ⟨rfl,di,aQ⟩;have cC:aj (ah (Two p b) F gH):=af ((cA.o.mono (fun _ _ h=>h.elim)).aK aQ);have h_:=af di;have f0:=aQ.cell v0 (fun e=>by rcases e with e|e;(have J:C=p:=e;omega);(have J:C=b:=e;omega))
           have f2:=aQ.cell v2 (fun e=>by rcases e with e|e;(have J:l+1=p:=e;omega);(have J:l+1=b:=e;omega))
           clear aQ di v0 v2;have v0:=f0;have v2:=f2;clear f0 f2))
      have nt:∀i,C≤i→¬Two p b i:=fun i aF e=>by rcases e with e|e<;>omega
      have kf:C≤wS.heap.size:=(by omega);have eV:aj (Ln wS gH l p b name (.slice bD (s.aD.length+1) ec) (.slice jG (s.out.length+R.length) pc) ⟨q,s.aD++ [s.next],cD,s.out++R,gW⟩ (k+1)):=af ⟨bJ.o.trans cC.o (fun _ _ e=> .inr e),h_.o,cC.o.heap aC.o (nt l (by omega)),cC.o.owns cu.o.1 (fun i aF e=>by have:=(cu.o.1.lt i aF).1;exact nt i (by omega) e),cC.o.owns cu.o.2 (fun i aF e=>by have:=(cu.o.2.lt i aF).1;exact nt i (by omega) e),by have:=c.o.bf;show(s.aD++ [s.next]).length≤_;simp;omega,by have:=c.o.bo;have:=bN.o;show((s.out++R).length:Int)≤_;rw[cr];omega,by have:=c.o.bn;have:=bN.o;have:=eH.o;show(cD:Int)≤_;omega,fun n hn=>by rcases fQ.1 hn with hn|hn;exact c.o.bl n hn;(rw[dA.1 hn];exact cP)⟩
      (go_wp2_with fail);go_roundw
      case rel=>
       refine⟨k+1,.slice bD (s.aD.length+1) ec,⟨q,s.aD++ [s.next],cD,s.out++R,gW⟩,by omega,by go_num,rfl,by rw[O.o,iA.o,eH.o],?_⟩;exact eV.o
      case measure=>simp[intOf];omega
     ·have bp:c7 name s n=⟨false,s.aD,s.next,s.out,s.d⟩:=(by unfold c7;rw[ez,aJ gj,jR,aN]);have eB:=af bp;have gi:¬(n:Int)=(s.next:Int):=(by omega);have dB:((n:Int) !=(s.next:Int))=true:=(by rw[bne_iff_ne];exact gi);clear bp;go_wp2;go_roundw
      case rel=>
       refine⟨k+1,.slice va s.aD.length vc,⟨false,s.aD,s.next,s.out,s.d⟩,by omega,by go_num,rfl,by rw[O.o,eB.o],?_⟩;exact c.o.skip
      case measure=>simp[intOf];omega
   ·have iQ:k=there.length:=(by omega);subst iQ;have iP:¬((there.length:Int)<(there.length:Int)):=(by omega);have bk:=fB.o;unfold kH at bk;rw[dR.o, ←jH (l:=there),P]at bk;subst bk;have ko:aj (s.aD.length≤there.length):=af E.bf;have j5:(0:Int)≤(s.aD.length:Int):=(by omega);have kr:(s.aD.length:Int)≤(there.length:Int):=(by have:=E.bf;omega);have f:=E.kp;have au:∀i,¬i=l→¬i=p→¬i=b→¬Core l p b i:=fun i cE X eC e=>by rcases e with e|e|e;exact cE e;exact X e;exact eC e
    have bB:=f.cell jm (au C (by omega) (by omega) (by omega));have av:=f.cell s2 (au (l+1) (by omega) (by omega) (by omega));have gZ:wr.cell? ⟨l,2,none⟩=some (.slice va s.aD.length vc):=(by simp[World.cell?,E.cl]);have iT:l+1<wr.heap.size:=(by have:=f.size;omega);have c:=af E;clear P E f bR;obtain⟨L,eD⟩:=ay (there.drop s.aD.length);have fT:there.length-s.aD.length=L.length:=(by rw[eD,jQ]);have dJ:=af eD;have dK:=af fT;clear eD fT;go_wp2_with fail
    all_goals
     (rw[dK.o];refine(Ny wr _ _ _ _ rfl).mono ?_;rintro e bu ⟨rfl,cU⟩;have ct:aj (ah No wr bu):=(by rw[cU];exact af ((aA (S:=No) wr).alloc _));have iN:=oF wr _ 135 0 _ rfl |> (cU▸ ·)
      have dF:wr.heap.size<bu.heap.size:=(by rw[cU];simp);have b0:=ct.o.cB bB;have iE:=ct.o.cB av;have b1:=ct.o.cB (show wr.cell? ⟨l,1,none⟩=some (.string name)by simp[World.cell?,c.o.cl]);have A:∀i,C≤i→¬Two p b i:=fun i aF e=>by rcases e with e|e<;>omega
      have jx:aj (Laid bu base):=af ((iC.o.kept c.o.kp (fun i hi=>by have:=dO.o;have:=Z.o;have:=bC.o;rcases hi with e|e|e<;>omega)).kept ct.o (fun _ h=>h.elim))
      have jP:aj (qN bu p b s.d):=af (c.o.disk.kept ct.o (fun h=>h) (fun h=>h));have kL:=c.o.kp.size;have gD:∀(j m:Nat),L[j]?=some m→bu.cell? ⟨aT,aS+s.aD.length+j,none⟩=some (qI m):=fun j m dn=>by
       rw[dJ.o,zy]at dn;have:=ct.o.cB (c.o.kp.cell (fG.o _ _ dn) (au aT cQ dZ dY))
       rwa [←Nat.add_assoc]at this
      have iI:∀m∈L,m≤4611686018427387904:=fun m hm=>by
       rw[dJ.o]at hm;have:=ai.o.2 m (List.mem_of_mem_drop hm);omega
      clear bB av gZ cU;(go_wp2_with fail);refine(pQ (n:=8)).1 ?_;refine Lm (α:=TR) (e1:=fun x=>qI x.1.1) (e2:=fun x=>qI x.1.2) (Kp:=fE bu.heap.size p b) (n:=8) rfl (by decide) rfl trivial (enters_of func168 (by kernel_rfl) rfl)
       (Iv Fence.wide (8-1) trivial rfl (by decide) wr.heap.size bu.heap.size p b _ _ L iI (by have:=dK.o;have:=ai.o.1;omega) ⟨dF,by omega,by omega⟩ bu (bM _) iN (fun hp=>⟨_,_,rfl,⟨by omega,dZ,dY⟩,fun j m dn=>by first|exact gD j m dn|(have:=iy.o;have:=dK.o;omega)⟩))
       (fun h k=>h.trans k) (fun W i o o' cE X eC j6=>fE.put (bM _) W i o o' cE X eC j6)
       (fun pre W=>qN W p b (lS name (pre.map numOf) s.d)∧ah (Two p b) bu W) ?own ?start 19 (fun x=>qI (numOf x)) ?assign ?body ?done
      case own=>
       rintro pre W W' row ⟨dV,hK⟩ ku cR;have jE:ah (fun i=>row=some i) W W':=(aA W).grown ku (fun k e _=>e);exact⟨dV.kept jE (fun e=>by have:=(cR p e).1;omega) (fun e=>by have:=(cR b e).1;omega),hK.trans jE (fun i hi e=>by have:=(cR i e).1;omega)⟩
      case start=>exact⟨jP.o,aA _⟩
      case assign=>
       intro l x W K hK;simp only[cw,b_,cn]at hK⊢
       gi_wp2
       exact hK
      case body=>
       rintro jF pre x W ⟨dV,hK⟩ bR;have e0:=hK.cell b0 (A C (by omega));have e2:=hK.cell iE (A (l+1) (by omega));have e1:=hK.cell b1 (A l (by omega));have iD:aj (Laid W base):=af (jx.o.kept hK (fun i hi=>by have:=Z.o;rcases hi with e|e<;>omega))
       have jV:=af (o5 W.drew base (iD.o.kept ((aA (S:=No) W).drew) (fun _ h=>h.elim)) l name (by have:=aI.o;omega) e1 (numOf x) (by have:=x.2;unfold numOf;omega));obtain⟨⟨er,jy⟩,gr⟩:∃y,(lS name (pre.map numOf) s.d).remove (aZ name (numOf x))=y:=⟨_,rfl⟩;have fq:=af gr;have jS:=af dV;have eG:=af hK;have eT:aj (∀w2 bZ:World,ah No W w2→qN bZ p b jy→ah (Two p b) w2 bZ→∀a:Act,ownPostG bu.heap.size (fE bu.heap.size p b) (fun pre W=>qN W p b (lS name (pre.map numOf) s.d)∧ah (Two p b) bu W) (fun _ _ _=>False) (pre++ [x]) W .normal a bZ):=af (fun w2 bZ kP aW U a=>by
        have gF:ah (Two p b) W bZ:=(kP.mono (fun _ _ h=>h.elim)).aK U;refine⟨⟨gF.size,fun i o hi kG _=>gF.heap kG (A i (by omega))⟩,⟨gF.size,fun i hi cE X=>gF.block i (by have:=eG.o.size;omega) (fun e=>by rcases e with e|e;exact cE e;exact X e)⟩,?_,eG.o.aK gF⟩
        rw[fI,kT,List.map_nil,Am,fq.o];exact aW)
       clear gr dV hK;simp only[cw,b_,cn]
       gi_wp2
       gi_region_with ((first
        |(refine⟨trivial,(CallsIn.inRound jF (tW.2 jV.o)).mono ?_⟩;rintro e w2 ⟨rfl,aG⟩;have bI:aj (ah No W w2):=af (((aA (S:=No) W).drew).aK aG);have f0:=aG.cell (p:=⟨C,0,none⟩) e0 (fun h=>h);clear aG)
        |(refine⟨trivial,(CallsIn.inRound jF (tW.2 (Iq (jS.o.kept bI.o (fun h=>h) (fun h=>h)) _ er jy fq.o))).mono ?_⟩;rintro e bZ ⟨rfl,aW,U⟩)))
       all_goals
        gi_wp2
        exact eT.o w2 bZ bI.o aW U _
      case done=>
       rintro D xs W dV iZ ⟨dW,ak⟩ dm;have H:=eS.o;unfold mJ at H;rw[←dJ.o]at H;simp only[Prod.mk.injEq]at H;obtain⟨rfl,rfl,cL⟩:=H;rw[iZ]at dW;obtain⟨⟨es,ds⟩,d9⟩:∃y,(lS name L.reverse s.d).sync (aZ name (nC s.aD))=y:=⟨_,rfl⟩;rw[d9]at cL;have cL:ds=iF:=cL;subst cL;have iw:=af d9;have hv:∀i,(Value.slice va s.aD.length vc).ownBlock=some i→wS.heap.size≤i:=fun i hi=>(c.o.row.lt i hi).1;have d7:∀i,(Value.slice bY s.out.length oc).ownBlock=some i→wS.heap.size≤i:=fun i hi=>(c.o.out.lt i hi).1;have aR:aV W wS.heap.size (.slice va s.aD.length vc) s.aD:=ak.owns (ct.o.mM c.o.row) (fun i hi=>A i (by have:=hv i hi;omega));have bU:gG W wS.heap.size (.slice bY s.out.length oc) s.out.length s.out:=ak.owns (ct.o.mM c.o.out) (fun i hi=>A i (by have:=d7 i hi;omega));have dz:j8 W base l p b (.slice va s.aD.length vc) ⟨name,s.aD,s.next⟩ (lS name L.reverse s.d):=
        ⟨⟨ak.heap (ct.o.heap c.o.cl (fun h=>h)) (A l (by omega)),Reads.fu aR (fun u hu=>lq u _ hu),fB.o▸FD name there d1 (by omega),aI.o.2,fun n hn=>by have:=c.o.bl n hn;omega,
          by have:=c.o.bn;show s.next≤_;omega,by have:=dO.o;have:=bC.o;omega,fun i hi=>by have:=hv i hi;have:=dO.o;have:=bC.o;omega,fun e=>by have:=hv _ e;omega,by omega⟩,
          dW,Z.o.1,Z.o.2,fun e=>by have:=hv _ e;omega,fun e=>by have:=hv _ e;omega,by omega⟩
       have fW:∀i,i<w.heap.size→Core l p b i→Two p b i:=fun i hi e=>by rcases e with e|e|e;(have J:i=l:=e;have:=bC.o;omega);exact .inl e;exact .inr e
       have fP:ah (Two p b) w W:=(((((gM.o.mono (fun _ _ h=>h.elim)).trans jv.o fW).trans c.o.kp fW).mS ct.o).aK ak);have dM:=af (nE aR bU (by decide));have e0:=ak.cell b0 (A C (by omega));have e2:=ak.cell iE (A (l+1) (by omega));have iD:aj (Laid W base):=af (jx.o.kept ak (fun i hi=>by have:=Z.o;rcases hi with e|e<;>omega))
       have bE:=af dz;have fA:=af aR;have eY:=af bU;have ic:=af fP;have fJ:=af (And.intro hv d7);have eP:=af dm;have j_:bu.heap.size≤D:=dV;clear dz aR bU fP hv d7 d9 dW ak dm dV;go_wp2_with fail
       go_region_held3 (fun w'=>w'.cell? ⟨C,0,none⟩=some (dP p)∧w'.cell? ⟨l+1,0,none⟩=some (dP l)) (exact⟨e0,e2⟩)
        (first
          |(go_at_call 89
            refine(rD (w:=W.drew) (iD.o.kept ((aA (S:=No) W).drew) (fun _ h=>h.elim)) (bE.o.log.no ((aA (S:=No) W).drew))).mono ?_;rintro e wL ⟨rfl,gb⟩;have gN:aj (ah No W wL):=af (((aA (S:=No) W).drew).aK gb);have f0:=gN.o.cB e0;have f2:=gN.o.cB e2;clear gb e0 e2;have e0:=f0;have e2:=f2;clear f0 f2)
          |(go_at_call 88
            refine(Aj (bE.o.disk.kept gN.o (fun h=>h) (fun h=>h)) _ es ds iw.o).mono ?_;rintro e gJ ⟨rfl,cK,cO⟩;have fM:aj (ah (Two p b) W gJ):=af ((gN.o.mono (fun _ _ h=>h.elim)).aK cO);have jT:=af cK;have f0:=cO.cell e0 (A C (by omega));have f2:=cO.cell e2 (A (l+1) (by omega));clear cO cK e0 e2;have e0:=f0;have e2:=f2;clear f0 f2))
       have cK:=fM.o.heap eP.o (A D (by omega));clear e0 e2 b0 iE b1 gD;(go_wp2_with fail);have gT:ah (fun i=>i=D) gJ (gJ.putObj D (.deferred none)):=(aA gJ).grown (grownBy_putObj' gJ D _) (fun k e _=>by cases e;rfl);have fS:∀i,nD l p b (.slice va s.aD.length vc) i→i<D:=fun i hi=>by
        rcases hi with e|e|e|e
        ·have:=dF;omega
        ·omega
        ·omega
        ·have:=(c.o.row.lt i e).2;omega
       refine⟨by simp,.inl ⟨_,_,rfl,run_takeDeferred cK,?_⟩⟩;refine⟨_,results_tmp3 rfl _ _ _,l,.slice va s.aD.length vc,.slice bY s.out.length oc,rfl,?_,?_,?_,?_,?_,?_⟩
       ·exact(bE.o.mz fM.o jT.o).kept gT (fun i hi e=>by have:=fS i hi;have J:i=D:=e;omega)
       ·refine jD (gT.owns (fM.o.owns fA.o (fun i hi=>A i (by have:=fJ.o.1 i hi;omega))) (fun i hi e=>?_)) (by have:=bC.o;omega);have:=fS i (.inr (.inr (.inr hi)));have J:i=D:=e;omega
       ·refine jD (gT.owns (fM.o.owns eY.o (fun i hi=>A i (by have:=fJ.o.2 i hi;omega))) (fun i hi e=>?_)) (by have:=bC.o;omega);have:=(c.o.out.lt i hi).2;have J:i=D:=e;omega
       ·have:=bC.o;omega
       ·intro i hi hs;rcases hs with e|e|e|e
        ·have:=fJ.o.2 i hi;omega
        ·have:=fJ.o.2 i hi;omega
        ·have:=fJ.o.2 i hi;omega
        ·exact dM.o i e hi
       ·exact(ic.o.aK fM.o).trans gT (fun i hi e=>by have J:i=D:=e;have:=bC.o;omega))
def bB (t:Nm):ByteArray:=⟨t.toArray⟩
theorem jW (t:Nm):(bB t).size=t.length:=by simp[bB,ByteArray.size]
def wN:ByteArray:=⟨#[119]⟩
def g0:Lg:=⟨wN,[0],0⟩
def d0:Ds:=⟨[([119,46,48,48,48,48,48,48,48,48],⟨⟨#[]⟩,0⟩)],4611686018427387904,false⟩
structure kI (w0 w:World)(base l p b:Nat)(v:Value)(g:Lg)(d:Ds):Prop where
 log:j8 w base l p b v g d
 own:aV w base v g.aD
 new:∀i,nD l p b v i→w0.heap.size≤i
 kp:ah No w0 w
section
variable {w0 w:World}{base l p b:Nat}{v:Value}{g:Lg}{d:Ds}
theorem kI.step {w':World}(h:kI w0 w base l p b v g d)(k:ah No w w'):kI w0 w' base l p b v g d:=
 ⟨h.log.no k,k.mM h.own,h.new,h.kp.aK k⟩
theorem kI.laid (h:kI w0 w base l p b v g d)(a:Laid w0 base):Laid w base:=a.kept h.kp (fun _ h=>h.elim)
theorem kI.lt (h:kI w0 w base l p b v g d):∀i,nD l p b v i→i<w.heap.size:=by
 intro i hi;rcases hi with e|e|e|e
 ·have:=h.log.log.lt;omega
 ·have:=h.log.disk.lt;omega
 ·have:=h.log.disk.lt;omega
 ·exact(h.own.lt i e).2
theorem kI.Iw (h:kI w0 w base l p b v g d)(o:Laid w0 base)(hb:base≤w0.heap.size)(av:Value)(xs:List ByteArray)(f:jg w av xs)(c:∀i,av.ownBlock=some i→¬nD l p b v i)
 (k:g.next+xs.length≤1000000000000) (j:g.aD.length+xs.length≤1000000) (ec:Int) (g':Lg) (a:Ds) (n:g.append d xs=(ec,g',a)):
 Calls prog 29 #[dP l,av] w fun e w'=>e= .returned (qI ec)∧(∃v',kI w0 w' base l p b v' g' a)∧ah (nD l p b v) w w':=by
 refine(tq (h.laid o) (aU hb h.kp.size) h.log h.own av xs f c k j ec g' a n).mono ?_;rintro e w' ⟨rfl,v',hW,q,hn,m⟩;refine⟨rfl,⟨v',hW,q,fun i hi=>?_,h.kp.trans m (fun i hi hs=>absurd (h.new i hs) (Nat.not_le.2 hi))⟩,m⟩;rcases hi with e|e|e|e
 ·exact h.new i (.inl e)
 ·exact h.new i (.inr (.inl e))
 ·exact h.new i (.inr (.inr (.inl e)))
 ·rcases hn i e with e|e
  ·exact h.new i (.inr (.inr (.inr e)))
  ·exact aU h.kp.size e
theorem kI.mz {w':World}{a:Ds}(h:kI w0 w base l p b v g d)(k:ah (Two p b) w w')(hd:qN w' p b a):kI w0 w' base l p b v g a:=
 ⟨h.log.mz k hd,k.owns h.own (fun i hi e=>by rcases e with e|e;exact h.log.vp (e▸hi);exact h.log.vb (e▸hi)),h.new,
   h.kp.trans k (fun i hi e=>by
     rcases e with e|e
     ·have:=h.new i (.inr (.inl e));omega
     ·have:=h.new i (.inr (.inr (.inl e)));omega)⟩
theorem kI.NA (h:kI w0 w base l p b v g d)(i:Laid w0 base)(ec:Int)(a:Ds)(f:g.sync d=(ec,a)):
 Calls prog 30 #[dP l] w fun e w'=>e= .returned (qI ec)∧kI w0 w' base l p b v g a∧ah (Two p b) w w':=by
 refine(ye (h.laid i) h.log ec a f).mono ?_;rintro e w' ⟨rfl,hW,c⟩;exact⟨rfl,h.mz c hW.disk,c⟩
end
end
section
open Go.Proofs.Tryz
open Go.RowKit Go.Shelf Go.Joins Go.Deep
theorem Ls (fs:Fs)(a b:Nm):kF (kF fs a) b=kF (kF fs b) a:=by
 unfold kF;rw[RV,RV];congr 1
 funext x
 exact Bool.and_comm _ _
theorem sC (d:Ds)(n:ByteArray):(d.remove n).2=bif d.dead||(decide ((n.size:Int)<1)||decide ((32:Int)<(n.size:Int)))then d else d.with (kF d.fs n.data.toList):=by
 obtain⟨fs,room,dead⟩:=d;unfold Ds.remove cu;rcases oh fs n with h|⟨h,a,b,c⟩|⟨f,h,a,b,c⟩
 ·have hb:(decide ((n.size:Int)<1)||decide ((32:Int)<(n.size:Int)))=true:=by
   unfold gP at h;cases e:decide ((n.size:Int)<1)
   ·cases hb:decide ((32:Int)<(n.size:Int))
    ·rw[e,hb,aN,aN]at h;cases a:eV fs n.data.toList<;>rw[a]at h<;>simp at h
    ·rfl
   ·rfl
  rw[hb,h];cases dead<;>rfl
 ·have hb:(decide ((n.size:Int)<1)||decide ((32:Int)<(n.size:Int)))=false:=by
   rw[aJ (by omega),aJ (by omega)];rfl
  rw[hb,h];cases dead
  ·show _=(⟨kF fs n.data.toList,room,false⟩:Ds);rw[Cy a];rfl
  ·rfl
 ·have hb:(decide ((n.size:Int)<1)||decide ((32:Int)<(n.size:Int)))=false:=by
   rw[aJ (by omega),aJ (by omega)];rfl
  rw[hb,h];cases dead<;>rfl
theorem FH (d:Ds)(a b:ByteArray):((d.remove a).2.remove b).2=((d.remove b).2.remove a).2:=by
 rw[sC,sC,sC,sC];obtain⟨fs,room,dead⟩:=d;cases dead
 ·cases(decide ((a.size:Int)<1)||decide ((32:Int)<(a.size:Int)))<;>cases(decide ((b.size:Int)<1)||decide ((32:Int)<(b.size:Int)))<;>try rfl
  show(⟨kF (kF fs a.data.toList) b.data.toList,room,false⟩:Ds)=⟨kF (kF fs b.data.toList) a.data.toList,room,false⟩;rw[Ls]
 ·rfl
theorem p5 (name:ByteArray)(L:List Nat)(n:Nat)(d:Ds):lS name (n::L) d=lS name L (d.remove (aZ name n)).2:=rfl
theorem CO (name:ByteArray):∀(L:List Nat) (n:Nat) (d:Ds),(lS name L d |>.remove (aZ name n)).2=lS name L (d.remove (aZ name n)).2
 | [],_,_=>rfl
 |m::L,n,d=>by rw[p5,p5,CO name L n,FH]
theorem tu (name:ByteArray):∀(L:List Nat) (d:Ds),lS name L.reverse d=lS name L d
 | [],_=>rfl
 |n::L,d=>by rw[List.reverse_cons,Am,tu name L d,CO,p5]
def ju (name:ByteArray)(st:lu)(n:Nat):lu:=
 bif st.whole&&decide (n=st.next)then c7 name st n else⟨false,st.aD,st.next,st.out,(st.d.remove (aZ name n)).2⟩
theorem Lt (name:ByteArray)(st:lu)(n:Nat)(h:st.whole=false):c7 name st n=⟨false,st.aD,st.next,st.out,st.d⟩:=by
 unfold c7;rw[h];rfl
theorem xq (name:ByteArray):∀(L:List Nat) (st:lu),st.whole=false→L.foldl (c7 name) st=st
 | [],_,_=>rfl
 |n::L,st,h=>by
  rw[qX,Lt name st n h,xq name L _ rfl];obtain⟨d,a,b,c,e⟩:=st;obtain rfl:d=false:=h;rfl
theorem CP (name:ByteArray):∀(L:List Nat) (st:lu),st.whole=false→L.foldl (ju name) st=⟨false,st.aD,st.next,st.out,lS name L st.d⟩
 | [],st,h=>by
   obtain⟨f,a,b,c,e⟩:=st;obtain rfl:f=false:=h;rfl
 |n::L,st,h=>by
  have e:ju name st n=⟨false,st.aD,st.next,st.out,(st.d.remove (aZ name n)).2⟩:=by
   unfold ju;rw[h];rfl
  rw[qX,e,CP name L _ rfl,p5]
theorem Iy (name:ByteArray)(st:lu)(n:Nat)(h:(st.whole&&decide (n=st.next))=true):(c7 name st n).aD=st.aD++ [n]:=by
 unfold c7;rw[h];rfl
theorem Ao (name:ByteArray)(st:lu)(n:Nat)(h:(st.whole&&decide (n=st.next))=false):c7 name st n=⟨false,st.aD,st.next,st.out,st.d⟩:=by
 unfold c7;rw[h];rfl
theorem xu (name:ByteArray):∀(L:List Nat) (st:lu),∃F,(L.foldl (c7 name) st).aD=st.aD++F∧
 L.foldl (ju name) st=⟨(L.foldl (c7 name) st).whole,(L.foldl (c7 name) st).aD,(L.foldl (c7 name) st).next,(L.foldl (c7 name) st).out,lS name (L.drop F.length) (L.foldl (c7 name) st).d⟩
 | [],st=>⟨[],by simp,rfl⟩
 |n::L,st=>by
  cases hb:st.whole&&decide (n=st.next)with
  |true=>
   obtain⟨F,a,b⟩:=xu name L (c7 name st n);refine⟨n::F,?_,?_⟩
   ·rw[qX,a,Iy name st n hb];simp
   ·have e:ju name st n=c7 name st n:=by
     unfold ju;rw[hb];rfl
    rw[qX,qX,e,b];rfl
  |false=>
   refine⟨[],?_,?_⟩
   ·rw[qX,Ao name st n hb,xq name L _ rfl];simp
   ·have e:ju name st n=⟨false,st.aD,st.next,st.out,(st.d.remove (aZ name n)).2⟩:=by
     unfold ju;rw[hb];rfl
    rw[qX,qX,e,Ao name st n hb,xq name L _ rfl,CP name L _ rfl];rfl
def vw (name:ByteArray)(there:List Nat)(d:Ds):lu:=there.foldl (ju name) ⟨true,[],there.headD 0,[],d⟩
theorem NC (name:ByteArray)(there:List Nat)(d:Ds):
 mJ name there (kH name there d)=(⟨name,(vw name there d).aD,(vw name there d).next⟩,(vw name there d).out,((vw name there d).d.sync (aZ name (nC (vw name there d).aD))).2):=by
 obtain⟨F,a,b⟩:=xu name there ⟨true,[],there.headD 0,[],d⟩;unfold mJ;rw[tu];unfold vw;rw[b];unfold kH;rw[a];rfl
end
