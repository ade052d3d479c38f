/- Lemmas. -/
import Derived.Test.YtpbpgjfdledgoaaGreatDoorZo50
import Derived.Test.YtpbpgjfdledgoaaGreatDoorZo52
set_option linter.all false
set_option maxRecDepth 100000
set_option maxHeartbeats 8000000
namespace Go.Proofs.YtpbpgjfdledgoaaGreatDoor
section
open Go.Proofs.Tryz
open Go.RowKit Go.Joins Go.Deep
def Kc (P:Lp):Nat→Prop:=fun i=>gj P i∨P.cv.ownBlock=some i∨i=P.D.m
def RH (R:Rl):Nat→Prop:=fun i=>sQ R i∨R.cv.ownBlock=some i
structure TN (F:Nat→Prop)(w:World)(base qb:Nat)(P:Lp)(R:Rl)(c:Nat)(ld:Ld)(ds:Ds)(JN:Ld)(JO:Ds):Prop where
 led:cq w base P ld ds
 ref:cN w base qb R c JN JO
 ap:∀i,RH R i→¬Kc P i
 fp:∀i,F i→¬Kc P i∧¬RH R i∧i<w.heap.size
 lm:P.D.m<w.heap.size
 hb:base≤w.heap.size
section
variable {F:Nat→Prop}{w w':World}{base qb:Nat}{P:Lp}{R:Rl}{c c':Nat}{ld KP JN:Ld}{ds ds' JO:Ds}
theorem cq.TP (h:cq w base P ld ds)(hm:P.D.m<w.heap.size){i:Nat}(hi:Kc P i):i<w.heap.size:=by
 rcases hi with hi|hi|rfl
 ·exact h.lt i hi
 ·exact(h.cm.lt i hi).2
 ·exact hm
theorem TN.kept {S:Nat→Prop}(h:TN F w base qb P R c ld ds JN JO)(k:ah S w w')(hS:∀i,S i→¬Kc P i∧¬RH R i):TN F w' base qb P R c ld ds JN JO:=
 ⟨h.led.kept k (fun i hi e=>(hS i e).1 (.inl hi)) (fun i hi e=>(hS i e).1 (.inr (.inl hi))) (fun e=>(hS _ e).1 (.inr (.inr rfl))),h.ref.kept k (fun i hi e=>(hS i e).2 (.inl hi)) (fun i hi e=>(hS i e).2 (.inr hi)),h.ap,fun i hi=>⟨(h.fp i hi).1,(h.fp i hi).2.1,eU (h.fp i hi).2.2 k.size⟩,eU h.lm k.size,aU h.hb k.size⟩
theorem TN.no (h:TN F w base qb P R c ld ds JN JO)(k:ah No w w'):TN F w' base qb P R c ld ds JN JO:=h.kept k (fun _ e=>e.elim)
end
structure Twin (F:Nat→Prop)(w:World)(base p b q qb:Nat)(qv:Value)(c:Nat)(d d2:Ds):Prop where
 pd:qN w p b d
 qd:nS w q qb qv c d2
 ap:¬QS q qv p∧¬QS q qv b
 fp:∀i,F i→i≠p∧i≠b∧¬QS q qv i∧i<w.heap.size
 hp:base≤p∧base≤b
 hb:base≤w.heap.size
structure MW (F:Nat→Prop)(w:World)(base q qb:Nat)(qv:Value)(P:Lp)(c:Nat)(ld:Ld)(ds:Ds)(d2:Ds):Prop where
 led:cq w base P ld ds
 qd:nS w q qb qv c d2
 ap:∀i,QS q qv i→¬Kc P i
 fp:∀i,F i→¬Kc P i∧¬QS q qv i∧i<w.heap.size
 lm:P.D.m<w.heap.size
 hb:base≤w.heap.size
section
variable {F:Nat→Prop}{w w':World}{base p b q qb:Nat}{qv:Value}{P:Lp}{R:Rl}{c c':Nat}{ld KP JN:Ld}{d d2 ds ds' JO:Ds}
theorem Twin.no (h:Twin F w base p b q qb qv c d d2)(k:ah No w w'):Twin F w' base p b q qb qv c d d2:=
 ⟨h.pd.kept k (fun e=>e) (fun e=>e),h.qd.no k,h.ap,fun i hi=>⟨(h.fp i hi).1,(h.fp i hi).2.1,(h.fp i hi).2.2.1,eU (h.fp i hi).2.2.2 k.size⟩,h.hp,aU h.hb k.size⟩
theorem Twin.prog (h:Twin F w base p b q qb qv c d d2)(k:ah (Two p b) w w')(hd:qN w' p b ds):Twin F w' base p b q qb qv c ds d2∧ah (fun i=>¬F i) w w':=by
 refine⟨⟨hd,h.qd.kept k (fun i hi e=>?_),h.ap,fun i hi=>⟨(h.fp i hi).1,(h.fp i hi).2.1,(h.fp i hi).2.2.1,eU (h.fp i hi).2.2.2 k.size⟩,h.hp,aU h.hb k.size⟩,k.mono (fun i _ hi e=>?_)⟩
 ·rcases e with rfl|rfl
  ·exact h.ap.1 hi
  ·exact h.ap.2 hi
 ·rcases hi with rfl|rfl
  ·exact(h.fp _ e).1 rfl
  ·exact(h.fp _ e).2.1 rfl
theorem Twin.UU (h:Twin F w base p b q qb qv c d d2)(k:ah (Two p b) w w')(hn:jB w w' base p b P ld ds):MW F w' base q qb qv P c ld ds d2∧ah (fun i=>¬F i) w w':=by
 have hl:∀i,Kc P i→i=p∨i=b∨w.heap.size≤i:=fun i hi=>by
  rcases hi with hi|hi|rfl
  ·exact hn.new i hi
  ·exact .inr (.inr (hn.cv i hi))
  ·exact .inr (.inr hn.dm)
 obtain⟨t,a⟩:=h.prog k (by have:=hn.led.log.disk;rw[hn.pp,hn.pb]at this;exact this);refine⟨⟨hn.led,t.qd,fun i hi e=>?_,fun i hi=>⟨fun e=>?_,(h.fp i hi).2.2.1,(t.fp i hi).2.2.2⟩,(cP hn.led.eH.map),t.hb⟩,a⟩
 ·rcases hl i e with rfl|rfl|e
  ·exact h.ap.1 hi
  ·exact h.ap.2 hi
  ·have:=h.qd.lt hi;omega
 ·rcases hl i e with e|e|e
  ·exact(h.fp i hi).1 e
  ·exact(h.fp i hi).2.1 e
  ·have:=(h.fp i hi).2.2.2;omega
theorem MW.UW (h:MW F w base q qb qv P c ld ds d2)(hn:xO w w' base q qb qv c' JN JO R):TN F w' base qb P R c' ld ds JN JO∧ah (fun i=>¬F i) w w':=by
 have k:=hn.kp;have hl:∀i,RH R i→QS q qv i∨w.heap.size≤i:=fun i hi=>by
  rcases hi with hi|hi
  ·exact hn.new i hi
  ·exact hn.cv i hi
 refine⟨⟨h.led.kept k (fun i hi e=>h.ap i e (.inl hi)) (fun i hi e=>h.ap i e (.inr (.inl hi))) (fun e=>h.ap _ e (.inr (.inr rfl))),hn.led,fun i hi e=>?_,fun i hi=>⟨(h.fp i hi).1,fun e=>?_,eU (h.fp i hi).2.2 k.size⟩,eU h.lm k.size,aU h.hb k.size⟩,k.mono (fun i _ hi e=>(h.fp i e).2.1 hi)⟩
 ·rcases hl i hi with a|a
  ·exact h.ap i a e
  ·have:=h.led.TP h.lm e;omega
 ·rcases hl i e with e|e
  ·exact(h.fp i hi).2.1 e
  ·have:=(h.fp i hi).2.2;omega
theorem MW.no (h:MW F w base q qb qv P c ld ds d2)(k:ah No w w'):MW F w' base q qb qv P c ld ds d2:=
 ⟨h.led.no k,h.qd.no k,h.ap,fun i hi=>⟨(h.fp i hi).1,(h.fp i hi).2.1,eU (h.fp i hi).2.2 k.size⟩,eU h.lm k.size,aU h.hb k.size⟩
end
end
section
open Go.Proofs.Tryz
def tot:List ByteArray→Nat
 | []=>0
 |s::r=>(bI s).size+tot r
theorem wE {d:Ds}{n s:ByteArray}(h:(d.append n s).1=0):(d.append n s).2.room=d.room-(s.size:Int):=by
 unfold Ds.append at h⊢;cases c1:(cu d.fs d.dead n).2==1||(cu d.fs d.dead n).2==12 with
 |true=>
  rw[c1]at h;simp only[cond_true]at h;rw[h]at c1;exact absurd c1 (by decide)
 |false=>
  rw[c1]at h;simp only[cond_false]at h⊢;cases c2:((cu d.fs d.dead n).2==6&&decide (64≤d.fs.length))||decide (4194304<(cu d.fs d.dead n).1.s.size+s.size)with
  |true=>
   rw[c2]at h;simp only[cond_true]at h;exact absurd h (by decide)
  |false=>
   rw[c2]at h;simp only[cond_false]at h⊢;by_cases a:(s.size:Int)≤d.room
   ·rw[aM a];rfl
   ·rw[aJ a]at h;simp only[cond_false]at h;exact absurd h (by decide)
theorem BO (d:Ds)(n:ByteArray):(d.sync n).2.room=d.room:=by
 unfold Ds.sync;cases(cu d.fs d.dead n).2==0<;>rfl
theorem MX {g:Lg}{d:Ds}{s:ByteArray}(h:(g.lay d s).1=0):(g.lay d s).2.2.room=d.room-((bI s).size:Int):=by
 have key:∀(x:Int×Ds) (a b:Lg) (r:Int),(x.1=0→x.2.room=r)→(bif x.1==0 then((0:Int),a,x.2)else(x.1,b,x.2)).1=0→(bif x.1==0 then((0:Int),a,x.2)else(x.1,b,x.2)).2.2.room=r:=by
  intro x a b r c h;cases hc:x.1==0 with
  |true=>exact c (by simpa using hc)
  |false=>
   rw[hc]at h;simp only[cond_false]at h;rw[h]at hc;exact absurd hc (by decide)
 unfold Lg.lay at h⊢;cases e:decide ((d.look g.last).s.size<4096)with
 |true=>
  rw[e,bH]at h;exact key _ _ _ _ wE h
 |false=>
  rw[e,aN]at h;rw[aN];cases f:decide (99999999<g.next)with
  |true=>
   rw[f,bH]at h;exact absurd (show(8:Int)=0 from h) (by decide)
  |false=>
   rw[f,aN]at h;refine key _ _ _ _ (fun c=>?_) h;rw[wE c,BO]
theorem wF:∀(L:List ByteArray) (g:Lg) (d:Ds),(layAll L g d).1=0→(layAll L g d).2.2.room=d.room-(tot L:Int)
 | [],g,d,_=>by show d.room=d.room-((0:Nat):Int);omega
 |s::r,g,d,h=>by
  have e0:(tot (s::r):Int)=((bI s).size:Int)+(tot r:Int):=(by show(((bI s).size+tot r:Nat):Int)=_;omega);have ed:layAll (s::r) g d=bif (g.lay d s).1==0 then layAll r (g.lay d s).2.1 (g.lay d s).2.2 else g.lay d s:=rfl
  rw[ed]at h⊢;cases hc:(g.lay d s).1==0 with
  |true=>
   rw[hc,bH]at h;rw[bH,wF r _ _ h,MX (by simpa using hc),e0];omega
  |false=>
   rw[hc,aN]at h;rw[h]at hc;exact absurd hc (by decide)
def si (fs:Fs)(q:Ds):Ds:=fs.foldl (fun q f=>((q.append (bB f.1) f.2.s).2.sync (bB f.1)).2) q
def sz:Fs→Nat
 | []=>0
 |f::r=>f.2.s.size+sz r
theorem xP:∀a b:Fs,sz (a++b)=sz a+sz b
 | [],b=>(jI _).symm
 |f::a,b=>by show f.2.s.size+sz (a++b)=f.2.s.size+sz a+sz b;rw[xP a b];omega
theorem BP (a:Fs)(f:Nm×Fi)(q:Ds):si (a++ [f]) q=(((si a q).append (bB f.1) f.2.s).2.sync (bB f.1)).2:=by
 unfold si;rw[xT];rfl
theorem BQ (n:Nm):(bB n).data.toList=n:=by simp[bB]
theorem HV {F:Fs}{n:Nm}{f:Fi}(d:dI F)(hb:∀a∈F,bytesBefore a.1 n=true):dI (F++ [(n,f)]):=by
 unfold dI at d⊢;rw[nV];refine⟨d,by simp,fun a e b c=>?_⟩;rw[dA.1 c];exact hb a e
theorem MY {F:Fs}{r:Int}{n:Nm}{s:ByteArray}(h:1≤n.length)(i:n.length≤32)(j:dI F)(hb:∀a∈F,bytesBefore a.1 n=true)(hl:F.length<64)(hs:s.size≤4194304)(k:(s.size:Int)≤r):
 ((((⟨F,r,false⟩:Ds).append (bB n) s).2.sync (bB n)).2)=⟨F++ [(n,⟨s,s.size⟩)],r-(s.size:Int),false⟩:=by
 have g:1≤(bB n).size:=(by rw[jW];exact h);have z2:(bB n).size≤32:=(by rw[jW];exact i);have g0:eV F (bB n).data.toList=none:=by
  rw[BQ];unfold eV;have:F.find? (kY n)=none:=by
   rw[zG];intro a d
   simpa [kY]using mU (hb a d)
  rw[this];rfl
 have l:cu F false (bB n)=(Fi.none,6):=by
  unfold cu;rw[jR,aN,DZ g z2 g0]
 have hw:kg Fi.none s=⟨s,0⟩:=by
  show(⟨(⟨#[]⟩:ByteArray)++s,0⟩:Fi)=⟨s,0⟩;have e:(⟨#[]⟩:ByteArray)++s=s:=by
   apply q5;rw[ByteArray.data_append];simp
  rw[e]
 have p0:gN F (bB n).data.toList (kg Fi.none s)=F++ [(n,⟨s,0⟩)]:=by
  rw[BQ,hw];have:=rA (A:=F) (B:= []) (n:=n) (f:=⟨s,0⟩) hb (fun c hc=>absurd hc qU);rw[kE]at this;exact this
 have d:(⟨F,r,false⟩:Ds).append (bB n) s=(0,⟨F++ [(n,⟨s,0⟩)],r-(s.size:Int),false⟩):=by
  unfold Ds.append;simp only;rw[l];simp only;rw[show((6:Int)==1||(6:Int)==12)=false by decide,aN,aJ (by omega:¬64≤F.length),jR,qY,aJ (by show¬4194304<(⟨#[]⟩:ByteArray).size+s.size;have:(⟨#[]⟩:ByteArray).size=0:=rfl;omega),aN,aM k,bH,p0]
 have b:dI (F++(n,(⟨s,0⟩:Fi)):: []):=HV j hb;have m:cu (F++ [(n,(⟨s,0⟩:Fi))]) false (bB n)=(⟨s,0⟩,0):=by
  unfold cu;rw[jR,aN];refine Aq g z2 ?_;rw[BQ];exact ru b
 rw[d];unfold Ds.sync;simp only;rw[m];simp only;rw[show((0:Int)==0)=true by decide,bH,BQ,rz b]
theorem HX {fs:Fs}(c:dI fs)(hn:∀f∈fs,1≤f.1.length∧f.1.length≤32)(d:∀f∈fs,f.2.k=f.2.s.size)(hs:∀f∈fs,f.2.s.size≤4194304)(hl:fs.length≤64)(h:(sz fs:Int)≤4611686018427387904):
 ∀j,j≤fs.length→si (fs.take j) Ds.new=⟨fs.take j,4611686018427387904-(sz (fs.take j):Int),false⟩
 |0,_=>by rw[List.take_zero];rfl
 |j+1,i=>by
  have ih:=HX c hn d hs hl h j (by omega);have hm:fs[j]∈fs:=dw (by omega);have et:fs.take (j+1)=fs.take j++ [fs[j]]:=(by rw[iK (by omega)]);have es:fs=fs.take j++fs[j]::fs.drop (j+1):=by
   rw[List.getElem_cons_drop,jN]
  have g:sz fs=sz (fs.take j)+(fs[j].2.s.size+sz (fs.drop (j+1))):=by
   have:=fJ sz es;rw[xP]at this;exact this
  have b:=c;unfold dI at b;rw[es,nV]at b;rw[et,BP,ih,MY (hn _ hm).1 (hn _ hm).2 b.1 (fun a e=>b.2.2 a e _ (m_ ..)) (by rw[fB];omega) (hs _ hm) (by omega)];have hf:(fs[j].1,(⟨fs[j].2.s,fs[j].2.s.size⟩:Fi))=fs[j]:=(by rw[←d _ hm]);rw[hf,xP];have:sz [fs[j]]=fs[j].2.s.size:=rfl;rw[this];congr 1;omega
theorem K2 (nm:ByteArray):∀S:List Sg,sz (S.map (Sg.file nm))=bK (cA S)
 | []=>rfl
 |s::S=>by
  show(wI s.recs).size+sz (S.map (Sg.file nm))=_;rw[jX,K2 nm S];have:cA (s::S)=s.recs++cA S:=(by simp[cA]);rw[this,og]
theorem HY:∀L:List Nm,tot (L.map bB)=bK L
 | []=>rfl
 |t::L=>by
  show(bI (bB t)).size+tot (L.map bB)=_;rw[kr,HY L];simp[bK]
structure UX (L:List Nm)(g':Lg)(d1 dS:Ds)(there:List Nat)(g2:Lg)(d2:Ds):Prop where
 ap:(⟨aR,[0],0⟩:Lg).append Qc.2.2 (L.map bB)=(0,g',d1)
 sy:g'.sync d1=(0,dS)
 cp:si dS.fs Ds.new=dS
 sm:∀f∈dS.fs,f.2.s.size≤100000
 few:dS.fs.length≤64
 fd:∀f∈dS.fs,gP dS.fs (bB f.1)=(f.2,0)
 th:gQ dS aR=(0,there,dS)
 en:mJ aR there (kH aR there dS)=(g2,L,d2)
 nx:g2.next≤60
 fl:g2.aD.length≤64
theorem P7 (L:List Nm)(o:∀t∈L,t.length≤65536)(hl:L.length≤60):∃g' d1 dS there g2 d2,UX L g' d1 dS there g2 d2:=by
 obtain⟨A,z,g',d1,n,v,D,hn,hA,_⟩:=yq KZ L o (by show 0+L.length≤1000000;omega) (by show 0+L.length≤63;omega);have q:cA (A++ [z])=L:=(by rw[D];rfl);have hS:=v.synced;obtain⟨dS,c⟩:=ay ((d1.sync g'.last).2);rw[←c]at hS;have r:g'.sync d1=(0,dS):=by
  have u:=sD v;unfold Lg.sync;rw[c,u]
 have b:cA (A++ [⟨z.first,z.recs,bK z.recs⟩])=L:=(by rw[←q,iQ,iQ]);have d:dS.room=4611686018427387904-(bK L:Int):=by
  rw[c,BO];have m:layAll (L.map bB) ⟨aR,[0],0⟩ Qc.2.2=(0,g',d1):=(by rw[←wD o];exact n);have h:=wF (L.map bB) ⟨aR,[0],0⟩ Qc.2.2 (by rw[m]);rw[m,HY]at h;have x:Qc.2.2.room=4611686018427387904:=(by kernel_rfl);rw[x]at h;exact h
 have l:sz dS.fs=bK L:=(by rw[hS.fs,K2,b]);have B:bK L≤65543*60:=by
  have:=HF o;have E:(65536+7)*L.length≤65543*60:=Nat.mul_le_mul_left 65543 hl;omega
 have j:dS.fs.length≤64:=by
  rw[hS.fs,eE,cr,gZ];have:=hS.few;omega
 have a:∀f∈dS.fs,f.2.s.size≤100000∧f.2.k=f.2.s.size∧1≤f.1.length∧f.1.length≤32:=by
  intro f hf;rw[hS.fs]at hf;obtain⟨s,hs,rfl⟩:=jq.1 hf;have y:=hS.TS s hs;have C:(iO aR.data.toList s.first).length=15:=vA _ y;refine⟨?_,?_,by show 1≤(iO aR.data.toList s.first).length;omega,by show(iO aR.data.toList s.first).length≤32;omega⟩
  ·show(wI s.recs).size≤100000;rw[jX];rcases fQ.1 hs with e|e
   ·exact(hS.full s e).2.1
   ·rw[dA.1 e];exact hS.zs
  ·show s.k=(wI s.recs).size;rw[jX];rcases fQ.1 hs with e|e
   ·exact(hS.full s e).2.2
   ·rw[dA.1 e]
 have i:=Lw hS;rw[b]at i;have p:∀f∈dS.fs,gP dS.fs (bB f.1)=(f.2,0):=by
  intro f hf;obtain⟨n,u,m,h⟩:=a f hf;obtain⟨X,Y,he⟩:=List.append_of_mem hf;refine Aq (by rw[jW];exact m) (by rw[jW];exact h) ?_;have w:=hS.rising;rw[he]at w⊢;rw[BQ];exact ru w
 refine⟨g',d1,dS,_,_,_,n,r,?_,fun f hf=>(a f hf).1,j,p,IB hS,i,?_,?_⟩
 ·have:=HX hS.rising (fun f hf=>(a f hf).2.2) (fun f hf=>(a f hf).2.1) (fun f hf=>by have:=(a f hf).1;omega) j (by rw[l];omega) dS.fs.length (bM _);rw[jH,l]at this;rw[this, ←d];have hd:=hS.dead;cases dS;simp only at hd;rw[hd]
 ·rw[hS.g];show z.first+z.recs.length≤60;have:z.next=0+L.length:=hn;unfold Sg.next at this;omega
 ·rw[hS.g];show((A++ [(⟨z.first,z.recs,bK z.recs⟩:Sg)]).map Sg.first).length≤64;rw[eE,cr,gZ];have:=hS.few;omega
end
section
open Go.Proofs.Tryz
open Go.ChangeShapes Go.WideShapes Go.ChangeAt Go.RowKit Go.Joins Go.Deep
section
variable {H:Type}{enc:TypeId×Value→H}{w:World}{base:Nat}{spare:Nat→Bool}{held:Bool}{n:Nat}{cs:List Value}{x:DataW H×List MemPlace}
theorem UY:prog.cellsOf 30=21:=by kernel_rfl
theorem RI (h:DataW.trod enc prog w base spare held n 30 cs=some x):∃(r:Lr) (v:Value),cs=fS r v∧aW bN w v r.ids:=by
 obtain⟨xs,m,_,_,hl,j,hf⟩:=DataW.trod_struct underlying30 h;rw[UY]at hl
 match cs,hl with
 | [e0,e1,e2,e3,c0,c1,c2,c3,c4,c5,y,z,A,c9,b,d,c12,e,f,g,i],_=>
   match xs,j with
   | [x0,D,E,F,G,H],_=>
     have h0:=hf 0 _ rfl;have k:=hf 1 _ rfl;have o:=hf 2 _ rfl;have q:=hf 3 _ rfl;have s:=hf 4 _ rfl;have t:=hf 5 _ rfl;simp[k1,VH,VA]at h0 k o q s t;obtain⟨a0,rfl,_⟩:=jC (c:=e0) h0;obtain⟨u,rfl,_⟩:=jC (c:=e1) k;obtain⟨a2,rfl,_⟩:=jC (c:=e2) o;obtain⟨a3,rfl,_⟩:=jC (c:=e3) q;obtain⟨c,hc,B⟩:=TM (cs:= [c0,c1,c2,c3,c4,c5,y,z,A,c9,b,d,c12,e,f,g]) s;simp only[ct,List.cons.injEq,and_true]at hc;obtain⟨rfl,rfl,rfl,rfl,rfl,rfl,rfl,rfl,rfl,rfl,rfl,rfl,rfl,rfl,rfl,rfl⟩:=hc;obtain⟨a,p,l,he,C⟩:=RG (cs:= [i]) t;simp only[List.cons.injEq,and_true]at he;subst he;exact⟨⟨a0,u,a2,a3,c,l⟩,_,rfl,C⟩
end
section
variable {H:Type}{enc:TypeId×Value→H}{w:World}{base:Nat}{spare:Nat→Bool}{held:Bool}{n:Nat}{cs:List Value}{x:DataW H×List MemPlace}
theorem TQ (h:DataW.trod enc prog w base spare held n 30 cs=some x):∃a:Rc,cs=gu.cells a∧aW bN w a.v a.r.ids:=by
 obtain⟨r,v,hc,b⟩:=RI h;obtain⟨a,c,rfl⟩:=b.slice;exact⟨⟨r,a,r.ids.length,c⟩,hc,b⟩
end
theorem MZ {H:Type}{enc:TypeId×Value→H}{W:World}{base:Nat}{v:Value}{d:DataW H}{ps:List MemPlace}
 (hv:Value.okWide prog W .any base 65 v) (h:DataW.Trod enc prog W 0 (fun _=>true) true 65 v d ps):∃L:List Rc,aW gu W v L∧∀x∈L,aW bN W x.v x.r.ids:=by
 obtain⟨a,m,c,rfl⟩:=okWide_slice underlying65 hv;obtain⟨n,hn⟩:=h;obtain⟨v,L,hc,b,e⟩:=Dt gu ⟨⟨0,0,0,0,Cm.zero,[]⟩,none,0,0⟩ (fun x=>aW bN W x.v x.r.ids) underlying65 UY TQ hn;obtain rfl: .slice a m c=v:=(by simpa [Value.cells]using hc);exact⟨L,b,e⟩
def EW (base n:Nat)(o:Value)(w:World):Prop:=∃T:List Nm,T.length≤n∧(∀t∈T,t.length≤65536)∧w.ownsRow base 9 1 o T.length (T.map fun t=> .string (bB t))
theorem EW.up {base n m:Nat}{o:Value}{w:World}(h:EW base n o w)(hm:n≤m):EW base m o w:=by
 obtain⟨T,c,a,b⟩:=h;exact⟨T,by omega,a,b⟩
theorem Twin.to {F:Nat→Prop}{w w':World}{base p b q qb:Nat}{qv:Value}{c c':Nat}{d d2 ds:Ds}(h:Twin F w base p b q qb qv c d d2)(l:mC w q qb qv c' ds w'):∃g,Twin F w' base p b q qb g c' d ds∧ah (fun i=>¬F i) w w':=by
 obtain⟨v',j,k,a⟩:=l;have f:∀i,QS q v' i→QS q qv i∨w.heap.size≤i:=fun i hi=>by
  rcases hi with hi|hi
  ·exact .inl (.inl hi)
  ·exact(k i hi).imp .inr id
 have pl:=h.pd.lt;refine⟨v',⟨h.pd.kept a h.ap.1 h.ap.2,j,⟨fun e=>?_,fun e=>?_⟩,fun i hi=>⟨(h.fp i hi).1,(h.fp i hi).2.1,fun e=>?_,eU (h.fp i hi).2.2.2 a.size⟩,h.hp,aU h.hb a.size⟩,a.mono (fun i _ hi e=>(h.fp i e).2.2.1 hi)⟩
 ·rcases f _ e with e|e
  ·exact h.ap.1 e
  ·omega
 ·rcases f _ e with e|e
  ·exact h.ap.2 e
  ·omega
 ·rcases f _ e with e|e
  ·exact(h.fp i hi).2.2.1 e
  ·have:=(h.fp i hi).2.2.2;omega
theorem Twin.up {F:Nat→Prop}{w:World}{base p b q qb:Nat}{qv:Value}{c c':Nat}{d d2:Ds}(h:Twin F w base p b q qb qv c d d2)(hc:c≤c'):Twin F w base p b q qb qv c' d d2:=
 ⟨h.pd,h.qd.up hc,h.ap,h.fp,h.hp,h.hb⟩
def VB (F:Nat→Prop)(w1 w:World)(base p b q qb:Nat)(dS:Ds)(k:Nat):Prop:=
 ah (fun i=>¬F i) w1 w∧∃qv,Twin F w base p b q qb qv (100000*k) dS (si (dS.fs.take k) Ds.new)
theorem UZ {w:World}{q base:Nat}(h:w.heap[q]?=some (.cells #[.slice none 0 0,.bool false,qI 0,.bool false] 73 (0,0)))(hb:base≤w.heap.size):nS w q base (.slice none 0 0) 0 Ds.new:=
 ⟨[],false,0,⟨h,cJ _ _ _ _,(fun _ e=>by cases e),by simp,hb⟩,rfl,⟨by simp[dn,dI],(fun _ e=>by cases e),(fun _ e=>by cases e),(fun _ e=>by cases e)⟩,.inl ⟨rfl,by decide,by decide⟩⟩
theorem ledgerOdd.walk (w:World)(ia:Value)(L:List Rc)(s:ByteArray)(hv:aW gu w ia L)(bD:∀x∈L,aW bN w x.v x.r.ids)(gX:Laid w w.heap.size):
 Calls prog 5 #[ia,.string s] w fun e W'=>e= .returned (.bool true)∧ah No w W':=by
 obtain⟨i0,hi,eA,eB,eC⟩:=fR Tryz.mN;obtain⟨va,vc,rfl⟩:=aW.slice hv;have iD:=hv.len;have dG:=af gX;have iu:=af hv;have iw:=af bD;clear gX hv bD;(go_enter func5,ntmps5);(go_wp2_with fail);refine(Kl w).mono ?_;rintro e w1 ⟨rfl,dZ,cK⟩;have cZ:=af cK;have S:=cK.size;have eU:=af dZ;obtain⟨b,hb⟩:=ay (w.heap.size);have eT:aj (w.heap.size≤b∧w.heap.size≤b+1):=af ⟨by omega,by omega⟩;rw[←hb]at eU⊢;obtain⟨p,hp⟩:=ay (b+1);rw[←hp]at eU eT⊢;clear hb hp cK dZ S;have cV:aj (Calls prog 26 #[dP p,.string ⟨#[108,101,100,103,101,114]⟩] w1 (FE w1 w.heap.size p b ⟨aR,[0],0⟩ [] Qc.2.2)):=af
  (yh (dG.o.kept cZ.o (fun _ h=>h.elim)) cZ.o.size eU.o eT.o.2 eT.o.1 aR rfl [0] UN UO _ rfl _ _ _ UQ)
 (go_wp2_with fail);refine cV.o.mono ?_;rintro e w2 ⟨l,v,ov,rfl,ez,cI,d_,fV,_,d8⟩;have bq:∀i,Two p b i→w.heap.size≤i:=fun i hi=>by have:=eT.o;rcases hi with e|e<;>omega
 have eV:aj (ah No w w2):=af (cZ.o.trans d8 (fun i hi e=>by have:=bq i e;omega));have fq:aj (kI w w2 w.heap.size l p b v ⟨aR,[0],0⟩ Qc.2.2):=af ⟨ez,jD cI cZ.o.size,fun i hi=>by
  have aS:=cZ.o.size;rcases hi with e|e|e|e
  ·omega
  ·exact bq i (.inl e)
  ·exact bq i (.inr e)
  ·have:=(cI.lt i e).1;omega,eV.o⟩
 obtain⟨bO,on,oc,rfl⟩:∃a n c,ov= .slice a n c:=by
  obtain⟨a,c,e⟩:=aq d_;exact⟨_,_,_,e⟩
 clear ez cI d_ fV d8 bq cV eU cZ;go_upto_region 4 with fail
 refine au ?_;intro B bk;obtain⟨q,c7⟩:=ay (w2.heap.size);have f_:ah No w2 B:=(by rw[bk];exact(aA w2).alloc _);have f4:w2.heap.size<B.heap.size:=(by rw[bk];simp);have gH:=af (fq.o.step f_);have dz:aj (∀i,nD l p b v i→i<w2.heap.size):=af fq.o.lt;have Q3:aj (nS B q B.heap.size (.slice none 0 0) 0 Ds.new):=af (UZ (by rw[c7,bk];exact bT w2 _) (bM _));have fC:aj (q=w2.heap.size):=af c7;have fG:=af (eV.o.aK f_);have fN:=af eV.o;rw[←c7];clear bk c7 f_ f4 fq eV;(go_wp2_with fail);refine eN ?_;intro c6 cw;obtain⟨eZ,bu⟩:=ay (B.heap.size);have h_:ah No B c6:=(by rw[cw];exact(aA B).alloc _);have A4:aj (nS c6 eZ c6.heap.size (.slice none 0 0) 0 Ds.new):=af (UZ (by rw[bu,cw];exact bT B _) (bM _));have gK:aj (ah No B c6):=af h_;have dK:aj (eZ=B.heap.size):=af bu;rw[←bu];clear cw bu h_;refine(sP c6).mono ?_;rintro e ic ⟨rfl,gb⟩;have A5:=af (A4.o.no gb);have fH:=af (gK.o.aK gb);clear gb A4 gK;obtain⟨iO,d0,dY,_,_⟩:=MV zS;have CR:aj (Calls prog 27 #[dP eZ,D8 zS] ic (J8 ic w.heap.size eZ c6.heap.size (.slice none 0 0) (0+70000) (0,some iO,d0))):=af (by
  rw[←dY];exact yR A5.o (aU fG.o.size fH.o.size) zS Hw [0] UN UO _ _ _ UQ (by decide) (by decide) (fun t aG=>by cases aG) (by decide) (by decide))
 clear dY;(go_wp2_with fail);refine CR.o.mono ?_;rintro e I ⟨iR,rfl,Q⟩;have eW:aj (ah No B I):=af (fH.o.trans Q.kp (fun i hi e=>by
  have:=dK.o;rcases e with e|e
  ·omega
  ·cases e))
 have dx:=af (gH.o.step eW.o);have gN:=af (Q3.o.no eW.o);have bX:=af (fG.o.aK eW.o);have bZ:aj (∀i,nD l p b v i→i<I.heap.size):=af dx.o.lt;have fD:aj (w.heap.size≤q):=af (by have aS:=fC.o;have dW:=fN.o.size;omega);have aZ:aj (q<I.heap.size∧∀i,nD l p b v i→i≠q):=af ⟨gN.o.lt (.inl rfl),fun i hi e=>by
  have aS:=dz.o i hi;have dW:=fC.o;omega⟩
 clear Q CR A5 fH gH Q3 fG eW dK fC dz;go_wp2_with fail
 go_loopw [12,13] (fun o n wr=>∃k:Nat,k≤20∧n=qI k∧EW I.heap.size k o wr∧ah No I wr) (fun _ n _=>20-(intOf n).toNat)
 case atStart=>exact⟨0,by omega,rfl,⟨[],aX _,(fun t aG=>by cases aG),cJ _ _ _ _⟩,aA _⟩
 case round=>
  obtain⟨k,iI,rfl,aT,hK⟩:=hrel;have iJ:(0:Int)≤(k:Int):=(by omega);have iq:=af aT;have dF:=af hK;by_cases m:k<L.length∧k<20
  ·obtain⟨m,iB⟩:=m;have d6:(k:Int)<(L.length:Int):=(by omega);have gW:(k:Int)<20:=(by omega);have cN:aW gu wr (.slice va L.length vc) L:=(iu.o.kept bX.o (fun _ _ h=>h)).kept hK (fun _ _ h=>h);obtain⟨g,off,rfl,_,_,lg⟩:=aW.addr gu cN (by omega);have gP:ai wr g (off+k*21) 21=some (fS L[k].r L[k].v):=aW.at gu cN k m;have cP:=iw.o L[k] (dw m);obtain⟨x,bD⟩:=ay (L[k]);rw[←bD]at gP cP;obtain⟨T,t1,t2,t3⟩:=aT;obtain⟨bO,oc,rfl⟩:=aq t3;obtain⟨eS,ct⟩:=ay ((dQ x.r).1);obtain⟨fe,cu⟩:=ay ((dQ x.r).2);have CE:aj (Calls prog 10 #[oM x.r x.v] wr (qG wr ((.tuple #[.string (bB eS),qI fe])))):=af (by
    rw[ct,cu];exact ux wr x.r x.v ((cP.kept bX.o (fun _ _ h=>h)).kept hK (fun _ _ h=>h)))
   have E:=af (And.intro t1 t2);have dH:=af t3;have fA:=af (And.intro ct cu);clear cN cP bD t1 t2 t3 ct cu hK;(go_wp2_with fail);refine CE.o.mono ?_;rintro e ig ⟨rfl,gi⟩;have fJ:=af (dF.o.aK gi);have bS:=af (gi.mM dH.o);clear gi gP CE dH;cases hm:cH x.r with
   |false=>
    have cE:fe=1:=(by rw[fA.o.2];unfold dQ;rw[hm];rfl);subst cE;have dL:aj (EW I.heap.size (k+1) (.slice bO T.length oc) ig):=af ⟨T,by have:=E.o.1;omega,E.o.2,bS.o⟩;go_wp2;go_roundw
    case rel=>exact⟨k+1,by omega,by go_num,dL.o,fJ.o⟩
    case measure=>simp[intOf];omega
   |true=>
    have cE:fe=0:=(by rw[fA.o.2];unfold dQ;rw[hm];rfl);subst cE;have fB:aj (eS.length≤65536):=af (by
     have:=K0 hm;rw[fA.o.1];unfold dQ;rw[hm];show(eF x.r).length≤65536;omega)
    have cO:(T.length:Int)≤20:=(by have:=E.o.1;omega);(go_wp2_with (at_builtin;refine xU _ rfl _ _ 67 rfl I.heap.size 9 i0 (.string ⟨#[]⟩) 1 16 underlying67 hi eA eB eC rfl (by decide) _ _ _ rfl (bS.o.alloc _) ⟨ig.heap.size,0,none⟩ 1 1 [.string (bB eS)] rfl rfl (oF _ _ _) (by simp[Value.oneCell']) (by unfold maxLen;omega) (by omega) (by have:=fJ.o.size;simp;omega) ?_;intro v' eP A av _));have dL:aj (EW I.heap.size (k+1) v' eP):=af ⟨T++ [eS],by rw[cr,gZ];have:=E.o.1;omega,fun t aG=>by
     rcases fQ.1 aG with e|e
     ·exact E.o.2 t e
     ·rw[dA.1 e];exact fB.o,by
     rw[cr,gZ,fI,wR];exact A⟩
    have fK:aj (ah No I eP):=af ((fJ.o.alloc _).grown av (fun i hi m=>absurd m (bY.2 (bS.o.lt i hi).1)));clear A av;go_wp2;go_roundw
    case rel=>exact⟨k+1,by omega,by go_num,dL.o,fK.o⟩
    case measure=>simp[intOf];omega
  ·have cA:¬((k:Int)<(L.length:Int))∨((k:Int)<(L.length:Int)∧¬((k:Int)<20)):=by
    by_cases aS:k<L.length
    ·right;constructor<;>omega
    ·left;omega
   have bV:=af (aT.up iI);clear aT hK iq m;rcases cA with aS|⟨aS,dW⟩
   all_goals
    obtain⟨tb,eu⟩:=ay ((decide (¬s.toList= [])&&decide ((s.size:Int)<1000)):Bool);have bf:=af eu;clear eu;go_upto_region 14 with fail
    go_cut [80] (fun(v:Value) (wx:World)=>v= .bool tb∧wr=wx)
    case first=>
     by_cases aF:s.toList= []
     ·have hb:tb=false:=(by rw[bf.o];simp[aF]);go_wp2;go_meet;exact⟨by rw[hb];try simp[aF],rfl⟩
     ·by_cases S:(s.size:Int)<1000
      ·have hb:tb=true:=(by rw[bf.o,aM aF,aM S];rfl);go_wp2;go_meet;exact⟨by rw[hb];try simp[aF],rfl⟩
      ·have hb:tb=false:=(by rw[bf.o,aJ S,jR]);go_wp2;go_meet;exact⟨by rw[hb];try simp[aF],rfl⟩
    obtain⟨rfl,rfl⟩:=hcut;go_upto_if 80 with fail
    go_cut [12] (fun(o:Value) (wx:World)=>EW I.heap.size 21 o wx∧ah No I wx)
    case first=>
     obtain⟨T,t1,t2,t3⟩:=bV.o;obtain⟨bO,oc,rfl⟩:=aq t3;have dH:=af t3;have E:=af (And.intro t1 t2);have fE:aj (EW I.heap.size 21 (.slice bO T.length oc) wr):=af (bV.o.up (by decide));clear t1 t2 t3;cases tb with
     |false=>
      go_wp2;go_meet;exact⟨fE.o,dF.o⟩
     |true=>
      have S:(s.size:Int)<1000:=by
       have h:=bf.o.symm;rw[mE]at h;exact wY h.2
      have cO:(T.length:Int)≤20:=(by have:=E.o.1;omega);have eY:s.data.toList.length≤65536:=by
       have eY:s.size≤65536:=by omega
       simpa using eY
      have gJ:aj (s.data.toList.length≤65536∧bB s.data.toList=s):=af ⟨eY,by cases s;simp[bB]⟩;clear eY;clear S;(go_wp2_with (at_builtin;refine xU _ rfl _ _ 67 rfl I.heap.size 9 i0 (.string ⟨#[]⟩) 1 16 underlying67 hi eA eB eC rfl (by decide) _ _ _ rfl (dH.o.alloc _) ⟨wr.heap.size,0,none⟩ 1 1 [.string s] rfl rfl (oF _ _ _) (by simp[Value.oneCell']) (by unfold maxLen;omega) (by omega) (by have:=dF.o.size;simp;omega) ?_;intro v' eP A av _));have dL:aj (EW I.heap.size 21 v' eP):=af ⟨T++ [s.data.toList],by rw[cr,gZ];have:=E.o.1;omega,fun t aG=>by
       rcases fQ.1 aG with e|e
       ·exact E.o.2 t e
       ·rw[dA.1 e];exact gJ.o.1,by
       rw[cr,gZ,fI,wR,gJ.o.2];exact A⟩
      have fK:aj (ah No I eP):=af ((dF.o.alloc _).grown av (fun i hi m=>absurd m (bY.2 (dH.o.lt i hi).1)));clear A av;go_wp2;go_meet;exact⟨dL.o,fK.o⟩
    case rest=>
     obtain⟨gD,f7⟩:=ay (wc);subst f7;obtain⟨⟨T,t1,t2,t3⟩,cv⟩:=hcut;obtain⟨bO,oc,rfl⟩:=aq t3;obtain⟨g',d1,dS,there,g2,d2,aB⟩:=P7 T t2 (by omega);have N:=af aB;have cO:T.length≤21:=t1;have X:aj (T.length≤21∧∀t∈T,t.length≤65536):=af ⟨t1,t2⟩;have aE:jg gD (.slice bO T.length oc) (T.map bB):=by
      have h:=Reads.fu t3 (by intro u hu;obtain⟨t,_,rfl⟩:=jq.1 hu;rfl);unfold jg;rw[eE,nY];exact h
     have ij:=af (dx.o.step cv);have dc:aj (Calls prog 29 #[dP l,.slice bO T.length oc] gD fun e w'=>e= .returned (qI 0)∧(∃v',kI w w' w.heap.size l p b v' g' d1)∧ah (nD l p b v) gD w'):=af
      (ij.o.Iw dG.o (bM _) (.slice bO T.length oc) (T.map bB) aE (fun i hi e=>by have aS:=(t3.lt i hi).1;have dW:=bZ.o i e;omega) (by rw[eE];show 0+_≤_;omega) (by rw[eE];show 1+_≤_;omega) 0 g' d1 aB.ap)
     have gM:=af cv;clear t1 t2 t3 aB aE cv bV dF cO;(go_wp2_with fail);refine dc.o.mono ?_;rintro e gB ⟨rfl,⟨v9,dX⟩,d9⟩;have dh:aj (Calls prog 30 #[dP l] gB fun e w'=>e= .returned (qI 0)∧kI w w' w.heap.size l p b v9 g' dS∧ah (Two p b) gB w'):=af (dX.NA dG.o 0 dS N.o.sy);have gL:aj (ah (nD l p b v) I gB):=af ((gM.o.mono (fun _ _ h=>h.elim)).aK d9);clear dX d9 dc gM;(go_wp2_with fail);refine dh.o.mono ?_;rintro e eM ⟨rfl,ak,bJ⟩;have bg:aj (ah (nD l p b v) I eM):=af (gL.o.trans bJ (fun i _ e=>by rcases e with e|e;exact .inr (.inl e);exact .inr (.inr (.inl e))))
     have dn:=af ak;have gE:=af (o4 ak.log.disk);clear ak bJ dh gL;(go_wp2_with fail);refine gE.o.mono ?_;rintro e aN ⟨fv,rfl,bp,d⟩;have Y:aj (ah No w aN):=af ((bX.o.trans bg.o (fun i hi e=>by have:=dx.o.new i e;omega)).aK d);have b_:aj (Twin (fun i=>i<w.heap.size∨fv.ownBlock=some i) aN w.heap.size p b q B.heap.size (.slice none 0 0) 0 dS Ds.new):=af (by
      have aD:∀i,QS q (.slice none 0 0) i→i=q:=fun i hi=>by
       rcases hi with hi|hi
       ·exact hi
       ·cases hi
      have gY:=bg.o.size;have g_:=d.size;have iN:=aZ.o.1;have iM:=bZ.o p (.inr (.inl rfl));have iF:=bZ.o b (.inr (.inr (.inl rfl)));have fZ:=aZ.o.2 p (.inr (.inl rfl));have fU:=aZ.o.2 b (.inr (.inr (.inl rfl)));have fW:=dx.o.new p (.inr (.inl rfl));have fT:=dx.o.new b (.inr (.inr (.inl rfl)));refine⟨(dn.o.step d).log.disk,(gN.o.kept bg.o (fun i hi e=>aZ.o.2 i e (aD i hi))).no d,⟨fun e=>fZ (aD _ e),fun e=>fU (aD _ e)⟩,fun i hi=>?_,⟨fW,fT⟩,Y.o.size⟩;have iL:=Y.o.size;rcases hi with hi|hi
      ·exact⟨by omega,by omega,fun e=>by have:=aD _ e;have:=fD.o;omega,by omega⟩
      ·have aS:=bp.lt i hi;exact⟨by omega,by omega,fun e=>by have:=aD _ e;omega,aS.2⟩)
     have dI:=af bp;have d5:dS.fs.length≤64:=N.o.few;have dB:=af d5;obtain⟨gT,gU,rfl⟩:=aq bp;have iG:(dS.fs.length:Int)≤64:=(by omega);clear bp d gE dn bg d5;(go_wp2_with fail);obtain⟨fv,bn⟩:=ay (Value.slice gT dS.fs.length gU);have dJ:aj (gG aN eM.heap.size fv dS.fs.length (bA dS.fs)):=af (by rw[bn];exact dI.o);rw[←bn]at b_;have dD:=af bn;clear bn dI
     go_loopw [17] (fun n wr=>∃k:Nat,k≤dS.fs.length∧n=qI k∧VB (fun i=>i<w.heap.size∨fv.ownBlock=some i) aN wr w.heap.size p b q B.heap.size dS k) (fun n _=>dS.fs.length-(intOf n).toNat)
     case atStart=>exact⟨0,aX _,rfl,aA _,_,b_.o⟩
     case round=>
      obtain⟨c8,f9⟩:=ay (wr);subst f9;obtain⟨j,iT,rfl,iE⟩:=hrel;obtain⟨d,qv,aT⟩:=iE;have iH:(0:Int)≤(j:Int):=(by omega);have fP:=af aT;have fM:=af d;by_cases m:j<dS.fs.length
      ·have d6:(j:Int)<(dS.fs.length:Int):=(by omega);have aE:jg c8 (.slice gT dS.fs.length gU) (dS.fs.map fun f=>bB f.1):=by
        have h:=Reads.fu (d.owns dJ.o (fun i hi e=>e (.inr hi))) (by intro u hu;obtain⟨t,_,rfl⟩:=jq.1 hu;rfl);unfold jg;rw[eE,nY];rw[dD.o]at h;unfold bA at h;rw[nY]at h;exact h
       obtain⟨gn,iz,gc,cF,_,_,iA,gV⟩:=jg.cell aE (by rw[eE];omega);rw[eE]at cF;simp only[Value.slice.injEq,true_and]at cF;obtain⟨rfl,rfl⟩:=cF;have eX:c8.cell? ⟨gn,iz+j,none⟩=some (.string (bB dS.fs[j].1)):=gV j _ (by rw[oR,fw m];rfl);have hm:dS.fs[j]∈dS.fs:=dw m;have bC:si (dS.fs.take (j+1)) Ds.new=(((si (dS.fs.take j) Ds.new).append (bB dS.fs[j].1) dS.fs[j].2.s).2.sync (bB dS.fs[j].1)).2:=by
        rw[iK m,BP]
       obtain⟨f,hf⟩:=ay (dS.fs[j]);rw[←hf]at eX hm bC;obtain⟨nb,cL⟩:=ay (bB f.1);have bU:aj (f.2.s.size≤100000):=af (N.o.sm f hm);have CR:aj (Calls prog 32 #[dP p,.string nb] c8 (qG c8 (.tuple #[.string f.2.s,qI 0]))):=af (by rw[cL];exact z6 aT.pd (bB f.1) f.2 0 (N.o.fd f hm));rw[←cL]at eX bC;have bW:=af bC;clear aE gV iA hm hf aT d bC cL;(go_wp2_with fail);refine CR.o.mono ?_;rintro e cT ⟨rfl,bE⟩;have cg:=af (fP.o.no bE);have dM:aj (ah (fun i=>¬(i<w.heap.size∨fv.ownBlock=some i)) aN cT):=af (fM.o.mS bE);have bH:=bE.cB eX;obtain⟨⟨gQ,da⟩,cC⟩:∃y,y=(si (dS.fs.take j) Ds.new).append nb f.2.s:=⟨_,rfl⟩;have dc:aj (Calls prog 33 #[dP q,.string nb,.string f.2.s] cT fun e w'=>e= .returned (qI gQ)∧mC cT q B.heap.size qv (100000*j+f.2.s.size) da w'):=af
        (rY cg.o.qd nb f.2.s (by have:=bU.o;have:=dB.o;omega) (by have:=bU.o;omega) gQ da cC.symm)
       rw[←cC]at bW;clear bE eX CR fP fM cC;(go_wp2_with fail);refine dc.o.mono ?_;rintro e eO ⟨rfl,bK⟩;obtain⟨gj,VD,cQ⟩:=cg.o.to bK;have dN:=af (dM.o.aK cQ);have dV:=cQ.cell bH (fun e=>e (.inr (by rw[dD.o];rfl)));obtain⟨⟨gS,db⟩,cD⟩:∃y,y=da.sync nb:=⟨_,rfl⟩;have dO:=af VD;have dh:aj (Calls prog 34 #[dP q,.string nb] eO fun e w'=>e= .returned (qI gS)∧mC eO q B.heap.size gj (100000*j+f.2.s.size) db w'):=af (sN VD.qd nb gS db cD.symm);have bF:aj (si (dS.fs.take (j+1)) Ds.new=db):=af (by rw[bW.o, ←cD]);clear bK VD cQ dc cD bH bW cg dM;(go_wp2_with fail);refine dh.o.mono ?_;rintro e gr ⟨rfl,bL⟩;obtain⟨gq,VI,eD⟩:=dO.o.to bL;have fF:=af (dN.o.aK eD);have fO:aj (Twin (fun i=>i<w.heap.size∨fv.ownBlock=some i) gr w.heap.size p b q B.heap.size gq (100000*(j+1)) dS (si (dS.fs.take (j+1)) Ds.new)):=af (by
        rw[bF.o];exact VI.up (by have:=bU.o;omega))
       clear bL VI eD dh dV dO dN bF;go_wp2;go_roundw
       case rel=>exact⟨j+1,by omega,by go_num,fF.o,_,fO.o⟩
       case measure=>simp[intOf];omega
      ·have d7:j=dS.fs.length:=(by omega);have d6:¬((j:Int)<(dS.fs.length:Int)):=(by omega);have dR:aj (Twin (fun i=>i<w.heap.size∨fv.ownBlock=some i) c8 w.heap.size p b q B.heap.size qv (100000*j) dS dS):=af (by
        have h:=aT;rw[show dS.fs.take j=dS.fs by rw[d7,jH],N.o.cp]at h;exact h)
       have gI:aj (j≤64):=af (by have:=dB.o;omega);have bG:aj (ah No w c8):=af (Y.o.trans d (fun i hi e=>e (.inl hi)));have bP:=af (fun W=>sP W);clear aT d fP fM d7 m b_;go_wp2_with fail
       (with_reducible refine(bP.o _).mono ?_)
       rintro e aO ⟨rfl,cR⟩;have J:=af (dR.o.no cR);have C:=af (bG.o.aK cR);obtain⟨⟨ec,o,cq⟩,bD⟩:∃x,x=eG zS g2 T d2:=⟨_,rfl⟩;have cV:aj (Calls prog 18 #[dP p,D8 zS] aO (EL aO w.heap.size p b (ec,o,cq))):=af (by
        have aS:=X.o.1;have dW:=N.o.nx;have iC:=N.o.fl;rw[bD];exact r8 (dG.o.kept C.o (fun _ h=>h.elim)) C.o.size J.o.pd J.o.hp.1 J.o.hp.2 zS Hw there dS N.o.th g2 T d2 N.o.en (by omega) (fun t aG=>by have:=X.o.2 t aG;omega) (by omega) (by omega))
       have aY:aj (∀W qv c,nS W q B.heap.size qv c dS→c+70000≤1000000000→w.heap.size≤W.heap.size→Calls prog 27 #[dP q,D8 zS] W (J8 W w.heap.size q B.heap.size qv (c+70000) (ec,o,cq))):=af (fun W qv c c7 hc hb=>by
        have aS:=X.o.1;have dW:=N.o.nx;have iC:=N.o.fl;rw[bD];exact yR c7 hb zS Hw there dS N.o.th g2 T d2 N.o.en hc (by omega) (fun t aG=>by have:=X.o.2 t aG;omega) (by omega) (by omega))
       have aV:=af (fun W (k:ah No w W)=>EN (dG.o.kept k (fun _ h=>h.elim)) k.size);clear bD cR dR bG N X;(go_wp2_with fail);refine cV.o.mono ?_;rintro e M aC;cases o with
       |none=>
        obtain⟨aH,bI,rfl⟩:ah (Two p b) aO M∧qN M p b cq∧e= .returned (.tuple #[.pointer none,qI ec]):=aC;obtain⟨t22,H⟩:=J.o.prog aH bI;have dU:=af t22;have F:aj (ah No w M):=af (C.o.trans H (fun i hi e=>e (.inl hi)));clear aH bI t22 H J C cV;go_wp2_with fail
        (with_reducible refine(bP.o _).mono ?_)
        rintro e aP ⟨rfl,K⟩;have cn:=af (dU.o.no K);have z:=af (F.o.aK K);have V:=af (aY.o aP qv (100000*j) cn.o.qd (by have:=gI.o;omega) z.o.size);clear K dU F aY;(go_wp2_with fail);refine V.o.mono ?_;rintro e aQ Q;obtain⟨rfl,ew⟩:e= .returned (.tuple #[.pointer none,qI ec])∧mC aP q B.heap.size qv (100000*j+70000) cq aQ:=Q;obtain⟨iP,t24,aI⟩:=cn.o.to ew;have G:aj (ah No w aQ):=af (z.o.trans aI (fun i hi e=>e (.inl hi)));have cU:=af (Dr t24.pd t24.qd);clear ew t24 aI cn z V;(go_wp2_with fail);refine cU.o.mono ?_;rintro e gy ⟨rfl,U⟩;have D:=af (G.o.aK U);clear U cU G;go_wp2_with fail
        (with_reducible refine(aV.o _ D.o).mono ?_)
        rintro e gA ⟨rfl,aL⟩;have fL:=af (D.o.aK aL);clear aL D aV;go_wp2;go_ret;exact⟨rfl,fL.o⟩
       |some ld=>
        obtain⟨aH,_,P,rfl,O⟩:ah (Two p b) aO M∧qN M p b cq∧∃P:Lp,e= .returned (.tuple #[dP P.l,qI ec])∧jB aO M w.heap.size p b P ld cq:=aC;obtain⟨VJ,H⟩:=J.o.UU aH O;have di:=af VJ;have PP:aj (P.p=p∧P.b=b):=af ⟨O.pp,O.pb⟩;have F:aj (ah No w M):=af (C.o.trans H (fun i hi e=>e (.inl hi)));clear aH O VJ H J C cV;go_wp2_with fail
        (with_reducible refine(bP.o _).mono ?_)
        rintro e aP ⟨rfl,K⟩;have bQ:=af (di.o.no K);have z:=af (F.o.aK K);have V:=af (aY.o aP qv (100000*j) bQ.o.qd (by have:=gI.o;omega) z.o.size);clear K di F aY;(go_wp2_with fail);refine V.o.mono ?_;rintro e aQ Q;obtain⟨R,rfl,cM⟩:∃R:Rl,e= .returned (.tuple #[dP R.l,qI ec])∧xO aP aQ w.heap.size q B.heap.size qv (100000*j+70000) ld cq R:=Q;obtain⟨Vc,aI⟩:=bQ.o.UW cM;have dm:=af Vc;have iy:=af cM.rq;have G:aj (ah No w aQ):=af (z.o.trans aI (fun i hi e=>e (.inl hi)));have gF:=af (J_ Vc.led Vc.ref ⟨rfl,rfl,rfl,rfl,rfl,rfl,rfl⟩);clear cM Vc aI bQ z V;(go_wp2_with fail);refine gF.o.mono ?_;rintro e gy ⟨rfl,U⟩;have bR:=af (dm.o.no U);have D:=af (G.o.aK U);have cU:=af (Dr bR.o.led.log.disk bR.o.ref.disk);rw[PP.o.1,iy.o]at cU;clear U gF dm G;(go_wp2_with fail);refine cU.o.mono ?_;rintro e gA ⟨rfl,aL⟩;have Z:=af (D.o.aK aL);clear aL cU D bR;go_wp2_with fail
        (with_reducible refine(aV.o _ Z.o).mono ?_)
        rintro e iQ ⟨rfl,eH⟩;have fL:=af (Z.o.aK eH);clear eH Z aV;go_wp2;go_ret;exact⟨rfl,fL.o⟩
end
