/- Lemmas. -/
import Derived.Test.YtpbpgjfdledgoaaGreatDoorZo45
import Derived.Test.YtpbpgjfdledgoaaGreatDoorZo16
set_option linter.all false
set_option maxRecDepth 100000
set_option maxHeartbeats 8000000
namespace Go.Proofs.YtpbpgjfdledgoaaGreatDoor
abbrev uJ (zf:Zf)(g:Lg):Ld:=⟨Dk.new zf,g,0,[],0⟩
theorem lM (zf:Zf)(g g':Lg):(uJ zf g).like (uJ zf g'):=⟨rfl,rfl,rfl⟩
structure PY (zf:Zf)(l:Ld)(d:Ds)(rs:List Lr)(A:List Sg)(z:Sg):Prop where
 live:Live aR A z l.lg d
 recs:cA (A++ [z])=rs.map eF
 sure:z.k=bK z.recs
 head:((A++ [z]).head?.map Sg.first)=some 0
 nx:z.next=rs.length
 fits:(uJ zf l.lg).fits rs
 like:((uJ zf l.lg).run rs).like l
 e:l.e=0
 sz:∀r∈rs,(eF r).length≤1300
structure UL (zf:Zf)(l:Ld)(d:Ds)(rs ex:List Lr)(A:List Sg)(z:Sg)(t:Nm)(m:Nat):Prop where
 half:QC aR A z t m d
 recs:cA (A++ [z])=(rs++ex).map eF
 sure:∃i,i≤z.recs.length∧bK (z.recs.take i)≤z.k∧rs.length≤(cA A).length+i
 head:((A++ [z]).head?.map Sg.first)=some 0
 nx:z.next=rs.length+ex.length
 fits:(uJ zf l.lg).fits (rs++ex)
 like:((uJ zf l.lg).run rs).like l
 ep:∀k,((uJ zf l.lg).run (rs++ex.take k)).ep=l.ep
 e:¬l.e=0
 sz:∀r∈rs++ex,(eF r).length≤1300
 few:ex.length≤1
 VP:l.lg.next≤200∧l.lg.aD.length≤200
theorem HF {L:List Nm}{M:Nat}(h:∀t∈L,t.length≤M):bK L≤(M+7)*L.length:=by
 induction L with
 |nil=>simp[bK]
 |cons a L ih=>
  have c:=h a (m_ ..);have d:=ih (fun t b=>h t (qQ _ b));have e:bK (a::L)=(a.length+7)+bK L:=(by simp[bK]);rw[e,g_,Nat.mul_succ];omega
theorem J4 {A:List Sg}(h:∀a∈A,4096≤bK a.recs):4096*A.length≤bK (cA A):=by
 induction A with
 |nil=>exact aX _
 |cons a A ih=>
  have c:=h a (m_ ..);have d:=ih (fun t b=>h t (qQ _ b));have e:cA (a::A)=a.recs++cA A:=(by simp[cA]);rw[e,og,g_,Nat.mul_succ];omega
theorem BM {A:List Sg}{z:Sg}{rs:List Lr}(hf:∀a∈A,4096≤bK a.recs)(b:cA (A++ [z])=rs.map eF)(hs:∀r∈rs,(eF r).length≤1300):4096*A.length≤1307*rs.length:=by
 have f:=J4 hf;have c:bK (cA (A++ [z]))=bK (cA A)+bK z.recs:=(by rw[iQ,og]);have d:bK (rs.map eF)≤(1300+7)*(rs.map eF).length:=HF (fun t e=>by obtain⟨r,b,rfl⟩:=jq.1 e;exact hs r b);rw[eE]at d;rw[b]at c;omega
theorem Dn {nm:ByteArray}{A:List Sg}{z:Sg}{g:Lg}{d:Ds}(h:Live nm A z g d):(g.sync d).1=0∧Live nm A ⟨z.first,z.recs,bK z.recs⟩ g (g.sync d).2:=by
 have a:=sD h;have b:=Good.synced h;obtain⟨w1,w2,_⟩:=xA (d:=d) g.last;unfold Lg.sync;refine⟨by rw[←w1,a],?_⟩;unfold Live;rw[←w2];exact b
theorem wD {g:Lg}{d:Ds}{L:List Nm}(h:∀t∈L,t.length≤65536):g.append d (L.map bB)=layAll (L.map bB) g d:=by
 unfold Lg.append;have:(L.map bB).any jJ=false:=by
  rw[wU];intro x b;obtain⟨t,a,rfl⟩:=jq.1 b;have:=h t a;simp[jJ,jW];omega
 rw[this];rfl
def xM (n:Nat)(A:List Sg)(z:Sg):Prop:=∃i,i≤z.recs.length∧bK (z.recs.take i)≤z.k∧n≤(cA A).length+i
theorem xM.all {A:List Sg}{z:Sg}(h:z.k=bK z.recs):xM (cA (A++ [z])).length A z:=
 ⟨z.recs.length,bM _,by rw[jH,h];exact bM _,by rw[iQ,cr];exact bM _⟩
theorem xM.nF {n:Nat}{A:List Sg}{z:Sg}(h:xM n A z)(t:Nm):xM n (nF A z t).1 (nF A z t).2:=by
 obtain⟨i,a,b,c⟩:=h;unfold Go.Proofs.YtpbpgjfdledgoaaGreatDoor.nF;cases decide (bK z.recs<4096)
 ·refine⟨0,aX _,by simp[bK],?_⟩;simp only[cond_false];rw[iQ,cr];simp only;omega
 ·refine⟨i,?_,?_,c⟩
  ·simp only[cond_true,List.length_append];omega
  ·simp only[cond_true];rw[List.take_append_of_le_length a];exact b
theorem xM.D2 {n:Nat}{A:List Sg}{z:Sg}(h:xM n A z):xM n (D2 A z).1 (D2 A z).2:=by
 obtain⟨i,a,b,c⟩:=h;unfold Go.Proofs.YtpbpgjfdledgoaaGreatDoor.D2;cases decide (bK z.recs<4096)
 ·refine⟨0,aX _,by simp[bK],?_⟩;simp only[cond_false];rw[iQ,cr];simp only;omega
 ·exact⟨i,a,b,c⟩
theorem PZ (A:List Sg)(z:Sg):(D2 A z).2.next=z.next:=by
 unfold D2;cases decide (bK z.recs<4096)
 ·show z.next+0=z.next;rfl
 ·rfl
theorem MR (A:List Sg)(z:Sg):((D2 A z).1++ [(D2 A z).2]).head?.map Sg.first=(A++ [z]).head?.map Sg.first:=by
 unfold D2;cases decide (bK z.recs<4096)
 ·cases A<;>rfl
 ·rfl
theorem yQ {nm:ByteArray} :∀(L:List Nm) {A:List Sg}{z:Sg}{g:Lg}{d:Ds}{n:Nat},Live nm A z g d→xM n A z→(∀t∈L,t.length≤65536)→z.next+L.length≤1000000→A.length+L.length≤62→
 (∃A' a g' b,layAll (L.map bB) g d=(0,g',b)∧Live nm A' a g' b∧xM n A' a∧cA (A'++ [a])=cA (A++ [z])++L∧a.next=z.next+L.length∧(A'++ [a]).head?.map Sg.first=(A++ [z]).head?.map Sg.first)∨
 (∃A' a g' b t m k,k<L.length∧layAll (L.map bB) g d=(12,g',b)∧b.dead=true∧QC nm A' a t m b∧xM n A' a∧cA (A'++ [a])=cA (A++ [z])++L.take k∧a.next=z.next+k∧(A'++ [a]).head?.map Sg.first=(A++ [z]).head?.map Sg.first∧g'.next≤z.next+L.length∧g'.aD.length≤A.length+1+L.length)
 | [],A,z,g,d,n,h,hs,_,_,_=> .inl ⟨A,z,g,d,rfl,h,hs,by simp,by simp,rfl⟩
 |t::L,A,z,g,d,n,h,hs,hl,hn,o=>by
  simp only[List.length_cons]at hn o;rcases NQ h t (hl t (m_ ..)) (by omega) (by omega)with⟨g1,d1,e1,f⟩|⟨m,d1,e1,f,l⟩
  ·have e2:layAll ((t::L).map bB) g d=layAll (L.map bB) g1 d1:=by
    show(bif (g.lay d (bB t)).1==0 then layAll (L.map bB) (g.lay d (bB t)).2.1 (g.lay d (bB t)).2.2 else g.lay d (bB t))=_
    rw[e1];rfl
   rw[e2];have hlen:=FN A z t;rcases yQ L f (hs.nF t) (fun x p=>hl x (qQ _ p)) (by rw[o8];omega) (by omega)with⟨A',a,g',b,c,a2,a3,a4,a5,e⟩|⟨A',a,g',b,t',q,k,a0,c,a2,a3,a4,a5,e,i,j,a9⟩
   ·exact .inl ⟨A',a,g',b,c,a2,a3,by rw[a4,xw,eY];rfl,by rw[a5,o8,g_];omega,by rw[e,um]⟩
   ·exact .inr ⟨A',a,g',b,t',q,k+1,by rw[g_];omega,c,a2,a3,a4,by rw[a5,xw,eY];rfl,by rw[e,o8];omega,by rw[i,um],by rw[o8]at j;rw[g_];omega,by rw[g_];omega⟩
  ·refine .inr ⟨_,_,g,d1,t,m,0,by rw[g_];omega,?_,f,l,hs.D2,by rw[NP];simp,by rw[PZ];rfl,MR A z,by rw[h.g];show z.next≤_;omega,by rw[h.g];show((A++ [z]).map Sg.first).length≤_;rw[eE,cr,gZ,g_];omega⟩;show(bif (g.lay d (bB t)).1==0 then layAll (L.map bB) (g.lay d (bB t)).2.1 (g.lay d (bB t)).2.2 else g.lay d (bB t))=_
   rw[e1];rfl
theorem Ld.P0 (l:Ld)(r:Lr):(l.fold r).2.e=l.e:=by
 unfold Ld.fold;cases decide (r.k=1)
 ·cases decide (r.k=2)
  ·cases decide (r.k=3)
   ·cases decide (r.k=4)<;>rfl
   ·rfl
  ·rfl
 ·cases decide (r.n=l.ep+1)<;>rfl
theorem Ld.J5:∀(rs:List Lr) (l:Ld),(l.run rs).lg=l.lg∧(l.run rs).e=l.e
 | [],_=>⟨rfl,rfl⟩
 |r::rs,l=>by
  obtain⟨a,b⟩:=Ld.J5 rs (l.fold r).2;exact⟨a.trans (l.EK r),b.trans (l.P0 r)⟩
theorem J6 {zf:Zf}{l:Ld}{d:Ds}{rs:List Lr}{A:List Sg}{z:Sg}(h:PY zf l d rs A z)(ns:List Lr)(hf:l.fits ns)(hs:∀r∈ns,(eF r).length≤1300)(hn:rs.length+ns.length≤150)(E:ns.length≤2)
 (u:∀k,k<ns.length→(l.run (ns.take k)).ep=l.ep):
 (∃A' b,(l.write d ns).1=0∧PY zf (l.write d ns).2.1 (l.write d ns).2.2 (rs++ns) A' b)∨
 (∃k A' b t m,k<ns.length∧(l.write d ns).2.2.dead=true∧¬(l.write d ns).1=0∧UL zf (l.write d ns).2.1 (l.write d ns).2.2 rs (ns.take k) A' b t m):=by
 have hA:=BM (fun a y=>(h.live.full a y).1) h.recs h.sz;have g:xM rs.length A z:=by
  have:=xM.all (A:=A) h.sure;rw[h.recs,eE]at this;exact this
 have o:∀t∈ns.map eF,t.length≤65536:=fun t B=>(by obtain⟨r,n,rfl⟩:=jq.1 B;have:=hs r n;omega);have i:l.lg.append d (gS ns)=layAll ((ns.map eF).map bB) l.lg d:=by
  rw[qy ns (Ld.BH ns hf)];exact wD o
 have f:(uJ zf l.lg).fits (rs++ns):=(Ld.oC rs ns _).2 ⟨h.fits,Ld.pO ns (l:=l) ⟨h.like.1.symm,h.like.2.1.symm,h.like.2.2.symm⟩ hf⟩;have c:∀r∈rs++ns,(eF r).length≤1300:=fun r n=>by rcases fQ.1 n with e|e;exact h.sz r e;exact hs r e
 rcases yQ (ns.map eF) h.live g o (by rw[h.nx,eE];omega) (by rw[eE];omega)with⟨A',b,g',s,p,a2,a3,a4,a5,q⟩|⟨A',b,g',s,t,m,k,a0,p,a2,a3,a4,a5,q,x,w,a9⟩
 ·refine .inl ⟨A',⟨b.first,b.recs,bK b.recs⟩,?_⟩;obtain⟨s1,s2⟩:=Dn a2;have hw:l.write d ns=(0,Ld.run ⟨l.dk,g',l.ep,l.cmds,0⟩ ns,(g'.sync s).2):=Ld.wk (by rw[Ld.EA (by rw[i,p]),s1]);rw[hw];obtain⟨C,D⟩:=Ld.J5 ns (⟨l.dk,g',l.ep,l.cmds,0⟩:Ld);refine⟨rfl,?_,?_,rfl,?_,?_,?_,?_,D,c⟩
  ·rw[C];exact s2
  ·rw[iQ,fI, ←h.recs, ←a4,iQ]
  ·rw[←h.head, ←q];cases A'<;>rfl
  ·show b.first+b.recs.length=_;have e:b.first+b.recs.length=z.next+(ns.map eF).length:=a5;rw[e,h.nx,cr,eE]
  ·exact Ld.pO _ (lM zf l.lg _) f
  ·rw[Ld.uI];refine Ld.kQ ns ?_;have hl:=Ld.kQ rs (lM zf (Ld.run ⟨l.dk,g',l.ep,l.cmds,0⟩ ns).lg l.lg);exact⟨hl.1.trans h.like.1,hl.2.1.trans h.like.2.1,hl.2.2.trans h.like.2.2⟩
 ·refine .inr ⟨k,A',b,t,m,?_⟩;rw[eE]at a0;have hw:l.write d ns=(12,⟨l.dk,g',l.ep,l.cmds,12⟩,s):=Ld.rX (Ld.JQ (by rw[i,p]) (by decide)) (by decide);rw[hw];refine⟨a0,a2,show¬(12:Int)=0 by decide,a3,?_,?_,?_,?_,?_,?_,?_,show¬(12:Int)=0 by decide,?_,?_,?_⟩
  ·rw[a5,h.recs,fI,List.map_take]
  ·exact a4
  ·rw[←h.head, ←x]
  ·rw[q,h.nx,fB,qE (by omega)]
  ·refine(Ld.oC rs _ _).2 ⟨Ld.pO _ (lM zf l.lg _) h.fits,?_⟩;have hl:=Ld.kQ rs (lM zf l.lg g');refine Ld.pO _ (l:=l) ?_ (Ld.MK hf k);exact⟨h.like.1.symm.trans hl.1,h.like.2.1.symm.trans hl.2.1,h.like.2.2.symm.trans hl.2.2⟩
  ·have hl:=Ld.kQ rs (lM zf g' l.lg);exact⟨hl.1.trans h.like.1,hl.2.1.trans h.like.2.1,hl.2.2.trans h.like.2.2⟩
  ·intro j;rw[Ld.uI,List.take_take];have hl:=Ld.kQ rs (lM zf g' l.lg);have v:((uJ zf g').run rs).like l:=⟨hl.1.trans h.like.1,hl.2.1.trans h.like.2.1,hl.2.2.trans h.like.2.2⟩;rw[(Ld.kQ (ns.take (min j k)) v).2.1];exact u _ (by omega)
  ·exact fun r n=>c r (by rcases fQ.1 n with e|e;exact fQ.2 (.inl e);exact fQ.2 (.inr (List.mem_of_mem_take e)))
  ·rw[fB];omega
  ·rw[eE]at w a9;rw[h.nx]at w;exact⟨show g'.next≤200 by omega,show g'.aD.length≤200 by omega⟩
theorem MS {zf:Zf}{h:Ds}{rs:List Lr}{A:List Sg}{d:Sg}{g':Lg}{ep:Int}(b:Good aR A d g' h)(j:cA (A++ [d])=rs.map eF)(F:d.k=bK d.recs)
 (m:(A++ [d]).head?.map Sg.first=some 0) (i:d.next=rs.length) (s:(uJ zf g').fits rs) (l:∀r∈rs,(eF r).length≤1300) (G:rs.length≤148)
 (z:((uJ zf g').run rs).ep=ep) (h0:0≤ep) (O:ep≤1000) (q:∀n:Int,(eF (bP n)).length≤1300):
 ∃(l':Ld) (p:Ds) (A':List Sg) (d:Sg),eG zf g' (rs.map eF) h=(0,some l',p)∧PY zf l' p (rs++ [bP (ep+1)]) A' d∧l'.ep=ep+1∧g'.next≤148∧g'.aD.length≤64:=by
 have B:g'.aD.headD 0=0:=by
  rw[b.g];simp only;cases hA:A++ [d]with
  |nil=>rfl
  |cons a r=>rw[hA]at m;exact nj m
 obtain⟨c,e⟩:=ay ((uJ zf g').run rs);obtain⟨y,H⟩:=Ld.J5 rs (uJ zf g');rw[←e]at y H;have f:c.ep=ep:=(by rw[e];exact z);have o:je zf g' (rs.map eF)=some c:=by
  rw[oB (x:=c) B (show Ld.replay (uJ zf g') _=some c from by rw[e];exact Ld.yP _ _ s),f,aJ (by omega)]
  rfl
 have v:PY zf c h rs A d:=⟨by rw[y];exact b.wide,j,F,m,i,by rw[y];exact s,by rw[y,e];exact Ld.like.rfl' _,H,l⟩;have K:=BM (fun a L=>(b.full a L).1) j l;have u:c.fits [bP (c.ep+1)]:=⟨uH (by omega) (by omega),by rw[Ld.BI],trivial⟩;have w:(c.write h [bP (c.ep+1)]).1=0:=by
  obtain⟨A2,z2,g2,d2,b1,I,_⟩:=yq b [eF (bP (c.ep+1))] (fun t M=>by rw[dA.1 M];have:=q (c.ep+1);omega) (by rw[i,gZ];omega) (by rw[gZ];omega);have J:c.lg.append h (gS [bP (c.ep+1)])=(0,g2,d2):=by
   rw[qy _ (Ld.BH _ u),y];exact b1
  rw[Ld.wk (d1:=(g2.sync d2).2) (g:=g2) (by rw[Ld.EA J,(Dn I.wide).1])]
 rcases J6 v [bP (c.ep+1)] u (fun r E=>by rw[dA.1 E];exact q _) (by rw[gZ];omega) (by simp) (fun N C=>by
  have:N=0:=(by simpa using C);rw[this];rfl)with⟨A2,z2,w1,w2⟩|⟨_,_,_,_,_,_,_,w1,_⟩
 ·refine⟨(c.write h [bP (c.ep+1)]).2.1,(c.write h [bP (c.ep+1)]).2.2,A2,z2,?_,by rw[show bP (ep+1)=bP (c.ep+1)by rw[f]];exact w2,?_,?_,?_⟩
  ·unfold eG;rw[o];simp only;rw[aM w];rfl
  ·have D:((uJ zf (c.write h [bP (c.ep+1)]).2.1.lg).run rs).like c:=(by rw[e];exact Ld.kQ _ (lM zf _ _));rw[←w2.like.2.1,Ld.uI,(Ld.kQ [bP (c.ep+1)] D).2.1];show(c.fold (bP (c.ep+1))).2.ep=ep+1;rw[Ld.BI];show c.ep+1=ep+1;rw[f]
  ·rw[b.g];show d.next≤148;omega
  ·rw[b.g];show((A++ [d]).map Sg.first).length≤64;rw[eE,cr,gZ];have:=b.few;omega
 ·exact absurd w w1
theorem MU (n:Int):(eF (bP n)).length≤1300:=by
 show(aG 1++aG n).length≤1300;have a:=aP 1;have b:=aP n;rw[cr];omega
theorem BN:∀l:List cO,(l.flatMap aO).length≤27*l.length
 | []=>by simp
 |a::l=>by
  have b:=c6 a;have c:=BN l;rw[wW,cr,g_];omega
def UM (zf:Zf)(l:Ld)(d:Ds)(rs:List Lr):Prop:=(∃A z,PY zf l d rs A z)∨∃ex A z t m,UL zf l d rs ex A z t m
section
variable {zf:Zf}{l:Ld}{d:Ds}{rs:List Lr}
end
def UN:Ds:=(gQ Ds.new aR).2.2
theorem UO:gQ Ds.new aR=(0,[0],UN):=by kernel_rfl
def Qc:Lg×List Nm×Ds:=mJ aR [0] (kH aR [0] UN)
theorem UQ:mJ aR [0] (kH aR [0] UN)=(⟨aR,[0],0⟩,[],Qc.2.2):=by kernel_rfl
theorem KZ:Good aR [] ⟨0,[],0⟩ ⟨aR,[0],0⟩ Qc.2.2 where
 g:=rfl
 fs:=by kernel_rfl
 dead:=by kernel_rfl
 room:=by
  rw[show Qc.2.2.room=4611686018427387904 by kernel_rfl];decide
 up:=by simp
 lim:=by decide
 SZ:=by decide
 P_:=by decide
 few:=by decide
 full:=fun a c=>by cases c
 zs:=by decide
 short:=fun s hs X t h=>by
  have:s=⟨0,[],0⟩:=(by simpa using hs);rw[this]at h;cases X<;>cases h
 link:=trivial
 rl:=fun s hs t b=>by
  have:s=⟨0,[],0⟩:=(by simpa using hs);rw[this]at b;cases b
 zk:=by decide
theorem MV (zf:Zf):∃l' a,eG zf ⟨aR,[0],0⟩ [] Qc.2.2=(0,some l',a)∧UM zf l' a [bP 1]∧l'.ep=1:=by
 obtain⟨l',a,A',c,e1,e2,e3,_,_⟩:=MS (zf:=zf) (rs:= []) (ep:=0) KZ rfl (by decide) rfl rfl trivial (fun r b=>by cases b) (by decide) rfl (by decide) (by decide) MU;exact⟨l',a,e1,.inl ⟨A',c,e2⟩,e3⟩
