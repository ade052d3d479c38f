/- Lemmas. -/
import Derived.Test.YtpbpgjfdledgoaaGreatDoorZo36
import Derived.Test.YtpbpgjfdledgoaaGreatDoorZo43
set_option linter.all false
set_option maxRecDepth 100000
set_option maxHeartbeats 8000000
namespace Go.Proofs.YtpbpgjfdledgoaaGreatDoor
open Go.Proofs.Tryz
open Go.RowKit Go.Shelf Go.Sort Go.Joins Go.Deep
abbrev wB (x:Rc):List Value:=fS x.r x.v
def Rc.zero:Rc:=⟨Lr.zero,none,0,0⟩
theorem Tryz.RD:(prog.info? 30).map (fun i=>(i.zero,i.size,i.bytes))=some (some (.agg (wB Rc.zero).toArray),21,184):=by kernel_rfl
theorem MJ {w':World}{base g G n p:Nat}{l:List Rc}{b:Rc}{X:List Value}(hn:n=l.length)(hp:p<n)(hb:base≤g)(a:n+1≤G)(c:G≤maxLen)(d:X.length=G*21)(e:X.take ((n+1)*21)=rowsOf gu (l.take p)++(wB b++rowsOf gu (l.drop p)))
 (h:w'.heap[g]?=some (.cells X.toArray 30 (0,0))):aI gu 30 w' base (.slice (some ⟨g,0,none⟩) (n+1) G) (l.take p++b::l.drop p):=by
 have hl:(l.take p++b::l.drop p).length=n+1:=(by simp;omega);refine⟨by rw[bV],.inr ⟨g,G,X.toArray,by rw[hl],hb,h,by rw[hl];exact a,c,by simpa [gu]using d,?_⟩⟩;rw[hl,bE,dJ];exact e
theorem Hq (w:World)(base g cap p:Nat)(l:List Rc)(d:aI gu 30 w base (.slice (some ⟨g,0,none⟩) l.length cap) l)(hl:l.length≤1000)(hp:p<l.length)(c:cap<l.length+1)(vb:Nat)(b:Rc)(hb:w.heap[vb]?=some (.cells (wB b).toArray 30 (0,0)))(q:base≤w.heap.size):
 Calls prog 77 #[.slice (some ⟨g,0,none⟩) l.length cap,qI p,.slice (some ⟨vb,0,none⟩) 1 1] w fun e w'=>
  ∃G,e= .returned (.slice (some ⟨w.heap.size,0,none⟩) (l.length+1) G)∧aI gu 30 w' base (.slice (some ⟨w.heap.size,0,none⟩) (l.length+1) G) (l.take p++b::l.drop p)∧ah No w w':=by
 obtain⟨i0,hi,aH,F,Y⟩:=fR Tryz.RD;have aP:aW gu w (.slice (some ⟨g,0,none⟩) l.length cap) l:=d.reads;have s:l.length≤cap:=by
  obtain⟨_,⟨he,_⟩|⟨g',K,cur,he,_,_,aL,_⟩⟩:=d
  ·cases he
  ·simp only[Value.slice.injEq]at he;omega
 have S:g<w.heap.size:=by
  obtain⟨_,⟨he,_⟩|⟨g',K,cur,he,_,aZ,_⟩⟩:=d
  ·cases he
  ·simp only[Value.slice.injEq,Option.some.injEq,Addr.mk.injEq,and_true,true_and]at he;obtain⟨rfl,_⟩:=he;exact(bX.1 aZ).1
 have W:vb<w.heap.size:=(bX.1 hb).1;obtain⟨n,hn⟩:=ay (l.length);have a:∀j v,(rowsOf gu l)[j]?=some v→w.cell? ⟨g,j,none⟩=some v:=fun j v f=>by
  obtain⟨b',off,c',he,_,_,_,bB⟩:=Reads.addr aP (by have:=(eC.1 f).1;omega);simp only[Value.slice.injEq,Option.some.injEq,Addr.mk.injEq,and_true,true_and]at he;obtain⟨⟨rfl,rfl⟩,_⟩:=he;have:=bB j v f
  rwa [jI]at this
 rw[←hn]at hl hp c s⊢;have u:(rowsOf gu (l.take p)).length=p*21:=(by rw[bV,fB, ←hn,qE (by omega)];rfl);have E:=oo gu l p;rw[show gu.size=21 from rfl]at E
 have hold:(Builtin.firstCells i0.size p (.slice (some ⟨g,0,none⟩) p cap)).run prog w.drew= .ok (rowsOf gu (l.take p)).toArray w.drew:=by
  rw[F];exact run_firstCells_some w.drew 21 p ⟨g,0,none⟩ p cap _ u (fun j v f=>by
   rw[qF,jI];rw[←E,zF]at f
   split at f
   ·exact a j v f
   ·cases f)
 have V:(n:Int)+1-(p:Int)=((n+1-p:Nat):Int):=(by omega);have C:p+(n+1-p)=n+1:=(by omega);have z:∀ty,(Builtin.append_ #[65,3] ty #[.slice (some ⟨g,0,none⟩) p cap,qI ((n:Int)+1-(p:Int))]).run prog w=
  .ok (.slice (some ⟨w.heap.size,0,none⟩) (n+1) (grownCap w (n+1) cap 30)) (w.drew.alloc (.cells ((rowsOf gu (l.take p)).toArray++Builtin.zeroCells (Value.agg (wB Rc.zero).toArray).cells (n+1-p)++Builtin.zeroCells (Value.agg (wB Rc.zero).toArray).cells (grownCap w (n+1) cap 30-(n+1))) 30)):=fun ty=>by
  have h:=Lib.run_append_grow_zeros w 65 3 ty 30 i0 _ .i64 .i64 underlying65 underlying3 hi aH (some ⟨g,0,none⟩) p cap _ hold (n+1-p) (by omega) (by omega) (by omega) (by omega) (by rw[Y];omega) (by rw[Y,C];exact growslice_fits c (by omega));rw[C]at h;rw[V];exact h
 obtain⟨G,Z⟩:=ay (grownCap w (n+1) cap 30);have B:n+1≤G:=(by rw[Z];exact grownCap_ge w _ _ _);have O:G≤maxLen:=(by rw[Z];exact grownCap_le_maxLen w (n+1) cap _ (by unfold maxLen;omega));rw[←Z]at z;obtain⟨X,ai⟩:=ay (rowsOf gu (l.take p)++((Builtin.zeroCells (Value.agg (wB Rc.zero).toArray).cells (n+1-p)).toList++(Builtin.zeroCells (Value.agg (wB Rc.zero).toArray).cells (G-(n+1))).toList));have P:(rowsOf gu (l.take p)).toArray++Builtin.zeroCells (Value.agg (wB Rc.zero).toArray).cells (n+1-p)++Builtin.zeroCells (Value.agg (wB Rc.zero).toArray).cells (G-(n+1))=X.toArray:=by
  rw[ai];simp
 have m:X.length=G*21:=by
  have aJ:(Value.agg (wB Rc.zero).toArray).cells.size=21:=rfl;rw[ai];simp only[List.length_append,Array.length_toList,size_zeroCells,u,aJ];omega
 have Q:X.take (p*21)=rowsOf gu (l.take p):=(by rw[ai,nX u]);rw[P]at z;obtain⟨aD,x⟩:=ay (w.drew.alloc (.cells X.toArray 30));rw[←x]at z;have T:ah No w aD:=(by rw[x];exact((aA w).drew).alloc _);have R:aD.heap[w.heap.size]?=some (.cells X.toArray 30 (0,0)):=(by rw[x];exact bT w.drew _);obtain⟨D,L⟩:=ay (rowsOf gu (l.drop p));have k:D.length=(n-p)*21:=(by rw[L,bV,jQ, ←hn];rfl);have M:∀v∈D,v.oneCell'=true:=(by rw[L];exact ko gu _);have N:∀j v,D[j]?=some v→w.cell? ((⟨g,p*21,none⟩:Addr).add j)=some v:=fun j v f=>by
  rw[qF];refine a _ _ ?_;rw[←zy];have:=iN gu l p;rw[show gu.size=21 from rfl]at this
  rw[this, ←L];exact f
 have aM:(Go.splice (Go.splice X (p*21) (wB b)) ((p+1)*21) D).take ((n+1)*21)=rowsOf gu (l.take p)++(wB b++rowsOf gu (l.drop p)):=by
  have h:=PK X (wB b) D (p*21) 21 rfl (by rw[k,m];omega);rw[k,show p*21+21=(p+1)*21 by omega,show(p+1)*21+(n-p)*21=(n+1)*21 by omega]at h;rw[h,L,Q]
 have y:(Go.splice X (p*21) (wB b)).length=G*21:=(by rw[length_splice _ _ _ (by rw[m];simp;omega),m]);have r:(Go.splice (Go.splice X (p*21) (wB b)) ((p+1)*21) D).length=G*21:=by
  rw[length_splice _ _ _ (by rw[y,k];omega),y]
 have J:aj (∀w',w'.heap[w.heap.size]?=some (.cells (Go.splice (Go.splice X (p*21) (wB b)) ((p+1)*21) D).toArray 30 (0,0))→aI gu 30 w' base (.slice (some ⟨w.heap.size,0,none⟩) (n+1) G) (l.take p++b::l.drop p)):=fun w' h=>MJ hn hp q B O r aM h;have aC:=af y;have au:=af N;have ak:=af M;have H:=af k;have aQ:=af m;have av:=af R;have A:=af T;have aR:=af hb;have aN:((p:Int)==(n:Int))=false:=(by simp;omega);have bf:(n:Int)≤1000:=(by omega);have bq:(p:Int)<(n:Int):=(by omega);have aO:(p:Int)≤(n:Int)+1:=(by omega);have bk:(p:Int)+1≤(n:Int)+1:=(by omega);have bn:(p:Int)≤(n:Int):=(by omega);have bp:(p:Int)≤(cap:Int):=(by omega);have bg:(cap:Int)<(n:Int)+1:=(by omega);have bA:IntKind.i64.wrap ((p:Int)+1)=(p:Int)+1:=(by rw[cI];omega);have aU:(0:Int)≤(p:Int)+1:=(by omega);have bu:((p:Int)+1).toNat=p+1:=(by omega);have aV:¬(G=p+1):=(by omega);have aX:¬(G=p):=(by omega);have aY:¬(cap=p):=(by omega);have t:=af hp;have I:=af B;have aB:=af S;have aS:=af W;clear aM r y N M k m R T hb ai P Q L hn hp hl q O B c a hold aP d E u V C s x Z S W;(go_enter func77,ntmps77);go_wp2_with (first
  |(at_builtin;refine Lib.wpList_append_run _ rfl _ _ _ _ rfl _ _ rfl rfl _ _ (z _) ?_)
  |(refine pK rfl (.tmp 43) (.tmp 44) 65 65 rfl 30 i0 21 underlying65 hi F w.heap.size _ (p*21) _ _ ⟨vb,0,none⟩ _ _ rfl rfl rfl X 30 av.o 1 ?d1 (wB b) rfl ?d2 ?d3 ?d4 ?d5))
 case d1=>have:=t.o;simp only[Nat.min_def];split<;>omega
 case d2=>
  intro j v f;rw[qF,bW aD vb _ _ _ _ (A.o.heap aR.o (fun h=>h))]
  simpa using f
 case d3=>have:=t.o;have:=I.o;rw[aQ.o];simp;omega
 case d4=>exact gu.one b
 case d5=>
  intro w2 aE U;have aq:aj (∀j v,D[j]?=some v→w2.drew.cell? ((⟨g,p*21,none⟩:Addr).add j)=some v):=fun j v f=>by
   have aL:=au.o j v f;have aT:=A.o.cB aL;exact U.out.cell aT (fun h=>by rw[qF]at h;have:g=w.heap.size:=h;have:=aB.o;omega)
  go_wp2
  go_still_tail 8,(by kernel_rfl)
  change wpList _ _ _ _ _ w2.drew
  refine pK rfl (.tmp 50) (.tmp 53) 65 65 rfl 30 i0 21 underlying65 hi F w.heap.size _ ((p+1)*21) _ _ ⟨g,p*21,none⟩ _ _ rfl rfl rfl (Go.splice X (p*21) (wB b)) 30 aE.out (n-p) ?e1 D H.o aq.o ?e2 ak.o ?e3
  case e1=>have:=t.o;simp only[Nat.min_def];split<;>omega
  case e2=>have:=t.o;have:=I.o;rw[H.o,aC.o];omega
  case e3=>
   intro bC aF aG;go_wp2;go_ret;refine⟨G,rfl,J.o _ aF.out,?_⟩;have k1:ah (Own w.heap.size) w bC:=((A.o.mono (fun _ _ h=>h.elim)).aK U.out).drew.aK aG.out;exact k1.mono (fun i hi h=>by have:i=w.heap.size:=h;omega)
