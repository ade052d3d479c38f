/- Lemmas. -/
import Derived.Test.YtpbpgjfdledgoaaGreatDoorZo40
import Derived.Test.YtpbpgjfdledgoaaGreatDoorZo11
set_option linter.all false
set_option maxRecDepth 100000
set_option maxHeartbeats 8000000
open List renaming mem_append→nR,mem_cons→rR
open ByteArray renaming size_extract→Pz
open Bool renaming or_self→EF
namespace Go.Proofs.YtpbpgjfdledgoaaGreatDoor
open Go.Proofs.Tryz
open Go.RowKit Go.WideShapes
structure JU (L:List Rf):Prop where
 up:dI (dn L)
 fit:∀r∈L,iJ r
 nm:∀r∈L,1≤r.name.size
 lg:∀r∈L,r.name.size≤32
theorem EG {α:Type}{A B:List α}{x y:α}(h:y∈A++x::B):y=x∨∀z,y∈A++z::B:=by
 simp only[nR,rR]at h⊢;rcases h with h|h|h
 ·exact .inr (fun z=> .inl h)
 ·exact .inl h
 ·exact .inr (fun z=> .inr (.inr h))
theorem JV {L M:List Rf}(h:L.map Rf.name=M.map Rf.name):(dn L).map (·.1)=(dn M).map (·.1):=by
 have e:∀K:List Rf,(dn K).map (·.1)=(K.map Rf.name).map (fun b=>b.data.toList):=fun K=>by
  unfold dn;rw[nY,nY];rfl
 rw[e,e,h]
theorem JU.put {A B:List Rf}{r x:Rf}(h:JU (A++r::B))(a:x.name=r.name)(hf:iJ x):JU (A++x::B) where
 up:=uW (JV (by simp[a])) h.up
 fit y hy:=by
  rcases EG hy with rfl|hy
  ·exact hf
  ·exact h.fit y (hy r)
 nm y hy:=by
  rcases EG hy with rfl|hy
  ·rw[a];exact h.nm r (by simp)
  ·exact h.nm y (hy r)
 lg y hy:=by
  rcases EG hy with rfl|hy
  ·rw[a];exact h.lg r (by simp)
  ·exact h.lg y (hy r)
theorem JU.del {A B:List Rf}{r:Rf}(h:JU (A++r::B)):JU (A++B) where
 up:=by
  have:=h.up;unfold dn at this⊢;rw[fI,kT]at this;rw[fI];exact List.Pairwise.sublist (List.Sublist.append (List.Sublist.refl _) (List.sublist_cons_self _ _)) this
 fit y hy:=h.fit y (by simp only[nR,rR]at hy⊢;rcases hy with hy|hy;exact .inl hy;exact .inr (.inr hy))
 nm y hy:=h.nm y (by simp only[nR,rR]at hy⊢;rcases hy with hy|hy;exact .inl hy;exact .inr (.inr hy))
 lg y hy:=h.lg y (by simp only[nR,rR]at hy⊢;rcases hy with hy|hy;exact .inl hy;exact .inr (.inr hy))
theorem JW {fs:Fs}(h:dI fs){n:Nm}(e:eV fs n=none)(f:Fi):dI (gN fs n f):=by
 obtain⟨A,B,rfl,hA,b⟩:=CB h e;rw[rA hA b];unfold dI at h⊢;rw[nV]at h⊢;refine⟨h.1,List.pairwise_cons.2 ⟨b,h.2.1⟩,fun a d c hc=>?_⟩;rcases q4.1 hc with rfl|hc
 ·exact hA a d
 ·exact h.2.2 a d c hc
theorem JU.ins {L A B:List Rf}{x:Rf}(h:JU L)(a:L=A++B)(c:eV (dn L) x.name.data.toList=none)(hp:gN (dn L) x.name.data.toList (jA x)=dn (A++x::B))(hf:iJ x)(hn:1≤x.name.size)(b:x.name.size≤32):JU (A++x::B) where
 up:=by rw[←hp];exact JW h.up c _
 fit y hy:=by
  simp only[nR,rR]at hy;rcases hy with hy|rfl|hy
  ·exact h.fit y (by rw[a];simp[hy])
  ·exact hf
  ·exact h.fit y (by rw[a];simp[hy])
 nm y hy:=by
  simp only[nR,rR]at hy;rcases hy with hy|rfl|hy
  ·exact h.nm y (by rw[a];simp[hy])
  ·exact hn
  ·exact h.nm y (by rw[a];simp[hy])
 lg y hy:=by
  simp only[nR,rR]at hy;rcases hy with hy|rfl|hy
  ·exact h.lg y (by rw[a];simp[hy])
  ·exact b
  ·exact h.lg y (by rw[a];simp[hy])
def wv (is:Bool)(room rr:Int)(cnt:Nat):Prop:=(is=false∧4611686018427387904-(cnt:Int)≤room∧room≤4611686018427387904)∨(is=true∧rr=room∧0≤room∧room≤9223372036854775807)
theorem wv.up {is:Bool}{room rr:Int}{c k:Nat}(h:wv is room rr c)(e:c≤k):wv is room rr k:=by
 rcases h with⟨a,d,b⟩|h
 ·exact .inl ⟨a,by omega,b⟩
 ·exact .inr h
def nS (w:World)(q base:Nat)(v:Value)(c:Nat)(d:Ds):Prop:=∃(L:List Rf) (is:Bool) (rr:Int),bZ w q base v L is rr d.dead∧d.fs=dn L∧JU L∧wv is d.room rr c
def mC (w:World)(q base:Nat)(v:Value)(c:Nat)(d:Ds)(w':World):Prop:=∃v',nS w' q base v' c d∧(∀i,v'.ownBlock=some i→v.ownBlock=some i∨w.heap.size≤i)∧ah (QS q v) w w'
section
variable {w w':World}{q base c:Nat}{v:Value}{d:Ds}
theorem nS.kept {S:Nat→Prop}(h:nS w q base v c d)(k:ah S w w')(hS:∀i,QS q v i→¬S i):nS w' q base v c d:=by
 obtain⟨L,is,rr,a,b⟩:=h;exact⟨L,is,rr,a.kept k (hS q (.inl rfl)) (fun i hi=>hS i (.inr hi)),b⟩
theorem nS.no (h:nS w q base v c d)(k:ah No w w'):nS w' q base v c d:=h.kept k (fun _ _ h=>h)
theorem nS.up {k:Nat}(h:nS w q base v c d)(g:c≤k):nS w q base v k d:=by
 obtain⟨L,is,rr,a,b,e,f⟩:=h;exact⟨L,is,rr,a,b,e,f.up g⟩
theorem mC.up {k:Nat}(h:mC w q base v c d w')(e:c≤k):mC w q base v k d w':=by
 obtain⟨v',a,b⟩:=h;exact⟨v',a.up e,b⟩
theorem mC.no (h:nS w q base v c d)(k:ah No w w'):mC w q base v c d w':=⟨v,h.no k,fun _ h=> .inl h,k.mono (fun _ _ h=>h.elim)⟩
theorem nS.lt (h:nS w q base v c d){i:Nat}(hi:QS q v i):i<w.heap.size:=by
 obtain⟨L,is,rr,a,_⟩:=h;rcases hi with rfl|hi
 ·exact(bX.1 a.cells).1
 ·exact(a.own.lt i hi).2
theorem nS.other (h:nS w q base v c d){i:Nat}{C:Array Value}{t:TypeId}(hi:w.heap[i]?=some (.cells C t (0,0)))(b:t≠73)(f:t≠169):¬QS q v i:=by
 obtain⟨L,is,rr,a,_⟩:=h;rintro(rfl|e)
 ·rw[a.cells]at hi;simp only[Option.some.injEq,Obj.cells.injEq]at hi;exact b hi.2.1.symm
 ·rcases a.own.2 with⟨rfl,_⟩|⟨g,cap,cur,rfl,_,j,_⟩
  ·cases e
  ·cases e;rw[j]at hi;simp only[Option.some.injEq,Obj.cells.injEq]at hi;exact f hi.2.1.symm
theorem mC.trans {c2:Nat}{d2:Ds}{w2:World}{v1:Value}(hn:∀i,v1.ownBlock=some i→v.ownBlock=some i∨w.heap.size≤i)(a:ah (QS q v) w w')(h:mC w' q base v1 c2 d2 w2):mC w q base v c2 d2 w2:=by
 obtain⟨v2,b,c,d⟩:=h;refine⟨v2,b,fun i hi=>?_,a.trans d (fun i hi e=>?_)⟩
 ·rcases c i hi with e|e
  ·exact hn i e
  ·exact .inr (aU a.size e)
 ·rcases e with e|e
  ·exact .inl e
  ·rcases hn i e with e|e
   ·exact .inr e
   ·exact absurd e (Nat.not_le.2 hi)
theorem mC.before {w0:World}(k:ah No w0 w)(h:mC w q base v c d w'):mC w0 q base v c d w':=mC.trans (w:=w0) (w':=w) (v1:=v) (fun _ h=> .inl h) (k.mono (fun _ _ h=>h.elim)) h
theorem PA {L:List Rf}{is:Bool}{rr:Int}(h:sM w q base L is rr d.dead w')(hf:d.fs=dn L)(hl:JU L)(g:wv is d.room rr c):mC w q base v c d w':=by
 obtain⟨v',a,b,f⟩:=h;exact⟨v',⟨L,is,rr,a,hf,hl,g⟩,fun i hi=> .inr (b i hi),f.mono (fun _ _ e=> .inl e)⟩
theorem KT {L:List Rf}{is:Bool}{rr:Int}(h:bZ w' q base v L is rr d.dead)(k:ah (QS q v) w w')(hf:d.fs=dn L)(hl:JU L)(a:wv is d.room rr c):mC w q base v c d w':=
 ⟨v,⟨L,is,rr,h,hf,hl,a⟩,fun _ hi=> .inl hi,k⟩
theorem mg {f:FuncId}{a:Array Value}{w:World}{v:Value}(h:Calls prog f a w (qW w v)):Calls prog f a w (qG w v):=
 h.mono (by rintro e w' ⟨b,rfl⟩;exact⟨b,aA _⟩)
theorem sN (h:nS w q base v c d)(n:ByteArray)(ec:Int)(l:Ds)(f:d.sync n=(ec,l)):Calls prog 34 #[dP q,.string n] w fun e w'=>e= .returned (qI ec)∧mC w q base v c l w':=by
 have H:=h;obtain⟨L,is,rr,p,o,hl,g⟩:=h;obtain⟨fs,room,dead⟩:=d;obtain rfl:fs=dn L:=o;unfold Ds.sync at f;rcases sK L dead n with⟨e1,i,j,m⟩|⟨rfl,i,j,_⟩|⟨A,r,B,rfl,k,hn,i,j,D,z,C⟩
 ·simp only[i]at f;have he:(e1==0)=false:=by rcases m with rfl|rfl<;>rfl
  rw[he,aN]at f;cases f;exact(mg (Dh p n _ j he)).mono (fun _ _ ⟨a,b⟩=>⟨a,mC.no H b⟩)
 ·simp only[i]at f;cases f;exact(mg (Dh p n _ j rfl)).mono (fun _ _ ⟨a,b⟩=>⟨a,mC.no H b⟩)
 ·simp only[i]at f;have hf:iJ r:=hl.fit r (by rw[k];simp);obtain⟨rfl,rfl⟩:0=ec∧(⟨dn (A++⟨n,r.sure++r.loose,⟨#[]⟩⟩::B),room,false⟩:Ds)=l:=by
   have e2:(⟨(jA r).s,(jA r).s.size⟩:Fi)=jA ⟨n,r.sure++r.loose,⟨#[]⟩⟩:=(by rw[KS];rfl);have u:=hl.up;rw[k]at u f;rw[e2, ←hn,EC u (x:=⟨r.name,r.sure++r.loose,⟨#[]⟩⟩) rfl]at f;rw[←hn]
   simpa using f
  refine(Pw p k hf n j).mono ?_;rintro e w1 ⟨he,t,y⟩;refine⟨he,KT t y rfl ?_ g⟩;rw[k]at hl;refine hl.put hn.symm ?_;unfold iJ at hf⊢;rw[qB];show _+0≤_;omega
theorem G_ (h:nS w q base v c d)(n:ByteArray)(ec:Int)(k:Ds)(f:d.remove n=(ec,k)):Calls prog 172 #[dP q,.string n] w fun e w'=>e= .returned (qI ec)∧mC w q base v c k w':=by
 have H:=h;obtain⟨L,is,rr,p,o,hl,g⟩:=h;obtain⟨fs,room,dead⟩:=d;obtain rfl:fs=dn L:=o;unfold Ds.remove at f;rcases sK L dead n with⟨e1,i,j,m⟩|⟨rfl,i,j,_⟩|⟨A,r,B,rfl,l,hn,i,j,y,u,x⟩
 ·simp only[i]at f;have he:(e1==0)=false:=by rcases m with rfl|rfl<;>rfl
  rw[he,aN]at f;cases f;exact(mg (yO p n _ j he)).mono (fun _ _ ⟨a,b⟩=>⟨a,mC.no H b⟩)
 ·simp only[i]at f;cases f;exact(mg (yO p n _ j rfl)).mono (fun _ _ ⟨a,b⟩=>⟨a,mC.no H b⟩)
 ·simp only[i]at f;obtain⟨rfl,rfl⟩:0=ec∧(⟨dn (A++B),room,false⟩:Ds)=k:=by
   have t:=hl.up;rw[l]at t f;rw[←hn,Rx t]at f
   simpa using f
  refine(JT p l n j).mono ?_;rintro e w1 ⟨he,s⟩;refine⟨he,PA s rfl ?_ g⟩;rw[l]at hl;exact hl.del
theorem KU (r:Rf)(K:Nat):jA (BD r.name r K)=⟨(jA r).s.extract 0 K,min (jA r).k K⟩∧(BD r.name r K).name=r.name:=by
 unfold BD;by_cases hc:K≤r.sure.size
 ·rw[aM hc,bH,KS];refine⟨?_,rfl⟩;have b:(r.sure.extract 0 K).size=K:=(by simp;omega);have a:min (jA r).k K=K:=(by show min r.sure.size K=K;omega);rw[b,a];congr 1;apply q5;show(r.sure.extract 0 K).data=((r.sure++r.loose).extract 0 K).data;simp only[ByteArray.data_extract,ByteArray.data_append,Array.extract_append];have c:r.sure.data.size=r.sure.size:=rfl;rw[c,show K-r.sure.size=0 by omega];simp
 ·rw[aJ hc,aN];refine⟨?_,rfl⟩;have a:min (jA r).k K=r.sure.size:=(by show min r.sure.size K=_;omega);rw[a];unfold jA;have e:=G5 r.sure r.loose (K-r.sure.size);rw[show r.sure.size+(K-r.sure.size)=K by omega]at e;show(⟨r.sure++r.loose.extract 0 (K-r.sure.size),_⟩:Fi)=⟨(r.sure++r.loose).extract 0 K,_⟩;rw[e]
theorem MC {r:Rf}(h:iJ r)(n:ByteArray)(K:Nat):iJ (BD n r K):=by
 unfold BD;unfold iJ at h⊢;by_cases hc:K≤r.sure.size
 ·rw[aM hc,bH];simp only[Pz];show _+0≤_;omega
 ·rw[aJ hc,aN];simp only[Pz];omega
theorem Cr (h:nS w q base v c d)(n:ByteArray)(k:Int)(ec:Int)(t:Ds)(f:d.truncate n k=(ec,t)):Calls prog 175 #[dP q,.string n,qI k] w fun e w'=>e= .returned (qI ec)∧mC w q base v c t w':=by
 have H:=h;obtain⟨L,is,rr,p,x,hl,g⟩:=h;obtain⟨fs,room,dead⟩:=d;obtain rfl:fs=dn L:=x;unfold Ds.truncate at f;rcases sK L dead n with⟨e1,j,i,m⟩|⟨rfl,j,i,_⟩|⟨A,r,B,rfl,l,hn,j,i,G,E,F⟩
 ·simp only[j]at f;have he:(e1==0)=false:=by rcases m with rfl|rfl<;>rfl
  have u:(e1 !=0)=true:=by rcases m with rfl|rfl<;>rfl
  rw[he,aN]at f;cases f;exact(mg (tN p n k _ i u)).mono (fun _ _ ⟨a,b⟩=>⟨a,mC.no H b⟩)
 ·simp only[j]at f;cases f;exact(mg (tN p n k _ i rfl)).mono (fun _ _ ⟨a,b⟩=>⟨a,mC.no H b⟩)
 ·simp only[j]at f;have hf:iJ r:=hl.fit r (by rw[l];simp);have o:(jA r).s.size=r.sure.size+r.loose.size:=qB;by_cases D:k<0∨(r.sure.size:Int)+r.loose.size<k
  ·have hb:(decide (k<0)||decide (((jA r).s.size:Int)<k))=true:=by
    rw[o,Bool.or_eq_true,tQ,tQ];omega
   rw[hb]at f;cases f;exact(zb p l hf n k i D).mono (fun _ _ ⟨a,b⟩=>⟨a,mC.no H b⟩)
  ·obtain⟨K,rfl⟩:∃K:Nat,k=K:=⟨k.toNat,by omega⟩;have hb:(decide ((K:Int)<0)||decide (((jA r).s.size:Int)<(K:Int)))=false:=by
    rw[o,wK,xR,xR];omega
   obtain⟨rfl,rfl⟩:0=ec∧(⟨dn (A++BD n r K::B),room,false⟩:Ds)=t:=by
    obtain⟨e1,e2⟩:=KU r K;have C:=hl.up;rw[hb]at f;rw[l]at C f;rw[nW, ←e1, ←hn,EC C e2]at f;rw[←hn]
    simpa using f
   refine(EE p l hf n K i (by omega)).mono ?_;rintro e w1 ⟨he,z,y⟩;refine⟨he,KT z y rfl ?_ g⟩;rw[l]at hl;exact hl.put (by rw[←hn];exact(KU r K).2) (MC hf n K)
theorem PB {is:Bool}{room rr:Int}(h:wv is room rr c)(s:ByteArray)(hs:c+s.size≤1000000000000):
 (∃b,decide ((s.size:Int)≤room)=true∧G6 is rr false s s b false∧wv is (room-s.size) b (c+s.size))∨
 (∃M:Nat,decide ((s.size:Int)≤room)=false∧room.toNat=M∧(M:Int)<s.size∧G6 is rr false s (s.extract 0 M) 0 true∧wv is 0 0 (c+s.size)):=by
 rcases h with⟨rfl,hb,e⟩|⟨rfl,rfl,h0,d⟩
 ·exact .inl ⟨rr,aM (by omega),.inl ⟨rfl,rfl,rfl,rfl⟩,.inl ⟨rfl,by omega,by omega⟩⟩
 ·rcases Int.lt_or_le rr s.size with a|hle
  ·obtain⟨M,rfl⟩:∃M:Nat,rr=M:=⟨rr.toNat,by omega⟩;exact .inr ⟨M,aJ (by omega),rfl,a,.inr (.inr ⟨rfl,M,rfl,a,rfl,rfl,rfl⟩),.inr ⟨rfl,rfl,by omega,by omega⟩⟩
  ·exact .inl ⟨rr-s.size,aM hle,.inr (.inl ⟨rfl,hle,d,rfl,rfl,rfl⟩),.inr ⟨rfl,rfl,by omega,by omega⟩⟩
theorem rY (h:nS w q base v c d)(n s:ByteArray)(hs:c+s.size≤1000000000000)(T:s.size≤4194304)(ec:Int)(Q:Ds)(g:d.append n s=(ec,Q)):Calls prog 33 #[dP q,.string n,.string s] w fun e w'=>e= .returned (qI ec)∧mC w q base v (c+s.size) Q w':=by
 have H:nS w q base v (c+s.size) d:=h.up (by omega);obtain⟨L,is,rr,x,I,hl,p⟩:=h;obtain⟨fs,room,dead⟩:=d;obtain rfl:fs=dn L:=I;unfold Ds.append at g;rcases sK L dead n with⟨e1,z,t,C⟩|⟨rfl,z,t,J,D,E⟩|⟨A,r,B,rfl,y,hn,z,t,J,D,E⟩
 ·simp only[z]at g;have he:(e1==1||e1==12)=true:=by rcases C with rfl|rfl<;>rfl
  rw[he,bH]at g;cases g;exact(mg (G8 x n s _ t C)).mono (fun _ _ ⟨a,b⟩=>⟨a,mC.no H b⟩)
 ·simp only[z]at g;by_cases hb:64≤L.length∨L.length<64∧4194304<s.size
  ·have l:(((6:Int)==6&&decide (64≤(dn L).length))||decide (4194304<Fi.none.s.size+s.size))=true:=by
    rw[eE];have:Fi.none.s.size=0:=rfl;rcases hb with hb|⟨_,hb⟩
    ·rw[aM hb];rfl
    ·rw[this,jI,aM hb,Bool.or_true]
   rw[l]at g;cases g;exact(mg (ED x n s t hb)).mono (fun _ _ ⟨a,b⟩=>⟨a,mC.no H b⟩)
  ·have l:(((6:Int)==6&&decide (64≤(dn L).length))||decide (4194304<Fi.none.s.size+s.size))=false:=by
    rw[eE];have:Fi.none.s.size=0:=rfl;rw[this,jI,aJ (by omega),aJ (by omega)];rfl
   rw[l]at g;obtain⟨A,B,u,hA,R,k⟩:=Ry hl.up J;have key:∀j:ByteArray,kg Fi.none j=jA ⟨n,⟨#[]⟩,j⟩:=fun j=>rfl;have ins:∀j:ByteArray,j.size≤4194304→JU (A++⟨n,⟨#[]⟩,j⟩::B):=fun j O=>hl.ins u J (k _ rfl) (by unfold iJ;show 0+j.size≤4194304;omega) D E;rcases PB p s hs with⟨P,hle,i,f⟩|⟨M,hle,G,N,i,f⟩
   ·rw[hle,key,k _ rfl]at g;simp only[cond_true,cond_false,EF,show((6:Int)==1)=false from rfl,show((6:Int)==12)=false from rfl]at g
    cases g;refine(yL x u n s s t (by omega) (by omega) i hA R).mono ?_;rintro e w2 ⟨he,m⟩;exact⟨he,PA m rfl (ins s (by omega)) f⟩
   ·rw[hle,G]at g;simp only[cond_false,EF,show((6:Int)==1)=false from rfl,show((6:Int)==12)=false from rfl]at g
    rw[key,k _ rfl]at g;cases g;refine(yL x u n s _ t (by omega) (by omega) i hA R).mono ?_;rintro e w2 ⟨he,m⟩;exact⟨he,PA m rfl (ins _ (by rw[zB];omega)) f⟩
 ·simp only[z]at g;have hf:iJ r:=hl.fit r (by rw[y];simp);have F:(jA r).s.size=r.sure.size+r.loose.size:=qB;have key:∀j:ByteArray,kg (jA r) j=jA ⟨r.name,r.sure,r.loose++j⟩:=by
   intro j;unfold kg jA;congr 1;exact ByteArray.append_assoc
  have k:∀j:ByteArray,gN (dn L) n.data.toList (kg (jA r) j)=dn (A++⟨r.name,r.sure,r.loose++j⟩::B):=by
   intro j;have S:=hl.up;rw[y]at S⊢;rw[key, ←hn];exact EC S rfl
  by_cases o:4194304<r.sure.size+r.loose.size+s.size
  ·have l:(((0:Int)==6&&decide (64≤(dn L).length))||decide (4194304<(jA r).s.size+s.size))=true:=by
    rw[F,aM o,Bool.or_true]
   rw[l]at g;cases g;exact(G9 x y hf n s t (by omega) o).mono (fun _ _ ⟨a,b⟩=>⟨a,mC.no H b⟩)
  ·have l:(((0:Int)==6&&decide (64≤(dn L).length))||decide (4194304<(jA r).s.size+s.size))=false:=by
    rw[F,aJ o];rfl
   rw[l]at g;have ins:∀j:ByteArray,j.size≤s.size→JU (A++⟨r.name,r.sure,r.loose++j⟩::B):=fun j O=>by
    rw[y]at hl;refine hl.put rfl ?_;unfold iJ;show r.sure.size+(r.loose++j).size≤4194304;rw[qB];omega
   rcases PB p s hs with⟨P,hle,i,f⟩|⟨M,hle,G,N,i,f⟩
   ·rw[hle,k]at g;simp only[cond_true,cond_false,EF,show((0:Int)==1)=false from rfl,show((0:Int)==12)=false from rfl]at g
    cases g;refine(yN x y n s s t (by omega) (bM _) i).mono ?_;rintro e w2 ⟨he,m,K⟩;exact⟨he,KT m K rfl (ins s (bM _)) f⟩
   ·rw[hle,G]at g;simp only[cond_false,EF,show((0:Int)==1)=false from rfl,show((0:Int)==12)=false from rfl]at g
    rw[k]at g;cases g;refine(yN x y n s _ t (by omega) (by rw[zB];omega) i).mono ?_;rintro e w2 ⟨he,m,K⟩;exact⟨he,KT m K rfl (ins _ (by rw[zB];omega)) f⟩
end
