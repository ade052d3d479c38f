/- Lemmas. -/
import Derived.Test.YtpbpgjfdledgoaaGreatDoorZo37
import Derived.Test.YtpbpgjfdledgoaaGreatDoorZo41
set_option linter.all false
set_option maxRecDepth 100000
set_option maxHeartbeats 8000000
open List renaming mem_append→nR,mem_singleton→ow,pairwise_singleton→JX,setIfInBounds_toArray→cw,set_cons_zero→b_,set_cons_succ→cn
open Nat renaming add_zero→qH
namespace Go.Proofs.YtpbpgjfdledgoaaGreatDoor
open Go.Proofs.Tryz
open Go.RowKit Go.Shelf Go.Joins Go.Deep
abbrev zo:TypeId:=158
abbrev oP:TypeId:=9
structure Rs where
 f:Nat
 l:List Nm
 a:Option Addr
 c:Nat
abbrev Rs.v (s:Rs):Value:= .slice s.a s.l.length s.c
abbrev ME (s:Rs):List Value:= [qI s.f,s.v]
def BF:dX Rs:=⟨ME,2,fun _=>rfl,fun a u h=>by simp[ME]at h;rcases h with rfl|rfl<;>rfl,by decide⟩
structure dz (w:World)(base b o:Nat)(t:TypeId)(C:Array Value)(nm:ByteArray)(sv:Value)(A:List Rs)(z:Rs):Prop where
 box:w.heap[b]?=some (.cells C t (0,0))
 c0:C[o]?=some (.string nm)
 c1:C[o+1]?=some sv
 row:aI BF zo w base sv (A++ [z])
 txt:∀s∈A++ [z],aI cT oP w base s.v s.l
 sep:(A++ [z]).Pairwise fun s t=>∀i,s.v.ownBlock=some i→¬t.v.ownBlock=some i
 nb:¬sv.ownBlock=some b
 nt:∀s∈A++ [z],¬s.v.ownBlock=some b
 lt:∀s∈A++ [z],s.f<100000000
 nx:z.f+z.l.length≤1000000000000
 few:A.length≤1000000
 nm:nm.size≤16
def wz (b:Nat)(sv:Value)(A:List Rs)(z:Rs):Nat→Prop:=fun i=>i=b∨sv.ownBlock=some i∨∃s∈A++ [z],s.v.ownBlock=some i
def pJ (nm:ByteArray)(A:List Rs)(z:Rs):Lg:=⟨nm,(A++ [z]).map Rs.f,z.f+z.l.length⟩
theorem Dl (nm:ByteArray)(A:List Rs)(z:Rs):(pJ nm A z).last=aZ nm z.f:=by
 unfold Lg.last pJ nC;simp
def gU (S:List Rs):List Nm:=S.flatMap Rs.l
section
variable {w w':World}{base b o:Nat}{t:TypeId}{C:Array Value}{nm:ByteArray}{sv:Value}{A:List Rs}{z:Rs}
theorem cD {α:Type}{K:dX α}{e:TypeId}{S:Nat→Prop}{v:Value}{l:List α}(h:aI K e w base v l)(k:ah S w w')(hS:∀i,v.ownBlock=some i→¬S i):aI K e w' base v l:=k.owns h hS
theorem dz.kept {S:Nat→Prop}(h:dz w base b o t C nm sv A z)(k:ah S w w')(hS:∀i,wz b sv A z i→¬S i):dz w' base b o t C nm sv A z:=
 ⟨k.heap h.box (hS b (.inl rfl)),h.c0,h.c1,cD h.row k (fun i hi=>hS i (.inr (.inl hi))),fun s hs=>cD (h.txt s hs) k (fun i hi=>hS i (.inr (.inr ⟨s,hs,hi⟩))),h.sep,h.nb,h.nt,h.lt,h.nx,h.few,h.nm⟩
theorem dz.no (h:dz w base b o t C nm sv A z)(k:ah No w w'):dz w' base b o t C nm sv A z:=h.kept k (fun _ _ h=>h)
theorem dz.cell0 (h:dz w base b o t C nm sv A z):w.cell? ⟨b,o,none⟩=some (.string nm):=by simp[World.cell?,h.box,h.c0]
theorem dz.iM (h:dz w base b o t C nm sv A z):w.cell? ⟨b,o+1,none⟩=some sv:=by simp[World.cell?,h.box,h.c1]
theorem dz.at' (h:dz w base b o t C nm sv A z):∃g cap,sv= .slice (some ⟨g,0,none⟩) (A.length+1) cap∧A.length+1≤cap∧base≤g∧Open w g∧(aL w g).size=cap*2:=by
 have:=D4 h.row (by simp);rw[cr,gZ]at this;exact this
theorem dz.lt' (h:dz w base b o t C nm sv A z){i:Nat}(hi:wz b sv A z i):i<w.heap.size:=by
 rcases hi with rfl|hi|⟨s,hs,hi⟩
 ·exact(bX.1 h.box).1
 ·exact(h.row.lt i hi).2
 ·exact((h.txt s hs).lt i hi).2
theorem dz.zq (h:dz w base b o t C nm sv A z){s:Rs}(hs:s∈A++ [z]):∀i,sv.ownBlock=some i→¬s.v.ownBlock=some i:=nE h.row (h.txt s hs) (by decide)
theorem dz.seg (h:dz w base b o t C nm sv A z){g cap:Nat}(hv:sv= .slice (some ⟨g,0,none⟩) (A.length+1) cap)(j:Nat)(a:j<(A++ [z]).length):ai w g (j*2) 2=some (ME (A++ [z])[j]):=by
 have e:(A++ [z]).length=A.length+1:=(by simp);have c:Reads w 2 (.slice (some ⟨g,0,none⟩) (A.length+1) cap) (A.length+1) (rowsOf BF (A++ [z])):=by
  have:=h.row.reads;rw[hv]at this;rw[show A.length+1=(A++ [z]).length from e.symm]at this⊢
  exact this
 have:=aW.at BF c j a;rw[jI]at this;exact this
theorem dz.last (h:dz w base b o t C nm sv A z){g cap:Nat}(hv:sv= .slice (some ⟨g,0,none⟩) (A.length+1) cap):ai w g (A.length*2) 2=some (ME z):=by
 have:=h.seg hv A.length (by simp)
 simpa using this
theorem dz.grow (h:dz w base b o t C nm sv A z){w1:World}{x:Nm}{a:Option Addr}{c n g cap:Nat}(hn:n=(z.l++ [x]).length)(k:ah (Of z.v) w w1)(I:aI cT oP w1 base (.slice a n c) (z.l++ [x]))
 (d:∀i,(Value.slice a n c).ownBlock=some i→z.v.ownBlock=some i∨w.heap.size≤i) (hv:sv= .slice (some ⟨g,0,none⟩) (A.length+1) cap) (J:z.f+(z.l++ [x]).length≤1000000000000):
 dz (w1.setCell ⟨g,A.length*2+1,none⟩ (.slice a n c)) base b o t C nm sv A ⟨z.f,z.l++ [x],a,c⟩:=by
 subst hn;have B:z∈A++ [z]:=(by simp);have E:¬g=b:=fun e=>h.nb (by rw[hv,e];rfl);have G:ah (Own g) w1 (w1.setCell ⟨g,A.length*2+1,none⟩ (.slice a (z.l++ [x]).length c)):=(aA (S:=Own g) w1).setCell (p:=⟨g,A.length*2+1,none⟩) (fun _=>(rfl:g=g)) _;have m:∀i,wz b sv A z i→i<w.heap.size:=fun i hi=>h.lt' hi;have u:sv.ownBlock=some g:=(by rw[hv];rfl);have j:∀s∈A,∀i,s.v.ownBlock=some i→¬z.v.ownBlock=some i:=fun s hs i hi=>by
  have:=h.sep;rw[nV]at this;exact this.2.2 s hs z (by simp) i hi
 have q:∀s∈A++ [z],¬s.v.ownBlock=some g:=fun s hs=>h.zq hs g u;have r:¬(Value.slice a (z.l++ [x]).length c).ownBlock=some g:=fun e=>by
  rcases d g e with e|e
  ·exact q z B e
  ·exact absurd (m g (.inr (.inl u))) (bY.2 e)
 have D:aI BF zo w1 base sv (A++ [z]):=cD h.row k (fun i hi e=>h.zq B i hi e);constructor
 ·exact G.heap (k.heap h.box (fun e=>h.nt z B e)) (fun e=>E e.symm)
 ·exact h.c0
 ·exact h.c1
 ·have F:=D;rw[hv]at F⊢;have e1:(A++ [z]).length=A.length+1:=(by simp);rw[show A.length+1=(A++ [z]).length from e1.symm]at F⊢
  have H:=(World.ownsRow.stored F (A.length*2+1) (.slice a (z.l++ [x]).length c)).1;have e2:(rowsOf BF (A++ [z])).set (A.length*2+1) (.slice a (z.l++ [x]).length c)=rowsOf BF (A++ [(⟨z.f,z.l++ [x],a,c⟩:Rs)]):=by
   have:=yM BF (A++ [z]) A.length (by simp) 1 (by decide) ⟨z.f,z.l++ [x],a,c⟩ (.slice a (z.l++ [x]).length c) (by simp[BF,ME]);rw[show BF.size=2 from rfl]at this
   rw[this];congr 1;simp
  unfold aI;rw[←e2,show(A++ [(⟨z.f,z.l++ [x],a,c⟩:Rs)]).length=(A++ [z]).length by simp];exact H
 ·intro s hs;simp only[nR,ow]at hs;rcases hs with hs|rfl
  ·exact cD (cD (h.txt s (by simp[hs])) k (fun i hi e=>j s hs i hi e)) G (fun i hi e=>q s (by simp[hs]) (by rw[←show i=g from e];exact hi))
  ·exact cD I G (fun i hi e=>r (by rw[←show i=g from e];exact hi))
 ·have:=h.sep;rw[nV]at this⊢;refine⟨this.1,JX _ _,fun s hs y hy i hi=>?_⟩;rw[dA]at hy;subst hy;intro e;rcases d i e with e|e
  ·exact j s hs i hi e
  ·exact absurd (m i (.inr (.inr ⟨s,by simp[hs],hi⟩))) (bY.2 e)
 ·exact h.nb
 ·intro s hs;simp only[nR,ow]at hs;rcases hs with hs|rfl
  ·exact h.nt s (by simp[hs])
  ·intro e;rcases d b e with e|e
   ·exact h.nt z B e
   ·exact absurd (m b (.inl rfl)) (bY.2 e)
 ·intro s hs;simp only[nR,ow]at hs;rcases hs with hs|rfl
  ·exact h.lt s (by simp[hs])
  ·exact h.lt z B
 ·exact J
 ·exact h.few
 ·exact h.nm
theorem dz.push (h:dz w base b o t C nm sv A z){w1:World}{n:Nat}{JY:Value}(hn:n<100000000)(k:ah (Of sv) w w1)(g:aI BF zo w1 base JY ((A++ [z])++ [⟨n,[],none,0⟩]))
 (c:∀i,JY.ownBlock=some i→sv.ownBlock=some i∨w.heap.size≤i) (hf:A.length+1≤1000000):
 dz (w1.setCell ⟨b,o+1,none⟩ JY) base b o t (C.setIfInBounds (o+1) JY) nm JY (A++ [z]) ⟨n,[],none,0⟩:=by
 have f:ah (Own b) w1 (w1.setCell ⟨b,o+1,none⟩ JY):=(aA (S:=Own b) w1).setCell (p:=⟨b,o+1,none⟩) (fun _=>(rfl:b=b)) _;have d:∀i,wz b sv A z i→i<w.heap.size:=fun i hi=>h.lt' hi;have a:¬JY.ownBlock=some b:=fun e=>by
  rcases c b e with e|e
  ·exact h.nb e
  ·exact absurd (d b (.inl rfl)) (bY.2 e)
 constructor
 ·exact aB (k.heap h.box (fun e=>h.nb e)) _
 ·rw[H9 (by omega)];exact h.c0
 ·rw[Array.getElem?_setIfInBounds_self_of_lt (by have:=h.c1;exact(bX.1 this).1)]
 ·exact cD g f (fun i hi e=>a (by rw[←show i=b from e];exact hi))
 ·intro s hs;rcases fQ.1 hs with hs|hs
  ·exact cD (cD (h.txt s hs) k (fun i hi e=>h.zq hs i e hi)) f (fun i hi e=>h.nt s hs (by rw[←show i=b from e];exact hi))
  ·rw[dA]at hs;subst hs;exact cJ _ _ _ _
 ·rw[nV];refine⟨h.sep,JX _ _,fun s hs y hy i hi=>?_⟩;rw[dA]at hy;subst hy;intro e;cases e
 ·exact a
 ·intro s hs;rcases fQ.1 hs with hs|hs
  ·exact h.nt s hs
  ·rw[dA]at hs;subst hs;intro e;cases e
 ·intro s hs;rcases fQ.1 hs with hs|hs
  ·exact h.lt s hs
  ·rw[dA]at hs;subst hs;exact hn
 ·show n+0≤_;omega
 ·simpa using hf
 ·exact h.nm
end
section
variable {w w':World}{base b o:Nat}{t:TypeId}{C:Array Value}{nm:ByteArray}{sv:Value}{A:List Rs}{z:Rs}
theorem uG (h:dz w base b o t C nm sv A z):Calls prog 239 #[.pointer (some ⟨b,o,none⟩)] w (qG w ((qI (z.f+z.l.length:Nat)))):=by
 obtain⟨g,cap,rfl,c,_,i,_⟩:=h.at';have c1:=h.iM;have d:=h.last rfl;have hf:=h.few;have a:=h.nx;obtain⟨zf,B,j,p⟩:=z;simp only[ME,Rs.v]at d a;obtain⟨k,e⟩:=ay (A.length);obtain⟨n,hn⟩:=ay (k+1);obtain⟨m,hm⟩:=ay (B.length);rw[←e]at c1 d hf;rw[←hn]at c1;rw[←hm]at d a;have hw:IntKind.i64.wrap ((n:Int)-1)=(k:Int):=(by rw[cI];omega);have F:(0:Int)≤(k:Int):=(by omega);have k1:(k:Int)<(n:Int):=(by omega);have r:IntKind.i64.wrap ((zf:Int)+(m:Int))=(zf:Int)+(m:Int):=(by rw[cI];omega);have q:aj ((((zf+m:Nat):Int))=(zf:Int)+(m:Int)):=af (by omega);rw[←hm];clear h hn e hm c i hf a;(go_enter func239,ntmps239);go_upto_region 1 with fail
 go_cut [3] (fun(v:Value) (wx:World)=>∃y,v= .pointer (some ⟨y,0,none⟩)∧ai wx y 0 2=some [qI zf,.slice j m p]∧ah No w wx)
 case first=>
  have D:∀w',ah No w w'→w'.cell? ⟨b,o+1,none⟩=some (.slice (some ⟨g,0,none⟩) n cap):=fun w' k=>k.cB c1;have E:∀w',ah No w w'→ai w' g (k*2) 2=some [qI zf,.slice j m p]:=fun w' s=>s.ai d
  go_region_held3 (fun w'=>ah No w w')
   (first|assumption|exact(aA w).drew|exact aA w|exact(((aA w).alloc _).drew))
   (fail)
  all_goals go_wp2_with fail
  all_goals go_meet
  all_goals exact⟨_,rfl,by simp[go_sem],((aA w).alloc _).drew⟩
 case rest=>
  obtain⟨y,rfl,hy,e⟩:=hcut;have u:=ak hy 0 _ rfl;have x:=ak hy 1 _ rfl;simp only[Nat.zero_add]at u x;go_wp2;go_ret;exact⟨by rw[q.o];rfl,e⟩
variable {q qb c:Nat}{qv:Value}{d:Ds}
theorem MF (h:nS w q qb qv c d)(n:ByteArray):Calls prog 173 #[dP q,.string n] w fun e w'=>(∃ec:Int,e= .returned (.tuple #[.string (d.look n).s,qI ec]))∧ah No w w':=by
 obtain⟨L,is,rr,j,i,hl,_⟩:=h;unfold Ds.look;rw[i];rcases sJ L n with⟨f,g⟩|⟨f,g,_⟩|⟨A,r,B,k,hn,f,g,_⟩
 ·exact(Di j n _ g rfl).mono (fun _ _ ⟨a,b⟩=>⟨⟨1,by rw[f];exact a⟩,b▸aA _⟩)
 ·exact(Di j n _ g rfl).mono (fun _ _ ⟨a,b⟩=>⟨⟨6,by rw[f];exact a⟩,b▸aA _⟩)
 ·exact(Px j k (hl.fit r (by rw[k];simp)) n g).mono (fun _ _ ⟨a,b⟩=>⟨⟨0,by rw[f];exact a⟩,b⟩)
theorem MG (h:nS w q qb qv c d)(n:ByteArray):Calls prog 238 #[dP q,.string n] w fun e w'=>(∃k ec:Int,e= .returned (.tuple #[qI ((d.look n).s.size:Nat),qI k,qI ec]))∧ah No w w':=by
 obtain⟨L,is,rr,j,i,hl,_⟩:=h;unfold Ds.look;rw[i];rcases sJ L n with⟨f,g⟩|⟨f,g,_⟩|⟨A,r,B,l,hn,f,g,_⟩
 ·exact(Dj j n _ g rfl).mono (fun _ _ ⟨a,b⟩=>⟨⟨0,1,by rw[f];exact a⟩,b▸aA _⟩)
 ·exact(Dj j n _ g rfl).mono (fun _ _ ⟨a,b⟩=>⟨⟨0,6,by rw[f];exact a⟩,b▸aA _⟩)
 ·exact(Py j l (hl.fit r (by rw[l];simp)) n g).mono (fun _ _ ⟨a,b⟩=>⟨⟨r.sure.size,0,by rw[f];exact a⟩,b⟩)
theorem look_size (h:nS w q qb qv c d)(n:ByteArray):(d.look n).s.size≤4194304:=by
 obtain⟨L,is,rr,f,b,hl,_⟩:=h;unfold Ds.look;rw[b];rcases sJ L n with⟨a,_⟩|⟨a,_⟩|⟨A,r,B,e,hn,a,_⟩
 ·rw[a];exact aX _
 ·rw[a];exact aX _
 ·rw[a];have:=hl.fit r (by rw[e];simp);unfold iJ at this;show(r.sure++r.loose).size≤_;rw[qB];exact this
theorem JZ (h:dz w base b o t C nm sv A z)(K:nS w q qb qv c d)(G:∀i,wz b sv A z i→¬QS q qv i)(ec:Int)(s:Ds)(u:(pJ nm A z).sync d=(ec,s)):
 Calls prog 183 #[.pointer (some ⟨b,o,none⟩),dP q] w fun e w'=>e= .returned (qI ec)∧mC w q qb qv c s w':=by
 obtain⟨g,cap,rfl,m,_,H,_⟩:=h.at';unfold Lg.sync at u;rw[Dl]at u;have c0:=h.cell0;have c1:=h.iM;have a:=h.last rfl;have hf:=h.few;have D:=af (fun W=>mV W nm (by have:=h.nm;omega) z.f (h.lt z (by simp)));have E:=af (fun W (k:ah No w W)=>sN (K.no k) (aZ nm z.f) ec s u);have nb:aj (¬QS q qv b):=af (G b (.inl rfl));have ng:aj (¬QS q qv g):=af (G g (.inr (.inl rfl)));obtain⟨zf,Q,O,P⟩:=z;simp only[ME,Rs.v]at a D E;obtain⟨F,I⟩:=ay (aZ nm zf);rw[←I]at D E;obtain⟨k,J⟩:=ay (A.length);obtain⟨n,hn⟩:=ay (k+1);rw[←J]at c1 a hf;rw[←hn]at c1;replace a:=ak a 0 _ rfl;simp only[qH]at a;have hw:IntKind.i64.wrap ((n:Int)-1)=(k:Int):=(by rw[cI];omega);have N:(0:Int)≤(k:Int):=(by omega);have k1:(k:Int)<(n:Int):=(by omega);clear h hn J m H hf I u K G;(go_enter func183,ntmps183);go_upto_region 1 with fail
 go_region_held3 (fun w'=>(w'.cell? ⟨b,o,none⟩=some (.string nm)∧w'.cell? ⟨b,o+1,none⟩=some (.slice (some ⟨g,0,none⟩) n cap))∧w'.cell? ⟨g,k*2,none⟩=some (qI zf))
  (first|exact⟨⟨c0,c1⟩,a⟩|assumption)
  (first
    |(go_at_call 171
      have hc:=D.o
      with_reducible refine(hc _).mono ?_
      clear hc;rintro e y ⟨rfl,m6,r⟩;have l:aj (ah No w y):=af (by rw[r];exact((aA w).drew).drewN _);have j:(y.cell? ⟨b,o,none⟩=some (.string nm)∧y.cell? ⟨b,o+1,none⟩=some (.slice (some ⟨g,0,none⟩) n cap))∧y.cell? ⟨g,k*2,none⟩=some (qI zf):=⟨⟨l.o.cB c0,l.o.cB c1⟩,l.o.cB a⟩;clear r)
    |(go_at_call 34
      have hc:=E.o _ l.o
      with_reducible refine hc.mono ?_
      clear hc;rintro e B ⟨rfl,p⟩;have L:aj (mC w q qb qv c s B):=af (p.before l.o);obtain⟨v9,_,_,x⟩:=p;have M:(B.cell? ⟨b,o,none⟩=some (.string nm)∧B.cell? ⟨b,o+1,none⟩=some (.slice (some ⟨g,0,none⟩) n cap))∧B.cell? ⟨g,k*2,none⟩=some (qI zf):=⟨⟨x.cell j.1.1 nb.o,x.cell j.1.2 nb.o⟩,x.cell j.2 ng.o⟩;clear x))
 go_wp2;go_ret;exact⟨rfl,L.o⟩
theorem Ct (S:List Rs)(j:Nat)(a:j<S.length):gU (S.take (j+1))=gU (S.take j)++S[j].l:=by
 unfold gU;rw[iK a,qT];simp
theorem He (S:List Rs)(j:Nat):(gU (S.take j)).length≤(gU S).length:=by
 unfold gU;have e:S.flatMap Rs.l=(S.take j).flatMap Rs.l++(S.drop j).flatMap Rs.l:=(by rw[←qT,jN]);rw[e,cr];omega
theorem MH (h:dz w base b o t C nm sv A z)(hl:(gU (A++ [z])).length≤1000000000000):Calls prog 92 #[.pointer (some ⟨b,o,none⟩)] w fun e w'=>∃v',e= .returned v'∧aI cT oP w' w.heap.size v' (gU (A++ [z]))∧ah No w w':=by
 obtain⟨i0,hi,F,G,I⟩:=fR Tryz.mN;obtain⟨g,cap,rfl,_,_,_,_⟩:=h.at';have H:=af h;have Q:=af hl;have hf:=h.few;obtain⟨n,hn⟩:=ay (A.length+1);have p:(A++ [z]).length=n:=(by simp[hn]);have B:=af p;have Y:=af hn;have W:n≤1000001:=(by omega);obtain⟨S,hS⟩:=ay (A++ [z]);have C1:aj (∀w',ah No w w'→w'.cell? ⟨b,o+1,none⟩=some (.slice (some ⟨g,0,none⟩) n cap)):=af (fun w' k=>by rw[hn];exact(h.no k).iM);have O:aj (∀w',ah No w w'→∀j,(m:j<S.length)→ai w' g (j*2) 2=some (ME S[j])∧aW cT w' S[j].v S[j].l∧aI cT oP w' base S[j].v S[j].l):=af (fun w' k j m=>by
  subst hS;exact⟨(h.no k).seg rfl j m,((h.no k).txt _ (dw m)).reads,(h.no k).txt _ (dw m)⟩)
 rw[←hS]at hl Q B p⊢;clear h hn hS hf;(go_enter func92,ntmps92);go_wp2
 go_loopw [3,4] (fun o' i wr=>∃j:Nat,j≤S.length∧i=qI j∧aI cT oP wr w.heap.size o' (gU (S.take j))∧ah No w wr) (fun _ i _=>S.length-(intOf i).toNat)
 case atStart=>exact⟨0,aX _,rfl,cJ _ _ _ _,aA _⟩
 case round=>
  obtain⟨j,m,rfl,f,hK⟩:=hrel;have c1:=C1.o _ hK;have y:=af hK;have U:(0:Int)≤(j:Int):=(by omega);have V:(j:Int)≤1000001:=(by omega);by_cases c:j<S.length
  ·have D:(j:Int)<(n:Int):=(by omega);obtain⟨cs,rd,own⟩:=O.o _ hK j c;have a:=af (Ct S j c);have q:=af (aU (He S (j+1)) hl);obtain⟨x,M⟩:=ay (S[j]);rw[←M]at cs rd a;obtain⟨xf,J,au,av⟩:=x;simp only[ME,Rs.v]at cs rd a;have Z:=ak cs 1 _ rfl;obtain⟨os,u⟩:=ay (gU (S.take j));rw[←u]at f a;have r:aj (os.length+J.length≤1000000000000):=af (by have:=q.o;rw[a.o,cr]at this;exact this);have L:=af f;have Rd:=af rd;have K:=af c;obtain⟨X,oc,rfl⟩:=aq f;clear u f hK own M cs rd hl q p c m;(go_wp2_with (at_builtin;refine aQ rfl (.tmp 14) (.tmp 22) 67 rfl w.heap.size 9 i0 _ 1 16 underlying67 hi F G I rfl (by decide) _ os.length _ rfl L.o _ J.length _ rfl Rd.o (by have:=r.o;unfold maxLen;omega) (by have:=r.o;omega) y.o.size ?_;intro v5 N d s _ _));have T:aj (aI cT 9 N w.heap.size v5 (os++J)):=af (by
    unfold aI;rw[cr,bE];exact d)
   have R:aj (ah No w N):=af (y.o.trans s (fun i hi E=>absurd hi (bY.2 (L.o.lt i E).1)));clear d s;go_wp2;go_roundw
   case rel=>exact⟨j+1,K.o,by go_num,by rw[a.o];exact T.o,R.o⟩
   case measure=>have:=K.o;simp[intOf];omega
  ·have D:¬(j:Int)<(n:Int):=(by omega);rw[fA (by omega)]at f;have P:=af f;obtain⟨X,oc,rfl⟩:=aq f;clear f c m;go_wp2;go_ret;exact⟨_,rfl,P.o,y.o⟩
end
section
variable {w w':World}{q base c:Nat}{v:Value}{d:Ds}
theorem PD (L:List Rf)(k:Nat)(a:k<L.length):(bA (dn L)).take (k+1)=(bA (dn L)).take k++ [L[k].name.data.toList]:=by
 rw[iK (by simpa [bA]using a)];simp[bA,Cq]
theorem Hf (h:nS w q base v c d)(nm:ByteArray)(x:nm.size≤100):Calls prog 170 #[dP q,.string nm] w fun e w'=>∃tv,e= .returned tv∧aV w' w.heap.size tv (eO nm.data.toList (bA d.fs))∧ah No w w':=by
 obtain⟨i0,hi,H,I,J⟩:=fR Tryz.sA;obtain⟨L,is,rr,A,r,hl,_⟩:=h;rw[r];obtain⟨va,vc,rfl⟩:=aq A.own;have R:=af A;have P:=af hl;have M:=A.few;have Q:=af x;clear A hl r x;(go_enter func170,ntmps170);go_wp2
 go_loopw [5,6] (fun o' i wr=>∃k:Nat,k≤L.length∧i=qI k∧aV wr w.heap.size o' (eO nm.data.toList ((bA (dn L)).take k))∧ah No w wr) (fun _ i _=>L.length-(intOf i).toNat)
 case atStart=>exact⟨0,aX _,rfl,cJ _ _ _ _,aA _⟩
 case round=>
  obtain⟨k,au,rfl,l,hK⟩:=hrel;have K:=af (R.o.kept hK (fun h=>h) (fun _ _ h=>h));have c0:wr.cell? ⟨q,0,none⟩=some (.slice va L.length vc):=(by simp[World.cell?,K.o.cells]);have z:=af hK;by_cases b:k<L.length
  ·have E:(k:Int)<(L.length:Int):=(by omega);have V:(0:Int)≤(k:Int):=(by omega);have N:(k:Int)≤64:=(by omega);have m:aW kS wr (.slice va L.length vc) L:=K.o.own.reads;obtain⟨g,off,rfl,_,_,_⟩:=aW.addr kS m (by omega);have c3:ai wr g (off+k*3) 3=some (wJ L[k]):=aW.at kS m k b;have d0:wr.cell? ⟨g,off+k*3,none⟩=some (.string L[k].name):=ak c3 0 _ rfl;have p:=af (G4 wr nm L[k].name Q.o (by have:=P.o.lg L[k] (dw b);omega));have a:aj (eO nm.data.toList ((bA (dn L)).take (k+1))=eO nm.data.toList ((bA (dn L)).take k)++(iX nm.data.toList L[k].name.data.toList).toList):=af (by
    unfold eO;rw[PD L k b,List.filterMap_append];cases G:iX nm.data.toList L[k].name.data.toList<;>simp[G])
   have F:(eO nm.data.toList ((bA (dn L)).take k)).length≤64:=by
    refine aU (DB _ _) ?_;rw[fB];omega
   obtain⟨f,hf⟩:=ay (L[k].name);rw[←hf]at d0 p a;obtain⟨os,y⟩:=ay (eO nm.data.toList ((bA (dn L)).take k));rw[←y]at l a F;have B:=af l;obtain⟨Y,oc,rfl⟩:=aq l;obtain⟨S,hS⟩:=ay (iX nm.data.toList f.data.toList);rw[←hS]at p a;have T:=af hS;clear hf y l hK m c3 hS b;cases S with
   |none=>
    have hm:Ps none= -1:=rfl;(go_wp2_with fail);refine p.o.mono ?_;rintro e w1 ⟨rfl,rfl⟩;go_wp2;go_roundw
    case rel=>
     refine⟨k+1,by omega,by go_num,?_,z.o⟩;rw[a.o]
     simpa using B.o
    case measure=>simp[intOf];omega
   |some n=>
    have hm:Ps (some n)=(n:Int):=rfl;rw[hm]at p;have W:(0:Int)≤(n:Int):=(by omega);have X:n<100000000:=Al T.o.symm;(go_wp2_with fail);refine p.o.mono ?_;rintro e w1 ⟨rfl,rfl⟩;(go_wp2_with (at_builtin;refine xU _ rfl _ _ 135 rfl w.heap.size 3 i0 (qI 0) 1 8 underlying135 hi H I J rfl (by decide) _ _ _ rfl (B.o.alloc _) ⟨w1.heap.size,0,none⟩ 1 1 [qI n] rfl rfl (oF _ _ _) (by simp[Value.oneCell']) (by unfold maxLen;omega) (by omega) (by have:=z.o.size;simp;omega) ?_;intro v' Z j s _));have C:=af j;have U:aj (ah No w Z):=af ((z.o.alloc _).grown s (fun i D u=>absurd u (bY.2 (B.o.lt i D).1)));clear j s;go_wp2;go_roundw
    case rel=>
     refine⟨k+1,by omega,by go_num,?_,U.o⟩;unfold aV;rw[a.o,cr,kG];exact C.o
    case measure=>simp[intOf];omega
  ·have E:¬(k:Int)<(L.length:Int):=(by omega);have t:k=L.length:=(by omega);rw[t,fA (by simp[bA])]at l;have O:=af l;obtain⟨Y,oc,rfl⟩:=aq l;clear l b t;go_wp2;go_ret;exact⟨_,rfl,O.o,z.o⟩
end
theorem Tryz.PE:(prog.info? 158).map (fun i=>(i.zero,i.size,i.bytes))=some (some (.agg #[qI 0,.slice none 0 0]),2,32):=by kernel_rfl
abbrev KV:TypeId:=73
abbrev KW:TypeId:=169
def qL (g:Lg)(d:Ds):ByteArray×Ds:=bif decide ((d.look g.last).s.size<4096)then(g.last,d)else(g.file g.next,(d.sync g.last).2)
theorem PF {g:Lg}{d:Ds}{s:ByteArray}(a:decide ((d.look g.last).s.size<4096)=false)(b:decide (99999999<g.next)=true):g.lay d s=(8,g,d):=by
 unfold Lg.lay;rw[a,b];rfl
theorem MI {g:Lg}{d d2:Ds}{s:ByteArray}{e:Int}(h:decide ((d.look g.last).s.size<4096)=true∨decide (99999999<g.next)=false)(he:(qL g d).2.append (qL g d).1 (bI s)=(e,d2)):
 g.lay d s=bif e==0 then(0,⟨g.name,bif decide ((d.look g.last).s.size<4096)then g.aD else g.aD++ [g.next],g.next+1⟩,d2)else(e,g,d2):=by
 unfold qL at he;unfold Lg.lay;cases hb:decide ((d.look g.last).s.size<4096)with
 |true=>
  rw[hb]at he;simp only[cond_true]at he⊢;rw[he]
 |false=>
  rw[hb]at he;rcases h with h|h
  ·rw[h]at hb;cases hb
  ·rw[h];simp only[cond_false]at he⊢;rw[he]
def jl (w:World)(base b o:Nat)(t:TypeId)(C:Array Value)(nm:ByteArray)(sv:Value)(A:List Rs)(z:Rs)(q qb:Nat)(qv:Value)(c:Nat)(d1:Ds)(A1:List Rs)(e:Rs)(wx:World):Prop:=
 ∃a d,dz wx base b o t (C.setIfInBounds (o+1) a) nm a A1 e∧nS wx q qb d c d1∧(∀i,wz b a A1 e i→wz b sv A z i∨w.heap.size≤i)∧(∀i,d.ownBlock=some i→qv.ownBlock=some i∨w.heap.size≤i)∧ah (fun i=>wz b sv A z i∨QS q qv i) w wx
def Hg (w:World)(base b o:Nat)(t:TypeId)(C:Array Value)(nm:ByteArray)(sv:Value)(A:List Rs)(z:Rs)(q qb:Nat)(qv:Value)(c:Nat)(g':Lg)(d:Ds)(w':World):Prop:=
 ∃A' a,pJ nm A' a=g'∧jl w base b o t C nm sv A z q qb qv c d A' a w'
section
variable {w wx wy:World}{base b o:Nat}{t:TypeId}{C:Array Value}{nm:ByteArray}{sv:Value}{A:List Rs}{z:Rs}{q qb c:Nat}{qv:Value}{d:Ds}
theorem i_ {α:Type}{K:dX α}{e:TypeId}{v:Value}{l:List α}(h:aI K e w base v l){i:Nat}(hi:v.ownBlock=some i):∃X,w.heap[i]?=some (.cells X e (0,0)):=by
 rcases h.2 with⟨rfl,_⟩|⟨g,cap,cur,rfl,_,a,_⟩
 ·cases hi
 ·cases hi;exact⟨cur,a⟩
theorem dz.typed (h:dz w base b o t C nm sv A z){i:Nat}(hi:wz b sv A z i):∃X u,w.heap[i]?=some (.cells X u (0,0))∧(u=t∨u=zo∨u=oP):=by
 rcases hi with rfl|hi|⟨s,hs,hi⟩
 ·exact⟨_,_,h.box,.inl rfl⟩
 ·obtain⟨X,a⟩:=i_ h.row hi;exact⟨X,_,a,.inr (.inl rfl)⟩
 ·obtain⟨X,a⟩:=i_ (h.txt s hs) hi;exact⟨X,_,a,.inr (.inr rfl)⟩
theorem dz.Tq (h:dz w base b o t C nm sv A z)(g:nS w q qb qv c d)(a:t≠KV)(e:t≠KW){i:Nat}(hi:wz b sv A z i):¬QS q qv i:=by
 obtain⟨X,u,f,hu⟩:=h.typed hi;refine g.other f ?_ ?_
 ·rcases hu with rfl|rfl|rfl
  ·exact a
  ·decide
  ·decide
 ·rcases hu with rfl|rfl|rfl
  ·exact e
  ·decide
  ·decide
theorem PG {C:Array Value}{j:Nat}{u:Value}(h:C[j]?=some u):C.setIfInBounds j u=C:=by
 apply Array.ext_getElem?;intro i;rw[Array.getElem?_setIfInBounds]
 split
 ·rename_i e
  subst e;rw[dM (bX.1 h).1,h]
 ·rfl
theorem jl.refl (h:dz w base b o t C nm sv A z)(a:nS w q qb qv c d):jl w base b o t C nm sv A z q qb qv c d A z w:=
 ⟨sv,qv,by rw[PG h.c1];exact h,a,fun _ h=> .inl h,fun _ h=> .inl h,aA _⟩
theorem jl.no {d1:Ds}{A1:List Rs}{e:Rs}(h:jl w base b o t C nm sv A z q qb qv c d1 A1 e wx)(k:ah No wx wy):jl w base b o t C nm sv A z q qb qv c d1 A1 e wy:=by
 obtain⟨d,a,f,g,i,j,l⟩:=h;exact⟨d,a,f.no k,g.no k,i,j,l.mS k⟩
theorem jl.disk {d1 d2:Ds}{c2:Nat}{A1:List Rs}{g:Rs}{a d:Value}(h:dz wx base b o t (C.setIfInBounds (o+1) a) nm a A1 g)(m:nS wx q qb d c d1)(n:∀i,wz b a A1 g i→wz b sv A z i∨w.heap.size≤i)(j:∀i,d.ownBlock=some i→qv.ownBlock=some i∨w.heap.size≤i)
 (k:ah (fun i=>wz b sv A z i∨QS q qv i) w wx) (t1:t≠KV) (t2:t≠KW) (p:mC wx q qb d c2 d2 wy):jl w base b o t C nm sv A z q qb qv c2 d2 A1 g wy:=by
 obtain⟨f,k1,r,l⟩:=p;refine⟨a,f,h.kept l (fun i hi=>h.Tq m t1 t2 hi),k1,n,fun i hi=>?_,k.trans l (fun i hi e=>?_)⟩
 ·rcases r i hi with e|e
  ·exact j i e
  ·exact .inr (aU k.size e)
 ·rcases e with e|e
  ·exact .inr (.inl e)
  ·rcases j i e with e|e
   ·exact .inr (.inr e)
   ·exact absurd e (Nat.not_le.2 hi)
theorem jl.log {d1:Ds}{A1 A2:List Rs}{g z2:Rs}{a d f:Value}(m:dz wx base b o t (C.setIfInBounds (o+1) a) nm a A1 g)(h:nS wx q qb f c d1)(j:∀i,wz b a A1 g i→wz b sv A z i∨w.heap.size≤i)(n:∀i,f.ownBlock=some i→qv.ownBlock=some i∨w.heap.size≤i)
 (k:ah (fun i=>wz b sv A z i∨QS q qv i) w wx) (t1:t≠KV) (t2:t≠KW) (l1:dz wy base b o t (C.setIfInBounds (o+1) d) nm d A2 z2) (l2:∀i,wz b d A2 z2 i→wz b a A1 g i∨wx.heap.size≤i) (l:ah (wz b a A1 g) wx wy):
 jl w base b o t C nm sv A z q qb qv c d1 A2 z2 wy:=by
 refine⟨d,f,l1,h.kept l (fun i hi e=>m.Tq h t1 t2 e hi),fun i hi=>?_,n,k.trans l (fun i hi e=>?_)⟩
 ·rcases l2 i hi with e|e
  ·exact j i e
  ·exact .inr (aU k.size e)
 ·rcases j i e with e|e
  ·exact .inl e
  ·exact absurd e (Nat.not_le.2 hi)
def PI (w:World)(base b o:Nat)(t:TypeId)(C:Array Value)(nm:ByteArray)(sv:Value)(A:List Rs)(z:Rs)(q qb:Nat)(qv:Value)(c:Nat)(d2:Ds)(g1:Lg)(x:Nm)(lim:Nat)(v:Value)(wx:World):Prop:=
 ∃A2 z2,v=qI (A2.length:Nat)∧jl w base b o t C nm sv A z q qb qv c d2 A2 z2 wx∧pJ nm A2 ⟨z2.f,z2.l++ [x],none,0⟩=g1∧z2.f+(z2.l++ [x]).length≤1000000000000∧A2.length≤lim
theorem Ts (nm:ByteArray)(A:List Rs)(f:Nat)(l:List Nm)(a a':Option Addr)(c c':Nat):pJ nm A ⟨f,l,a,c⟩=pJ nm A ⟨f,l,a',c'⟩:=by
 unfold pJ;simp
theorem EH (h:dz w base b o t C nm sv A z)(eY:nS w q qb qv c d)(t1:t≠KV)(t2:t≠KW)(av:Value)(xs:List ByteArray)(cE:jg w av xs)(aL:∀i,av.ownBlock=some i→¬(wz b sv A z i∨QS q qv i))(hs:∀s∈xs,s.size≤65536)
 (hc:c+xs.length*70000≤1000000000) (hn:(pJ nm A z).next+xs.length≤1000000000) (hf:A.length+xs.length≤900000) (hb:base≤w.heap.size) (ec:Int) (g':Lg) (dK:Ds) (f4:layAll xs (pJ nm A z) d=(ec,g',dK)):
 Calls prog 182 #[.pointer (some ⟨b,o,none⟩),dP q,av] w fun e w'=>e= .returned (qI ec)∧Hg w base b o t C nm sv A z q qb qv (c+xs.length*70000) g' dK w':=by
 obtain⟨i0,hi,gG,gH,bp⟩:=fR Tryz.mN;obtain⟨iZ,iV,gI,gJ,gK⟩:=fR Tryz.PE;obtain⟨va,vc,rfl⟩:=cE.slice;obtain⟨G,f7⟩:=ay (pJ nm A z);rw[←f7]at f4 hn;have g_:=af f7;have fC:=af f4;have H:=af h;have iH:=af eY;have bC:=af cE;have bS:=af aL;have h_:=af hs;have iE:=af hc;have iG:=af hn;have iF:=af hf;have jt:=af hb;have eN:=af t1;have eO:=af t2;have hlen:(xs.length:Int)≤900000:=(by omega);clear h eY cE aL hs hc hn hf hb f4 f7 t1 t2;(go_enter func182,ntmps182);go_wp2
 go_loopw [7] (fun cU wr=>∃k:Nat,k≤xs.length∧cU=qI k∧w=wr) (fun cU _=>xs.length-(intOf cU).toNat)
 case atStart=>exact⟨0,aX _,rfl,rfl⟩
 case round=>
  obtain⟨k,dZ,rfl,rfl⟩:=hrel;have d5:(0:Int)≤(k:Int):=(by omega);have bk:(k:Int)≤900000:=(by omega);by_cases O:k<xs.length
  ·have bG:(k:Int)<(xs.length:Int):=(by omega);obtain⟨ga,off,ca,he,_,_,_,fe⟩:=jg.cell bC.o (by omega);simp only[Value.slice.injEq,true_and]at he;obtain⟨rfl,rfl⟩:=he;have fP:=fe k _ (fw O);have aQ:=h_.o xs[k] (dw O);obtain⟨s,hs⟩:=ay (xs[k]);rw[←hs]at fP aQ;have gy:¬(65536:Int)<(s.size:Int):=(by omega);have aC:=af O;clear hs fe aQ O dZ;go_wp2;go_roundw
   case rel=>exact⟨k+1,aC.o,by go_num,by first|rfl|trivial⟩
   case measure=>have:=aC.o;simp[intOf];omega
  ·have bG:¬(k:Int)<(xs.length:Int):=(by omega);clear d5 bk O dZ;go_wp2;clear bG
   go_loopw [8] (fun cU wr=>∃(k:Nat) (gk:Lg) (dk:Ds),k≤xs.length∧cU=qI k∧layAll (xs.take k) G d=(0,gk,dk)∧Hg w base b o t C nm sv A z q qb qv (c+k*70000) gk dk wr) (fun cU _=>xs.length-(intOf cU).toNat)
   case atStart=>exact⟨0,G,d,aX _,rfl,rfl,A,z,g_.o.symm,by rw[Nat.zero_mul,oG];exact jl.refl H.o iH.o⟩
   case round=>
    obtain⟨k,gk,dk,dZ,rfl,V,A1,D,bK,gU,cV,bA,c8,eV,eW,dL⟩:=hrel;have d5:(0:Int)≤(k:Int):=(by omega);have bk:(k:Int)≤900000:=(by omega);by_cases O:k<xs.length
    ·have bG:(k:Int)<(xs.length:Int):=(by omega);have dM:=bC.o.kept dL (fun i hi hs=>bS.o i hi hs);obtain⟨ga,off,ca,he,_,_,_,fe⟩:=jg.cell dM (by omega);simp only[Value.slice.injEq,true_and]at he;obtain⟨rfl,rfl⟩:=he;have eM:aj (∀W,ah (fun i=>wz b sv A z i∨QS q qv i) w W→W.cell? ⟨ga,off+k,none⟩=some (.string xs[k])):=af (fun W jc=>by
      obtain⟨fU,eu,fO,bg,_,_,_,gF⟩:=jg.cell (bC.o.kept jc (fun i hi hs=>bS.o i hi hs)) (by omega);simp only[Value.slice.injEq,Option.some.injEq,Addr.mk.injEq,true_and,and_true]at bg;obtain⟨⟨rfl,rfl⟩,rfl⟩:=bg;exact gF k _ (fw O))
     have fE:aj (ga<w.heap.size):=af (by
      obtain⟨fU,eu,fO,bg,_,_,gr,_⟩:=jg.cell bC.o (by omega);simp only[Value.slice.injEq,Option.some.injEq,Addr.mk.injEq,true_and,and_true]at bg;obtain⟨⟨rfl,rfl⟩,rfl⟩:=bg;exact gr)
     have aQ:=h_.o xs[k] (dw O);have cP:xs.take (k+1)=xs.take k++ [xs[k]]:=iK O;have dU:xs=xs.take (k+1)++xs.drop (k+1):=(jN _ _).symm;have cL:=p4 (xs.take k) G d;rw[V,fB]at cL;dsimp only at cL;obtain⟨s,hs⟩:=ay (xs[k]);rw[←hs]at eM aQ cP;have aF:=rE s (xs.take k) G d gk dk V;rw[←cP]at aF;have dn:=af dU;have bZ:=af aF;have aC:=af O;have bD:=af aQ;have H1:=af bA;have eG:=af c8;have fq:=af eV;have fu:=af eW;have eH:=af dL;have dX:gk.name=nm:=(by rw[←bK];rfl);have dY:gk.next=D.f+D.l.length:=(by rw[←bK];rfl);have dW:gk.last=aZ nm D.f:=(by rw[←bK];exact Dl nm A1 D);have cK:gk.aD=(A1++ [D]).map Rs.f:=(by rw[←bK];rfl);have Q:=af (And.intro dX (And.intro dY (And.intro dW cK)));have au:aj (A1.length≤900000-1∧D.f+D.l.length+1≤1000000000∧c+k*70000+70000≤1000000000):=af (by
      have e1:=iG.o;have e2:=iF.o;have e3:=iE.o;have jA:gk.aD.length=A1.length+1:=(by rw[cK];simp);have jB:G.aD.length=A.length+1:=(by rw[g_.o];simp[pJ]);have:(k+1)*70000≤xs.length*70000:=mY _ O;omega)
     have dB:=af bK;clear dM fe aQ cP dU cL hs V aF dX dY dW cK eV eW dL;obtain⟨g0,cap,rfl,_,_,_,_⟩:=bA.at';have c0:=bA.cell0;have c1:=bA.iM;have eP:=ak (bA.last rfl) 0 _ rfl;simp only[qH]at eP;have dV:=bA.lt D (by simp);have cZ:=af (fun W=>mV W nm (by have:=bA.nm;omega) D.f dV);have dh:=af (fun W=>Av W s (by have:=bD.o;omega));have bB:=af (fun W (cR:ah No wr W)=>MG (c8.no cR) (aZ nm D.f));have gb:=look_size c8 (aZ nm D.f);obtain⟨N,eX⟩:=ay ((dk.look (aZ nm D.f)).s.size);rw[←eX]at gb bB;obtain⟨eF,cA⟩:=ay (aZ nm D.f);rw[←cA]at cZ bB eX;have fF:=af eX;have fD:=af cA;obtain⟨K,hK⟩:=ay (A1.length);obtain⟨n,hn⟩:=ay (K+1);rw[←hK]at c1 eP;rw[←hn]at c1;have f_:K≤900000:=(by have:=au.o.1;omega);have hw:IntKind.i64.wrap ((n:Int)-1)=(K:Int):=(by rw[cI];omega);have iJ:(0:Int)≤(K:Int):=(by omega);have iL:(K:Int)<(n:Int):=(by omega);have M:=af (And.intro hK hn);obtain⟨zf,bJ⟩:=ay (D.f);rw[←bJ]at cZ;have ct:wr.cell? ⟨g0,K*2,none⟩=some (qI zf):=(by rw[bJ];exact eP);have iI:=af bJ;clear eP bA c8 eX cA hK hn f_ dV bJ O dZ bK;go_upto_region 10 with fail
     go_region_held3 (fun w'=>(w'.cell? ⟨b,o,none⟩=some (.string nm)∧w'.cell? ⟨b,o+1,none⟩=some (.slice (some ⟨g0,0,none⟩) n cap))∧w'.cell? ⟨g0,K*2,none⟩=some (qI zf))
      (first|exact⟨⟨c0,c1⟩,ct⟩|assumption)
      (first
        |(go_at_call 171
          have hc:=cZ.o
          with_reducible refine(hc _).mono ?_
          clear hc;rintro e eD ⟨rfl,m6,d_⟩;have c6:aj (ah No wr eD):=af (by rw[d_];exact((aA wr).drew).drewN _);have gi:(eD.cell? ⟨b,o,none⟩=some (.string nm)∧eD.cell? ⟨b,o+1,none⟩=some (.slice (some ⟨g0,0,none⟩) n cap))∧eD.cell? ⟨g0,K*2,none⟩=some (qI zf):=⟨⟨c6.o.cB c0,c6.o.cB c1⟩,c6.o.cB ct⟩;clear d_))
     have fP:eD.cell? ⟨ga,off+k,none⟩=some (.string s):=eM.o _ (eH.o.mS c6.o);clear gi c0 c1 ct cZ;go_wp2_with fail
     (with_reducible refine(dh.o _).mono ?_)
     rintro e jE ⟨rfl,d6⟩;have fM:=af (c6.o.aK d6);clear d6 c6 fP dh;go_wp2_with fail
     (with_reducible refine(bB.o _ fM.o).mono ?_)
     rintro e jr ⟨⟨jd,jC,rfl⟩,I⟩;have dJ:=af (fM.o.aK I);clear I fM bB;go_upto_if 70 with fail
     have aH:aj ((dk.look gk.last).s.size=N∧gk.last=eF):=af (by rw[Q.o.2.2.1, ←fD.o,fF.o];exact⟨rfl,rfl⟩);go_cut [10] (fun(v:Value) (wx:World)=>v= .string (qL gk dk).1∧(decide ((dk.look gk.last).s.size<4096)=true∨decide (99999999<gk.next)=false)∧jl w base b o t C nm sv A z q qb qv (c+k*70000) (qL gk dk).2 A1 D wx)
     case first=>
      by_cases dS:(4096:Int)≤(N:Int)
      ·have bu:=af (uG (H1.o.no dJ.o));obtain⟨X,cD⟩:=ay (D.f+D.l.length);rw[←cD]at bu;have bE:aj (gk.next=X):=af (by rw[Q.o.2.1,cD]);have dF:aj (decide ((dk.look gk.last).s.size<4096)=false):=af (by rw[aH.o.1];exact aJ (by omega));clear cD;(go_wp2_with fail);refine bu.o.mono ?_;rintro e iD ⟨rfl,bk⟩;have c7:=af (dJ.o.aK bk);clear bk dJ bu;by_cases jD:(99999999:Int)<(X:Int)
       ·have u:aj ((8:Int)=ec∧Hg w base b o t C nm sv A z q qb qv (c+xs.length*70000) g' dK iD):=af (by
         have e1:=bZ.o;rw[PF dF.o (by rw[bE.o];exact aM (by omega))]at e1;have e2:=fC.o;rw[dn.o,oq _ _ G d 8 _ e1 rfl]at e2;simp only[Prod.mk.injEq]at e2;obtain⟨rfl,rfl,rfl⟩:=e2;refine⟨rfl,A1,D,dB.o,?_⟩;obtain⟨gV,gP,m1,m2,m3⟩:=jl.no (wy:=iD) ⟨_,cV,H1.o,eG.o,fq.o,fu.o,eH.o⟩ c7.o;exact⟨gV,gP,m1,m2.up (by have:k*70000≤xs.length*70000:=mY _ (tX aC.o);omega),m3⟩)
        go_wp2;go_ret;exact⟨by rw[←u.o.1];rfl,u.o.2⟩
       ·obtain⟨⟨es,ds⟩,cH⟩:∃y,y=dk.sync eF:=⟨_,rfl⟩;have gY:=af (sN (eG.o.no c7.o) eF es ds cH.symm);have fA:=af cH;clear cH;(go_wp2_with fail);refine gY.o.mono ?_;rintro e L ⟨rfl,bO⟩;have fN:=jl.disk (w:=w) (A:=A) (z:=z) (sv:=sv) (qv:=qv) (C:=C) (H1.o.no c7.o) (eG.o.no c7.o) fq.o fu.o (eH.o.mS c7.o) eN.o eO.o bO;obtain⟨eA,ez,m1,m2,m3,m4,m5⟩:=fN;have c0:=m1.cell0;have bu:=af (fun W (cR:ah No L W)=>uG (m1.no cR));have dI:aj (X=D.f+D.l.length):=af (by rw[←bE.o,Q.o.2.1]);rw[←dI.o]at bu;have cZ:=af (fun W=>mV W nm (by have:=m1.nm;omega) X (by omega));have MM:aj (jl w base b o t C nm sv A z q qb qv (c+k*70000) ds A1 D L):=af ⟨eA,ez,m1,m2,m3,m4,m5⟩;clear bO m1 m2 m3 m4 m5 gY c7 dI;go_upto_region 17 with fail
        have jx:∀w',ah No L w'→w'.cell? ⟨b,o,none⟩=some (.string nm):=fun w' cR=>cR.cB c0
        go_region_held3 (fun w'=>ah No L w')
         (first|assumption|exact(aA L).drew|exact aA L)
         (first
           |(go_at_call 239
             have hc:=bu.o _ (by first|assumption|exact(aA L).drew|exact aA L)
             with_reducible refine hc.mono ?_
             clear hc;rintro e gW ⟨rfl,bM⟩;have iy:ah No L gW:=ah.trans (by first|assumption|exact(aA L).drew|exact aA L) bM (fun _ _ h=>h)
             clear bM)
           |(go_at_call 171
             have hc:=cZ.o
             with_reducible refine(hc _).mono ?_
             clear hc;rintro e eC ⟨rfl,m12,bR⟩;have dO:ah No L eC:=by
              rw[bR];exact ah.drewN (by first|assumption|exact(aA L).drew|exact aA L) m12
             clear bR))
        have u:aj (Value.string (aZ nm X)= .string (qL gk dk).1∧(decide ((dk.look gk.last).s.size<4096)=true∨decide (99999999<gk.next)=false)∧jl w base b o t C nm sv A z q qb qv (c+k*70000) (qL gk dk).2 A1 D eC):=af (by
         unfold qL;rw[dF.o,aN,aH.o.2, ←fA.o];refine⟨?_,.inr (by rw[bE.o];exact aJ (by omega)),MM.o.no dO⟩;unfold Lg.file;rw[bE.o,Q.o.1])
        (go_wp2_with fail);go_meet;exact u.o
      ·have u:aj (Value.string eF= .string (qL gk dk).1∧(decide ((dk.look gk.last).s.size<4096)=true∨decide (99999999<gk.next)=false)∧jl w base b o t C nm sv A z q qb qv (c+k*70000) (qL gk dk).2 A1 D jr):=af (by
        have e:decide ((dk.look gk.last).s.size<4096)=true:=(by rw[aH.o.1];exact aM (by omega));unfold qL;rw[e,bH,aH.o.2];exact⟨rfl,.inl rfl,jl.no ⟨_,cV,H1.o,eG.o,fq.o,fu.o,eH.o⟩ dJ.o⟩)
       (go_wp2_with fail);go_meet;exact u.o
     case rest=>
      obtain⟨hv,cN,iw⟩:=hcut;obtain⟨jF,gD⟩:=ay (wc);subst gD;obtain⟨⟨F,iQ⟩,cC⟩:∃y,y=qL gk dk:=⟨_,rfl⟩;rw[←cC]at hv iw;subst hv;obtain⟨jm,ji,m1,m2,m3,m4,m5⟩:=iw;obtain⟨⟨cv,d2⟩,aL⟩:∃y,y=iQ.append F (bI s):=⟨_,rfl⟩;have gq:(bI s).size=s.data.toList.length+7:=Vh s.data.toList;have gB:s.data.toList.length=s.size:=qR;have gX:=af (rY m2 F (bI s) (by have:=au.o;have:=bD.o;omega) (by have:=bD.o;omega) cv d2 aL.symm);have bW:=af (MI (s:=s) (e:=cv) (d2:=d2) cN (by rw[←cC];exact aL.symm));have ia:=af (fun wy eY=>(jl.disk (wy:=wy) m1 m2 m3 m4 m5 eN.o eO.o eY:jl w base b o t C nm sv A z q qb qv (c+k*70000+(bI s).size) d2 A1 D wy));have fK:aj (c+k*70000+(bI s).size≤c+(k+1)*70000):=af (by have:=bD.o;rw[nu];omega);have fG:=af cN;clear cC m1 m2 m3 m4 m5 aL gq gB cN dJ;(go_wp2_with fail);refine gX.o.mono ?_;rintro e U ⟨rfl,bP⟩;have cq:aj (jl w base b o t C nm sv A z q qb qv (c+(k+1)*70000) d2 A1 D U):=af (by
       obtain⟨s1,s2,gQ,gS,gT⟩:=ia.o U bP;exact⟨s1,s2,gQ,gS.up fK.o,gT⟩)
      clear bP ia gX;by_cases he:cv=0
      case neg=>
       have iR:(cv !=0)=true:=(by simpa using he);have dR:(cv==0)=false:=(by simpa using he);have u:aj (cv=ec∧Hg w base b o t C nm sv A z q qb qv (c+xs.length*70000) g' dK U):=af (by
        have e1:=bZ.o;rw[bW.o,dR,aN]at e1;have e2:=fC.o;rw[dn.o,oq _ _ G d cv _ e1 dR]at e2;simp only[Prod.mk.injEq]at e2;obtain⟨rfl,rfl,rfl⟩:=e2;refine⟨rfl,A1,D,dB.o,?_⟩;obtain⟨s1,s2,gQ,gS,gT⟩:=cq.o;exact⟨s1,s2,gQ,gS.up (by have:(k+1)*70000≤xs.length*70000:=mY _ aC.o;omega),gT⟩)
       go_wp2;go_ret;exact⟨by rw[←u.o.1];rfl,u.o.2⟩
      subst he;obtain⟨B,fW⟩:=ay (decide ((dk.look gk.last).s.size<4096));have bU:=af fW;obtain⟨g1,cJ⟩:=ay (⟨gk.name,bif B then gk.aD else gk.aD++ [gk.next],gk.next+1⟩:Lg)
      have dH:aj (layAll (xs.take (k+1)) G d=(0,g1,d2)):=af (by rw[bZ.o,bW.o,cJ,fW];rfl);have dx:=af cJ;clear fW cJ bW;go_upto_if 92 with fail
      go_cut [9] (fun(v:Value) (wx:World)=>PI w base b o t C nm sv A z q qb qv (c+(k+1)*70000) d2 g1 s.data.toList 900000 v wx)
      case first=>
       by_cases dS:(4096:Int)≤(N:Int)
       ·have dm:aj (B=false):=af (by rw[bU.o,aH.o.1];exact aJ (by omega));obtain⟨jo,jj,n1,je,n3,jf,jh⟩:=cq.o;obtain⟨g6,R,rfl,iU,iT,iY,gy⟩:=n1.at';have c1:=n1.iM;rw[←M.o.1, ←M.o.2]at c1;obtain⟨X,cD⟩:=ay (D.f+D.l.length);have bu:=af (fun W (cR:ah No U W)=>uG (n1.no cR));rw[←cD]at bu;have cg:=af cD;clear cD;go_upto_region 22 with fail
        refine dN (fun _=>True) (fun w'=>w'.cell? ⟨b,o+1,none⟩=some (.slice (some ⟨g6,0,none⟩) n R)) (fun j=>j==12) (by kernel_rfl) ?_;refine bQ.of [0,1,2,3,4,5] ?_
        repeat((first|(refine bQ.w (v:=?_) ?_ trivial c1 ?_;rotate_left;focus(intro w g;(try dsimp only at g);go_simp;(try rfl);done))|(refine bQ.l (v:=?_) ?_ trivial c1 ?_;rotate_left;focus(intro w g;(try dsimp only at g);go_simp;(try rfl);done)));try simp only[cw,b_,cn])
        refine bQ.nil ?_;refine eZ 6 (fun K hK=>?_);go_simp;have hc:=bu.o _ ((aA U).drew)
        with_reducible refine hc.mono ?_
        clear hc;rintro e bq ⟨rfl,bN⟩;have cQ:ah No U bq:=((aA (S:=No) U).drew).aK bN;have e1:=cQ.cB c1;go_simp;refine hK.out _ _ trivial (fun _=>e1) ?_;clear hK K bN;refine bQ.of [7] ?_
        repeat((first|(refine bQ.w (v:=?_) ?_ trivial e1 ?_;rotate_left;focus(intro w g;(try dsimp only at g);go_simp;(try rfl);done))|(refine bQ.l (v:=?_) ?_ trivial e1 ?_;rotate_left;focus(intro w g;(try dsimp only at g);go_simp;(try rfl);done)));try simp only[cw,b_,cn])
        refine bQ.nil ?_;have Y:aj (Reads (bq.alloc (.cells #[qI X,.slice none 0 0] zo)) 2 (.slice (some ⟨bq.heap.size,0,none⟩) 1 1) 1 (ME ⟨X,[],none,0⟩)):=af (jw BF bq zo ⟨X,[],none,0⟩);refine eZ 8 (fun K hK=>?_);go_simp;obtain⟨P,T⟩:=ay (bq.alloc (.cells #[qI X,.slice none 0 0] zo));rw[←T]at Y⊢;have aT:aj (ah No U P):=af (by rw[T];exact cQ.alloc _);have e2:=aT.o.cB c1;refine hK.out _ _ trivial (fun _=>e2) ?_;clear hK K T cQ e1;have E:=af (n1.no aT.o);have dG:aj (P.ownsRow base zo 2 (.slice (some ⟨g6,0,none⟩) n R) n (rowsOf BF (A1++ [D]))):=af (by
         have h:=E.o.row;unfold aI at h;rw[cr,gZ, ←M.o.1, ←M.o.2]at h;exact h)
        have iX:n≤1000000:=(by have:=au.o.1;have:=M.o;omega);have cF:base≤P.heap.size:=(by have:=(E.o.row.lt g6 rfl);omega);refine eZ 9 (fun K hK=>?_);refine bL (by rfl) (.tmp 97) (.tmp 101) 148 (by rfl) base zo iZ _ 2 32 underlying148 iV gI gJ gK (by rfl) (by decide) (.slice (some ⟨g6,0,none⟩) n R) n (rowsOf BF (A1++ [D])) (by rfl) dG.o _ 1 (ME ⟨X,[],none,0⟩) (by rfl) Y.o (by unfold maxLen;omega) (by omega) cF ?_;intro eB ai aE I aY _;have aV:aj (aI BF zo ai base eB ((A1++ [D])++ [⟨X,[],none,0⟩])):=af (by
         refine D3 (C:=BF) ?_;rw[cr,gZ, ←M.o.1, ←M.o.2];exact aE)
        have aO:¬Of (.slice (some ⟨g6,0,none⟩) n R) b:=fun e=>E.o.nb (by rw[←M.o.1, ←M.o.2];exact e);have aB:=af (I.heap E.o.box aO);have e3:=I.cell e2 aO;have bn:ah (Of (.slice (some ⟨g6,0,none⟩) (A1.length+1) R)) P ai:=(by rw[←M.o.1, ←M.o.2];exact I);have bf:∀i,eB.ownBlock=some i→(Value.slice (some ⟨g6,0,none⟩) (A1.length+1) R).ownBlock=some i∨P.heap.size≤i:=aY;have PP:=af (dz.push E.o (by have:=fG.o;rw[←bU.o,dm.o]at this;rcases this with e|e;cases e;have:=wQ e;have:=Q.o.2.1;have:=cg.o;omega) bn aV.o bf (by have:=au.o.1;omega))
        have dD:=af bn;have di:=af bf;obtain⟨dc,uc,rfl⟩:=aq aE;refine tY (d:=102) rfl ?_;simp only[cw,b_,cn];refine hK.out _ _ trivial (fun _=>e3) ?_;clear hK K aE I aY aO bn bf Y;refine bQ.of [10,11] ?_
        repeat((first|(refine bQ.w (v:=?_) ?_ trivial e3 ?_;rotate_left;focus(intro w g;(try dsimp only at g);go_simp;(try rfl);done))|(refine bQ.l (v:=?_) ?_ trivial e3 ?_;rotate_left;focus(intro w g;(try dsimp only at g);go_simp;(try rfl);done)));try simp only[cw,b_,cn])
        refine bQ.nil ?_;have fT:=bF (j:=o+1) _ _ _ _ aB.o;have gM:b<ai.heap.size:=(bX.1 aB.o).1;refine eZ 12 (fun K hK=>?_);go_simp;refine hK.out _ _ trivial (pH 12 rfl (by kernel_rfl)) ?_;clear hK K;refine sZ (by kernel_rfl) ?_ _;obtain⟨eE,Z⟩:=ay (ai.setCell ⟨b,o+1,none⟩ (.slice dc (n+1) uc));have u:aj (PI w base b o t C nm sv A z q qb qv (c+(k+1)*70000) d2 g1 s.data.toList 900000 (qI ((K:Int)+1)) eE):=af (by
         have l1:=PP.o;rw[←Z,Array.setIfInBounds_setIfInBounds]at l1;have gL:ah (wz b (.slice (some ⟨g6,0,none⟩) (A1.length+1) R) A1 D) U eE:=by
          rw[Z];exact((aT.o.mono (fun _ _ h=>h.elim)).trans dD.o (fun i _ e=> .inr (.inl e))).setCell (p:=⟨b,o+1,none⟩) (fun _=> .inl rfl) _
         refine⟨A1++ [D],⟨X,[],none,0⟩,by rw[M.o.1,cr,gZ];exact fJ (Value.int .i64) (by omega),jl.log n1 je n3 jf jh eN.o eO.o l1 (fun i hi=>?_) gL,?_,by show X+1≤_;have:=au.o.2.1;have:=cg.o;omega,by rw[cr,gZ];have:=au.o.1;omega⟩
         ·rcases hi with e|e|⟨r,aP,e⟩
          ·exact .inl (.inl e)
          ·rcases di.o i e with e|e
           ·exact .inl (.inr (.inl e))
           ·exact .inr (aU aT.o.size e)
          ·rcases fQ.1 aP with aP|aP
           ·exact .inl (.inr (.inr ⟨r,aP,e⟩))
           ·rw[dA]at aP;subst aP;cases e
         ·rw[dx.o,dm.o,aN,Q.o.1,Q.o.2.2.2,Q.o.2.1, ←cg.o];unfold pJ;rw[fI (l₂:= [_])];rfl)
        rw[←Z];clear Z PP fT gM aB aV dD di e3 e2 dG E c1 bu;(go_wp2_with fail);go_meet;exact u.o
       ·have u:aj (PI w base b o t C nm sv A z q qb qv (c+(k+1)*70000) d2 g1 s.data.toList 900000 (qI (K:Nat)) U):=af (by
         have fZ:B=true:=(by rw[bU.o,aH.o.1];exact aM (by omega));refine⟨A1,D,by rw[M.o.1],cq.o,?_,by have:=au.o.2.1;rw[cr,gZ];omega,by have:=au.o.1;omega⟩;rw[dx.o,fZ,bH,Q.o.1,Q.o.2.1,Q.o.2.2.2];unfold pJ;rw[cr,gZ,fI,fI];rfl)
        (go_wp2_with fail);go_meet;exact u.o
      case rest=>
       obtain⟨A2,z2,hv,⟨jq,jk,ew,iA,iB,iC,gN⟩,d9,bp,fV⟩:=hcut;obtain⟨wf,gE⟩:=ay (wc);subst gE;subst hv;obtain⟨g7,aW,rfl,gn,gj,gu,gA⟩:=ew.at';have d1:=ew.iM;have cu:=ak (ew.last rfl) 1 _ rfl;have eS:=eM.o _ gN;obtain⟨f2,l2,a2,c2⟩:=z2;simp only[Rs.v]at cu;have ig:=af ew;have iN:=af iA;have ij:=af iB;have iO:=af iC;have iP:=af gN;have fH:=af d9;have fL:=af bp;obtain⟨J,f9⟩:=ay (A2.length);obtain⟨m,hm⟩:=ay (J+1);obtain⟨ln,cM⟩:=ay (l2.length);rw[←f9]at d1 cu fV⊢;rw[←hm]at d1;rw[←cM]at cu;have ju:(0:Int)≤(J:Int):=(by omega);have jv:(J:Int)<(m:Int):=(by omega);have aG:=af (And.intro f9 (And.intro hm cM));have iW:ln≤1000000000000:=by
        have e:=bp;rw[cr,gZ]at e;simp only at e;omega
       clear ew iA iB iC gN d9 bp f9 hm cM gn gj gA gu eM iJ iL hw;go_upto_region 24 with fail
       refine dN (fun _=>True) (fun w'=>(w'.cell? ⟨b,o+1,none⟩=some (.slice (some ⟨g7,0,none⟩) m aW)∧w'.cell? ⟨g7,J*2+1,none⟩=some (.slice a2 ln c2))∧w'.cell? ⟨ga,off+k,none⟩=some (.string s)) (fun j=>j==21) (by kernel_rfl) ?_;refine bQ.of [0,1,2,3,4,5,6,7,8,9,10,11,12,13,14,15,16] ?_
       repeat((first|(refine bQ.w (v:=?_) ?_ trivial ⟨⟨d1,cu⟩,eS⟩ ?_;rotate_left;focus(intro w g;(try dsimp only at g);go_simp;(try rfl);done))|(refine bQ.l (v:=?_) ?_ trivial ⟨⟨d1,cu⟩,eS⟩ ?_;rotate_left;focus(intro w g;(try dsimp only at g);go_simp;(try rfl);done)));try simp only[cw,b_,cn])
       refine bQ.nil ?_;have Y:aj (Reads (wf.alloc (.cells #[.string s] oP)).drew 1 (.slice (some ⟨wf.heap.size,0,none⟩) 1 1) 1 [.string s]):=af (Reads.kept (S:=No) ((aA _).drew) (jw cT wf oP s.data.toList) (fun _ _ h=>h));refine eZ 17 (fun K hK=>?_);go_simp;obtain⟨P,T⟩:=ay ((wf.alloc (.cells #[.string s] oP)).drew);rw[←T]at Y⊢;have aT:aj (ah No wf P):=af (by rw[T];exact((aA wf).alloc _).drew);have e1:=aT.o.cB d1;have fS:=aT.o.cB cu;have ex:=aT.o.cB eS;refine hK.out _ _ trivial (fun _=>⟨⟨e1,fS⟩,ex⟩) ?_;clear hK K T d1 cu eS;have E:=af (ig.o.no aT.o);have ic:aj (aI cT oP P base (.slice a2 l2.length c2) l2):=af (E.o.txt ⟨f2,l2,a2,c2⟩ (by simp));have dG:aj (P.ownsRow base oP 1 (.slice a2 ln c2) ln (rowsOf cT l2)):=af (by
        have h:=ic.o;unfold aI at h;rw[←aG.o.2.2]at h;exact h)
       have cF:aj (base≤P.heap.size):=af (by have:=(E.o.row.lt g7 rfl);omega);have iz:¬g7=b:=fun e=>E.o.nb (by rw[e];rfl);refine eZ 18 (fun K hK=>?_);refine bL (by rfl) (.tmp 119) (.tmp 124) 67 (by rfl) base oP i0 _ 1 16 underlying67 hi gG gH bp (by rfl) (by decide) (.slice a2 ln c2) ln (rowsOf cT l2) (by rfl) dG.o _ 1 [.string s] (by rfl) Y.o (by unfold maxLen;omega) (by omega) cF.o ?_;intro eB ai aE I aY _;have aV:aj (aI cT oP ai base eB (l2++ [s.data.toList])):=af (by
        refine D3 (C:=cT) ?_;rw[←aG.o.2.2];exact aE)
       have aR:(⟨f2,l2,a2,c2⟩:Rs)∈A2++ [⟨f2,l2,a2,c2⟩]:=(by simp);have aS:∀i,Of (.slice a2 ln c2) i→(⟨f2,l2,a2,c2⟩:Rs).v.ownBlock=some i:=fun i e=>by
        show(Value.slice a2 l2.length c2).ownBlock=some i;rw[←aG.o.2.2];exact e
       have d8:¬Of (.slice a2 ln c2) b:=fun e=>E.o.nt _ aR (aS b e);have cO:¬Of (.slice a2 ln c2) g7:=fun e=>E.o.zq aR g7 rfl (aS g7 e);have aO:¬Of (.slice a2 ln c2) ga:=fun e=>by
        have h0:wz b (.slice (some ⟨g7,0,none⟩) (A2.length+1) aW) A2 ⟨f2,l2,a2,c2⟩ ga:= .inr (.inr ⟨_,aR,aS ga e⟩);rcases ij.o ga h0 with e2|e2
        ·exact bS.o ga rfl (.inl e2)
        ·exact absurd fE.o (bY.2 e2)
       have eT:=I.cell ex aO;have f1:=I.cell e1 d8;have eU:=I.cell fS cO;obtain⟨jy,dQ⟩:=i_ E.o.row (i:=g7) rfl;have aB:=af (I.heap dQ cO);have bV:aj (ah (Of (⟨f2,l2,a2,c2⟩:Rs).v) P ai):=af (I.mono (fun i _ e=>aS i e));have bT:aj (∀i,eB.ownBlock=some i→(⟨f2,l2,a2,c2⟩:Rs).v.ownBlock=some i∨P.heap.size≤i):=af (fun i hi=>(aY i hi).elim (fun e=> .inl (aS i e)) .inr);obtain⟨dc,uc,rfl⟩:=aq aE;have iq:=af (dz.grow E.o (x:=s.data.toList) (a:=dc) (c:=uc) (n:=ln+1) (by rw[cr,gZ, ←aG.o.2.2]) bV.o (by have h:=aV.o;unfold aI at h⊢;exact h) bT.o rfl fL.o);refine tY (d:=125) rfl ?_;simp only[cw,b_,cn];refine hK.out _ _ trivial (fun _=>⟨⟨f1,eU⟩,eT⟩) ?_;clear hK K aE I aY d8 cO aO aS dQ e1 fS ex;refine bQ.of [19,20] ?_
       repeat((first|(refine bQ.w (v:=?_) ?_ trivial ⟨⟨f1,eU⟩,eT⟩ ?_;rotate_left;focus(intro w g;(try dsimp only at g);go_simp;(try rfl);done))|(refine bQ.l (v:=?_) ?_ trivial ⟨⟨f1,eU⟩,eT⟩ ?_;rotate_left;focus(intro w g;(try dsimp only at g);go_simp;(try rfl);done)));try simp only[cw,b_,cn])
       refine bQ.nil ?_;have fT:=bF (j:=J*2+1) _ _ _ _ aB.o;have gM:g7<ai.heap.size:=(bX.1 aB.o).1;refine eZ 21 (fun K hK=>?_);go_simp;refine hK.out _ _ trivial (pH 21 rfl (by kernel_rfl)) ?_;clear hK K;refine sZ (by kernel_rfl) ?_ _;obtain⟨eE,Z⟩:=ay (ai.setCell ⟨g7,J*2+1,none⟩ (.slice dc (ln+1) uc));have u:aj (Hg w base b o t C nm sv A z q qb qv (c+(k+1)*70000) g1 d2 eE):=af (by
        have l1:=iq.o;rw[←aG.o.1, ←Z]at l1;have gL:ah (wz b (.slice (some ⟨g7,0,none⟩) (A2.length+1) aW) A2 ⟨f2,l2,a2,c2⟩) wf eE:=by
         rw[Z];exact((aT.o.mono (fun _ _ h=>h.elim)).trans bV.o (fun i _ e=> .inr (.inr ⟨_,aR,e⟩))).setCell (p:=⟨g7,J*2+1,none⟩) (fun _=> .inr (.inl rfl)) _
        refine⟨A2,⟨f2,l2++ [s.data.toList],dc,uc⟩,by rw[←fH.o];exact Ts _ _ _ _ _ _ _ _,jl.log ig.o iN.o ij.o iO.o iP.o eN.o eO.o l1 (fun i hi=>?_) gL⟩;rcases hi with e|e|⟨r,aP,e⟩
        ·exact .inl (.inl e)
        ·exact .inl (.inr (.inl e))
        ·rcases fQ.1 aP with aP|aP
         ·exact .inl (.inr (.inr ⟨r,by simp[aP],e⟩))
         ·rw[dA]at aP;subst aP;rcases bT.o i (by
           have iu:(Value.slice dc (l2++ [s.data.toList]).length uc).ownBlock=some i:=e;rw[cr,gZ, ←aG.o.2.2]at iu;exact iu)with e|e
          ·exact .inl (.inr (.inr ⟨_,aR,e⟩))
          ·exact .inr (aU aT.o.size e))
       rw[←Z];clear Z iq fT gM aB aV bV bT f1 eU eT dG ic E aR;go_wp2;go_roundw
       case rel=>exact⟨k+1,g1,d2,aC.o,by go_num,dH.o,u.o⟩
       case measure=>have:=aC.o;simp[intOf];omega
    ·have bG:¬(k:Int)<(xs.length:Int):=(by omega);have u:aj ((0:Int)=ec∧Hg w base b o t C nm sv A z q qb qv (c+xs.length*70000) g' dK wr):=af (by
      have d7:k=xs.length:=(by omega);rw[d7,jH]at V;have e2:=fC.o;rw[V]at e2;simp only[Prod.mk.injEq]at e2;obtain⟨rfl,rfl,rfl⟩:=e2;rw[←d7];exact⟨rfl,A1,D,bK,gU,cV,bA,c8,eV,eW,dL⟩)
     clear bK bA c8 eV eW dL V O dZ;go_wp2;go_ret;exact⟨by rw[←u.o.1];rfl,u.o.2⟩
end
abbrev RB:TypeId:=150
structure mh (w:World)(base:Nat)(sv:Value)(S:List Rs):Prop where
 row:aI BF zo w base sv S
 txt:∀s∈S,aI cT oP w base s.v s.l
 sep:S.Pairwise fun s t=>∀i,s.v.ownBlock=some i→¬t.v.ownBlock=some i
 lt:∀s∈S,s.f<100000000
def Hj (sv:Value)(S:List Rs):Nat→Prop:=fun i=>sv.ownBlock=some i∨∃s∈S,s.v.ownBlock=some i
section
variable {w w' w1:World}{base b o:Nat}{t:TypeId}{C:Array Value}{nm:ByteArray}{sv JY:Value}{S:List Rs}{A:List Rs}{z:Rs}
theorem mh.kept {X:Nat→Prop}(h:mh w base sv S)(k:ah X w w')(a:∀i,Hj sv S i→¬X i):mh w' base sv S:=
 ⟨cD h.row k (fun i hi=>a i (.inl hi)),fun s hs=>cD (h.txt s hs) k (fun i hi=>a i (.inr ⟨s,hs,hi⟩)),h.sep,h.lt⟩
theorem mh.no (h:mh w base sv S)(k:ah No w w'):mh w' base sv S:=h.kept k (fun _ _ h=>h)
theorem mh.typed (h:mh w base sv S){i:Nat}(hi:Hj sv S i):∃X u,w.heap[i]?=some (.cells X u (0,0))∧(u=zo∨u=oP):=by
 rcases hi with hi|⟨s,hs,hi⟩
 ·obtain⟨X,a⟩:=i_ h.row hi;exact⟨X,_,a,.inl rfl⟩
 ·obtain⟨X,a⟩:=i_ (h.txt s hs) hi;exact⟨X,_,a,.inr rfl⟩
theorem mh.other (h:mh w base sv S){i:Nat}{X:Array Value}{u:TypeId}(hi:w.heap[i]?=some (.cells X u (0,0)))(b:u≠zo)(c:u≠oP):¬Hj sv S i:=by
 intro e;obtain⟨Y,v,a,hv⟩:=h.typed e;rw[hi]at a;simp only[Option.some.injEq,Obj.cells.injEq]at a;rcases hv with hv|hv
 ·exact b (a.2.1.trans hv)
 ·exact c (a.2.1.trans hv)
theorem mh.lt' (h:mh w base sv S){i:Nat}(hi:Hj sv S i):i<w.heap.size:=by
 obtain⟨X,u,a,_⟩:=h.typed hi;exact(bX.1 a).1
theorem mh.ge (h:mh w base sv S){i:Nat}(hi:Hj sv S i):base≤i:=by
 rcases hi with hi|⟨s,hs,hi⟩
 ·exact(h.row.lt i hi).1
 ·exact((h.txt s hs).lt i hi).1
theorem mh.lower {base':Nat}(h:mh w base sv S)(hb:base'≤base):mh w base' sv S:=
 ⟨aI.base h.row hb,fun s hs=>aI.base (h.txt s hs) hb,h.sep,h.lt⟩
theorem mh.log (h:mh w base sv (A++ [z]))(box:w.heap[b]?=some (.cells C t (0,0)))(c0:C[o]?=some (.string nm))(c1:C[o+1]?=some sv)(t1:t≠zo)(t2:t≠oP)(nx:z.f+z.l.length≤1000000000000)(few:A.length≤1000000)(hn:nm.size≤16):
 dz w base b o t C nm sv A z:=
 ⟨box,c0,c1,h.row,h.txt,h.sep,fun e=>h.other box t1 t2 (.inl e),fun s hs e=>h.other box t1 t2 (.inr ⟨s,hs,e⟩),h.lt,nx,few,hn⟩
theorem mh.push (h:mh w base sv S){x:Rs}(k:ah (Of sv) w w1)(c:aI BF zo w1 base JY (S++ [x]))(b:aI cT oP w base x.v x.l)(a:∀s∈S,∀i,s.v.ownBlock=some i→¬x.v.ownBlock=some i)(hf:x.f<100000000):
 mh w1 base JY (S++ [x]):=by
 have apart:∀s:Rs,aI cT oP w base s.v s.l→∀i,s.v.ownBlock=some i→¬Of sv i:=fun s hs i hi e=>nE h.row hs (by decide) i e hi;refine⟨c,fun s hs=>?_,?_,fun s hs=>?_⟩
 ·rcases fQ.1 hs with hs|hs
  ·exact cD (h.txt s hs) k (apart s (h.txt s hs))
  ·rw[dA]at hs;subst hs;exact cD b k (apart s b)
 ·rw[nV];refine⟨h.sep,JX _ _,fun s hs y hy i hi=>?_⟩;rw[dA]at hy;subst hy;exact a s hs i hi
 ·rcases fQ.1 hs with hs|hs
  ·exact h.lt s hs
  ·rw[dA]at hs;subst hs;exact hf
end
def EI (w:World)(q qb:Nat)(qv:Value)(c:Nat)(nm:ByteArray)(g:Lg)(out:List Nm)(a:Ds)(e:Ending)(w':World):Prop:=
 ∃sv A z,e= .returned (.tuple #[.agg #[.string nm,sv],qI 0])∧mh w' w.heap.size sv (A++ [z])∧pJ nm A z=g∧gU (A++ [z])=out∧mC w q qb qv c a w'∧A.length≤64
structure jm (w wr:World)(l r q qb:Nat)(qv:Value)(c:Nat)(nm:ByteArray)(tv:Value)(there:List Nat)(sv:Value)(S:List Rs)(st:lu)(k:Nat):Prop where
 box:wr.heap[l]?=some (.cells #[.string nm,sv] RB (0,0))
 res:wr.heap[r]?=some (.cells #[.string ⟨#[]⟩,.slice none 0 0] RB (0,0))
 UD:l≠r
 ll:w.heap.size≤l
 lr:w.heap.size≤r
 th:aV wr w.heap.size tv there
 sg:mh wr w.heap.size sv S
 fs:S.map Rs.f=st.aD
 ts:gU S=st.out
 nx:∀A z,S=A++ [z]→st.next=z.f+z.l.length
 ds:mC w q qb qv c st.d wr
 bl:S.length≤k
 bn:st.next≤100000000+k*599187
section
variable {w wr wy:World}{l r q qb:Nat}{qv:Value}{c:Nat}{nm:ByteArray}{tv:Value}{there:List Nat}{sv:Value}{S:List Rs}{st:lu}{k:Nat}
theorem jm.no (h:jm w wr l r q qb qv c nm tv there sv S st k)(a:ah No wr wy):jm w wy l r q qb qv c nm tv there sv S st k:=
 ⟨a.heap h.box (fun h=>h),a.heap h.res (fun h=>h),h.UD,h.ll,h.lr,a.mM h.th,h.sg.no a,h.fs,h.ts,h.nx,by
   obtain⟨v',b,d,e⟩:=h.ds;exact⟨v',b.no a,d,e.mS a⟩,h.bl,h.bn⟩
theorem jm.up (h:jm w wr l r q qb qv c nm tv there sv S st k):jm w wr l r q qb qv c nm tv there sv S st (k+1):=
 ⟨h.box,h.res,h.UD,h.ll,h.lr,h.th,h.sg,h.fs,h.ts,h.nx,h.ds,Nat.le_succ_of_le h.bl,aU h.bn (Nat.add_le_add_left (mY _ (q6 k)) _)⟩
theorem qw {base:Nat}{v:Value}{L:List Nat}(h:aV w base v L){i:Nat}(hi:v.ownBlock=some i):∃X,w.heap[i]?=some (.cells X 3 (0,0)):=by
 rcases h.2 with⟨rfl,_⟩|⟨g,cap,cur,rfl,_,a,_⟩
 ·cases hi
 ·cases hi;exact⟨cur,a⟩
theorem jm.disk {v1:Value}{d2:Ds}{whole:Bool}(h:jm w wr l r q qb qv c nm tv there sv S st k)(b:nS wr q qb v1 c st.d)(f:∀i,v1.ownBlock=some i→qv.ownBlock=some i∨w.heap.size≤i)(g:ah (QS q qv) w wr)(j:mC wr q qb v1 c d2 wy):
 jm w wy l r q qb qv c nm tv there sv S ⟨whole,st.aD,st.next,st.out,d2⟩ k:=by
 obtain⟨v2,k1,m,a⟩:=j;exact⟨a.heap h.box (b.other h.box (by decide) (by decide)),a.heap h.res (b.other h.res (by decide) (by decide)),h.UD,h.ll,h.lr,
  a.owns h.th (fun i hi=>by obtain⟨X,e⟩:=qw h.th hi;exact b.other e (by decide) (by decide)),
  h.sg.kept a (fun i hi=>by
    obtain⟨X,u,e,hu⟩:=h.sg.typed hi;exact b.other e (by rcases hu with rfl|rfl<;>decide) (by rcases hu with rfl|rfl<;>decide)),
  h.fs,h.ts,h.nx,mC.trans f g ⟨v2,k1,m,a⟩,h.bl,h.bn⟩
end
theorem Hl {d d1:Ds}{nm:ByteArray}{there:List Nat}(h:gQ d nm=(0,there,d1))(hl:(eO nm.data.toList (bA d.fs)).length≤64):0<there.length∧there.length≤64∧∀n∈there,n<100000000:=by
 unfold gQ at h;cases hb:(eO nm.data.toList (bA d.fs)).isEmpty with
 |true=>
  rw[hb]at h;simp only[cond_true,Prod.mk.injEq]at h;obtain⟨_,rfl,_⟩:=h;exact⟨by decide,by decide,fun n hn=>by rw[dA]at hn;omega⟩
 |false=>
  rw[hb]at h;simp only[cond_false,Prod.mk.injEq]at h;obtain⟨_,rfl,_⟩:=h;refine⟨?_,hl,fun n hn=>?_⟩
  ·cases hs:eO nm.data.toList (bA d.fs)with
   |nil=>rw[hs]at hb;cases hb
   |cons a l=>exact Nat.succ_pos _
  ·unfold eO at hn;obtain⟨f,_,hf⟩:=List.mem_filterMap.1 hn;exact Al hf
theorem Ho (nm:ByteArray)(fr:List Nat)(n:Nat)(a:List Nm)(dd:Ds):ju nm ⟨true,fr,n,a,dd⟩ n=⟨decide (bK (parse (dd.look (aZ nm n)).s.data.toList)=(dd.look (aZ nm n)).s.size),fr++ [n],n+(parse (dd.look (aZ nm n)).s.data.toList).length,a++parse (dd.look (aZ nm n)).s.data.toList,(dd.truncate (aZ nm n) (bK (parse (dd.look (aZ nm n)).s.data.toList))).2⟩:=by
 unfold ju c7 lu.recs;simp
theorem PJ (nm:ByteArray)(there:List Nat)(d:Ds)(h:0<there.length):0<(vw nm there d).aD.length:=by
 obtain⟨F,_,a⟩:=xu nm there ⟨true,[],there.headD 0,[],d⟩;unfold vw;rw[a];exact FD nm there d h
section
variable {w wr wy:World}{q qb c:Nat}{qv:Value}{d:Ds}
theorem nS.few (h:nS w q qb qv c d)(nm:Nm):(eO nm (bA d.fs)).length≤64:=by
 obtain⟨L,is,rr,b,a,_⟩:=h;refine aU (DB _ _) ?_;rw[a]
 simpa [bA]using b.few
theorem mC.after {c2:Nat}{d2:Ds}{w' w2:World}(h:mC w q qb qv c2 d2 w')(k:ah No w' w2):mC w q qb qv c2 d2 w2:=by
 obtain⟨v',a,b,c⟩:=h;exact⟨v',a.no k,b,c.mS k⟩
theorem aV.lower {b b':Nat}{v:Value}{L:List Nat}(h:aV w b v L)(hb:b'≤b):aV w b' v L:=jD h hb
theorem aV.cell {b:Nat}{v:Value}{L:List Nat}(h:aV w b v L)(hl:0<L.length):∃g off c,v= .slice (some ⟨g,off,none⟩) L.length c∧∀(j n:Nat),L[j]?=some n→w.cell? ⟨g,off+j,none⟩=some (qI n):=by
 obtain⟨g,off,c,a,_,_,_,d⟩:=rC.cell (Reads.fu h (fun u hu=>lq u L hu)) hl;exact⟨g,off,c,a,d⟩
theorem jm.push {l r k:Nat}{nm:ByteArray}{tv sv JY:Value}{there fr:List Nat}{D:List Nm}{S:List Rs}{n:Nat}{dd:Ds}{I U7:Bool}{o b:World}{x:Rs}(h:jm w o l r q qb qv c nm tv there sv S ⟨I,fr,n,D,dd⟩ k)(a:ah (Of sv) o b)
 (F:aI BF zo b w.heap.size JY (S++ [x])) (G:aI cT oP o w.heap.size x.v x.l) (j:∀s∈S,∀i,s.v.ownBlock=some i→¬x.v.ownBlock=some i) (hf:x.f=n) (y:n<100000000) (H:x.l.length≤599187):
 jm w (b.setCell ⟨l,1,none⟩ JY) l r q qb qv c nm tv there JY (S++ [x]) ⟨U7,fr++ [n],n+x.l.length,D++x.l,dd⟩ (k+1):=by
 have nb:∀i X u,o.heap[i]?=some (.cells X u (0,0))→u≠zo→¬Of sv i:=fun i X u hi hu e=>by
  obtain⟨Y,g⟩:=i_ h.sg.row e;rw[hi]at g;simp only[Option.some.injEq,Obj.cells.injEq]at g;exact hu g.2.1
 have B:=a.heap h.box (nb l _ _ h.box (by decide));have m:ah (Own l) b (b.setCell ⟨l,1,none⟩ JY):=(aA (S:=Own l) b).setCell (p:=⟨l,1,none⟩) (fun _=>(rfl:l=l)) _;have E:=h.sg.push a F G j (by rw[hf];exact y);refine⟨aB B _,m.heap (a.heap h.res (nb r _ _ h.res (by decide))) (fun e=>h.UD e.symm),h.UD,h.ll,h.lr,m.owns (a.owns h.th (fun i hi=>by obtain⟨X,d⟩:=qw h.th hi;exact nb i _ _ d (by decide))) (fun i hi e=>?_),E.kept m (fun i hi e=>?_),by rw[fI,h.fs];simp[hf],?_,?_,?_,?_,?_⟩
 ·obtain⟨X,d⟩:=qw h.th hi;rw[show i=l from e,h.box]at d
  simp only[Option.some.injEq,Obj.cells.injEq]at d;exact absurd d.2.1 (by decide)
 ·rw[show i=l from e]at hi
  exact E.other B (by decide) (by decide) hi
 ·unfold gU;rw[qT];have:=h.ts;unfold gU at this;rw[this];simp
 ·intro A z hs;obtain⟨_,C⟩:=List.append_inj' hs rfl;simp only[List.cons.injEq,and_true]at C;subst C;show n+x.l.length=x.f+x.l.length;rw[hf]
 ·obtain⟨v',t,a2,a3⟩:=h.ds;have t1:∀i,QS q v' i→¬Of sv i:=fun i hi e=>by
   obtain⟨Y,g⟩:=i_ h.sg.row e;exact t.other g (by decide) (by decide) hi
  have t2:∀i,QS q v' i→¬Own l i:=fun i hi e=>by
   rw[show i=l from e]at hi
   exact t.other h.box (by decide) (by decide) hi
  refine⟨v',(t.kept a t1).kept m t2,a2,(a3.trans a (fun i hi e=>?_)).trans m (fun i hi e=>?_)⟩
  ·have:=(h.sg.row.lt i e).1;omega
  ·have:=h.ll;have J:i=l:=e;omega
 ·rw[cr,gZ];exact Nat.succ_le_succ h.bl
 ·show n+x.l.length≤100000000+(k+1)*599187;have:0≤k*599187:=aX _;rw[nu];omega
theorem J0 (h:nS w q qb qv c d)(nm:ByteArray)(bP:pY nm=true)(there:List Nat)(d1:Ds)(cK:gQ d nm=(0,there,d1))(g:Lg)(out:List Nm)(eu:Ds)(aP:mJ nm there (kH nm there d1)=(g,out,eu))(hc:c≤900000000000):
 Calls prog 90 #[dP q,.string nm] w (EI w q qb qv c nm g out eu):=by
 obtain⟨gA,gn,fB,fC,fD⟩:=fR Tryz.PE;have dJ:nm.size≤16:=by
  unfold pY at bP;simp only[Bool.and_eq_true,decide_eq_true_eq]at bP;exact bP.2.2
 rw[NC]at aP;obtain⟨cQ,dV,dW⟩:=Hl cK (h.few _);have eE:=af (PJ nm there d1 cQ);have cZ:=af aP;have dh:=af cK;have fZ:=af bP;have H:=af h;have aF:=af dJ;have fV:=af hc;have bu:=af cQ;have eM:=af dV;have dz:=af dW;clear h bP cK aP dJ hc cQ dV dW;(go_enter func90,ntmps90);go_upto_region 2 with fail
 refine au ?_;intro W hW;have bN:aj (ah No w W∧W.heap[w.heap.size+1]?=some (.cells #[.string nm,.slice none 0 0] RB (0,0))∧W.heap[w.heap.size]?=some (.cells #[.string ⟨#[]⟩,.slice none 0 0] RB (0,0))):=af (by
  rw[hW];refine⟨((aA w).alloc _).alloc _,?_,?_⟩
  ·have:=bT (w.alloc (.cells #[.string ⟨#[]⟩,.slice none 0 0] RB)) (.cells #[.string nm,.slice none 0 0] RB)
   simpa using this
  ·exact((aA (S:=No) (w.alloc (.cells #[.string ⟨#[]⟩,.slice none 0 0] RB))).alloc _).heap (bT w _) (fun h=>h))
 clear hW;obtain⟨l,hl⟩:=ay (w.heap.size+1);obtain⟨r,bP⟩:=ay (w.heap.size);rw[←bP]at bN⊢;have dH:r+1=l:=(by omega);rw[dH]at bN⊢;have V:aj (l≠r∧w.heap.size≤l∧w.heap.size≤r):=af (by omega);clear hl bP dH;have CR:=af (JR W nm fZ.o);have cU:=af (Hf (H.o.no bN.o.1) nm (by have:=aF.o;omega));(go_wp2_with fail);refine CR.o.mono ?_;rintro e w1 ⟨rfl,rfl⟩;(go_wp2_with fail);refine cU.o.mono ?_;rintro e dX ⟨tv,rfl,cL,G⟩;have fK:aj (ah No w dX):=af (bN.o.1.aK G);have bq:=af (And.intro (G.heap bN.o.2.1 (fun h=>h)) (G.heap bN.o.2.2 (fun h=>h)));have di:=af cL;have eH:=af bN.o.1.size;obtain⟨ta,tc,rfl⟩:=aq cL;obtain⟨f9,bD⟩:=ay (eO nm.data.toList (bA d.fs));rw[←bD]at di;have c8:=af bD;rw[←bD];clear cL G bD CR cU bN;go_upto_if 28 with fail
 go_cut [7] (fun(v:Value) (wx:World)=>jm w wx l r q qb qv c nm v there (.slice none 0 0) [] ⟨true,[],there.headD 0,[],d1⟩ 0)
 case first=>
  cases f9 with
  |nil=>
   have aE:aj (d.append (aZ nm 0) ⟨#[]⟩=(0,d1)∧there= [0]):=af (by
    have h:=dh.o;unfold gQ at h;rw[←c8.o]at h;simp only[List.isEmpty_nil,cond_true,Prod.mk.injEq]at h;obtain⟨J,bf,bO⟩:=h;exact⟨Prod.ext J bO,bf.symm⟩)
   have U:=af (mV dX nm (by have:=aF.o;omega) 0 (by decide));rw[show((0:Nat):Int)=0 from rfl]at U
   have eB:=af (fun W (k:ah No w W)=>rY (H.o.no k) (aZ nm 0) ⟨#[]⟩ (by have:=fV.o;show c+0≤_;omega) (by decide) 0 d1 aE.o.1);obtain⟨F,bg⟩:=ay (aZ nm 0);rw[←bg]at U eB;clear bg;(go_wp2_with fail);refine U.o.mono ?_;rintro e bR ⟨rfl,m5,Q⟩;have d5:aj (ah No w bR):=af (by rw[Q];exact fK.o.drewN m5);have dx:aj (ah No dX bR):=af (by rw[Q];exact(aA dX).drewN m5);clear Q U;have cT:=af (eB.o bR d5.o);(go_wp2_with fail);refine cT.o.mono ?_;rintro e aD ⟨rfl,cA⟩;have b:aj (jm w (aD.alloc (.cells #[qI 0] 3)) l r q qb qv c nm (.slice (some ⟨aD.heap.size,0,none⟩) 1 1) there (.slice none 0 0) [] ⟨true,[],there.headD 0,[],d1⟩ 0):=af (by
    have bH:=cA.before d5.o;obtain⟨v6,eP,a2,a3⟩:=cA;have cP:ah No aD (aD.alloc (.cells #[qI 0] 3)):=(aA aD).alloc _;have gy:w.heap.size≤aD.heap.size:=aU d5.o.size a3.size;have fO:=H.o.no d5.o;have b1:=dx.o.heap bq.o.1 (fun h=>h);have d_:=dx.o.heap bq.o.2 (fun h=>h);refine⟨cP.heap (a3.heap b1 (fO.other b1 (by decide) (by decide))) (fun h=>h),cP.heap (a3.heap d_ (fO.other d_ (by decide) (by decide))) (fun h=>h),V.o.1,V.o.2.1,V.o.2.2,?_,⟨cJ _ _ _ _,fun s hs=>absurd hs qU,List.Pairwise.nil,fun s hs=>absurd hs qU⟩,rfl,rfl,fun A z hs=>?_,(bH.after cP),bM _,?_⟩
    ·rw[aE.o.2];exact jO (e:=3) (size:=1) aD #[qI 0] 1 gy (by unfold maxLen;omega) (by simp)
    ·simp at hs
    ·rw[aE.o.2];show(0:Nat)≤_;omega)
   clear cA eB cT;(go_wp2_with fail);go_meet;exact b.o
  |cons a L=>
   have aE:aj (a::L=there∧d=d1):=af (by
    have h:=dh.o;unfold gQ at h;rw[←c8.o]at h;simp only[List.isEmpty_cons,cond_false,Prod.mk.injEq]at h;exact⟨h.2.1,h.2.2⟩)
   have b:aj (jm w dX l r q qb qv c nm (.slice ta (a::L).length tc) there (.slice none 0 0) [] ⟨true,[],there.headD 0,[],d1⟩ 0):=af (by
    refine⟨bq.o.1,bq.o.2,V.o.1,V.o.2.1,V.o.2.2,?_,⟨cJ _ _ _ _,fun s hs=>absurd hs qU,List.Pairwise.nil,fun s hs=>absurd hs qU⟩,rfl,rfl,fun A z hs=>?_,?_,bM _,?_⟩
    ·rw[←aE.o.1];exact di.o.lower eH.o
    ·simp at hs
    ·rw[←aE.o.2];exact mC.no H.o fK.o
    ·show there.headD 0≤_;have e:there.headD 0=a:=(by rw[←aE.o.1];rfl);rw[e];have:=dz.o a (by rw[←aE.o.1];simp);omega)
   have dI:((L.length:Int)+1==0)=false:=eD.2 (by omega);(go_wp2_with fail);go_meet;exact b.o
 case rest=>
  obtain⟨gL,fA⟩:=ay (wc);subst fA;obtain⟨ga,off,aT,rfl,dS⟩:=aV.cell hcut.th bu.o;have h0:there[0]?=some (there.headD 0):=by
   cases bH:there with
   |nil=>have:=bu.o;rw[bH]at this;cases this
   |cons a L=>rfl
  have c0:=dS 0 _ h0;rw[oG]at c0;have RC:=af hcut;have tl:(0:Int)<(there.length:Int):=(by have:=bu.o;omega);obtain⟨gJ,cq⟩:=ay (there.headD 0);rw[←cq]at c0 RC;have eC:=af cq;clear hcut dS h0 cq;go_wp2
  go_loopw [9,10,11] (fun nx en i wr=>∃(k:Nat) (st:lu) (sv:Value) (S:List Rs),k≤there.length∧nx=qI st.next∧en= .bool st.whole∧i=qI k∧(there.take k).foldl (ju nm) ⟨true,[],there.headD 0,[],d1⟩=st∧jm w wr l r q qb qv c nm (.slice (some ⟨ga,off,none⟩) there.length aT) there sv S st k) (fun _ _ i _=>there.length-(intOf i).toNat)
  case atStart=>exact⟨0,_,_,[],aX _,rfl,rfl,rfl,by rw[←eC.o];rfl,RC.o⟩
  case round=>
   obtain⟨k,⟨bJ,fr,p,T,dd⟩,sv,S,fP,rfl,rfl,rfl,t,N⟩:=hrel;have gq:(0:Int)≤(k:Int):=(by omega);have fQ:(k:Int)≤64:=(by have:=eM.o;omega);clear RC c0 tl;by_cases av:k<there.length
   ·have eX:(k:Int)<(there.length:Int):=(by omega);obtain⟨gb,fT,gE,he,dS⟩:=aV.cell N.th bu.o;simp only[Value.slice.injEq,Option.some.injEq,Addr.mk.injEq,true_and,and_true]at he;obtain⟨⟨rfl,rfl⟩,rfl⟩:=he;have eS:=dS k _ (fw av);have bG:=dz.o there[k] (dw av);have x:(there.take (k+1)).foldl (ju nm) ⟨true,[],there.headD 0,[],d1⟩=ju nm ⟨bJ,fr,p,T,dd⟩ there[k]:=by
     rw[iK av,xT,t];rfl
    obtain⟨n,hn⟩:=ay (there[k]);rw[←hn]at eS bG x;have U:=af (fun W=>mV W nm (by have:=aF.o;omega) n bG);obtain⟨F,bg⟩:=ay (aZ nm n);rw[←bg]at U;have fH:=af bg;have bZ:=af x;have c7:=af N;have Y:=af av;have c6:=af bG;clear bg x t N dS hn av fP bG;obtain⟨w1,cO⟩:=ay (wr);subst cO;go_wp2_with fail
    (with_reducible refine(U.o _).mono ?_)
    rintro e w2 ⟨rfl,m2,aB⟩;have cR:aj (jm w w2 l r q qb qv c nm (.slice (some ⟨ga,off,none⟩) there.length aT) there sv S ⟨bJ,fr,p,T,dd⟩ k):=af (c7.o.no (by rw[aB];exact(aA w1).drewN m2));have bB:w2.cell? ⟨ga,off+k,none⟩=some (qI n):=(by rw[aB];exact eS);clear aB eS U c7;obtain⟨v5,R,bk,bp⟩:=cR.o.ds;by_cases hc:bJ=true∧n=p
    case neg=>
     have u:aj (ju nm ⟨bJ,fr,p,T,dd⟩ n=⟨false,fr,p,T,(dd.remove F).2⟩):=af (by
      unfold ju;have e:(bJ&&decide (n=p))=false:=by
       cases bJ with
       |false=>rfl
       |true=>rw[mF];exact aJ (fun e=>hc ⟨rfl,e⟩)
      simp only[e,cond_false];rw[fH.o])
     obtain⟨⟨er,d2⟩,cD⟩:∃y,y=dd.remove F:=⟨_,rfl⟩;rw[←cD]at u;have CR:=af (G_ R F er d2 cD.symm);have b:aj (∀E,mC w2 q qb v5 c d2 E→jm w E l r q qb qv c nm (.slice (some ⟨ga,off,none⟩) there.length aT) there sv S ⟨false,fr,p,T,d2⟩ (k+1)):=af (fun E bH=>(jm.disk cR.o R bk bp bH).up);clear R bk bp cD;cases bJ with
     |false=>
      clear hc;(go_wp2_with fail);refine CR.o.mono ?_;rintro e E ⟨rfl,I⟩;have aN:=af (b.o E I);clear I b CR bB;go_wp2;go_roundw
      case rel=>exact⟨k+1,⟨false,fr,p,T,d2⟩,sv,S,Y.o,rfl,rfl,by go_num,by rw[bZ.o,u.o],aN.o⟩
      case measure=>have:=Y.o;simp[intOf];omega
     |true=>
      have dI:((n:Int) !=(p:Int))=true:=by
       have:n≠p:=fun e=>hc ⟨rfl,e⟩;simp only[bne_iff_ne,ne_eq];omega
      clear hc;(go_wp2_with fail);refine CR.o.mono ?_;rintro e E ⟨rfl,I⟩;have aN:=af (b.o E I);clear I b CR bB;go_wp2;go_roundw
      case rel=>exact⟨k+1,⟨false,fr,p,T,d2⟩,sv,S,Y.o,rfl,rfl,by go_num,by rw[bZ.o,u.o],aN.o⟩
      case measure=>have:=Y.o;simp[intOf];omega
    obtain⟨rfl,rfl⟩:=hc;have dI:((n:Int) !=(n:Int))=false:=(by simp);have bY:=af (MF R F);have dO:=look_size R F;obtain⟨s,hs⟩:=ay ((dd.look F).s);rw[←hs]at bY dO;have bV:=af (fun W=>Pq W s (by omega));obtain⟨P,ez⟩:=ay (parse s.data.toList);rw[←ez]at bV;have fq:P.length*7≤s.size:=(by rw[ez];exact vr _);have cg:aj (P.length≤599187):=af (by omega);have dc:=af (And.intro hs ez);have fW:=af (And.intro R (And.intro bk bp));have gu:(s.size:Int)≤4194304:=(by omega);have n8:(n:Int)≤100000000:=(by have:=c6.o;omega);have fe:(P.length:Int)≤599187:=(by have:=cg.o;omega);clear R bk bp hs ez fq dO;(go_wp2_with fail);refine bY.o.mono ?_;rintro e E ⟨⟨e3,rfl⟩,bE⟩;have aN:=af (cR.o.no bE);have dB:=bE.cB bB;have S3:=af (fun i (hi:Hj sv S i)=>cR.o.sg.lt' hi);have dm:=af bE.size;clear bE bB bY;go_wp2_with fail
    (with_reducible refine(bV.o _).mono ?_)
    rintro e dY ⟨v4,rfl,cM,G⟩;have d8:=af (aN.o.no G);have bC:=G.cB dB;have fN:=af cM;obtain⟨bS,bU,rfl⟩:=aq cM;clear G dB bV cM;have dn:aj (∀i,(Value.slice bS P.length bU).ownBlock=some i→E.heap.size≤i):=af (fun i hi=>(fN.o.lt i hi).1);obtain⟨sa,sc,cF⟩:=aq d8.o.sg.row;subst cF;have aO:dY.cell? ⟨l,1,none⟩=some (.slice sa S.length sc):=(by rw[bW _ _ _ _ _ _ d8.o.box];rfl);have eG:=af d8.o.bl;obtain⟨sn,cE⟩:=ay (S.length);rw[←cE]at aO;have aG:=af cE;have fS:sn≤64:=(by have:=eG.o;omega);obtain⟨M,eV⟩:=ay (bK P);rw[←eV];obtain⟨pn,cv⟩:=ay (P.length);have Z:=af (And.intro eV cv);rw[←cv]at fe cg dn⊢;clear cE eV cv;obtain⟨aC,dQ⟩:=ay (dY);subst dQ;go_upto_region 21 with fail
    refine dN (fun _=>True) (fun w'=>w'.cell? ⟨l,1,none⟩=some (.slice sa sn sc)∧w'.cell? ⟨ga,off+k,none⟩=some (qI n)) (fun j=>j==11) (by kernel_rfl) ?_;refine bQ.of [0,1,2,3,4,5,6,7] ?_
    repeat((first|(refine bQ.w (v:=?_) ?_ trivial ⟨aO,bC⟩ ?_;rotate_left;focus(intro w O;(try dsimp only at O);go_simp;(try rfl);done))|(refine bQ.l (v:=?_) ?_ trivial ⟨aO,bC⟩ ?_;rotate_left;focus(intro w O;(try dsimp only at O);go_simp;(try rfl);done)));try simp only[cw,b_,cn])
    refine bQ.nil ?_;have aS:aj (Reads (aC.alloc (.cells #[qI n,.slice bS pn bU] zo)).drew 2 (.slice (some ⟨aC.heap.size,0,none⟩) 1 1) 1 (ME ⟨n,P,bS,bU⟩)):=af (Reads.kept (S:=No) ((aA _).drew) (by have:=jw BF aC zo ⟨n,P,bS,bU⟩;rw[Z.o.2];exact this) (fun _ _ h=>h));refine eZ 8 (fun K hK=>?_);go_simp;obtain⟨bR,Q⟩:=ay ((aC.alloc (.cells #[qI n,.slice bS pn bU] zo)).drew);rw[←Q]at aS⊢;have d6:aj (ah No aC bR):=af (by rw[Q];exact((aA aC).alloc _).drew);have e1:=d6.o.cB aO;have e2:=d6.o.cB bC;refine hK.out _ _ trivial (fun _=>⟨e1,e2⟩) ?_;clear hK K Q aO bC;have aW:=af (d8.o.no d6.o);have fI:aj (bR.ownsRow w.heap.size zo 2 (.slice sa sn sc) sn (rowsOf BF S)):=af (by
     have h:=aW.o.sg.row;unfold aI at h;rw[←aG.o]at h;exact h)
    have dD:aj (w.heap.size≤bR.heap.size):=af (by have:=(bX.1 aW.o.box).1;have:=aW.o.ll;omega);refine eZ 9 (fun K hK=>?_);refine bL (by rfl) (.tmp 78) (.tmp 85) 148 (by rfl) w.heap.size zo gA _ 2 32 underlying148 gn fB fC fD (by rfl) (by decide) (.slice sa sn sc) sn (rowsOf BF S) (by rfl) fI.o _ 1 (ME ⟨n,P,bS,bU⟩) (by rfl) aS.o (by unfold maxLen;omega) (by omega) dD.o ?_;intro gF aD cu aQ eW _;have fM:aj (aI BF zo aD w.heap.size gF (S++ [⟨n,P,bS,bU⟩])):=af (by
     refine D3 (C:=BF) ?_;rw[←aG.o];exact cu)
    have cC:¬Of (.slice sa sn sc) l:=fun e=>aW.o.sg.other aW.o.box (by decide) (by decide) (.inl (by rw[←aG.o];exact e));have fL:aj (ah (Of (.slice sa S.length sc)) bR aD):=af (by rw[←aG.o];exact aQ);have eA:=af (aQ.heap aW.o.box cC);have f1:=aQ.cell e1 cC;have f2:aD.cell? ⟨ga,off+k,none⟩=some (qI n):=aQ.cell e2 (fun e=>by
     obtain⟨X,gj⟩:=qw aW.o.th (i:=ga) rfl;exact aW.o.sg.other gj (by decide) (by decide) (.inl (by rw[←aG.o];exact e)))
    have PP:=af (fun U7=>jm.push (U7:=U7) aW.o fL.o fM.o (d6.o.mM (fN.o.base (by have:=dm.o;have:=cR.o.ll;have:=(bX.1 cR.o.box).1;omega))) (fun r' fu i hi e=>by
     have J:=S3.o i (.inr ⟨r',fu,hi⟩);have bf:=dn.o i (by rw[Z.o.2];exact e);have bO:=dm.o;omega) rfl c6.o (by rw[←Z.o.2];exact cg.o))
    obtain⟨fU,uc,rfl⟩:=aq cu;refine tY (d:=86) rfl ?_;simp only[cw,b_,cn];refine hK.out _ _ trivial (fun _=>⟨f1,f2⟩) ?_;clear hK K cu aQ eW e1 e2;refine bQ.of [10] ?_
    repeat((first|(refine bQ.w (v:=?_) ?_ trivial ⟨f1,f2⟩ ?_;rotate_left;focus(intro w O;(try dsimp only at O);go_simp;(try rfl);done))|(refine bQ.l (v:=?_) ?_ trivial ⟨f1,f2⟩ ?_;rotate_left;focus(intro w O;(try dsimp only at O);go_simp;(try rfl);done)));try simp only[cw,b_,cn])
    refine bQ.nil ?_;have f_:=bF (j:=1) _ _ _ _ eA.o;have gB:l<aD.heap.size:=(bX.1 eA.o).1;refine eZ 11 (fun K hK=>?_);go_simp;refine hK.out _ _ trivial (pH 11 rfl (by kernel_rfl)) ?_;clear hK K;refine sZ (by kernel_rfl) ?_ _;obtain⟨gG,dR⟩:=ay (aD.setCell ⟨l,1,none⟩ (.slice fU (sn+1) uc));obtain⟨B,eU⟩:=ay (decide (bK P=s.size));have gi:((M:Int)==(s.size:Int))=B:=by
     rw[eU,Z.o.1];by_cases e:bK P=s.size
     ·rw[e,aM rfl];simp
     ·rw[aJ e];simp only[beq_eq_false_iff_ne,ne_eq];omega
    have d7:=af (PP.o B);rw[←dR]at d7⊢;have u:aj (ju nm ⟨true,fr,n,T,dd⟩ n=⟨B,fr++ [n],n+P.length,T++P,(dd.truncate F (bK P)).2⟩):=af (by
     rw[Ho, ←fH.o, ←dc.o.1, ←dc.o.2, ←eU])
    obtain⟨fF,R,bk,bp⟩:=d7.o.ds;obtain⟨⟨er,d2⟩,bI⟩:∃y,y=dd.truncate F (bK P):=⟨_,rfl⟩;rw[←bI]at u;rw[←Z.o.1]at bI;have cU:=af (Cr R F (M:Int) er d2 bI.symm);have b:aj (∀dZ,mC gG q qb fF c d2 dZ→jm w dZ l r q qb qv c nm (.slice (some ⟨ga,off,none⟩) there.length aT) there (.slice fU (sn+1) uc) (S++ [⟨n,P,bS,bU⟩]) ⟨B,fr++ [n],n+P.length,T++P,d2⟩ (k+1)):=af (fun dZ bH=>jm.disk d7.o R bk bp bH);have eF:aj (((n+P.length:Nat):Int)=(n:Int)+(pn:Int)):=af (by rw[←Z.o.2];omega);clear R bk bp bI dR eU PP d7 f_ gB eA f1 f2 fM fL fI dD aS aW cC;(go_wp2_with fail);refine cU.o.mono ?_;rintro e dZ ⟨rfl,dL⟩;have f4:=af (b.o dZ dL);clear dL b cU;go_wp2;go_roundw
    case rel=>exact⟨k+1,⟨B,fr++ [n],n+P.length,T++P,d2⟩,_,_,Y.o,by rw[eF.o],rfl,by go_num,by rw[bZ.o,u.o],f4.o⟩
    case measure=>have:=Y.o;simp[intOf];omega
   ·have eX:¬(k:Int)<(there.length:Int):=(by omega);have dG:k=there.length:=(by omega);rw[dG,jH]at t;have u:aj (vw nm there d1=⟨bJ,fr,p,T,dd⟩):=af t;obtain⟨A,z,rfl⟩:∃A z,S=A++ [z]:=by
     have J:=eE.o;rw[u.o]at J;have bf:=N.fs;rcases List.eq_nil_or_concat S with rfl|⟨A,z,rfl⟩
     ·have eT: []=fr:=bf;rw[←eT]at J;cases J
     ·exact⟨A,z,by simp⟩
    have hA:=N.bl;rw[cr,gZ]at hA;obtain⟨sa,sc,cF⟩:=aq N.sg.row;subst cF;have d9:=N.sg.log (o:=0) (nm:=nm) N.box rfl rfl (by decide) (by decide) (by have J:=N.nx A z rfl;have bf:=N.bn;simp only at J bf;have bO:k*599187≤64*599187:=mY _ (by omega);omega) (by omega) (by have:=aF.o;omega);obtain⟨g7,dA,cN,_,_,_,_⟩:=d9.at';have ew:=ak (d9.last cN) 0 _ rfl;simp only[qH]at ew;have hlen:(A++ [z]).length=A.length+1:=(by simp);have b1:wr.cell? ⟨l,1,none⟩=some (.slice (some ⟨g7,0,none⟩) (A.length+1) dA):=(by rw[←cN,bW _ _ _ _ _ _ N.box];rfl);have dF:=d9.lt z (by simp);obtain⟨fF,R,bk,bp⟩:=N.ds;have U:=af (fun W=>mV W nm (by have:=aF.o;omega) z.f dF);have aR:nC fr=z.f:=by
     have:=N.fs;simp only at this;rw[←this];unfold nC;simp
    obtain⟨F,bg⟩:=ay (aZ nm z.f);rw[←bg]at U;obtain⟨⟨er,d2⟩,cH⟩:∃y,y=dd.sync F:=⟨_,rfl⟩;have fG:=af (fun W (cP:ah No wr W)=>sN (R.no cP) F er d2 cH.symm);have cV:aj (g=⟨nm,fr,p⟩∧out=T∧eu=d2):=af (by
     have J:=cZ.o;rw[u.o]at J;simp only[Prod.mk.injEq]at J;obtain⟨J,bf,bO⟩:=J;rw[aR, ←bg, ←cH]at bO;exact⟨J.symm,bf.symm,bO.symm⟩)
    have f7:=af N;have b:aj (∀wy eN,ah No wr eN→mC eN q qb fF c d2 wy→jm w wy l r q qb qv c nm (.slice (some ⟨ga,off,none⟩) there.length aT) there (.slice sa (A++ [z]).length sc) (A++ [z]) ⟨bJ,fr,p,T,d2⟩ k):=af (fun wy eN cP bH=>jm.disk N R bk bp (bH.before cP));obtain⟨K,hK⟩:=ay (A.length);obtain⟨m,hm⟩:=ay (K+1);obtain⟨zf,dU⟩:=ay (z.f);rw[←dU]at U ew;rw[←hK]at ew b1 hA;rw[←hm]at b1;have hw:IntKind.i64.wrap ((m:Int)-1)=(K:Int):=(by rw[cI];omega);have gH:(0:Int)≤(K:Int):=(by omega);have gI:(K:Int)<(m:Int):=(by omega);have aE:=af (And.intro hK (And.intro hm hA));clear N d9 R bk bp bg cH aR dF cN hlen t dG av fP hK hm dU hA;obtain⟨w1,cO⟩:=ay (wr);subst cO;go_wp2_with fail
    (with_reducible refine(U.o _).mono ?_)
    rintro e w2 ⟨rfl,m2,aB⟩;have fJ:aj (ah No w1 w2):=af (by rw[aB];exact(aA w1).drewN m2);clear aB U;go_wp2_with fail
    (with_reducible refine(fG.o _ fJ.o).mono ?_)
    rintro e E ⟨rfl,I⟩;have aN:=af (b.o E w2 fJ.o I);clear I b fG b1 ew;have d_:ai E l 0 2=some [.string nm,.slice sa (A++ [z]).length sc]:=(by unfold ai;rw[aN.o.box];rfl);have eY:Open E r:=⟨_,_,aN.o.res⟩;have gr:(aL E r).size=2:=(by unfold aL;rw[aN.o.res];rfl);have ct:=aH E r 0 2 #[.string nm,.slice sa (A++ [z]).length sc] eY;rw[dM (by simp)]at ct;have b:aj (EI w q qb qv c nm g out eu (.returned (.tuple #[.agg #[.string nm,.slice sa (A++ [z]).length sc],qI 0])) (E.setRow r #[.string nm,.slice sa (A++ [z]).length sc])):=af (by
     have fE:ah (Own r) E (E.setRow r #[.string nm,.slice sa (A++ [z]).length sc]):=(aA (S:=Own r) E).setRow (fun _=>(rfl:r=r)) _;obtain⟨J,bf,bO⟩:=cV.o;have D:=aN.o;have off:∀i,Own r i→¬Hj (.slice sa (A++ [z]).length sc) (A++ [z]) i:=fun i e=>by
      rw[show i=r from e]
      exact D.sg.other D.res (by decide) (by decide)
     refine⟨_,A,z,rfl,D.sg.kept fE (fun i hi e=>off i e hi),?_,by rw[bf];exact D.ts,?_,by have:=aE.o;omega⟩
     ·rw[J];unfold pJ;rw[←D.nx A z rfl];have:=D.fs;simp only at this;rw[this]
     ·rw[bO];obtain⟨v9,eP,a2,a3⟩:=D.ds;refine⟨v9,eP.kept fE (fun i hi e=>?_),a2,a3.trans fE (fun i hi e=>?_)⟩
      ·rw[show i=r from e]at hi
       exact eP.other D.res (by decide) (by decide) hi
      ·have:=D.lr;have gK:i=r:=e;omega)
    obtain⟨gD,dK⟩:=ay ((A++ [z]).length);rw[←dK]at d_ ct b;clear aN aE dK cV f7;go_wp2;refine aY (v:= .tuple #[.agg #[.string nm,.slice sa gD sc],qI 0]) ?_ rfl b.o;clear b;simp[results,results90,go_sem,ct]
end
