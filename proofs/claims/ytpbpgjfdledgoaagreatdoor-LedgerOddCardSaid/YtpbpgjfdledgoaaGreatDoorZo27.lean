/- Lemmas. -/
import Derived.Test.YtpbpgjfdledgoaaGreatDoorZo26
import Derived.Test.YtpbpgjfdledgoaaGreatDoorZo13
set_option linter.all false
set_option maxRecDepth 100000
set_option maxHeartbeats 8000000
open List renaming take_zero→E3,length_singleton→Sm,append_assoc→o_
open Nat renaming div_le_self→Sn
namespace Go.Proofs.YtpbpgjfdledgoaaGreatDoor
open Go.Proofs.Tryz
open Go.RowKit Go.Shelf Go.Sort Go.Joins
theorem ur:∀(k m:Nat),k≤8→m<256^k→(Lib.bitLen m+7)/8=oW k m
 |0,m,_,h=>by
  have:m=0:=(by simpa using h);subst this;rfl
 |k+1,m,f,h=>by
  by_cases h0:m=0
  ·subst h0;rfl
  ·rw[CF k m h0];have d:m/256<256^k:=(by rw[sU (by omega)];rw[kU]at h;exact h);have b:m<18446744073709551616:=by
    have:256^(k+1)≤256^8:=wO (by omega) f;rw[Nk]at this;omega
   by_cases a:256≤m
   ·rw[Lib.bitLen_shift8 m a b, ←ur k (m/256) (by omega) d];omega
   ·have e:m/256=0:=(by omega);have c:=Lib.bitLen_le8 ⟨m,by omega⟩;have g:=Lib.bitLen_half m h0 b;dsimp only at c;rw[e];have:oW k 0=0:=by cases k<;>rfl
    omega
theorem Tryz.Ja:(prog.info? 5).map (fun i=>(i.zero,i.size,i.bytes))=some (some (.int .u8 0),1,1):=by kernel_rfl
def M5 (x:UInt8):Value:= .int .u8 x.toNat
abbrev pF (w:World)(base:Nat)(v:Value)(L:Nm):Prop:=w.ownsRow base 5 1 v L.length (L.map M5)
theorem pF.snoc {w:World}{base:Nat}{v:Value}{L:Nm}{x:UInt8}{y:Value}(a:y=M5 x)(h:w.ownsRow base 5 1 v (L.length+1) (L.map M5++ [y])):pF w base v (L++ [x]):=by
 unfold pF;rw[cr,fI,gZ,wR, ←a];exact h
theorem A9:∀(k m j:Nat) (h:j<(dB m k).length),(dB m k)[j]=UInt8.ofNat (m/256^(k-1-j)%256)
 |0,m,j,h=>by simp[dB]at h
 |k+1,m,j,h=>by
  rw[dG]at h;have hl:=dG k (m/256);by_cases b:j<k
  ·have e:(dB m (k+1))[j]'(by rw[dG];exact h)=(dB (m/256) k)[j]'(by omega):=by
    simp only[dB];rw[List.getElem_append_left]
   rw[e,A9 k (m/256) j (by omega),Nat.div_div_eq_div_mul];have e2:k+1-1-j=(k-1-j)+1:=(by omega);rw[e2,kU,mG 256]
  ·have a:j=k:=(by omega);subst a;have e:(dB m (j+1))[j]'(by rw[dG];exact h)=UInt8.ofNat (m%256):=by
    simp only[dB];rw[List.getElem_append_right (by omega)];simp[hl]
   rw[e];have:j+1-1-j=0:=(by omega);rw[this];simp
theorem Oo (k:Nat):(2:Int)^(8*k)=(((256:Nat)^k:Nat):Int):=by
 induction k with
 |zero=>rfl
 |succ k ih=>
  rw[Nat.mul_succ,Int.pow_add,ih,kU];rfl
def A_ (w:World)(base:Nat)(v:Value)(L:Nm)(e:Ending)(w':World):Prop:=∃v',e= .returned v'∧pF w' base v' L∧ah (Of v) w w'∧o6 w v v'
theorem S9 (w:World)(base:Nat)(C:base≤w.heap.size)(v:Value)(L:Nm)(hv:pF w base v L)(bf:(L.length:Int)≤70368744177664)(n:Int)(Y:0≤n)(aW:n≤9223372036854775807):
 Calls prog 115 #[v,qI n] w (A_ w base v (L++aG n)):=by
 obtain⟨i0,hi,J,K,N⟩:=fR Tryz.Ja;obtain⟨M,rfl⟩:=sS Y;obtain⟨S,hS⟩:=ay (Lb M);have aT:S≤8:=(by rw[hS];exact xo M);have au:aj (Calls prog 191 #[.int .u64 M] w (qW w ((qI (Lib.bitLen M))))):=af (Tryz.bits_Len64 M w (by omega) (by omega));have m:=ur 8 M (bM _) (by rw[Nk];omega);have B:=Lib.bitLen_le M 64 (bM _) (by omega);obtain⟨ak,z⟩:=ay (Lib.bitLen M);rw[←z]at au m B;have hdiv:((ak:Int)+7)/8=(S:Int):=by
  have:(ak+7)/8=S:=(by rw[m,hS];rfl);omega
 have u:aj (aG (M:Int)=UInt8.ofNat S::dB M S):=af (by
  unfold aG;rw[pX (by omega),aJ (by omega),nW, ←hS,aN,jI])
 have aE:=af hv;obtain⟨p,oc,rfl⟩:=aq hv;have aZ:=af hS;have y:=af C;clear z m hS hv C;(go_enter func115,ntmps115);(go_wp2_with fail);refine au.o.mono ?_;rintro e w1 ⟨rfl,hw⟩;have hw:=hw.symm;subst hw;have b:(w.alloc (.cells #[.int .u8 S] 5)).ownsRow base 5 1 (.slice p L.length oc) L.length (L.map M5):=aE.o.alloc _;have a:Reads (w.alloc (.cells #[.int .u8 S] 5)) 1 (.slice (some ⟨w.heap.size,0,none⟩) 1 1) 1 [.int .u8 S]:=Reads.fu (jO (base:=0) w #[.int .u8 S] 1 (aX _) (by unfold maxLen;omega) rfl) (by simp[Value.oneCell']);(go_wp2_with (at_builtin;refine aQ rfl (.tmp 17) (.tmp 22) 184 rfl base 5 i0 _ 1 1 underlying184 hi J K N rfl (by decide) _ L.length _ rfl b _ 1 _ rfl a (by unfold maxLen;omega) (by omega) (by have:=y.o;simp;omega) ?_;intro v' w2 d G l _));have aM:aj (pF w2 base v' (L++ [UInt8.ofNat S])):=af (pF.snoc (by unfold M5;rw[mZ];congr 1;omega) d);have aI:aj (o6 w (.slice p L.length oc) v'):=af (fun k T=>by rcases l k T with e|e;exact .inl e;exact .inr (by simp at e;omega))
 have aF:aj (ah (Of (.slice p L.length oc)) w w2):=af (((aA w).alloc _).aK G);clear d G l b a
 go_loopw [0,7] (fun v q wr=>∃j:Nat,j≤S∧q=qI ((S:Int)-1-j)∧pF wr base v (L++ [UInt8.ofNat S]++(dB M S).take j)∧o6 w (.slice p L.length oc) v∧ah (Of (.slice p L.length oc)) w wr) (fun _ q _=>(intOf q+1).toNat)
 case atStart=>exact⟨0,aX _,by simp,by rw[E3,kE];exact aM.o,aI.o,aF.o⟩
 case round=>
  obtain⟨j,bg,rfl,R,aB,hK⟩:=hrel;have A:=dG S M;obtain⟨i,g⟩:=ay (L++ [UInt8.ofNat S]++(dB M S).take j);rw[←g]at R;have aS:(i.length:Int)≤70368744177673:=by
   rw[g,cr,cr,fB];simp only[Sm];omega
  have t:=af g;have av:=af R;have W:=af aB;have O:=af hK;have s:=af A;obtain⟨Z,ai,rfl⟩:=aq R;clear R aB hK g A;by_cases X:j<S
  ·have I:(0:Int)≤(S:Int)-1-j:=(by omega);obtain⟨Q,r⟩:=ay ((S:Int)-1-j:Int);rw[←r]at I⊢;have x:=af r;clear r;have aY:Q≤7:=(by have:=x.o;omega);obtain⟨D,P⟩:=ay (M/256^(S-1-j));have aV:(M:Int)/2^(8*Q).toNat=(D:Int):=by
    have e1:(8*Q).toNat=8*(S-1-j):=(by have:=x.o;omega);rw[e1,P,Oo (S-1-j)];rfl
   have aP:(D:Int)≤9223372036854775807:=by
    have:D≤M:=(by rw[P];exact Sn _ _);omega
   have aD:aj (i++ [UInt8.ofNat (D%256)]=L++ [UInt8.ofNat S]++(dB M S).take (j+1)):=by
    refine af ?_;have F:j<(dB M S).length:=(by rw[s.o];exact X);rw[t.o,iK F,A9 S M j F, ←P];simp only[o_]
   have V:aj (wrap64 (Q-1)=(S:Int)-1-((j+1:Nat):Int)):=af (by rw[jP _ (by omega)];have:=x.o;omega);clear P;have b:(wr.alloc (.cells #[.int .u8 ((D:Int)%256)] 5)).ownsRow base 5 1 (.slice Z i.length ai) i.length (i.map M5):=av.o.alloc _;have a:Reads (wr.alloc (.cells #[.int .u8 ((D:Int)%256)] 5)) 1 (.slice (some ⟨wr.heap.size,0,none⟩) 1 1) 1 [.int .u8 ((D:Int)%256)]:=Reads.fu (jO (base:=0) wr #[.int .u8 ((D:Int)%256)] 1 (aX _) (by unfold maxLen;omega) rfl) (by simp[Value.oneCell']);have U:aj (base≤wr.heap.size):=af (aU y.o O.o.size);(go_wp2_with (at_builtin;refine aQ rfl (.tmp 30) (.tmp 36) 184 rfl base 5 i0 _ 1 1 underlying184 hi J K N rfl (by decide) _ i.length _ rfl b _ 1 _ rfl a (by unfold maxLen;omega) (by omega) (by have:=U.o;simp;omega) ?_;intro v5 aC f H c _));have aO:aj (pF aC base v5 (i++ [UInt8.ofNat (D%256)])):=af (pF.snoc (by unfold M5;rw[mZ];congr 1;omega) f);have aL:aj (o6 w (.slice p L.length oc) v5):=af (fun k T=>by
    rcases c k T with e|e
    ·exact W.o k e
    ·have:=O.o.size;exact .inr (by simp at e;omega))
   have aH:aj (ah (Of (.slice p L.length oc)) w aC):=af (O.o.trans (((aA wr).alloc _).aK H) (fun k T h=>by
    rcases W.o k h with e|e
    ·exact e
    ·omega))
   clear f H c b a;go_wp2;go_roundw
   case rel=>exact⟨j+1,by omega,by rw[←V.o,jP _ (by have:=x.o;omega)],by rw[←aD.o];exact aO.o,aL.o,aH.o⟩
   case measure=>have:=x.o;simp[intOf];omega
  ·have E:j=S:=(by omega);have aR:aj (i=L++aG (M:Int)):=by
    refine af ?_;rw[t.o,u.o,E,fA (by rw[s.o];exact bM _)];simp
   obtain⟨Q,r⟩:=ay ((S:Int)-1-j:Int);have I:Q<0:=(by omega);rw[←r];clear r E;go_wp2;go_ret;exact⟨_,rfl,by rw[←aR.o];exact av.o,O.o,W.o⟩
theorem QZ (w:World)(base:Nat)(E:base≤w.heap.size)(v:Value)(L:Nm)(hv:pF w base v L)(bq:(L.length:Int)≤70368744177664)(n:Int)(J:n<0)(ai: -9223372036854775808≤n):
 Calls prog 115 #[v,qI n] w (A_ w base v (L++aG n)):=by
 obtain⟨i0,hi,N,O,P⟩:=fR Tryz.Ja;obtain⟨M,aD⟩:=sS (show 0≤ -n-1 by omega);have aF:bits .xor .i64 (-1) n=(M:Int):=(by rw[KB n ai (by omega),aD]);have aZ:(M:Int)≤9223372036854775807:=(by omega);have aY:(0:Int)≤(M:Int):=(by omega);have bn:IntKind.u64.wrap (M:Int)=(M:Int):=(by rw[IntKind.wrap_u64];omega);have l:mag n=M:=(by rw[zj J];omega);obtain⟨S,hS⟩:=ay (Lb M);have bf:S≤8:=(by rw[hS];exact xo M);have aB:aj (Calls prog 191 #[.int .u64 M] w (qW w ((qI (Lib.bitLen M))))):=af (Tryz.bits_Len64 M w (by omega) (by omega));have p:=ur 8 M (bM _) (by rw[Nk];omega);have C:=Lib.bitLen_le M 64 (bM _) (by omega);obtain⟨av,A⟩:=ay (Lib.bitLen M);rw[←A]at aB p C;have hdiv:((av:Int)+7)/8=(S:Int):=by
  have:(av+7)/8=S:=(by rw[p,hS];rfl);omega
 have x:aj (aG n=UInt8.ofNat (128+S)::dB M S):=af (by
  unfold aG;rw[l,aM J, ←hS,bH])
 have aJ:=af hv;obtain⟨r,oc,rfl⟩:=aq hv;have bp:=af hS;have z:=af E;clear A p hS hv E aD l;(go_enter func115,ntmps115);(go_wp2_with fail);refine aB.o.mono ?_;rintro e w1 ⟨rfl,hw⟩;have hw:=hw.symm;subst hw;have b:(w.alloc (.cells #[.int .u8 (128+(S:Int))] 5)).ownsRow base 5 1 (.slice r L.length oc) L.length (L.map M5):=aJ.o.alloc _;have a:Reads (w.alloc (.cells #[.int .u8 (128+(S:Int))] 5)) 1 (.slice (some ⟨w.heap.size,0,none⟩) 1 1) 1 [.int .u8 (128+(S:Int))]:=Reads.fu (jO (base:=0) w #[.int .u8 (128+(S:Int))] 1 (aX _) (by unfold maxLen;omega) rfl) (by simp[Value.oneCell']);(go_wp2_with (at_builtin;refine aQ rfl (.tmp 17) (.tmp 22) 184 rfl base 5 i0 _ 1 1 underlying184 hi N O P rfl (by decide) _ L.length _ rfl b _ 1 _ rfl a (by unfold maxLen;omega) (by omega) (by have:=z.o;simp;omega) ?_;intro v' w2 d H m _));have aR:aj (pF w2 base v' (L++ [UInt8.ofNat (128+S)])):=af (pF.snoc (by unfold M5;rw[mZ];congr 1;omega) d);have aO:aj (o6 w (.slice r L.length oc) v'):=af (fun k V=>by rcases m k V with e|e;exact .inl e;exact .inr (by simp at e;omega))
 have aL:aj (ah (Of (.slice r L.length oc)) w w2):=af (((aA w).alloc _).aK H);clear d H m b a
 go_loopw [0,7] (fun v q wr=>∃j:Nat,j≤S∧q=qI ((S:Int)-1-j)∧pF wr base v (L++ [UInt8.ofNat (128+S)]++(dB M S).take j)∧o6 w (.slice r L.length oc) v∧ah (Of (.slice r L.length oc)) w wr) (fun _ q _=>(intOf q+1).toNat)
 case atStart=>exact⟨0,aX _,by simp,by rw[E3,kE];exact aR.o,aO.o,aL.o⟩
 case round=>
  obtain⟨j,bu,rfl,U,aE,hK⟩:=hrel;have B:=dG S M;obtain⟨i,g⟩:=ay (L++ [UInt8.ofNat (128+S)]++(dB M S).take j);rw[←g]at U;have aW:(i.length:Int)≤70368744177673:=by
   rw[g,cr,cr,fB];simp only[Sm];omega
  have u:=af g;have aC:=af U;have Y:=af aE;have R:=af hK;have t:=af B;obtain⟨ak,au,rfl⟩:=aq U;clear U aE hK g B;by_cases Z:j<S
  ·have K:(0:Int)≤(S:Int)-1-j:=(by omega);obtain⟨Q,s⟩:=ay ((S:Int)-1-j:Int);rw[←s]at K⊢;have y:=af s;clear s;have bk:Q≤7:=(by have:=y.o;omega);obtain⟨D,T⟩:=ay (M/256^(S-1-j));have bg:(M:Int)/2^(8*Q).toNat=(D:Int):=by
    have e1:(8*Q).toNat=8*(S-1-j):=(by have:=y.o;omega);rw[e1,T,Oo (S-1-j)];rfl
   have aT:(D:Int)≤9223372036854775807:=by
    have:D≤M:=(by rw[T];exact Sn _ _);omega
   have aI:aj (i++ [UInt8.ofNat (D%256)]=L++ [UInt8.ofNat (128+S)]++(dB M S).take (j+1)):=by
    refine af ?_;have G:j<(dB M S).length:=(by rw[t.o];exact Z);rw[u.o,iK G,A9 S M j G, ←T];simp only[o_]
   have X:aj (wrap64 (Q-1)=(S:Int)-1-((j+1:Nat):Int)):=af (by rw[jP _ (by omega)];have:=y.o;omega);clear T;have b:(wr.alloc (.cells #[.int .u8 ((D:Int)%256)] 5)).ownsRow base 5 1 (.slice ak i.length au) i.length (i.map M5):=aC.o.alloc _;have a:Reads (wr.alloc (.cells #[.int .u8 ((D:Int)%256)] 5)) 1 (.slice (some ⟨wr.heap.size,0,none⟩) 1 1) 1 [.int .u8 ((D:Int)%256)]:=Reads.fu (jO (base:=0) wr #[.int .u8 ((D:Int)%256)] 1 (aX _) (by unfold maxLen;omega) rfl) (by simp[Value.oneCell']);have W:aj (base≤wr.heap.size):=af (aU z.o R.o.size);(go_wp2_with (at_builtin;refine aQ rfl (.tmp 30) (.tmp 36) 184 rfl base 5 i0 _ 1 1 underlying184 hi N O P rfl (by decide) _ i.length _ rfl b _ 1 _ rfl a (by unfold maxLen;omega) (by omega) (by have:=W.o;simp;omega) ?_;intro v5 aH f I c _));have aS:aj (pF aH base v5 (i++ [UInt8.ofNat (D%256)])):=af (pF.snoc (by unfold M5;rw[mZ];congr 1;omega) f);have aP:aj (o6 w (.slice r L.length oc) v5):=af (fun k V=>by
    rcases c k V with e|e
    ·exact Y.o k e
    ·have:=R.o.size;exact .inr (by simp at e;omega))
   have aN:aj (ah (Of (.slice r L.length oc)) w aH):=af (R.o.trans (((aA wr).alloc _).aK I) (fun k V h=>by
    rcases Y.o k h with e|e
    ·exact e
    ·omega))
   clear f I c b a;go_wp2;go_roundw
   case rel=>exact⟨j+1,by omega,by rw[←X.o,jP _ (by have:=y.o;omega)],by rw[←aI.o];exact aS.o,aP.o,aN.o⟩
   case measure=>have:=y.o;simp[intOf];omega
  ·have F:j=S:=(by omega);have aV:aj (i=L++aG n):=by
    refine af ?_;rw[u.o,x.o,F,fA (by rw[t.o];exact bM _)];simp
   obtain⟨Q,s⟩:=ay ((S:Int)-1-j:Int);have K:Q<0:=(by omega);rw[←s];clear s F;go_wp2;go_ret;exact⟨_,rfl,by rw[←aV.o];exact aC.o,R.o,Y.o⟩
theorem Jb (w:World)(base:Nat)(a:base≤w.heap.size)(v:Value)(L:Nm)(hv:pF w base v L)(b:(L.length:Int)≤70368744177664)(n:Int)(hn:i64 n):
 Calls prog 115 #[v,qI n] w (A_ w base v (L++aG n)):=by
 by_cases h:n<0
 ·exact QZ w base a v L hv b n h hn.1
 ·exact S9 w base a v L hv b n (by omega) hn.2
theorem Oq {w:World}{base:Nat}{v:Value}{L:Nm}(h:pF w base v L):(convert 184 9 v).run prog w= .ok (.string ⟨L.toArray⟩) w:=by
 rcases h.2 with⟨rfl,h0⟩|⟨g,cap,cur,rfl,_⟩
 ·have:L= []:=qA h0;subst this;rw[zA _ _ _ _ _ _ _ underlying184 underlying5 underlying9];simp[Conv.bytesToString,Sem.run_pure];rfl
 ·rw[zA _ _ _ _ _ _ _ underlying184 underlying5 underlying9];have hl:(loadCells ⟨g,0,none⟩ L.length).run prog w= .ok ((L.map fun x=>((x.toNat:Nat):Int)).map (Value.int .u8)).toArray w:=by
   have:=run_loadCells_list (P:=prog) w ⟨g,0,none⟩ (L.map M5) (fun j u hu=>h.cells (g:=g) rfl j u hu);rw[eE]at this;rw[nY];exact this
  rw[run_bytesToString w ⟨g,0,none⟩ L.length cap _ hl,oZ];congr 2;rw[nY];have:L.map ((fun n:Int=>UInt8.ofNat n.toNat)∘fun x:UInt8=>((x.toNat:Nat):Int))=L:=by
   conv=>rhs;rw[←List.map_id L]
   apply List.map_congr_left;intro x _;simp
  rw[this];simp
abbrev LY (w:World)(v:Value)(l:List Int):Prop:=Reads w 1 v l.length (l.map fun n:Int=>qI n)
theorem LY.cell {w:World}{v:Value}{l:List Int}(h:LY w v l)(hl:0<l.length):∃b off c,v= .slice (some ⟨b,off,none⟩) l.length c∧l.length≤c∧c≤maxLen∧b<w.heap.size∧∀(j:Nat) (n:Int),l[j]?=some n→w.cell? ⟨b,off+j,none⟩=some (qI n):=by
 obtain⟨b,off,c,hv,a,d,e,f⟩:=h.addr (by simpa using hl);exact⟨b,off,c,hv,a,d,e,fun j n g=>f j _ (by rw[oR,g];rfl)⟩
theorem LY.lit (w:World)(l:List Int)(t:TypeId)(hl:l.length≤1000):LY (w.alloc (.cells (l.map fun n:Int=>qI n).toArray t)) (.slice (some ⟨w.heap.size,0,none⟩) l.length l.length) l:=
 Reads.fu (jO (base:=0) (size:=1) w (l.map fun n:Int=>qI n).toArray l.length (aX _) (by unfold maxLen;omega) (by simp)) (by intro u hu;obtain⟨n,_,rfl⟩:=jq.1 hu;rfl)
def gJ (l:List Int):Nm:=l.flatMap aG
theorem Gl (l:List Int)(n:Int):gJ (l++ [n])=gJ l++aG n:=by simp[gJ]
theorem LZ (l:List Int):(gJ l).length≤l.length*9:=by
 induction l with
 |nil=>simp[gJ]
 |cons n l ih=>
  have:=aP n;have e:gJ (n::l)=aG n++gJ l:=(by simp[gJ]);rw[e,cr,g_];omega
def ew (l:Nm):Value:= .string ⟨l.toArray⟩
theorem qi (w:World)(v:Value)(l:List Int)(hv:LY w v l)(hl:l.length≤1000)(j:∀n∈l,i64 n):
 Calls prog 48 #[v] w (qG w ((ew (gJ l)))):=by
 obtain⟨va,vc,rfl⟩:=hv.slice;have D:=af hv;have p:=af j;have J:(l.length:Int)≤1000:=(by omega);clear hv j;(go_enter func48,ntmps48);go_wp2
 go_loopw [3,8] (fun b q wr=>∃k:Nat,k≤l.length∧q=qI k∧pF wr w.heap.size b (gJ (l.take k))∧ah No w wr) (fun _ q _=>l.length-(intOf q).toNat)
 case atStart=>exact⟨0,aX _,rfl,cJ _ _ _ _,aA _⟩
 case round=>
  obtain⟨k,K,rfl,m,hK⟩:=hrel;have x:=af m;have r:=af hK;have H:(0:Int)≤(k:Int):=(by omega);by_cases d:k<l.length
  ·have I:(k:Int)<(l.length:Int):=(by omega);obtain⟨b,off,c,he,_,_,_,A⟩:=LY.cell D.o (by omega);simp only[Value.slice.injEq,true_and]at he;obtain⟨rfl,rfl⟩:=he;have hc:=hK.cB (A k _ (fw d));obtain⟨n,hn⟩:=ay (l[k]);rw[←hn]at hc;have E:=af (p.o n (by rw[hn];exact dw d));have C:aj (gJ (l.take (k+1))=gJ (l.take k)++aG n):=af (by rw[iK d,Gl,hn]);have B:aj (((gJ (l.take k)).length:Int)≤70368744177664):=af (by
    have:=LZ (l.take k);rw[fB]at this;omega)
   clear A m hK hn;(go_wp2_with fail);refine(Jb wr w.heap.size r.o.size _ (gJ (l.take k)) x.o B.o n E.o).mono ?_;rintro e w1 ⟨v1,rfl,g,f,t⟩;have G:aj (pF w1 w.heap.size v1 (gJ (l.take (k+1)))):=af (by rw[C.o];exact g);have F:aj (ah No w w1):=af (r.o.trans f (fun i hi h=>absurd hi (bY.2 (x.o.lt i h).1)));clear g f t;go_wp2;go_roundw
   case rel=>exact⟨k+1,by omega,by go_num,G.o,F.o⟩
   case measure=>simp[intOf];omega
  ·have s:k=l.length:=(by omega);subst s;have a:=Oq m;rw[jH]at a;have u:aj (ew (gJ l)= .string ⟨(gJ l).toArray⟩):=af rfl;obtain⟨R,y⟩:=ay (⟨(gJ l).toArray⟩:ByteArray);rw[←y]at a u;have z:¬((l.length:Int)<(l.length:Int)):=(by omega);clear m hK y;go_wp2;go_ret;exact⟨by rw[u.o];rfl,r.o⟩
