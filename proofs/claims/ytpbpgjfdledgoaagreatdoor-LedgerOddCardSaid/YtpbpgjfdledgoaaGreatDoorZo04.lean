/- Lemmas. -/
import Derived.Test.YtpbpgjfdledgoaaGreatDoorZo03
import Derived.Deep.RegionHeld3
import Derived.Shelf.Strconv.Itoa3
set_option linter.all false
set_option maxRecDepth 100000
set_option maxHeartbeats 8000000
open List renaming map_cons→Ki,map_nil→Kj
open Nat renaming shiftLeft_eq→RO
namespace Go.Proofs.YtpbpgjfdledgoaaGreatDoor
open Go.Proofs.Tryz
open Go.RowKit
structure Laid (w:World)(base:Nat):Prop where
 Ik:∀i,i<16→w.cell? ⟨0,i,none⟩=some (.int .u32 (Ik i))
 pow:Lib.TabIs prog w "internal/strconv.uint64pow10" .u64 Lib.pow10Tab
 l1:0<base
 l2:5<base
def bytesOf (l:List ByteArray):Nm:=l.flatMap (·.data.toList)
theorem DQ (l:List ByteArray)(k:Nat)(h:k<l.length):bytesOf (l.take (k+1))=bytesOf (l.take k)++l[k].data.toList:=by
 unfold bytesOf;rw[iK h,qT];simp
theorem CG (s:ByteArray)(k:Nat)(h:k<s.size):s.data.toList.take (k+1)=s.data.toList.take k++ [s[k]]:=by
 rw[iK (by simpa using h)];rfl
theorem u7 (X:Nat)(a:X<2^32):∃A N Y:Nat,A<16∧N=Ik A∧Y=n9 X∧Y<2^32∧bits .and .u32 (X:Int) 15=(A:Int)∧bits .xor .u32 ((X:Int)/16) (N:Int)=(Y:Int):=by
 refine⟨X%16,Ik (X%16),n9 X,by omega,rfl,rfl,ua a,?_,?_⟩
 ·have:=u32_and_nat X 15 (by omega) (by omega);rw[show((15:Nat):Int)=15 from rfl]at this
  rw[this];have e:X&&&15=X%16:=Nat.and_two_pow_sub_one_eq_mod X 4;rw[e]
 ·have h:=Nf (X%16);have:=u32_xor_nat (X/16) (Ik (X%16)) (by omega) (by omega);rw[show((X:Int)/16)=((X/16:Nat):Int)by omega,this];rfl
theorem u_ (Q b:Nat)(a:Q<2^32)(hb:b<256):∃X,X=Q^^^b∧X<2^32∧bits .xor .u32 (Q:Int) (b:Int)=(X:Int)∧((b:Int)%4294967296)=(b:Int):=
 ⟨_,rfl,DH a (by omega),u32_xor_nat Q b (by omega) (by omega),by omega⟩
theorem Fm (R:Nat)(b:R<2^32):bits .xor .u32 IntKind.u32.max (R:Int)=4294967295-(R:Int):=by
 have h:=u32_xor_nat 4294967295 R (by omega) (by omega);have e:(4294967295^^^R:Nat)=4294967295-R:=by
  have a:(BitVec.allOnes 32^^^BitVec.ofNat 32 R).toNat=(~~~(BitVec.ofNat 32 R)).toNat:=(by rw[BitVec.allOnes_xor]);rw[BitVec.toNat_xor,BitVec.toNat_not,BitVec.toNat_ofNat,Nat.mod_eq_of_lt b]at a;exact a
 rw[e]at h;rw[show((4294967295:Nat):Int)=IntKind.u32.max from rfl]at h
 rw[h];omega
theorem Laid.kept {S:Nat→Prop}{w w':World}{base:Nat}(h:Laid w base)(k:ah S w w')(hS:∀i,S i→base≤i):Laid w' base:=
 ⟨fun i hi=>k.cell (h.Ik i hi) (fun hs=>by have:=hS _ hs;have:=h.l1;simp at*;omega),by
   have hp:=h.pow;have b:prog.globalNamed "internal/strconv.uint64pow10" =some 5:=(by kernel_rfl);unfold Lib.TabIs World.var? at hp⊢;rw[b]at hp⊢;simp only[Option.bind_some]at hp⊢;have a:5<w.heap.size:=by
    split at hp
    ·rename_i c
     exact(bX.1 c).1
    ·cases hp
   rw[k.block _ a (fun hs=>by have:=hS _ hs;have:=h.l2;omega)];exact hp,h.l1,h.l2⟩
theorem DR (w:World)(base:Nat)(E:Laid w base)(v:Value)(l:List ByteArray)(hv:Reads w 1 v l.length (l.map .string))(hs:∀s∈l,s.size≤9223372036854775807):Calls prog 227 #[v] w (qW w ((.int .u32 (pT (bytesOf l))))):=by
 obtain⟨va,vc,rfl⟩:=hv.slice;have e:=af E.Ik;have O:=af hs;have hlen:aj ((l.length:Int)≤9223372036854775807):=by
  rcases hv.shape with⟨_,h0⟩|⟨_,c',he,au,S,_⟩
  ·exact af (by omega)
  ·unfold maxLen at S;exact af (by omega)
 have P:=af hv;clear E hs hv;(go_enter func227,ntmps227);go_wp2
 go_loop [3,9] (fun c i=>∃k:Nat,k≤l.length∧i=qI k∧c= .int .u32 (Fb (bytesOf (l.take k)) 4294967295)) (fun _ i=>l.length-(intOf i).toNat)
 case atStart=>exact⟨0,aX _,rfl,rfl⟩
 case round=>
  obtain⟨k,aA,rfl,rfl⟩:=hrel;have p:=DM (bytesOf (l.take k)) (c:=4294967295) (by decide);by_cases g:k<l.length
  ·obtain⟨b,off,c',he,_,_,_,K⟩:=P.o.addr (by simpa using(show 0<l.length by omega));simp only[Value.slice.injEq,true_and]at he;obtain⟨rfl,rfl⟩:=he;have hc:=K k (.string l[k]) (by simp[g]);have C:=O.o l[k] (dw g);have d:=af (DQ l k g);obtain⟨s,u⟩:=ay (l[k]);rw[←u]at hc C d;clear u K;obtain⟨R,a⟩:=ay (Fb (bytesOf (l.take k)) 4294967295);rw[←a]at p⊢;have x:=af a;clear a;have W:(k:Int)<(l.length:Int):=(by omega);have U:(0:Int)≤(k:Int):=(by omega);have V:(k:Int)+1≤9223372036854775807:=(by have:=hlen.o;omega);go_wp2
   go_loop [3,6] (fun c i=>∃j:Nat,j≤s.size∧i=qI j∧c= .int .u32 (Fb (s.data.toList.take j) R)) (fun _ i=>s.size-(intOf i).toNat)
   case atStart=>exact⟨0,aX _,rfl,rfl⟩
   case round=>
    obtain⟨j,av,rfl,rfl⟩:=hrel;by_cases t:j<s.size
    ·have h:=CG s j t;have q:=DM (s.data.toList.take j) (c:=R) p;obtain⟨Q,n⟩:=ay (Fb (s.data.toList.take j) R);have ah:=af n;rw[←n]at q;have r:=s[j].toNat_lt;obtain⟨D,f⟩:=ay (s[j]);have J:s[j]'t=D:=f.symm;rw[←f]at r h;obtain⟨X,G,z,e1,e0⟩:=u_ Q D.toNat q r;obtain⟨A,N,Y,hA,F,H,B,e2,e3⟩:=u7 X z;obtain⟨A2,ai,Z,y,m,I,T,ak,aq⟩:=u7 Y B;have c1:=e.o A hA;have c2:=e.o A2 y;rw[←F]at c1;rw[←m]at c2;have M:aj (Z=Fb (s.data.toList.take (j+1)) R):=(by rw[h,Fe, ←n,I,H,G];exact af rfl);have i1:(A:Int)<16:=(by omega);have i2:(A2:Int)<16:=(by omega);have i3:(0:Int)≤(A:Int):=(by omega);have i4:(0:Int)≤(A2:Int):=(by omega);rw[←n];clear n G F H m I h f;go_wp2
     go_round
     case rel=>exact⟨j+1,by omega,by go_num,by rw[←M.o]⟩
     case measure=>simp[intOf];omega
    ·obtain rfl:j=s.size:=(by omega);go_wp2
     go_round
     case rel=>
      refine⟨k+1,by omega,by go_num,?_⟩;rw[d.o,zU, ←x.o,fA (by simp)]
     case measure=>simp[intOf];omega
  ·obtain rfl:k=l.length:=(by omega);rw[jH]at p⊢;obtain⟨R,a⟩:=ay (Fb (bytesOf l) 4294967295);have L:aj ((pT (bytesOf l):Int)=4294967295-(R:Int)):=(by rw[a];unfold pT;exact af (by omega));rw[←a]at p⊢;have e1:=Fm R p;clear a;go_wp2;go_ret;exact⟨by rw[L.o];rfl,rfl⟩
theorem oZ:∀(ns:List Int) (r:ByteArray),ns.foldl (fun r n=>r.push (UInt8.ofNat n.toNat)) r=⟨(r.data.toList++ns.map fun n=>UInt8.ofNat n.toNat).toArray⟩
 | [],r=>by simp
 |n::ns,r=>by
  rw[qX,oZ ns];simp[ByteArray.data_push]
theorem Ae (w:World)(ns:List Int)(n c:Nat)(hn:n=ns.length)(h0:0<n):(convert 184 9 (.slice (some ⟨w.heap.size,0,none⟩) n c)).run prog (w.alloc (.cells (ns.map (Value.int .u8)).toArray 5))=
 .ok (.string ⟨(ns.map fun n=>UInt8.ofNat n.toNat).toArray⟩) (w.alloc (.cells (ns.map (Value.int .u8)).toArray 5)):=by
 subst hn;rw[zA _ _ _ _ _ _ _ underlying184 underlying5 underlying9,
  run_bytesToString _ _ _ _ ns ?_,oZ]
 ·rfl
 ·show(mT _ _).run prog _=_;rw[lN,oU _ _ _ _ _ _ rfl,dM (by simp)];simp[List.take_of_length_le]
theorem Nl (w:World)(n:Nat)(hn:(n:Int)≤9223372036854775807):Calls prog 240 #[qI n] w (qG w ((.string ⟨(EX n).toArray⟩))):=by
 have h0:(0:Int)≤(n:Int):=(by omega);have hc:=Ae w [(n:Int)/65536%256,(n:Int)/256%256,(n:Int)%256] 3 3 rfl (by omega);have e:([(n:Int)/65536%256,(n:Int)/256%256,(n:Int)%256].map fun n=>UInt8.ofNat n.toNat)=EX n:=by
  simp only[Ki,Kj,EX,List.cons.injEq,and_true];refine⟨?_,?_,?_⟩<;>(apply tU.1;rw[mZ,mZ];omega)
 rw[e]at hc;simp only[Ki,Kj]at hc;clear e;(go_enter func240,ntmps240);go_wp2;go_ret;exact⟨rfl,(aA w).alloc _⟩
theorem Af (w:World)(n:Nat)(hn:n<2^32):Calls prog 226 #[.int .u32 n] w (qG w ((.string ⟨(EY n).toArray⟩))):=by
 have h0:(0:Int)≤(n:Int):=(by omega);have hc:=Ae w [(n:Int)/16777216,(n:Int)/65536%256,(n:Int)/256%256,(n:Int)%256] 4 4 rfl (by omega);have e:([(n:Int)/16777216,(n:Int)/65536%256,(n:Int)/256%256,(n:Int)%256].map fun n=>UInt8.ofNat n.toNat)=EY n:=by
  simp only[Ki,Kj,EY,List.cons.injEq,and_true];refine⟨?_,?_,?_,?_⟩<;>(apply tU.1;rw[mZ,mZ];omega)
 rw[e]at hc;simp only[Ki,Kj]at hc;clear e;(go_enter func226,ntmps226);go_wp2;go_ret;exact⟨rfl,(aA w).alloc _⟩
theorem Nn (w:World)(base:Nat)(q:Laid w base)(hb:base≤w.heap.size)(s:ByteArray)(hs:(s.size:Int)≤65536):Calls prog 185 #[.string s] w (qG w ((.tuple #[.string ⟨(cM s.data.toList).toArray⟩,qI 0]))):=by
 have hd:decide ((65536:Int)<(s.size:Int))=false:=aJ (by omega);obtain⟨H,c⟩:=ay (⟨(EX s.size).toArray⟩:ByteArray);have d:H.size=3:=(by rw[c];rfl);have t:∀W:World,(Op.stringOp .add H s).run prog W= .ok (.string (H++s)) W:=fun W=>kD W _ _ (by omega);obtain⟨T,j⟩:=ay (⟨(EY (pT (bytesOf [H,s]))).toArray⟩:ByteArray);have l:T.size=4:=(by rw[j];rfl);have m:∀W:World,(Op.stringOp .add (H++s) T).run prog W= .ok (.string (H++s++T)) W:=fun W=>kD W _ _ (by rw[qB];omega);have a:aj ((H++s++T)=⟨(cM s.data.toList).toArray⟩):=by
  refine af (fW ?_);have e1:bytesOf [H,s]=EX s.size++s.data.toList:=(by rw[c];simp[bytesOf]);have e2:s.data.toList.length=s.size:=(by simp);rw[j,e1];unfold cM;rw[e2];simp[ByteArray.data_append,c]
 have b:=af (zc (bytesOf [H,s]));have u:=af q;have z:=af hb;have k:=af d;have HH:=af c;have v:=af j;clear q d l c j hb;(go_enter func185,ntmps185);(go_wp2_with fail);refine(Nl _ s.size (by omega)).mono ?_;rintro e w1 ⟨rfl,f⟩;rw[←HH.o];have n:=af f;clear f;(go_wp2_with fail);have p:Laid (w1.alloc (.cells #[.string H,.string s] 9)) base:=(u.o.kept n.o (fun _ h=>h.elim)).kept ((aA (S:=No) w1).alloc _) (fun _ h=>h.elim);have r:Reads (w1.alloc (.cells #[.string H,.string s] 9)) 1 (.slice (some ⟨w1.heap.size,0,none⟩) 2 2) 2 ([H,s].map .string):=Reads.fu (jO w1 #[.string H,.string s] 2 (aX _) (by unfold maxLen;omega) rfl) (by simp[Value.oneCell']);refine(DR _ base p _ [H,s] r (by intro x i;rcases q4.1 i with i|i;(subst i;have:=k.o;omega);(rw[dA.1 i];omega))).mono ?_
 rintro e w2 ⟨rfl,rfl⟩;clear p r;(go_wp2_with fail);refine(Af _ _ b.o).mono ?_;rintro e w2 ⟨rfl,g⟩;rw[←v.o];have y:aj (ah No w w2):=(n.o.alloc _).aK g;clear g;go_wp2;rw[a.o]
 go_ret2
 exact⟨rfl,y.o⟩
theorem Np (s:ByteArray)(k:Nat):(s.extract k s.size).data.toList=s.data.toList.drop k:=by
 rw[←fP,Lib.extract_toList,fA (by simp)]
theorem Ag (a b:Nat)(c:a<4294967296)(hb:b<4294967296):bits .or .i64 (a:Int) (b:Int)=((a|||b:Nat):Int):=by
 have d:a|||b<2^32:=Nat.or_lt_two_pow (by omega) (by omega)
 show IntKind.i64.wrap ((BitVec.ofInt 64 (a:Int)|||BitVec.ofInt 64 (b:Int)).toNat:Int)=_
 rw[BitVec.toNat_or,ofInt_u64 a (by omega),ofInt_u64 b (by omega),cI];omega
theorem Ah (x y z:Nat)(f:x<256)(hy:y<256)(g:z<256):bits .or .i64 (bits .or .i64 ((x:Int)*65536) ((y:Int)*256)) (z:Int)=((x*65536+y*256+z:Nat):Int):=by
 have d:x*65536|||y*256=x*65536+y*256:=by
  have:=H_ (i:=16) (b:=y*256) (by omega) x;rw[RO]at this;exact this.symm
 have e:(x*65536+y*256)|||z=x*65536+y*256+z:=by
  have:=H_ (i:=8) (b:=z) (by omega) (x*256+y);rw[RO,show(x*256+y)*2^8=x*65536+y*256 by rw[Nat.add_mul,Nat.mul_assoc]]at this;exact this.symm
 have a:=Ag (x*65536) (y*256) (by omega) (by omega);rw[d]at a;have c:=Ag (x*65536+y*256) z (by omega) (by omega);rw[e]at c;rw[show((x:Int)*65536)=((x*65536:Nat):Int)by omega,show((y:Int)*256)=((y*256:Nat):Int)by omega,a,c]
theorem Nq (w:World)(base:Nat)(K:Laid w base)(s:ByteArray)(hs:(s.size:Int)≤140737488355328)(k:Nat)(aO:k≤s.size)(t:Nm)(L:eB (s.data.toList.drop k)=some t):
 Calls prog 167 #[.string s,qI k] w (qG w ((.tuple #[.string ⟨t.toArray⟩,qI ((k+7+t.length:Nat):Int),qI 0]))):=by
 have A:(s.extract k s.size).size=s.size-k:=(by simp);have d:=Np s k;obtain⟨u,hu⟩:=ay (s.extract k s.size);rw[←hu]at A d;rw[←d]at L;obtain⟨F,r,B⟩:=lQ L;have H:u.size=t.length+7+r.length:=by
  have:=fJ List.length B;rw[cr,dD]at this
  simpa using this
 have h0:(0:Int)≤(k:Int):=(by omega);have aL:(k:Int)≤(s.size:Int):=(by omega);have aB:decide ((s.size:Int)<(k:Int))=false:=aJ (by omega);have aM:3≤u.size:=(by omega);have aN:decide ((u.size:Int)<3)=false:=aJ (by omega);have aE:s.extract k s.size=u:=hu.symm;have c:(n3 u.data.toList:Int)=t.length:=by
  rw[B];unfold cM;rw[eY,eY,Ni (by omega)]
 have G:t.length+7≤u.size:=(by omega);have z:k+7+t.length≤s.size:=(by omega);have q:=B;clear hu A H B;have p0:0<u.size:=(by omega);have M:1<u.size:=(by omega);have N:2<u.size:=(by omega);have aG:(1:Int)<(u.size:Int):=(by omega);have aH:(2:Int)<(u.size:Int):=(by omega);have g0:(u.data.toList.getD 0 0)=u[0]:=(by simp[List.getD,p0];rfl);have g1:(u.data.toList.getD 1 0)=u[1]:=(by simp[List.getD,M];rfl);have g2:(u.data.toList.getD 2 0)=u[2]:=(by simp[List.getD,N];rfl);unfold n3 at c;rw[g0,g1,g2]at c;have b0:=u[0].toNat_lt;have b1:=u[1].toNat_lt;have D:=u[2].toNat_lt;obtain⟨X,e0⟩:∃X,u[0].toNat=X:=⟨_,rfl⟩;obtain⟨Y,e1⟩:∃X,u[1].toNat=X:=⟨_,rfl⟩;obtain⟨Z,e2⟩:∃X,u[2].toNat=X:=⟨_,rfl⟩;rw[e0,e1,e2]at c;rw[e0]at b0;rw[e1]at b1;rw[e2]at D;have w0:IntKind.i64.wrap (X:Int)=(X:Int):=(by rw[cI];omega);have w1:IntKind.i64.wrap ((X:Int)*65536)=(X:Int)*65536:=(by rw[cI];omega);have w2:IntKind.i64.wrap (Y:Int)=(Y:Int):=(by rw[cI];omega);have O:IntKind.i64.wrap ((Y:Int)*256)=(Y:Int)*256:=(by rw[cI];omega);have aI:IntKind.i64.wrap (Z:Int)=(Z:Int):=(by rw[cI];omega);have Q:=Ah X Y Z b0 b1 D;rw[c]at Q;have I:=af q;clear q;clear g0 g1 g2 b0 b1 D c;(go_enter func167,ntmps167);go_wp2_with fail
 go_still (by kernel_rfl)
 clear w0 w1 w2 O aI Q e0 e1 e2 aG aH p0 M N;obtain⟨n,hn⟩:=ay (t.length);rw[←hn]at F G z⊢;obtain⟨a,b⟩:=ay (3+n);obtain⟨f,i⟩:=ay (7+n);have O:IntKind.i64.wrap (a:Int)=(a:Int):=(by rw[cI];omega);have aQ:IntKind.i64.wrap (f:Int)=(f:Int):=(by rw[cI];omega);have v3:3+(n:Int)=(a:Int):=(by omega);have aP:7+(n:Int)=(f:Int):=(by omega);have z0:(0:Int)≤(a:Int):=(by omega);have aR:a≤f:=(by omega);have aS:f≤u.size:=(by omega);have aT:a≤u.size:=(by omega);have z4:(3:Int)≤(a:Int):=(by omega);have z5:decide ((u.size:Int)<(f:Int))=false:=aJ (by omega);have aV:decide ((65536:Int)<(n:Int))=false:=aJ (by omega);obtain⟨Pre,g⟩:∃P,u.extract 0 a=P:=⟨_,rfl⟩;obtain⟨T,aD⟩:∃P,u.extract a f=P:=⟨_,rfl⟩;have E:aj (Pre.size≤9223372036854775807):=(by rw[←g];exact af (by rw[zB];omega));have l:Pre.data.toList=u.data.toList.take (3+n):=(by rw[←g,b, ←fP,Lib.extract_toList];simp);have m:T.data.toList=(u.data.toList.drop (3+n)).take 4:=(by rw[←aD,b,i, ←fP,Lib.extract_toList];congr 1;omega);have aU:(k:Int)+7+(n:Int)≤140737488355328:=(by omega);have y:u.extract 3 a=⟨t.toArray⟩:=by
  apply fW;rw[←fP,Lib.extract_toList,I.o,b];unfold cM;rw[eY,eY,qV (jZ _),nX (by omega)]
 have V:aj (T=⟨(EY (pT (bytesOf [Pre]))).toArray⟩):=by
  refine af (fW ?_);have hb:bytesOf [Pre]=Pre.data.toList:=(by simp[bytesOf]);rw[hb,m,l,I.o,hn];unfold cM;rw[eY _ (EY _) r,nX (by simp[jZ]),qV (by simp[jZ]),nX (ud _)]
 obtain⟨R,j⟩:=ay (⟨t.toArray⟩:ByteArray);rw[←j]at y;have C:=af j;clear j;have U:aj (n=t.length∧a=3+n∧f=7+n):=af ⟨hn,b,i⟩;have ai:=af d;clear hn b i d l m;(go_wp2_with fail);refine au ?_;intro W hW;have J:aj (ah No w W):=(by rw[hW];exact(aA (S:=No) w).drew);have av:aj (Laid W base):=af (K.kept J.o (fun _ h=>h.elim));clear hW K;have aC:aj (Reads ((W.alloc (.cells #[.string Pre] 9)).drew) 1 (.slice (some ⟨W.heap.size,0,none⟩) 1 1) 1 ([Pre].map .string)):=af (Reads.kept (S:=No) ((aA _).drew) (Reads.fu (jO W #[.string Pre] 1 (aX _) (by unfold maxLen;omega) rfl) (by simp[Value.oneCell'])) (fun _ _ h=>h));have aq:aj (Laid ((W.alloc (.cells #[.string Pre] 9)).drew) base):=af (av.o.kept (((aA (S:=No) W).alloc _).drew) (fun _ h=>h.elim))
 go_region_held3 (fun w'=>True) (trivial)
  (first
    |(go_at_call 227
      refine(DR _ base aq.o _ [Pre] aC.o (by intro x aF;rw[dA.1 aF];exact E.o)).mono ?_;rintro e w2 ⟨rfl,rfl⟩)
    |(go_at_call 226
      refine(Af _ _ (zc _)).mono ?_;rintro e w2 ⟨rfl,p⟩;have ak:aj (ah No w w2):=(J.o.aK (((aA (S:=No) W).alloc _).drew)).aK p;clear p;rw[←V.o]))
 go_wp2;refine aY (v:= .tuple #[.string R,qI ((k+7+n:Nat):Int),qI 0]) ?_ rfl ⟨by rw[C.o,U.o.1],ak.o⟩;simp[results,results167,go_sem, *]
theorem Nr (w:World)(base:Nat)(F:Laid w base)(s:ByteArray)(hs:(s.size:Int)≤140737488355328)(k:Nat)(aS:k≤s.size)(l:eB (s.data.toList.drop k)=none):
 Calls prog 167 #[.string s,qI k] w fun e w'=>∃ec:Int,¬ec=0∧e= .returned (.tuple #[.string ⟨#[]⟩,qI 0,qI ec])∧ah No w w':=by
 have z:(s.extract k s.size).size=s.size-k:=(by simp);have b:=Np s k;obtain⟨u,hu⟩:=ay (s.extract k s.size);rw[←hu]at z b;rw[←b]at l;have h0:(0:Int)≤(k:Int):=(by omega);have aQ:(k:Int)≤(s.size:Int):=(by omega);have U:decide ((s.size:Int)<(k:Int))=false:=aJ (by omega);have aC:s.extract k s.size=u:=hu.symm;have aF:u.size≤140737488355328:=(by omega);clear hu z;by_cases aR:3≤u.size
 case neg=>
  have V:decide ((u.size:Int)<3)=true:=aM (by omega);clear b l;(go_enter func167,ntmps167);go_wp2;refine aY (v:= .tuple #[.string ⟨#[]⟩,qI 0,qI 4]) ?_ rfl ⟨4,by decide,rfl,aA w⟩;simp[results,results167,go_sem, *]
 have V:decide ((u.size:Int)<3)=false:=aJ (by omega);obtain⟨n,hn⟩:=ay (n3 u.data.toList);have j:(n3 u.data.toList:Int)=n:=(by rw[hn]);have i:65536<n∨(n≤65536∧u.size<n+7)∨(n≤65536∧n+7≤u.size∧EY (pT (u.data.toList.take (3+n)))≠(u.data.toList.drop (3+n)).take 4):=by
  have hlen:u.data.toList.length=u.size:=(by simp);unfold eB at l;rw[←hn,hlen,fC (by omega)]at l;by_cases c1:65536<n
  ·exact .inl c1
  ·rw[fC c1]at l;by_cases c2:u.size<7+n
   ·exact .inr (.inl ⟨by omega,by omega⟩)
   ·rw[fC c2]at l;by_cases c3:EY (pT (u.data.toList.take (3+n)))=(u.data.toList.drop (3+n)).take 4
    ·rw[dM c3]at l;cases l
    ·exact .inr (.inr ⟨by omega,by omega,c3⟩)
 have aB:n≤16777215:=by
  rw[hn];unfold n3;have:=(u.data.toList.getD 0 0).toNat_lt;have:=(u.data.toList.getD 1 0).toNat_lt;have:=(u.data.toList.getD 2 0).toNat_lt;omega
 have D:=af hn;clear hn l;have a:=af i;clear i;have p0:0<u.size:=(by omega);have H:1<u.size:=(by omega);have I:2<u.size:=(by omega);have aH:(1:Int)<(u.size:Int):=(by omega);have aI:(2:Int)<(u.size:Int):=(by omega);have g0:(u.data.toList.getD 0 0)=u[0]:=(by simp[List.getD,p0];rfl);have g1:(u.data.toList.getD 1 0)=u[1]:=(by simp[List.getD,H];rfl);have g2:(u.data.toList.getD 2 0)=u[2]:=(by simp[List.getD,I];rfl);unfold n3 at j;rw[g0,g1,g2]at j;have b0:=u[0].toNat_lt;have b1:=u[1].toNat_lt;have A:=u[2].toNat_lt;obtain⟨X,e0⟩:∃X,u[0].toNat=X:=⟨_,rfl⟩;obtain⟨Y,e1⟩:∃X,u[1].toNat=X:=⟨_,rfl⟩;obtain⟨Z,e2⟩:∃X,u[2].toNat=X:=⟨_,rfl⟩;rw[e0,e1,e2]at j;rw[e0]at b0;rw[e1]at b1;rw[e2]at A;have w0:IntKind.i64.wrap (X:Int)=(X:Int):=(by rw[cI];omega);have w1:IntKind.i64.wrap ((X:Int)*65536)=(X:Int)*65536:=(by rw[cI];omega);have w2:IntKind.i64.wrap (Y:Int)=(Y:Int):=(by rw[cI];omega);have C:IntKind.i64.wrap ((Y:Int)*256)=(Y:Int)*256:=(by rw[cI];omega);have aN:IntKind.i64.wrap (Z:Int)=(Z:Int):=(by rw[cI];omega);have J:=Ah X Y Z b0 b1 A;rw[j]at J;clear g0 g1 g2 b0 b1 A j;(go_enter func167,ntmps167);go_wp2_with fail
 go_still (by kernel_rfl)
 clear w0 w1 w2 C aN J e0 e1 e2 aH aI p0 H I;have hn:=D.o;clear D;rcases a.o with hc|⟨aq,av⟩|⟨aD,aE,y⟩
 ·have K:decide ((65536:Int)<(n:Int))=true:=aM (by omega);clear hn b a;go_wp2;refine aY (v:= .tuple #[.string ⟨#[]⟩,qI 0,qI 2]) ?_ rfl ⟨2,by decide,rfl,(aA w).drew⟩;simp[results,results167,go_sem, *]
 ·have K:decide ((65536:Int)<(n:Int))=false:=aJ (by omega);obtain⟨c,f⟩:=ay (3+n);obtain⟨d,g⟩:=ay (7+n);have C:IntKind.i64.wrap (c:Int)=(c:Int):=(by rw[cI];omega);have aO:IntKind.i64.wrap (d:Int)=(d:Int):=(by rw[cI];omega);have v3:3+(n:Int)=(c:Int):=(by omega);have aL:7+(n:Int)=(d:Int):=(by omega);have z5:decide ((u.size:Int)<(d:Int))=true:=aM (by omega);clear hn b f g a;go_wp2;refine aY (v:= .tuple #[.string ⟨#[]⟩,qI 0,qI 4]) ?_ rfl ⟨4,by decide,rfl,(aA w).drew⟩;simp[results,results167,go_sem, *]
 ·obtain⟨c,f⟩:=ay (3+n);obtain⟨d,g⟩:=ay (7+n);have C:IntKind.i64.wrap (c:Int)=(c:Int):=(by rw[cI];omega);have aO:IntKind.i64.wrap (d:Int)=(d:Int):=(by rw[cI];omega);have v3:3+(n:Int)=(c:Int):=(by omega);have aL:7+(n:Int)=(d:Int):=(by omega);have z0:(0:Int)≤(c:Int):=(by omega);have aT:c≤d:=(by omega);have aU:d≤u.size:=(by omega);have aV:c≤u.size:=(by omega);have z4:(3:Int)≤(c:Int):=(by omega);have z5:decide ((u.size:Int)<(d:Int))=false:=aJ (by omega);have K:decide ((65536:Int)<(n:Int))=false:=aJ (by omega);obtain⟨Pre,m⟩:∃P,u.extract 0 c=P:=⟨_,rfl⟩;obtain⟨T,ak⟩:∃P,u.extract c d=P:=⟨_,rfl⟩;have B:aj (Pre.size≤9223372036854775807):=(by rw[←m];exact af (by rw[zB];omega));have q:Pre.data.toList=u.data.toList.take (3+n):=(by rw[←m,f, ←fP,Lib.extract_toList];simp);have r:T.data.toList=(u.data.toList.drop (3+n)).take 4:=(by rw[←ak,f,g, ←fP,Lib.extract_toList];congr 1;omega);obtain⟨R,p⟩:=ay (⟨(EY (pT (bytesOf [Pre]))).toArray⟩:ByteArray);have L:=af p;have G:(R.toList==T.toList)=false:=by
   rw[eD,fP,fP,r,p];have hb:bytesOf [Pre]=Pre.data.toList:=(by simp[bytesOf]);rw[hb,q];exact y
  clear p y a;have aP:aj (n=n3 u.data.toList∧c=3+n∧d=7+n):=af ⟨hn,f,g⟩;have M:=af b;clear hn f g b q r;(go_wp2_with fail);refine au ?_;intro W hW;have E:aj (ah No w W):=(by rw[hW];exact(aA (S:=No) w).drew);have Q:aj (Laid W base):=af (F.kept E.o (fun _ h=>h.elim));clear hW F;have ai:aj (Reads ((W.alloc (.cells #[.string Pre] 9)).drew) 1 (.slice (some ⟨W.heap.size,0,none⟩) 1 1) 1 ([Pre].map .string)):=af (Reads.kept (S:=No) ((aA _).drew) (Reads.fu (jO W #[.string Pre] 1 (aX _) (by unfold maxLen;omega) rfl) (by simp[Value.oneCell'])) (fun _ _ h=>h));have O:aj (Laid ((W.alloc (.cells #[.string Pre] 9)).drew) base):=af (Q.o.kept (((aA (S:=No) W).alloc _).drew) (fun _ h=>h.elim))
  go_region_held3 (fun w'=>True) (trivial)
   (first
     |(go_at_call 227
       refine(DR _ base O.o _ [Pre] ai.o (by intro x aG;rw[dA.1 aG];exact B.o)).mono ?_;rintro e w2 ⟨rfl,rfl⟩)
     |(go_at_call 226
       refine(Af _ _ (zc _)).mono ?_;rintro e w2 ⟨rfl,t⟩;have N:aj (ah No w w2):=(E.o.aK (((aA (S:=No) W).alloc _).drew)).aK t;clear t;rw[←L.o]))
  go_wp2;refine aY (v:= .tuple #[.string ⟨#[]⟩,qI 0,qI 3]) ?_ rfl ⟨3,by decide,rfl,N.o⟩;simp[results,results167,go_sem, *]
