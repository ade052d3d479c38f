/- Lemmas. -/
import Derived.Test.YtpbpgjfdledgoaaGreatDoorZo16
import Derived.Test.YtpbpgjfdledgoaaGreatDoorZo36
set_option linter.all false
set_option maxRecDepth 100000
set_option maxHeartbeats 8000000
open Bool renaming and_eq_true→eA
open List renaming isPrefixOf_iff_prefix→SD
open Array renaming getElem_toList→SE
namespace Go.Proofs.YtpbpgjfdledgoaaGreatDoor
open Go.Proofs.Tryz
open Go.RowKit Go.Shelf Go.Joins Go.Deep
def cT:dX Nm:=⟨fun t=> [.string (bB t)],1,fun _=>rfl,fun a u h=>by simp at h;rw[h];rfl,by decide⟩
def KQ (s:ByteArray)(a:Nat)(t n e:Value):Prop:=match eB (s.data.toList.drop a)with
 |some x=>t= .string (bB x)∧n= .int .i64 (a+7+x.length:Nat)∧e= .int .i64 0
 |none=>∃ec:Int,ec≠0∧t= .string ⟨#[]⟩∧n= .int .i64 0∧e= .int .i64 ec
theorem fT.is {w w':World}{s:ByteArray}{a:Nat}{e:Ending}(h:fT w s a e w'):∃t n c:Value,e= .returned (.tuple #[t,n,c])∧KQ s a t n c∧ah No w w':=by
 obtain⟨k,h⟩:=h;unfold KQ;cases hf:eB (s.data.toList.drop a)with
 |none=>
  rw[hf]at h;obtain⟨ec,b,rfl⟩:=h;exact⟨_,_,_,rfl,⟨ec,b,rfl,rfl,rfl⟩,k⟩
 |some x=>
  rw[hf]at h;exact⟨_,_,_,h,⟨rfl,rfl,rfl⟩,k⟩
def KR (w:World)(P:List Nm)(e:Ending)(w':World):Prop:=∃v,e= .returned (.tuple #[v,qI (bK P:Nat)])∧aI cT 9 w' w.heap.size v P∧ah No w w'
theorem Pq (w:World)(s:ByteArray)(hs:(s.size:Int)≤1000000000):Calls prog 174 #[.string s] w (KR w (parse s.data.toList)):=by
 obtain⟨i0,hi,Q,R,T⟩:=fR Tryz.mN;have V:=af (fun W (a:Nat) (aR:a≤s.size)=>IK W s a aR (by omega));have aD:aj (Calls prog 231 #[.string s,qI 0] w (fT w s 0)):=af (by have h:=V.o w 0 (aX _);rw[show((0:Nat):Int)=0 from rfl]at h;exact h)
 have C:s.data.toList.length=s.size:=(by rw[qR];rfl);have H:=af C;obtain⟨P,K⟩:=ay (parse s.data.toList);rw[←K];have aJ:=af K;clear K C;(go_enter func174,ntmps174);(go_wp2_with fail);refine aD.o.mono ?_;rintro e w1 au;obtain⟨t0,n0,c0,rfl,aB,aC⟩:=fT.is au;have aG:=af aB;have aM:=af aC;clear au aB aC;go_wp2
 go_loopw [4,5,6,7,8] (fun l a t n c wr=>∃(L:List Nm) (i:Nat),i≤s.size∧aI cT 9 wr w.heap.size l L∧a=qI i∧P=L++parse (s.data.toList.drop i)∧bK L=i∧KQ s i t n c∧ah No w wr) (fun _ a _ _ _ _=>s.size-(intOf a).toNat)
 case atStart=>exact⟨[],0,aX _,cJ _ _ _ _,rfl,by rw[aJ.o];rfl,rfl,aG.o,aM.o⟩
 case round=>
  obtain⟨L,i,aS,J,rfl,u,z,p,hK⟩:=hrel;obtain⟨la,lc,rfl⟩:=aq J;have m:=af u;have k:=af z;have ak:=af J;have I:=af hK;have aP:L.length≤i:=(by have:=Ak L;omega);clear u z J hK;unfold KQ at p;cases hf:eB (s.data.toList.drop i)with
  |none=>
   rw[hf]at p;obtain⟨ec,y,rfl,rfl,rfl⟩:=p;have hb:(ec==0)=false:=eD.2 y;have aF:aj (P=L):=af (by rw[m.o,pV hf,kE]);have E:aj (KR w P (.returned (.tuple #[.slice la L.length lc,qI i])) wr):=af (by
    rw[aF.o];exact⟨_,by rw[k.o],ak.o,I.o⟩)
   clear hf y;go_wp2;refine aY (v:= .tuple #[.slice la L.length lc,qI i]) ?_ rfl E.o;simp[results,results174]
  |some x=>
   rw[hf]at p;obtain⟨rfl,rfl,rfl⟩:=p;have D:=(lQ hf).2;have hle:i+7+x.length≤s.size:=by
    obtain⟨r,aT⟩:=D;have h:=fJ List.length aT;rw[jQ,H.o,cr,dD]at h;omega
   have Z:aj (P=(L++ [x])++parse (s.data.toList.drop (i+7+x.length))):=af (by
    rw[m.o,zW hf,List.drop_drop,eY,show i+(x.length+7)=i+7+x.length by omega];rfl)
   clear hf D;have aH:=af hle;obtain⟨j,N⟩:=ay (i+7+x.length);rw[←N]at Z hle⊢;have Y:=af N;clear N;have f:aI cT 9 (wr.alloc (.cells #[.string (bB x)] 9)) w.heap.size (.slice la L.length lc) L:=ah.owns (S:=No) ((aA wr).alloc _) ak.o (fun _ _ h=>h);have d:Reads (wr.alloc (.cells #[.string (bB x)] 9)) 1 (.slice (some ⟨wr.heap.size,0,none⟩) 1 1) 1 [.string (bB x)]:=jw cT wr 9 x;obtain⟨X,M⟩:=ay (bB x);rw[←M]at f d⊢;have aL:=af M;have F:=af I.o.size;clear M;(go_wp2_with (at_builtin;refine aQ rfl (.tmp 18) (.tmp 20) 67 rfl w.heap.size 9 i0 _ 1 16 underlying67 hi Q R T rfl (by decide) _ L.length _ rfl f _ 1 _ rfl d (by unfold maxLen;omega) (by omega) (by have:=F.o;simp;omega) ?_;intro v5 U b A g _));have aO:aj (aI cT 9 U w.heap.size v5 (L++ [x])):=af (by
    unfold aI;rw[cr,bE,fL,show cT.cells x= [.string X]by rw[aL.o];rfl];exact b)
   have aN:aj (ah No w U):=af ((I.o.aK ((aA (S:=No) wr).alloc _)).trans A (fun i hi O=>absurd hi (bY.2 (f.lt i O).1)));have aE:=af (V.o U j hle);obtain⟨aV,ec,rfl⟩:=aq b;clear b A g f d;(go_wp2_with fail);refine aE.o.mono ?_;rintro e aW av;obtain⟨t6,n6,aU,rfl,q,B⟩:=fT.is av;have G:=af q;have ai:=af B;clear av q B;go_wp2;go_roundw
   case rel=>exact⟨L++ [x],j,hle,ah.owns (S:=No) ai.o aO.o (fun _ _ h=>h),rfl,Z.o,by rw[sw,k.o,Y.o],G.o,aN.o.aK ai.o⟩
   case measure=>have:=Y.o;simp[intOf];omega
theorem JR (w:World)(s:ByteArray)(h:pY s=true):Calls prog 169 #[.string s] w (qW w (.bool true)):=by
 unfold pY at h;simp only[eA,decide_eq_true_eq]at h;obtain⟨a,f,m⟩:=h;have l:aj (∀j (k:j<s.size),Qx s[j]=true):=af (fun j k=>by
  rw[qD]at a;refine a _ ?_;rw[H8];exact Array.mem_toList_iff.2 (Array.getElem_mem _))
 have p:(1:Int)≤(s.size:Int):=(by omega);have z2:(s.size:Int)≤16:=(by omega);clear a f m;(go_enter func169,ntmps169);go_wp2
 go_loopw [3] (fun q wr=>∃j:Nat,j≤s.size∧q=qI j∧wr=w) (fun q _=>s.size-(intOf q).toNat)
 case atStart=>exact⟨0,aX _,rfl,rfl⟩
 case round=>
  obtain⟨j,k,rfl,rfl⟩:=hrel;by_cases e:j<s.size
  ·have c:=l.o j e;obtain⟨b,d⟩:=ay (s[j]);have i:s[j]'e=b:=d.symm;rw[←d]at c;have h0:(0:Int)≤(j:Int):=(by omega);have f:(j:Int)<(s.size:Int):=(by omega);unfold Qx at c;clear d;by_cases g:97≤b.toNat∧b.toNat≤122
   ·have c1:(97:Int)≤(b.toNat:Int):=(by omega);have c2:(b.toNat:Int)≤122:=(by omega);clear c g;go_wp2;go_roundw
    case rel=>exact⟨j+1,by omega,by go_num,by first|rfl|trivial⟩
    case measure=>simp[intOf];omega
   ·have n:48≤b.toNat∧b.toNat≤57:=by
     simp only[Bool.or_eq_true,eA,decide_eq_true_eq]at c;rcases c with c|c
     ·exact absurd c g
     ·exact c
    have c1:¬(97:Int)≤(b.toNat:Int):=(by omega);have c3:(48:Int)≤(b.toNat:Int):=(by omega);have c4:(b.toNat:Int)≤57:=(by omega);clear c g n;go_wp2;go_roundw
    case rel=>exact⟨j+1,by omega,by go_num,by first|rfl|trivial⟩
    case measure=>simp[intOf];omega
  ·have f:¬(j:Int)<(s.size:Int):=(by omega);go_wp2;go_ret;exact⟨rfl,rfl⟩
theorem GZ {name f:Nm}{n:Nat}(h:iX name f=some n):∃r,f=name++46::r∧r.length=8∧Lib.decFrom 0 r=some n:=by
 unfold iX at h;cases hp:Lib.hasPrefix f (name++ [46])with
 |false=>rw[hp]at h;cases h
 |true=>
  rw[hp]at h;have a:=hp;unfold Lib.hasPrefix at hp;obtain⟨r,b⟩:=SD.1 hp;have c:Lib.trimPrefix f (name++ [46])=r:=by
   unfold Lib.trimPrefix;rw[dM a, ←b,qV rfl]
  rw[c]at h;simp only[cond_true]at h;cases hl:decide (r.length=8)with
  |false=>rw[hl]at h;cases h
  |true=>
   rw[hl]at h;exact⟨r,by rw[←b];simp,wY hl,(Lib.decNat_some h).2⟩
theorem Pr {name r:Nm}(a:r.length=8):iX name (name++46::r)=Lib.decFrom 0 r:=by
 have hp:Lib.hasPrefix (name++46::r) (name++ [46])=true:=by
  unfold Lib.hasPrefix;exact SD.2 ⟨r,by simp⟩
 unfold iX;have c:Lib.trimPrefix (name++46::r) (name++ [46])=r:=by
  unfold Lib.trimPrefix;rw[dM hp,show name++46::r=(name++ [46])++r by simp,qV rfl]
 rw[hp,c,aM a];simp only[cond_true];unfold Lib.decNat;cases r with
 |nil=>simp at a
 |cons b r=>rfl
theorem wo (n:Int)(h0:0≤n)(a:n<9223372036854775808):wrap64 n=n:=by
 unfold wrap64;rw[Int.emod_eq_of_lt (by omega) (by omega)];omega
def Ps (o:Option Nat):Int:=match o with|some n=>n|none=> -1
theorem G4 (w:World)(nm f:ByteArray)(hn:nm.size≤100)(hf:f.size≤1000):Calls prog 228 #[.string nm,.string f] w (qW w ((qI (Ps (iX nm.data.toList f.data.toList))))):=by
 obtain⟨R,S⟩:=ay (Ps (iX nm.data.toList f.data.toList));rw[←S];have z:=af S;have s:nm.data.toList.length=nm.size:=(by rw[qR];rfl);have j:f.data.toList.length=f.size:=(by rw[qR];rfl);have aC:(nm.size:Int)≤100:=(by omega);have z2:(f.size:Int)≤1000:=(by omega);have m1:IntKind.i64.wrap ((nm.size:Int)+9)=(nm.size:Int)+9:=(by rw[cI];omega);have NO:aj ((∀r:Nm,f.data.toList=nm.data.toList++46::r→r.length=8→False)→R= -1):=af (fun h=>by
  rw[z.o];cases hs:iX nm.data.toList f.data.toList with
  |none=>rfl
  |some n=>
   obtain⟨r,p,E,_⟩:=GZ hs;exact(h r p E).elim)
 clear S hn hf;by_cases hl:(f.size:Int)=(nm.size:Int)+9
 case neg=>
  have bl:((f.size:Int) !=(nm.size:Int)+9)=true:=(by simpa using hl);have m:aj (R= -1):=af (NO.o (fun r p E=>by
   have:=fJ List.length p;rw[j,cr,s,g_,E]at this;omega))
  clear hl NO z s j;(go_enter func228,ntmps228);go_wp2;go_ret;exact⟨by rw[m.o];rfl,rfl⟩
 have bl:((f.size:Int) !=(nm.size:Int)+9)=false:=(by simpa using hl);obtain⟨X,J⟩:=ay (f.extract 0 nm.size);have l:X.data.toList=f.data.toList.take nm.size:=by
  rw[J, ←fP,Lib.extract_toList,List.drop_zero,Nat.sub_zero]
 have g1:(0:Int)≤(nm.size:Int):=(by omega);have g2:(nm.size:Int)≤(f.size:Int):=(by omega);by_cases g:X=nm
 case neg=>
  have V:(X.toList==nm.toList)=false:=eD.2 (fun e=>g (fW (by rw[←fP, ←fP];exact e)));have m:aj (R= -1):=af (NO.o (fun r p E=>g (fW (by rw[l,p, ←s,nX rfl]))));rw[J]at V;clear NO z l g;(go_enter func228,ntmps228);go_wp2;go_ret;exact⟨by rw[m.o];rfl,rfl⟩
 have V:(X.toList==nm.toList)=true:=(by rw[g];simp);have y:nm.size<f.size:=(by omega);obtain⟨c,hc⟩:=ay (f[nm.size]'y);have ah:f[nm.size]'y=c:=hc.symm;have g3:(nm.size:Int)<(f.size:Int):=(by omega);obtain⟨r,F⟩:=ay (f.data.toList.drop (nm.size+1));have v:f.data.toList[nm.size]'(by rw[j];exact y)=c:=(by rw[hc,H8,SE]);have a:f.data.toList=nm.data.toList++c::r:=by
  rw[←g,l,F, ←v, ←mX,jN]
 rw[J]at V;by_cases d:c=46
 case neg=>
  have bd:((c.toNat:Int) !=46)=true:=by
   have:c.toNat≠46:=fun e=>d (tU.1 e);simp;omega
  have m:aj (R= -1):=af (NO.o (fun r' p E=>d (by
   rw[a]at p;have:=List.append_cancel_left p;exact(List.cons.inj this).1)))
  clear NO z l g a v F d hc;(go_enter func228,ntmps228);go_wp2;go_ret;exact⟨by rw[m.o];rfl,rfl⟩
 have bd:((c.toNat:Int) !=46)=false:=(by rw[d];rfl);have G:r.length=8:=(by rw[F,jQ,j];omega);have H:aj (R=Ps (Lib.decFrom 0 r)):=af (by rw[z.o,a,d,Pr G]);have O:=af F;have C:=af j;have s1:IntKind.i64.wrap ((nm.size:Int)+1)=(nm.size:Int)+1:=(by rw[cI];omega);obtain⟨B,Y⟩:=ay (nm.size+1);have K:aj ((nm.size:Int)+1=(B:Int)):=af (by omega);have A:aj (B+8=f.size):=af (by omega);have ai:=af Y;clear NO z l g a v F d hc G s j Y J;(go_enter func228,ntmps228);go_wp2
 go_loopw [5,6] (fun n q wr=>∃i N:Nat,B≤i∧i≤f.size∧n=qI N∧q=qI i∧N<10^(i-B)∧Lib.decFrom 0 r=Lib.decFrom N (f.data.toList.drop i)∧wr=w) (fun _ q _=>f.size-(intOf q).toNat)
 case atStart=>exact⟨B,0,bM _,by have:=A.o;omega,rfl,by rw[K.o],by simp,by rw[O.o,ai.o],rfl⟩
 case round=>
  obtain⟨i,N,aq,au,rfl,rfl,P,t,rfl⟩:=hrel;have Q:N<100000000:=eU P (aU (wO (by omega) (show i-B≤8 by have:=A.o;omega)) (by decide));have h0:(0:Int)≤(i:Int):=(by omega);have k:=af t;have L:=af P;clear t P;by_cases x:i<f.size
  ·have p:(i:Int)<(f.size:Int):=(by omega);obtain⟨b,hb⟩:=ay (f[i]'x);have U:f[i]'x=b:=hb.symm;have u:aj (f.data.toList.drop i=b::f.data.toList.drop (i+1)):=af (by
    have e:f.data.toList[i]'(by rw[C.o];exact x)=b:=(by rw[hb,H8,SE]);rw[←e, ←mX])
   clear hb;have T:=b.toNat_lt;by_cases hd:48≤b.toNat∧b.toNat≤57
   ·have d1:¬(b.toNat:Int)<48:=(by omega);have d2:¬(57:Int)<(b.toNat:Int):=(by omega);have W:aj (Lib.decFrom 0 r=Lib.decFrom (N*10+(b.toNat-48)) (f.data.toList.drop (i+1))):=af (by
     rw[k.o,u.o,Lib.decFrom];unfold Lib.digitVal;rw[dM hd])
    have D:aj (N*10+(b.toNat-48)<10^(i+1-B)):=af (by
     have:=L.o;rw[show i+1-B=(i-B)+1 by omega,kU];omega)
    obtain⟨M,Z⟩:=ay (b.toNat-48);have I:aj (b.toNat=M+48∧M≤9):=af (by omega);rw[←Z]at W D;have u1:IntKind.u8.wrap ((b.toNat:Int)-48)=(M:Int):=by
     rw[I.o.1];have:=I.o.2;rw[show((M+48:Nat):Int)-48=(M:Int)by omega];unfold IntKind.wrap;simp[IntKind.bits,IntKind.signed];omega
    have u2:IntKind.i64.wrap (10*(N:Int)+(M:Int))=10*(N:Int)+(M:Int):=(by have:=I.o.2;rw[cI];omega);have av:IntKind.i64.wrap (10*(N:Int))=10*(N:Int):=(by rw[cI];omega);have aA:(0:Int)≤(M:Int):=(by omega);have aB:(M:Int)≤9:=(by have:=I.o.2;omega);have ak:aj (wrap64 (wrap64 (10*(N:Int))+(M:Int))=10*(N:Int)+(M:Int)):=af (by rw[wo (10*(N:Int)) (by omega) (by omega),wo _ (by omega) (by omega)]);clear Z hd Q T u2 av;go_wp2;go_roundw
    case rel=>exact⟨i+1,N*10+M,by omega,by omega,by rw[show((N*10+M:Nat):Int)=10*(N:Int)+(M:Int)by omega];exact fJ (Value.int .i64) ak.o,by go_num,D.o,W.o,by first|rfl|trivial⟩
    case measure=>simp[intOf];omega
   ·have m:aj (R= -1):=af (by
     rw[H.o,k.o,u.o,Lib.decFrom];unfold Lib.digitVal;rw[fC hd];rfl)
    clear H k u L;by_cases d1:(b.toNat:Int)<48
    ·go_wp2;go_ret;exact⟨by rw[m.o];rfl,by first|rfl|trivial⟩
    ·have d2:(57:Int)<(b.toNat:Int):=(by omega);go_wp2;go_ret;exact⟨by rw[m.o];rfl,by first|rfl|trivial⟩
  ·have p:¬(i:Int)<(f.size:Int):=(by omega);have m:aj (R=(N:Int)):=af (by
    rw[H.o,k.o,DC (by rw[C.o];omega)];rfl)
   clear H k L;go_wp2;go_ret;exact⟨by rw[m.o];rfl,by first|rfl|trivial⟩
