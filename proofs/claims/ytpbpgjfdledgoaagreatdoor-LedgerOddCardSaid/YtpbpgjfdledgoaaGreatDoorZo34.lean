/- Lemmas. -/
import Derived.Test.YtpbpgjfdledgoaaGreatDoorZo29
set_option linter.all false
set_option maxRecDepth 100000
set_option maxHeartbeats 8000000
namespace Go.Proofs.YtpbpgjfdledgoaaGreatDoor
open Go.Proofs.Tryz
open Go.RowKit Go.Shelf Go.Sort Go.Joins Go.Deep
theorem Dc (w:World)(m:Nat)(hm:m<18446744073709551616)(l:(m:Int)≤9223372036854775807):Calls prog 122 #[qI m] w fun e w'=>e= .returned (qI (Lb m:Nat))∧w=w':=by
 obtain⟨E,i⟩:=ay (Lb m);rw[←i];have p:=af i;have r:=af hm;clear i hm;(go_enter func122,ntmps122);go_wp2
 go_loopw [0,3] (fun a b wr=>∃(f q k:Nat),f≤8∧q<256^f∧(q:Int)≤9223372036854775807∧a=qI q∧b=qI k∧oW f q+k=E∧k+f=8∧w=wr) (fun a _ _=>(intOf a).toNat)
 case atStart=>exact⟨8,m,0,bM _,by rw[Nk];exact r.o,l,rfl,rfl,by rw[p.o];rfl,rfl,rfl⟩
 case round=>
  obtain⟨f,q,k,hf,g,u,rfl,rfl,hs,d,rfl⟩:=hrel;have F:=af hs;have D:=af g;have C:=af d;by_cases h0:q=0
  ·subst h0;have s:k=E:=by
    have:oW f 0=0:=by cases f<;>rfl
    omega
   subst s;clear hs g d;go_wp2;go_ret;exact⟨rfl,rfl⟩
  ·cases f with
   |zero=>exact absurd (by simpa using g) h0
   |succ f=>
    have v:0<(q:Int):=(by omega);have j:Int.tdiv (q:Int) 256=((q/256:Nat):Int):=rfl;have t:(k:Int)≤8:=(by omega);have e1:=CF f q h0;have e2:q/256<256^f:=(by rw[sU (by omega)];rw[kU]at g;exact g);have h:aj (f≤8∧q/256<256^f∧((q/256:Nat):Int)≤9223372036854775807∧oW f (q/256)+(k+1)=E∧(k+1)+f=8∧q/256<q):=af ⟨by omega,e2,by omega,by omega,by omega,by omega⟩;obtain⟨n,c⟩:∃x,x=q/256:=⟨_,rfl⟩;rw[←c]at j h;have hw:wrap64 (n:Int)=(n:Int):=jP _ (by have:=h.o.2.2.1;exact⟨by omega,by omega⟩);clear hs g d e1 e2 c h0;go_wp2;rw[hw];obtain⟨r1,r2,y,z,A,B⟩:=h.o;exact⟨⟨f,n,k+1,r1,r2,y,rfl,rfl,z,A,trivial⟩,by simpa [intOf]using B⟩
theorem xI (W:World)(b:Int):(convert 184 9 (.slice (some ⟨W.heap.size,0,none⟩) 1 1)).run prog (W.alloc (.cells #[.int .u8 b] 5))= .ok (.string (bB [UInt8.ofNat b.toNat])) (W.alloc (.cells #[.int .u8 b] 5)):=Ae W [b] 1 1 rfl (by decide)
theorem fK {w:World}{g:Nat}{b:Int}(h:ai w g 0 1=some [.int .u8 b]):(convert 184 9 (.slice (some ⟨g,0,none⟩) 1 1)).run prog w= .ok (.string (bB [UInt8.ofNat b.toNat])) w:=by
 rw[zA _ _ _ _ _ _ _ underlying184 underlying5 underlying9,
  run_bytesToString _ _ _ _ [b] ?_,oZ]
 ·rfl
 ·show(mT _ _).run prog _=_;rw[lN,h];rfl
theorem dK (w:World)(b:Int):ai (w.alloc (.cells #[.int .u8 b] 5)) w.heap.size 0 1=some [.int .u8 b]:=by simp[go_sem]
theorem rU {n:Int}(a: -9223372036854775808≤n)(b:n≤9223372036854775807):IntKind.i64.wrap n=n:=by
 simp[IntKind.wrap,IntKind.bits,IntKind.signed];omega
theorem Dd:∀(k m:Nat) (w:World),k≤8→(m:Int)≤9223372036854775807→Calls prog 123 #[qI m,qI k] w (qG w ((.string (bB (dB m k))))):=by
 intro k;induction k with
 |zero=>
  intro m w g hm;(go_enter func123,ntmps123);go_wp2;go_ret;exact⟨rfl,aA _⟩
 |succ k ih=>
  intro m w g hm;obtain⟨X,j⟩:=ay (bB (dB m (k+1)));obtain⟨E,c⟩:=ay (bB (dB (m/256) k));obtain⟨b,hb⟩:=ay (((m%256:Nat):Int));obtain⟨F,a⟩:=ay (bB [UInt8.ofNat b.toNat]);have f:=fun W':World=>cg W' (dB (m/256) k) [UInt8.ofNat b.toNat] (by rw[dG];omega) (by simp);have d:dB (m/256) k++ [UInt8.ofNat b.toNat]=dB m (k+1):=(by rw[dB,hb];rfl);rw[d, ←c, ←a, ←j]at f;have s:Int.tdiv (m:Int) 256=((m/256:Nat):Int):=rfl;have B:Int.tmod (m:Int) 256=b:=(by rw[hb];rfl);have y:IntKind.u8.wrap b=b:=(by rw[IntKind.wrap_u8];omega);have t:=af (fun W=>ez c (ih (m/256) W (by omega) (by omega)));have p:=fun W=>xI W b;have n:=fun W:World=>fK ((aA (S:=No) (W.alloc (.cells #[.int .u8 b] 5))).drew.ai (dK W b));rw[←a]at p n;obtain⟨q,u⟩:=ay (m/256);rw[←u]at s t;have i:((k+1:Nat):Int)=(k:Int)+1:=rfl;have z:(((k:Int)+1)==0)=false:=(by rw[eD];omega);have A:IntKind.i64.wrap (k:Int)=(k:Int):=rU (by omega) (by omega);rw[i, ←j];have v:=af j;have C:IntKind.i64.wrap (q:Int)=(q:Int):=rU (by omega) (by omega);have l:=af a;clear j c a d u hb i;(go_enter func123,ntmps123);go_upto_region 3 with fail
  clear ih g hm
  go_region_with (first
   |(go_at_call 123
     have hc:=t.o
     with_reducible refine(hc _).mono ?_
     clear hc;rintro e D ⟨rfl,g⟩
     try(have r:=fK (g.ai (((aA (S:=No) (w.alloc (.cells #[.int .u8 b] 5))).drew).ai (dK w b)))
         rw[←l.o]at r)
     have x:ah No w D:=ah.trans (by first|assumption|exact aA w|exact(aA w).drew|exact((aA w).alloc _).drew|(refine ah.alloc ?_ _;assumption)) g (fun _ _ h=>h)))
  all_goals go_wp2
  all_goals go_ret
  all_goals exact⟨by rw[v.o];rfl,by first|assumption|(refine ah.alloc ?_ _;assumption)⟩
theorem Pb (w:World)(n:Int)(hn:i64 n)(h0:¬n<0):Calls prog 53 #[qI n] w (qG w ((.string (bB (aG n))))):=by
 have E:=hn.1;have F:=hn.2;obtain⟨m,hm⟩:=ay (mag n);have v:n=(m:Int):=(by rw[hm,pX h0];omega);have g:(m:Int)≤9223372036854775807:=(by omega);obtain⟨s,hs⟩:=ay (Lb m);have x:s≤8:=(by rw[hs];exact xo m);obtain⟨b,hb⟩:=ay ((s:Nat):Int);have f:aG n=UInt8.ofNat b.toNat::dB m s:=by
  unfold aG;rw[←hm, ←hs,aJ h0,hb,nW,aN,jI]
 obtain⟨X,q⟩:=ay (bB (aG n));obtain⟨J,i⟩:=ay (bB (dB m s));obtain⟨K,d⟩:=ay (bB [UInt8.ofNat b.toNat]);have k:=fun W':World=>cg W' [UInt8.ofNat b.toNat] (dB m s) (by simp) (by rw[dG];omega);have j: [UInt8.ofNat b.toNat]++dB m s=aG n:=(by rw[f];rfl);rw[j, ←i, ←d, ←q]at k;have z:=af (fun W=>ez i (Dd s m W x g));have y:=af (fun W=>Dc W m (by omega) g);have u:=fun W=>xI W b;have r:=fun W:World=>fK ((aA (S:=No) (W.alloc (.cells #[.int .u8 b] 5))).drew.ai (dK W b));have t:=fun W:World=>fK ((aA (S:=No) (W.alloc (.cells #[.int .u8 b] 5))).drew.drew.ai (dK W b));rw[←d]at u r t;simp only[←hs]at y;have A:=af q;have c:=af d;have G:IntKind.u8.wrap ((s:Int))=b:=(by rw[hb,IntKind.wrap_u8];omega);have D:decide (n<0)=false:=aJ h0;rw[←q];clear q i d j f hm hs hb;(go_enter func53,ntmps53);go_upto_region 4 with fail
 rw[v]
 go_region_with (first
  |(go_at_call 122
    have hc:=y.o
    with_reducible refine(hc _).mono ?_
    clear hc;rintro e H ⟨rfl,p⟩;have B:ah No w H:=by
     rw[←p]
     first|assumption|exact(aA w).drew|exact((aA w).alloc _).drew|(refine ah.alloc ?_ _;assumption)|(refine ah.drew ?_;assumption)|(refine ah.drew ?_;refine ah.alloc ?_ _;assumption)
    subst p)
  |(go_at_call 123
    have hc:=z.o
    with_reducible refine(hc _).mono ?_
    clear hc;rintro e I ⟨rfl,l⟩
    try(have a:=fK (l.ai (((aA (S:=No) (w.alloc (.cells #[.int .u8 b] 5))).drew).ai (dK w b)))
        rw[←c.o]at a)
    try(have a:=fK (l.ai (((aA (S:=No) (w.alloc (.cells #[.int .u8 b] 5))).drew.drew).ai (dK w b)))
        rw[←c.o]at a)
    try(have a:=fK (l.ai (((aA (S:=No) (w.drew.alloc (.cells #[.int .u8 b] 5)))).ai (dK w.drew b)))
        rw[←c.o]at a)
    try(have a:=fK (l.ai (((aA (S:=No) (w.drew.alloc (.cells #[.int .u8 b] 5))).drew).ai (dK w.drew b)))
        rw[←c.o]at a)
    have C:ah No w I:=ah.trans (by first|assumption|exact aA w|exact(aA w).drew|exact((aA w).alloc _).drew|(refine ah.alloc ?_ _;assumption)|(refine ah.drew ?_;assumption)|(refine ah.drew ?_;refine ah.alloc ?_ _;assumption)) l (fun _ _ h=>h)))
 all_goals go_wp2
 all_goals go_ret
 all_goals exact⟨by rw[A.o];rfl,by first|assumption|(refine ah.alloc ?_ _;assumption)⟩
theorem Pc (w:World)(n:Int)(hn:i64 n)(h0:n<0):Calls prog 53 #[qI n] w (qG w ((.string (bB (aG n))))):=by
 have E:=hn.1;have F:=hn.2;obtain⟨m,hm⟩:=ay (mag n);have v:n= -(m:Int)-1:=(by rw[hm,zj h0];omega);have g:(m:Int)≤9223372036854775807:=(by omega);obtain⟨s,hs⟩:=ay (Lb m);have x:s≤8:=(by rw[hs];exact xo m);obtain⟨b,hb⟩:=ay ((128+s:Nat):Int);have f:aG n=UInt8.ofNat b.toNat::dB m s:=by
  unfold aG;rw[←hm, ←hs,aM h0,hb];rfl
 obtain⟨X,q⟩:=ay (bB (aG n));obtain⟨L,i⟩:=ay (bB (dB m s));obtain⟨M,d⟩:=ay (bB [UInt8.ofNat b.toNat]);have k:=fun W':World=>cg W' [UInt8.ofNat b.toNat] (dB m s) (by simp) (by rw[dG];omega);have j: [UInt8.ofNat b.toNat]++dB m s=aG n:=(by rw[f];rfl);rw[j, ←i, ←d, ←q]at k;have z:=af (fun W=>ez i (Dd s m W x g));have y:=af (fun W=>Dc W m (by omega) g);have u:=fun W=>xI W b;have r:=fun W:World=>fK ((aA (S:=No) (W.alloc (.cells #[.int .u8 b] 5))).drew.ai (dK W b));have t:=fun W:World=>fK ((aA (S:=No) (W.alloc (.cells #[.int .u8 b] 5))).drew.drew.ai (dK W b));rw[←d]at u r t;simp only[←hs]at y;have A:=af q;have c:=af d;have I:IntKind.u8.wrap (128+(s:Int))=b:=(by rw[hb,IntKind.wrap_u8];omega);have D:decide (n<0)=true:=aM h0;have H:IntKind.i64.wrap (128+(s:Int))=128+(s:Int):=rU (by omega) (by omega);have G:wrap64 (-(n+1))=(m:Int):=(by rw[v,show -(-(m:Int)-1+1)=(m:Int)by omega];exact jP _ ⟨by omega,by omega⟩);rw[←q];clear q i d j f hm hs hb;(go_enter func53,ntmps53);go_upto_region 3 with fail
 go_region_with (first
  |(go_at_call 122
    have hc:=y.o
    with_reducible refine(hc _).mono ?_
    clear hc;rintro e J ⟨rfl,p⟩;have B:ah No w J:=by
     rw[←p]
     first|assumption|exact(aA w).drew|exact((aA w).alloc _).drew|(refine ah.alloc ?_ _;assumption)|(refine ah.drew ?_;assumption)|(refine ah.drew ?_;refine ah.alloc ?_ _;assumption)
    subst p)
  |(go_at_call 123
    have hc:=z.o
    with_reducible refine(hc _).mono ?_
    clear hc;rintro e K ⟨rfl,l⟩
    try(have a:=fK (l.ai (((aA (S:=No) (w.alloc (.cells #[.int .u8 b] 5))).drew).ai (dK w b)))
        rw[←c.o]at a)
    try(have a:=fK (l.ai (((aA (S:=No) (w.alloc (.cells #[.int .u8 b] 5))).drew.drew).ai (dK w b)))
        rw[←c.o]at a)
    try(have a:=fK (l.ai (((aA (S:=No) (w.drew.alloc (.cells #[.int .u8 b] 5)))).ai (dK w.drew b)))
        rw[←c.o]at a)
    try(have a:=fK (l.ai (((aA (S:=No) (w.drew.alloc (.cells #[.int .u8 b] 5))).drew).ai (dK w.drew b)))
        rw[←c.o]at a)
    have C:ah No w K:=ah.trans (by first|assumption|exact aA w|exact(aA w).drew|exact((aA w).alloc _).drew|(refine ah.alloc ?_ _;assumption)|(refine ah.drew ?_;assumption)|(refine ah.drew ?_;refine ah.alloc ?_ _;assumption)) l (fun _ _ h=>h)))
 all_goals go_wp2
 all_goals go_ret
 all_goals exact⟨by rw[A.o];rfl,by first|assumption|(refine ah.alloc ?_ _;assumption)⟩
theorem cZ (w:World)(n:Int)(hn:i64 n):Calls prog 53 #[qI n] w (qG w ((ew (aG n)))):=by
 by_cases h:n<0
 ·exact Pc w n hn h
 ·exact Pb w n hn h
