/- Lemmas. -/
import Derived.Test.YtpbpgjfdledgoaaGreatDoorZo21
import Derived.Test.YtpbpgjfdledgoaaGreatDoorZo02
set_option linter.all false
set_option maxRecDepth 100000
set_option maxHeartbeats 8000000
open Bool renaming and_eq_true→eA
open Int renaming ediv_nonneg→Ks,add_mul→Kt,one_mul→Ku
open Nat renaming zero_add→bC
namespace Go.Proofs.YtpbpgjfdledgoaaGreatDoor
open Go.Proofs.Tryz
open Go.RowKit Go.Joins Go.Deep Go.Sort
structure Zf.ok (z:Zf):Prop where
 c1:1≤z.c
 c2:z.c≤4
 r1:1≤z.r
 r2:z.r≤4
 s1:256≤z.s
 s2:z.s≤1048576
 u1:0≤z.u
 u2:z.u≤z.s
 v1:0≤z.v
 v2:z.v≤z.s
theorem Zf.ok.cs {z:Zf}(h:z.ok):1≤z.c*z.s∧z.c*z.s≤4194304:=by
 have c1:=h.c1;have c2:=h.c2;have s1:=h.s1;have s2:=h.s2;have hc:z.c=1∨z.c=2∨z.c=3∨z.c=4:=(by omega);rcases hc with hc|hc|hc|hc<;>rw[hc]<;>omega
theorem Zf.ok.rs {z:Zf}(h:z.ok):1≤z.r*z.s∧z.r*z.s≤4194304:=by
 have c1:=h.r1;have c2:=h.r2;have s1:=h.s1;have s2:=h.s2;have hc:z.r=1∨z.r=2∨z.r=3∨z.r=4:=(by omega);rcases hc with hc|hc|hc|hc<;>rw[hc]<;>omega
abbrev LI (z:Zf):List Value:= [qI z.c,qI z.r,qI z.s,qI z.u,qI z.v,qI z.i,qI z.q]
abbrev D8 (z:Zf):Value:= .agg #[qI z.c,qI z.r,qI z.s,qI z.u,qI z.v,qI z.i,qI z.q]
def QL (a b c d x y:Int):Bool:=decide (a≤cl x)&&(decide (cl x<c)&&(decide (b≤cl y)&&decide (cl y<d)))
theorem NZ (w:World)(a b c d x y:Int)(r:cl a=a)(hb:cl b=b)(hc:cl c=c)(hd:cl d=d):
 Calls prog 279 #[NV a b c d,qI x,qI y] w fun e w'=>e= .returned (.bool (QL a b c d x y))∧Grown w w':=by
 have i:=af (fun W=>lz W x);have j:=af (fun W=>lz W y);have f:=af (fun W=>lz W a);have g:=af (fun W=>lz W b);have CC:=af (fun W=>lz W c);have h:=af (fun W=>lz W d);rw[r]at f;rw[hb]at g;rw[hc]at CC;rw[hd]at h;unfold QL;obtain⟨X,p⟩:=ay (cl x);obtain⟨Y,q⟩:=ay (cl y);rw[←p]at i⊢;rw[←q]at j⊢;clear r hb hc hd p q;have G:aj (Grown w (w.alloc (.cells #[qI a,qI b,qI c,qI d] 226))):=af ((Grown.same w).alloc _);by_cases k:a≤X
 ·rw[aM k,mF];by_cases l:X<c
  ·rw[aM l,mF];by_cases m:b≤Y
   ·rw[aM m,mF];by_cases n:Y<d
    ·rw[aM n];(go_enter func279,ntmps279);go_wp2_with (first
      |(go_at_call 306;have hc:=i.o;with_reducible refine(hc _).mono ?_;rintro e w1 ⟨rfl,hw⟩;clear hc;have hw:=hw.symm;subst hw)
      |(go_at_call 306;have hc:=j.o;with_reducible refine(hc _).mono ?_;rintro e w1 ⟨rfl,hw⟩;clear hc;have hw:=hw.symm;subst hw)
      |(go_at_call 306;have hc:=f.o;with_reducible refine(hc _).mono ?_;rintro e w1 ⟨rfl,hw⟩;clear hc;have hw:=hw.symm;subst hw)
      |(go_at_call 306;have hc:=g.o;with_reducible refine(hc _).mono ?_;rintro e w1 ⟨rfl,hw⟩;clear hc;have hw:=hw.symm;subst hw)
      |(go_at_call 306;have hc:=CC.o;with_reducible refine(hc _).mono ?_;rintro e w1 ⟨rfl,hw⟩;clear hc;have hw:=hw.symm;subst hw)
      |(go_at_call 306;have hc:=h.o;with_reducible refine(hc _).mono ?_;rintro e w1 ⟨rfl,hw⟩;clear hc;have hw:=hw.symm;subst hw))
     go_ret;exact⟨by first|(simp;done)|(simp;omega),G.o⟩
    ·rw[aJ n];(go_enter func279,ntmps279);go_wp2_with (first
      |(go_at_call 306;have hc:=i.o;with_reducible refine(hc _).mono ?_;rintro e w1 ⟨rfl,hw⟩;clear hc;have hw:=hw.symm;subst hw)
      |(go_at_call 306;have hc:=j.o;with_reducible refine(hc _).mono ?_;rintro e w1 ⟨rfl,hw⟩;clear hc;have hw:=hw.symm;subst hw)
      |(go_at_call 306;have hc:=f.o;with_reducible refine(hc _).mono ?_;rintro e w1 ⟨rfl,hw⟩;clear hc;have hw:=hw.symm;subst hw)
      |(go_at_call 306;have hc:=g.o;with_reducible refine(hc _).mono ?_;rintro e w1 ⟨rfl,hw⟩;clear hc;have hw:=hw.symm;subst hw)
      |(go_at_call 306;have hc:=CC.o;with_reducible refine(hc _).mono ?_;rintro e w1 ⟨rfl,hw⟩;clear hc;have hw:=hw.symm;subst hw)
      |(go_at_call 306;have hc:=h.o;with_reducible refine(hc _).mono ?_;rintro e w1 ⟨rfl,hw⟩;clear hc;have hw:=hw.symm;subst hw))
     go_ret;exact⟨by first|(simp;done)|(simp;omega),G.o⟩
   ·rw[aJ m,iL];(go_enter func279,ntmps279);go_wp2_with (first
     |(go_at_call 306;have hc:=i.o;with_reducible refine(hc _).mono ?_;rintro e w1 ⟨rfl,hw⟩;clear hc;have hw:=hw.symm;subst hw)
     |(go_at_call 306;have hc:=j.o;with_reducible refine(hc _).mono ?_;rintro e w1 ⟨rfl,hw⟩;clear hc;have hw:=hw.symm;subst hw)
     |(go_at_call 306;have hc:=f.o;with_reducible refine(hc _).mono ?_;rintro e w1 ⟨rfl,hw⟩;clear hc;have hw:=hw.symm;subst hw)
     |(go_at_call 306;have hc:=g.o;with_reducible refine(hc _).mono ?_;rintro e w1 ⟨rfl,hw⟩;clear hc;have hw:=hw.symm;subst hw)
     |(go_at_call 306;have hc:=CC.o;with_reducible refine(hc _).mono ?_;rintro e w1 ⟨rfl,hw⟩;clear hc;have hw:=hw.symm;subst hw)
     |(go_at_call 306;have hc:=h.o;with_reducible refine(hc _).mono ?_;rintro e w1 ⟨rfl,hw⟩;clear hc;have hw:=hw.symm;subst hw))
    go_ret;exact⟨by first|(simp;done)|(simp;omega),G.o⟩
  ·rw[aJ l,iL];(go_enter func279,ntmps279);go_wp2_with (first
    |(go_at_call 306;have hc:=i.o;with_reducible refine(hc _).mono ?_;rintro e w1 ⟨rfl,hw⟩;clear hc;have hw:=hw.symm;subst hw)
    |(go_at_call 306;have hc:=j.o;with_reducible refine(hc _).mono ?_;rintro e w1 ⟨rfl,hw⟩;clear hc;have hw:=hw.symm;subst hw)
    |(go_at_call 306;have hc:=f.o;with_reducible refine(hc _).mono ?_;rintro e w1 ⟨rfl,hw⟩;clear hc;have hw:=hw.symm;subst hw)
    |(go_at_call 306;have hc:=g.o;with_reducible refine(hc _).mono ?_;rintro e w1 ⟨rfl,hw⟩;clear hc;have hw:=hw.symm;subst hw)
    |(go_at_call 306;have hc:=CC.o;with_reducible refine(hc _).mono ?_;rintro e w1 ⟨rfl,hw⟩;clear hc;have hw:=hw.symm;subst hw)
    |(go_at_call 306;have hc:=h.o;with_reducible refine(hc _).mono ?_;rintro e w1 ⟨rfl,hw⟩;clear hc;have hw:=hw.symm;subst hw))
   go_ret;exact⟨by first|(simp;done)|(simp;omega),G.o⟩
 ·rw[aJ k,iL];(go_enter func279,ntmps279);go_wp2_with (first
   |(go_at_call 306;have hc:=i.o;with_reducible refine(hc _).mono ?_;rintro e w1 ⟨rfl,hw⟩;clear hc;have hw:=hw.symm;subst hw)
   |(go_at_call 306;have hc:=j.o;with_reducible refine(hc _).mono ?_;rintro e w1 ⟨rfl,hw⟩;clear hc;have hw:=hw.symm;subst hw)
   |(go_at_call 306;have hc:=f.o;with_reducible refine(hc _).mono ?_;rintro e w1 ⟨rfl,hw⟩;clear hc;have hw:=hw.symm;subst hw)
   |(go_at_call 306;have hc:=g.o;with_reducible refine(hc _).mono ?_;rintro e w1 ⟨rfl,hw⟩;clear hc;have hw:=hw.symm;subst hw)
   |(go_at_call 306;have hc:=CC.o;with_reducible refine(hc _).mono ?_;rintro e w1 ⟨rfl,hw⟩;clear hc;have hw:=hw.symm;subst hw)
   |(go_at_call 306;have hc:=h.o;with_reducible refine(hc _).mono ?_;rintro e w1 ⟨rfl,hw⟩;clear hc;have hw:=hw.symm;subst hw))
  go_ret;exact⟨by first|(simp;done)|(simp;omega),G.o⟩
theorem N0 {s x i:Int}(hs:0<s):x/s=i↔i*s≤x∧x<(i+1)*s:=by
 constructor
 ·rintro rfl;exact⟨Int.ediv_mul_le _ (by omega),Int.lt_ediv_add_one_mul_self _ hs⟩
 ·rintro⟨a,b⟩;have c:=(Int.le_ediv_iff_mul_le hs).2 a;have d:=(zC hs).2 b;omega
theorem N5 {z:Zf}(a:z.ok){i j:Nat}(hi:(i:Int)<z.c)(T:(j:Int)<z.r)(x y:Int):
 QL (i*z.s) (j*z.s) ((i+1)*z.s) ((j+1)*z.s) x y=decide (ou z x y=j*z.c+i):=by
 obtain⟨t,u⟩:=a.cs;obtain⟨A,B⟩:=a.rs;have p:0<z.s:=(by have:=a.s1;omega);have s2:=a.s2;have i1:((i:Int)+1)*z.s≤z.c*z.s:=Cv (by omega) (by omega);have j1:((j:Int)+1)*z.s≤z.r*z.s:=Cv (by omega) (by omega);have i0:0≤(i:Int)*z.s:=qZ (by omega) (by omega);have L:0≤(j:Int)*z.s:=qZ (by omega) (by omega);have n0:0≤(j:Int)*z.c:=qZ (by omega) (by have:=a.c1;omega);have R:=zl x;have S:=zl y;rw[oT];unfold QL ou;simp only[eA,decide_eq_true_iff];obtain⟨IS,e⟩:∃q,(i:Int)*z.s=q:=⟨_,rfl⟩;obtain⟨JS,g⟩:∃q,(j:Int)*z.s=q:=⟨_,rfl⟩;obtain⟨IT,f⟩:∃q,((i:Int)+1)*z.s=q:=⟨_,rfl⟩;obtain⟨I,k⟩:∃q,((j:Int)+1)*z.s=q:=⟨_,rfl⟩;obtain⟨D,v⟩:∃q,z.c*z.s=q:=⟨_,rfl⟩;obtain⟨E,w⟩:∃q,z.r*z.s=q:=⟨_,rfl⟩;rw[e]at i0⊢;rw[g]at L⊢;rw[f]at i1⊢;rw[k]at j1⊢;rw[v]at i1 t u⊢;rw[w]at j1 A B⊢;by_cases l:0≤x∧x≤D-1∧0≤y∧y≤E-1
 ·obtain⟨x0,M,C,O⟩:=l;rw[aM x0,aM M,aM C,aM O];simp only[Bool.and_self,cond_true];rw[tE (n:=x) (by omega) (by omega),tE (n:=y) (by omega) (by omega),Cw x0,Cw C];have F:x/z.s=i↔IS≤x∧x<IT:=(by rw[←e, ←f];exact N0 p);have G:y/z.s=j↔JS≤y∧y<I:=(by rw[←g, ←k];exact N0 p);have N:0≤x/z.s:=Ks x0 (by omega);have H:x/z.s<z.c:=(zC p).2 (by omega);have P:0≤y/z.s:=Ks C (by omega);have Q:y/z.s<z.r:=(zC p).2 (by omega);obtain⟨X,J⟩:∃q,x/z.s=q:=⟨_,rfl⟩;obtain⟨Y,K⟩:∃q,y/z.s=q:=⟨_,rfl⟩;rw[J]at F N H⊢;rw[K]at G P Q⊢;have key:(Y*z.c+X=(j:Int)*z.c+i)↔(X=i∧Y=j):=by
   constructor
   ·intro h;have hc:z.c=1∨z.c=2∨z.c=3∨z.c=4:=(by have:=a.c1;have:=a.c2;omega);rcases hc with hc|hc|hc|hc<;>rw[hc]at h H hi<;>omega
   ·rintro⟨b,d⟩;rw[b,d]
  rw[key,F,G];constructor
  ·rintro⟨b,d,m,o⟩;exact⟨⟨b,d⟩,m,o⟩
  ·rintro⟨⟨b,d⟩,m,o⟩;exact⟨b,d,m,o⟩
 ·have hb:(decide (0≤x)&&decide (x≤D-1)&&decide (0≤y)&&decide (y≤E-1))=false:=by
   rw[Bool.eq_false_iff];intro h;simp only[eA,decide_eq_true_iff]at h;exact l ⟨h.1.1.1,h.1.1.2,h.1.2,h.2⟩
  rw[hb,aN];constructor
  ·rintro⟨b,d,m,o⟩;exfalso;omega
  ·intro h;exfalso;omega
theorem IU {z:Zf}(a:z.ok)(x y:Int):ou z x y= -1∨(0≤ou z x y∧ou z x y<z.c*z.r):=by
 unfold ou;cases hb:(decide (0≤x)&&decide (x≤z.c*z.s-1)&&decide (0≤y)&&decide (y≤z.r*z.s-1))with
 |false=>exact .inl rfl
 |true=>
  right;simp only[eA,decide_eq_true_iff]at hb;obtain⟨⟨⟨x0,k⟩,e⟩,l⟩:=hb;rw[bH,Cw x0,Cw e];have b:0<z.s:=(by have:=a.s1;omega);have h:0≤x/z.s:=Ks x0 (by omega);have d:x/z.s<z.c:=(zC b).2 (by omega);have i:0≤y/z.s:=Ks e (by omega);have j:y/z.s<z.r:=(zC b).2 (by omega);obtain⟨X,f⟩:∃q,x/z.s=q:=⟨_,rfl⟩;obtain⟨Y,g⟩:∃q,y/z.s=q:=⟨_,rfl⟩;rw[f]at h d⊢;rw[g]at i j⊢;have hc:z.c=1∨z.c=2∨z.c=3∨z.c=4:=(by have:=a.c1;have:=a.c2;omega);rcases hc with hc|hc|hc|hc<;>rw[hc]at d⊢ <;>omega
theorem LJ (w:World)(z:Zf)(u:z.ok)(i j:Nat)(hi:(i:Int)<z.c)(aC:(j:Int)<z.r)(k:Int)(L:k=(j:Int)*z.c+i):
 Calls prog 280 #[D8 z,qI k] w (qG w ((NV (i*z.s) (j*z.s) ((i+1)*z.s) ((j+1)*z.s)))):=by
 obtain⟨D,E⟩:=u.cs;obtain⟨I,J⟩:=u.rs;have c1:=u.c1;have c2:=u.c2;have r2:=u.r2;have V:0<z.s:=(by have:=u.s1;omega);have i1:((i:Int)+1)*z.s≤z.c*z.s:=Cv (by omega) (by omega);have j1:((j:Int)+1)*z.s≤z.r*z.s:=Cv (by omega) (by omega);have i0:0≤(i:Int)*z.s:=qZ (by omega) (by omega);have M:0≤(j:Int)*z.s:=qZ (by omega) (by omega);have i2:((i:Int)+1)*z.s=(i:Int)*z.s+z.s:=(by rw[Kt,Ku]);have j2:((j:Int)+1)*z.s=(j:Int)*z.s+z.s:=(by rw[Kt,Ku]);obtain⟨IS,f⟩:∃q,(i:Int)*z.s=q:=⟨_,rfl⟩;obtain⟨JS,h⟩:∃q,(j:Int)*z.s=q:=⟨_,rfl⟩;obtain⟨IT,g⟩:∃q,((i:Int)+1)*z.s=q:=⟨_,rfl⟩;obtain⟨K,l⟩:∃q,((j:Int)+1)*z.s=q:=⟨_,rfl⟩;rw[f]at i0 i2⊢;rw[h]at M j2⊢;rw[g]at i1 i2⊢;rw[l]at j1 j2⊢;have X:IntKind.i64.wrap ((i:Int)*z.s)=IS:=(by rw[f,cI];omega);have Z:IntKind.i64.wrap ((j:Int)*z.s)=JS:=(by rw[h,cI];omega);have Y:IntKind.i64.wrap (((i:Int)+1)*z.s)=IT:=(by rw[g,cI];omega);have aq:IntKind.i64.wrap (((j:Int)+1)*z.s)=K:=(by rw[l,cI];omega);have O:aj (∀(a b:Nat),(a:Int)<z.c→b≤j→((b:Int)*z.c+a=k↔(a=i∧b=j))∧IntKind.i64.wrap ((b:Int)*z.c)=(b:Int)*z.c∧IntKind.i64.wrap ((b:Int)*z.c+a)=(b:Int)*z.c+a):=af (fun a b T hb=>by
  have hc:z.c=1∨z.c=2∨z.c=3∨z.c=4:=(by omega);have G:(b:Int)<4:=(by omega);rcases hc with hc|hc|hc|hc<;>rw[hc]at L T hi⊢ <;>rw[cI,cI]<;>omega)
 clear f h g l D E I J i1 j1 i0 M i2 j2 V L;(go_enter func280,ntmps280);go_upto_region 1 with fail
 refine au ?_;intro W hW;have P:aj (ah No w W):=af (by rw[hW];exact((aA w).alloc _).alloc _);have x:ai W w.heap.size 0 7=some (LI z):=(by rw[hW];simp[go_sem]);have or:Open W (w.heap.size+1):=(by rw[hW];simp[go_sem]);have sr:(aL W (w.heap.size+1)).size=4:=(by rw[hW];simp[go_sem]);obtain⟨gb,m⟩:=ay (w.heap.size);obtain⟨gr,n⟩:=ay (w.heap.size+1);have Q:aj (w.heap.size≤gr∧gb≠gr):=af ⟨by omega,by omega⟩;rw[←n];rw[←m];rw[←n]at or sr;rw[←m]at x;have d0:=ak x 0 _ rfl;have d1:=ak x 1 _ rfl;have d2:=ak x 2 _ rfl;simp only[bC]at d0 d1 d2;clear hW m n x;go_wp2_with fail
 go_loopw [5] (fun q wr=>∃b:Nat,b≤j∧q=qI b∧W=wr) (fun q _=>j+1-(intOf q).toNat)
 case atStart=>exact⟨0,aX _,rfl,rfl⟩
 case round=>
  obtain⟨b,y,rfl,rfl⟩:=hrel;have G:(b:Int)<z.r:=(by omega);go_wp2_with fail
  go_loopw [6] (fun q av=>∃a:Nat,(a:Int)≤z.c∧(b=j→a≤i)∧q=qI a∧W=av) (fun q _=>(z.c+1-intOf q).toNat)
  case atStart=>exact⟨0,by omega,fun _=>aX _,rfl,rfl⟩
  case round=>
   obtain⟨a,F,d,rfl,rfl⟩:=hrel;by_cases H:(a:Int)<z.c
   ·obtain⟨p,R,aB⟩:=O.o a b H y;by_cases he:a=i∧b=j
    ·obtain⟨rfl,rfl⟩:=he;have A:=p.2 ⟨rfl,rfl⟩;have S:((b:Int)*z.c+(a:Int)==k)=true:=(by rw[ny];exact A);have lr:gr<W.heap.size:=(by obtain⟨C,t,U⟩:=or;exact(bX.1 U).1);clear p F d y A;go_wp2;exact aY (v:=NV IS JS IT K) (by simp[results,results280,go_sem, *]) rfl ⟨rfl,P.o.row Q.o.1 _⟩
    ·have A:¬((b:Int)*z.c+a=k):=fun e=>he (p.1 e);have S:((b:Int)*z.c+(a:Int)==k)=false:=(by rw[eD];exact A);have N:=af he;have B:=af d;clear p he d;go_wp2;go_roundw
     case rel=>exact⟨a+1,by omega,fun e=>by have p:=B.o e;have R:=N.o;omega,by go_num,by trivial⟩
     case measure=>simp[intOf];omega
   ·have B:=af d;clear d;go_wp2;go_roundw
    case rel=>exact⟨b+1,by have p:=B.o;omega,by go_num,by trivial⟩
    case measure=>simp[intOf];omega
theorem vC {n:Int}(h0:0≤n)(a:n≤4194304):cl n=n:=tE (by omega) (by omega)
theorem QM (w:World)(z:Zf)(f:z.ok)(x y:Int):
 Calls prog 233 #[D8 z,qI x,qI y] w (qG w ((qI (ou z x y)))):=by
 have p:=IU f x y;have D:=af (fun(k:Nat) (C:(k:Int)<z.c*z.r) (W:World)=>show∃a b c d,(Calls prog 280 #[D8 z,qI k] W (qG W (NV a b c d)))∧
  (∀W,Calls prog 279 #[NV a b c d,qI x,qI y] W fun e w'=>e= .returned (.bool (decide (ou z x y=k)))∧Grown W w')by
  have c1:=f.c1;have c2:=f.c2;have r1:=f.r1;have r2:=f.r2;obtain⟨i,j,hi,L,C⟩:∃i j:Nat,(i:Int)<z.c∧(j:Int)<z.r∧(k:Int)=(j:Int)*z.c+i:=by
   have hc:z.c=1∨z.c=2∨z.c=3∨z.c=4:=(by omega);rcases hc with hc|hc|hc|hc<;>rw[hc]at C⊢
   ·exact⟨0,k,by omega,by omega,by omega⟩
   ·exact⟨k%2,k/2,by omega,by omega,by omega⟩
   ·exact⟨k%3,k/3,by omega,by omega,by omega⟩
   ·exact⟨k%4,k/4,by omega,by omega,by omega⟩
  obtain⟨S,T⟩:=f.cs;obtain⟨aq,av⟩:=f.rs;have aD:0<z.s:=(by have:=f.s1;omega);have i1:((i:Int)+1)*z.s≤z.c*z.s:=Cv (by omega) (by omega);have j1:((j:Int)+1)*z.s≤z.r*z.s:=Cv (by omega) (by omega);have i0:0≤(i:Int)*z.s:=qZ (by omega) (by omega);have Z:0≤(j:Int)*z.s:=qZ (by omega) (by omega);have i2:((i:Int)+1)*z.s=(i:Int)*z.s+z.s:=(by rw[Kt,Ku]);have j2:((j:Int)+1)*z.s=(j:Int)*z.s+z.s:=(by rw[Kt,Ku]);refine⟨i*z.s,j*z.s,(i+1)*z.s,(j+1)*z.s,LJ W z f i j hi L k C,fun W=>?_⟩;have h:=NZ W (i*z.s) (j*z.s) ((i+1)*z.s) ((j+1)*z.s) x y (vC i0 (by omega)) (vC Z (by omega)) (vC (by omega) (by omega)) (vC (by omega) (by omega));rw[N5 f hi L, ←C]at h;exact h)
 have n0:0≤z.c*z.r∧z.c*z.r≤16:=by
  have c1:=f.c1;have c2:=f.c2;have r1:=f.r1;have r2:=f.r2;have hc:z.c=1∨z.c=2∨z.c=3∨z.c=4:=(by omega);rcases hc with hc|hc|hc|hc<;>rw[hc]<;>omega
 obtain⟨N,A⟩:∃N:Nat,z.c*z.r=N:=⟨(z.c*z.r).toNat,by omega⟩;rw[A]at p n0 D;obtain⟨R,B⟩:∃R,ou z x y=R:=⟨_,rfl⟩;rw[B]at p D⊢;have p:=af p;have wN:IntKind.i64.wrap (z.c*z.r)=N:=(by rw[A,cI];omega);have aB:wrap64 (z.c*z.r)=N:=(by rw[A];unfold wrap64;omega);have Q:(N:Int)≤16:=(by omega);clear A B n0 f;(go_enter func233,ntmps233);go_upto_region 1 with fail
 refine au ?_;intro W hW;have H:aj (ah No w W):=af (by rw[hW];exact((aA w).alloc _));have l:ai W w.heap.size 0 7=some (LI z):=(by rw[hW];simp[go_sem]);obtain⟨gb,m⟩:=ay (w.heap.size);rw[←m];rw[←m]at l;clear hW m;have M:=af l;clear l;go_wp2_with fail
 go_loopw [7] (fun q wr=>∃k:Nat,k≤N∧(0≤R→(k:Int)≤R)∧q=qI k∧ah No W wr) (fun q _=>N+1-(intOf q).toNat)
 case atStart=>exact⟨0,aX _,fun h=>h,rfl,aA _⟩
 case round=>
  obtain⟨k,X,v,rfl,hK⟩:=hrel;obtain⟨aC,F⟩:=ay (wr);subst F;have K:=af hK;have l:=hK.ai M.o;have d0:=ak l 0 _ rfl;have d1:=ak l 1 _ rfl;simp only[bC]at d0 d1;have n:=af v;clear hK v;by_cases Y:k<N
  ·have g:(k:Int)<(N:Int):=(by omega);obtain⟨a,b,c,d,J,I⟩:=D.o k g aC;have P:=af J;have HH:=af I;clear J I;(go_wp2_with fail);refine P.o.mono ?_;rintro e w1 ⟨rfl,u⟩;have G:=af (K.o.aK u);clear u;by_cases he:R=(k:Int)
   ·subst he;rw[aM rfl]at HH;(go_wp2_with fail);refine(HH.o w1).mono ?_;rintro e w2 ⟨rfl,t⟩;have E:=af (H.o.aK (G.o.aK t.keeps));clear t;go_wp2;go_ret;exact⟨rfl,E.o⟩
   ·rw[aJ he]at HH;have O:=af he;clear he;(go_wp2_with fail);refine(HH.o w1).mono ?_;rintro e w2 ⟨rfl,t⟩;have E:=af (G.o.aK t.keeps);clear t l d0 d1;go_wp2;go_roundw
    case rel=>exact⟨k+1,by omega,fun h0=>by have U:=n.o h0;have V:=O.o;omega,by go_num,E.o⟩
    case measure=>simp[intOf];omega
  ·have g:¬((k:Int)<(N:Int)):=(by omega);have B:R= -1:=(by have U:=p.o;have V:=n.o;omega);subst B;go_wp2;go_ret;exact⟨rfl,H.o.aK K.o⟩
def jo (n lo hi:Int):Bool:=decide (lo≤n)&&decide (n≤hi)
def o9 (z:Zf):Bool:=jo z.c 1 4&&(jo z.r 1 4&&(jo z.s 256 1048576&&(jo z.u 0 z.s&&(jo z.v 0 z.s&&(jo z.i 1 16&&jo z.q 1 64)))))
theorem D9 {z:Zf}(h:o9 z=true):z.ok:=by
 unfold o9 jo at h;simp only[eA,decide_eq_true_iff]at h;exact⟨h.1.1,h.1.2,h.2.1.1,h.2.1.2,h.2.2.1.1,h.2.2.1.2,h.2.2.2.1.1,h.2.2.2.1.2,h.2.2.2.2.1.1,h.2.2.2.2.1.2⟩
structure Tr where
 n:Int
 lo:Int
 hi:Int
def Uk:dX Tr:=⟨fun t=> [qI t.n,qI t.lo,qI t.hi],3,fun _=>rfl,fun a u h=>by simp at h;rcases h with rfl|rfl|rfl<;>rfl,by decide⟩
def TU (z:Zf):List Tr:= [⟨z.c,1,4⟩,⟨z.r,1,4⟩,⟨z.s,256,1048576⟩,⟨z.u,0,z.s⟩,⟨z.v,0,z.s⟩,⟨z.i,1,16⟩,⟨z.q,1,64⟩]
theorem S4 (z:Zf):o9 z=(TU z).all (fun t=>jo t.n t.lo t.hi):=by
 simp only[o9,TU,List.all_cons,List.all_nil,Bool.and_true]
theorem QN (z:Zf):(TU z).length=7:=rfl
theorem LK (w:World)(z:Zf):Calls prog 200 #[D8 z] w (qG w ((qI (bif o9 z then 0 else 1)))):=by
 have a:=af (S4 z);obtain⟨B,c⟩:=ay (o9 z);rw[←c]at a⊢;clear c;(go_enter func200,ntmps200);(go_wp2_with fail);refine au ?_;intro W hW;have s:aj (ah No w W):=af (by rw[hW];exact((aA w).alloc _).alloc _);have u:aj (Reads W Uk.size (.slice (some ⟨w.heap.size+1,0,none⟩) 7 7) 7 (rowsOf Uk (TU z))):=af (by
  rw[hW];have h:=jO (base:=0) (w.alloc (.cells (LI z).toArray 45)) (rowsOf Uk (TU z)).toArray 7 (e:=325) (size:=3) (aX _) (by unfold maxLen;omega) rfl;have i:=Reads.fu h (ko Uk _);have e:(w.alloc (.cells (LI z).toArray 45)).heap.size=w.heap.size+1:=(by simp);rw[e]at i;exact i)
 obtain⟨g,E⟩:=ay (w.heap.size+1);rw[←E]at u⊢;clear hW E;have p:=af (QN z);obtain⟨l,hl⟩:=ay (TU z);rw[←hl]at u a p;clear hl
 go_loopw [32] (fun q wr=>∃k:Nat,k≤7∧q=qI k∧(∀j,(h:j<k)→(i:j<l.length)→jo l[j].n l[j].lo l[j].hi=true)∧ah No W wr) (fun q _=>7-(intOf q).toNat)
 case atStart=>exact⟨0,by omega,rfl,fun j h=>by omega,aA _⟩
 case round=>
  obtain⟨k,J,rfl,d,hK⟩:=hrel;obtain⟨M,C⟩:=ay (wr);subst C;have K:=af hK;have b:=af d;clear d;by_cases y:k<7
  ·have m:(k:Int)<7:=(by omega);have I:(0:Int)≤(k:Int):=(by omega);have f:k<l.length:=(by rw[p.o];exact y);have F:ai M g (k*3) 3=some [qI l[k].n,qI l[k].lo,qI l[k].hi]:=by
    have h:=hK.ai (aW.at Uk (n:=7) u.o k f);rw[jI]at h;exact h
   obtain⟨x,D⟩:=ay (l[k]);rw[←D]at F;have r:=af D;clear D hK;by_cases N:x.n<x.lo
   ·have c:B=false:=by
     rw[a.o,wT];refine⟨l[k],dw f,?_⟩;rw[←r.o];unfold jo;rw[aJ (by omega)];simp
    subst c;go_wp2;go_ret;exact⟨rfl,s.o.aK (((K.o.alloc _)))⟩
   ·by_cases a2:x.hi<x.n
    ·have c:B=false:=by
      rw[a.o,wT];refine⟨l[k],dw f,?_⟩;rw[←r.o];unfold jo;rw[aJ (show¬x.n≤x.hi by omega)];simp
     subst c;go_wp2;go_ret;exact⟨rfl,s.o.aK (((K.o.alloc _)))⟩
    ·have A:aj (jo l[k].n l[k].lo l[k].hi=true):=af (by
      rw[←r.o];unfold jo;rw[aM (show x.lo≤x.n by omega),aM (show x.n≤x.hi by omega)];rfl)
     go_wp2;go_roundw
     case rel=>
      refine⟨k+1,by omega,by go_num,fun j h i=>?_,K.o.alloc _⟩;by_cases v:j=k
      ·subst v;exact A.o
      ·exact b.o j (by omega) i
     case measure=>simp[intOf];omega
  ·have H:k=7:=(by omega);subst H;have c:B=true:=by
    rw[a.o,qD];intro t L;obtain⟨j,G,rfl⟩:=uL L;exact b.o j (by have:=p.o;omega) G
   subst c;have m:¬((7:Int)<7):=(by omega);go_wp2;go_ret;exact⟨rfl,s.o.aK K.o⟩
theorem IV (w:World)(z:Zf)(f:o9 z=true):
 Calls prog 146 #[D8 z] w fun e w'=>∃g,e= .returned (.tuple #[.pointer (some ⟨g,0,none⟩),qI 0])∧w.heap.size≤g∧ai w' g 0 11=some (U2 z)∧ah No w w':=by
 have a:=D9 f;obtain⟨m,n⟩:=a.cs;obtain⟨p,q⟩:=a.rs;have h:=af (fun W=>LK W z);rw[f,bH]at h;have wX:IntKind.i64.wrap (z.c*z.s)=z.c*z.s:=(by rw[cI];omega);have t:IntKind.i64.wrap (z.r*z.s)=z.r*z.s:=(by rw[cI];omega);have k:wrap64 (z.c*z.s)=z.c*z.s:=(by unfold wrap64;omega);have l:wrap64 (z.r*z.s)=z.r*z.s:=(by unfold wrap64;omega);clear f a m n p q;(go_enter func146,ntmps146);(go_wp2_with fail);refine(h.o _).mono ?_;rintro e w1 ⟨rfl,d⟩;have i:aj (ah No w w1):=af (((aA w).alloc _).aK d);have b:ai w1 w.heap.size 0 7=some (LI z):=d.ai (by simp[go_sem]);have e0:=ak b 0 _ rfl;have e1:=ak b 1 _ rfl;have e2:=ak b 2 _ rfl;simp only[bC]at e0 e1 e2;have j:=i.o.size;clear d;go_wp2;exact aY (v:= .tuple #[.pointer (some ⟨w1.heap.size,0,none⟩),qI 0]) (by simp[results,results146,go_sem]) rfl ⟨_,rfl,j,by simp[go_sem],i.o.alloc _⟩
