/- Lemmas. -/
import Derived.Test.YtpbpgjfdledgoaaGreatDoorZo19
import Derived.Test.YtpbpgjfdledgoaaGreatDoorZo20
set_option linter.all false
set_option maxRecDepth 100000
set_option maxHeartbeats 8000000
open Nat renaming zero_add→bC
open Bool renaming and_eq_true→eA
open Int renaming tdiv_nonneg→RZ,tdiv_le_self→R3
namespace Go.Proofs.YtpbpgjfdledgoaaGreatDoor
open Go.Proofs.Tryz
open Go.RowKit Go.Joins Go.Deep Go.Sort
abbrev TT (a b c d:Int):List Value:= [qI a,qI b,qI c,qI d]
abbrev NV (a b c d:Int):Value:= .agg #[qI a,qI b,qI c,qI d]
theorem sE (w:World)(n:Int):Calls prog 294 #[qI n] w fun e w'=>e= .returned (qI (cl n))∧Grown w w':=
 (LB w n).mono fun _ _ h=>⟨h.1,h.2▸Grown.same w⟩
theorem QI (w:World)(a b c d:Int):Calls prog 292 #[NV a b c d] w (qG w ((.tuple #[NV (cl a) (cl b) (cl c) (cl d),.bool (decide (cl a<cl c)&&decide (cl b<cl d))]))):=by
 obtain⟨A,hA⟩:=ay (cl a);obtain⟨B,L⟩:=ay (cl b);obtain⟨C,hC⟩:=ay (cl c);obtain⟨D,M⟩:=ay (cl d);have E:=af (fun W=>sE W a);have F:=af (fun W=>sE W b);have CC:=af (fun W=>sE W c);have G:=af (fun W=>sE W d);rw[←hA]at E⊢;rw[←L]at F⊢;rw[←hC]at CC⊢;rw[←M]at G⊢;clear hA L hC M;(go_enter func292,ntmps292);go_upto_region 1 with fail
 refine au ?_;intro W hW;have t:ai W w.heap.size 0 4=some (TT a b c d):=(by rw[hW];simp[go_sem]);have ob:Open W w.heap.size:=(by rw[hW];simp[go_sem]);have sb:(aL W w.heap.size).size=4:=(by rw[hW];simp[go_sem]);have or:Open W (w.heap.size+1):=(by rw[hW];simp[go_sem]);have sr:(aL W (w.heap.size+1)).size=4:=(by rw[hW];simp[go_sem]);have K:aj (ah No w W):=af (by rw[hW];exact((aA w).alloc _).alloc _);have lb:w.heap.size<W.heap.size:=(by rw[hW];simp;omega);have lr:w.heap.size+1<W.heap.size:=(by rw[hW];simp);obtain⟨gb,k⟩:=ay (w.heap.size);obtain⟨gr,l⟩:=ay (w.heap.size+1);have J:aj (w.heap.size≤gb∧w.heap.size≤gr):=af ⟨by omega,by omega⟩;have ne:gb≠gr:=(by omega);have m:gr≠gb:=(by omega);rw[←l];rw[←k];rw[←l]at or sr lr;rw[←k]at t ob sb lb;clear hW k l;have c0:=ak t 0 _ rfl;have c1:=ak t 1 _ rfl;have c2:=ak t 2 _ rfl;have c3:=ak t 3 _ rfl;simp only[bC]at c0 c1 c2 c3;have P:∀n os,(grow (W.drewN n) os).cell? ⟨gb,0,none⟩=some (qI a):=fun n os=>cell_grown lb c0 n os;have l1:∀n os,(grow (W.drewN n) os).cell? ⟨gb,1,none⟩=some (qI b):=fun n os=>cell_grown lb c1 n os;have l2:∀n os,(grow (W.drewN n) os).cell? ⟨gb,2,none⟩=some (qI c):=fun n os=>cell_grown lb c2 n os;have Q:∀n os,(grow (W.drewN n) os).cell? ⟨gb,3,none⟩=some (qI d):=fun n os=>cell_grown lb c3 n os;have mx:=mixed;clear c0 c1 c2 c3;refine Go.Uf.rL (n:=13) (l':=?_) (by assumption) (by rfl) rfl (by simp only[List.set];exact rfl) rfl rfl (by kernel_rfl) (by kernel_rfl) (by kernel_rfl) ?_
 repeat(quiet_step (first
  |(go_at_call 294;refine Calls.grown_of (E.o _))
  |(go_at_call 294;refine Calls.grown_of (F.o _))
  |(go_at_call 294;refine Calls.grown_of (CC.o _))
  |(go_at_call 294;refine Calls.grown_of (G.o _))))
 refine wpQuiet_nil ?_;intro nq osq;have g:Grown W (grow (W.drewN nq) osq):=⟨nq,osq,rfl⟩;have p:=g.keeps.opened ob;have z:=g.keeps.iu ob sb;have q:=g.keeps.opened or;have r:=g.keeps.iu or sr;have H:=af (K.o.aK g.keeps);obtain⟨R,y⟩:=ay (grow (W.drewN nq) osq);rw[←y]at p z q r H⊢;clear y g P l1 l2 Q ob sb or sr t lb lr K E F CC G;(go_wp2_with fail);refine au ?_;intro j h;have c3:ai j gb 0 4=some (TT A B C D):=(by rw[h,aH _ _ _ _ _ p];rfl);have SU:Open j gr:=(by rw[h];exact(eM _ _ _ _).2 q);have s:(aL j gr).size=4:=(by rw[h,mw _ _ _ _ m];exact r);have N:aj (ah No w j):=af (by rw[h];exact H.o.row J.o.1 _);clear h p z q r H;have d0:=ak c3 0 _ rfl;have d1:=ak c3 1 _ rfl;have d2:=ak c3 2 _ rfl;have d3:=ak c3 3 _ rfl;simp only[bC]at d0 d1 d2 d3;have f:aj (ah No w (j.setRow gr #[qI A,qI B,qI C,qI D]).drew∧ai (j.setRow gr #[qI A,qI B,qI C,qI D]).drew gr 0 4=some (TT A B C D)):=af ⟨(N.o.row J.o.2 _).drew,by rw[uO,aH _ _ _ _ _ SU];rfl⟩;by_cases u:A<C
 ·go_region_held3 (fun x:World=>ai x gb 0 4=some (TT A B C D)∧x.cell? ⟨gb,0,none⟩=some (qI A)∧x.cell? ⟨gb,1,none⟩=some (qI B)∧x.cell? ⟨gb,2,none⟩=some (qI C)∧x.cell? ⟨gb,3,none⟩=some (qI D)∧Open x gr∧(aL x gr).size=4) (first|exact⟨c3,d0,d1,d2,d3,SU,s⟩|exact⟨(cC _ _ _ _ _ _ ne).trans c3,(iV _ _ _ _ _ ne).trans d0,(iV _ _ _ _ _ ne).trans d1,(iV _ _ _ _ _ ne).trans d2,(iV _ _ _ _ _ ne).trans d3,(eM _ _ _ _).2 SU,by rw[Cx,dO _ _ _ SU];rfl⟩) (fail)
  obtain⟨O,i⟩:=ay ((j.setRow gr #[qI A,qI B,qI C,qI D]).drew);rw[←i]at f⊢;have I:=f.o.2;clear i d0 d1 d2 d3 c3 SU s ne m;go_wp2;have e:(decide (A<C)&&decide (B<D))=decide (B<D):=(by simp[u]);rw[e];refine aY (v:= .tuple #[NV A B C D,.bool (decide (B<D))]) ?_ rfl ⟨rfl,f.o.1⟩;clear e;simp[results,results292,go_sem,I]
 ·go_region
  obtain⟨O,i⟩:=ay ((j.setRow gr #[qI A,qI B,qI C,qI D]).drew);rw[←i]at f⊢;have I:=f.o.2;clear i d0 d1 d2 d3 c3 SU s ne m;go_wp2;have e:(decide (A<C)&&decide (B<D))=false:=(by rw[aJ (Int.not_lt.2 u),iL]);rw[e];refine aY (v:= .tuple #[NV A B C D,.bool false]) ?_ rfl ⟨rfl,f.o.1⟩;clear e;simp[results,results292,go_sem,I]
@[go_sem] theorem Uh {P:Program} (w:World) (ts:Array TypeId) (t:TypeId) (a b c:Int):(Builtin.max_ ts t #[qI a,qI b,qI c]).run P w= .ok (qI (max (max a b) c)) w:=by
  rw[←xC (max a b), ←xC a];simp[Builtin.max_,Builtin.max2]
@[go_sem] theorem Ui {P:Program} (w:World) (ts:Array TypeId) (t:TypeId) (a b:Int):(Builtin.max_ ts t #[qI a,qI b]).run P w= .ok (qI (max a b)) w:=by
  rw[←xC a];simp[Builtin.max_,Builtin.max2]
def D6 (n lo hi:Int):Int:=max (max (lo-n) (n-hi)) 0
theorem QJ (w:World)(n lo hi:Int)(n1: -1073741825≤n)(f:n≤1073741825)(l1: -1073741825≤lo)(l2:lo≤1073741825)(d: -1073741825≤hi)(e:hi≤1073741825):Calls prog 293 #[qI n,qI lo,qI hi] w (qW w ((qI (D6 n lo hi)))):=by
 obtain⟨P,b⟩:∃q,lo-n=q:=⟨_,rfl⟩;obtain⟨Q,c⟩:∃q,n-hi=q:=⟨_,rfl⟩;obtain⟨M,a⟩:∃M,max (max P Q) 0=M:=⟨_,rfl⟩;have hV:D6 n lo hi=M:=(by unfold D6;rw[b,c,a]);rw[hV];clear hV;(go_enter func293,ntmps293);go_wp2
 all_goals go_ret
 all_goals exact⟨by first|rfl|(simp;omega),rfl⟩
theorem R4 (w:World)(n lo hi:Int)(n1: -1073741825≤n)(c:n≤1073741825)(l1: -1073741825≤lo)(l2:lo≤1073741825)(a: -1073741825≤hi)(b:hi≤1073741825):Calls prog 293 #[qI n,qI lo,qI hi] w fun e w'=>e= .returned (qI (D6 n lo hi))∧Grown w w':=
 (QJ w n lo hi n1 c l1 l2 a b).mono fun _ _ h=>⟨h.1,h.2▸Grown.same w⟩
def IQ (a b c d x y:Int):Int:=bif decide (cl a<cl c)&&decide (cl b<cl d)then max (D6 (cl x) (cl a) (cl c-1)) (D6 (cl y) (cl b) (cl d-1))else -1
theorem QK (w:World)(a b c d x y:Int):Calls prog 262 #[NV a b c d,qI x,qI y] w (qG w ((qI (IQ a b c d x y)))):=by
 have k:=af (fun W=>QI W a b c d);have t:=af (fun W=>sE W x);have u:=af (fun W=>sE W y);have H:=xB a;have I:=xB b;have J:=xB c;have K:=xB d;have L:=xB x;have N:=xB y;unfold IQ;obtain⟨A,hA⟩:=ay (cl a);obtain⟨B,l⟩:=ay (cl b);obtain⟨C,hC⟩:=ay (cl c);obtain⟨D,m⟩:=ay (cl d);obtain⟨X,p⟩:=ay (cl x);obtain⟨Y,q⟩:=ay (cl y);rw[←hA, ←l, ←hC, ←m]at k;rw[←p]at t;rw[←q]at u;rw[←hA]at H;rw[←l]at I;rw[←hC]at J;rw[←m]at K;rw[←p]at L;rw[←q]at N;rw[←hA, ←l, ←hC, ←m, ←p, ←q];clear hA l hC m p q;have z:=af (fun W=>R4 W X A (C-1) (by omega) (by omega) (by omega) (by omega) (by omega) (by omega));have E:=af (fun W=>R4 W Y B (D-1) (by omega) (by omega) (by omega) (by omega) (by omega) (by omega));obtain⟨U,s⟩:=ay (D6 X A (C-1));obtain⟨V,hV⟩:=ay (D6 Y B (D-1));obtain⟨ok,f⟩:=ay ((decide (A<C)&&decide (B<D)));obtain⟨M,O⟩:=ay (max U V);rw[←s]at z;rw[←hV]at E;rw[←f]at k;rw[←s, ←hV, ←f, ←O];clear s hV f;have mx:=mixed;(go_enter func262,ntmps262);(go_wp2_with fail);refine(k.o _).mono ?_;rintro e w1 ⟨rfl,j⟩;have r:aj (ah No w w1):=af (((aA w).alloc _).aK j);have ob:Open w1 w.heap.size:=j.opened (by simp[go_sem]);have sb:(aL w1 w.heap.size).size=4:=j.iu (by simp[go_sem]) (by simp[go_sem]);have F:aj (w.heap.size<w1.heap.size):=af (by have:=j.size;simp at this;omega);clear j k;cases ok
 ·go_wp2;go_ret;exact⟨rfl,r.o.row (bM _) _⟩
 ·(go_wp2_with fail);refine au ?_;intro W hW;have c3:ai W w.heap.size 0 4=some (TT A B C D):=(by rw[hW,aH _ _ _ _ _ ob];rfl);have G:aj (ah No w W):=af (by rw[hW];exact r.o.row (bM _) _);clear hW ob sb r F;obtain⟨gb,i⟩:=ay (w.heap.size);rw[←i]at c3⊢;clear i;have lb:gb<W.heap.size:=nh (ak c3 0 _ rfl);have d0:=ak c3 0 _ rfl;have d1:=ak c3 1 _ rfl;have d2:=ak c3 2 _ rfl;have d3:=ak c3 3 _ rfl;simp only[bC]at d0 d1 d2 d3;have Q:∀n os,(grow (W.drewN n) os).cell? ⟨gb,0,none⟩=some (qI A):=fun n os=>cell_grown lb d0 n os;have l1:∀n os,(grow (W.drewN n) os).cell? ⟨gb,1,none⟩=some (qI B):=fun n os=>cell_grown lb d1 n os;have l2:∀n os,(grow (W.drewN n) os).cell? ⟨gb,2,none⟩=some (qI C):=fun n os=>cell_grown lb d2 n os;have R:∀n os,(grow (W.drewN n) os).cell? ⟨gb,3,none⟩=some (qI D):=fun n os=>cell_grown lb d3 n os;clear d0 d1 d2 d3 c3;have S:IntKind.i64.wrap (C-1)=C-1:=(by rw[cI];omega);have T:IntKind.i64.wrap (D-1)=D-1:=by rw[cI];omega
  go_quiet_grown (first
   |(go_at_call 294;have hc:=t.o;with_reducible refine Calls.grown_of (hc _))
   |(go_at_call 294;have hc:=u.o;with_reducible refine Calls.grown_of (hc _))
   |(go_at_call 293;have hc:=z.o;with_reducible refine Calls.grown_of (hc _))
   |(go_at_call 293;have hc:=E.o;with_reducible refine Calls.grown_of (hc _)))
  have g:Grown W (grow (W.drewN nq) osq):=⟨nq,osq,rfl⟩;have v:=af (G.o.aK g.keeps);show Exit.then _ _ Exit.normal _ (grow (W.drewN nq) osq);obtain⟨P,h⟩:=ay (grow (W.drewN nq) osq);rw[←h]at v⊢;clear h g;go_wp2
  all_goals go_ret
  all_goals exact⟨by first|rfl|(simp;omega),v.o⟩
theorem NW (w:World)(a b c d x y:Int):Calls prog 205 #[NV a b c d,qI x,qI y] w (qG w ((.bool (IQ a b c d x y==0)))):=by
 have h:=af (fun W=>QK W a b c d x y);obtain⟨g,i⟩:=ay (IQ a b c d x y);rw[←i]at h⊢;clear i;(go_enter func205,ntmps205);(go_wp2_with fail);refine(h.o _).mono ?_;rintro e w1 ⟨rfl,f⟩;have j:aj (ah No w w1):=af (by first|exact f|exact((aA w).alloc _).aK f)
 clear f;go_wp2;go_ret;exact⟨rfl,j.o⟩
theorem S0 (a b:Int):(if b<a then b else a)=min a b:=by
 by_cases h:b<a
 ·rw[dM h];omega
 ·rw[fC h];omega
@[go_sem] theorem Uj {P:Program} (w:World) (ts:Array TypeId) (t:TypeId) (a b:Int):(Builtin.min_ ts t #[qI a,qI b]).run P w= .ok (qI (min a b)) w:=by
  rw[←S0 a];simp[Builtin.min_,Builtin.min2]
structure Zf where
 c:Int
 r:Int
 s:Int
 u:Int
 v:Int
 i:Int
 q:Int
abbrev U2 (z:Zf):List Value:= [qI z.c,qI z.r,qI z.s,qI z.u,qI z.v,qI z.i,qI z.q,qI 0,qI 0,qI (z.c*z.s),qI (z.r*z.s)]
theorem D7 (w:World)(g:Nat)(z:Zf)(h:ai w g 0 11=some (U2 z))(b:0≤z.c*z.r)(d:z.c*z.r≤1073741824):
 Calls prog 148 #[.pointer (some ⟨g,0,none⟩)] w fun e w'=>e= .returned (qI (z.c*z.r))∧Grown w w':=by
 have e0:=ak h 0 _ rfl;have e1:=ak h 1 _ rfl;simp only[bC]at e0 e1;obtain⟨C,hC⟩:=ay (z.c);obtain⟨R,a⟩:=ay (z.r);rw[←hC, ←a]at b d⊢;rw[←hC]at e0;rw[←a]at e1;have lb:g<w.heap.size:=nh e0;have f:∀n os,(grow (w.drewN n) os).cell? ⟨g,0,none⟩=some (qI C):=fun n os=>cell_grown lb e0 n os;have l1:∀n os,(grow (w.drewN n) os).cell? ⟨g,1,none⟩=some (qI R):=fun n os=>cell_grown lb e1 n os;have i:IntKind.i64.wrap (C*R)=C*R:=(by rw[cI];omega);have mx:=mixed;clear h hC a e0 e1;(go_enter func148,ntmps148);go_wp2_with fail
 go_quiet_grown (fail)
 go_wp2;go_ret;exact⟨rfl,⟨nq,osq,rfl⟩⟩
theorem zl (n:Int):cl n=n∨(n< -1073741824∧cl n= -1073741824)∨(1073741824<n∧cl n=1073741824):=by
 by_cases h:n< -1073741824
 ·exact .inr (.inl ⟨h,Ko h⟩)
 ·by_cases k:1073741824<n
  ·exact .inr (.inr ⟨k,Kq k⟩)
  ·exact .inl (tE (by omega) (by omega))
theorem NX {A B x y:Int}(c:1≤A)(a2:A≤1073741824)(b1:1≤B)(a:B≤1073741824):IQ 0 0 A B x y=0↔0≤x∧x≤A-1∧0≤y∧y≤B-1:=by
 have hA:cl A=A:=tE (by omega) a2;have b:cl B=B:=tE (by omega) a;have h0:cl 0=0:=tE (by omega) (by omega);unfold IQ;rw[hA,b,h0,aM (show(0:Int)<A by omega),aM (show(0:Int)<B by omega),Bool.and_self,bH];unfold D6;have d:=zl x;have hy:=zl y;omega
def ou (z:Zf)(x y:Int):Int:=bif decide (0≤x)&&decide (x≤z.c*z.s-1)&&decide (0≤y)&&decide (y≤z.r*z.s-1)then Int.tdiv y z.s*z.c+Int.tdiv x z.s else -1
theorem NY {z:Zf}{x y:Int}(f:1≤z.c*z.s)(a2:z.c*z.s≤1073741824)(b1:1≤z.r*z.s)(g:z.r*z.s≤1073741824):(IQ 0 0 (z.c*z.s) (z.r*z.s) x y==0)=(decide (0≤x)&&decide (x≤z.c*z.s-1)&&decide (0≤y)&&decide (y≤z.r*z.s-1)):=by
 rw[oT];simp only[beq_iff_eq,eA,decide_eq_true_iff];rw[NX f a2 b1 g];constructor
 ·rintro⟨a,b,d,e⟩;exact⟨⟨⟨a,b⟩,d⟩,e⟩
 ·rintro⟨⟨⟨a,b⟩,d⟩,e⟩;exact⟨a,b,d,e⟩
theorem LH (w:World)(g:Nat)(z:Zf)(h:ai w g 0 11=some (U2 z))(x y:Int)(k:1≤z.c*z.s)(l:z.c*z.s≤1073741824)(m:1≤z.r*z.s)(p:z.r*z.s≤1073741824)(s1:1≤z.s)(c0:0≤z.c)(c1:z.c≤1073741824):
 Calls prog 154 #[.pointer (some ⟨g,0,none⟩),qI x,qI y] w (qG w ((qI (ou z x y)))):=by
 have d:=af (fun W=>NW W 0 0 (z.c*z.s) (z.r*z.s) x y);rw[NY k l m p]at d;unfold ou;have v:ai w g 7 4=some (TT 0 0 (z.c*z.s) (z.r*z.s)):=aE h 7 [qI 0,qI 0,qI (z.c*z.s),qI (z.r*z.s)] rfl (Nat.zero_lt_succ _);have e0:=ak h 0 _ rfl;have e2:=ak h 2 _ rfl;simp only[bC]at e0 e2;obtain⟨X,t⟩:=ay (z.c*z.s);obtain⟨Y,u⟩:=ay (z.r*z.s);obtain⟨C,hC⟩:=ay (z.c);obtain⟨S,hS⟩:=ay (z.s);rw[←t]at d l v⊢;rw[←u]at d p v⊢;rw[←hC]at e0 c0 c1⊢;rw[←hS]at e2 s1⊢;clear h t u hC hS k m;obtain⟨ok,a⟩:=ay ((decide (0≤x)&&decide (x≤X-1)&&decide (0≤y)&&decide (y≤Y-1)));rw[←a]at d⊢;have lb:g<w.heap.size:=nh e0;have mx:=mixed;cases ok
 ·clear a;(go_enter func154,ntmps154);(go_wp2_with fail);refine(d.o _).mono ?_;rintro e w1 ⟨rfl,b⟩;have j:=af b;clear b;go_wp2;go_ret;exact⟨rfl,j.o⟩
 ·have f:=a.symm;simp only[eA,decide_eq_true_iff]at f;obtain⟨⟨⟨x0,N⟩,B⟩,O⟩:=f;clear a;have A:0≤Int.tdiv y S:=RZ B (by omega);have I:Int.tdiv y S≤y:=R3 S B;have p0:0≤Int.tdiv x S:=RZ x0 (by omega);have H:Int.tdiv x S≤x:=R3 S x0;obtain⟨Q,G⟩:∃q,Int.tdiv y S=q:=⟨_,rfl⟩;obtain⟨P,F⟩:∃q,Int.tdiv x S=q:=⟨_,rfl⟩;rw[G]at A I⊢;rw[F]at p0 H⊢;have m0:0≤Q*C:=qZ A c0;have m1:Q*C≤1073741824*1073741824:=tV (by omega) c1 c0 (by omega);obtain⟨M,E⟩:∃q,Q*C=q:=⟨_,rfl⟩;rw[E]at m0 m1⊢;have L:IntKind.i64.wrap Q=Q:=(by rw[cI];omega);have wP:IntKind.i64.wrap P=P:=(by rw[cI];omega);have wM:IntKind.i64.wrap M=M:=(by rw[cI];omega);have wS:IntKind.i64.wrap (M+P)=M+P:=(by rw[cI];omega);have J:¬S=0:=(by omega);have D:(S==0)=false:=(by rw[eD];omega);(go_enter func154,ntmps154);(go_wp2_with fail);refine(d.o _).mono ?_;rintro e w1 ⟨rfl,b⟩;have j:=af b;have i:g<w1.heap.size:=(by have:=b.size;omega);have K:∀n os,(grow (w1.drewN n) os).cell? ⟨g,0,none⟩=some (qI C):=fun n os=>cell_grown i (b.cB e0) n os;have l2:∀n os,(grow (w1.drewN n) os).cell? ⟨g,2,none⟩=some (qI S):=fun n os=>cell_grown i (b.cB e2) n os;clear b;go_wp2_with fail
  go_quiet_grown (fail)
  go_wp2;go_ret;exact⟨rfl,j.o.aK (Grown.keeps ⟨nq,osq,rfl⟩)⟩
