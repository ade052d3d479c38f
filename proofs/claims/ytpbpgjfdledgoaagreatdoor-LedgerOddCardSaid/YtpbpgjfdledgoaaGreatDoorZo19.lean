/- Lemmas. -/
import Derived.Test.YtpbpgjfdledgoaaGreatDoorZo18
import Derived.Shelf.SlSortCmp.QuietGrown
set_option linter.all false
set_option maxRecDepth 100000
set_option maxHeartbeats 8000000
open Int renaming tmod_eq_emod→Kr,tdiv_eq_ediv→RY
namespace Go.Proofs.YtpbpgjfdledgoaaGreatDoor
section
open Go.Proofs.Tryz
open Go.RowKit Go.Joins Go.Deep Go.Sort
theorem mixed:prog.follows .mixedOrders=true:=by kernel_rfl
section
variable {w:World}{blk off cap:Nat}{l:List Bd}
end
abbrev aI {α:Type}(C:dX α)(e:TypeId)(w:World)(base:Nat)(v:Value)(l:List α):Prop:=w.ownsRow base e C.size v l.length (rowsOf C l)
theorem aI.reads {α:Type}{C:dX α}{e:TypeId}{w:World}{base:Nat}{v:Value}{l:List α}(h:aI C e w base v l):aW C w v l:=Reads.fu h (ko C l)
theorem aW.slice {α:Type}{C:dX α}{w:World}{v:Value}{l:List α}(h:aW C w v l):∃a c,v= .slice a l.length c:=Reads.slice h
theorem rK (w:World)(b:Bd)(c:Int)(h:bits .and .i64 b.m c=(bif hasB b.m c then c else 0))(h0:¬c=0):Calls prog 199 #[mr b,qI c] w fun e w'=>e= .returned (.bool (hasB b.m c))∧Grown w w':=by
 cases hb:hasB b.m c with
 |true=>
  rw[hb,bH]at h;clear hb;(go_enter func199,ntmps199);go_wp2;go_ret;exact⟨by simp,(Grown.same w).alloc _⟩
 |false=>
  rw[hb,aN]at h;have a:((0:Int)==c)=false:=(by rw[eD];omega);clear hb;(go_enter func199,ntmps199);go_wp2;go_ret;exact⟨by simp,(Grown.same w).alloc _⟩
theorem Ud (w:World)(b:Bd):Calls prog 199 #[mr b,qI 1] w fun e w'=>e= .returned (.bool (hasB b.m 1))∧Grown w w':=rK w b 1 (jt b.m).1 (by decide)
theorem Vi (w:World)(b:Bd):Calls prog 199 #[mr b,qI 2] w fun e w'=>e= .returned (.bool (hasB b.m 2))∧Grown w w':=rK w b 2 (jt b.m).2.1 (by decide)
theorem Vj (w:World)(b:Bd):Calls prog 199 #[mr b,qI 4] w fun e w'=>e= .returned (.bool (hasB b.m 4))∧Grown w w':=rK w b 4 (jt b.m).2.2.1 (by decide)
theorem Vk (w:World)(b:Bd):Calls prog 199 #[mr b,qI 8] w fun e w'=>e= .returned (.bool (hasB b.m 8))∧Grown w w':=rK w b 8 (jt b.m).2.2.2.1 (by decide)
theorem Ue (w:World)(b:Bd):Calls prog 199 #[mr b,qI 16] w fun e w'=>e= .returned (.bool (hasB b.m 16))∧Grown w w':=rK w b 16 (jt b.m).2.2.2.2 (by decide)
def wM (b c:Bd):Bd:=⟨b.s,b.i,b.g,bits .or .i64 b.m c.m,b.x,b.y,b.vx,b.vy,b.hp,b.pw,b.lf⟩
def wX (c b:Bd):Bd:=bif hasB c.m 1 then⟨b.s,b.i,b.g,b.m,c.x,c.y,b.vx,b.vy,b.hp,b.pw,b.lf⟩else b
def wP (c b:Bd):Bd:=bif hasB c.m 8 then⟨b.s,b.i,b.g,b.m,b.x,b.y,b.vx,b.vy,b.hp,c.pw,b.lf⟩else b
def wL (c b:Bd):Bd:=bif hasB c.m 16 then⟨b.s,b.i,b.g,b.m,b.x,b.y,b.vx,b.vy,b.hp,b.pw,c.lf⟩else b
theorem LD (a b c d e f:Int)(w:World):(binOp .neq 23 (.agg #[qI a,qI b,qI c]) (.agg #[qI d,qI e,qI f])).run prog w= .ok (.bool (!neq ⟨a,b,c⟩ ⟨d,e,f⟩)) w:=by
 unfold neq;by_cases g:a=d<;>by_cases h:b=e<;>by_cases i:c=f<;>simp[go_sem,g,h,i]
abbrev gH (c:Cm):Value:= .agg #[qI c.k,qI c.s,qI c.i,qI c.g,qI c.b.s,qI c.b.i,qI c.b.g,qI c.b.m,qI c.b.x,qI c.b.y,qI c.b.vx,qI c.b.vy,qI c.b.hp,qI c.b.pw,qI c.b.lf,qI c.m]
theorem aE {w:World}{b o n:Nat}{l:List Value}(h:ai w b o n=some l)(a:Nat)(m:List Value)(hm:m=(l.drop a).take m.length)(h0:0<m.length):ai w b (o+a) m.length=some m:=by
 refine zO (fun j v hv=>?_) h0;have c:=(eC.1 hv).1;rw[Nat.add_assoc];refine ak h (a+j) v ?_;rw[hm,List.getElem?_take_of_lt c,zy]at hv;exact hv
theorem lz (w:World)(n:Int):Calls prog 306 #[qI n] w (qW w ((qI (cl n)))):=by
 by_cases h:n< -1073741824
 ·rw[Ko h];have a:¬1073741824<n:=(by omega);(go_enter func306,ntmps306);go_wp2;go_ret;exact⟨rfl,rfl⟩
 ·by_cases k:1073741824<n
  ·rw[Kq k];(go_enter func306,ntmps306);go_wp2;go_ret;exact⟨rfl,rfl⟩
  ·rw[tE (by omega) (by omega)];(go_enter func306,ntmps306);go_wp2;go_ret;exact⟨rfl,rfl⟩
theorem NT (w:World)(n:Int)(hn:i64 n):Calls prog 257 #[qI n] w (qW w ((qI (n/2)))):=by
 obtain⟨g,i⟩:=hn;by_cases h:n<0
 ·have hd:decide (n<0)=true:=aM h;by_cases e:n%2=0
  ·have hm:n.tmod 2=0:=by rw[Kr];split<;>omega
   have b:n.tdiv 2=n/2:=by rw[RY];split<;>omega
   obtain⟨q,a⟩:=ay (n/2);rw[←a]at b⊢;have c: -9223372036854775808≤q:=(by omega);have d:q≤9223372036854775807:=(by omega);clear a e;(go_enter func257,ntmps257);go_wp2;go_ret;exact⟨rfl,rfl⟩
  ·have hm:n.tmod 2= -1:=by rw[Kr];split<;>omega
   have b:(n-1).tdiv 2=n/2:=by rw[RY];split<;>omega
   obtain⟨q,a⟩:=ay (n/2);rw[←a]at b⊢;have c: -9223372036854775808≤q:=(by omega);have d:q≤9223372036854775807:=(by omega);have f: -9223372036854775807≤n:=(by omega);clear a e;(go_enter func257,ntmps257);go_wp2;go_ret;exact⟨rfl,rfl⟩
 ·have hd:decide (n<0)=false:=aJ h;have h0:0≤n:=(by omega);have b:n.tdiv 2=n/2:=Cw h0;obtain⟨q,a⟩:∃q,n/2=q:=⟨_,rfl⟩;rw[a]at b⊢;have c:0≤q:=(by omega);have d:q≤9223372036854775807:=(by omega);(go_enter func257,ntmps257);go_wp2;go_ret;exact⟨rfl,rfl⟩
theorem QG {n:Int}(h:i64 n):i64 (n/2):=by unfold i64 at*;omega
def qO (c:Int):Prop:=c=1∨c=2∨c=4∨c=8∨c=16
theorem iw (w:World)(m c:Int)(hm:i64 m)(hc:qO c):Calls prog 197 #[qI m,qI c] w (qW w ((.bool (hasB m c)))):=by
 have p:=af hm;have n:=af hc;clear hm hc;(go_enter func197,ntmps197);go_wp2_with fail
 go_loopw [0,1] (fun t s1 wr=>∃x d:Int,t=qI x∧s1=qI d∧i64 x∧qO d∧hasB x d=hasB m c∧w=wr) (fun _ s1 _=>(intOf s1).toNat)
 case atStart=>exact⟨m,c,rfl,rfl,p.o,n.o,rfl,rfl⟩
 case round=>
  obtain⟨x,d,rfl,rfl,g,hd,k,rfl⟩:=hrel;have u:=af g;have HH:=af k;have j:=af (NT w x g);have b:=af (QG g);obtain⟨r,s⟩:=g;clear k;obtain⟨q,i⟩:=ay (x/2);have f:=af i;rw[←i]at j b;clear i;rcases hd with rfl|rfl|rfl|rfl|rfl
  ·by_cases l:x%2=0
   ·have e1:aj (hasB m c=false):=af (by rw[←HH.o];unfold hasB;rw[Int.ediv_one];exact aJ (by omega));have a:x.tmod 2=0:=by rw[Kr];split<;>omega
    clear l;go_wp2;go_ret;exact⟨by rw[e1.o];rfl,rfl⟩
   ·have e1:aj (hasB m c=true):=af (by rw[←HH.o];unfold hasB;rw[Int.ediv_one];exact aM (by omega));have a:x.tmod 2=1∨x.tmod 2= -1:=by rw[Kr];split<;>omega
    clear l;rcases a with a|a
    ·go_wp2;go_ret;exact⟨by rw[e1.o];rfl,rfl⟩
    ·go_wp2;go_ret;exact⟨by rw[e1.o];rfl,rfl⟩
  all_goals
   (go_wp2_with fail);refine j.o.mono ?_;rintro e w1 ⟨rfl,h⟩;have h:=h.symm;subst h;go_wp2;go_roundw
   case measure=>simp[intOf]
  case rel=>exact⟨q,1,rfl,rfl,b.o,.inl rfl,by rw[←HH.o,f.o];unfold hasB;congr 1;apply propext;omega,by first|rfl|trivial⟩
  case rel=>exact⟨q,2,rfl,rfl,b.o,.inr (.inl rfl),by rw[←HH.o,f.o];unfold hasB;congr 1;apply propext;omega,by first|rfl|trivial⟩
  case rel=>exact⟨q,4,rfl,rfl,b.o,.inr (.inr (.inl rfl)),by rw[←HH.o,f.o];unfold hasB;congr 1;apply propext;omega,by first|rfl|trivial⟩
  case rel=>exact⟨q,8,rfl,rfl,b.o,.inr (.inr (.inr (.inl rfl))),by rw[←HH.o,f.o];unfold hasB;congr 1;apply propext;omega,by first|rfl|trivial⟩
end
section
open Go.Proofs.Tryz
open Go.RowKit
theorem jw {α:Type}(C:dX α)(w:World)(e:TypeId)(a:α):Reads (w.alloc (.cells (C.cells a).toArray e)) C.size (.slice (some ⟨w.heap.size,0,none⟩) 1 1) 1 (C.cells a):=by
 have h:=jO (e:=e) (size:=C.size) w (C.cells a).toArray 1 (aX _) (by unfold maxLen;omega) (by simp[C.len]);exact Reads.fu h (C.one a)
theorem D3 {α:Type}{C:dX α}{e:TypeId}{w:World}{base:Nat}{v:Value}{l:List α}{a:α}(h:w.ownsRow base e C.size v (l.length+1) (rowsOf C l++C.cells a)):aI C e w base v (l++ [a]):=by
 unfold aI;rw[bE,fL,cr];exact h
theorem QH {α:Type}(C:dX α){w:World}{a:Addr}{c:Nat}{l:List α}(hc:l.length≤c)(hm:c≤maxLen)
 (h:∀i,(hi:i<l.length)→∀j u,(C.cells l[i])[j]?=some u→w.cell? (a.add (i*C.size+j))=some u):aW C w (.slice (some a) l.length c) l:=by
 refine⟨bV C l,ko C l,.inr ⟨a,c,rfl,hc,hm,fun j u hu=>?_⟩⟩;have b:j<(rowsOf C l).length:=(eC.1 hu).1;rw[bV]at b;have hp:=C.pos;have hi:j/C.size<l.length:=Nat.div_lt_of_lt_mul (by rw[mG];exact b);have d:j=j/C.size*C.size+j%C.size:=(by rw[mG];exact(Nat.div_add_mod _ _).symm);have hm:=Nat.mod_lt j hp;rw[d]at hu⊢;rw[xk C l _ hi _ hm]at hu;exact h _ hi _ u hu
theorem aI.base {α:Type}{C:dX α}{e:TypeId}{w:World}{b b':Nat}{v:Value}{l:List α}(h:aI C e w b' v l)(hb:b≤b'):aI C e w b v l:=by
 obtain⟨c,a⟩:=h;refine⟨c,?_⟩;rcases a with a|⟨g,cap,cur,hv,d,r⟩
 ·exact .inl a
 ·exact .inr ⟨g,cap,cur,hv,aU hb d,r⟩
theorem D4 {α:Type}{C:dX α}{e:TypeId}{w:World}{base:Nat}{v:Value}{l:List α}(h:aI C e w base v l)(hl:0<l.length):∃g cap,v= .slice (some ⟨g,0,none⟩) l.length cap∧l.length≤cap∧base≤g∧Open w g∧(aL w g).size=cap*C.size:=by
 rcases h.2 with⟨_,h0⟩|⟨g,cap,cur,hv,b,a,hc,hm,hs,_⟩
 ·omega
 ·exact⟨g,cap,hv,hc,b,⟨_,_,a⟩,by unfold aL;rw[a];exact hs⟩
theorem Ay {α:Type}{C:dX α}{e:TypeId}{w:World}{base g cap:Nat}{l:List α}(h:aI C e w base (.slice (some ⟨g,0,none⟩) l.length cap) l)(k:Nat)(n:k<l.length)(a:α):
 aI C e (w.setRow g (splice (aL w g) (k*C.size) (C.cells a))) base (.slice (some ⟨g,0,none⟩) l.length cap) (l.set k a):=by
 obtain⟨t,d⟩:=h;rcases d with⟨d,_⟩|⟨g',i,cur,hv,p,m,hc,hm,hs,s⟩
 ·cases d
 ·simp only[Value.slice.injEq,Option.some.injEq,Addr.mk.injEq,and_true,true_and]at hv;obtain⟨rfl,rfl⟩:=hv;have o:aL w g=cur:=(by unfold aL;rw[m]);have b:=C.len a;have q:k*C.size+C.size≤l.length*C.size:=(by rw[←nu];exact mY _ n);have f:l.length*C.size≤cap*C.size:=mY _ hc;have c:cur.toList.length=cap*C.size:=(by rw[qR,hs]);refine⟨by rw[bV],.inr ⟨g,cap,_,by rw[nk],p,kX w g cur _ e _ m,by rw[nk];exact hc,hm,?_,?_⟩⟩
  ·rw[o];unfold splice;simp only[List.size_toArray,List.length_append,List.length_take,List.length_drop,c,b];omega
  ·rw[o,nk,Ab C l k n a, ←s];unfold splice;have r:k*C.size+C.size=(k+1)*C.size:=(by rw[nu]);have j:(cur.toList.take (k*C.size)++C.cells a).length=(k+1)*C.size:=(by rw[cr,fB,c,b];omega);rw[b,r,List.take_append,j,fA (by rw[j];omega),List.take_take,qE (by omega),List.drop_take]
end
