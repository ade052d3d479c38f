/- Lemmas. -/
import Derived.Test.YtpbpgjfdledgoaaGreatDoorZo11
import Derived.RangeFuncNested
set_option linter.all false
set_option maxRecDepth 100000
set_option maxHeartbeats 8000000
open List renaming length_reverse→RU
namespace Go.Proofs.YtpbpgjfdledgoaaGreatDoor
open Go.Proofs.Tryz
open Go.RowKit Go.Shelf Go.Sort Go.Joins
attribute [local go_sem] Oper.semAt_some
structure fE (n₀ p b:Nat)(A B:World):Prop where
 size:A.heap.size≤B.heap.size
 block:∀k,k<n₀→k≠p→k≠b→B.heap[k]?=A.heap[k]?
theorem fE.refl {n₀ p b:Nat}(A:World):fE n₀ p b A A:=⟨bM _,fun _ _ _ _=>rfl⟩
theorem fE.trans {n₀ p b:Nat}{A B C:World}(h:fE n₀ p b A B)(k:fE n₀ p b B C):fE n₀ p b A C:=
 ⟨aU h.size k.size,fun i hi hp hb=>(k.block i hi hp hb).trans (h.block i hi hp hb)⟩
theorem fE.put {n₀ p b:Nat}{w:World}(hn:n₀≤w.heap.size)(W:World)(l:Nat)(o o':Obj)(hl:w.heap.size≤l)(h:W.heap[l]?=some o)(_:o.isCells=false)(_:o.isWalk=false):fE n₀ p b W (W.putObj l o'):=
 have _:=h
 ⟨(grownBy_putObj' W l o').size,fun k a _ _=>World.putObj_heap_other (by omega)⟩
theorem fE.cell {n₀ p b:Nat}{A B:World}(h:fE n₀ p b A B){a:Addr}{v:Value}(hc:A.cell? a=some v)(hn:a.block<n₀)(hp:a.block≠p)(hb:a.block≠b):B.cell? a=some v:=
 (zx (w:=A) (h.block a.block hn hp hb)).trans hc
abbrev TR:= { x:Nat×Nat // x.2≤4611686018427387904 }
def Nw (x:TR):Array Value:=#[qI x.1.1,qI x.1.2]
def numOf (x:TR):Nat:=x.1.2
theorem Nx (F:Fence)(n:Nat)(hf:F.fn 168)(N:F.round=none)(aq:1≤n)(l u n₀ p b:Nat)(va:Option Addr)(vc:Nat)(L:List Nat)(R:∀m∈L,m≤4611686018427387904)(aA:(L.length:Int)≤4611686018427387904)(J P:List TR→World→Prop)
 (S:∀pre x W,J pre W→pre.length<L.length→YieldAt F (n-1) prog l (Nw x) W fun e W'=>(e= .returned (.bool true)∧J (pre++ [x]) W'∧fE n₀ p b W W')∨(e= .returned (.bool false)∧P (pre++ [x]) W'))
 (s:u<n₀∧u≠p∧u≠b) (W:World) (ai:W.cell? ⟨u,0,none⟩=some (.slice va L.length vc))
 (r:0<L.length→∃q off,va=some ⟨q,off,none⟩∧(q<n₀∧q≠p∧q≠b)∧∀j m:Nat,L[j]?=some m→W.cell? ⟨q,off+j,none⟩=some (qI m)) (h0:J [] W):
 CallsIn F n prog 168 #[.func (.yield l) #[] #[],.pointer (some ⟨u,0,none⟩)] W fun e W'=>(∃v,e= .returned v)∧
  ((∃ys,ys.map numOf=L.reverse∧J ys W')∨(∃pre,True∧P pre W')):=by
 have Z:=af S;have V:=af R;have w:=af r;clear S R r;have au:IntKind.i64.wrap ((L.length:Int)-1)=(L.length:Int)-1:=(by rw[cI];omega);refine callsIn_of_wp func168 rfl hf ?_ N;simp only[ntmps168,List.size_toArray,List.length_cons,List.length_nil,Nat.reduceAdd,Nat.reduceSub,Array.replicate_succ,Array.replicate_zero,List.push_toArray,List.append_toArray,List.nil_append,List.cons_append]
 gi_wp2
 gi_loopw [3] (fun i wr=>∃(k M:Nat) (pre:List TR),M+k=L.length∧i=qI ((M:Int)-1)∧pre.map numOf=L.reverse.take k∧J pre wr∧fE n₀ p b W wr) (fun i _=>((intOf i)+1).toNat)
 case atStart=>exact⟨0,L.length,[],by omega,rfl,rfl,h0,fE.refl _⟩
 case round=>
  obtain⟨k,M,pre,t,rfl,a,Q,hK⟩:=hrel;cases M with
  |zero=>
   have T:k=L.length:=(by omega);have f:aj (pre.map numOf=L.reverse):=af (by rw[a,T,fA (by simp)]);have he:((0:Nat):Int)-1= -1:=rfl;rw[he];clear a t T
   gi_wp2
   refine pP (nw rfl _ _ _) rfl ?_;exact⟨⟨_,rfl⟩,.inl ⟨pre,f.o,Q⟩⟩
  |succ m=>
   obtain⟨q,off,rfl,⟨H,I,K⟩,U⟩:=w.o (by omega);have A:m<L.length:=(by omega);have O:=hK.cell (U m _ (fw A)) H I K;have hb:=hK.cell ai s.1 s.2.1 s.2.2;have he:((m+1:Nat):Int)-1=(m:Int):=(by omega);rw[he];have G:pre.length=k:=by
    have:=fJ List.length a;rw[eE,fB,RU]at this;omega
   have c:aj (L.reverse.take (k+1)=L.reverse.take k++ [L[m]]):=by
    refine af ?_;rw[iK (by rw[RU];omega),List.getElem_reverse];congr 2;congr 1;omega
   have g:=V.o _ (dw A);obtain⟨fn,tmps,assign,body,hy,D⟩:=Z.o pre ⟨(m,L[m]),g⟩ wr Q (by omega);have f:=af a;have h:numOf ⟨(m,L[m]),g⟩=L[m]:=rfl;have d:=af h;unfold Nw at hy;dsimp only at hy;generalize(⟨(m,L[m]),g⟩:TR)=x at D d;generalize L[m]=y at O hy c d;have ah:(0:Int)≤(m:Int):=(by omega);have ak:(m:Int)<(L.length:Int):=(by omega);have av:IntKind.i64.wrap ((m:Int)-1)=(m:Int)-1:=(by rw[cI];omega);have C:=af hK;have Y:=af D;have X:=af t;clear U a hK g h D G t
   gi_wp2
   refine Y.o.mono ?_;rintro e ay (⟨rfl,B,E⟩|⟨rfl,z⟩)
   ·gi_wp2
    go_roundw
    case rel=>exact⟨k+1,m,pre++ [x],by have:=X.o;omega,rfl,by rw[c.o,fI,f.o,kT,List.map_nil,d.o],B,C.o.trans E⟩
    case measure=>simp[intOf]
   ·gi_wp2
    refine aY (nw rfl _ _ _) rfl ?_;exact⟨⟨_,rfl⟩,.inr ⟨pre++ [x],trivial,z⟩⟩
theorem Iv (F:Fence)(n:Nat)(hf:F.fn 168)(g:F.round=none)(f:1≤n)(a n₀ p b:Nat)(va:Option Addr)(vc:Nat)(L:List Nat)(r:∀m∈L,m≤4611686018427387904)(s:(L.length:Int)≤4611686018427387904)
 (c:a<n₀∧a≠p∧a≠b) (w:World) (hn:n₀≤w.heap.size) (o:w.cell? ⟨a,0,none⟩=some (.slice va L.length vc))
 (d:0<L.length→∃q off,va=some ⟨q,off,none⟩∧(q<n₀∧q≠p∧q≠b)∧∀j m:Nat,L[j]?=some m→w.cell? ⟨q,off+j,none⟩=some (qI m)):
 SeqStopsK F n prog 168 #[.pointer (some ⟨a,0,none⟩)] Nw (fE n₀ p b) (fun ys=>ys.map numOf=L.reverse) (fun _=>True) L.length w:=fun l J k W hW _ _ t h0=>
 Nx F n hf g f l a n₀ p b va vc L r s J k t c W ((hW.cell (p:=⟨a,0,none⟩) (eU c.1 hn)).trans o)
  (fun h=>by
    obtain⟨q,off,e,i,v⟩:=d h;exact⟨q,off,e,i,fun j m u=>(hW.cell (p:=⟨q,off+j,none⟩) (eU i.1 hn)).trans (v j m u)⟩) h0
theorem Ny (w:World)(v:Value)(va:Option Addr)(n c:Nat)(hv:v= .slice va n c):Calls prog 86 #[v] w fun e w'=>e= .returned (.func (.func 168) #[] #[.pointer (some ⟨w.heap.size,0,none⟩)])∧w'=w.alloc (.cells #[v] 135):=by
 subst hv;(go_enter func86,ntmps86);go_wp2;go_ret;exact⟨rfl,rfl⟩
