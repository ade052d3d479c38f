/- Lemmas. -/
import Derived.Test.YtpbpgjfdledgoaaGreatDoorZo19
import Derived.Laws.CopyOwn
import Derived.Lib.AppendZerosOnto
import Derived.Lib.Overlaps
set_option linter.all false
set_option maxRecDepth 100000
set_option maxHeartbeats 8000000
open List renaming length_append→ic,length_take→yC
namespace Go.Proofs.YtpbpgjfdledgoaaGreatDoor
open Go.RowKit
theorem Cu {P:Program}(w:World)(l q ty elem:TypeId)(i:TypeInfo)(size:Nat)(g o b d:Nat)(a:Addr)(c h:Nat)(cur:Array Value)(t:TypeId)(cs:List Value)
 (hu:P.underlying l=some (.slice elem)) (hi:P.info? elem=some i) (hs:i.size=size)
 (p:w.heap[g]?=some (.cells cur t (0,0))) (m:Nat) (hm:m=Nat.min c b) (hn:cs.length=m*size)
 (f:∀j v,cs[j]?=some v→w.cell? (a.add j)=some v) (e:o+cs.length≤cur.size) (n:∀v∈cs,v.oneCell'=true):
 (Builtin.copy_ #[l,q] ty #[.slice (some ⟨g,o,none⟩) b d,.slice (some a) c h]).run P w=
   .ok (goInt m) (w.setRow g (Go.splice cur.toList o cs).toArray):=by
 have hl:=run_loadCells_list (P:=P) w a cs f;have k:=run_storeCells_at P g o t cs 0 cur w p (by simpa using e) n;rw[hn]at hl;unfold Go.splice;simp[Builtin.copy_,run_underlying hu,Builtin.lenOf,Builtin.firstCells,sizeOf,typeInfo,hi,hs, ←hm,hl,k]
theorem EJ {P:Program}{w:World}{o:Oper}{a:Act}{K:Act→World→Prop}{Q:Exit→Act→World→Prop}(d s:Operand)(u z:TypeId)
 (B:o.op= .call { callee:= .builtin .copy,args:=#[d,s],argTypes:=#[u,z] }) (elem:TypeId) (i:TypeInfo) (size:Nat) (hu:P.underlying u=some (.slice elem)) (hi:P.info? elem=some i) (hs:i.size=size)
 (g off k b e:Nat) (r:Addr) (c f:Nat) (hd:a.eval d= .slice (some ⟨g,off,none⟩) b e) (x:a.eval s= .slice (some r) c f) (n:off=k)
 (cur:List Value) (t:TypeId) (y:w.heap[g]?=some (.cells cur.toArray t (0,0))) (m:Nat) (hm:m=Nat.min c b) (cs:List Value) (hn:cs.length=m*size)
 (q:∀j v,cs[j]?=some v→w.cell? (r.add j)=some v) (l:k+cs.length≤cur.length) (A:∀v∈cs,v.oneCell'=true)
 (h:∀w',aj (w'.heap[g]?=some (.cells (Go.splice cur k cs).toArray t (0,0)))→aj (ah (Own g) w w')→K (a.put o.dst (goInt m)) w'):o.wp P a w K Q:=by
 subst n;have p:=Cu (P:=P) w u z o.type elem i size g off b e r c f cur.toArray t cs hu hi hs y m hm hn q (by simpa using l) A;unfold Oper.wp;simp[execOp,B,resolve,invoke,builtin,hd,x,p,Result.andThen];exact h _ (show _=_ from kX w g _ _ t _ y) (show ah _ _ _ from ah.setRow (S:=Own g) (aA w) (fun _=>rfl) _)
theorem pK {P:Program}{w:World}{ops:Array Oper}{rest:List Oper}{o:Oper}{a:Act}{Q:Exit→Act→World→Prop}(u:o.guard=none)(d s:Operand)(r y:TypeId)
 (D:o.op= .call { callee:= .builtin .copy,args:=#[d,s],argTypes:=#[r,y] }) (elem:TypeId) (i:TypeInfo) (size:Nat) (hu:P.underlying r=some (.slice elem)) (hi:P.info? elem=some i) (hs:i.size=size)
 (g off e b f:Nat) (q:Addr) (c k:Nat) (hd:a.eval d= .slice (some ⟨g,off,none⟩) b f) (x:a.eval s= .slice (some q) c k) (n:off=e)
 (cur:List Value) (t:TypeId) (C:w.heap[g]?=some (.cells cur.toArray t (0,0))) (m:Nat) (hm:m=Nat.min c b) (cs:List Value) (hn:cs.length=m*size)
 (p:∀j v,cs[j]?=some v→w.cell? (q.add j)=some v) (l:e+cs.length≤cur.length) (z:∀v∈cs,v.oneCell'=true)
 (h:∀w',aj (w'.heap[g]?=some (.cells (Go.splice cur e cs).toArray t (0,0)))→aj (ah (Own g) w w')→wpList P ops Q rest (a.put o.dst (goInt m)) w'):wpList P ops Q (o::rest) a w:=
 wpList_plain u fun _ hK=>EJ d s r y D elem i size hu hi hs g off e b f q c k hd x n cur t C m hm cs hn p l z fun w' A B=>hK _ _ (h w' A B)
theorem PK (X B D:List Value)(p q:Nat)(a:B.length=q)(b:p+q+D.length≤X.length):(Go.splice (Go.splice X p B) (p+q) D).take (p+q+D.length)=X.take p++(B++D):=by
 unfold Go.splice;have e1:X.take p++(B++X.drop (p+B.length))=(X.take p++B)++X.drop (p+q):=(by rw[a];simp);have hl:(X.take p++B).length=p+q:=(by simp only[ic,yC,a];omega);rw[e1,nX hl,eY (X.take p), ←eY, ←eY];rw[nX (by simp only[ic,yC,a];omega)];simp
