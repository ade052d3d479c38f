/- Lemmas. -/
import Derived.Test.YtpbpgjfdledgoaaGreatDoorZo51
set_option linter.all false
set_option maxRecDepth 100000
set_option maxHeartbeats 8000000
namespace Go.Proofs.YtpbpgjfdledgoaaGreatDoor
open Go.Proofs.Tryz
open Go.ChangeShapes Go.WideShapes Go.ChangeAt Go.RowKit Go.Joins Go.Deep
structure Du where
 k:Int
 n:Int
 c:Cm
 a:Option Addr
 p:Nat
 ids:List cO
section
variable {H:Type}{enc:TypeId×Value→H}{w:World}{base:Nat}{spare:Nat→Bool}{held:Bool}{n:Nat}{cs:List Value}{x:DataW H×List MemPlace}
theorem VA:prog.cellsOf 28=1:=by kernel_rfl
theorem Dt {α:Type}(C:dX α)(a0:α)(P:α→Prop){t e:TypeId}(A:prog.underlying t=some (.slice e))(hC:prog.cellsOf e=C.size)
 (d:∀ {n:Nat}{cs:List Value}{x:DataW H×List MemPlace},DataW.trod enc prog w base spare held n e cs=some x→∃a,cs=C.cells a∧P a)
 (h:DataW.trod enc prog w base spare held n t cs=some x):∃(v:Value) (l:List α),cs= [v]∧aW C w v l∧∀a∈l,P a:=by
 rcases open_slice A h with⟨rfl,_⟩|⟨a,len,cap,m,n',D,Pl,rfl,_,hl,hm,o,_,B⟩
 ·exact⟨_,[],rfl,Reads.nil _ _,fun a h=>by cases h⟩
 ·have z:len≤m:=by rw[o];split<;>omega
  have hp:∀i,i<len→∃p:α,w.cells? base (a.add (i*C.size)) C.size=some (C.cells p)∧P p:=by
   intro i hi;obtain⟨cs',b,q⟩:=B i (by omega);rw[hC]at b;obtain⟨p,rfl,y⟩:=d q;exact⟨p,b,y⟩
  obtain⟨g,r⟩:= @choose_lt α ⟨a0⟩ len _ hp;refine⟨_,(List.range len).map g,rfl,?_,fun p hp=>?_⟩
  ·have hlen:((List.range len).map g).length=len:=(by simp);have:=QH C (w:=w) (a:=a) (c:=cap) (l:=(List.range len).map g) (by omega) hm (fun i hi j u hu=>by
    have f:i<len:=(by simpa using hi);have b:=(r i f).1;obtain⟨_,q,s⟩:=World.cells?_some b;simp only[List.getElem_map,List.getElem_range]at hu;have k:j<C.size:=(by have:=(eC.1 hu).1;rw[C.len]at this;exact this);have:=s j k
    rwa [add_add,hu]at this)
   rwa [hlen]at this
  ·obtain⟨i,hi,rfl⟩:=jq.1 hp;exact(r i (by simpa using hi)).2
theorem RG (h:DataW.trod enc prog w base spare held n 28 cs=some x):∃(a:Option Addr) (p:Nat) (l:List cO),cs= [.slice a l.length p]∧aW bN w (.slice a l.length p) l:=by
 obtain⟨v,l,rfl,b,_⟩:=Dt bN cO.zero (fun _=>True) underlying28 Vb (fun h=>by obtain⟨a,d,_⟩:=EV h;exact⟨a,d,trivial⟩) h;obtain⟨a,c,rfl⟩:=b.slice;exact⟨a,c,l,rfl,b⟩
end
