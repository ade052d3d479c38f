/- Lemmas. -/
import Derived.Test.YtpbpgjfdledgoaaGreatDoorZo01
import Derived.Test.YtpbpgjfdledgoaaGreatDoorRows
import Derived.Lib.SmallJoins
set_option linter.all false
set_option maxRecDepth 100000
set_option maxHeartbeats 8000000
namespace Go.Proofs.YtpbpgjfdledgoaaGreatDoor
open Go.Proofs.Tryz
open Go.ChangeShapes Go.WideShapes Go.ChangeAt Go.RowKit
theorem tC {H:Type}{enc:TypeId×Value→H}{P:Program}(hl:laidOutB P=true){W W':World}(hb:Below W.heap.size W W'):
 ∀(ts:List TypeId)(vs:List Value)(ds:List (DataW H))(ps:List MemPlace),(∀t∈ts,P.readableRec t=true∧t<P.types.size)→
  DataW.TrodAll enc P W 0 (fun _=>true) true ts vs ds ps→(∀x∈ps,x.block<W.heap.size)→DataW.TrodAll enc P W' 0 (fun b=>decide (b<W.heap.size)) true ts vs ds ps
 | [],[],[],_,_,h,_=>h
 |t::ts,v::vs,d::ds,ps,a,h,hp=>by
  obtain⟨p,q,e,f,rfl⟩:=h;exact⟨p,q,Below.trod hl (a t (by simp)).1 (a t (by simp)).2 e hb (fun x c=>hp x (by simp[c])),tC hl hb ts vs ds q (fun t g=>a t (by simp[g])) f (fun x c=>hp x (by simp[c])),rfl⟩
theorem ND {H:Type}{enc:TypeId×Value→H}{P:Program}{f:Func}{s:ChangeSpec}{W W':World}{args:Array Value}{ds gs:List (DataW H)}{before:List MemPlace}{tb:TypeId}
 (hl:laidOutB P=true) (c:∀t∈f.params.toList,P.readableRec t=true∧t<P.types.size) (e:f.resultTypes=#[tb]) (b:P.underlying tb=some .bool)
 (a:s.vars= []) (hs:s.fn H ds= { results:= [.lit (.bool true)],args:=ds })
 (hW:DataW.Whole enc P f.params.toList s.vars false W args.toList ds gs before) (hb:Below W.heap.size W W'):
 s.post enc P f false true false false W args (.bool true) W':=by
 have d:=hW;obtain⟨p,q,hA,hV,rfl,_,_⟩:=hW;rw[a]at hV;obtain⟨rfl,rfl⟩:=trodVars_none hV;have g:∀x∈p,x.block<W.heap.size:=fun x i=>d.lt x (by simp[i]);refine⟨ds,[],p++ [],[],p,[],d,?_,?_,?_,hb.frame _,fun h=>by cases h⟩
 ·rw[kE,hs,e];exact trodAll_mk1 (shut_bool b true)
 ·rw[kE,hs];exact tC hl hb _ _ _ _ c hA g
 ·rw[kE,hs,a];rfl
theorem Tryz.own:ownKnob prog.godebug=none:=by kernel_rfl
theorem Tryz.laidOut:laidOutB prog=true:=by kernel_rfl
