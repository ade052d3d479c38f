/- Lemmas. -/
import Derived.Test.YtpbpgjfdledgoaaGreatDoorZo14
import Derived.Test.YtpbpgjfdledgoaaGreatDoorCards
import Derived.Test.YtpbpgjfdledgoaaGreatDoorTie
import Derived.Deep.DeepHandedRow
import Derived.LaidMore
import Derived.Lay
set_option linter.all false
set_option maxRecDepth 100000
set_option maxHeartbeats 8000000
namespace Go.Proofs.YtpbpgjfdledgoaaGreatDoor
open Go.Proofs.Tryz
open Go.ChangeShapes Go.WideShapes Go.ChangeAt Go.RowKit
section
variable {H:Type}{enc:TypeId×Value→H}
theorem DW {C:Checked}{os:Os}{f:FuncId}{fn:Func}{s:OpenSpec}{conds:List PathCond}{apart:Bool}{laid:List (String×DataW Unit)}(modest:Bool)(w0:World)(args:Array Value)(c:w0.os=os)
 (d:(w0.forCall (fun _ _=>0) ⟨#[],args,[]⟩).Shaped C.prog)
 (a:Input.okWideB C.prog (w0.forCall (fun _ _=>0) ⟨#[],args,[]⟩) f ⟨#[],args,[]⟩=true)
 (b:s.preRow enc C.prog fn conds apart laid (w0.forCall (fun _ _=>0) ⟨#[],args,[]⟩).memory args):
 ∃(w:World) (tape:Tape) (i:Input),w.os=os∧(w.forCall tape i).Shaped C.prog∧i.vars= []∧Input.okWide C.prog (w.forCall tape i) .any w.heap.size f i∧
  s.preRow enc C.prog fn conds apart laid (w.forCall tape i).memory i.args∧({ modest:=modest } :Assume).holds C.prog (lone (Frame.enter C.prog f i.args .normal) [] (w.forCall tape i)):=
 ⟨w0,fun _ _=>0,⟨#[],args,[]⟩,c,d,(Input.okWide_of_okWideB (base:=0) a).1,(Input.okWide_of_okWideB a).2,b,by
   simp only[Assume.holds];exact⟨by simp,by simp,fun _=>Modest.zero,by simp,by simp⟩⟩
theorem NF {f:FuncId}{fn:Func}{s:ChangeSpec}{tb:TypeId}{laid:List (String×DataW Unit)}(os:Os)(started:os.Started)(F:Stop.Interp)
 (a:prog.inits.idxOf? f=none) (n:prog.funcs[f]?=some fn)
 (witness:∃(w:World) (tape:Tape) (i:Input),w.os=os∧(w.forCall tape i).Shaped Tryz.checked.prog∧i.vars= []∧Input.okWide Tryz.checked.prog (w.forCall tape i) .any w.heap.size f i∧
   (OpenSpec.ofChange s).preRow enc Tryz.checked.prog fn [] false laid (w.forCall tape i).memory i.args∧({} :Assume).holds Tryz.checked.prog (lone (Frame.enter Tryz.checked.prog f i.args .normal) [] (w.forCall tape i)))
 (c:∀t∈fn.params.toList,prog.readableRec t=true∧t<prog.types.size) (l:fn.resultTypes=#[tb]) (b:prog.underlying tb=some .bool)
 (g:s.vars= []) (hs:∀ds:List (DataW H),ds.length=fn.params.size→s.fn H ds= { results:= [.lit (.bool true)],args:=ds })
 (walk:∀(W:World) (base:Nat) (args:Array Value) (ds:List (DataW H)) (p:List MemPlace),
   (∀(j:Nat) t v,fn.params[j]?=some t→args[j]?=some v→Value.okWide prog W .any base t v)→
   DataW.TrodAll enc prog W 0 (fun _=>true) true fn.params.toList args.toList ds p→laidMetH prog laid W→
   Calls prog f args W fun e W'=>e= .returned (.bool true)∧ah No W W'):
 ReturnsInHanded {} Tryz.checked os f .any ((OpenSpec.ofChange s).preRow enc prog fn [] false laid) (((OpenSpec.ofChange s).at F).post enc prog fn false true false false):=by
 refine returnsInHanded_of_row (C:=Tryz.checked) (s:=OpenSpec.ofChange s) Tryz.own started a n witness ?_;intro W base args ds gs before hval hW _ _ _ r _ _;have m:DataW.Whole enc prog fn.params.toList s.vars false W args.toList ds gs before:=hW;obtain⟨p,q,hA,hV,_,_,_⟩:=hW;have k:DataW.TrodAll enc prog W 0 (fun _=>true) true fn.params.toList args.toList ds p:=hA;have hlen:∀(ts:List TypeId) (vs:List Value) (ds:List (DataW H)) (p:List MemPlace),DataW.TrodAll enc prog W 0 (fun _=>true) true ts vs ds p→ds.length=ts.length:=by
  intro ts;induction ts with
  |nil=>intro vs ds p h;cases vs<;>cases ds<;>simp_all [DataW.TrodAll]
  |cons t ts ih=>
   intro vs ds p h;cases vs with
   |nil=>cases ds<;>simp[DataW.TrodAll]at h
   |cons v vs=>
    cases ds with
    |nil=>simp[DataW.TrodAll]at h
    |cons d ds=>
     obtain⟨_,q,_,o,_⟩:=h;simp[ih _ _ _ o]
 refine(walk W base args ds p hval k r).mono fun e W' ⟨he,u⟩=>?_;exact⟨_,he,ND Tryz.laidOut c l b g (hs ds (by rw[hlen _ _ _ _ k];simp)) m u.below⟩
end
