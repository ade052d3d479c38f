/-
  LedgerOdd, as the statement says it: no conditions.
-/
import Derived.Test.YtpbpgjfdledgoaaGreatDoorZo53
set_option linter.all false
set_option maxRecDepth 100000
set_option maxHeartbeats 8000000
namespace Go.Proofs.YtpbpgjfdledgoaaGreatDoor.ledgerOdd
open Go.Proofs.Tryz
open Go.ChangeShapes Go.WideShapes Go.ChangeAt Go.RowKit Go.Joins Go.Deep
theorem VO (os:Os)(H:Type)(enc:TypeId×Value→H):∃(w:World) (tape:Tape) (i:Input),w.os=os∧(w.forCall tape i).Shaped Tryz.checked.prog∧i.vars= []∧Input.okWide Tryz.checked.prog (w.forCall tape i) .any w.heap.size 5 i∧
 (OpenSpec.ofChange Rows.ledgerOddSpec).preRow enc Tryz.checked.prog Tryz.f5 [] false gD (w.forCall tape i).memory i.args∧({} :Assume).holds Tryz.checked.prog (lone (Frame.enter Tryz.checked.prog 5 i.args .normal) [] (w.forCall tape i)):=
 (FI (x:=([.nil,.lit (.string [])],[],[])) #[.slice none 0 0,.string ⟨#[]⟩] (NR os _) (Lz os _) (by kernel_rfl) (by kernel_rfl) (by kernel_rfl) (LA os) (FV os))
theorem opened (H:Type)(enc:TypeId×Value→H)(W:World)(base:Nat)(args:Array Value)(ds:List (DataW H))(p:List MemPlace)
 (hval:∀(j:Nat) t v,Tryz.f5.params[j]?=some t→args[j]?=some v→Value.okWide prog W .any base t v)
 (hA:DataW.TrodAll enc prog W 0 (fun _=>true) true Tryz.f5.params.toList args.toList ds p) (d:laidMetH prog gD W):Calls prog 5 args W fun e W'=>e= .returned (.bool true)∧ah No W W':=by
 rw[params5]at hA hval;obtain⟨v0,v1,d0,d1,p0,f,rfl,rfl,rfl,h0,c⟩:=trodAll_two hA;obtain⟨L,a,b⟩:=MZ (hval 0 65 v0 rfl rfl) h0;obtain⟨s,rfl,rfl,rfl,_⟩:=Go.ChangeMaps.open_string underlying9 (hval 1 9 v1 rfl rfl) c;exact walk W v0 L s a b (QA d)
theorem lifted (os:Os)(started:os.Started)(H:Type)(enc:TypeId×Value→H)(F:Stop.Interp):
 ReturnsInHanded {} Tryz.checked os 5 .any ((OpenSpec.ofChange Rows.ledgerOddSpec).preRow enc prog Tryz.f5 Rows.ledgerOddRow.domain false Rows.ledgerOddRow.laid) (((OpenSpec.ofChange Rows.ledgerOddSpec).at F).post enc prog Tryz.f5 false true false false):=by
 refine NF os started F (by kernel_rfl) func5
  (VO os H enc)
  (by decide+kernel) rfl underlying4 rfl (fun ds h=>by match ds,h with| [d1,d2],_=>rfl) ?_
 exact opened H enc
theorem j1:(Rows.ledgerOddRow.inPlace==Tryz.pinned.checked.prog.inPlace 5)=true:=by kernel_rfl
theorem j2:(Rows.ledgerOddRow.unfollowed==Tryz.pinned.checked.prog.unfollowed 5)=true:=by kernel_rfl
theorem j3:(Rows.ledgerOddRow.recurses==Tryz.pinned.checked.prog.recurses 5)=true:=by kernel_rfl
theorem j4:(Rows.ledgerOddRow.named==Tryz.pinned.checked.prog.varsNamed 5)=true:=by kernel_rfl
theorem j5:Rows.ledgerOddRow.wf (OpenSpec.ofChange (OpenSpec.ofChange Rows.ledgerOddSpec).bare)=true:=by kernel_rfl
theorem j6:(Rows.ledgerOddRow.plainKeys==Tryz.pinned.checked.prog.plainKeys)=true:=by kernel_rfl
theorem closed:joinedFacts Tryz.pinned.checked.prog 5 Tryz.f5 (OpenSpec.ofChange Rows.ledgerOddSpec).bare Rows.ledgerOddRow=true:=by
 unfold joinedFacts;rw[j1,j2,j3,j4,j5,j6,QE,QF,NS]
 kernel_rfl
theorem named:Tryz.pinned.checked.prog.funcNamed Rows.ledgerOddRow.func=some 5:=by kernel_rfl
theorem said:Rows.LedgerOddSaid:=
 OpenClaim.holds_of_cond 5 Tryz.f5 rfl rfl rfl rfl rfl rfl rfl ⟨rfl,rfl,rfl,rfl,rfl⟩ rfl rfl rfl rfl rfl named func5 closed
  (wY (by kernel_rfl)) (by unfold Func.isWrapper;first|(rw[dM (by decide+kernel)];kernel_rfl)|(rw[fC (by decide+kernel)];exact⟨rfl,rfl⟩))
  (fun os started H enc _ F=>by rw[OpenClaim.pre_eq_preRow];exact lifted os started H enc F)
theorem plain (f:FuncId)(fn:Func)(hf:Tryz.pinned.checked.prog.funcNamed "hedgerow/hedgerowlaw20.LedgerOdd" =some f)(b:Tryz.pinned.checked.prog.funcs[f]?=some fn):
 true=Tryz.pinned.checked.prog.looks []∧∀(j:Nat) t,fn.params[j]?=some t→Tryz.pinned.checked.prog.wantsStandIn t=false:=by
 obtain rfl:f=5:=nj ((show prog.funcNamed "hedgerow/hedgerowlaw20.LedgerOdd" =some 5 by kernel_rfl).symm.trans hf) |>.symm;obtain rfl:fn=Tryz.f5:=(nj (func5.symm.trans b)).symm;refine⟨by kernel_rfl,fun j t c=>?_⟩;rw[params5]at c;have hm:t∈ [65,9]:=(by simpa using Array.mem_of_getElem? c);have a:([65,9].all fun u=>!Tryz.prog.wantsStandIn u)=true:=(by kernel_rfl);exact(show prog.wantsStandIn t=false by simpa using qD.1 a t hm)
theorem card:Rows.LedgerOddCardSaid:=
 Claim7.holds_tied_plain_at .later [] _ _ _ _ said (fun _ h=>by cases h) (by kernel_rfl) (fun _ h=>by cases h) ledgerOdd_row_tie rfl ⟨rfl,rfl⟩ (by kernel_rfl) rfl plain (by kernel_rfl)
