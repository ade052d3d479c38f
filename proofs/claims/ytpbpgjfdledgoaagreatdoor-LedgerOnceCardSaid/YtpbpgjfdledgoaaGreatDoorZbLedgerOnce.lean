/-
  LedgerOnce, as the statement says it: no conditions.
-/
import Derived.Test.YtpbpgjfdledgoaaGreatDoorZb50
import Derived.Test.YtpbpgjfdledgoaaGreatDoorZb51
import Derived.Test.YtpbpgjfdledgoaaGreatDoorZb52
namespace Go.Proofs.YtpbpgjfdledgoaaGreatDoor.ledgerOnce
open Go.ChangeShapes Go.WideShapes Go.ChangeAt Go.RowKit Go.Joins Go.Deep

set_option maxRecDepth 100000 in
theorem wit (os : Os) (H : Type) (enc : TypeId × Value → H) : ∃ (w : World) (tape : Tape) (i : Input), w.os = os ∧ (w.forCall tape i).Shaped Tryz.checked.prog ∧ i.vars = [] ∧ Input.okWide Tryz.checked.prog (w.forCall tape i) .any w.heap.size 4 i ∧
      (OpenSpec.ofChange Rows.ledgerOnceSpec).preRow enc Tryz.checked.prog Tryz.f4 [] false laidWal (w.forCall tape i).memory i.args ∧ ({} : Assume).holds Tryz.checked.prog (lone (Frame.enter Tryz.checked.prog 4 i.args .normal) [] (w.forCall tape i)) :=
  (wal_witness (x := ([.agg [.lit (.int .i64 0), .lit (.int .i64 0), .lit (.int .i64 0), .lit (.int .i64 0), .lit (.int .i64 0), .lit (.int .i64 0), .lit (.int .i64 0)], .nil], [], [])) #[.agg #[.int .i64 0, .int .i64 0, .int .i64 0, .int .i64 0, .int .i64 0, .int .i64 0, .int .i64 0], .slice none 0 0] (laid_zip os _) (laid_heap os _) (by kernel_rfl) (by kernel_rfl) (by kernel_rfl) (laid_fits os) (laid_ifaces os))
set_option maxRecDepth 100000 in
theorem opened (H : Type) (enc : TypeId × Value → H) (W : World) (base : Nat) (args : Array Value) (ds : List (DataW H)) (p : List MemPlace)
    (hval : ∀ (j : Nat) t v, Tryz.f4.params[j]? = some t → args[j]? = some v → Value.okWide Tryz.prog W .any base t v)
    (hA : DataW.TrodAll enc Tryz.prog W 0 (fun _ => true) true Tryz.f4.params.toList args.toList ds p) (hL : laidMetH Tryz.prog laidWal W) : Calls Tryz.prog 4 args W fun e W' => e = .returned (.bool true) ∧ Keeps No W W' := by
  rw [Tryz.params4] at hA hval
  obtain ⟨v0, v1, d0, d1, p0, p1, rfl, rfl, rfl, h0, h1⟩ := trodAll_two hA
  obtain ⟨z, rfl⟩ := open_zf (hval 0 45 v0 rfl rfl) h0
  obtain ⟨L, hL1, hL2⟩ := open_dus (hval 1 46 v1 rfl rfl) h1
  exact walk W z v1 L hL1 hL2 (laid_of hL)
set_option maxRecDepth 100000 in
theorem lifted (os : Os) (started : os.Started) (H : Type) (enc : TypeId × Value → H) (F : Stop.Interp) :
    ReturnsInHanded {} Tryz.checked os 4 .any ((OpenSpec.ofChange Rows.ledgerOnceSpec).preRow enc Tryz.prog Tryz.f4 Rows.ledgerOnceRow.domain false Rows.ledgerOnceRow.laid) (((OpenSpec.ofChange Rows.ledgerOnceSpec).at F).post enc Tryz.prog Tryz.f4 false true false false) := by
  refine law_laid os started F (by kernel_rfl) Tryz.func4
    (wit os H enc)
    (by decide +kernel) rfl Tryz.underlying4 rfl (fun ds h => by match ds, h with | [d1, d2], _ => rfl) ?_
  exact opened H enc

set_option maxRecDepth 100000 in
theorem j1 : (Rows.ledgerOnceRow.inPlace == Tryz.pinned.checked.prog.inPlace 4) = true := by kernel_rfl
set_option maxRecDepth 100000 in
theorem j2 : (Rows.ledgerOnceRow.unfollowed == Tryz.pinned.checked.prog.unfollowed 4) = true := by kernel_rfl
set_option maxRecDepth 100000 in
theorem j3 : (Rows.ledgerOnceRow.recurses == Tryz.pinned.checked.prog.recurses 4) = true := by kernel_rfl
set_option maxRecDepth 100000 in
theorem j4 : (Rows.ledgerOnceRow.named == Tryz.pinned.checked.prog.varsNamed 4) = true := by kernel_rfl
set_option maxRecDepth 100000 in
theorem j5 : Rows.ledgerOnceRow.wf (OpenSpec.ofChange (OpenSpec.ofChange Rows.ledgerOnceSpec).bare) = true := by kernel_rfl
set_option maxRecDepth 100000 in
theorem j6 : (Rows.ledgerOnceRow.plainKeys == Tryz.pinned.checked.prog.plainKeys) = true := by kernel_rfl
set_option maxRecDepth 100000 in
theorem closed : joinedFacts Tryz.pinned.checked.prog 4 Tryz.f4 (OpenSpec.ofChange Rows.ledgerOnceSpec).bare Rows.ledgerOnceRow = true := by
  unfold joinedFacts
  rw [j1, j2, j3, j4, j5, j6, cl_laid, cl_maps, cl_heard]
  kernel_rfl
set_option maxRecDepth 100000 in
theorem named : Tryz.pinned.checked.prog.funcNamed Rows.ledgerOnceRow.func = some 4 := by kernel_rfl
theorem said : Rows.LedgerOnceSaid :=
  OpenClaim.holds_of_cond 4 Tryz.f4 rfl rfl rfl rfl rfl rfl rfl ⟨rfl, rfl, rfl, rfl, rfl⟩ rfl rfl rfl rfl rfl named Tryz.func4 closed
    (of_decide_eq_true (by kernel_rfl)) (by unfold Func.isWrapper; first | (rw [if_pos (by decide +kernel)]; kernel_rfl) | (rw [if_neg (by decide +kernel)]; exact ⟨rfl, rfl⟩))
    (fun os started H enc _ F => by rw [OpenClaim.pre_eq_preRow]; exact lifted os started H enc F)
theorem plain (f : FuncId) (fn : Func) (hf : Tryz.pinned.checked.prog.funcNamed "hedgerow/hedgerowlaw20.LedgerOnce" = some f) (hfn : Tryz.pinned.checked.prog.funcs[f]? = some fn) :
    true = Tryz.pinned.checked.prog.looks [] ∧ ∀ (j : Nat) t, fn.params[j]? = some t → Tryz.pinned.checked.prog.wantsStandIn t = false := by
  obtain rfl : f = 4 := Option.some.inj ((show Tryz.prog.funcNamed "hedgerow/hedgerowlaw20.LedgerOnce" = some 4 by kernel_rfl).symm.trans hf) |>.symm
  obtain rfl : fn = Tryz.f4 := (Option.some.inj (Tryz.func4.symm.trans hfn)).symm
  refine ⟨by kernel_rfl, fun j t ht => ?_⟩
  rw [Tryz.params4] at ht
  have hm : t ∈ [45, 46] := by simpa using Array.mem_of_getElem? ht
  have hall : ([45, 46].all fun u => !Tryz.prog.wantsStandIn u) = true := by kernel_rfl
  exact (show Tryz.prog.wantsStandIn t = false by simpa using List.all_eq_true.1 hall t hm)
theorem card : Rows.LedgerOnceCardSaid :=
  Claim7.holds_tied_plain_at .later [] _ _ _ _ said (fun _ h => by cases h) (by kernel_rfl) (fun _ h => by cases h) ledgerOnce_row_tie rfl ⟨rfl, rfl⟩ (by kernel_rfl) rfl plain (by kernel_rfl)
end Go.Proofs.YtpbpgjfdledgoaaGreatDoor.ledgerOnce
