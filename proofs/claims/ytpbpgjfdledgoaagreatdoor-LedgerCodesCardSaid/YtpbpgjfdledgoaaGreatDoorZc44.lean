/-
  Texts in one: WaO, LhG. No conditions of their own.
-/
import Derived.Test.YtpbpgjfdledgoaaGreatDoorZc25
import Derived.Test.YtpbpgjfdledgoaaGreatDoorZc43
import Derived.SliceStrings
import Derived.Stop.LaidErr

/-
  What a row's list gives, and texts that come in. No conditions of its own.
-/
namespace Go.Proofs.YtpbpgjfdledgoaaGreatDoor
open Go.ChangeShapes Go.WideShapes Go.ChangeAt Go.RowKit Go.Joins Go.Deep

theorem gNib : Tryz.prog.globalNamed "hedgerow/frame.nibble" = some 0 := by kernel_rfl
theorem gPow : Tryz.prog.globalNamed "internal/strconv.uint64pow10" = some 5 := by kernel_rfl
abbrev laidWal : List (String × DataW Unit) := Rows.ledgerNoneRow.laid
theorem laid_of {W : World} (h : laidMetH Tryz.prog laidWal W) : Laid W W.heap.size := by
  rw [MakeChecks.laidMetH_plain _ _ _ (by kernel_rfl)] at h
  have hn : Lib.TabIs Tryz.prog W "hedgerow/frame.nibble" .u32 (nibL.map fun n : Nat => (n : Int)) :=
    Lib.tabIs_of_head gNib (by kernel_rfl : (Tryz.prog.globals[0]?).map (·.type) = some 347) Tryz.underlying347 Tryz.underlying301 (by kernel_rfl) (by kernel_rfl) h
  have hp : Lib.TabIs Tryz.prog W "internal/strconv.uint64pow10" .u64 Lib.pow10Tab :=
    Lib.tabIs_of_head gPow (by kernel_rfl : (Tryz.prog.globals[5]?).map (·.type) = some 384) Tryz.underlying384 Tryz.underlying263 (by kernel_rfl) (by kernel_rfl) h.tail.tail.tail
  have hc : ∀ i, i < 16 → W.cell? ⟨0, i, none⟩ = some (.int .u32 (nib i)) := by
    intro i hi
    have := hn.cell gNib i (by simpa [nibL] using hi)
    rw [this]
    congr 2
    have hall : ∀ j : Fin 16, (nibL.map fun n : Nat => (n : Int)).getD j.1 0 = ((nib j.1 : Nat) : Int) := by decide
    exact hall ⟨i, hi⟩
  exact ⟨hc, hp, block_lt_of_cell (hc 0 (by decide)), block_lt_of_cell (hp.cell gPow 0 (by decide))⟩

/-- A WORLD FOR THE WITNESS. -/
theorem wal_witness {H : Type} {enc : TypeId × Value → H} {os : Os} {f : FuncId} {fn : Func} {s : ChangeSpec} {x : List (DataW H) × List (DataW H) × List MemPlace} (args : Array Value)
    (hsh : ((World.laidAll Tryz.prog os laidWal).forCall (fun _ _ => 0) ⟨#[], args, []⟩).variablesZipB Tryz.prog = true)
    (hr : (((World.laidAll Tryz.prog os laidWal).forCall (fun _ _ => 0) ⟨#[], args, []⟩).heap.toList.drop Tryz.prog.globals.size).take ((begin Tryz.prog (fun _ _ => 0) default).world.heap.size - Tryz.prog.globals.size) = (begin Tryz.prog (fun _ _ => 0) default).world.heap.toList.drop Tryz.prog.globals.size)
    (hok : Input.okWideB Tryz.prog ((World.laidAll Tryz.prog os laidWal).forCall (fun _ _ => 0) ⟨#[], args, []⟩) f ⟨#[], args, []⟩ = true)
    (hx : DataW.whole enc Tryz.prog ((World.laidAll Tryz.prog os laidWal).forCall (fun _ _ => 0) ⟨#[], args, []⟩).memory fn.params.toList s.vars false args.toList 8 = some x)
    (hsz : (OpenSpec.ofChange s).bare.sizedB enc Tryz.prog fn false ((World.laidAll Tryz.prog os laidWal).forCall (fun _ _ => 0) ⟨#[], args, []⟩).memory args 8 = true)
    (hf : (World.holding Tryz.prog os ⟨#[], #[], []⟩).layFits Tryz.prog laidWal [] = true)
    (hi : (World.holding Tryz.prog os ⟨#[], #[], []⟩).layIfaces Tryz.prog laidWal (World.laidAll Tryz.prog os laidWal) = true) :
    ∃ (w : World) (tape : Tape) (i : Input), w.os = os ∧ (w.forCall tape i).Shaped Tryz.checked.prog ∧ i.vars = [] ∧ Input.okWide Tryz.checked.prog (w.forCall tape i) .any w.heap.size f i ∧
      (OpenSpec.ofChange s).preRow enc Tryz.checked.prog fn [] false laidWal (w.forCall tape i).memory i.args ∧ ({} : Assume).holds Tryz.checked.prog (lone (Frame.enter Tryz.checked.prog f i.args .normal) [] (w.forCall tape i)) :=
  witness_laid (C := Tryz.checked) false (World.laidAll Tryz.prog os laidWal) args (World.laidAll_os _ _ _) (World.shaped_of_ZipB hsh hr) hok
    (OpenSpec.preRow_of_cond 8 hx (by simp) (fun k hk => by cases hk) hsz (by rw [MakeChecks.laidMetH_plain _ _ _ (by kernel_rfl)]; exact laidMet_laidAll _ hf hi))
end Go.Proofs.YtpbpgjfdledgoaaGreatDoor

/-
  The world of a ledger law's witness: what the row's list lays (one fact each: together they are too much for the kernel). No conditions of their own.
-/
namespace Go.Proofs.YtpbpgjfdledgoaaGreatDoor
open Go.ChangeShapes Go.WideShapes Go.ChangeAt Go.RowKit Go.Joins Go.Deep

set_option maxRecDepth 100000
theorem laid_zip (os : Os) (args : Array Value) : ((World.laidAll Tryz.prog os laidWal).forCall (fun _ _ => 0) ⟨#[], args, []⟩).variablesZipB Tryz.prog = true := by kernel_rfl
theorem laid_heap (os : Os) (args : Array Value) : (((World.laidAll Tryz.prog os laidWal).forCall (fun _ _ => 0) ⟨#[], args, []⟩).heap.toList.drop Tryz.prog.globals.size).take ((begin Tryz.prog (fun _ _ => 0) default).world.heap.size - Tryz.prog.globals.size) = (begin Tryz.prog (fun _ _ => 0) default).world.heap.toList.drop Tryz.prog.globals.size := by kernel_rfl
theorem laid_fits (os : Os) : (World.holding Tryz.prog os ⟨#[], #[], []⟩).layFits Tryz.prog laidWal [] = true := by kernel_rfl
theorem laid_ifaces (os : Os) : (World.holding Tryz.prog os ⟨#[], #[], []⟩).layIfaces Tryz.prog laidWal (World.laidAll Tryz.prog os laidWal) = true := by kernel_rfl
end Go.Proofs.YtpbpgjfdledgoaaGreatDoor

