/-
  No cell of these rows narrows 'for every input' (looked for: loops, veiled, ifaces, maps, wideKeys, modest, calm, conditions, laid).
  DERIVED. THE GIVEN ROWS OF THIS SEAT. 6 by the template 'for every input the law returns true; each argument reads behind the call as it read before'; 0 by the template 'total and deterministic' (their statements: YtggaeihinheojaaTotals.lean).
  GIVEN WITH THE SEED: the statements are not yours to turn. If you find one false, say at which input.
  Laid BY PROGRAM, IN A SANDBOX (cutbox-rows.mjs): the forced cells as the released guide's own fill.sh prints them over the translation 51f7bd4369c74ecf… (all of the seat's roots in one cut). By AI agents, Wed Nov 11 2026. No macro, syntax, notation, axiom, sorry.
-/
import Derived.Test.YtggaeihinheojaaChecked
import GoSem.Claim
import GoSem.ClaimJoined
import GoSem.ClaimMapViews
import Derived.JoinedTies
import Derived.KernelRfl
namespace Go.Proofs.Ytggaeihinheojaa
/- THE CELL 'sum', in the pinned program and in every row, IS THE sha256 OF THE DUMP (.gsa) THAT YtggaeihinheojaaProg.lean LOADS. Nothing in Lean hashes anything: it is a label: what it is worth is what the hold of that sum in a sandbox is worth. -/
noncomputable def Try.pinned : Pinned := { name := "ytggaeihinheojaa", sum := "51f7bd4369c74ecfee81ad66d896648163c380e66ecdf8d42a7869ab71176dff", checked := Try.checked }
namespace Rows
def none {H : Type} : Left H := { results := [], args := [] }

/-- 'hedgerowlaw21.HandoffHears': WHATEVER THE INPUT: true; the input reads as it did. -/
def handoffHearsSpec : ChangeSpec := { name := "handoffHears", fn := fun _ => fun
  | [d1, d2, d3] => { results := [.lit (.bool true)], args := [d1, d2, d3] }
  | _ => none }
def handoffHearsRow : OpenClaim := { program := "ytggaeihinheojaa", sum := "51f7bd4369c74ecfee81ad66d896648163c380e66ecdf8d42a7869ab71176dff", func := "hedgerow/hedgerowlaw21.HandoffHears", spec := "handoffHears", inPlace := ["slices.overlaps[hedgerow/api.Bundle]"], unfollowed := true, recurses := true, apart := false }
def HandoffHearsSaid : Prop := handoffHearsRow.holds Try.pinned (OpenSpec.ofChange handoffHearsSpec)

/-- ITS FALSE NEIGHBOUR: 'it returns false'. Refute it at one input. -/
def handoffHearsWrong : ChangeSpec := { name := "handoffHears", fn := fun _ => fun
  | [d1, d2, d3] => { results := [.lit (.bool false)], args := [d1, d2, d3] }
  | _ => none }
def HandoffHearsWrongFalsely : Prop := handoffHearsRow.holds Try.pinned (OpenSpec.ofChange handoffHearsWrong)

/-- 'hedgerowlaw21.HandoffTwice': WHATEVER THE INPUT: true; the input reads as it did. -/
def handoffTwiceSpec : ChangeSpec := { name := "handoffTwice", fn := fun _ => fun
  | [d1, d2, d3] => { results := [.lit (.bool true)], args := [d1, d2, d3] }
  | _ => none }
def handoffTwiceRow : OpenClaim := { program := "ytggaeihinheojaa", sum := "51f7bd4369c74ecfee81ad66d896648163c380e66ecdf8d42a7869ab71176dff", func := "hedgerow/hedgerowlaw21.HandoffTwice", spec := "handoffTwice", inPlace := ["slices.overlaps[hedgerow/api.Bundle]"], unfollowed := true, recurses := true, apart := false }
def HandoffTwiceSaid : Prop := handoffTwiceRow.holds Try.pinned (OpenSpec.ofChange handoffTwiceSpec)

/-- ITS FALSE NEIGHBOUR: 'it returns false'. Refute it at one input. -/
def handoffTwiceWrong : ChangeSpec := { name := "handoffTwice", fn := fun _ => fun
  | [d1, d2, d3] => { results := [.lit (.bool false)], args := [d1, d2, d3] }
  | _ => none }
def HandoffTwiceWrongFalsely : Prop := handoffTwiceRow.holds Try.pinned (OpenSpec.ofChange handoffTwiceWrong)

/-- 'hedgerowlaw21.HandoffTells': WHATEVER THE INPUT: true; the input reads as it did. -/
def handoffTellsSpec : ChangeSpec := { name := "handoffTells", fn := fun _ => fun
  | [d1, d2, d3, d4] => { results := [.lit (.bool true)], args := [d1, d2, d3, d4] }
  | _ => none }
def handoffTellsRow : OpenClaim := { program := "ytggaeihinheojaa", sum := "51f7bd4369c74ecfee81ad66d896648163c380e66ecdf8d42a7869ab71176dff", func := "hedgerow/hedgerowlaw21.HandoffTells", spec := "handoffTells", inPlace := ["slices.overlaps[hedgerow/api.Bundle]"], unfollowed := true, recurses := true, apart := false }
def HandoffTellsSaid : Prop := handoffTellsRow.holds Try.pinned (OpenSpec.ofChange handoffTellsSpec)

/-- ITS FALSE NEIGHBOUR: 'it returns false'. Refute it at one input. -/
def handoffTellsWrong : ChangeSpec := { name := "handoffTells", fn := fun _ => fun
  | [d1, d2, d3, d4] => { results := [.lit (.bool false)], args := [d1, d2, d3, d4] }
  | _ => none }
def HandoffTellsWrongFalsely : Prop := handoffTellsRow.holds Try.pinned (OpenSpec.ofChange handoffTellsWrong)

/-- 'hedgerowlaw21.HandoffOnce': WHATEVER THE INPUT: true; the input reads as it did. -/
def handoffOnceSpec : ChangeSpec := { name := "handoffOnce", fn := fun _ => fun
  | [d] => { results := [.lit (.bool true)], args := [d] }
  | _ => none }
def handoffOnceRow : OpenClaim := { program := "ytggaeihinheojaa", sum := "51f7bd4369c74ecfee81ad66d896648163c380e66ecdf8d42a7869ab71176dff", func := "hedgerow/hedgerowlaw21.HandoffOnce", spec := "handoffOnce", inPlace := ["slices.overlaps[hedgerow/api.Bundle]"], unfollowed := true, recurses := true, apart := false }
def HandoffOnceSaid : Prop := handoffOnceRow.holds Try.pinned (OpenSpec.ofChange handoffOnceSpec)

/-- ITS FALSE NEIGHBOUR: 'it returns false'. Refute it at one input. -/
def handoffOnceWrong : ChangeSpec := { name := "handoffOnce", fn := fun _ => fun
  | [d] => { results := [.lit (.bool false)], args := [d] }
  | _ => none }
def HandoffOnceWrongFalsely : Prop := handoffOnceRow.holds Try.pinned (OpenSpec.ofChange handoffOnceWrong)

/-- 'hedgerowlaw21.HandoffEnds': WHATEVER THE INPUT: true; the input reads as it did. -/
def handoffEndsSpec : ChangeSpec := { name := "handoffEnds", fn := fun _ => fun
  | [d] => { results := [.lit (.bool true)], args := [d] }
  | _ => none }
def handoffEndsRow : OpenClaim := { program := "ytggaeihinheojaa", sum := "51f7bd4369c74ecfee81ad66d896648163c380e66ecdf8d42a7869ab71176dff", func := "hedgerow/hedgerowlaw21.HandoffEnds", spec := "handoffEnds", inPlace := ["slices.overlaps[hedgerow/api.Bundle]"], unfollowed := true, recurses := true, apart := false }
def HandoffEndsSaid : Prop := handoffEndsRow.holds Try.pinned (OpenSpec.ofChange handoffEndsSpec)

/-- ITS FALSE NEIGHBOUR: 'it returns false'. Refute it at one input. -/
def handoffEndsWrong : ChangeSpec := { name := "handoffEnds", fn := fun _ => fun
  | [d] => { results := [.lit (.bool false)], args := [d] }
  | _ => none }
def HandoffEndsWrongFalsely : Prop := handoffEndsRow.holds Try.pinned (OpenSpec.ofChange handoffEndsWrong)

/-- 'hedgerowlaw21.HandoffFlight': WHATEVER THE INPUT: true; the input reads as it did. -/
def handoffFlightSpec : ChangeSpec := { name := "handoffFlight", fn := fun _ => fun
  | [d] => { results := [.lit (.bool true)], args := [d] }
  | _ => none }
def handoffFlightRow : OpenClaim := { program := "ytggaeihinheojaa", sum := "51f7bd4369c74ecfee81ad66d896648163c380e66ecdf8d42a7869ab71176dff", func := "hedgerow/hedgerowlaw21.HandoffFlight", spec := "handoffFlight", inPlace := ["slices.overlaps[hedgerow/api.Bundle]"], unfollowed := true, recurses := true, apart := false }
def HandoffFlightSaid : Prop := handoffFlightRow.holds Try.pinned (OpenSpec.ofChange handoffFlightSpec)

/-- ITS FALSE NEIGHBOUR: 'it returns false'. Refute it at one input. -/
def handoffFlightWrong : ChangeSpec := { name := "handoffFlight", fn := fun _ => fun
  | [d] => { results := [.lit (.bool false)], args := [d] }
  | _ => none }
def HandoffFlightWrongFalsely : Prop := handoffFlightRow.holds Try.pinned (OpenSpec.ofChange handoffFlightWrong)

/- THE SECOND FORM. 'bulk': how many values and letters a reading holds, each counted each time it is reached (what is shared counts as often as it is met; a slice's spare places count too). A statement '..UptoSaid' is the law's where the arguments, and the package variables that the reading takes, are together of bulk at most 1048576: NARROWER than '..Said'. Prove '..Said' where nothing that the law and all that it calls make is longer than what came in: it says more and counts as full. Else prove '..UptoSaid'. A law counts once. -/
mutual
def uptoBulk {H : Type} : DataW H → Nat
  | .lit (.string bytes) => bytes.length + 1
  | .lit _ => 1
  | .nil => 1
  | .ptr d => uptoBulk d + 1
  | .slice elems spare => uptoBulkAll elems + uptoBulkAll spare + 1
  | .agg parts => uptoBulkAll parts + 1
  | .iface _ d => uptoBulk d + 1
  | .map entries => uptoBulkEntries entries + 1
  | .held _ => 1
def uptoBulkAll {H : Type} : List (DataW H) → Nat
  | [] => 0
  | d :: r => uptoBulk d + uptoBulkAll r
def uptoBulkEntries {H : Type} : List (Lit × DataW H) → Nat
  | [] => 0
  | x :: r => uptoBulkEntry x + uptoBulkEntries r
def uptoBulkEntry {H : Type} : Lit × DataW H → Nat
  | (.string bytes, d) => bytes.length + uptoBulk d + 1
  | (_, d) => uptoBulk d + 1
 end
def uptoSmall : (H : Type) → List (DataW H) → Bool := fun _ ds => decide (uptoBulkAll ds ≤ 1048576)
def OpenSpec.upto (s : _root_.Go.ChangeSpec) : _root_.Go.OpenSpec := { _root_.Go.OpenSpec.ofChange s with cond := some uptoSmall }

/-- 'hedgerowlaw21.HandoffHears', WHERE WHAT IT READS IS OF BULK AT MOST 1048576: true; the input reads as it did. -/
def handoffHearsUptoRow : OpenClaim := { program := "ytggaeihinheojaa", sum := "51f7bd4369c74ecfee81ad66d896648163c380e66ecdf8d42a7869ab71176dff", func := "hedgerow/hedgerowlaw21.HandoffHears", spec := "handoffHears", inPlace := ["slices.overlaps[hedgerow/api.Bundle]"], unfollowed := true, recurses := true, apart := false, narrowed := true }
def HandoffHearsUptoSaid : Prop := handoffHearsUptoRow.holds Try.pinned (OpenSpec.upto handoffHearsSpec)

/-- 'hedgerowlaw21.HandoffTwice', WHERE WHAT IT READS IS OF BULK AT MOST 1048576: true; the input reads as it did. -/
def handoffTwiceUptoRow : OpenClaim := { program := "ytggaeihinheojaa", sum := "51f7bd4369c74ecfee81ad66d896648163c380e66ecdf8d42a7869ab71176dff", func := "hedgerow/hedgerowlaw21.HandoffTwice", spec := "handoffTwice", inPlace := ["slices.overlaps[hedgerow/api.Bundle]"], unfollowed := true, recurses := true, apart := false, narrowed := true }
def HandoffTwiceUptoSaid : Prop := handoffTwiceUptoRow.holds Try.pinned (OpenSpec.upto handoffTwiceSpec)

/-- 'hedgerowlaw21.HandoffTells', WHERE WHAT IT READS IS OF BULK AT MOST 1048576: true; the input reads as it did. -/
def handoffTellsUptoRow : OpenClaim := { program := "ytggaeihinheojaa", sum := "51f7bd4369c74ecfee81ad66d896648163c380e66ecdf8d42a7869ab71176dff", func := "hedgerow/hedgerowlaw21.HandoffTells", spec := "handoffTells", inPlace := ["slices.overlaps[hedgerow/api.Bundle]"], unfollowed := true, recurses := true, apart := false, narrowed := true }
def HandoffTellsUptoSaid : Prop := handoffTellsUptoRow.holds Try.pinned (OpenSpec.upto handoffTellsSpec)

/-- 'hedgerowlaw21.HandoffOnce', WHERE WHAT IT READS IS OF BULK AT MOST 1048576: true; the input reads as it did. -/
def handoffOnceUptoRow : OpenClaim := { program := "ytggaeihinheojaa", sum := "51f7bd4369c74ecfee81ad66d896648163c380e66ecdf8d42a7869ab71176dff", func := "hedgerow/hedgerowlaw21.HandoffOnce", spec := "handoffOnce", inPlace := ["slices.overlaps[hedgerow/api.Bundle]"], unfollowed := true, recurses := true, apart := false, narrowed := true }
def HandoffOnceUptoSaid : Prop := handoffOnceUptoRow.holds Try.pinned (OpenSpec.upto handoffOnceSpec)

/-- 'hedgerowlaw21.HandoffEnds', WHERE WHAT IT READS IS OF BULK AT MOST 1048576: true; the input reads as it did. -/
def handoffEndsUptoRow : OpenClaim := { program := "ytggaeihinheojaa", sum := "51f7bd4369c74ecfee81ad66d896648163c380e66ecdf8d42a7869ab71176dff", func := "hedgerow/hedgerowlaw21.HandoffEnds", spec := "handoffEnds", inPlace := ["slices.overlaps[hedgerow/api.Bundle]"], unfollowed := true, recurses := true, apart := false, narrowed := true }
def HandoffEndsUptoSaid : Prop := handoffEndsUptoRow.holds Try.pinned (OpenSpec.upto handoffEndsSpec)

/-- 'hedgerowlaw21.HandoffFlight', WHERE WHAT IT READS IS OF BULK AT MOST 1048576: true; the input reads as it did. -/
def handoffFlightUptoRow : OpenClaim := { program := "ytggaeihinheojaa", sum := "51f7bd4369c74ecfee81ad66d896648163c380e66ecdf8d42a7869ab71176dff", func := "hedgerow/hedgerowlaw21.HandoffFlight", spec := "handoffFlight", inPlace := ["slices.overlaps[hedgerow/api.Bundle]"], unfollowed := true, recurses := true, apart := false, narrowed := true }
def HandoffFlightUptoSaid : Prop := handoffFlightUptoRow.holds Try.pinned (OpenSpec.upto handoffFlightSpec)

end Rows
end Go.Proofs.Ytggaeihinheojaa
