/-
  Messages in a row: how they lie and read. No conditions of its own.
-/
import Derived.Test.YtggaeihinheojaaHoQ
namespace Go.Proofs.Ytggaeihinheojaa
open Go.RowKit

/-- A message with entities at most, and where its list lies. -/
structure Ms where
  k : Int
  n : Int
  a : Option Addr
  c : Nat
  bs : List Bd
abbrev msC (m : Ms) : List Value := [.int .i64 m.k, .int .i64 0, .int .i64 m.n, .slice none 0 0, .slice m.a m.bs.length m.c, .slice none 0 0]
def cMs : Codec Ms := ⟨msC, 6, fun _ => rfl, fun a u h => by simp [msC] at h; rcases h with rfl | rfl | rfl | rfl | rfl | rfl <;> rfl, by decide⟩
/-- a slice of them, and all their lists -/
structure MsReads (w : World) (v : Value) (ms : List Ms) : Prop where
  rows : RdOf cMs w v ms
  lists : ∀ m ∈ ms, RdOf cBd w (.slice m.a m.bs.length m.c) m.bs
theorem MsReads.kept {w w' : World} {v : Value} {ms : List Ms} (h : MsReads w v ms) (k : Keeps No w w') : MsReads w' v ms :=
  ⟨h.rows.kept k (fun _ _ h => h), fun m hm => (h.lists m hm).kept k (fun _ _ h => h)⟩
/-- the Outs of which something is said to a shard; and what is said of each is what is said of the first one with its number -/
def saidOf (l : List Ou) (tg : Int) : List Ou := (l.filter fun o => !(o.st == 1) && o.to == tg).map fun o => match l.find? (tellPr o.n) with | some x => x | none => o
theorem Try.infoMs : (Try.prog.info? 31).map (fun i => (i.zero, i.size, i.bytes)) = some (some (.agg (msC ⟨0, 0, none, 0, []⟩).toArray), 6, 96) := by kernel_rfl
end Go.Proofs.Ytggaeihinheojaa
