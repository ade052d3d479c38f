/-
  The document's comparison of states, of what is the same: true. No conditions of its own.
-/
import Derived.Test.YtggaeihinheojaaHoO
import Derived.Deep.QuietTactic
import Derived.BigQuiet
namespace Go.Proofs.Ytggaeihinheojaa
open Go.RowKit

/-- What a neighbour told, and where its list lies. -/
structure Gh where
  f : Int
  t : Int
  a : Option Addr
  c : Nat
  l : List Bd
abbrev ghC (x : Gh) : List Value := [.int .i64 x.f, .int .i64 x.t, .slice x.a x.l.length x.c]
def cGh : Codec Gh := ⟨ghC, 3, fun _ => rfl, fun a u h => by simp [ghC] at h; rcases h with rfl | rfl | rfl <;> rfl, by decide⟩
/-- a slice of them, and all their lists -/
structure GhReads (w : World) (v : Value) (gs : List Gh) : Prop where
  rows : RdOf cGh w v gs
  lists : ∀ g ∈ gs, RdOf cBd w (.slice g.a g.l.length g.c) g.l
theorem GhReads.kept {w w' : World} {v : Value} {gs : List Gh} (h : GhReads w v gs) (k : Keeps No w w') : GhReads w' v gs :=
  ⟨h.rows.kept k (fun _ _ h => h), fun g hg => (h.lists g hg).kept k (fun _ _ h => h)⟩

set_option maxHeartbeats 2000000 in
theorem sameGhosts (w : World) (v : Value) (l : List Gh) (hv : GhReads w v l) :
    Calls Try.prog 51 #[v, v] w fun e w' => e = .returned (.bool true) ∧ Keeps No w w' := by
  obtain ⟨hr, hls⟩ := hv
  obtain ⟨a, c, rfl⟩ := hr.slice
  have hlen := RdOf.len cGh hr
  unfold maxLen at hlen
  have Hls := Lib.hid hls; clear hls
  go_enter Try.func51, Try.ntmps51
  go_wp2
  go_loopw [5] (fun i wr => ∃ k : Nat, k ≤ l.length ∧ i = .int .i64 k ∧ Keeps No w wr) (fun i _ => l.length - (intOf i).toNat)
  case atStart => exact ⟨0, Nat.zero_le _, rfl, Keeps.refl _⟩
  case round =>
    obtain ⟨k, hk, rfl, hkw⟩ := hrel
    have Hkw := Lib.hid hkw
    have hr' := hr.kept hkw (fun _ _ h => h)
    clear hkw
    by_cases hlt : k < l.length
    · obtain ⟨b, off, rfl, _, _, hb⟩ := RdOf.addr cGh hr' (by omega)
      have g0 : cellsAt wr b (off + k * 3) 3 = some (ghC l[k]) := RdOf.at cGh hr' k hlt
      have c0 : wr.cell? ⟨b, off + k * 3, none⟩ = some (.int .i64 l[k].f) := cellsAt_cell g0 0 _ rfl
      have c1 : wr.cell? ⟨b, off + k * 3 + 1, none⟩ = some (.int .i64 l[k].t) := cellsAt_cell g0 1 _ rfl
      have c2 : wr.cell? ⟨b, off + k * 3 + 2, none⟩ = some (.slice l[k].a l[k].l.length l[k].c) := cellsAt_cell g0 2 _ rfl
      have hin := Hls.out l[k] (List.getElem_mem hlt)
      have hin' := hin.kept Hkw.out (fun _ _ h => h)
      have HS : Hid (∀ n, Calls Try.prog 36 #[.slice l[k].a l[k].l.length l[k].c, .slice l[k].a l[k].l.length l[k].c] (wr.drewN n) fun e w' => e = .returned (.bool true) ∧ ∃ m', w' = (wr.drewN n).drewN m') :=
        fun n => sameBds _ _ _ _ (hin'.kept ((Keeps.refl (S := No) wr).drewN n) (fun _ _ h => h)) (hin'.kept ((Keeps.refl (S := No) wr).drewN n) (fun _ _ h => h))
      clear hin'
      clear g0 hin
      have hi0 : (0 : Int) ≤ (k : Int) := by omega
      have hi1 : (k : Int) < (l.length : Int) := by omega
      have e0 : (l[k].f != l[k].f) = false := by simp
      have e1 : (l[k].t != l[k].t) = false := by simp
      go_wp2
      go_quiet ((go_at_call 36; exact Calls.quiet_of (HS.out _)))
      go_wp2
      exact ⟨⟨k + 1, by omega, by go_num, Hkw.out.drewN _⟩, by simp [intOf]; omega⟩
    · go_wp2
      go_ret
      exact ⟨rfl, Hkw.out⟩
end Go.Proofs.Ytggaeihinheojaa
