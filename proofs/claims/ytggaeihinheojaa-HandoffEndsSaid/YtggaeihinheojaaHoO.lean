/-
  The document's Leave. No conditions of its own.
-/
import Derived.Test.YtggaeihinheojaaHoN
namespace Go.Proofs.Ytggaeihinheojaa
open Go.RowKit

section
variable {w : World} {ep t nx : Int} {own dead outs ins gh : Value}

set_option maxRecDepth 100000 in
set_option maxHeartbeats 4000000 in
theorem rleave_any {l : List Ou} (hv : RdOf cOu w outs l) (hl : l.length ≤ 1000) (h1 : own.oneCell' = true) (h2 : dead.oneCell' = true) (h3 : ins.oneCell' = true) (h4 : gh.oneCell' = true) (b : Bd) (tg : Int) :
    Calls Try.prog 25 #[stV ep t own dead outs ins gh nx, .agg (bdC b).toArray, .int .i64 tg] w fun e w' => ∃ v', e = .returned (stV ep t own dead v' ins gh nx) ∧ RdOf cOu w' v' (l ++ [⟨0, tg, 1, b⟩]) ∧ Keeps No w w' := by
  obtain ⟨i0, hi, hz0, hz1, hz2⟩ := info_parts Try.infoOu
  obtain ⟨va, vc, rfl⟩ := hv.slice
  have Hl := Lib.hid hl; clear hl
  have HD : Hid (∀ A B C, RdOf cOu (((w.alloc A).alloc B).alloc C) (.slice va l.length vc) l) := fun A B C => hv.kept ((((Keeps.refl _).alloc _).alloc _).alloc _) (fun _ _ h => h)
  go_enter Try.func25, Try.ntmps25
  go_wp2_with (at_builtin; refine wpList_append_reads rfl (.tmp 8) (.tmp 10) 24 rfl (w.heap.size + 1 + 1 + 1) 78 i0 _ 14 112 Try.underlying24 hi hz0 hz1 hz2 rfl (by decide) (.slice none 0 0) 0 [] rfl (World.ownsRow_nil _ _ _ _) _ l.length (rowsOf cOu l) rfl (HD.out _ _ _) ?c1 ?c2 ?c3 ?c4)
  case c1 => have := Hl.out; unfold maxLen; omega
  case c2 => have := Hl.out; omega
  case c3 => simp
  case c4 =>
    intro v1 w1 hown1 hk1' _ _
    have hk1 := hk1'.mono (T := No) (fun i _ h => by cases h)
    obtain ⟨a1, c1, rfl⟩ := ownsRow_slice hown1
    have p1 : cellsAt w1 (w.heap.size + 1) 0 11 = some (bdC b) := hk1.cellsAt (by simp [go_sem])
    have HkA := Lib.hid hk1
    have HK1 : Hid (Keeps No w w1) := ((((Keeps.refl _).alloc _).alloc _).alloc _).trans hk1 (fun _ _ h => h)
    have hz := hk1.size
    simp only [World.size_alloc] at hz
    have l1 : w.heap.size + 1 < w1.heap.size := by omega
    have Hown1 := Lib.hid hown1
    have Hz := Lib.hid hz
    clear hk1 hk1' hown1 hz
    go_wp2_with (at_builtin; refine wpList_append_reads rfl (.tmp 12) (.tmp 16) 24 rfl (w.heap.size + 1 + 1 + 1) 78 i0 _ 14 112 Try.underlying24 hi hz0 hz1 hz2 rfl (by decide) (.slice a1 l.length c1) l.length (rowsOf cOu l) rfl (Hown1.out.alloc _) (.slice (some ⟨w1.heap.size, 0, none⟩) 1 1) 1 (ouC ⟨0, tg, 1, b⟩) rfl (litReads cOu w1 78 ⟨0, tg, 1, b⟩) ?d1 ?d2 ?d3 ?d4)
    case d1 => have := Hl.out; unfold maxLen; omega
    case d2 => have := Hl.out; omega
    case d3 => have := Hz.out; simp; omega
    case d4 =>
      intro v2 w2 hown2 hk2 _ _
      obtain ⟨a2, c2, rfl⟩ := ownsRow_slice hown2
      have hkB := (HkA.out.alloc _).trans hk2 (fun i hi hof => by
        have h := (Hown1.out.lt i hof).1
        simp only [World.size_alloc] at hi
        omega)
      have q1 : cellsAt w2 w.heap.size 0 8 = some [.int .i64 ep, .int .i64 t, own, dead, .slice va l.length vc, ins, gh, .int .i64 nx] := hkB.cellsAt (by simp [go_sem])
      have q2 : Open w2 (w.heap.size + 1 + 1) := hkB.opened (by simp [go_sem])
      have q3 : (rowD w2 (w.heap.size + 1 + 1)).size = 8 := hkB.rowSize (by simp [go_sem]) (by simp [go_sem])
      have q4 : w2.frozen? ⟨w.heap.size, 4, none⟩ = false := (hkB.opened (b := w.heap.size) (by simp [go_sem])).frozen 4
      have q5 : w2.cell? ⟨w.heap.size, 4, none⟩ = some (.slice va l.length vc) := cellsAt_cell q1 4 _ rfl
      have hK2 : Hid (Keeps No w w2) := ((((Keeps.refl _).alloc _).alloc _).alloc _).trans hkB (fun _ _ h => h)
      have hr2 : Hid (RdOf cOu w2 (.slice a2 (l.length + 1) c2) (l ++ [⟨0, tg, 1, b⟩])) := rdApp hown2
      have Hown2 := Lib.hid hown2
      have hne : ¬ w.heap.size + 1 + 1 = w.heap.size := by omega
      clear hkB hk2 hown2 p1
      go_wp2
      exact bodyPost_ret (v := stV ep t own dead (.slice a2 (l.length + 1) c2) ins gh nx) (by simp [results, Try.results25, go_sem, q2]) rfl ⟨_, rfl, leaveReads hr2.out Hown2.out (by omega) _ _, (hK2.out.setCell (p := ⟨w.heap.size, 4, none⟩) (fun h => absurd h (Nat.lt_irrefl _)) _).row (by omega) _⟩

end
end Go.Proofs.Ytggaeihinheojaa
