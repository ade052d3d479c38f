/-
  handoff.Fold, where one is staged. No conditions of its own.
-/
import Derived.Test.YtggaeihinheojaaHoAA
namespace Go.Proofs.Ytggaeihinheojaa
open Go.RowKit

section
variable {w : World} {ep t nx : Int} {own dead outs ins gh : Value}

set_option maxRecDepth 100000 in
set_option maxHeartbeats 4000000 in
theorem fold_stage {lo : List Ou} {li : List Inn} (hv : RdOf cOu w outs lo) (hi : RdOf cIn w ins li) (hlo : lo.length ≤ 1000) (hli : li.length ≤ 1000) (h1 : own.oneCell' = true) (h2 : dead.oneCell' = true) (h4 : gh.oneCell' = true) (n f : Int) (b : Bd)
    (hf : firstOf (isIn f n) li = -1) :
    Calls Try.prog 15 #[stV ep t own dead outs ins gh nx, recV 6 n f b] w fun e w' => ∃ vo vi, e = .returned (.tuple #[stV ep t own dead vo vi gh nx, .int .i64 0]) ∧ RdOf cOu w' vo lo ∧ RdOf cIn w' vi (li ++ [⟨f, n, b⟩]) ∧ Keeps No w w' ∧ Fresh w vo ∧ Fresh w vi := by
  obtain ⟨va, vc, rfl⟩ := hv.slice
  obtain ⟨ia, ic, rfl⟩ := hi.slice
  have Hlo := Lib.hid hlo; clear hlo
  have Hli := Lib.hid hli; clear hli
  have Hf := Lib.hid hf; clear hf
  obtain ⟨i0, hi0, hz0, hz1, hz2⟩ := info_parts Try.infoIn
  go_enter Try.func15, Try.ntmps15
  go_wp2_with fail
  refine wp_world ?_
  intro W hW
  have hk : Keeps No w W := by rw [hW]; exact (((Keeps.refl _).alloc _).alloc _).alloc _
  have hsz : W.heap.size = w.heap.size + 3 := by rw [hW]; simp
  have F : ∀ w', Keeps No W w' → ((w'.cell? ⟨w.heap.size, 4, none⟩ = some (.slice va lo.length vc) ∧ w'.cell? ⟨w.heap.size, 5, none⟩ = some (.slice ia li.length ic)) ∧ cellsAt w' w.heap.size 0 8 = some [.int .i64 ep, .int .i64 t, own, dead, .slice va lo.length vc, .slice ia li.length ic, gh, .int .i64 nx] ∧ Open w' (w.heap.size + 1 + 1) ∧ (rowD w' (w.heap.size + 1 + 1)).size = 8 ∧ Open w' w.heap.size ∧ w'.cell? ⟨w.heap.size + 1, 0, none⟩ = some (.int .i64 6) ∧ w'.cell? ⟨w.heap.size + 1, 1, none⟩ = some (.int .i64 n) ∧ w'.cell? ⟨w.heap.size + 1, 2, none⟩ = some (.int .i64 f) ∧ cellsAt w' (w.heap.size + 1) 4 11 = some (bdC b)) := by
    have q : ((W.cell? ⟨w.heap.size, 4, none⟩ = some (.slice va lo.length vc) ∧ W.cell? ⟨w.heap.size, 5, none⟩ = some (.slice ia li.length ic)) ∧ cellsAt W w.heap.size 0 8 = some [.int .i64 ep, .int .i64 t, own, dead, .slice va lo.length vc, .slice ia li.length ic, gh, .int .i64 nx] ∧ Open W (w.heap.size + 1 + 1) ∧ (rowD W (w.heap.size + 1 + 1)).size = 8 ∧ Open W w.heap.size ∧ W.cell? ⟨w.heap.size + 1, 0, none⟩ = some (.int .i64 6) ∧ W.cell? ⟨w.heap.size + 1, 1, none⟩ = some (.int .i64 n) ∧ W.cell? ⟨w.heap.size + 1, 2, none⟩ = some (.int .i64 f) ∧ cellsAt W (w.heap.size + 1) 4 11 = some (bdC b)) := by
      rw [hW]
      refine ⟨⟨?_, ?_⟩, ?_, ?_, ?_, ?_, ?_, ?_, ?_, ?_⟩ <;> simp [go_sem]
    intro w' hkk
    obtain ⟨⟨q1, q2⟩, q3, q4, q5, q6, q7, q8, q9, q10⟩ := q
    exact ⟨⟨hkk.cell q1 (fun h => h), hkk.cell q2 (fun h => h)⟩, hkk.cellsAt q3, hkk.opened q4, hkk.rowSize q4 q5, hkk.opened q6, hkk.cell q7 (fun h => h), hkk.cell q8 (fun h => h), hkk.cell q9 (fun h => h), hkk.cellsAt q10⟩
  have HF := Lib.hid F
  clear F hW
  obtain ⟨⟨p1, p2⟩, _⟩ := HF.out W (Keeps.refl W)
  have Hk := Lib.hid hk
  have Hsz := Lib.hid hsz
  clear hk hsz
  go_region_held3 (fun w' => w'.cell? ⟨w.heap.size, 4, none⟩ = some (.slice va lo.length vc) ∧ w'.cell? ⟨w.heap.size, 5, none⟩ = some (.slice ia li.length ic)) (exact ⟨p1, p2⟩)
    (first
      | (go_at_call 38
         refine (cloneOut W.drew _ lo (hv.kept Hk.out.drew (fun _ _ h => h)) Hlo.out).mono ?_
         rintro e w1 ⟨v1, rfl, ho, hk1⟩
         have Ho1 : Hid (OwnOf cOu 78 w1 W.heap.size v1 lo) := OwnOf.base ho (by simp)
         have Hk1 : Hid (Keeps No W w1) := ((Keeps.refl W).drew).trans hk1 (fun _ _ h => h)
         clear hk1 ho p1 p2
         obtain ⟨⟨p1, p2⟩, _⟩ := HF.out w1 Hk1.out)
      | (go_at_call 39
         refine (cloneIn W.drew _ li (hi.kept Hk.out.drew (fun _ _ h => h)) Hli.out).mono ?_
         rintro e w1 ⟨v2, rfl, ho, hk1⟩
         have Ho2 : Hid (OwnOf cIn 89 w1 W.heap.size v2 li) := OwnOf.base ho (by simp)
         have Hk1 : Hid (Keeps No W w1) := ((Keeps.refl W).drew).trans hk1 (fun _ _ h => h)
         clear hk1 ho p1 p2
         obtain ⟨⟨p1, p2⟩, _⟩ := HF.out w1 Hk1.out)
      | (go_at_call 38
         refine (cloneOut w1 _ lo (hv.kept (Hk.out.trans Hk1.out (fun _ _ h => h)) (fun _ _ h => h)) Hlo.out).mono ?_
         rintro e w2 ⟨v1, rfl, ho, hk1⟩
         have Hk2 : Hid (Keeps No W w2) := Hk1.out.trans hk1 (fun _ _ h => h)
         have HD := Lib.hid (two_rows (OwnOf.base ho (Hk1.out.size)) (hk1.owns Ho2.out (fun _ _ h => h)) (fun k h1 h2 => by have := (ho.lt k h1).1; have := (Ho2.out.lt k h2).2; omega))
         clear hk1 ho p1 p2 Ho2
         obtain ⟨⟨p1, p2⟩, _⟩ := HF.out w2 Hk2.out)
      | (go_at_call 39
         refine (cloneIn w1 _ li (hi.kept (Hk.out.trans Hk1.out (fun _ _ h => h)) (fun _ _ h => h)) Hli.out).mono ?_
         rintro e w2 ⟨v2, rfl, ho, hk1⟩
         have Hk2 : Hid (Keeps No W w2) := Hk1.out.trans hk1 (fun _ _ h => h)
         have HD := Lib.hid (two_rows (hk1.owns Ho1.out (fun _ _ h => h)) (OwnOf.base ho (Hk1.out.size)) (fun k h1 h2 => by have := (ho.lt k h2).1; have := (Ho1.out.lt k h1).2; omega))
         clear hk1 ho p1 p2 Ho1
         obtain ⟨⟨p1, p2⟩, _⟩ := HF.out w2 Hk2.out))
  all_goals
    clear p1 p2 Hk1
    obtain ⟨⟨p1, p2⟩, p3, p4, p5, p6, p7, p8, p9, p10⟩ := HF.out w2 Hk2.out
    obtain ⟨oa, oc, hv1⟩ := ownsRow_slice HD.out.1
    subst hv1
    obtain ⟨ja, jc, hv2⟩ := ownsRow_slice HD.out.2.1
    subst hv2
    go_wp2_with fail
    refine (in_any (hi.kept (Hk.out.trans Hk2.out (fun _ _ h => h)) (fun _ _ h => h)) _ _).mono ?_
    rintro e w4 ⟨rfl, hk4⟩
    rw [Hf.out]
    have Hk4 : Hid (Keeps No W w4) := Hk2.out.trans hk4 (fun _ _ h => h)
    have HD4 := Lib.hid (HD.out.keep hk4)
    clear hk4 p1 p2 p3 p4 p5 p6 p7 p8 p9 p10 HD Hk2
    obtain ⟨⟨p1, p2⟩, p3, p4, p5, p6, p7, p8, p9, p10⟩ := HF.out w4 Hk4.out
    go_wp2_with (at_builtin; refine wpList_append_reads rfl (.tmp 90) (.tmp 98) 25 rfl W.heap.size 89 i0 _ 13 104 Try.underlying25 hi0 hz0 hz1 hz2 rfl (by decide) (.slice ja li.length jc) li.length (rowsOf cIn li) rfl (HD4.out.2.1.alloc _) (.slice (some ⟨w4.heap.size, 0, none⟩) 1 1) 1 (inC ⟨f, n, b⟩) rfl (litReads cIn w4 89 ⟨f, n, b⟩) ?c1 ?c2 ?c3 ?c4)
    case c1 => have := Hli.out; unfold maxLen; omega
    case c2 => have := Hli.out; omega
    case c3 => have := Hk4.out.size; simp; omega
    case c4 =>
      intro v2 w5 hown5 hk5 _ _
      obtain ⟨a2, c2, rfl⟩ := ownsRow_slice hown5
      have Hk5 : Hid (Keeps No W w5) := (Hk4.out.alloc _).trans hk5 (fun i hi hof => absurd hi (Nat.not_lt.2 (HD4.out.2.1.lt i hof).1))
      have HO5 : Hid (OwnOf cOu 78 w5 W.heap.size (.slice oa lo.length oc) lo) := hk5.owns (HD4.out.1.alloc _) (fun k hk hof => HD4.out.2.2 k hk hof)
      have HI5 := Lib.hid (ownApp (a := (⟨f, n, b⟩ : Inn)) hown5)
      clear hk5 hown5 p1 p2 p3 p4 p5 p6 p7 p8 p9 p10 HD4 Hk4
      obtain ⟨⟨p1, p2⟩, p3, p4, p5, p6, p7, p8, p9, p10⟩ := HF.out w5 Hk5.out
      have fz4 := p6.frozen 4
      have fz5 := p6.frozen 5
      have n6 : ¬ w.heap.size + 1 + 1 = w.heap.size := by omega
      go_wp2
      refine bodyPost_ret (v := .tuple #[stV ep t own dead (.slice oa lo.length oc) (.slice a2 (li.length + 1) c2) gh nx, .int .i64 0]) ?_ rfl ?_
      · simp [results, Try.results15, go_sem, p4]
      · exact ⟨_, _, rfl, endRd HO5.out Hsz.out, endRd HI5.out Hsz.out, endKeeps (Hk.out.trans Hk5.out (fun _ _ h => h)), fresh_of HO5.out Hsz.out, fresh_of HI5.out Hsz.out⟩

end
end Go.Proofs.Ytggaeihinheojaa
