/-
  handoff.Leave. No conditions of its own.
-/
import Derived.Test.YtggaeihinheojaaHoF
namespace Go.Proofs.Ytggaeihinheojaa
open Go.RowKit

/-- a row of whatever base, from a lower one -/
theorem OwnOf.base {α : Type} {C : Codec α} {e : TypeId} {w : World} {b b' : Nat} {v : Value} {l : List α} (h : OwnOf C e w b' v l) (hb : b ≤ b') : OwnOf C e w b v l := by
  refine ⟨h.1, ?_⟩
  rcases h.2 with h2 | ⟨g, cap, cur, hv, hg, r⟩
  · exact .inl h2
  · exact .inr ⟨g, cap, cur, hv, Nat.le_trans hb hg, r⟩
/-- a literal of one struct -/
theorem litReads {α : Type} (C : Codec α) (w : World) (e : TypeId) (a : α) : Reads (w.alloc (.cells (C.cells a).toArray e)) C.size (.slice (some ⟨w.heap.size, 0, none⟩) 1 1) 1 (C.cells a) := by
  have h := World.ownsRow_lit (e := e) (size := C.size) w (C.cells a).toArray 1 (Nat.zero_le _) (by unfold maxLen; omega) (by simp [C.len])
  exact Reads.ofOwn h (C.one a)

/-- a row with one struct more -/
theorem rdApp {α : Type} {C : Codec α} {e : TypeId} {w : World} {base : Nat} {v : Value} {l : List α} {a : α} (h : w.ownsRow base e C.size v (l.length + 1) (rowsOf C l ++ C.cells a)) : RdOf C w v (l ++ [a]) := by
  have h2 : OwnOf C e w base v (l ++ [a]) := by
    unfold OwnOf
    rw [rowsOf_append, rowsOf_one, List.length_append]
    exact h
  exact h2.reads

/-- what lies in a row of the call's own reads so behind stores into its boxes -/
theorem leaveReads {α : Type} {C : Codec α} {e : TypeId} {w : World} {base h : Nat} {v : Value} {l : List α} {n : Nat} {xs : List Value} (hr : RdOf C w v l) (ho : w.ownsRow base e C.size v n xs) (hb : h + 2 < base) (u : Value) (D : Array Value) :
    RdOf C ((w.setCell ⟨h, 4, none⟩ u).setRow (h + 1 + 1) D) v l := by
  refine hr.kept (((Keeps.refl (S := fun i => i = h ∨ i = h + 1 + 1) w).setCell (p := ⟨h, 4, none⟩) (fun _ => .inl rfl) u).setRow (fun _ => .inr rfl) D) (fun k hk hd => ?_)
  have := (ho.lt k hk).1
  omega

theorem freshLeave {w W w0 : World} {e : TypeId} {size : Nat} {v : Value} {n k : Nat} {xs : List Value} (h : w.ownsRow W.heap.size e size v n xs) (hs : W.heap.size = w0.heap.size + k) : Fresh w0 v := fun i hi => by have := (h.lt i hi).1; omega

section
variable {w : World} {ep t nx : Int} {own dead outs ins gh : Value}

set_option maxRecDepth 100000 in
set_option maxHeartbeats 4000000 in
theorem leave_any {l : List Ou} (hv : RdOf cOu w outs l) (hl : l.length ≤ 1000) (h1 : own.oneCell' = true) (h2 : dead.oneCell' = true) (h3 : ins.oneCell' = true) (h4 : gh.oneCell' = true) (b : Bd) (to : Int) :
    Calls Try.prog 24 #[stV ep t own dead outs ins gh nx, .agg (bdC b).toArray, .int .i64 to] w fun e w' => ∃ v', e = .returned (stV ep t own dead v' ins gh nx) ∧ RdOf cOu w' v' (l ++ [⟨0, to, 1, b⟩]) ∧ Keeps No w w' ∧ Fresh w v' := by
  obtain ⟨i0, hi, hz0, hz1, hz2⟩ := info_parts Try.infoOu
  obtain ⟨va, vc, rfl⟩ := hv.slice
  have Hl := Lib.hid hl; clear hl
  go_enter Try.func24, Try.ntmps24
  go_wp2_with fail
  refine wp_world ?_
  intro W hW
  have hk : Keeps No w W := by rw [hW]; exact (((Keeps.refl _).alloc _).alloc _).alloc _
  have hsz : W.heap.size = w.heap.size + 3 := by rw [hW]; simp
  have F : ∀ w', Keeps No W w' → ((w'.cell? ⟨w.heap.size, 4, none⟩ = some (.slice va l.length vc) ∧ cellsAt w' (w.heap.size + 1) 0 11 = some (bdC b)) ∧ cellsAt w' w.heap.size 0 8 = some [.int .i64 ep, .int .i64 t, own, dead, .slice va l.length vc, ins, gh, .int .i64 nx] ∧ Open w' (w.heap.size + 1 + 1) ∧ (rowD w' (w.heap.size + 1 + 1)).size = 8 ∧ w'.frozen? ⟨w.heap.size, 4, none⟩ = false) := by
    have q : (W.cell? ⟨w.heap.size, 4, none⟩ = some (.slice va l.length vc) ∧ cellsAt W (w.heap.size + 1) 0 11 = some (bdC b)) ∧ cellsAt W w.heap.size 0 8 = some [.int .i64 ep, .int .i64 t, own, dead, .slice va l.length vc, ins, gh, .int .i64 nx] ∧ Open W (w.heap.size + 1 + 1) ∧ (rowD W (w.heap.size + 1 + 1)).size = 8 ∧ Open W w.heap.size := by
      rw [hW]
      refine ⟨⟨?_, ?_⟩, ?_, ?_, ?_, ?_⟩ <;> simp [go_sem]
    intro w' hkk
    exact ⟨⟨hkk.cell q.1.1 (fun h => h), hkk.cellsAt q.1.2⟩, hkk.cellsAt q.2.1, hkk.opened q.2.2.1, hkk.rowSize q.2.2.1 q.2.2.2.1, (hkk.opened q.2.2.2.2).frozen 4⟩
  have HF := Lib.hid F
  clear F hW
  obtain ⟨⟨p1, p2⟩, _⟩ := HF.out W (Keeps.refl W)
  have Hk := Lib.hid hk
  have Hsz := Lib.hid hsz
  have hlt0 : w.heap.size < W.heap.size := by omega
  have hlt1 : w.heap.size + 1 < W.heap.size := by omega
  have hne : ¬ w.heap.size + 1 + 1 = w.heap.size := by omega
  clear hk hsz
  refine wp_region_any (by kernel_rfl) ?_
  change wpAny _ _ _ _ _ _ _ (World.drew _)
  refine wpAny_take (i := 0) (v := (.pointer (some ⟨w.heap.size, 4, none⟩))) rfl (by kernel_rfl) (by kernel_rfl) (by kernel_rfl) (fun _ _ _ h => h) (Or.inl ⟨by rfl, fun w => by go_simp⟩) ?_
  refine wpAny_take (i := 3) (v := (.int .i64 to)) rfl (by kernel_rfl) (by kernel_rfl) (by kernel_rfl) (fun _ _ _ h => h) (Or.inl ⟨by rfl, fun w => by go_simp⟩) ?_
  refine wpAny_ready (rs := [1, 4]) (by kernel_rfl) (by simp) ?_
  refine AllReady.cons rfl (fun K hK => ?_) ?_
  · go_simp
    refine hK _ _ ?_
    clear hK K
    refine wpAny_ready (rs := [2, 4]) (by kernel_rfl) (by simp) ?_
    refine AllReady.cons rfl (fun K hK => ?_) ?_
    · go_simp
      go_wp2_with (go_at_call 38; (first | refine (cloneOut W.drew _ l (hv.kept Hk.out.drew (fun _ _ h => h)) Hl.out).mono ?_ | refine (cloneOut _ _ l (hv.kept ((Hk.out.alloc _).drew) (fun _ _ h => h)) Hl.out).mono ?_); rintro e w1 ⟨v1, rfl, ho, hk1⟩; obtain ⟨a1, c1, rfl⟩ := ownsRow_slice ho; have Ho : Hid (OwnOf cOu 78 w1 W.heap.size (.slice a1 l.length c1) l) := OwnOf.base ho (by simp); have Hk1 : Hid (Keeps No W w1) := (by first | exact ((Keeps.refl W).drew).trans hk1 (fun _ _ h => h) | exact (((Keeps.refl W).alloc _).drew).trans hk1 (fun _ _ h => h)); have Hq := Lib.hid hk1; clear hk1 ho p1 p2; obtain ⟨⟨p1, p2⟩, _⟩ := HF.out w1 Hk1.out)
      refine wpAny_ready (rs := [4]) (by kernel_rfl) (by simp) ?_
      refine AllReady.cons rfl (fun K hK => ?_) AllReady.nil
      go_simp
      refine hK _ _ ?_
      clear hK K
      refine wpAny_take (i := 5) (v := (.agg (ouC ⟨0, to, 1, b⟩).toArray)) rfl (by kernel_rfl) (by kernel_rfl) (by kernel_rfl) (fun _ _ _ h => h) (Or.inl ⟨by rfl, fun w => by go_simp⟩) ?_
      refine wpAny_ready (rs := [6]) (by kernel_rfl) (by simp) ?_
      refine AllReady.cons rfl (fun K hK => ?_) AllReady.nil
      go_simp
      refine hK _ _ ?_
      clear hK K
      refine wpAny_ready (rs := [7]) (by kernel_rfl) (by simp) ?_
      refine AllReady.cons rfl (fun K hK => ?_) AllReady.nil
      first
        | refine step_append_reads (by rfl) (.tmp 9) (.tmp 13) 24 (by rfl) W.heap.size 78 i0 _ 14 112 Try.underlying24 hi hz0 hz1 hz2 (by rfl) (by decide) (.slice a1 l.length c1) l.length (rowsOf cOu l) (by rfl) (Ho.out.alloc _) (.slice (some ⟨w1.heap.size, 0, none⟩) 1 1) 1 (ouC ⟨0, to, 1, b⟩) (by rfl) (litReads cOu w1 78 ⟨0, to, 1, b⟩) ?_ ?_ ?_ ?_
        | refine step_append_reads (by rfl) (.tmp 9) (.tmp 13) 24 (by rfl) W.heap.size 78 i0 _ 14 112 Try.underlying24 hi hz0 hz1 hz2 (by rfl) (by decide) (.slice a1 l.length c1) l.length (rowsOf cOu l) (by rfl) Ho.out (.slice (some ⟨W.heap.size, 0, none⟩) 1 1) 1 (ouC ⟨0, to, 1, b⟩) (by rfl) (((litReads cOu W 78 ⟨0, to, 1, b⟩).kept (Keeps.refl (S := No) _).drew (fun _ _ h => h)).kept Hq.out (fun _ _ h => h)) ?_ ?_ ?_ ?_
      · have := Hl.out; unfold maxLen; omega
      · have := Hl.out; omega
      · have := Hk1.out.size; simp; omega
      intro v2 w2 hown2 hk2 _ _
      obtain ⟨a2, c2, rfl⟩ := ownsRow_slice hown2
      have Hk2 : Hid (Keeps No W w2) := by
        first
          | exact (Hk1.out.alloc _).trans hk2 (fun i hi hof => absurd hi (Nat.not_lt.2 (Ho.out.lt i hof).1))
          | exact Hk1.out.trans hk2 (fun i hi hof => absurd hi (Nat.not_lt.2 (Ho.out.lt i hof).1))
      have Hown2 := Lib.hid hown2
      clear hk2 hown2 p1 p2
      obtain ⟨⟨p1, p2⟩, p3, p4, p5, p6⟩ := HF.out w2 Hk2.out
      refine hK _ _ ?_
      clear hK K
      refine wpAny_take (i := 8) (v := (.pointer (some ⟨w.heap.size, 4, none⟩))) rfl (by kernel_rfl) (by kernel_rfl) (by kernel_rfl) (fun _ _ _ h => h) (Or.inl ⟨by rfl, fun w => by go_simp⟩) ?_
      refine wpAny_ready (rs := [9]) (by kernel_rfl) (by simp) ?_
      refine AllReady.cons rfl (fun K hK => ?_) AllReady.nil
      go_simp
      refine hK _ _ ?_
      clear hK K
      refine wpAny_done (by kernel_rfl) ?_ _
      go_wp2
      have hr2 : Hid (RdOf cOu w2 (.slice a2 (l.length + 1) c2) (l ++ [⟨0, to, 1, b⟩])) := rdApp Hown2.out
      have hK2 := Lib.hid (Hk.out.trans Hk2.out (fun _ _ h => h))
      exact bodyPost_ret (v := stV ep t own dead (.slice a2 (l.length + 1) c2) ins gh nx) (by simp [results, Try.results24, go_sem, *]) rfl ⟨_, rfl, leaveReads hr2.out Hown2.out (by have := Hsz.out; omega) _ _, (hK2.out.setCell (p := ⟨w.heap.size, 4, none⟩) (fun h => absurd h (Nat.lt_irrefl _)) _).row (by omega) _, freshLeave Hown2.out Hsz.out⟩
    refine AllReady.cons rfl (fun K hK => ?_) AllReady.nil
    go_simp
    refine hK _ _ ?_
    clear hK K
    refine wpAny_take (i := 5) (v := (.agg (ouC ⟨0, to, 1, b⟩).toArray)) rfl (by kernel_rfl) (by kernel_rfl) (by kernel_rfl) (fun _ _ _ h => h) (Or.inl ⟨by rfl, fun w => by go_simp⟩) ?_
    refine wpAny_ready (rs := [2, 6]) (by kernel_rfl) (by simp) ?_
    refine AllReady.cons rfl (fun K hK => ?_) ?_
    · go_simp
      go_wp2_with (go_at_call 38; (first | refine (cloneOut W.drew _ l (hv.kept Hk.out.drew (fun _ _ h => h)) Hl.out).mono ?_ | refine (cloneOut _ _ l (hv.kept ((Hk.out.alloc _).drew) (fun _ _ h => h)) Hl.out).mono ?_); rintro e w1 ⟨v1, rfl, ho, hk1⟩; obtain ⟨a1, c1, rfl⟩ := ownsRow_slice ho; have Ho : Hid (OwnOf cOu 78 w1 W.heap.size (.slice a1 l.length c1) l) := OwnOf.base ho (by simp); have Hk1 : Hid (Keeps No W w1) := (by first | exact ((Keeps.refl W).drew).trans hk1 (fun _ _ h => h) | exact (((Keeps.refl W).alloc _).drew).trans hk1 (fun _ _ h => h)); have Hq := Lib.hid hk1; clear hk1 ho p1 p2; obtain ⟨⟨p1, p2⟩, _⟩ := HF.out w1 Hk1.out)
      refine wpAny_ready (rs := [6]) (by kernel_rfl) (by simp) ?_
      refine AllReady.cons rfl (fun K hK => ?_) AllReady.nil
      go_simp
      refine hK _ _ ?_
      clear hK K
      refine wpAny_ready (rs := [7]) (by kernel_rfl) (by simp) ?_
      refine AllReady.cons rfl (fun K hK => ?_) AllReady.nil
      first
        | refine step_append_reads (by rfl) (.tmp 9) (.tmp 13) 24 (by rfl) W.heap.size 78 i0 _ 14 112 Try.underlying24 hi hz0 hz1 hz2 (by rfl) (by decide) (.slice a1 l.length c1) l.length (rowsOf cOu l) (by rfl) (Ho.out.alloc _) (.slice (some ⟨w1.heap.size, 0, none⟩) 1 1) 1 (ouC ⟨0, to, 1, b⟩) (by rfl) (litReads cOu w1 78 ⟨0, to, 1, b⟩) ?_ ?_ ?_ ?_
        | refine step_append_reads (by rfl) (.tmp 9) (.tmp 13) 24 (by rfl) W.heap.size 78 i0 _ 14 112 Try.underlying24 hi hz0 hz1 hz2 (by rfl) (by decide) (.slice a1 l.length c1) l.length (rowsOf cOu l) (by rfl) Ho.out (.slice (some ⟨W.heap.size, 0, none⟩) 1 1) 1 (ouC ⟨0, to, 1, b⟩) (by rfl) (((litReads cOu W 78 ⟨0, to, 1, b⟩).kept (Keeps.refl (S := No) _).drew (fun _ _ h => h)).kept Hq.out (fun _ _ h => h)) ?_ ?_ ?_ ?_
      · have := Hl.out; unfold maxLen; omega
      · have := Hl.out; omega
      · have := Hk1.out.size; simp; omega
      intro v2 w2 hown2 hk2 _ _
      obtain ⟨a2, c2, rfl⟩ := ownsRow_slice hown2
      have Hk2 : Hid (Keeps No W w2) := by
        first
          | exact (Hk1.out.alloc _).trans hk2 (fun i hi hof => absurd hi (Nat.not_lt.2 (Ho.out.lt i hof).1))
          | exact Hk1.out.trans hk2 (fun i hi hof => absurd hi (Nat.not_lt.2 (Ho.out.lt i hof).1))
      have Hown2 := Lib.hid hown2
      clear hk2 hown2 p1 p2
      obtain ⟨⟨p1, p2⟩, p3, p4, p5, p6⟩ := HF.out w2 Hk2.out
      refine hK _ _ ?_
      clear hK K
      refine wpAny_take (i := 8) (v := (.pointer (some ⟨w.heap.size, 4, none⟩))) rfl (by kernel_rfl) (by kernel_rfl) (by kernel_rfl) (fun _ _ _ h => h) (Or.inl ⟨by rfl, fun w => by go_simp⟩) ?_
      refine wpAny_ready (rs := [9]) (by kernel_rfl) (by simp) ?_
      refine AllReady.cons rfl (fun K hK => ?_) AllReady.nil
      go_simp
      refine hK _ _ ?_
      clear hK K
      refine wpAny_done (by kernel_rfl) ?_ _
      go_wp2
      have hr2 : Hid (RdOf cOu w2 (.slice a2 (l.length + 1) c2) (l ++ [⟨0, to, 1, b⟩])) := rdApp Hown2.out
      have hK2 := Lib.hid (Hk.out.trans Hk2.out (fun _ _ h => h))
      exact bodyPost_ret (v := stV ep t own dead (.slice a2 (l.length + 1) c2) ins gh nx) (by simp [results, Try.results24, go_sem, *]) rfl ⟨_, rfl, leaveReads hr2.out Hown2.out (by have := Hsz.out; omega) _ _, (hK2.out.setCell (p := ⟨w.heap.size, 4, none⟩) (fun h => absurd h (Nat.lt_irrefl _)) _).row (by omega) _, freshLeave Hown2.out Hsz.out⟩
    refine AllReady.cons rfl (fun K hK => ?_) AllReady.nil
    go_simp
    refine hK _ _ ?_
    clear hK K
    refine wpAny_ready (rs := [2]) (by kernel_rfl) (by simp) ?_
    refine AllReady.cons rfl (fun K hK => ?_) AllReady.nil
    go_simp
    go_wp2_with (go_at_call 38; (first | refine (cloneOut W.drew _ l (hv.kept Hk.out.drew (fun _ _ h => h)) Hl.out).mono ?_ | refine (cloneOut _ _ l (hv.kept ((Hk.out.alloc _).drew) (fun _ _ h => h)) Hl.out).mono ?_); rintro e w1 ⟨v1, rfl, ho, hk1⟩; obtain ⟨a1, c1, rfl⟩ := ownsRow_slice ho; have Ho : Hid (OwnOf cOu 78 w1 W.heap.size (.slice a1 l.length c1) l) := OwnOf.base ho (by simp); have Hk1 : Hid (Keeps No W w1) := (by first | exact ((Keeps.refl W).drew).trans hk1 (fun _ _ h => h) | exact (((Keeps.refl W).alloc _).drew).trans hk1 (fun _ _ h => h)); have Hq := Lib.hid hk1; clear hk1 ho p1 p2; obtain ⟨⟨p1, p2⟩, _⟩ := HF.out w1 Hk1.out)
    refine wpAny_ready (rs := [7]) (by kernel_rfl) (by simp) ?_
    refine AllReady.cons rfl (fun K hK => ?_) AllReady.nil
    first
      | refine step_append_reads (by rfl) (.tmp 9) (.tmp 13) 24 (by rfl) W.heap.size 78 i0 _ 14 112 Try.underlying24 hi hz0 hz1 hz2 (by rfl) (by decide) (.slice a1 l.length c1) l.length (rowsOf cOu l) (by rfl) (Ho.out.alloc _) (.slice (some ⟨w1.heap.size, 0, none⟩) 1 1) 1 (ouC ⟨0, to, 1, b⟩) (by rfl) (litReads cOu w1 78 ⟨0, to, 1, b⟩) ?_ ?_ ?_ ?_
      | refine step_append_reads (by rfl) (.tmp 9) (.tmp 13) 24 (by rfl) W.heap.size 78 i0 _ 14 112 Try.underlying24 hi hz0 hz1 hz2 (by rfl) (by decide) (.slice a1 l.length c1) l.length (rowsOf cOu l) (by rfl) Ho.out (.slice (some ⟨W.heap.size, 0, none⟩) 1 1) 1 (ouC ⟨0, to, 1, b⟩) (by rfl) (((litReads cOu W 78 ⟨0, to, 1, b⟩).kept (Keeps.refl (S := No) _).drew (fun _ _ h => h)).kept Hq.out (fun _ _ h => h)) ?_ ?_ ?_ ?_
    · have := Hl.out; unfold maxLen; omega
    · have := Hl.out; omega
    · have := Hk1.out.size; simp; omega
    intro v2 w2 hown2 hk2 _ _
    obtain ⟨a2, c2, rfl⟩ := ownsRow_slice hown2
    have Hk2 : Hid (Keeps No W w2) := by
      first
        | exact (Hk1.out.alloc _).trans hk2 (fun i hi hof => absurd hi (Nat.not_lt.2 (Ho.out.lt i hof).1))
        | exact Hk1.out.trans hk2 (fun i hi hof => absurd hi (Nat.not_lt.2 (Ho.out.lt i hof).1))
    have Hown2 := Lib.hid hown2
    clear hk2 hown2 p1 p2
    obtain ⟨⟨p1, p2⟩, p3, p4, p5, p6⟩ := HF.out w2 Hk2.out
    refine hK _ _ ?_
    clear hK K
    refine wpAny_take (i := 8) (v := (.pointer (some ⟨w.heap.size, 4, none⟩))) rfl (by kernel_rfl) (by kernel_rfl) (by kernel_rfl) (fun _ _ _ h => h) (Or.inl ⟨by rfl, fun w => by go_simp⟩) ?_
    refine wpAny_ready (rs := [9]) (by kernel_rfl) (by simp) ?_
    refine AllReady.cons rfl (fun K hK => ?_) AllReady.nil
    go_simp
    refine hK _ _ ?_
    clear hK K
    refine wpAny_done (by kernel_rfl) ?_ _
    go_wp2
    have hr2 : Hid (RdOf cOu w2 (.slice a2 (l.length + 1) c2) (l ++ [⟨0, to, 1, b⟩])) := rdApp Hown2.out
    have hK2 := Lib.hid (Hk.out.trans Hk2.out (fun _ _ h => h))
    exact bodyPost_ret (v := stV ep t own dead (.slice a2 (l.length + 1) c2) ins gh nx) (by simp [results, Try.results24, go_sem, *]) rfl ⟨_, rfl, leaveReads hr2.out Hown2.out (by have := Hsz.out; omega) _ _, (hK2.out.setCell (p := ⟨w.heap.size, 4, none⟩) (fun h => absurd h (Nat.lt_irrefl _)) _).row (by omega) _, freshLeave Hown2.out Hsz.out⟩
  refine AllReady.cons rfl (fun K hK => ?_) AllReady.nil
  go_simp
  refine hK _ _ ?_
  clear hK K
  refine wpAny_take (i := 5) (v := (.agg (ouC ⟨0, to, 1, b⟩).toArray)) rfl (by kernel_rfl) (by kernel_rfl) (by kernel_rfl) (fun _ _ _ h => h) (Or.inl ⟨by rfl, fun w => by go_simp⟩) ?_
  refine wpAny_ready (rs := [1, 6]) (by kernel_rfl) (by simp) ?_
  refine AllReady.cons rfl (fun K hK => ?_) ?_
  · go_simp
    refine hK _ _ ?_
    clear hK K
    refine wpAny_ready (rs := [2, 6]) (by kernel_rfl) (by simp) ?_
    refine AllReady.cons rfl (fun K hK => ?_) ?_
    · go_simp
      go_wp2_with (go_at_call 38; (first | refine (cloneOut W.drew _ l (hv.kept Hk.out.drew (fun _ _ h => h)) Hl.out).mono ?_ | refine (cloneOut _ _ l (hv.kept ((Hk.out.alloc _).drew) (fun _ _ h => h)) Hl.out).mono ?_); rintro e w1 ⟨v1, rfl, ho, hk1⟩; obtain ⟨a1, c1, rfl⟩ := ownsRow_slice ho; have Ho : Hid (OwnOf cOu 78 w1 W.heap.size (.slice a1 l.length c1) l) := OwnOf.base ho (by simp); have Hk1 : Hid (Keeps No W w1) := (by first | exact ((Keeps.refl W).drew).trans hk1 (fun _ _ h => h) | exact (((Keeps.refl W).alloc _).drew).trans hk1 (fun _ _ h => h)); have Hq := Lib.hid hk1; clear hk1 ho p1 p2; obtain ⟨⟨p1, p2⟩, _⟩ := HF.out w1 Hk1.out)
      refine wpAny_ready (rs := [6]) (by kernel_rfl) (by simp) ?_
      refine AllReady.cons rfl (fun K hK => ?_) AllReady.nil
      go_simp
      refine hK _ _ ?_
      clear hK K
      refine wpAny_ready (rs := [7]) (by kernel_rfl) (by simp) ?_
      refine AllReady.cons rfl (fun K hK => ?_) AllReady.nil
      first
        | refine step_append_reads (by rfl) (.tmp 9) (.tmp 13) 24 (by rfl) W.heap.size 78 i0 _ 14 112 Try.underlying24 hi hz0 hz1 hz2 (by rfl) (by decide) (.slice a1 l.length c1) l.length (rowsOf cOu l) (by rfl) (Ho.out.alloc _) (.slice (some ⟨w1.heap.size, 0, none⟩) 1 1) 1 (ouC ⟨0, to, 1, b⟩) (by rfl) (litReads cOu w1 78 ⟨0, to, 1, b⟩) ?_ ?_ ?_ ?_
        | refine step_append_reads (by rfl) (.tmp 9) (.tmp 13) 24 (by rfl) W.heap.size 78 i0 _ 14 112 Try.underlying24 hi hz0 hz1 hz2 (by rfl) (by decide) (.slice a1 l.length c1) l.length (rowsOf cOu l) (by rfl) Ho.out (.slice (some ⟨W.heap.size, 0, none⟩) 1 1) 1 (ouC ⟨0, to, 1, b⟩) (by rfl) (((litReads cOu W 78 ⟨0, to, 1, b⟩).kept (Keeps.refl (S := No) _).drew (fun _ _ h => h)).kept Hq.out (fun _ _ h => h)) ?_ ?_ ?_ ?_
      · have := Hl.out; unfold maxLen; omega
      · have := Hl.out; omega
      · have := Hk1.out.size; simp; omega
      intro v2 w2 hown2 hk2 _ _
      obtain ⟨a2, c2, rfl⟩ := ownsRow_slice hown2
      have Hk2 : Hid (Keeps No W w2) := by
        first
          | exact (Hk1.out.alloc _).trans hk2 (fun i hi hof => absurd hi (Nat.not_lt.2 (Ho.out.lt i hof).1))
          | exact Hk1.out.trans hk2 (fun i hi hof => absurd hi (Nat.not_lt.2 (Ho.out.lt i hof).1))
      have Hown2 := Lib.hid hown2
      clear hk2 hown2 p1 p2
      obtain ⟨⟨p1, p2⟩, p3, p4, p5, p6⟩ := HF.out w2 Hk2.out
      refine hK _ _ ?_
      clear hK K
      refine wpAny_take (i := 8) (v := (.pointer (some ⟨w.heap.size, 4, none⟩))) rfl (by kernel_rfl) (by kernel_rfl) (by kernel_rfl) (fun _ _ _ h => h) (Or.inl ⟨by rfl, fun w => by go_simp⟩) ?_
      refine wpAny_ready (rs := [9]) (by kernel_rfl) (by simp) ?_
      refine AllReady.cons rfl (fun K hK => ?_) AllReady.nil
      go_simp
      refine hK _ _ ?_
      clear hK K
      refine wpAny_done (by kernel_rfl) ?_ _
      go_wp2
      have hr2 : Hid (RdOf cOu w2 (.slice a2 (l.length + 1) c2) (l ++ [⟨0, to, 1, b⟩])) := rdApp Hown2.out
      have hK2 := Lib.hid (Hk.out.trans Hk2.out (fun _ _ h => h))
      exact bodyPost_ret (v := stV ep t own dead (.slice a2 (l.length + 1) c2) ins gh nx) (by simp [results, Try.results24, go_sem, *]) rfl ⟨_, rfl, leaveReads hr2.out Hown2.out (by have := Hsz.out; omega) _ _, (hK2.out.setCell (p := ⟨w.heap.size, 4, none⟩) (fun h => absurd h (Nat.lt_irrefl _)) _).row (by omega) _, freshLeave Hown2.out Hsz.out⟩
    refine AllReady.cons rfl (fun K hK => ?_) AllReady.nil
    go_simp
    refine hK _ _ ?_
    clear hK K
    refine wpAny_ready (rs := [2]) (by kernel_rfl) (by simp) ?_
    refine AllReady.cons rfl (fun K hK => ?_) AllReady.nil
    go_simp
    go_wp2_with (go_at_call 38; (first | refine (cloneOut W.drew _ l (hv.kept Hk.out.drew (fun _ _ h => h)) Hl.out).mono ?_ | refine (cloneOut _ _ l (hv.kept ((Hk.out.alloc _).drew) (fun _ _ h => h)) Hl.out).mono ?_); rintro e w1 ⟨v1, rfl, ho, hk1⟩; obtain ⟨a1, c1, rfl⟩ := ownsRow_slice ho; have Ho : Hid (OwnOf cOu 78 w1 W.heap.size (.slice a1 l.length c1) l) := OwnOf.base ho (by simp); have Hk1 : Hid (Keeps No W w1) := (by first | exact ((Keeps.refl W).drew).trans hk1 (fun _ _ h => h) | exact (((Keeps.refl W).alloc _).drew).trans hk1 (fun _ _ h => h)); have Hq := Lib.hid hk1; clear hk1 ho p1 p2; obtain ⟨⟨p1, p2⟩, _⟩ := HF.out w1 Hk1.out)
    refine wpAny_ready (rs := [7]) (by kernel_rfl) (by simp) ?_
    refine AllReady.cons rfl (fun K hK => ?_) AllReady.nil
    first
      | refine step_append_reads (by rfl) (.tmp 9) (.tmp 13) 24 (by rfl) W.heap.size 78 i0 _ 14 112 Try.underlying24 hi hz0 hz1 hz2 (by rfl) (by decide) (.slice a1 l.length c1) l.length (rowsOf cOu l) (by rfl) (Ho.out.alloc _) (.slice (some ⟨w1.heap.size, 0, none⟩) 1 1) 1 (ouC ⟨0, to, 1, b⟩) (by rfl) (litReads cOu w1 78 ⟨0, to, 1, b⟩) ?_ ?_ ?_ ?_
      | refine step_append_reads (by rfl) (.tmp 9) (.tmp 13) 24 (by rfl) W.heap.size 78 i0 _ 14 112 Try.underlying24 hi hz0 hz1 hz2 (by rfl) (by decide) (.slice a1 l.length c1) l.length (rowsOf cOu l) (by rfl) Ho.out (.slice (some ⟨W.heap.size, 0, none⟩) 1 1) 1 (ouC ⟨0, to, 1, b⟩) (by rfl) (((litReads cOu W 78 ⟨0, to, 1, b⟩).kept (Keeps.refl (S := No) _).drew (fun _ _ h => h)).kept Hq.out (fun _ _ h => h)) ?_ ?_ ?_ ?_
    · have := Hl.out; unfold maxLen; omega
    · have := Hl.out; omega
    · have := Hk1.out.size; simp; omega
    intro v2 w2 hown2 hk2 _ _
    obtain ⟨a2, c2, rfl⟩ := ownsRow_slice hown2
    have Hk2 : Hid (Keeps No W w2) := by
      first
        | exact (Hk1.out.alloc _).trans hk2 (fun i hi hof => absurd hi (Nat.not_lt.2 (Ho.out.lt i hof).1))
        | exact Hk1.out.trans hk2 (fun i hi hof => absurd hi (Nat.not_lt.2 (Ho.out.lt i hof).1))
    have Hown2 := Lib.hid hown2
    clear hk2 hown2 p1 p2
    obtain ⟨⟨p1, p2⟩, p3, p4, p5, p6⟩ := HF.out w2 Hk2.out
    refine hK _ _ ?_
    clear hK K
    refine wpAny_take (i := 8) (v := (.pointer (some ⟨w.heap.size, 4, none⟩))) rfl (by kernel_rfl) (by kernel_rfl) (by kernel_rfl) (fun _ _ _ h => h) (Or.inl ⟨by rfl, fun w => by go_simp⟩) ?_
    refine wpAny_ready (rs := [9]) (by kernel_rfl) (by simp) ?_
    refine AllReady.cons rfl (fun K hK => ?_) AllReady.nil
    go_simp
    refine hK _ _ ?_
    clear hK K
    refine wpAny_done (by kernel_rfl) ?_ _
    go_wp2
    have hr2 : Hid (RdOf cOu w2 (.slice a2 (l.length + 1) c2) (l ++ [⟨0, to, 1, b⟩])) := rdApp Hown2.out
    have hK2 := Lib.hid (Hk.out.trans Hk2.out (fun _ _ h => h))
    exact bodyPost_ret (v := stV ep t own dead (.slice a2 (l.length + 1) c2) ins gh nx) (by simp [results, Try.results24, go_sem, *]) rfl ⟨_, rfl, leaveReads hr2.out Hown2.out (by have := Hsz.out; omega) _ _, (hK2.out.setCell (p := ⟨w.heap.size, 4, none⟩) (fun h => absurd h (Nat.lt_irrefl _)) _).row (by omega) _, freshLeave Hown2.out Hsz.out⟩
  refine AllReady.cons rfl (fun K hK => ?_) AllReady.nil
  go_simp
  refine hK _ _ ?_
  clear hK K
  refine wpAny_ready (rs := [1]) (by kernel_rfl) (by simp) ?_
  refine AllReady.cons rfl (fun K hK => ?_) AllReady.nil
  go_simp
  refine hK _ _ ?_
  clear hK K
  refine wpAny_ready (rs := [2]) (by kernel_rfl) (by simp) ?_
  refine AllReady.cons rfl (fun K hK => ?_) AllReady.nil
  go_simp
  go_wp2_with (go_at_call 38; (first | refine (cloneOut W.drew _ l (hv.kept Hk.out.drew (fun _ _ h => h)) Hl.out).mono ?_ | refine (cloneOut _ _ l (hv.kept ((Hk.out.alloc _).drew) (fun _ _ h => h)) Hl.out).mono ?_); rintro e w1 ⟨v1, rfl, ho, hk1⟩; obtain ⟨a1, c1, rfl⟩ := ownsRow_slice ho; have Ho : Hid (OwnOf cOu 78 w1 W.heap.size (.slice a1 l.length c1) l) := OwnOf.base ho (by simp); have Hk1 : Hid (Keeps No W w1) := (by first | exact ((Keeps.refl W).drew).trans hk1 (fun _ _ h => h) | exact (((Keeps.refl W).alloc _).drew).trans hk1 (fun _ _ h => h)); have Hq := Lib.hid hk1; clear hk1 ho p1 p2; obtain ⟨⟨p1, p2⟩, _⟩ := HF.out w1 Hk1.out)
  refine wpAny_ready (rs := [7]) (by kernel_rfl) (by simp) ?_
  refine AllReady.cons rfl (fun K hK => ?_) AllReady.nil
  first
    | refine step_append_reads (by rfl) (.tmp 9) (.tmp 13) 24 (by rfl) W.heap.size 78 i0 _ 14 112 Try.underlying24 hi hz0 hz1 hz2 (by rfl) (by decide) (.slice a1 l.length c1) l.length (rowsOf cOu l) (by rfl) (Ho.out.alloc _) (.slice (some ⟨w1.heap.size, 0, none⟩) 1 1) 1 (ouC ⟨0, to, 1, b⟩) (by rfl) (litReads cOu w1 78 ⟨0, to, 1, b⟩) ?_ ?_ ?_ ?_
    | refine step_append_reads (by rfl) (.tmp 9) (.tmp 13) 24 (by rfl) W.heap.size 78 i0 _ 14 112 Try.underlying24 hi hz0 hz1 hz2 (by rfl) (by decide) (.slice a1 l.length c1) l.length (rowsOf cOu l) (by rfl) Ho.out (.slice (some ⟨W.heap.size, 0, none⟩) 1 1) 1 (ouC ⟨0, to, 1, b⟩) (by rfl) (((litReads cOu W 78 ⟨0, to, 1, b⟩).kept (Keeps.refl (S := No) _).drew (fun _ _ h => h)).kept Hq.out (fun _ _ h => h)) ?_ ?_ ?_ ?_
  · have := Hl.out; unfold maxLen; omega
  · have := Hl.out; omega
  · have := Hk1.out.size; simp; omega
  intro v2 w2 hown2 hk2 _ _
  obtain ⟨a2, c2, rfl⟩ := ownsRow_slice hown2
  have Hk2 : Hid (Keeps No W w2) := by
    first
      | exact (Hk1.out.alloc _).trans hk2 (fun i hi hof => absurd hi (Nat.not_lt.2 (Ho.out.lt i hof).1))
      | exact Hk1.out.trans hk2 (fun i hi hof => absurd hi (Nat.not_lt.2 (Ho.out.lt i hof).1))
  have Hown2 := Lib.hid hown2
  clear hk2 hown2 p1 p2
  obtain ⟨⟨p1, p2⟩, p3, p4, p5, p6⟩ := HF.out w2 Hk2.out
  refine hK _ _ ?_
  clear hK K
  refine wpAny_take (i := 8) (v := (.pointer (some ⟨w.heap.size, 4, none⟩))) rfl (by kernel_rfl) (by kernel_rfl) (by kernel_rfl) (fun _ _ _ h => h) (Or.inl ⟨by rfl, fun w => by go_simp⟩) ?_
  refine wpAny_ready (rs := [9]) (by kernel_rfl) (by simp) ?_
  refine AllReady.cons rfl (fun K hK => ?_) AllReady.nil
  go_simp
  refine hK _ _ ?_
  clear hK K
  refine wpAny_done (by kernel_rfl) ?_ _
  go_wp2
  have hr2 : Hid (RdOf cOu w2 (.slice a2 (l.length + 1) c2) (l ++ [⟨0, to, 1, b⟩])) := rdApp Hown2.out
  have hK2 := Lib.hid (Hk.out.trans Hk2.out (fun _ _ h => h))
  exact bodyPost_ret (v := stV ep t own dead (.slice a2 (l.length + 1) c2) ins gh nx) (by simp [results, Try.results24, go_sem, *]) rfl ⟨_, rfl, leaveReads hr2.out Hown2.out (by have := Hsz.out; omega) _ _, (hK2.out.setCell (p := ⟨w.heap.size, 4, none⟩) (fun h => absurd h (Nat.lt_irrefl _)) _).row (by omega) _, freshLeave Hown2.out Hsz.out⟩

end
end Go.Proofs.Ytggaeihinheojaa
