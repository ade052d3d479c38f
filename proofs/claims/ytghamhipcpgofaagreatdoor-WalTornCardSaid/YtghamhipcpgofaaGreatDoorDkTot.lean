/-
  A disk as data, and what each method makes of it, whole: each method's contract in one piece. No conditions of its own.
-/
import Derived.Test.YtghamhipcpgofaaGreatDoorDkF
namespace Go.Proofs.YtghamhipcpgofaaGreatDoor
open Go.RowKit

/-- a disk: its files, what more it takes, and whether it is dead -/
structure Ds where
  fs : Fs
  room : Int
  dead : Bool
abbrev DAt (w : World) (p b : Nat) (d : Ds) : Prop := DiskAt w p b d.fs d.room d.dead
abbrev Ds.with (d : Ds) (fs : Fs) : Ds := ⟨fs, d.room, d.dead⟩
def Ds.new : Ds := ⟨[], 4611686018427387904, false⟩
def Ds.sync (d : Ds) (n : ByteArray) : Int × Ds :=
  bif (openE d.fs d.dead n).2 == 0 then (0, d.with (putF d.fs n.data.toList ⟨(openE d.fs d.dead n).1.s, (openE d.fs d.dead n).1.s.size⟩)) else ((openE d.fs d.dead n).2, d)
def Ds.append (d : Ds) (n s : ByteArray) : Int × Ds :=
  bif (openE d.fs d.dead n).2 == 1 || (openE d.fs d.dead n).2 == 12 then ((openE d.fs d.dead n).2, d) else
  bif ((openE d.fs d.dead n).2 == 6 && decide (64 ≤ d.fs.length)) || decide (4194304 < (openE d.fs d.dead n).1.s.size + s.size) then (8, d) else
  bif decide ((s.size : Int) ≤ d.room) then (0, ⟨putF d.fs n.data.toList (withS (openE d.fs d.dead n).1 s), d.room - s.size, false⟩) else
  (12, ⟨putF d.fs n.data.toList (withS (openE d.fs d.dead n).1 (s.extract 0 d.room.toNat)), 0, true⟩)
def Ds.truncate (d : Ds) (n : ByteArray) (k : Int) : Int × Ds :=
  bif (openE d.fs d.dead n).2 == 0 then
    (bif decide (k < 0) || decide (((openE d.fs d.dead n).1.s.size : Int) < k) then (5, d) else
      (0, d.with (putF d.fs n.data.toList ⟨(openE d.fs d.dead n).1.s.extract 0 k.toNat, min (openE d.fs d.dead n).1.k k.toNat⟩)))
  else ((openE d.fs d.dead n).2, d)
def Ds.remove (d : Ds) (n : ByteArray) : Int × Ds :=
  bif (openE d.fs d.dead n).2 == 0 then (0, d.with (delF d.fs n.data.toList)) else ((openE d.fs d.dead n).2, d)
def Ds.crash (d : Ds) (keep : Int) : Ds := ⟨d.fs.map (crashP keep), 4611686018427387904, false⟩

section
variable {w : World} {p b : Nat} {d : Ds}

theorem new_tot (w : World) : Calls Tryz.prog 28 #[] w fun e w' => e = .returned (dP (w.heap.size + 1)) ∧ DAt w' (w.heap.size + 1) w.heap.size Ds.new ∧ Keeps No w w' := new_any w
theorem sync_tot (hd : DAt w p b d) (n : ByteArray) (ec : Int) (d' : Ds) (hE : d.sync n = (ec, d')) : Calls Tryz.prog 38 #[dP p, .string n] w fun e w' => e = .returned (.int .i64 ec) ∧ DAt w' p b d' ∧ Keeps (Two p b) w w' := by
  unfold Ds.sync at hE
  rcases openE_cases d.fs d.dead n with h | ⟨h0, h, h1, h2⟩ | ⟨h0, h, hg, h1, h2⟩ | ⟨f, h0, h, hg, h1, h2⟩
  all_goals
    rw [h] at hE
    dsimp only at hE
  · obtain ⟨rfl, rfl⟩ := Prod.mk.inj hE
    exact (sync_err hd n _ _ h rfl).mono fun e w' ⟨he, hk⟩ => ⟨he, hd.kept hk (fun h => h) (fun h => h), hk.mono fun _ _ h => h.elim⟩
  · obtain ⟨rfl, rfl⟩ := Prod.mk.inj hE
    exact (sync_err hd n _ _ h rfl).mono fun e w' ⟨he, hk⟩ => ⟨he, hd.kept hk (fun h => h) (fun h => h), hk.mono fun _ _ h => h.elim⟩
  · obtain ⟨rfl, rfl⟩ := Prod.mk.inj hE
    exact (sync_err hd n _ _ h rfl).mono fun e w' ⟨he, hk⟩ => ⟨he, hd.kept hk (fun h => h) (fun h => h), hk.mono fun _ _ h => h.elim⟩
  · obtain ⟨rfl, rfl⟩ := Prod.mk.inj hE
    exact (sync_ok hd n f h hg h2).mono fun e w' ⟨he, h', hk⟩ => ⟨he, h', hk.mono fun _ _ h => .inr h⟩

theorem append_tot (hd : DAt w p b d) (n s : ByteArray) (ec : Int) (d' : Ds) (hE : d.append n s = (ec, d')) : Calls Tryz.prog 19 #[dP p, .string n, .string s] w fun e w' => e = .returned (.int .i64 ec) ∧ DAt w' p b d' ∧ Keeps (Two p b) w w' := by
  obtain ⟨fs, room, dead⟩ := d
  have hd : DiskAt w p b fs room dead := hd
  unfold Ds.append at hE
  rcases openE_cases fs dead n with h | ⟨h0, h, h1, h2⟩ | ⟨h0, h, hg, h1, h2⟩ | ⟨f, h0, h, hg, h1, h2⟩
  all_goals
    dsimp only at hE
    rw [h] at hE
    dsimp only at hE
  · obtain ⟨rfl, rfl⟩ := Prod.mk.inj hE
    exact (append_err hd n s _ _ h (.inl rfl)).mono fun e w' ⟨he, hk⟩ => ⟨he, hd.kept hk (fun h => h) (fun h => h), hk.mono fun _ _ h => h.elim⟩
  · obtain ⟨rfl, rfl⟩ := Prod.mk.inj hE
    exact (append_err hd n s _ _ h (.inr rfl)).mono fun e w' ⟨he, hk⟩ => ⟨he, hd.kept hk (fun h => h) (fun h => h), hk.mono fun _ _ h => h.elim⟩
  · subst h0
    have e1 : (((6 : Int) == 1 || (6 : Int) == 12) : Bool) = false := rfl
    rw [e1, cond_false] at hE
    by_cases h64 : 64 ≤ fs.length
    · rw [decide_eq_true h64] at hE
      obtain ⟨rfl, rfl⟩ := Prod.mk.inj hE
      exact (append_full1 hd n s _ _ h rfl h64).mono fun e w' ⟨he, hk⟩ => ⟨he, hd.kept hk (fun h => h) (fun h => h), hk.mono fun _ _ h => h.elim⟩
    · by_cases hb : 4194304 < Fi.none.s.size + s.size
      · rw [decide_eq_false h64, decide_eq_true hb, Bool.and_false, Bool.false_or, cond_true] at hE
        obtain ⟨rfl, rfl⟩ := Prod.mk.inj hE
        exact (append_full2 hd n s _ _ h (.inr ⟨rfl, by show fs.length < 64; omega⟩) (by decide) (by omega)).mono fun e w' ⟨he, hk⟩ => ⟨he, hd.kept hk (fun h => h) (fun h => h), hk.mono fun _ _ h => h.elim⟩
      · rw [decide_eq_false h64, decide_eq_false hb, Bool.and_false, Bool.false_or, cond_false] at hE
        have hfew : ∀ g, (putF fs n.data.toList g).length ≤ 64 := fun g => Nat.le_trans (putF_length_le fs _ g) (by omega)
        by_cases hr : (s.size : Int) ≤ room
        · rw [decide_eq_true hr, cond_true] at hE
          obtain ⟨rfl, rfl⟩ := Prod.mk.inj hE
          exact append_all hd n s _ _ h (.inr ⟨rfl, by omega⟩) h2 ⟨by decide, by decide⟩ (by omega) hr (hfew _)
        · rw [decide_eq_false hr, cond_false] at hE
          obtain ⟨rfl, rfl⟩ := Prod.mk.inj hE
          have h0 := hd.r0
          obtain ⟨M, rfl⟩ := Int.eq_ofNat_of_zero_le h0
          exact append_part (M := M) (fs := fs) hd n s _ _ h (.inr ⟨rfl, by omega⟩) h2 ⟨by decide, by decide⟩ (by omega) (by show (M : Int) < _; omega) (hfew _)
  · subst h0
    have e1 : (((0 : Int) == 1 || (0 : Int) == 12) : Bool) = false := rfl
    rw [e1, cond_false] at hE
    have e2 : ((0 : Int) == 6) = false := rfl
    rw [e2, Bool.false_and, Bool.false_or] at hE
    have hf := hd.get_ok hg
    by_cases hb : 4194304 < f.s.size + s.size
    · rw [decide_eq_true hb, cond_true] at hE
      obtain ⟨rfl, rfl⟩ := Prod.mk.inj hE
      exact (append_full2 hd n s _ _ h (.inl rfl) hf.1 (by omega)).mono fun e w' ⟨he, hk⟩ => ⟨he, hd.kept hk (fun h => h) (fun h => h), hk.mono fun _ _ h => h.elim⟩
    · rw [decide_eq_false hb, cond_false] at hE
      have hfew : ∀ g, (putF fs n.data.toList g).length ≤ 64 := fun g => Nat.le_trans (putF_length_some hg) hd.few
      by_cases hr : (s.size : Int) ≤ room
      · rw [decide_eq_true hr, cond_true] at hE
        obtain ⟨rfl, rfl⟩ := Prod.mk.inj hE
        exact append_all hd n s _ _ h (.inl rfl) h2 hf (by omega) hr (hfew _)
      · rw [decide_eq_false hr, cond_false] at hE
        obtain ⟨rfl, rfl⟩ := Prod.mk.inj hE
        have h0 := hd.r0
        obtain ⟨M, rfl⟩ := Int.eq_ofNat_of_zero_le h0
        exact append_part (M := M) (fs := fs) hd n s _ _ h (.inl rfl) h2 hf (by omega) (by show (M : Int) < _; omega) (hfew _)

theorem truncate_tot (hd : DAt w p b d) (n : ByteArray) (k : Int) (ec : Int) (d' : Ds) (hE : d.truncate n k = (ec, d')) : Calls Tryz.prog 18 #[dP p, .string n, .int .i64 k] w fun e w' => e = .returned (.int .i64 ec) ∧ DAt w' p b d' ∧ Keeps (Two p b) w w' := by
  unfold Ds.truncate at hE
  rcases openE_cases d.fs d.dead n with h | ⟨h0, h, h1, h2⟩ | ⟨h0, h, hg, h1, h2⟩ | ⟨f, h0, h, hg, h1, h2⟩
  all_goals
    rw [h] at hE
    dsimp only at hE
  · obtain ⟨rfl, rfl⟩ := Prod.mk.inj hE
    exact (truncate_err hd n k _ _ h rfl).mono fun e w' ⟨he, hk⟩ => ⟨he, hd.kept hk (fun h => h) (fun h => h), hk.mono fun _ _ h => h.elim⟩
  · obtain ⟨rfl, rfl⟩ := Prod.mk.inj hE
    exact (truncate_err hd n k _ _ h rfl).mono fun e w' ⟨he, hk⟩ => ⟨he, hd.kept hk (fun h => h) (fun h => h), hk.mono fun _ _ h => h.elim⟩
  · obtain ⟨rfl, rfl⟩ := Prod.mk.inj hE
    exact (truncate_err hd n k _ _ h rfl).mono fun e w' ⟨he, hk⟩ => ⟨he, hd.kept hk (fun h => h) (fun h => h), hk.mono fun _ _ h => h.elim⟩
  · have e1 : ((0 : Int) == 0) = true := rfl
    rw [e1, cond_true] at hE
    by_cases hb : k < 0 ∨ (f.s.size : Int) < k
    · have hb2 : (decide (k < 0) || decide ((f.s.size : Int) < k)) = true := by simpa using hb
      rw [hb2, cond_true] at hE
      obtain ⟨rfl, rfl⟩ := Prod.mk.inj hE
      exact (truncate_range hd n k _ _ h rfl hb).mono fun e w' ⟨he, hk⟩ => ⟨he, hd.kept hk (fun h => h) (fun h => h), hk.mono fun _ _ h => h.elim⟩
    · have hb2 : (decide (k < 0) || decide ((f.s.size : Int) < k)) = false := by simpa using hb
      rw [hb2, cond_false] at hE
      obtain ⟨rfl, rfl⟩ := Prod.mk.inj hE
      obtain ⟨K, rfl⟩ := Int.eq_ofNat_of_zero_le (show 0 ≤ k by omega)
      exact (truncate_ok hd n f h hg h2 K (by omega)).mono fun e w' ⟨he, h', hk⟩ => ⟨he, h', hk.mono fun _ _ h => .inr h⟩

theorem remove_tot (hd : DAt w p b d) (n : ByteArray) (ec : Int) (d' : Ds) (hE : d.remove n = (ec, d')) : Calls Tryz.prog 46 #[dP p, .string n] w fun e w' => e = .returned (.int .i64 ec) ∧ DAt w' p b d' ∧ Keeps (Two p b) w w' := by
  unfold Ds.remove at hE
  rcases openE_cases d.fs d.dead n with h | ⟨h0, h, h1, h2⟩ | ⟨h0, h, hg, h1, h2⟩ | ⟨f, h0, h, hg, h1, h2⟩
  all_goals
    rw [h] at hE
    dsimp only at hE
  · obtain ⟨rfl, rfl⟩ := Prod.mk.inj hE
    exact (remove_err hd n _ _ h rfl).mono fun e w' ⟨he, hk⟩ => ⟨he, hd.kept hk (fun h => h) (fun h => h), hk.mono fun _ _ h => h.elim⟩
  · obtain ⟨rfl, rfl⟩ := Prod.mk.inj hE
    exact (remove_err hd n _ _ h rfl).mono fun e w' ⟨he, hk⟩ => ⟨he, hd.kept hk (fun h => h) (fun h => h), hk.mono fun _ _ h => h.elim⟩
  · obtain ⟨rfl, rfl⟩ := Prod.mk.inj hE
    exact (remove_err hd n _ _ h rfl).mono fun e w' ⟨he, hk⟩ => ⟨he, hd.kept hk (fun h => h) (fun h => h), hk.mono fun _ _ h => h.elim⟩
  · obtain ⟨rfl, rfl⟩ := Prod.mk.inj hE
    exact (remove_ok hd n f h h2).mono fun e w' ⟨he, h', hk⟩ => ⟨he, h', hk.mono fun _ _ h => .inr h⟩
theorem crash_tot (hd : DAt w p b d) (keep : Int) : Calls Tryz.prog 37 #[dP p, .int .i64 keep] w fun e w' => e = .returned (.tuple #[]) ∧ DAt w' p b (d.crash keep) ∧ Keeps (Two p b) w w' := crash_any hd keep
end
end Go.Proofs.YtghamhipcpgofaaGreatDoor
