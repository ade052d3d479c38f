/-
  The law's awake. No conditions of its own, but that the tables are laid.
-/
import Derived.Test.YtghamhipcpgofaaGreatDoorWaM
namespace Go.Proofs.YtghamhipcpgofaaGreatDoor
open Go.RowKit Go.Shelf Go.Sort Go.Joins

/-- a log that was made behind the world w0, in w -/
structure LogIn (w0 w : World) (base l p b : Nat) (v : Value) (g : Lg) (d : Ds) : Prop where
  log : WLog w base l p b v g d
  own : OwnInts w base v g.firsts
  new : ∀ i, LogS l p b v i → w0.heap.size ≤ i
  kp : Keeps No w0 w
section
variable {w0 w : World} {base l p b : Nat} {v : Value} {g : Lg} {d : Ds}
theorem LogIn.step {w' : World} (h : LogIn w0 w base l p b v g d) (k : Keeps No w w') : LogIn w0 w' base l p b v g d :=
  ⟨h.log.no k, k.owns h.own (fun _ _ h => h), h.new, h.kp.trans k (fun _ _ h => h)⟩
theorem LogIn.laid (h : LogIn w0 w base l p b v g d) (hL : Laid w0 base) : Laid w base := hL.kept h.kp (fun _ h => h.elim)
theorem LogIn.lt (h : LogIn w0 w base l p b v g d) : ∀ i, LogS l p b v i → i < w.heap.size := by
  intro i hi
  rcases hi with e | e | e | e
  · have := h.log.log.lt; omega
  · have := h.log.disk.lt; omega
  · have := h.log.disk.lt; omega
  · exact (h.own.lt i e).2
theorem LogIn.append_any (h : LogIn w0 w base l p b v g d) (hL : Laid w0 base) (hb : base ≤ w0.heap.size) (av : Value) (xs : List ByteArray) (hav : RdStr w av xs) (hap : ∀ i, av.ownBlock = some i → ¬ LogS l p b v i)
    (hnx : g.next + xs.length ≤ 1000000000000) (hfl : g.firsts.length + xs.length ≤ 1000000) (ec : Int) (g' : Lg) (d' : Ds) (hE : g.append d xs = (ec, g', d')) :
    Calls Tryz.prog 11 #[dP l, av] w fun e w' => e = .returned (.int .i64 ec) ∧ (∃ v', LogIn w0 w' base l p b v' g' d') ∧ Keeps (LogS l p b v) w w' := by
  refine (appendLog_any (h.laid hL) (Nat.le_trans hb h.kp.size) h.log h.own av xs hav hap hnx hfl ec g' d' hE).mono ?_
  rintro e w' ⟨rfl, v', hW, ho, hn, hk⟩
  refine ⟨rfl, ⟨v', hW, ho, fun i hi => ?_, h.kp.trans hk (fun i hi hs => absurd (h.new i hs) (Nat.not_le.2 hi))⟩, hk⟩
  rcases hi with e | e | e | e
  · exact h.new i (.inl e)
  · exact h.new i (.inr (.inl e))
  · exact h.new i (.inr (.inr (.inl e)))
  · rcases hn i e with e | e
    · exact h.new i (.inr (.inr (.inr e)))
    · exact Nat.le_trans h.kp.size e
theorem LogIn.disked {w' : World} {d' : Ds} (h : LogIn w0 w base l p b v g d) (k : Keeps (Two p b) w w') (hd : DAt w' p b d') : LogIn w0 w' base l p b v g d' :=
  ⟨h.log.disked k hd, k.owns h.own (fun i hi e => by rcases e with e | e; exact h.log.vp (e ▸ hi); exact h.log.vb (e ▸ hi)), h.new,
    h.kp.trans k (fun i hi e => by
      rcases e with e | e
      · have := h.new i (.inr (.inl e)); omega
      · have := h.new i (.inr (.inr (.inl e))); omega)⟩
theorem LogIn.sync_any (h : LogIn w0 w base l p b v g d) (hL : Laid w0 base) (ec : Int) (d' : Ds) (hE : g.sync d = (ec, d')) :
    Calls Tryz.prog 17 #[dP l] w fun e w' => e = .returned (.int .i64 ec) ∧ LogIn w0 w' base l p b v g d' ∧ Keeps (Two p b) w w' := by
  refine (syncLog_any (h.laid hL) h.log ec d' hE).mono ?_
  rintro e w' ⟨rfl, hW, hk⟩
  exact ⟨rfl, h.disked hk hW.disk, hk⟩
theorem LogIn.crash_any (h : LogIn w0 w base l p b v g d) (keep : Int) :
    Calls Tryz.prog 37 #[dP p, .int .i64 keep] w fun e w' => e = .returned (.tuple #[]) ∧ LogIn w0 w' base l p b v g (d.crash keep) ∧ Keeps (Two p b) w w' := by
  refine (crash_tot h.log.disk keep).mono ?_
  rintro e w' ⟨rfl, hd, hk⟩
  exact ⟨rfl, h.disked hk hd, hk⟩
/-- it is opened again -/
theorem LogIn.open_any (h : LogIn w0 w base l p b v g d) (hL : Laid w0 base) (hb : base ≤ w0.heap.size) (name : ByteArray) (hr : rightB name = true) (there : List Nat) (d1 : Ds) (hth : opThere d name = (0, there, d1)) (g' : Lg) (out : List Nm) (d' : Ds)
    (hend : opEnd name there (opRun name there d1) = (g', out, d')) :
    Calls Tryz.prog 20 #[dP p, .string name] w fun e w' => ∃ (l' : Nat) (v' ov : Value), e = .returned (.tuple #[dP l', ov, .int .i64 0]) ∧ LogIn w0 w' base l' p b v' g' d' ∧ LogIn w0 w' base l p b v g d' ∧ OwnStr w' w.heap.size ov out.length out ∧ w.heap.size ≤ l' ∧ Keeps (Two p b) w w' := by
  refine (openLog_any (h.laid hL) (Nat.le_trans hb h.kp.size) h.log.disk h.log.bp h.log.bb name hr there d1 hth _ rfl g' out d' hend).mono ?_
  rintro e w' ⟨l', v', ov, rfl, hW, ho, hov, hl', _, hk⟩
  refine ⟨l', v', ov, rfl, ⟨hW, ownsRow_less ho (Nat.le_trans hb h.kp.size), fun i hi => ?_, (h.disked hk hW.disk).kp⟩, h.disked hk hW.disk, hov, hl', hk⟩
  rcases hi with e | e | e | e
  · have := h.kp.size; omega
  · exact h.new i (.inr (.inl e))
  · exact h.new i (.inr (.inr (.inl e)))
  · have := (ho.lt i e).1; have := h.kp.size; omega
end

def logN : ByteArray := ⟨#[108, 111, 103]⟩
def aT (c : UInt8) : ByteArray := ⟨#[c]⟩
def aw0 : Lg × Ds := (⟨logN, [0], 0⟩, ⟨[([108, 111, 103, 46, 48, 48, 48, 48, 48, 48, 48, 48], ⟨⟨#[]⟩, 0⟩)], 4611686018427387904, false⟩)
theorem aw_open : opThere Ds.new logN = (0, [0], aw0.2) ∧ opEnd logN [0] (opRun logN [0] aw0.2) = (aw0.1, [], aw0.2) := ⟨by kernel_rfl, by kernel_rfl⟩
def aw1 : Lg × Ds := (aw0.1.append aw0.2 [aT 97, aT 98]).2
theorem aw_1 : aw0.1.append aw0.2 [aT 97, aT 98] = (0, aw1.1, aw1.2) := by kernel_rfl
def aw2 : Ds := (aw1.1.sync aw1.2).2
theorem aw_2 : aw1.1.sync aw1.2 = (0, aw2) := by kernel_rfl
def aw3 : Lg × Ds := (aw1.1.append aw2 [aT 99]).2
theorem aw_3 : aw1.1.append aw2 [aT 99] = (0, aw3.1, aw3.2) := by kernel_rfl
def aw4 : Ds := aw3.2.crash 3
def aw5 : Lg × List Nm × Ds := opEnd logN [0] (opRun logN [0] aw4)
theorem aw_5 : opThere aw4 logN = (0, [0], aw4) ∧ opEnd logN [0] (opRun logN [0] aw4) = (⟨logN, [0], 2⟩, [[97], [98]], aw5.2.2) := ⟨by kernel_rfl, by kernel_rfl⟩

set_option maxRecDepth 100000 in
set_option maxHeartbeats 2000000 in
theorem awake_any {w : World} {base : Nat} (hL : Laid w base) (hb : base ≤ w.heap.size) : Calls Tryz.prog 16 #[] w fun e w' => e = .returned (.bool true) ∧ Keeps No w w' := by
  have HL := Lib.hid hL
  have Hb := Lib.hid hb
  clear hL hb
  go_enter Tryz.func16, Tryz.ntmps16
  go_wp2_with fail
  refine (new_tot w).mono ?_
  rintro e w1 ⟨rfl, hd1, hk1⟩
  have K1 := Lib.hid hk1
  have D1 := Lib.hid hd1
  clear hk1 hd1
  go_wp2_with fail
  refine (openLog_any (HL.out.kept K1.out (fun _ h => h.elim)) (by have := Hb.out; have := K1.out.size; omega) D1.out (by have := Hb.out; omega) Hb.out logN (by kernel_rfl) [0] aw0.2 aw_open.1 _ rfl aw0.1 [] aw0.2 aw_open.2).mono ?_
  rintro e w2 ⟨l, v, ov, rfl, hW, ho, hv, hl, _, hk2⟩
  have hkk : Keeps No w w2 := K1.out.trans hk2 (fun i hi e => by rcases e with e | e <;> omega)
  have I2 : Hid (LogIn w w2 base l (w.heap.size + 1) w.heap.size v aw0.1 aw0.2) := Lib.hid ⟨hW, ownsRow_less ho (Nat.le_trans Hb.out K1.out.size), fun i hi => by
    rcases hi with e | e | e | e
    · have := K1.out.size; omega
    · omega
    · omega
    · exact Nat.le_trans K1.out.size (ho.lt i e).1, hkk⟩
  obtain ⟨ova, ovc, rfl⟩ := ownsRow_slice hv
  clear hW ho hl hv hk2 hkk
  go_wp2_with fail
  refine ((I2.out.step ((Keeps.refl (S := No) w2).alloc _)).append_any HL.out Hb.out _ [aT 97, aT 98] (Reads.ofOwn (World.ownsRow_lit w2 #[.string ⟨#[97]⟩, .string ⟨#[98]⟩] 2 (Nat.zero_le _) (by unfold maxLen; omega) rfl) (by simp [Value.oneCell'])) (fun i hi hs => by cases hi; exact absurd (I2.out.lt _ hs) (Nat.lt_irrefl _)) (by decide) (by decide) 0 aw1.1 aw1.2 aw_1).mono ?_
  rintro e w3 ⟨rfl, ⟨v3, h3⟩, _⟩
  have I3 := Lib.hid h3
  clear h3
  go_wp2_with fail
  refine (I3.out.sync_any HL.out 0 aw2 aw_2).mono ?_
  rintro e w4 ⟨rfl, h4, _⟩
  have I4 := Lib.hid h4
  clear h4
  go_wp2_with fail
  refine ((I4.out.step ((Keeps.refl (S := No) w4).alloc _)).append_any HL.out Hb.out _ [aT 99] (Reads.ofOwn (World.ownsRow_lit w4 #[.string ⟨#[99]⟩] 1 (Nat.zero_le _) (by unfold maxLen; omega) rfl) (by simp [Value.oneCell'])) (fun i hi hs => by cases hi; exact absurd (I4.out.lt _ hs) (Nat.lt_irrefl _)) (Nat.le_of_ble_eq_true (by kernel_rfl)) (Nat.le_of_ble_eq_true (by kernel_rfl)) 0 aw3.1 aw3.2 aw_3).mono ?_
  rintro e w5 ⟨rfl, ⟨v5, h5⟩, _⟩
  have I5 := Lib.hid h5
  clear h5
  go_wp2_with fail
  refine (I5.out.crash_any 3).mono ?_
  rintro e w6 ⟨rfl, h6, _⟩
  have I6 := Lib.hid h6
  clear h6
  go_wp2_with fail
  refine (I6.out.open_any HL.out Hb.out logN (by kernel_rfl) [0] aw4 aw_5.1 ⟨logN, [0], 2⟩ [[97], [98]] aw5.2.2 aw_5.2).mono ?_
  rintro e w7 ⟨l7, v7, ov7, rfl, h7, _, ho7, _, _⟩
  have I7 := Lib.hid h7
  have HO := Lib.hid ho7
  obtain ⟨oa, oc, rfl⟩ := ownsRow_slice ho7
  clear h7 ho7
  go_wp2_with fail
  refine (same_any (w7.alloc (.cells #[.string ⟨#[97]⟩, .string ⟨#[98]⟩] 9)) _ _ [[97], [98]] [[97], [98]] (RdN.ofOwn (HO.out.alloc _)) (Reads.ofOwn (World.ownsRow_lit w7 #[.string ⟨#[97]⟩, .string ⟨#[98]⟩] 2 (Nat.zero_le _) (by unfold maxLen; omega) rfl) (by simp [Value.oneCell']))).mono ?_
  rintro e w8 ⟨rfl, hk8⟩
  have I8 := Lib.hid ((I7.out.step ((Keeps.refl (S := No) w7).alloc _)).step hk8)
  have hdec : decide (([[97], [98]] : List Nm) = [[97], [98]]) = true := by decide
  rw [hdec]
  clear hk8 hdec
  go_wp2_with fail
  refine (nextLog_any I8.out.log.log).mono ?_
  rintro e w9 ⟨rfl, h9⟩
  have h9 := h9.symm
  subst h9
  go_wp2_with fail
  refine (firstLog_any I8.out.log.log 0 rfl).mono ?_
  rintro e w9 ⟨rfl, h9⟩
  have h9 := h9.symm
  subst h9
  go_wp2
  go_ret
  exact ⟨rfl, I8.out.kp⟩
end Go.Proofs.YtghamhipcpgofaaGreatDoor
