/-
  Texts in one: LfM, LfN, LfO, LfP. No conditions of their own.
-/
import Derived.Test.YtpbpgjfdledgoaaGreatDoorZc30
import Derived.Test.YtpbpgjfdledgoaaGreatDoorZc31
import Derived.Test.YtpbpgjfdledgoaaGreatDoorZc28
import Derived.BigQuiet

/-
  The document's TakeIDs: the names that come next. No conditions of its own.
-/
namespace Go.Proofs.YtpbpgjfdledgoaaGreatDoor
open Go.RowKit Go.Shelf Go.Sort Go.Joins Go.Deep

/-- where the loop stands: what is still to be read makes X of what was read; or it is bad -/
def IdsAt (X : List Nam × Rdr) (n j : Nat) (l : List Nam) (r : Rdr) : Prop := (r.isSome = true ∧ takeN takeNam (n - j) l r = X) ∨ (r = none ∧ X = ([], none))
theorem IdsAt.step {X : List Nam × Rdr} {n j : Nat} {l : List Nam} {s : Nm} (h : IdsAt X n j l (some s)) (hj : j < n) : IdsAt X n (j + 1) (l ++ [(takeNam (some s)).1]) (takeNam (some s)).2 := by
  rcases h with ⟨_, h⟩ | ⟨h, _⟩
  · rw [show n - j = (n - (j + 1)) + 1 by omega] at h
    unfold takeN at h
    cases hi : (takeNam (some s)).2.isSome with
    | true => rw [hi] at h; exact .inl ⟨hi, h⟩
    | false =>
      rw [hi] at h
      refine .inr ⟨?_, h.symm⟩
      cases h2 : (takeNam (some s)).2 with
      | none => rfl
      | some t => rw [h2] at hi; cases hi
  · cases h
def IdsPost (w : World) (g : Nat) (X : List Nam × Rdr) (e : Ending) (w' : World) : Prop := ∃ v, e = .returned v ∧ OwnOf cNam 23 w' w.heap.size v X.1 ∧ RrAt w' g X.2 ∧ Keeps (Own g) w w'
def IdsRel (w : World) (g : Nat) (X : List Nam × Rdr) (n : Nat) (lv q : Value) (wr : World) : Prop :=
  ∃ (j : Nat) (l : List Nam) (r : Rdr), j ≤ n ∧ q = .int .i64 j ∧ OwnOf cNam 23 wr w.heap.size lv l ∧ l.length ≤ j ∧ RrAt wr g r ∧ IdsAt X n j l r ∧ Keeps (Own g) w wr
set_option maxRecDepth 100000 in
set_option maxHeartbeats 4000000 in
theorem rtakeIds_any {w : World} {g : Nat} {r : Rdr} (h : RrAt w g r) : Calls Tryz.prog 64 #[dP g, .int .i64 1024] w (IdsPost w g (takeLs takeNam 1024 r)) := by
  obtain ⟨X, hX⟩ : ∃ x, x = takeLs takeNam 1024 r := ⟨_, rfl⟩
  rw [← hX]
  unfold takeLs at hX
  have hlt := h.lt
  have CC := Lib.hid (rcount_any h 1024)
  have hcb : 0 ≤ (rdCount 1024 r).1 ∧ (rdCount 1024 r).1 ≤ 1024 := by
    unfold rdCount
    cases h1 : decide ((rdI r).1 < 0) || decide ((1024 : Int) < (rdI r).1)
    · rw [Bool.or_eq_false_iff, decide_eq_false_iff_not, decide_eq_false_iff_not] at h1
      simp only [cond_false]
      omega
    · exact ⟨Int.le_refl _, (by decide : (0 : Int) ≤ 1024)⟩
  obtain ⟨p, hp⟩ : ∃ p, p = rdCount 1024 r := ⟨_, rfl⟩
  rw [← hp] at CC hX hcb
  obtain ⟨c, r0⟩ := p
  obtain ⟨n, hn⟩ : ∃ n : Nat, (n : Int) = c := ⟨c.toNat, by simp only at hcb; omega⟩
  have hnb : n ≤ 1024 := by simp only at hcb; omega
  rw [← hn] at CC hX
  have HX : Hid (X = takeN takeNam n [] r0) := Lib.hid (by rw [hX]; rfl)
  clear h hp hX hcb hn
  go_enter Tryz.func64, Tryz.ntmps64
  go_wp2_with fail
  (with_reducible refine CC.out.mono ?_)
  rintro e w1 ⟨rfl, hr, hk⟩
  have I0 : Hid (IdsRel w g X n (.slice none 0 0) (.int .i64 0) w1) := Lib.hid ⟨0, [], r0, Nat.zero_le _, rfl, World.ownsRow_nil _ _ _ _, Nat.le_refl _, hr, by
    cases h0 : r0 with
    | none =>
      right
      refine ⟨rfl, ?_⟩
      rw [HX.out, h0]
      cases n <;> rfl
    | some s => exact .inl ⟨rfl, by rw [HX.out, h0]; rfl⟩, hk⟩
  clear hr hk CC
  go_wp2
  go_loopw [5, 7] (fun lv q wr => IdsRel w g X n lv q wr) (fun _ q _ => n - (intOf q).toNat)
  case atStart => exact I0.out
  case round =>
    obtain ⟨j, l, rr, hj, rfl, ho, hl, hr, hi, hK⟩ := hrel
    obtain ⟨la, lc, rfl⟩ := ownsRow_slice ho
    have OO := Lib.hid ho
    have RR := Lib.hid hr
    have II := Lib.hid hi
    have KK := Lib.hid hK
    have l1 := hr.cell1
    have hj0 : (0 : Int) ≤ (j : Int) := by omega
    have hjb : (j : Int) ≤ 1024 := by omega
    have HLJ := Lib.hid hl
    clear ho hr hi hK hl I0
    by_cases hlt2 : j < n
    · have hji : (j : Int) < (n : Int) := by omega
      cases rr with
      | none =>
        have HX2 : Hid (X = ([], none)) := Lib.hid (by
          rcases II.out with ⟨h, _⟩ | ⟨_, h⟩
          · cases h
          · exact h)
        have l1 : wr.cell? ⟨g, 1, none⟩ = some (.bool true) := l1
        clear II hlt2
        go_wp2
        go_ret
        exact ⟨_, rfl, by rw [HX2.out]; exact World.ownsRow_nil _ _ _ _, by rw [HX2.out]; exact RR.out, KK.out⟩
      | some s =>
        have l1 : wr.cell? ⟨g, 1, none⟩ = some (.bool false) := l1
        have ST := Lib.hid (II.out.step hlt2)
        have CT := Lib.hid (rtakeNam_any RR.out)
        obtain ⟨p, hp⟩ : ∃ p, p = takeNam (some s) := ⟨_, rfl⟩
        rw [← hp] at ST CT
        obtain ⟨⟨n0, n1, n2⟩, r'⟩ := p
        clear hp II hlt2
        go_wp2_with fail
        (with_reducible refine CT.out.mono ?_)
        rintro e w2 ⟨rfl, hr2, hk2⟩
        have R2 := Lib.hid hr2
        have K2 := Lib.hid (KK.out.trans hk2 (fun _ _ h => h))
        have O2 := Lib.hid (hk2.owns OO.out (fun i hi e => by have := (OO.out.lt i hi).1; have e : i = g := e; omega))
        obtain ⟨i0, hi, hz0, hz1, hz2⟩ := info_parts Tryz.infoID
        clear hr2 hk2 CT l1
        go_wp2_with (at_builtin; refine wpList_append_reads rfl (.tmp 23) (.tmp 26) 28 rfl w.heap.size 23 i0 _ 3 24 Tryz.underlying28 hi hz0 hz1 hz2 rfl (by decide) (.slice la l.length lc) l.length (rowsOf cNam l) rfl (O2.out.alloc _) (.slice (some ⟨w2.heap.size, 0, none⟩) 1 1) 1 (namC ⟨n0, n1, n2⟩) rfl (litReads cNam w2 23 ⟨n0, n1, n2⟩) ?c1 ?c2 ?c3 ?c4)
        case c1 => have := HLJ.out; unfold maxLen; omega
        case c2 => have := HLJ.out; omega
        case c3 => have := K2.out.size; simp; omega
        case c4 =>
          intro v5 w5 hown5 hk5 hnew5 _
          have O5 := Lib.hid (ownApp (a := (⟨n0, n1, n2⟩ : Nam)) hown5)
          have k5 : Keeps (Of (.slice la l.length lc)) w2 w5 := ((Keeps.refl w2).alloc _).trans hk5 (fun _ _ h => h)
          have R5 := Lib.hid (R2.out.kept k5 (fun e => by have := (O2.out.lt g e).1; omega))
          have K5 : Hid (Keeps (Own g) w w5) := Lib.hid (K2.out.trans k5 (fun i hi e => by have := (O2.out.lt i e).1; omega))
          clear hown5 hk5 hnew5 hi hz0 hz1 hz2 k5
          go_wp2
          go_roundw
          case rel => exact ⟨j + 1, l ++ [⟨n0, n1, n2⟩], r', by omega, by go_num, O5.out, by rw [List.length_append, List.length_singleton]; have := HLJ.out; omega, R5.out, ST.out, K5.out⟩
          case measure => simp [intOf]; omega
    · have hji : ¬ (j : Int) < (n : Int) := by omega
      have hjn : n - j = 0 := by omega
      cases rr with
      | none =>
        have HX2 : Hid (X = ([], none)) := Lib.hid (by
          rcases II.out with ⟨h, _⟩ | ⟨_, h⟩
          · cases h
          · exact h)
        have l1 : wr.cell? ⟨g, 1, none⟩ = some (.bool true) := l1
        clear II hlt2 hjn
        go_wp2
        go_ret
        exact ⟨_, rfl, by rw [HX2.out]; exact World.ownsRow_nil _ _ _ _, by rw [HX2.out]; exact RR.out, KK.out⟩
      | some s =>
        have HX2 : Hid (X = (l, some s)) := Lib.hid (by
          rcases II.out with ⟨_, h⟩ | ⟨h, _⟩
          · rw [hjn] at h; exact h.symm
          · cases h)
        have l1 : wr.cell? ⟨g, 1, none⟩ = some (.bool false) := l1
        clear II hlt2 hjn
        go_wp2
        go_ret
        exact ⟨_, rfl, by rw [HX2.out]; exact OO.out, by rw [HX2.out]; exact RR.out, KK.out⟩
end Go.Proofs.YtpbpgjfdledgoaaGreatDoor

/-
  The document's May: may a record be? No conditions of its own.
-/
namespace Go.Proofs.YtpbpgjfdledgoaaGreatDoor
open Go.RowKit Go.Shelf Go.Sort Go.Joins Go.Deep

theorem mayL_1 {r : Lr} (h : r.k = 1) : mayL r = (decide (1 ≤ r.n) && (decide (r.n ≤ 1099511627776) && ((decide (r.s = 0) && decide (r.i = 0)) && (cmEq r.c Cm.zero && r.ids.isEmpty)))) := by
  unfold mayL okI
  rw [h]
  simp only [Bool.and_assoc]
  rfl
theorem mayL_2 {r : Lr} (h : r.k = 2) : mayL r = (decide (r.n = 0) && (decide (0 ≤ r.s) && (decide (r.s ≤ 15) && (decide (0 ≤ r.i) && (decide (r.i ≤ 15) && (cmEq r.c Cm.zero && r.ids.isEmpty)))))) := by
  unfold mayL okI
  rw [h]
  simp only [Bool.and_assoc]
  rfl
theorem mayL_3 {r : Lr} (h : r.k = 3) : mayL r = (decide (r.n = 0) && ((decide (r.s = 0) && decide (r.i = 0)) && (cmdOk r.c && r.ids.isEmpty))) := by
  unfold mayL
  rw [h]
  simp only [Bool.and_assoc]
  rfl
theorem mayL_4 {r : Lr} (h : r.k = 4) : mayL r = (decide (r.n = 0) && ((decide (r.s = 0) && decide (r.i = 0)) && (cmEq r.c Cm.zero && r.ids.isEmpty))) := by
  unfold mayL
  rw [h]
  simp only [Bool.and_assoc]
  rfl
theorem mayL_5 {r : Lr} (h : r.k = 5) : mayL r = (r.ids.all idOk && (decide (r.n = 0) && ((decide (r.s = 0) && decide (r.i = 0)) && (cmEq r.c Cm.zero && decide (r.ids.length ≤ 1024))))) := by
  unfold mayL
  rw [h]
  cases r.ids.all idOk <;> simp [Bool.and_assoc]
theorem mayL_0 {r : Lr} (h1 : ¬ r.k = 1) (h2 : ¬ r.k = 2) (h3 : ¬ r.k = 3) (h4 : ¬ r.k = 4) (h5 : ¬ r.k = 5) : mayL r = false := by
  unfold mayL
  rw [show (r.k == 1) = false by simpa using h1, show (r.k == 2) = false by simpa using h2, show (r.k == 3) = false by simpa using h3, show (r.k == 4) = false by simpa using h4, show (r.k == 5) = false by simpa using h5]
  rfl
set_option maxRecDepth 100000 in
set_option maxHeartbeats 8000000 in
theorem rmayL_any (w : World) (r : Lr) (v : Value) (hv : RdOf cNam w v r.ids) : Calls Tryz.prog 52 #[lrV r v] w fun e w' => e = .returned (.bool (mayL r)) ∧ Keeps No w w' := by
  obtain ⟨va, vc, rfl⟩ := hv.slice
  obtain ⟨E, hE⟩ : ∃ x, x = mayL r := ⟨_, rfl⟩
  rw [← hE]
  have HE := Lib.hid hE
  have HV := Lib.hid hv
  have hmx := RdOf.len cNam hv
  unfold maxLen at hmx
  have HMX : Hid ((r.ids.length : Int) ≤ 9223372036854775807) := Lib.hid (by omega)
  obtain ⟨A, hA⟩ : ∃ x, x = (r.n == 0) := ⟨_, rfl⟩
  obtain ⟨B, hB⟩ : ∃ x, x = (r.s == 0) := ⟨_, rfl⟩
  obtain ⟨B2, hB2⟩ : ∃ x, x = (r.i == 0) := ⟨_, rfl⟩
  obtain ⟨C, hC⟩ : ∃ x, x = cmEq r.c Cm.zero := ⟨_, rfl⟩
  obtain ⟨D, hD⟩ : ∃ x, x = ((r.ids.length : Int) == 0) := ⟨_, rfl⟩
  have HA : Hid (A = decide (r.n = 0)) := Lib.hid (by rw [hA]; rfl)
  have HB : Hid (B = decide (r.s = 0)) := Lib.hid (by rw [hB]; rfl)
  have HB2 : Hid (B2 = decide (r.i = 0)) := Lib.hid (by rw [hB2]; rfl)
  have HC := Lib.hid hC
  have HD : Hid (D = r.ids.isEmpty) := Lib.hid (by rw [hD]; cases r.ids with | nil => rfl | cons a l => simp; omega)
  have ec : ∀ W', (binOp .eql 27 (.agg (cmC r.c).toArray) (.agg #[.int .i64 0, .int .i64 0, .int .i64 0, .int .i64 0, .int .i64 0, .int .i64 0, .int .i64 0, .int .i64 0, .int .i64 0, .int .i64 0, .int .i64 0, .int .i64 0, .int .i64 0, .int .i64 0, .int .i64 0, .int .i64 0])).run Tryz.prog W' = .ok (.bool C) W' := fun W' => by rw [hC]; exact run_eqlCm r.c Cm.zero W'
  replace hA := hA.symm
  replace hB := hB.symm
  replace hB2 := hB2.symm
  replace hD := hD.symm
  clear hE hv hC hmx
  go_enter Tryz.func52, Tryz.ntmps52
  go_upto_region 1 with fail
  refine wp_world ?_
  intro W hW
  have KW : Hid (Keeps No w W) := Lib.hid (by rw [hW]; exact (Keeps.refl w).alloc _)
  have cB : cellsAt W w.heap.size 0 21 = some (lrC r (.slice va r.ids.length vc)) := by rw [hW]; simp [go_sem]
  have CBH := Lib.hid cB
  obtain ⟨g, hg⟩ : ∃ g, g = w.heap.size := ⟨_, rfl⟩
  rw [← hg] at cB CBH ⊢
  have x0 := cellsAt_cell cB 0 _ rfl
  have x1 := cellsAt_cell cB 1 _ rfl
  have x2 := cellsAt_cell cB 2 _ rfl
  have x3 := cellsAt_cell cB 3 _ rfl
  have x20 := cellsAt_cell cB 20 _ rfl
  have xC : cellsAt W g 4 16 = some (cmC r.c) := cellsAt_part cB 4 (cmC r.c) rfl (by simp)
  simp only [Nat.zero_add] at x0 x1 x2 x3 x20
  have l1 : ∀ m, (W.drewN m).cell? ⟨g, 1, none⟩ = some (.int .i64 r.n) := fun _ => x1
  have l2 : ∀ m, (W.drewN m).cell? ⟨g, 2, none⟩ = some (.int .i64 r.s) := fun _ => x2
  have l3 : ∀ m, (W.drewN m).cell? ⟨g, 3, none⟩ = some (.int .i64 r.i) := fun _ => x3
  have l20 : ∀ m, (W.drewN m).cell? ⟨g, 20, none⟩ = some (.slice va r.ids.length vc) := fun _ => x20
  have lC : ∀ m, cellsAt (W.drewN m) g 4 16 = some (cmC r.c) := fun _ => xC
  clear hW hg cB
  go_cut [3, 4, 5, 6] (fun a b c d wc => a = .bool A ∧ b = .bool (B && B2) ∧ c = .bool C ∧ d = .bool D ∧ Keeps No W wc)
  case first =>
    cases B
    all_goals
      go_quiet (fail)
      go_wp2_with fail
      go_meet
      exact ⟨rfl, rfl, rfl, rfl, (Keeps.refl W).drewN _⟩
  case rest =>
    obtain ⟨K, hK⟩ : ∃ K, K = (B && B2) := ⟨_, rfl⟩
    have HK : Hid (K = (decide (r.s = 0) && decide (r.i = 0))) := Lib.hid (by rw [hK, HB.out, HB2.out])
    obtain ⟨rfl, h4, rfl, rfl, hk⟩ := hcut
    rw [← hK] at h4
    subst h4
    obtain ⟨V, hV⟩ : ∃ V : World, V = wc := ⟨_, rfl⟩
    subst hV
    have KV : Hid (Keeps No w V) := Lib.hid (KW.out.trans hk (fun _ _ h => h))
    replace x0 := hk.cell x0 (fun h => h)
    replace x1 := hk.cell x1 (fun h => h)
    replace x2 := hk.cell x2 (fun h => h)
    replace x3 := hk.cell x3 (fun h => h)
    replace x20 := hk.cell x20 (fun h => h)
    replace xC := hk.cellsAt xC
    have HV2 : Hid (RdOf cNam V (.slice va r.ids.length vc) r.ids) := Lib.hid (HV.out.kept KV.out (fun _ _ h => h))
    clear hA hB hB2 hD hK hk l1 l2 l3 l20 lC ec KW CBH HV HB HB2
    have EA := HA.out
    have EK := HK.out
    have EC := HC.out
    have ED := HD.out
    by_cases hk1 : r.k = 1
    · have b1 : (r.k == 1) = true := by rw [hk1]; rfl
      have b2 : (r.k == 2) = false := by rw [hk1]; rfl
      have b3 : (r.k == 3) = false := by rw [hk1]; rfl
      have b4 : (r.k == 4) = false := by rw [hk1]; rfl
      have b5 : (r.k == 5) = false := by rw [hk1]; rfl
      have HE1 : Hid (E = (decide (1 ≤ r.n) && (decide (r.n ≤ 1099511627776) && (K && (C && D))))) := Lib.hid (by rw [HE.out, mayL_1 hk1, ← EK, ← EC, ← ED])
      clear HE EA EK EC ED HA HK HC HD hk1
      by_cases p1 : 1 ≤ r.n
      · by_cases p2 : r.n ≤ 1099511627776
        · cases K with
          | false =>
            have HF : Hid (E = false) := Lib.hid (by rw [HE1.out]; simp [p1, p2])
            clear HE1
            go_wp2
            go_ret
            exact ⟨by rw [HF.out]; rfl, KV.out⟩
          | true =>
            cases C with
            | false =>
              have HF : Hid (E = false) := Lib.hid (by rw [HE1.out]; simp [p1, p2])
              clear HE1
              go_wp2
              go_ret
              exact ⟨by rw [HF.out]; rfl, KV.out⟩
            | true =>
              cases D with
              | false =>
                have HF : Hid (E = false) := Lib.hid (by rw [HE1.out]; simp [p1, p2])
                clear HE1
                go_wp2
                go_ret
                exact ⟨by rw [HF.out]; rfl, KV.out⟩
              | true =>
                have HF : Hid (E = true) := Lib.hid (by rw [HE1.out]; simp [p1, p2])
                clear HE1
                go_wp2
                go_ret
                exact ⟨by rw [HF.out]; rfl, KV.out⟩
        · have HF : Hid (E = false) := Lib.hid (by rw [HE1.out]; simp [p1, p2])
          clear HE1
          go_wp2
          go_ret
          exact ⟨by rw [HF.out]; rfl, KV.out⟩
      · have HF : Hid (E = false) := Lib.hid (by rw [HE1.out]; simp [p1])
        clear HE1
        go_wp2
        go_ret
        exact ⟨by rw [HF.out]; rfl, KV.out⟩
    have n1 : ¬ r.k = 1 := hk1
    clear hk1
    by_cases hk1 : r.k = 2
    · have b1 : (r.k == 1) = false := by rw [hk1]; rfl
      have b2 : (r.k == 2) = true := by rw [hk1]; rfl
      have b3 : (r.k == 3) = false := by rw [hk1]; rfl
      have b4 : (r.k == 4) = false := by rw [hk1]; rfl
      have b5 : (r.k == 5) = false := by rw [hk1]; rfl
      have HE1 : Hid (E = (A && (decide (0 ≤ r.s) && (decide (r.s ≤ 15) && (decide (0 ≤ r.i) && (decide (r.i ≤ 15) && (C && D))))))) := Lib.hid (by rw [HE.out, mayL_2 hk1, ← EA, ← EC, ← ED])
      clear HE EA EK EC ED HA HK HC HD hk1
      cases A with
      | false =>
        have HF : Hid (E = false) := Lib.hid (by rw [HE1.out]; simp)
        clear HE1
        go_wp2
        go_ret
        exact ⟨by rw [HF.out]; rfl, KV.out⟩
      | true =>
        by_cases p1 : 0 ≤ r.s
        · by_cases p2 : r.s ≤ 15
          · by_cases p3 : 0 ≤ r.i
            · by_cases p4 : r.i ≤ 15
              · cases C with
                | false =>
                  have HF : Hid (E = false) := Lib.hid (by rw [HE1.out]; simp [p1, p2, p3, p4])
                  clear HE1
                  go_wp2
                  go_ret
                  exact ⟨by rw [HF.out]; rfl, KV.out⟩
                | true =>
                  cases D with
                  | false =>
                    have HF : Hid (E = false) := Lib.hid (by rw [HE1.out]; simp [p1, p2, p3, p4])
                    clear HE1
                    go_wp2
                    go_ret
                    exact ⟨by rw [HF.out]; rfl, KV.out⟩
                  | true =>
                    have HF : Hid (E = true) := Lib.hid (by rw [HE1.out]; simp [p1, p2, p3, p4])
                    clear HE1
                    go_wp2
                    go_ret
                    exact ⟨by rw [HF.out]; rfl, KV.out⟩
              · have HF : Hid (E = false) := Lib.hid (by rw [HE1.out]; simp [p1, p2, p3, p4])
                clear HE1
                go_wp2
                go_ret
                exact ⟨by rw [HF.out]; rfl, KV.out⟩
            · have HF : Hid (E = false) := Lib.hid (by rw [HE1.out]; simp [p1, p2, p3])
              clear HE1
              go_wp2
              go_ret
              exact ⟨by rw [HF.out]; rfl, KV.out⟩
          · have HF : Hid (E = false) := Lib.hid (by rw [HE1.out]; simp [p1, p2])
            clear HE1
            go_wp2
            go_ret
            exact ⟨by rw [HF.out]; rfl, KV.out⟩
        · have HF : Hid (E = false) := Lib.hid (by rw [HE1.out]; simp [p1])
          clear HE1
          go_wp2
          go_ret
          exact ⟨by rw [HF.out]; rfl, KV.out⟩
    have n2 : ¬ r.k = 2 := hk1
    clear hk1
    by_cases hk1 : r.k = 3
    · have b1 : (r.k == 1) = false := by rw [hk1]; rfl
      have b2 : (r.k == 2) = false := by rw [hk1]; rfl
      have b3 : (r.k == 3) = true := by rw [hk1]; rfl
      have b4 : (r.k == 4) = false := by rw [hk1]; rfl
      have b5 : (r.k == 5) = false := by rw [hk1]; rfl
      obtain ⟨M, hM⟩ : ∃ M, M = cmdOk r.c := ⟨_, rfl⟩
      have EM := hM
      have CMC := Lib.hid (fun W' => mayCmdR_any W' r.c)
      rw [← hM] at CMC
      have HE1 : Hid (E = (A && (K && (M && D)))) := Lib.hid (by rw [HE.out, mayL_3 hk1, ← EA, ← EK, ← EM, ← ED])
      clear HE EA EK EC ED HA HK HC HD hk1 EM hM
      cases A with
      | false =>
        have HF : Hid (E = false) := Lib.hid (by rw [HE1.out]; simp)
        clear HE1
        go_wp2
        go_ret
        exact ⟨by rw [HF.out]; rfl, KV.out⟩
      | true =>
        cases K with
        | false =>
          have HF : Hid (E = false) := Lib.hid (by rw [HE1.out]; simp)
          clear HE1
          go_wp2
          go_ret
          exact ⟨by rw [HF.out]; rfl, KV.out⟩
        | true =>
          cases M with
          | false =>
            go_wp2_with fail
            (with_reducible refine (CMC.out _).mono ?_)
            rintro e w5 ⟨rfl, hk5⟩
            have K5 : Hid (Keeps No w w5) := Lib.hid (KV.out.trans hk5 (fun _ _ h => h))
            clear hk5
            have HF : Hid (E = false) := Lib.hid (by rw [HE1.out]; simp)
            clear HE1
            go_wp2
            go_ret
            exact ⟨by rw [HF.out]; rfl, K5.out⟩
          | true =>
            cases D with
            | false =>
              go_wp2_with fail
              (with_reducible refine (CMC.out _).mono ?_)
              rintro e w5 ⟨rfl, hk5⟩
              have K5 : Hid (Keeps No w w5) := Lib.hid (KV.out.trans hk5 (fun _ _ h => h))
              clear hk5
              have HF : Hid (E = false) := Lib.hid (by rw [HE1.out]; simp)
              clear HE1
              go_wp2
              go_ret
              exact ⟨by rw [HF.out]; rfl, K5.out⟩
            | true =>
              go_wp2_with fail
              (with_reducible refine (CMC.out _).mono ?_)
              rintro e w5 ⟨rfl, hk5⟩
              have K5 : Hid (Keeps No w w5) := Lib.hid (KV.out.trans hk5 (fun _ _ h => h))
              clear hk5
              have HF : Hid (E = true) := Lib.hid (by rw [HE1.out]; simp)
              clear HE1
              go_wp2
              go_ret
              exact ⟨by rw [HF.out]; rfl, K5.out⟩
    have n3 : ¬ r.k = 3 := hk1
    clear hk1
    by_cases hk1 : r.k = 4
    · have b1 : (r.k == 1) = false := by rw [hk1]; rfl
      have b2 : (r.k == 2) = false := by rw [hk1]; rfl
      have b3 : (r.k == 3) = false := by rw [hk1]; rfl
      have b4 : (r.k == 4) = true := by rw [hk1]; rfl
      have b5 : (r.k == 5) = false := by rw [hk1]; rfl
      have HE1 : Hid (E = (A && (K && (C && D)))) := Lib.hid (by rw [HE.out, mayL_4 hk1, ← EA, ← EK, ← EC, ← ED])
      clear HE EA EK EC ED HA HK HC HD hk1
      cases A with
      | false =>
        have HF : Hid (E = false) := Lib.hid (by rw [HE1.out]; simp)
        clear HE1
        go_wp2
        go_ret
        exact ⟨by rw [HF.out]; rfl, KV.out⟩
      | true =>
        cases K with
        | false =>
          have HF : Hid (E = false) := Lib.hid (by rw [HE1.out]; simp)
          clear HE1
          go_wp2
          go_ret
          exact ⟨by rw [HF.out]; rfl, KV.out⟩
        | true =>
          cases C with
          | false =>
            have HF : Hid (E = false) := Lib.hid (by rw [HE1.out]; simp)
            clear HE1
            go_wp2
            go_ret
            exact ⟨by rw [HF.out]; rfl, KV.out⟩
          | true =>
            cases D with
            | false =>
              have HF : Hid (E = false) := Lib.hid (by rw [HE1.out]; simp)
              clear HE1
              go_wp2
              go_ret
              exact ⟨by rw [HF.out]; rfl, KV.out⟩
            | true =>
              have HF : Hid (E = true) := Lib.hid (by rw [HE1.out]; simp)
              clear HE1
              go_wp2
              go_ret
              exact ⟨by rw [HF.out]; rfl, KV.out⟩
    have n4 : ¬ r.k = 4 := hk1
    clear hk1
    by_cases hk1 : r.k = 5
    · have b1 : (r.k == 1) = false := by rw [hk1]; rfl
      have b2 : (r.k == 2) = false := by rw [hk1]; rfl
      have b3 : (r.k == 3) = false := by rw [hk1]; rfl
      have b4 : (r.k == 4) = false := by rw [hk1]; rfl
      have b5 : (r.k == 5) = true := by rw [hk1]; rfl
      obtain ⟨F, hF⟩ : ∃ F, F = decide (r.ids.length ≤ 1024) := ⟨_, rfl⟩
      have HE1 : Hid (E = (r.ids.all idOk && (A && (K && (C && F))))) := Lib.hid (by rw [HE.out, mayL_5 hk1, ← EA, ← EK, ← EC, ← hF])
      have HFF : Hid (F = true ↔ (r.ids.length : Int) ≤ 1024) := Lib.hid (by rw [hF, decide_eq_true_eq]; omega)
      have CI := Lib.hid (fun W' a => rightID_any W' a)
      clear HE EA EK EC ED HA HK HC HD hk1 hF n1 n2 n3 n4 x1 x2 x3 xC
      go_wp2_with fail
      go_loopw [7] (fun q wr => ∃ j : Nat, j ≤ r.ids.length ∧ q = .int .i64 j ∧ (r.ids.take j).all idOk = true ∧ Keeps No V wr) (fun q _ => r.ids.length - (intOf q).toNat)
      case atStart => exact ⟨0, Nat.zero_le _, rfl, by simp, Keeps.refl _⟩
      case round =>
        obtain ⟨j, hj, rfl, hall, hK2⟩ := hrel
        obtain ⟨Vj, hVj⟩ : ∃ x : World, x = wr := ⟨_, rfl⟩
        subst hVj
        have y20 := hK2.cell x20 (fun h => h)
        have hj0 : (0 : Int) ≤ (j : Int) := by omega
        have KJ := Lib.hid hK2
        have HAL := Lib.hid hall
        clear x20 hall hK2
        by_cases hlt : j < r.ids.length
        · have hji : (j : Int) < (r.ids.length : Int) := by omega
          have hj1 : wrap64 ((j : Int) + 1) = (j : Int) + 1 := IntWalk.wrap64_in _ ⟨by omega, by have := HMX.out; omega⟩
          obtain ⟨gt, ot, rfl, _, _, _⟩ := RdOf.addr cNam HV2.out (by omega)
          have cT : cellsAt Vj gt (ot + j * 3) 3 = some (namC r.ids[j]) := RdOf.at cNam (HV2.out.kept KJ.out (fun _ _ h => h)) j hlt
          have HS : Hid ((r.ids.take (j + 1)).all idOk = idOk r.ids[j]) := Lib.hid (by rw [List.take_succ_eq_append_getElem hlt, List.all_append, HAL.out]; simp)
          have HN : Hid (idOk r.ids[j] = false → r.ids.all idOk = false) := Lib.hid (fun h => by
            rw [List.all_eq_false]
            exact ⟨_, List.getElem_mem hlt, by rw [h]; decide⟩)
          obtain ⟨a, ha⟩ : ∃ a, a = r.ids[j] := ⟨_, rfl⟩
          rw [← ha] at cT HS HN
          have CA := Lib.hid (fun W' => CI.out W' a)
          obtain ⟨T, hT⟩ : ∃ T, T = idOk a := ⟨_, rfl⟩
          rw [← hT] at CA HS HN
          clear ha hT hlt
          cases T with
          | false =>
            have HF : Hid (E = false) := Lib.hid (by rw [HE1.out, HN.out rfl]; rfl)
            clear HE1 HS HN
            go_wp2_with fail
            (with_reducible refine (CA.out _).mono ?_)
            rintro e w5 ⟨rfl, hk5⟩
            have K5 : Hid (Keeps No w w5) := Lib.hid ((KV.out.trans KJ.out (fun _ _ h => h)).trans hk5 (fun _ _ h => h))
            clear hk5 cT y20
            go_wp2
            go_ret
            exact ⟨by rw [HF.out]; rfl, K5.out⟩
          | true =>
            go_wp2_with fail
            (with_reducible refine (CA.out _).mono ?_)
            rintro e w5 ⟨rfl, hk5⟩
            have K5 := Lib.hid (KJ.out.trans hk5 (fun _ _ h => h))
            clear hk5 cT y20
            go_wp2
            go_roundw
            case rel => exact ⟨j + 1, by omega, by first | (rw [hj1]; rfl) | go_num, by rw [HS.out], K5.out⟩
            case measure =>
              first
                | (rw [hj1]; show r.ids.length - ((j : Int) + 1).toNat < r.ids.length - ((j : Int)).toNat; omega)
                | (simp [intOf]; omega)
        · have hji : ¬ (j : Int) < (r.ids.length : Int) := by omega
          have HE2 : Hid (E = (A && (K && (C && F)))) := Lib.hid (by
            have := HAL.out
            rw [List.take_of_length_le (by omega)] at this
            rw [HE1.out, this]
            rfl)
          have KVJ : Hid (Keeps No w Vj) := Lib.hid (KV.out.trans KJ.out (fun _ _ h => h))
          clear HE1 hlt HAL
          have HE1 := HE2
          cases A with
          | false =>
            have HF : Hid (E = false) := Lib.hid (by rw [HE1.out]; simp)
            clear HE1
            go_wp2
            go_ret
            exact ⟨by rw [HF.out]; rfl, KVJ.out⟩
          | true =>
            cases K with
            | false =>
              have HF : Hid (E = false) := Lib.hid (by rw [HE1.out]; simp)
              clear HE1
              go_wp2
              go_ret
              exact ⟨by rw [HF.out]; rfl, KVJ.out⟩
            | true =>
              cases C with
              | false =>
                have HF : Hid (E = false) := Lib.hid (by rw [HE1.out]; simp)
                clear HE1
                go_wp2
                go_ret
                exact ⟨by rw [HF.out]; rfl, KVJ.out⟩
              | true =>
                cases F with
                | false =>
                  have p9 : ¬ (r.ids.length : Int) ≤ 1024 := fun h => by have := HFF.out.2 h; cases this
                  have HF : Hid (E = false) := Lib.hid (by rw [HE1.out]; simp)
                  clear HE1
                  go_wp2
                  go_ret
                  exact ⟨by rw [HF.out]; rfl, KVJ.out⟩
                | true =>
                  have p9 : (r.ids.length : Int) ≤ 1024 := HFF.out.1 rfl
                  have HF : Hid (E = true) := Lib.hid (by rw [HE1.out]; simp)
                  clear HE1
                  go_wp2
                  go_ret
                  exact ⟨by rw [HF.out]; rfl, KVJ.out⟩
    · have HE1 : Hid (E = false) := Lib.hid (by rw [HE.out, mayL_0 n1 n2 n3 n4 hk1])
      have n5 := hk1
      have b1 : (r.k == 1) = false := by simpa using n1
      have b2 : (r.k == 2) = false := by simpa using n2
      have b3 : (r.k == 3) = false := by simpa using n3
      have b4 : (r.k == 4) = false := by simpa using n4
      have b5 : (r.k == 5) = false := by simpa using n5
      clear n1 n2 n3 n4 n5 hk1 HE EA EK EC ED
      go_wp2
      go_ret
      exact ⟨by rw [HE1.out]; rfl, KV.out⟩
end Go.Proofs.YtpbpgjfdledgoaaGreatDoor

/-
  The document's Encode: a record's bytes. No conditions of its own.
-/
namespace Go.Proofs.YtpbpgjfdledgoaaGreatDoor
open Go.RowKit Go.Shelf Go.Sort Go.Joins Go.Deep

def EncP (w : World) (r : Lr) (e : Ending) (w' : World) : Prop := e = .returned (.tuple #[strB (encL r).1, .int .i64 (encL r).2]) ∧ Keeps No w w'
theorem putL_len (l : List Nam) (h : l.length ≤ 1024) : (putL putNam l).length ≤ 100000 := by
  have h1 := layI_le (l.length : Int)
  have h2 : (l.flatMap putNam).length ≤ 27 * l.length := by
    clear h h1
    induction l with
    | nil => simp
    | cons a l ih =>
      have := putNam_le a
      rw [List.flatMap_cons, List.length_append, List.length_cons]
      omega
  unfold putL
  rw [List.length_append]
  omega
set_option maxRecDepth 100000 in
set_option maxHeartbeats 4000000 in
theorem rencode_no (w : World) (r : Lr) (v : Value) (hv : RdOf cNam w v r.ids) (hb : mayL r = false) : Calls Tryz.prog 11 #[lrV r v] w (EncP w r) := by
  have CK := Lib.hid (rmayL_any (w.alloc (.cells (lrC r v).toArray 30)) r v (hv.kept ((Keeps.refl w).alloc _) (fun _ _ h => h)))
  have hP : encL r = ([], 1) := by unfold encL; rw [hb]; rfl
  unfold EncP
  rw [hP]
  rw [hb] at CK
  obtain ⟨va, vc, rfl⟩ := hv.slice
  clear hb hP hv
  go_enter Tryz.func11, Tryz.ntmps11
  go_wp2_with fail
  (with_reducible refine CK.out.mono ?_)
  rintro e w1 ⟨rfl, hk⟩
  have K1 : Hid (Keeps No w w1) := Lib.hid (((Keeps.refl w).alloc _).trans hk (fun _ _ h => h))
  clear hk CK
  go_wp2
  go_ret2
  exact ⟨rfl, K1.out⟩
set_option maxRecDepth 100000 in
set_option maxHeartbeats 4000000 in
theorem rencode_1 (w : World) (r : Lr) (v : Value) (hv : RdOf cNam w v r.ids) (hb : mayL r = true) (hk : r.k = 1) : Calls Tryz.prog 11 #[lrV r v] w (EncP w r) := by
  have CK := Lib.hid (rmayL_any (w.alloc (.cells (lrC r v).toArray 30)) r v (hv.kept ((Keeps.refl w).alloc _) (fun _ _ h => h)))
  have b1 : (r.k == 1) = true := by rw [hk]; rfl
  have b2 : (r.k == 2) = false := by rw [hk]; rfl
  have b3 : (r.k == 3) = false := by rw [hk]; rfl
  have b5 : (r.k == 5) = false := by rw [hk]; rfl
  have hki : i64 r.k := ⟨by omega, by omega⟩
  have HM := Lib.hid ((may_sizes hb).1 hk)
  have hP : encL r = (layI r.k ++ layI r.n, 0) := by unfold encL encT; rw [hb, b1, b2, b3, b5]; simp
  obtain ⟨R, hR⟩ : ∃ y, y = encL r := ⟨_, rfl⟩
  unfold EncP
  rw [← hR]
  rw [hP] at hR
  rw [hb] at CK
  obtain ⟨X0, hX0⟩ : ∃ y, y = toB (layI r.k) := ⟨_, rfl⟩
  have C0 := Lib.hid (fun W => calls_str hX0 (rint_any W r.k hki))
  obtain ⟨va, vc, rfl⟩ := hv.slice
  have HV := Lib.hid hv
  obtain ⟨V0, hV0⟩ : ∃ y, y = toB (layI r.n) := ⟨_, rfl⟩
  have P0 := Lib.hid (fun W => calls_str hV0 (rint_any W r.n HM.out))
  obtain ⟨Y0, hY0⟩ : ∃ y, y = toB (layI r.k ++ layI r.n) := ⟨_, rfl⟩
  have hcat0 := fun W' : World => cat_run W' (layI r.k) (layI r.n) (by have := layI_le r.k; (try simp only [List.length_append]); omega) (by have := layI_le r.n; omega)
  rw [← hV0, ← hY0, ← hX0] at hcat0
  have HR : Hid (strB R.1 = .string Y0 ∧ R.2 = 0) := Lib.hid ⟨by rw [hR, hY0]; rfl, by rw [hR]⟩
  clear hb hki hP hR hX0 hk hv hV0 hY0
  go_enter Tryz.func11, Tryz.ntmps11
  go_upto_region 1 with fail
  refine wp_world ?_
  intro W0 hW0
  have K0 : Hid (Keeps No w W0) := Lib.hid (by rw [hW0]; exact (Keeps.refl w).alloc _)
  have c0 : cellsAt W0 w.heap.size 0 21 = some (lrC r (.slice va r.ids.length vc)) := by rw [hW0]; simp [go_sem]
  rw [← hW0] at CK
  clear hW0
  go_wp2_with fail
  (with_reducible refine CK.out.mono ?_)
  rintro e W ⟨rfl, hk⟩
  have KW : Hid (Keeps No w W) := Lib.hid (K0.out.trans hk (fun _ _ h => h))
  have cW := hk.cellsAt c0
  have m0 := cellsAt_cell cW 0 _ rfl
  simp only [Nat.zero_add] at m0
  clear hk c0 CK K0
  go_wp2_with fail
  (with_reducible refine (C0.out _).mono ?_)
  rintro e W1 ⟨rfl, hk⟩
  have K1 : Hid (Keeps No w W1) := Lib.hid (KW.out.trans hk (fun _ _ h => h))
  have c1 := hk.cellsAt cW
  have m1 := hk.cell m0 (fun h => h)
  clear hk cW m0 C0 KW
  have L0 := cellsAt_cell c1 1 _ rfl
  simp only [Nat.zero_add] at L0
  clear c1
  go_wp2_with fail
  (with_reducible refine (P0.out _).mono ?_)
  rintro e W2 ⟨rfl, hk⟩
  have K2 : Hid (Keeps No w W2) := Lib.hid (K1.out.trans hk (fun _ _ h => h))
  clear hk L0 m1 P0 
  go_wp2
  go_ret2
  exact ⟨by rw [HR.out.1, HR.out.2]; rfl, K2.out⟩
set_option maxRecDepth 100000 in
set_option maxHeartbeats 4000000 in
theorem rencode_2 (w : World) (r : Lr) (v : Value) (hv : RdOf cNam w v r.ids) (hb : mayL r = true) (hk : r.k = 2) : Calls Tryz.prog 11 #[lrV r v] w (EncP w r) := by
  have CK := Lib.hid (rmayL_any (w.alloc (.cells (lrC r v).toArray 30)) r v (hv.kept ((Keeps.refl w).alloc _) (fun _ _ h => h)))
  have b1 : (r.k == 1) = false := by rw [hk]; rfl
  have b2 : (r.k == 2) = true := by rw [hk]; rfl
  have b3 : (r.k == 3) = false := by rw [hk]; rfl
  have b5 : (r.k == 5) = false := by rw [hk]; rfl
  have hki : i64 r.k := ⟨by omega, by omega⟩
  have HM := Lib.hid ((may_sizes hb).2.1 hk)
  have hP : encL r = (layI r.k ++ layI r.s ++ layI r.i, 0) := by unfold encL encT; rw [hb, b1, b2, b3, b5]; simp [List.append_assoc]
  obtain ⟨R, hR⟩ : ∃ y, y = encL r := ⟨_, rfl⟩
  unfold EncP
  rw [← hR]
  rw [hP] at hR
  rw [hb] at CK
  obtain ⟨X0, hX0⟩ : ∃ y, y = toB (layI r.k) := ⟨_, rfl⟩
  have C0 := Lib.hid (fun W => calls_str hX0 (rint_any W r.k hki))
  obtain ⟨va, vc, rfl⟩ := hv.slice
  have HV := Lib.hid hv
  obtain ⟨V0, hV0⟩ : ∃ y, y = toB (layI r.s) := ⟨_, rfl⟩
  have P0 := Lib.hid (fun W => calls_str hV0 (rint_any W r.s HM.out.1))
  obtain ⟨V1, hV1⟩ : ∃ y, y = toB (layI r.i) := ⟨_, rfl⟩
  have P1 := Lib.hid (fun W => calls_str hV1 (rint_any W r.i HM.out.2))
  obtain ⟨Y0, hY0⟩ : ∃ y, y = toB (layI r.k ++ layI r.s) := ⟨_, rfl⟩
  have hcat0 := fun W' : World => cat_run W' (layI r.k) (layI r.s) (by have := layI_le r.k; (try simp only [List.length_append]); omega) (by have := layI_le r.s; omega)
  rw [← hV0, ← hY0, ← hX0] at hcat0
  obtain ⟨Y1, hY1⟩ : ∃ y, y = toB (layI r.k ++ layI r.s ++ layI r.i) := ⟨_, rfl⟩
  have hcat1 := fun W' : World => cat_run W' (layI r.k ++ layI r.s) (layI r.i) (by have := layI_le r.k; have := layI_le r.s; (try simp only [List.length_append]); omega) (by have := layI_le r.i; omega)
  rw [← hV1, ← hY1, ← hY0] at hcat1
  have HR : Hid (strB R.1 = .string Y1 ∧ R.2 = 0) := Lib.hid ⟨by rw [hR, hY1]; rfl, by rw [hR]⟩
  clear hb hki hP hR hX0 hk hv hV0 hY0 hV1 hY1
  go_enter Tryz.func11, Tryz.ntmps11
  go_upto_region 1 with fail
  refine wp_world ?_
  intro W0 hW0
  have K0 : Hid (Keeps No w W0) := Lib.hid (by rw [hW0]; exact (Keeps.refl w).alloc _)
  have c0 : cellsAt W0 w.heap.size 0 21 = some (lrC r (.slice va r.ids.length vc)) := by rw [hW0]; simp [go_sem]
  rw [← hW0] at CK
  clear hW0
  go_wp2_with fail
  (with_reducible refine CK.out.mono ?_)
  rintro e W ⟨rfl, hk⟩
  have KW : Hid (Keeps No w W) := Lib.hid (K0.out.trans hk (fun _ _ h => h))
  have cW := hk.cellsAt c0
  have m0 := cellsAt_cell cW 0 _ rfl
  simp only [Nat.zero_add] at m0
  clear hk c0 CK K0
  go_wp2_with fail
  (with_reducible refine (C0.out _).mono ?_)
  rintro e W1 ⟨rfl, hk⟩
  have K1 : Hid (Keeps No w W1) := Lib.hid (KW.out.trans hk (fun _ _ h => h))
  have c1 := hk.cellsAt cW
  have m1 := hk.cell m0 (fun h => h)
  clear hk cW m0 C0 KW
  have m2 := cellsAt_cell c1 2 _ rfl
  have m3 := cellsAt_cell c1 3 _ rfl
  simp only [Nat.zero_add] at m2 m3
  have L0 : ∀ w', Keeps No W1 w' → w'.cell? ⟨w.heap.size, 2, none⟩ = some (.int .i64 r.s) := fun w' k => k.cell m2 (fun h => h)
  have L1 : ∀ w', Keeps No W1 w' → w'.cell? ⟨w.heap.size, 3, none⟩ = some (.int .i64 r.i) := fun w' k => k.cell m3 (fun h => h)
  clear c1 m2 m3
  go_upto_region 8 with fail
  go_region_held3 (fun w' => Keeps No W1 w')
    (first | assumption | exact (Keeps.refl W1).drew | exact Keeps.refl W1)
    (first
      | (go_at_call 53
         have hc := P0.out
         with_reducible refine (hc _).mono ?_
         clear hc
         rintro e w5 ⟨rfl, hk⟩
         have hS1 : Keeps No W1 w5 := Keeps.trans (by first | assumption | exact (Keeps.refl W1).drew | exact Keeps.refl W1) hk (fun _ _ h => h))
      | (go_at_call 53
         have hc := P1.out
         with_reducible refine (hc _).mono ?_
         clear hc
         rintro e w6 ⟨rfl, hk⟩
         have hS2 : Keeps No W1 w6 := Keeps.trans (by first | assumption | exact (Keeps.refl W1).drew | exact Keeps.refl W1) hk (fun _ _ h => h)))
  all_goals go_wp2
  all_goals go_ret2
  all_goals exact ⟨by rw [HR.out.1, HR.out.2]; rfl, K1.out.trans hS2 (fun _ _ h => h)⟩
set_option maxRecDepth 100000 in
set_option maxHeartbeats 4000000 in
theorem rencode_3 (w : World) (r : Lr) (v : Value) (hv : RdOf cNam w v r.ids) (hb : mayL r = true) (hk : r.k = 3) : Calls Tryz.prog 11 #[lrV r v] w (EncP w r) := by
  have CK := Lib.hid (rmayL_any (w.alloc (.cells (lrC r v).toArray 30)) r v (hv.kept ((Keeps.refl w).alloc _) (fun _ _ h => h)))
  have b1 : (r.k == 1) = false := by rw [hk]; rfl
  have b2 : (r.k == 2) = false := by rw [hk]; rfl
  have b3 : (r.k == 3) = true := by rw [hk]; rfl
  have b5 : (r.k == 5) = false := by rw [hk]; rfl
  have hki : i64 r.k := ⟨by omega, by omega⟩
  have hP : encL r = (layI r.k ++ putCm r.c, 0) := by unfold encL encT; rw [hb, b1, b2, b3, b5]; simp
  obtain ⟨R, hR⟩ : ∃ y, y = encL r := ⟨_, rfl⟩
  unfold EncP
  rw [← hR]
  rw [hP] at hR
  rw [hb] at CK
  obtain ⟨X0, hX0⟩ : ∃ y, y = toB (layI r.k) := ⟨_, rfl⟩
  have C0 := Lib.hid (fun W => calls_str hX0 (rint_any W r.k hki))
  obtain ⟨va, vc, rfl⟩ := hv.slice
  have HV := Lib.hid hv
  obtain ⟨V0, hV0⟩ : ∃ y, y = toB (putCm r.c) := ⟨_, rfl⟩
  have P0 := Lib.hid (fun W => calls_str hV0 (rputCm_any W r.c))
  obtain ⟨Y0, hY0⟩ : ∃ y, y = toB (layI r.k ++ putCm r.c) := ⟨_, rfl⟩
  have hcat0 := fun W' : World => cat_run W' (layI r.k) (putCm r.c) (by have := layI_le r.k; (try simp only [List.length_append]); omega) (by have := putCm_le r.c; omega)
  rw [← hV0, ← hY0, ← hX0] at hcat0
  have HR : Hid (strB R.1 = .string Y0 ∧ R.2 = 0) := Lib.hid ⟨by rw [hR, hY0]; rfl, by rw [hR]⟩
  clear hb hki hP hR hX0 hk hv hV0 hY0
  go_enter Tryz.func11, Tryz.ntmps11
  go_upto_region 1 with fail
  refine wp_world ?_
  intro W0 hW0
  have K0 : Hid (Keeps No w W0) := Lib.hid (by rw [hW0]; exact (Keeps.refl w).alloc _)
  have c0 : cellsAt W0 w.heap.size 0 21 = some (lrC r (.slice va r.ids.length vc)) := by rw [hW0]; simp [go_sem]
  rw [← hW0] at CK
  clear hW0
  go_wp2_with fail
  (with_reducible refine CK.out.mono ?_)
  rintro e W ⟨rfl, hk⟩
  have KW : Hid (Keeps No w W) := Lib.hid (K0.out.trans hk (fun _ _ h => h))
  have cW := hk.cellsAt c0
  have m0 := cellsAt_cell cW 0 _ rfl
  simp only [Nat.zero_add] at m0
  clear hk c0 CK K0
  go_wp2_with fail
  (with_reducible refine (C0.out _).mono ?_)
  rintro e W1 ⟨rfl, hk⟩
  have K1 : Hid (Keeps No w W1) := Lib.hid (KW.out.trans hk (fun _ _ h => h))
  have c1 := hk.cellsAt cW
  have m1 := hk.cell m0 (fun h => h)
  clear hk cW m0 C0 KW
  have L0 : cellsAt W1 w.heap.size 4 16 = some (cmC r.c) := cellsAt_part c1 4 (cmC r.c) rfl (by simp)
  clear c1
  go_wp2_with fail
  (with_reducible refine (P0.out _).mono ?_)
  rintro e W2 ⟨rfl, hk⟩
  have K2 : Hid (Keeps No w W2) := Lib.hid (K1.out.trans hk (fun _ _ h => h))
  clear hk L0 m1 P0 
  go_wp2
  go_ret2
  exact ⟨by rw [HR.out.1, HR.out.2]; rfl, K2.out⟩
set_option maxRecDepth 100000 in
set_option maxHeartbeats 4000000 in
theorem rencode_4 (w : World) (r : Lr) (v : Value) (hv : RdOf cNam w v r.ids) (hb : mayL r = true) (hk : r.k = 4) : Calls Tryz.prog 11 #[lrV r v] w (EncP w r) := by
  have CK := Lib.hid (rmayL_any (w.alloc (.cells (lrC r v).toArray 30)) r v (hv.kept ((Keeps.refl w).alloc _) (fun _ _ h => h)))
  have b1 : (r.k == 1) = false := by rw [hk]; rfl
  have b2 : (r.k == 2) = false := by rw [hk]; rfl
  have b3 : (r.k == 3) = false := by rw [hk]; rfl
  have b5 : (r.k == 5) = false := by rw [hk]; rfl
  have hki : i64 r.k := ⟨by omega, by omega⟩
  have hP : encL r = (layI r.k, 0) := by unfold encL encT; rw [hb, b1, b2, b3, b5]; simp
  obtain ⟨R, hR⟩ : ∃ y, y = encL r := ⟨_, rfl⟩
  unfold EncP
  rw [← hR]
  rw [hP] at hR
  rw [hb] at CK
  obtain ⟨X0, hX0⟩ : ∃ y, y = toB (layI r.k) := ⟨_, rfl⟩
  have C0 := Lib.hid (fun W => calls_str hX0 (rint_any W r.k hki))
  obtain ⟨va, vc, rfl⟩ := hv.slice
  have HV := Lib.hid hv
  have HR : Hid (strB R.1 = .string X0 ∧ R.2 = 0) := Lib.hid ⟨by rw [hR, hX0]; rfl, by rw [hR]⟩
  clear hb hki hP hR hX0 hk hv 
  go_enter Tryz.func11, Tryz.ntmps11
  go_upto_region 1 with fail
  refine wp_world ?_
  intro W0 hW0
  have K0 : Hid (Keeps No w W0) := Lib.hid (by rw [hW0]; exact (Keeps.refl w).alloc _)
  have c0 : cellsAt W0 w.heap.size 0 21 = some (lrC r (.slice va r.ids.length vc)) := by rw [hW0]; simp [go_sem]
  rw [← hW0] at CK
  clear hW0
  go_wp2_with fail
  (with_reducible refine CK.out.mono ?_)
  rintro e W ⟨rfl, hk⟩
  have KW : Hid (Keeps No w W) := Lib.hid (K0.out.trans hk (fun _ _ h => h))
  have cW := hk.cellsAt c0
  have m0 := cellsAt_cell cW 0 _ rfl
  simp only [Nat.zero_add] at m0
  clear hk c0 CK K0
  go_wp2_with fail
  (with_reducible refine (C0.out _).mono ?_)
  rintro e W1 ⟨rfl, hk⟩
  have K1 : Hid (Keeps No w W1) := Lib.hid (KW.out.trans hk (fun _ _ h => h))
  have c1 := hk.cellsAt cW
  have m1 := hk.cell m0 (fun h => h)
  clear hk cW m0 C0 KW
  clear c1
  go_wp2
  go_ret2
  exact ⟨by rw [HR.out.1, HR.out.2]; rfl, K1.out⟩
set_option maxRecDepth 100000 in
set_option maxHeartbeats 4000000 in
theorem rencode_5 (w : World) (r : Lr) (v : Value) (hv : RdOf cNam w v r.ids) (hb : mayL r = true) (hk : r.k = 5) : Calls Tryz.prog 11 #[lrV r v] w (EncP w r) := by
  have CK := Lib.hid (rmayL_any (w.alloc (.cells (lrC r v).toArray 30)) r v (hv.kept ((Keeps.refl w).alloc _) (fun _ _ h => h)))
  have b1 : (r.k == 1) = false := by rw [hk]; rfl
  have b2 : (r.k == 2) = false := by rw [hk]; rfl
  have b3 : (r.k == 3) = false := by rw [hk]; rfl
  have b5 : (r.k == 5) = true := by rw [hk]; rfl
  have hki : i64 r.k := ⟨by omega, by omega⟩
  have HM := Lib.hid ((may_sizes hb).2.2 hk)
  have hP : encL r = (layI r.k ++ putL putNam r.ids, 0) := by unfold encL encT; rw [hb, b1, b2, b3, b5]; simp
  obtain ⟨R, hR⟩ : ∃ y, y = encL r := ⟨_, rfl⟩
  unfold EncP
  rw [← hR]
  rw [hP] at hR
  rw [hb] at CK
  obtain ⟨X0, hX0⟩ : ∃ y, y = toB (layI r.k) := ⟨_, rfl⟩
  have C0 := Lib.hid (fun W => calls_str hX0 (rint_any W r.k hki))
  obtain ⟨va, vc, rfl⟩ := hv.slice
  have HV := Lib.hid hv
  obtain ⟨V0, hV0⟩ : ∃ y, y = toB (putL putNam r.ids) := ⟨_, rfl⟩
  have P0 := Lib.hid (fun (W : World) (h : RdOf cNam W (.slice va r.ids.length vc) r.ids) => calls_str hV0 (rids_any W (.slice va r.ids.length vc) r.ids h HM.out))
  obtain ⟨Y0, hY0⟩ : ∃ y, y = toB (layI r.k ++ putL putNam r.ids) := ⟨_, rfl⟩
  have hcat0 := fun W' : World => cat_run W' (layI r.k) (putL putNam r.ids) (by have := layI_le r.k; omega) (by have := putL_len r.ids HM.out; omega)
  rw [← hV0, ← hY0, ← hX0] at hcat0
  have HR : Hid (strB R.1 = .string Y0 ∧ R.2 = 0) := Lib.hid ⟨by rw [hR, hY0]; rfl, by rw [hR]⟩
  clear hb hki hP hR hX0 hk hv hV0 hY0
  go_enter Tryz.func11, Tryz.ntmps11
  go_upto_region 1 with fail
  refine wp_world ?_
  intro W0 hW0
  have K0 : Hid (Keeps No w W0) := Lib.hid (by rw [hW0]; exact (Keeps.refl w).alloc _)
  have c0 : cellsAt W0 w.heap.size 0 21 = some (lrC r (.slice va r.ids.length vc)) := by rw [hW0]; simp [go_sem]
  rw [← hW0] at CK
  clear hW0
  go_wp2_with fail
  (with_reducible refine CK.out.mono ?_)
  rintro e W ⟨rfl, hk⟩
  have KW : Hid (Keeps No w W) := Lib.hid (K0.out.trans hk (fun _ _ h => h))
  have cW := hk.cellsAt c0
  have m0 := cellsAt_cell cW 0 _ rfl
  simp only [Nat.zero_add] at m0
  clear hk c0 CK K0
  go_wp2_with fail
  (with_reducible refine (C0.out _).mono ?_)
  rintro e W1 ⟨rfl, hk⟩
  have K1 : Hid (Keeps No w W1) := Lib.hid (KW.out.trans hk (fun _ _ h => h))
  have c1 := hk.cellsAt cW
  have m1 := hk.cell m0 (fun h => h)
  clear hk cW m0 C0 KW
  have L0 := cellsAt_cell c1 20 _ rfl
  simp only [Nat.zero_add] at L0
  have Q0 := Lib.hid (P0.out W1 (HV.out.kept K1.out (fun _ _ h => h)))
  clear c1
  go_wp2_with fail
  (with_reducible refine Q0.out.mono ?_)
  rintro e W2 ⟨rfl, hk⟩
  have K2 : Hid (Keeps No w W2) := Lib.hid (K1.out.trans hk (fun _ _ h => h))
  clear hk L0 m1 P0 Q0
  go_wp2
  go_ret2
  exact ⟨by rw [HR.out.1, HR.out.2]; rfl, K2.out⟩
theorem rencode_any (w : World) (r : Lr) (v : Value) (hv : RdOf cNam w v r.ids) : Calls Tryz.prog 11 #[lrV r v] w (EncP w r) := by
  cases hb : mayL r with
  | false => exact rencode_no w r v hv hb
  | true =>
    rcases may_kinds hb with h | h | h | h | h
    · exact rencode_1 w r v hv hb h
    · exact rencode_2 w r v hv hb h
    · exact rencode_3 w r v hv hb h
    · exact rencode_4 w r v hv hb h
    · exact rencode_5 w r v hv hb h
end Go.Proofs.YtpbpgjfdledgoaaGreatDoor

/-
  The document's Decode: the record whose bytes they are. No conditions of its own.
-/
namespace Go.Proofs.YtpbpgjfdledgoaaGreatDoor
open Go.RowKit Go.Shelf Go.Sort Go.Joins Go.Deep

theorem OwnOf.block' {α : Type} {C : Codec α} {e : TypeId} {w : World} {b : Nat} {v : Value} {l : List α} (h : OwnOf C e w b v l) {i : Nat} (hi : v.ownBlock = some i) : ∃ cur : Array Value, w.heap[i]? = some (.cells cur e (0, 0)) ∧ b ≤ i := by
  rcases h.2 with ⟨rfl, _⟩ | ⟨g, cap, cur, rfl, hb, hh, _⟩
  · cases hi
  · simp only [Value.ownBlock, Option.some.injEq] at hi
    subst hi
    exact ⟨cur, hh, hb⟩
/-- where a decoding stands: the reader in g, the record in gi, the answer's box gr -/
structure DrAt (w : World) (g gi gr : Nat) (s : Lr × Rdr) (v : Value) (wc : World) : Prop where
  rd : RrAt wc g s.2
  bx : wc.heap[gi]? = some (.cells (lrC s.1 v).toArray 30 (0, 0))
  z : wc.heap[gr]? = some (.cells (lrC Lr.zero (.slice none 0 0)).toArray 30 (0, 0))
  k : Keeps No w wc
structure Apart3 (w : World) (g gi gr : Nat) : Prop where
  ng : w.heap.size ≤ g
  ni : w.heap.size ≤ gi
  nr : w.heap.size ≤ gr
  ir : gi ≠ gr
  ig : gi ≠ g
  rg : gr ≠ g
theorem DrAt.read {w wc w1 : World} {g gi gr : Nat} {x : Lr} {r r' : Rdr} {v : Value} (h : DrAt w g gi gr (x, r) v wc) (a : Apart3 w g gi gr) (hr : RrAt w1 g r') (hk : Keeps (Own g) wc w1) : DrAt w g gi gr (x, r') v w1 :=
  ⟨hr, hk.heap h.bx a.ig, hk.heap h.z a.rg, h.k.trans hk (fun i hi e => by have e : i = g := e; have := a.ng; omega)⟩
theorem DrAt.put {w w1 w2 : World} {g gi gr : Nat} {x x' : Lr} {r : Rdr} {v v' : Value} (h : DrAt w g gi gr (x, r) v w1) (a : Apart3 w g gi gr) (hk : Keeps (Own gi) w1 w2) (hb : w2.heap[gi]? = some (.cells (lrC x' v').toArray 30 (0, 0))) : DrAt w g gi gr (x', r) v' w2 :=
  ⟨h.rd.kept hk (fun e => a.ig e.symm), hb, hk.heap h.z (fun e => a.ir e.symm), h.k.trans hk (fun i hi e => by have e : i = gi := e; have := a.ni; omega)⟩
theorem DrAt.cell {w w1 : World} {g gi gr : Nat} {x x' : Lr} {r : Rdr} {v v' u : Value} (h : DrAt w g gi gr (x, r) v w1) (a : Apart3 w g gi gr) (j : Nat) (hC : (lrC x v).toArray.setIfInBounds j u = (lrC x' v').toArray) : DrAt w g gi gr (x', r) v' (w1.setCell ⟨gi, j, none⟩ u) :=
  h.put a ((Keeps.refl (S := Own gi) w1).setCell (p := ⟨gi, j, none⟩) (fun _ => (rfl : gi = gi)) _) (by rw [heap_setCell_at h.bx, hC])
theorem DrAt.row {w w1 : World} {g gi gr : Nat} {x x' : Lr} {r : Rdr} {v v' : Value} (h : DrAt w g gi gr (x, r) v w1) (a : Apart3 w g gi gr) (C : Array Value) (hC : C = (lrC x' v').toArray) : DrAt w g gi gr (x', r) v' (w1.setRow gi C) :=
  h.put a ((Keeps.refl (S := Own gi) w1).setRow (fun _ => (rfl : gi = gi)) _) (by rw [setRow_heap w1 gi _ _ _ _ h.bx, hC])
theorem DrAt.opens {w w1 : World} {g gi gr : Nat} {s : Lr × Rdr} {v : Value} (h : DrAt w g gi gr s v w1) : Open w1 gi ∧ (rowD w1 gi).size = 21 ∧ rowD w1 gi = (lrC s.1 v).toArray :=
  ⟨⟨_, _, h.bx⟩, by unfold rowD; rw [h.bx]; rfl, by unfold rowD; rw [h.bx]⟩
def DrCut (w : World) (g gi gr : Nat) (X : Lr × Rdr) (wc : World) : Prop := ∃ v, DrAt w g gi gr X v wc ∧ OwnOf cNam 23 wc w.heap.size v X.1.ids
theorem raw_none {k : Int} {r : Rdr} (b1 : (k == 1) = false) (b2 : (k == 2) = false) (b3 : (k == 3) = false) (b5 : (k == 5) = false) : recRaw k r = (⟨k, 0, 0, 0, Cm.zero, []⟩, r) := by
  unfold recRaw; rw [b1, b2, b3, b5]; rfl
set_option maxRecDepth 100000 in
set_option maxHeartbeats 8000000 in
theorem rdecode_any (w : World) (s : ByteArray) (hs : (s.size : Int) ≤ 140737488355328) : Calls Tryz.prog 13 #[.string s] w (DecPost w (decL s.data.toList)) := by
  obtain ⟨R, hR⟩ : ∃ x, x = decL s.data.toList := ⟨_, rfl⟩
  rw [← hR]
  unfold decL at hR
  obtain ⟨L, hL⟩ : ∃ x, x = s.data.toList := ⟨_, rfl⟩
  rw [← hL] at hR
  obtain ⟨p0, e0⟩ : ∃ x, x = rdI (some L) := ⟨_, rfl⟩
  rw [← e0] at hR
  obtain ⟨k, r0⟩ := p0
  simp only at hR
  obtain ⟨X, hX⟩ : ∃ X, X = recRaw k r0 := ⟨_, rfl⟩
  rw [← hX] at hR
  have HXX := Lib.hid hX
  have E0 := Lib.hid e0
  have HR := Lib.hid hR
  have HL := Lib.hid hL
  have HS := Lib.hid hs
  clear e0 hR hX hL hs
  go_enter Tryz.func13, Tryz.ntmps13
  go_upto_region 2 with fail
  refine wp_world ?_
  intro W0 hW0
  have K0 : Hid (Keeps No w W0) := Lib.hid (by rw [hW0]; exact ((Keeps.refl w).alloc _).alloc _)
  have Z0 : Hid (W0.heap[w.heap.size]? = some (.cells (lrC Lr.zero (.slice none 0 0)).toArray 30 (0, 0))) := Lib.hid (by rw [hW0]; exact ((Keeps.refl (S := No) _).alloc _).heap (heap_alloc_new w _) (fun h => h))
  have R0 : Hid (RrAt W0 (w.heap.size + 1) (some L)) := Lib.hid ⟨by
    rw [hW0, heap_second w _ _]
    have e : s = ⟨L.toArray⟩ := by rw [HL.out]
    rw [e]
    rfl, fun t ht => by
    cases ht
    have := HS.out
    have e : s.size = L.length := by rw [HL.out, Array.length_toList]; rfl
    omega⟩
  obtain ⟨gr, hgr⟩ : ∃ q, q = w.heap.size := ⟨_, rfl⟩
  obtain ⟨g, hg⟩ : ∃ q, q = w.heap.size + 1 := ⟨_, rfl⟩
  have HGR : Hid (w.heap.size ≤ gr ∧ gr ≠ g ∧ w.heap.size ≤ g) := Lib.hid ⟨by omega, by omega, by omega⟩
  rw [← hg] at R0 ⊢
  rw [← hgr] at Z0 ⊢
  have C0 := Lib.hid (rrd_any R0.out)
  rw [← E0.out] at C0
  clear hW0 hgr hg E0 HL HS
  go_wp2_with fail
  (with_reducible refine C0.out.mono ?_)
  rintro e w1 ⟨rfl, hr, hk⟩
  have R1 := Lib.hid hr
  have K1 : Hid (Keeps No w w1) := Lib.hid (K0.out.trans hk (fun i hi e => by have e : i = g := e; have := HGR.out.2.2; omega))
  have Z1 := Lib.hid (hk.heap Z0.out HGR.out.2.1)
  clear hr hk C0 R0 K0 Z0
  go_upto_region 3 with fail
  refine wp_world ?_
  intro W1 hW1
  have k2 : Keeps No w1 W1 := by rw [hW1]; exact (Keeps.refl w1).alloc _
  have I2 : Hid (W1.heap[w1.heap.size]? = some (.cells (lrC ⟨k, 0, 0, 0, Cm.zero, []⟩ (.slice none 0 0)).toArray 30 (0, 0))) := Lib.hid (by rw [hW1]; exact heap_alloc_new w1 _)
  have HAP : Hid (Apart3 w g w1.heap.size gr) := Lib.hid ⟨HGR.out.2.2, K1.out.size, HGR.out.1, by have := (Array.getElem?_eq_some_iff.1 Z1.out).1; omega, by have := R1.out.lt; omega, HGR.out.2.1⟩
  obtain ⟨gi, hgi⟩ : ∃ q, q = w1.heap.size := ⟨_, rfl⟩
  rw [← hgi] at I2 HAP ⊢
  have D0 : Hid (DrAt w g gi gr (⟨k, 0, 0, 0, Cm.zero, []⟩, r0) (.slice none 0 0) W1) := Lib.hid ⟨R1.out.kept k2 (fun h => h), I2.out, k2.heap Z1.out (fun h => h), K1.out.trans k2 (fun _ _ h => h)⟩
  have c0 : W1.cell? ⟨gi, 0, none⟩ = some (.int .i64 k) := by rw [cell_of_row _ _ _ _ _ _ I2.out]; rfl
  clear hW1 k2 hgi R1 K1 Z1 HGR I2
  go_upto_block 0 with fail
  clear c0
  go_cut [] (DrCut w g gi gr X)
  case first =>
    by_cases h1 : k = 1
    · have b1 : (k == 1) = true := by rw [h1]; rfl
      have b2 : (k == 2) = false := by rw [h1]; rfl
      have b3 : (k == 3) = false := by rw [h1]; rfl
      have b5 : (k == 5) = false := by rw [h1]; rfl
      have HX : Hid (X = (⟨k, (rdI r0).1, 0, 0, Cm.zero, []⟩, (rdI r0).2)) := Lib.hid (by rw [HXX.out]; unfold recRaw; rw [b1, b2, b3, b5]; rfl)
      clear HXX h1
      have C0 := Lib.hid (rrd_any D0.out.rd)
      obtain ⟨p0, hp0⟩ : ∃ p, p = rdI r0 := ⟨_, rfl⟩
      rw [← hp0] at C0 HX
      have HP0 := Lib.hid hp0
      clear hp0
      go_wp2_with fail
      (with_reducible refine C0.out.mono ?_)
      rintro e w5 ⟨rfl, hr, hk⟩
      have Q0 := Lib.hid (D0.out.read HAP.out hr hk)
      have x0 : w5.cell? ⟨gi, 1, none⟩ = some (.int .i64 0) := by rw [cell_of_row _ _ _ _ _ _ Q0.out.bx]; rfl
      have f0 : w5.frozen? ⟨gi, 1, none⟩ = false := frozen_of_row _ _ _ _ _ Q0.out.bx
      obtain ⟨n0, r1⟩ := p0
      clear hr hk C0
      go_wp2_with fail
      go_meet
      rw [HX.out]
      exact ⟨_, Q0.out.cell HAP.out 1 rfl, World.ownsRow_nil _ _ _ _⟩
    have n1 : ¬ k = 1 := h1
    clear h1
    by_cases h1 : k = 2
    · have b1 : (k == 1) = false := by rw [h1]; rfl
      have b2 : (k == 2) = true := by rw [h1]; rfl
      have b3 : (k == 3) = false := by rw [h1]; rfl
      have b5 : (k == 5) = false := by rw [h1]; rfl
      have HX : Hid (X = (⟨k, 0, (rdI r0).1, (rdI (rdI r0).2).1, Cm.zero, []⟩, (rdI (rdI r0).2).2)) := Lib.hid (by rw [HXX.out]; unfold recRaw; rw [b1, b2, b3, b5]; rfl)
      clear HXX h1
      have C0 := Lib.hid (rrd_any D0.out.rd)
      obtain ⟨p0, hp0⟩ : ∃ p, p = rdI r0 := ⟨_, rfl⟩
      rw [← hp0] at C0 HX
      have HP0 := Lib.hid hp0
      clear hp0
      go_wp2_with fail
      (with_reducible refine C0.out.mono ?_)
      rintro e w5 ⟨rfl, hr, hk⟩
      have Q0 := Lib.hid (D0.out.read HAP.out hr hk)
      have x0 : w5.cell? ⟨gi, 2, none⟩ = some (.int .i64 0) := by rw [cell_of_row _ _ _ _ _ _ Q0.out.bx]; rfl
      have f0 : w5.frozen? ⟨gi, 2, none⟩ = false := frozen_of_row _ _ _ _ _ Q0.out.bx
      obtain ⟨n0, r1⟩ := p0
      clear hr hk C0
      go_upto_region 8 with fail
      refine wp_world ?_
      intro V0 hV0
      have P0 : Hid (DrAt w g gi gr (⟨k, 0, n0, 0, Cm.zero, []⟩, r1) (.slice none 0 0) V0) := Lib.hid (by rw [hV0]; exact Q0.out.cell HAP.out 2 rfl)
      clear hV0 x0 f0
      have C1 := Lib.hid (rrd_any P0.out.rd)
      obtain ⟨p1, hp1⟩ : ∃ p, p = rdI r1 := ⟨_, rfl⟩
      rw [← hp1] at C1 HX
      have HP1 := Lib.hid hp1
      clear hp1
      go_wp2_with fail
      (with_reducible refine C1.out.mono ?_)
      rintro e w6 ⟨rfl, hr, hk⟩
      have Q1 := Lib.hid (P0.out.read HAP.out hr hk)
      have x1 : w6.cell? ⟨gi, 3, none⟩ = some (.int .i64 0) := by rw [cell_of_row _ _ _ _ _ _ Q1.out.bx]; rfl
      have f1 : w6.frozen? ⟨gi, 3, none⟩ = false := frozen_of_row _ _ _ _ _ Q1.out.bx
      obtain ⟨n1, r2⟩ := p1
      clear hr hk C1
      go_wp2_with fail
      go_meet
      rw [HX.out]
      exact ⟨_, Q1.out.cell HAP.out 3 rfl, World.ownsRow_nil _ _ _ _⟩
    have n2 : ¬ k = 2 := h1
    clear h1
    by_cases h1 : k = 3
    · have b1 : (k == 1) = false := by rw [h1]; rfl
      have b2 : (k == 2) = false := by rw [h1]; rfl
      have b3 : (k == 3) = true := by rw [h1]; rfl
      have b5 : (k == 5) = false := by rw [h1]; rfl
      have HX : Hid (X = (⟨k, 0, 0, 0, (takeCm r0).1, []⟩, (takeCm r0).2)) := Lib.hid (by rw [HXX.out]; unfold recRaw; rw [b1, b2, b3, b5]; rfl)
      clear HXX h1
      have C0 := Lib.hid (rtakeCm_any D0.out.rd)
      obtain ⟨p0, hp0⟩ : ∃ p, p = takeCm r0 := ⟨_, rfl⟩
      rw [← hp0] at C0 HX
      have HP0 := Lib.hid hp0
      clear hp0
      go_wp2_with fail
      (with_reducible refine C0.out.mono ?_)
      rintro e w5 ⟨rfl, hr, hk⟩
      have Q0 := Lib.hid (D0.out.read HAP.out hr hk)
      obtain ⟨o0, s0, d0⟩ := Q0.out.opens
      have DD0 := Lib.hid d0
      obtain ⟨⟨a0, a1, a2, a3, ⟨b0, b1', b2', b3', b4', b5', b6, b7, b8, b9, b10⟩, a5⟩, r1⟩ := p0
      clear hr hk C0 d0
      go_wp2_with fail
      go_meet
      rw [HX.out]
      exact ⟨_, Q0.out.row HAP.out _ (by rw [DD0.out]; rfl), World.ownsRow_nil _ _ _ _⟩
    have n3 : ¬ k = 3 := h1
    clear h1
    by_cases h1 : k = 5
    · have b1 : (k == 1) = false := by rw [h1]; rfl
      have b2 : (k == 2) = false := by rw [h1]; rfl
      have b3 : (k == 3) = false := by rw [h1]; rfl
      have b5 : (k == 5) = true := by rw [h1]; rfl
      have HX : Hid (X = (⟨k, 0, 0, 0, Cm.zero, (takeLs takeNam 1024 r0).1⟩, (takeLs takeNam 1024 r0).2)) := Lib.hid (by rw [HXX.out]; unfold recRaw; rw [b1, b2, b3, b5]; rfl)
      clear HXX h1
      have C0 := Lib.hid (rtakeIds_any D0.out.rd)
      obtain ⟨p0, hp0⟩ : ∃ p, p = takeLs takeNam 1024 r0 := ⟨_, rfl⟩
      rw [← hp0] at C0 HX
      have HP0 := Lib.hid hp0
      clear hp0
      go_wp2_with fail
      (with_reducible refine C0.out.mono ?_)
      rintro e w5 ⟨v5, rfl, ho, hr, hk⟩
      have Q0 := Lib.hid (D0.out.read HAP.out hr hk)
      obtain ⟨va, vc, rfl⟩ := ownsRow_slice ho
      have O0 := Lib.hid (OwnOf.base ho D0.out.k.size)
      have HLT := Lib.hid (fun j (e : (Value.slice va p0.1.length vc).ownBlock = some j) => (ho.lt j e).1)
      have x0 : w5.cell? ⟨gi, 20, none⟩ = some (.slice none 0 0) := by rw [cell_of_row _ _ _ _ _ _ Q0.out.bx]; rfl
      have f0 : w5.frozen? ⟨gi, 20, none⟩ = false := frozen_of_row _ _ _ _ _ Q0.out.bx
      obtain ⟨l0, r1⟩ := p0
      have lg : gi < W1.heap.size := (Array.getElem?_eq_some_iff.1 D0.out.bx).1
      clear hr hk C0 ho
      go_wp2_with fail
      go_meet
      rw [HX.out]
      refine ⟨_, Q0.out.cell HAP.out 20 rfl, ?_⟩
      exact ((Keeps.refl (S := Own gi) w5).setCell (p := ⟨gi, 20, none⟩) (fun _ => (rfl : gi = gi)) _).owns O0.out (fun j hj e => by have := HLT.out j hj; have e : j = gi := e; omega)
    have n5 : ¬ k = 5 := h1
    clear h1
    have b1 : (k == 1) = false := by simpa using n1
    have b2 : (k == 2) = false := by simpa using n2
    have b3 : (k == 3) = false := by simpa using n3
    have b5 : (k == 5) = false := by simpa using n5
    have HX : Hid (X = (⟨k, 0, 0, 0, Cm.zero, []⟩, r0)) := Lib.hid (by rw [HXX.out, raw_none b1 b2 b3 b5])
    clear HXX n1 n2 n3 n5
    go_wp2_with fail
    go_meet
    rw [HX.out]
    exact ⟨_, D0.out, World.ownsRow_nil _ _ _ _⟩
  case rest =>
    obtain ⟨W3, hw3⟩ : ∃ x : World, x = wc := ⟨_, rfl⟩
    subst hw3
    obtain ⟨v, hD, hO⟩ := hcut
    obtain ⟨va, vc, rfl⟩ := ownsRow_slice hO
    have DX := Lib.hid hD
    have OX := Lib.hid hO
    have KX := Lib.hid hD.k
    have oz : Open W3 gr := ⟨_, _, hD.z⟩
    have sz : (rowD W3 gr).size = 21 := by unfold rowD; rw [hD.z]; rfl
    have l1 := hD.rd.cell1
    obtain ⟨x, r1⟩ := X
    have cI : cellsAt W3 gi 0 21 = some (lrC x (.slice va x.ids.length vc)) := by unfold cellsAt; rw [hD.bx]; rfl
    clear hD hO D0 HXX
    cases r1 with
    | none =>
      have HF : Hid (R = (Lr.zero, 2)) := Lib.hid (by rw [HR.out]; rfl)
      clear HR
      have l1 : W3.cell? ⟨g, 1, none⟩ = some (.bool true) := l1
      go_wp2_with fail
      have hcr : cellsAt (W3.setRow gr #[.int .i64 0, .int .i64 0, .int .i64 0, .int .i64 0, .int .i64 0, .int .i64 0, .int .i64 0, .int .i64 0, .int .i64 0, .int .i64 0, .int .i64 0, .int .i64 0, .int .i64 0, .int .i64 0, .int .i64 0, .int .i64 0, .int .i64 0, .int .i64 0, .int .i64 0, .int .i64 0, .slice none 0 0]) gr 0 21 = some (lrC R.1 (.slice none 0 0)) := by rw [cellsAt_setRow_at _ _ _ _ _ oz, HF.out]; rfl
      have kS : Keeps (Own gr) W3 (W3.setRow gr #[.int .i64 0, .int .i64 0, .int .i64 0, .int .i64 0, .int .i64 0, .int .i64 0, .int .i64 0, .int .i64 0, .int .i64 0, .int .i64 0, .int .i64 0, .int .i64 0, .int .i64 0, .int .i64 0, .int .i64 0, .int .i64 0, .int .i64 0, .int .i64 0, .int .i64 0, .int .i64 0, .slice none 0 0]) := (Keeps.refl (S := Own gr) W3).setRow (fun _ => (rfl : gr = gr)) _
      have hr2 : R.2 = 2 := by rw [HF.out]
      have FIN : Hid (OwnOf cNam 23 (W3.setRow gr #[.int .i64 0, .int .i64 0, .int .i64 0, .int .i64 0, .int .i64 0, .int .i64 0, .int .i64 0, .int .i64 0, .int .i64 0, .int .i64 0, .int .i64 0, .int .i64 0, .int .i64 0, .int .i64 0, .int .i64 0, .int .i64 0, .int .i64 0, .int .i64 0, .int .i64 0, .int .i64 0, .slice none 0 0]) w.heap.size (.slice none 0 0) R.1.ids ∧ Keeps No w (W3.setRow gr #[.int .i64 0, .int .i64 0, .int .i64 0, .int .i64 0, .int .i64 0, .int .i64 0, .int .i64 0, .int .i64 0, .int .i64 0, .int .i64 0, .int .i64 0, .int .i64 0, .int .i64 0, .int .i64 0, .int .i64 0, .int .i64 0, .int .i64 0, .int .i64 0, .int .i64 0, .int .i64 0, .slice none 0 0])) := Lib.hid ⟨by
        rw [HF.out]
        exact World.ownsRow_nil _ _ _ _, KX.out.trans kS (fun i hi e => by have e : i = gr := e; have := HAP.out.nr; omega)⟩
      refine bodyPost_ret (v := .tuple #[lrV R.1 (.slice none 0 0), .int .i64 R.2]) ?_ rfl ⟨(.slice none 0 0), rfl, FIN.out.1, FIN.out.2⟩
      rw [hr2]
      clear FIN kS hr2
      simp [results, Tryz.results13, go_sem, hcr]
    | some t =>
      have l1 : W3.cell? ⟨g, 1, none⟩ = some (.bool false) := l1
      have l0 : W3.cell? ⟨g, 0, none⟩ = some (.string ⟨t.toArray⟩) := by simp [World.cell?, DX.out.rd.box, rdrC]
      cases t with
      | cons a t =>
        have HF : Hid (R = (Lr.zero, 2)) := Lib.hid (by rw [HR.out]; rfl)
        clear HR
        obtain ⟨T, hT⟩ : ∃ T : ByteArray, T = ⟨(a :: t).toArray⟩ := ⟨_, rfl⟩
        have hTn : 0 < T.size := by rw [hT]; exact Nat.succ_pos _
        have hTs : (0 : Int) < (T.size : Int) := by omega
        rw [← hT] at l0
        clear hT
        go_wp2_with fail
        have hcr : cellsAt (W3.setRow gr #[.int .i64 0, .int .i64 0, .int .i64 0, .int .i64 0, .int .i64 0, .int .i64 0, .int .i64 0, .int .i64 0, .int .i64 0, .int .i64 0, .int .i64 0, .int .i64 0, .int .i64 0, .int .i64 0, .int .i64 0, .int .i64 0, .int .i64 0, .int .i64 0, .int .i64 0, .int .i64 0, .slice none 0 0]) gr 0 21 = some (lrC R.1 (.slice none 0 0)) := by rw [cellsAt_setRow_at _ _ _ _ _ oz, HF.out]; rfl
        have kS : Keeps (Own gr) W3 (W3.setRow gr #[.int .i64 0, .int .i64 0, .int .i64 0, .int .i64 0, .int .i64 0, .int .i64 0, .int .i64 0, .int .i64 0, .int .i64 0, .int .i64 0, .int .i64 0, .int .i64 0, .int .i64 0, .int .i64 0, .int .i64 0, .int .i64 0, .int .i64 0, .int .i64 0, .int .i64 0, .int .i64 0, .slice none 0 0]) := (Keeps.refl (S := Own gr) W3).setRow (fun _ => (rfl : gr = gr)) _
        have hr2 : R.2 = 2 := by rw [HF.out]
        have FIN : Hid (OwnOf cNam 23 (W3.setRow gr #[.int .i64 0, .int .i64 0, .int .i64 0, .int .i64 0, .int .i64 0, .int .i64 0, .int .i64 0, .int .i64 0, .int .i64 0, .int .i64 0, .int .i64 0, .int .i64 0, .int .i64 0, .int .i64 0, .int .i64 0, .int .i64 0, .int .i64 0, .int .i64 0, .int .i64 0, .int .i64 0, .slice none 0 0]) w.heap.size (.slice none 0 0) R.1.ids ∧ Keeps No w (W3.setRow gr #[.int .i64 0, .int .i64 0, .int .i64 0, .int .i64 0, .int .i64 0, .int .i64 0, .int .i64 0, .int .i64 0, .int .i64 0, .int .i64 0, .int .i64 0, .int .i64 0, .int .i64 0, .int .i64 0, .int .i64 0, .int .i64 0, .int .i64 0, .int .i64 0, .int .i64 0, .int .i64 0, .slice none 0 0])) := Lib.hid ⟨by
          rw [HF.out]
          exact World.ownsRow_nil _ _ _ _, KX.out.trans kS (fun i hi e => by have e : i = gr := e; have := HAP.out.nr; omega)⟩
        refine bodyPost_ret (v := .tuple #[lrV R.1 (.slice none 0 0), .int .i64 R.2]) ?_ rfl ⟨(.slice none 0 0), rfl, FIN.out.1, FIN.out.2⟩
        rw [hr2]
        clear FIN kS hr2
        simp [results, Tryz.results13, go_sem, hcr]
      | nil =>
        have l0 : W3.cell? ⟨g, 0, none⟩ = some (.string ⟨#[]⟩) := l0
        have CMY := Lib.hid (rmayL_any W3 x (.slice va x.ids.length vc) (OwnOf.reads OX.out))
        cases hok : mayL x with
        | false =>
          have HF : Hid (R = (Lr.zero, 2)) := Lib.hid (by rw [HR.out]; rw [show mayL x = false from hok]; rfl)
          clear HR
          rw [hok] at CMY
          clear hok
          go_wp2_with fail
          (with_reducible refine CMY.out.mono ?_)
          rintro e w5 ⟨rfl, hk5⟩
          have KY : Hid (Keeps No w w5) := Lib.hid (KX.out.trans hk5 (fun _ _ h => h))
          have z5 := hk5.heap DX.out.z (fun h => h)
          replace oz : Open w5 gr := ⟨_, _, z5⟩
          replace sz : (rowD w5 gr).size = 21 := by unfold rowD; rw [z5]; rfl
          clear hk5 cI l0 l1 CMY z5 KX
          have KX := KY
          go_wp2_with fail
          have hcr : cellsAt (w5.setRow gr #[.int .i64 0, .int .i64 0, .int .i64 0, .int .i64 0, .int .i64 0, .int .i64 0, .int .i64 0, .int .i64 0, .int .i64 0, .int .i64 0, .int .i64 0, .int .i64 0, .int .i64 0, .int .i64 0, .int .i64 0, .int .i64 0, .int .i64 0, .int .i64 0, .int .i64 0, .int .i64 0, .slice none 0 0]) gr 0 21 = some (lrC R.1 (.slice none 0 0)) := by rw [cellsAt_setRow_at _ _ _ _ _ oz, HF.out]; rfl
          have kS : Keeps (Own gr) w5 (w5.setRow gr #[.int .i64 0, .int .i64 0, .int .i64 0, .int .i64 0, .int .i64 0, .int .i64 0, .int .i64 0, .int .i64 0, .int .i64 0, .int .i64 0, .int .i64 0, .int .i64 0, .int .i64 0, .int .i64 0, .int .i64 0, .int .i64 0, .int .i64 0, .int .i64 0, .int .i64 0, .int .i64 0, .slice none 0 0]) := (Keeps.refl (S := Own gr) w5).setRow (fun _ => (rfl : gr = gr)) _
          have hr2 : R.2 = 2 := by rw [HF.out]
          have FIN : Hid (OwnOf cNam 23 (w5.setRow gr #[.int .i64 0, .int .i64 0, .int .i64 0, .int .i64 0, .int .i64 0, .int .i64 0, .int .i64 0, .int .i64 0, .int .i64 0, .int .i64 0, .int .i64 0, .int .i64 0, .int .i64 0, .int .i64 0, .int .i64 0, .int .i64 0, .int .i64 0, .int .i64 0, .int .i64 0, .int .i64 0, .slice none 0 0]) w.heap.size (.slice none 0 0) R.1.ids ∧ Keeps No w (w5.setRow gr #[.int .i64 0, .int .i64 0, .int .i64 0, .int .i64 0, .int .i64 0, .int .i64 0, .int .i64 0, .int .i64 0, .int .i64 0, .int .i64 0, .int .i64 0, .int .i64 0, .int .i64 0, .int .i64 0, .int .i64 0, .int .i64 0, .int .i64 0, .int .i64 0, .int .i64 0, .int .i64 0, .slice none 0 0])) := Lib.hid ⟨by
            rw [HF.out]
            exact World.ownsRow_nil _ _ _ _, KX.out.trans kS (fun i hi e => by have e : i = gr := e; have := HAP.out.nr; omega)⟩
          refine bodyPost_ret (v := .tuple #[lrV R.1 (.slice none 0 0), .int .i64 R.2]) ?_ rfl ⟨(.slice none 0 0), rfl, FIN.out.1, FIN.out.2⟩
          rw [hr2]
          clear FIN kS hr2
          simp [results, Tryz.results13, go_sem, hcr]
        | true =>
          have HF : Hid (R = (x, 0)) := Lib.hid (by rw [HR.out, show mayL x = true from hok]; rfl)
          rw [hok] at CMY
          clear hok HR
          go_wp2_with fail
          (with_reducible refine CMY.out.mono ?_)
          rintro e w5 ⟨rfl, hk5⟩
          have KY : Hid (Keeps No w w5) := Lib.hid (KX.out.trans hk5 (fun _ _ h => h))
          have z5 := hk5.heap DX.out.z (fun h => h)
          have c5 := hk5.cellsAt cI
          have O5 := Lib.hid (hk5.owns OX.out (fun _ _ h => h))
          have NZ : Hid (∀ i, (Value.slice va x.ids.length vc).ownBlock = some i → i ≠ gr) := Lib.hid (fun i hi e => by
            obtain ⟨cur, hc, _⟩ := OwnOf.block' OX.out hi
            rw [e, DX.out.z] at hc
            cases hc)
          replace oz : Open w5 gr := ⟨_, _, z5⟩
          replace sz : (rowD w5 gr).size = 21 := by unfold rowD; rw [z5]; rfl
          clear hk5 cI l0 l1 CMY z5 KX
          have KX := KY
          go_wp2_with fail
          have hcr : cellsAt (w5.setRow gr #[.int .i64 x.k, .int .i64 x.n, .int .i64 x.s, .int .i64 x.i, .int .i64 x.c.k, .int .i64 x.c.s, .int .i64 x.c.i, .int .i64 x.c.g, .int .i64 x.c.b.s, .int .i64 x.c.b.i, .int .i64 x.c.b.g, .int .i64 x.c.b.m, .int .i64 x.c.b.x, .int .i64 x.c.b.y, .int .i64 x.c.b.vx, .int .i64 x.c.b.vy, .int .i64 x.c.b.hp, .int .i64 x.c.b.pw, .int .i64 x.c.b.lf, .int .i64 x.c.m, .slice va x.ids.length vc]) gr 0 21 = some (lrC R.1 (.slice va x.ids.length vc)) := by rw [cellsAt_setRow_at _ _ _ _ _ oz, HF.out]; rfl
          have kS : Keeps (Own gr) w5 (w5.setRow gr #[.int .i64 x.k, .int .i64 x.n, .int .i64 x.s, .int .i64 x.i, .int .i64 x.c.k, .int .i64 x.c.s, .int .i64 x.c.i, .int .i64 x.c.g, .int .i64 x.c.b.s, .int .i64 x.c.b.i, .int .i64 x.c.b.g, .int .i64 x.c.b.m, .int .i64 x.c.b.x, .int .i64 x.c.b.y, .int .i64 x.c.b.vx, .int .i64 x.c.b.vy, .int .i64 x.c.b.hp, .int .i64 x.c.b.pw, .int .i64 x.c.b.lf, .int .i64 x.c.m, .slice va x.ids.length vc]) := (Keeps.refl (S := Own gr) w5).setRow (fun _ => (rfl : gr = gr)) _
          have hr2 : R.2 = 0 := by rw [HF.out]
          have FIN : Hid (OwnOf cNam 23 (w5.setRow gr #[.int .i64 x.k, .int .i64 x.n, .int .i64 x.s, .int .i64 x.i, .int .i64 x.c.k, .int .i64 x.c.s, .int .i64 x.c.i, .int .i64 x.c.g, .int .i64 x.c.b.s, .int .i64 x.c.b.i, .int .i64 x.c.b.g, .int .i64 x.c.b.m, .int .i64 x.c.b.x, .int .i64 x.c.b.y, .int .i64 x.c.b.vx, .int .i64 x.c.b.vy, .int .i64 x.c.b.hp, .int .i64 x.c.b.pw, .int .i64 x.c.b.lf, .int .i64 x.c.m, .slice va x.ids.length vc]) w.heap.size (.slice va x.ids.length vc) R.1.ids ∧ Keeps No w (w5.setRow gr #[.int .i64 x.k, .int .i64 x.n, .int .i64 x.s, .int .i64 x.i, .int .i64 x.c.k, .int .i64 x.c.s, .int .i64 x.c.i, .int .i64 x.c.g, .int .i64 x.c.b.s, .int .i64 x.c.b.i, .int .i64 x.c.b.g, .int .i64 x.c.b.m, .int .i64 x.c.b.x, .int .i64 x.c.b.y, .int .i64 x.c.b.vx, .int .i64 x.c.b.vy, .int .i64 x.c.b.hp, .int .i64 x.c.b.pw, .int .i64 x.c.b.lf, .int .i64 x.c.m, .slice va x.ids.length vc])) := Lib.hid ⟨by
            rw [HF.out]
            exact kS.owns O5.out (fun i hi e => NZ.out i hi e), KX.out.trans kS (fun i hi e => by have e : i = gr := e; have := HAP.out.nr; omega)⟩
          refine bodyPost_ret (v := .tuple #[lrV R.1 (.slice va x.ids.length vc), .int .i64 R.2]) ?_ rfl ⟨(.slice va x.ids.length vc), rfl, FIN.out.1, FIN.out.2⟩
          rw [hr2]
          clear FIN kS hr2
          simp [results, Tryz.results13, go_sem, hcr]
end Go.Proofs.YtpbpgjfdledgoaaGreatDoor

