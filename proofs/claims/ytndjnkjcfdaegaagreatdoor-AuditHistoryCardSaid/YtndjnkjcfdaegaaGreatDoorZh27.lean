/-
  Texts in one: LeF, LeG, LeH. No conditions of their own.
-/
import Derived.Test.YtndjnkjcfdaegaaGreatDoorZh11
set_option linter.all false

/-
  parts: what names, entities and commands may be. No conditions of its own.
-/
namespace Go.Proofs.YtndjnkjcfdaegaaGreatDoor
open Go.RowKit Go.Joins Go.Deep

theorem within_any (w : World) (h : Bool) (n lo hi : Int) : Calls Tryz.prog 118 #[.bool h, .int .i64 n, .int .i64 lo, .int .i64 hi] w fun e w' => e = .returned (.bool (inB h n lo hi)) ∧ w' = w := by
  cases h with
  | false =>
    by_cases h0 : n = 0
    · subst h0
      go_enter Tryz.func118, Tryz.ntmps118
      go_wp2
      go_ret
      exact ⟨rfl, rfl⟩
    · have hb : (n == 0) = false := by simpa using h0
      have HF : Hid (inB false n lo hi = false) := Lib.hid (by unfold inB; rw [cond_false, decide_eq_false h0])
      rw [HF.out]
      clear h0
      go_enter Tryz.func118, Tryz.ntmps118
      go_wp2
      go_ret
      exact ⟨rfl, rfl⟩
  | true =>
    by_cases h1 : lo ≤ n
    · by_cases h2 : n ≤ hi
      · have HF : Hid (inB true n lo hi = true) := Lib.hid (by unfold inB okI; rw [decide_eq_true h1, decide_eq_true h2]; rfl)
        rw [HF.out]
        go_enter Tryz.func118, Tryz.ntmps118
        go_wp2
        go_ret
        exact ⟨rfl, rfl⟩
      · have HF : Hid (inB true n lo hi = false) := Lib.hid (by unfold inB okI; rw [decide_eq_true h1, decide_eq_false h2]; rfl)
        rw [HF.out]
        go_enter Tryz.func118, Tryz.ntmps118
        go_wp2
        go_ret
        exact ⟨rfl, rfl⟩
    · have HF : Hid (inB true n lo hi = false) := Lib.hid (by unfold inB okI; rw [decide_eq_false h1]; rfl)
      rw [HF.out]
      go_enter Tryz.func118, Tryz.ntmps118
      go_wp2
      go_ret
      exact ⟨rfl, rfl⟩
theorem some_any (w : World) (m : Int) : Calls Tryz.prog 110 #[.int .i64 m] w fun e w' => e = .returned (.bool (takesM m)) ∧ w' = w := by
  have hs := (has_spelled m).1
  have HT : Hid (takesM m = ((decide (0 < m) && decide (m ≤ 31)) && !hasB m 1)) := Lib.hid (by
    unfold takesM okI
    rw [show decide (1 ≤ m) = decide (0 < m) from decide_eq_decide.2 (by omega)])
  rw [HT.out]
  by_cases h1 : 0 < m
  · by_cases h2 : m ≤ 31
    · rw [decide_eq_true h1, decide_eq_true h2]
      cases h3 : hasB m 1
      · have hz : bits .and .i64 m 1 = 0 := by rw [hs, h3]; rfl
        clear hs h3 HT
        go_enter Tryz.func110, Tryz.ntmps110
        go_wp2
        go_ret
        exact ⟨rfl, rfl⟩
      · have hz : bits .and .i64 m 1 = 1 := by rw [hs, h3]; rfl
        clear hs h3 HT
        go_enter Tryz.func110, Tryz.ntmps110
        go_wp2
        go_ret
        exact ⟨rfl, rfl⟩
    · rw [decide_eq_true h1, decide_eq_false h2, Bool.and_false, Bool.false_and]
      clear hs HT
      go_enter Tryz.func110, Tryz.ntmps110
      go_wp2
      go_ret
      exact ⟨rfl, rfl⟩
  · rw [decide_eq_false h1, Bool.false_and, Bool.false_and]
    clear hs HT
    go_enter Tryz.func110, Tryz.ntmps110
    go_wp2
    go_ret
    exact ⟨rfl, rfl⟩
def errB (b : Bool) : Int := bif b then 0 else 1
theorem checkId_any (w : World) (a : Nam) : Calls Tryz.prog 70 #[namV a] w fun e w' => e = .returned (.int .i64 (errB (idOk a))) ∧ Grown w w' := by
  obtain ⟨s, i, g⟩ := a
  have C1 := Lib.hid (fun W => within_any W true s 0 15)
  have C2 := Lib.hid (fun W => within_any W true i 0 15)
  have C3 := Lib.hid (fun W => within_any W true g 0 1048575)
  have HK : Hid (idOk ⟨s, i, g⟩ = (inB true s 0 15 && (inB true i 0 15 && inB true g 0 1048575))) := Lib.hid rfl
  obtain ⟨B1, h1⟩ : ∃ b, b = inB true s 0 15 := ⟨_, rfl⟩
  obtain ⟨B2, h2⟩ : ∃ b, b = inB true i 0 15 := ⟨_, rfl⟩
  obtain ⟨B3, h3⟩ : ∃ b, b = inB true g 0 1048575 := ⟨_, rfl⟩
  rw [← h1] at C1 HK
  rw [← h2] at C2 HK
  rw [← h3] at C3 HK
  rw [HK.out]
  clear h1 h2 h3 HK
  have HG := Lib.hid (((Grown.same w).alloc (.cells #[.int .i64 s, .int .i64 i, .int .i64 g] 36)))
  cases B1 with
  | false =>
    go_enter Tryz.func70, Tryz.ntmps70
    go_wp2_with fail
    refine (C1.out _).mono ?_
    rintro e w1 ⟨rfl, hw⟩
    have hw := hw.symm
    subst hw
    go_wp2
    go_ret
    exact ⟨rfl, HG.out⟩
  | true =>
    cases B2 with
    | false =>
      go_enter Tryz.func70, Tryz.ntmps70
      go_wp2_with fail
      refine (C1.out _).mono ?_
      rintro e w1 ⟨rfl, hw⟩
      have hw := hw.symm
      subst hw
      go_wp2_with fail
      refine (C2.out _).mono ?_
      rintro e w1 ⟨rfl, hw⟩
      have hw := hw.symm
      subst hw
      go_wp2
      go_ret
      exact ⟨rfl, HG.out⟩
    | true =>
      cases B3 with
      | false =>
        go_enter Tryz.func70, Tryz.ntmps70
        go_wp2_with fail
        refine (C1.out _).mono ?_
        rintro e w1 ⟨rfl, hw⟩
        have hw := hw.symm
        subst hw
        go_wp2_with fail
        refine (C2.out _).mono ?_
        rintro e w1 ⟨rfl, hw⟩
        have hw := hw.symm
        subst hw
        go_wp2_with fail
        refine (C3.out _).mono ?_
        rintro e w1 ⟨rfl, hw⟩
        have hw := hw.symm
        subst hw
        go_wp2
        go_ret
        exact ⟨rfl, HG.out⟩
      | true =>
        go_enter Tryz.func70, Tryz.ntmps70
        go_wp2_with fail
        refine (C1.out _).mono ?_
        rintro e w1 ⟨rfl, hw⟩
        have hw := hw.symm
        subst hw
        go_wp2_with fail
        refine (C2.out _).mono ?_
        rintro e w1 ⟨rfl, hw⟩
        have hw := hw.symm
        subst hw
        go_wp2_with fail
        refine (C3.out _).mono ?_
        rintro e w1 ⟨rfl, hw⟩
        have hw := hw.symm
        subst hw
        go_wp2
        go_ret
        exact ⟨rfl, HG.out⟩
end Go.Proofs.YtndjnkjcfdaegaaGreatDoor

/-
  parts: entities and commands; two entities, two commands held against each other. No conditions of its own.
-/
namespace Go.Proofs.YtndjnkjcfdaegaaGreatDoor
open Go.RowKit Go.Joins Go.Deep

theorem ite_ok (p : Prop) [Decidable p] (b : Bool) (w : World) : (if p then (Result.ok (Value.bool b) w : Result Value) else .ok (.bool false) w) = .ok (.bool (decide p && b)) w := by
  by_cases h : p <;> simp [h]
theorem ite_no (p : Prop) [Decidable p] (b : Bool) (w : World) : (if p then (Result.ok (Value.bool b) w : Result Value) else .ok (.bool true) w) = .ok (.bool (!decide p || b)) w := by
  by_cases h : p <;> simp [h]
theorem run_neqBd (a b : Bd) (w : World) : (binOp .neq 38 (bdV a) (bdV b)).run Tryz.prog w = .ok (.bool (!bdEq a b)) w := by
  obtain ⟨a0, a1, a2, a3, a4, a5, a6, a7, a8, a9, a10⟩ := a
  obtain ⟨b0, b1, b2, b3, b4, b5, b6, b7, b8, b9, b10⟩ := b
  simp only [bdEq, neq, Bd.id]
  simp [go_sem]
  simp only [ite_no, Bool.or_false, Bool.or_assoc]
  rfl
theorem run_neqCm (a b : Cm) (w : World) : (binOp .neq 40 (cmV a) (cmV b)).run Tryz.prog w = .ok (.bool (!cmEq a b)) w := by
  obtain ⟨a0, a1, a2, a3, ⟨x0, x1, x2, x3, x4, x5, x6, x7, x8, x9, x10⟩, a5⟩ := a
  obtain ⟨b0, b1, b2, b3, ⟨y0, y1, y2, y3, y4, y5, y6, y7, y8, y9, y10⟩, b5⟩ := b
  simp only [cmEq, bdEq, neq, Bd.id, Cm.id]
  simp [go_sem]
  simp only [ite_no, Bool.or_false, Bool.or_assoc]
  rfl

/-- a number, and from where to where it may be -/
structure Wi where
  h : Bool
  n : Int
  lo : Int
  hi : Int
def cWi : Codec Wi := ⟨fun t => [.bool t.h, .int .i64 t.n, .int .i64 t.lo, .int .i64 t.hi], 4, fun _ => rfl, fun a u h => by simp at h; rcases h with rfl | rfl | rfl | rfl <;> rfl, by decide⟩
def wis (b : Bd) : List Wi := [⟨hasB b.m 1, b.x, -1073741824, 1073741824⟩, ⟨hasB b.m 1, b.y, -1073741824, 1073741824⟩, ⟨hasB b.m 2, b.vx, -1073741824, 1073741824⟩, ⟨hasB b.m 2, b.vy, -1073741824, 1073741824⟩, ⟨hasB b.m 4, b.hp, 1, 1048576⟩, ⟨hasB b.m 8, b.pw, 0, 1024⟩, ⟨hasB b.m 16, b.lf, 1, 1048576⟩]
theorem wis_ok (b : Bd) : rightBd b = (okI b.m 0 31 && (wis b).all (fun t => inB t.h t.n t.lo t.hi)) := by
  simp only [rightBd, wis, List.all_cons, List.all_nil, Bool.and_true]
theorem wis_len (b : Bd) : (wis b).length = 7 := rfl
def BoolsAt (W : World) (p v : Bool) (x y : Value) (w' : World) : Prop := x = .bool p ∧ y = .bool v ∧ Grown W w'
def WisAt (W : World) (l : List Wi) (x y z : Value) (w' : World) : Prop := ∃ g, x = .slice (some ⟨g, 0, none⟩) 7 7 ∧ y = .int .i64 7 ∧ z = .int .i64 0 ∧ Reads w' cWi.size (.slice (some ⟨g, 0, none⟩) 7 7) 7 (rowsOf cWi l) ∧ Grown W w'
set_option maxRecDepth 100000 in
set_option maxHeartbeats 4000000 in
theorem right_yes (w : World) (b : Bd) (hm : okI b.m 0 31 = true) : Calls Tryz.prog 111 #[bdV b] w fun e w' => e = .returned (.bool (rightBd b)) ∧ Grown w w' := by
  obtain ⟨hm0, hm1⟩ := okI_iff.1 hm
  obtain ⟨B, hB⟩ : ∃ B, B = rightBd b := ⟨_, rfl⟩
  rw [← hB]
  have HOK : Hid (B = (wis b).all (fun t => inB t.h t.n t.lo t.hi)) := Lib.hid (by rw [hB, wis_ok, hm, Bool.true_and])
  have C1 := Lib.hid (fun W => has1 W b)
  have C2 := Lib.hid (fun W => has2 W b)
  have C4 := Lib.hid (fun W => has4 W b)
  have C8 := Lib.hid (fun W => has8 W b)
  have C16 := Lib.hid (fun W => has16 W b)
  have HW : Hid (wis b = [⟨hasB b.m 1, b.x, -1073741824, 1073741824⟩, ⟨hasB b.m 1, b.y, -1073741824, 1073741824⟩, ⟨hasB b.m 2, b.vx, -1073741824, 1073741824⟩, ⟨hasB b.m 2, b.vy, -1073741824, 1073741824⟩, ⟨hasB b.m 4, b.hp, 1, 1048576⟩, ⟨hasB b.m 8, b.pw, 0, 1024⟩, ⟨hasB b.m 16, b.lf, 1, 1048576⟩]) := Lib.hid rfl
  have HWL := Lib.hid (wis_len b)
  obtain ⟨b1, hb1⟩ : ∃ x, x = hasB b.m 1 := ⟨_, rfl⟩
  obtain ⟨b2, hb2⟩ : ∃ x, x = hasB b.m 2 := ⟨_, rfl⟩
  obtain ⟨b4, hb4⟩ : ∃ x, x = hasB b.m 4 := ⟨_, rfl⟩
  obtain ⟨b8, hb8⟩ : ∃ x, x = hasB b.m 8 := ⟨_, rfl⟩
  obtain ⟨b16, hb16⟩ : ∃ x, x = hasB b.m 16 := ⟨_, rfl⟩
  rw [← hb1] at C1 HW
  rw [← hb2] at C2 HW
  rw [← hb4] at C4 HW
  rw [← hb8] at C8 HW
  rw [← hb16] at C16 HW
  obtain ⟨l, hl⟩ : ∃ l, l = wis b := ⟨_, rfl⟩
  rw [← hl] at HW HOK HWL
  clear hb1 hb2 hb4 hb8 hb16 hl hB hm
  go_enter Tryz.func111, Tryz.ntmps111
  go_upto_region 1 with fail
  refine wp_world ?_
  intro W hW
  have G0 : Hid (Grown w W) := Lib.hid (by rw [hW]; exact (Grown.same w).alloc _)
  have cb : cellsAt W w.heap.size 0 11 = some (bdC b) := by rw [hW]; simp [go_sem]
  obtain ⟨gb, hgb⟩ : ∃ g, g = w.heap.size := ⟨_, rfl⟩
  rw [← hgb] at cb ⊢
  clear hW hgb
  have c3 := cellsAt_cell cb 3 _ rfl
  have c4 := cellsAt_cell cb 4 _ rfl
  have c5 := cellsAt_cell cb 5 _ rfl
  have c6 := cellsAt_cell cb 6 _ rfl
  have c7 := cellsAt_cell cb 7 _ rfl
  have c8 := cellsAt_cell cb 8 _ rfl
  have c9 := cellsAt_cell cb 9 _ rfl
  have c10 := cellsAt_cell cb 10 _ rfl
  simp only [Nat.zero_add] at c3 c4 c5 c6 c7 c8 c9 c10
  have LB : ∀ w', Grown W w' → cellsAt w' gb 0 11 = some (bdC b) := fun w' k => k.keeps.cellsAt cb
  have L4 := Lib.hid (fun w' (k : Grown W w') => k.keeps.cell c4 (fun h => h))
  have L5 := Lib.hid (fun w' (k : Grown W w') => k.keeps.cell c5 (fun h => h))
  have L6 := Lib.hid (fun w' (k : Grown W w') => k.keeps.cell c6 (fun h => h))
  have L7 := Lib.hid (fun w' (k : Grown W w') => k.keeps.cell c7 (fun h => h))
  have L8 := Lib.hid (fun w' (k : Grown W w') => k.keeps.cell c8 (fun h => h))
  have L9 := Lib.hid (fun w' (k : Grown W w') => k.keeps.cell c9 (fun h => h))
  have L10 := Lib.hid (fun w' (k : Grown W w') => k.keeps.cell c10 (fun h => h))
  clear cb
  go_upto_region 3 with fail
  go_cut [3, 4] (BoolsAt W b1 b2)
  case first =>
    go_region_held3 (fun w' => Grown W w')
      (first | assumption | exact (Grown.same W).drew | (refine Grown.alloc ?_ _; assumption))
      (first
        | (go_at_call 158
           have hc := C1.out
           with_reducible refine (hc _).mono ?_
           clear hc
           rintro e w1 ⟨rfl, hg⟩
           have hS1 : Grown W w1 := Grown.trans (by first | assumption | exact (Grown.same W).drew) hg)
        | (go_at_call 158
           have hc := C2.out
           with_reducible refine (hc _).mono ?_
           clear hc
           rintro e w2 ⟨rfl, hg⟩
           have hS2 : Grown W w2 := Grown.trans (by first | assumption | exact (Grown.same W).drew) hg))
    all_goals go_wp2_with fail
    all_goals go_meet
    all_goals exact ⟨rfl, rfl, by assumption⟩
  case rest =>
    obtain ⟨rfl, rfl, hg1⟩ := hcut
    obtain ⟨wb, hwb⟩ : ∃ x : World, x = wc := ⟨_, rfl⟩
    subst hwb
    have GB := Lib.hid hg1
    have M4 : ∀ w', Grown wb w' → w'.cell? ⟨gb, 4, none⟩ = some (.int .i64 b.x) := fun w' k => L4.out w' (GB.out.trans k)
    have M5 : ∀ w', Grown wb w' → w'.cell? ⟨gb, 5, none⟩ = some (.int .i64 b.y) := fun w' k => L5.out w' (GB.out.trans k)
    have M6 : ∀ w', Grown wb w' → w'.cell? ⟨gb, 6, none⟩ = some (.int .i64 b.vx) := fun w' k => L6.out w' (GB.out.trans k)
    have M7 : ∀ w', Grown wb w' → w'.cell? ⟨gb, 7, none⟩ = some (.int .i64 b.vy) := fun w' k => L7.out w' (GB.out.trans k)
    have M8 : ∀ w', Grown wb w' → w'.cell? ⟨gb, 8, none⟩ = some (.int .i64 b.hp) := fun w' k => L8.out w' (GB.out.trans k)
    have M9 : ∀ w', Grown wb w' → w'.cell? ⟨gb, 9, none⟩ = some (.int .i64 b.pw) := fun w' k => L9.out w' (GB.out.trans k)
    have M10 : ∀ w', Grown wb w' → w'.cell? ⟨gb, 10, none⟩ = some (.int .i64 b.lf) := fun w' k => L10.out w' (GB.out.trans k)
    have LBB := Lib.hid LB
    have LC : ∀ w', Grown wb w' → cellsAt w' gb 0 11 = some (bdC b) := fun w' k => LBB.out w' (GB.out.trans k)
    clear LB hg1 L4 L5 L6 L7 L8 L9 L10 c3 c4 c5 c6 c7 c8 c9 c10
    go_upto_region 4 with fail
    go_cut [50, 51, 52] (WisAt wb l)
    case first =>
      go_region_held3 (fun w' => Grown wb w')
        (first | assumption | exact (Grown.same wb).drew | (refine Grown.alloc ?_ _; assumption))
        (first
          | (go_at_call 158
             have hc := C4.out
             with_reducible refine (hc _).mono ?_
             clear hc
             rintro e w1 ⟨rfl, hg⟩
             have hS1 : Grown wb w1 := Grown.trans (by first | assumption | exact (Grown.same wb).drew) hg)
          | (go_at_call 158
             have hc := C8.out
             with_reducible refine (hc _).mono ?_
             clear hc
             rintro e w2 ⟨rfl, hg⟩
             have hS2 : Grown wb w2 := Grown.trans (by first | assumption | exact (Grown.same wb).drew) hg)
          | (go_at_call 158
             have hc := C16.out
             with_reducible refine (hc _).mono ?_
             clear hc
             rintro e w3 ⟨rfl, hg⟩
             have hS3 : Grown wb w3 := Grown.trans (by first | assumption | exact (Grown.same wb).drew) hg))
      all_goals go_wp2_with fail
      all_goals go_meet
      all_goals refine ⟨w3.heap.size, rfl, rfl, rfl, ?_, hS3.alloc _⟩
      all_goals rw [HW.out]
      all_goals exact Reads.ofOwn (World.ownsRow_lit (base := 0) (size := 4) w3 _ 7 (Nat.zero_le _) (by unfold maxLen; omega) rfl) (rowsOf_ones cWi [⟨b1, b.x, -1073741824, 1073741824⟩, ⟨b1, b.y, -1073741824, 1073741824⟩, ⟨b2, b.vx, -1073741824, 1073741824⟩, ⟨b2, b.vy, -1073741824, 1073741824⟩, ⟨b4, b.hp, 1, 1048576⟩, ⟨b8, b.pw, 0, 1024⟩, ⟨b16, b.lf, 1, 1048576⟩])
    case rest =>
      obtain ⟨g, rfl, rfl, rfl, hrd, hg2⟩ := hcut
      obtain ⟨W2, hW2⟩ : ∃ x : World, x = wc := ⟨_, rfl⟩
      subst hW2
      have RD := Lib.hid hrd
      have GW := Lib.hid (G0.out.trans (GB.out.trans hg2))
      have HL := Lib.hid HWL.out
      have CI := Lib.hid (fun W (t : Wi) => within_any W t.h t.n t.lo t.hi)
      clear M4 M5 M6 M7 M8 M9 M10 LC hrd hg2 LBB C1 C2 C4 C8 C16 HWL HW G0 GB
      go_wp2
      go_loopw [52] (fun q wr => ∃ k : Nat, k ≤ 7 ∧ q = .int .i64 k ∧ (∀ j, (h : j < k) → (h2 : j < l.length) → inB l[j].h l[j].n l[j].lo l[j].hi = true) ∧ Grown W2 wr) (fun q _ => 7 - (intOf q).toNat)
      case atStart => exact ⟨0, by omega, rfl, fun j h => by omega, Grown.same _⟩
      case round =>
        obtain ⟨k, hk7, rfl, hall, hK⟩ := hrel
        obtain ⟨wo, hwo⟩ : ∃ x : World, x = wr := ⟨_, rfl⟩
        subst hwo
        have K := Lib.hid hK
        have HALL := Lib.hid hall
        clear hall
        by_cases hlt : k < 7
        · have hlti : (k : Int) < 7 := by omega
          have hk0 : (0 : Int) ≤ (k : Int) := by omega
          have hkl : k < l.length := by rw [HL.out]; exact hlt
          have ck : cellsAt wo g (k * 4) 4 = some [.bool l[k].h, .int .i64 l[k].n, .int .i64 l[k].lo, .int .i64 l[k].hi] := by
            have h := hK.keeps.cellsAt (RdOf.at cWi (n := 7) RD.out k hkl)
            rw [Nat.zero_add] at h
            exact h
          obtain ⟨x, hx⟩ : ∃ x, x = l[k] := ⟨_, rfl⟩
          rw [← hx] at ck
          have HX := Lib.hid hx
          have CX := Lib.hid (fun W => CI.out W x)
          obtain ⟨T, hT⟩ : ∃ T, T = inB x.h x.n x.lo x.hi := ⟨_, rfl⟩
          rw [← hT] at CX
          have HT := Lib.hid hT
          clear hx hK hT
          go_wp2_with fail
          refine (CX.out _).mono ?_
          rintro e w1 ⟨rfl, hw⟩
          have hw := hw.symm
          subst hw
          cases T with
          | false =>
            have hB : B = false := by
              rw [HOK.out, List.all_eq_false]
              refine ⟨l[k], List.getElem_mem hkl, ?_⟩
              rw [← HX.out, ← HT.out]
              simp
            subst hB
            go_wp2
            go_ret
            exact ⟨rfl, GW.out.trans (K.out.alloc _)⟩
          | true =>
            have hok : Hid (inB l[k].h l[k].n l[k].lo l[k].hi = true) := Lib.hid (by rw [← HX.out, ← HT.out])
            go_wp2
            go_roundw
            case rel =>
              refine ⟨k + 1, by omega, by go_num, fun j h h2 => ?_, K.out.alloc _⟩
              by_cases hjk : j = k
              · subst hjk; exact hok.out
              · exact HALL.out j (by omega) h2
            case measure => simp [intOf]; omega
        · have hk : k = 7 := by omega
          subst hk
          have hB : B = true := by
            rw [HOK.out, List.all_eq_true]
            intro t ht
            obtain ⟨j, hj, rfl⟩ := List.getElem_of_mem ht
            exact HALL.out j (by have := HL.out; omega) hj
          subst hB
          have hlti : ¬ ((7 : Int) < 7) := by omega
          go_wp2
          go_ret
          exact ⟨rfl, GW.out.trans K.out⟩
theorem right_no (w : World) (b : Bd) (hm : okI b.m 0 31 = false) : Calls Tryz.prog 111 #[bdV b] w fun e w' => e = .returned (.bool (rightBd b)) ∧ Grown w w' := by
  have HF : Hid (rightBd b = false) := Lib.hid (by unfold rightBd; rw [hm, Bool.false_and])
  rw [HF.out]
  have G0 := Lib.hid ((Grown.same w).alloc (.cells (bdC b).toArray 38))
  by_cases h0 : b.m < 0
  · clear hm HF
    go_enter Tryz.func111, Tryz.ntmps111
    go_wp2
    go_ret
    exact ⟨rfl, G0.out⟩
  · have h1 : 31 < b.m := by
      by_cases h : 31 < b.m
      · exact h
      · have := (okI_iff (n := b.m) (lo := 0) (hi := 31)).2 ⟨by omega, by omega⟩
        rw [this] at hm
        cases hm
    clear hm HF
    go_enter Tryz.func111, Tryz.ntmps111
    go_wp2
    go_ret
    exact ⟨rfl, G0.out⟩
theorem rightBd_any (w : World) (b : Bd) : Calls Tryz.prog 111 #[bdV b] w fun e w' => e = .returned (.bool (rightBd b)) ∧ Grown w w' := by
  cases hm : okI b.m 0 31 with
  | true => exact right_yes w b hm
  | false => exact right_no w b hm
end Go.Proofs.YtndjnkjcfdaegaaGreatDoor

/-
  parts: what an entity, a command may be, as the program asks. No conditions of its own.
-/
namespace Go.Proofs.YtndjnkjcfdaegaaGreatDoor
open Go.RowKit Go.Joins Go.Deep

theorem neqNam_run (W : World) (a : Nam) : (binOp .neq 36 (namV a) (.agg #[.int .i64 0, .int .i64 0, .int .i64 0])).run Tryz.prog W = .ok (.bool (!neq a Nam.zero)) W := run_neqID a.s a.i a.g 0 0 0 W
theorem neqBd_run (W : World) (b : Bd) : (binOp .neq 38 (bdV b) (.agg #[.int .i64 0, .int .i64 0, .int .i64 0, .int .i64 0, .int .i64 0, .int .i64 0, .int .i64 0, .int .i64 0, .int .i64 0, .int .i64 0, .int .i64 0])).run Tryz.prog W = .ok (.bool (!bdEq b Bd.zero)) W := run_neqBd b Bd.zero W
theorem bdCheck_any (w : World) (b : Bd) : Calls Tryz.prog 109 #[bdV b] w fun e w' => e = .returned (.int .i64 (errB (bdOk b))) ∧ Grown w w' := by
  have CR := Lib.hid (fun W => rightBd_any W b)
  have CH := Lib.hid (fun W => has1 W b)
  have CI := Lib.hid (fun W => checkId_any W b.id)
  have HK : Hid (bdOk b = (rightBd b && (hasB b.m 1 && idOk b.id))) := Lib.hid rfl
  obtain ⟨R, hR⟩ : ∃ x, x = rightBd b := ⟨_, rfl⟩
  obtain ⟨H, hH⟩ : ∃ x, x = hasB b.m 1 := ⟨_, rfl⟩
  obtain ⟨I, hI⟩ : ∃ x, x = idOk b.id := ⟨_, rfl⟩
  rw [← hR] at CR HK
  rw [← hH] at CH HK
  rw [← hI] at CI HK
  rw [HK.out]
  clear hR hH hI HK
  have cb : cellsAt (w.alloc (.cells (bdC b).toArray 38)) w.heap.size 0 11 = some (bdC b) := by simp [go_sem]
  have G0 := Lib.hid ((Grown.same w).alloc (.cells (bdC b).toArray 38))
  have CB := Lib.hid cb
  clear cb
  cases R with
  | false =>
    go_enter Tryz.func109, Tryz.ntmps109
    go_wp2_with fail
    refine (CR.out _).mono ?_
    rintro e w1 ⟨rfl, hg⟩
    have G1 := Lib.hid (G0.out.trans hg)
    clear hg
    go_wp2
    go_ret
    exact ⟨rfl, G1.out⟩
  | true =>
    cases H with
    | false =>
      go_enter Tryz.func109, Tryz.ntmps109
      go_wp2_with fail
      refine (CR.out _).mono ?_
      rintro e w1 ⟨rfl, hg⟩
      have G1 := Lib.hid (G0.out.trans hg)
      have c1 := hg.keeps.cellsAt CB.out
      clear hg
      go_wp2_with fail
      refine (CH.out _).mono ?_
      rintro e w2 ⟨rfl, hg⟩
      have G2 := Lib.hid (G1.out.trans hg)
      clear hg
      go_wp2
      go_ret
      exact ⟨rfl, G2.out⟩
    | true =>
      go_enter Tryz.func109, Tryz.ntmps109
      go_wp2_with fail
      refine (CR.out _).mono ?_
      rintro e w1 ⟨rfl, hg⟩
      have G1 := Lib.hid (G0.out.trans hg)
      have c1 := hg.keeps.cellsAt CB.out
      clear hg
      go_wp2_with fail
      refine (CH.out _).mono ?_
      rintro e w2 ⟨rfl, hg⟩
      have G2 := Lib.hid (G1.out.trans hg)
      have c2 : cellsAt w2 w.heap.size 0 3 = some (namC b.id) := cellsAt_part (hg.keeps.cellsAt c1) 0 (namC b.id) rfl (by simp)
      clear hg c1
      go_wp2_with fail
      refine (CI.out _).mono ?_
      rintro e w3 ⟨rfl, hg⟩
      have G3 := Lib.hid (G2.out.trans hg)
      clear hg
      go_wp2
      go_ret
      exact ⟨rfl, G3.out⟩

section
variable (w : World) (c : Cm)
set_option maxHeartbeats 1000000 in
theorem checkCmd_else (h1 : ¬ c.k = 1) (h2 : ¬ c.k = 2) (h3 : ¬ c.k = 3) (h4 : ¬ c.k = 4) : Calls Tryz.prog 61 #[cmV c] w fun e w' => e = .returned (.int .i64 (errB (cmdOk c))) ∧ Grown w w' := by
  have HF : Hid (errB (cmdOk c) = 1) := Lib.hid (by unfold cmdOk; rw [beq_eq_false_iff_ne.2 h1, beq_eq_false_iff_ne.2 h2, beq_eq_false_iff_ne.2 h3, beq_eq_false_iff_ne.2 h4]; rfl)
  rw [HF.out]
  have b1 : (c.k == 1) = false := by simpa using h1
  have b2 : (c.k == 2) = false := by simpa using h2
  have b3 : (c.k == 3) = false := by simpa using h3
  have b4 : (c.k == 4) = false := by simpa using h4
  have CI := Lib.hid (fun W => checkId_any W c.id)
  clear HF h1 h2 h3 h4
  go_enter Tryz.func61, Tryz.ntmps61
  go_upto_region 1 with fail
  refine wp_world ?_
  intro W hW
  have G0 : Hid (Grown w W) := Lib.hid (by rw [hW]; exact (Grown.same w).alloc _)
  have cb : cellsAt W w.heap.size 0 16 = some (cmC c) := by rw [hW]; simp [go_sem]
  obtain ⟨gc, hgc⟩ : ∃ g, g = w.heap.size := ⟨_, rfl⟩
  rw [← hgc] at cb ⊢
  clear hW hgc
  have i0 : cellsAt W gc 1 3 = some (namC c.id) := cellsAt_part cb 1 (namC c.id) rfl (by simp)
  go_wp2_with fail
  refine (CI.out _).mono ?_
  rintro e w1 ⟨rfl, hg⟩
  have G1 := Lib.hid (G0.out.trans hg)
  have cc := hg.keeps.cellsAt cb
  have k0 := cellsAt_cell cc 0 _ rfl
  have k15 := cellsAt_cell cc 15 _ rfl
  have k7 := cellsAt_cell cc 7 _ rfl
  have i1 : cellsAt w1 gc 1 3 = some (namC c.id) := cellsAt_part cc 1 (namC c.id) rfl (by simp)
  have i4 : cellsAt w1 gc 4 11 = some (bdC c.b) := cellsAt_part cc 4 (bdC c.b) rfl (by simp)
  have i5 : cellsAt w1 gc 4 3 = some (namC c.b.id) := cellsAt_part cc 4 (namC c.b.id) rfl (by simp)
  simp only [Nat.zero_add] at k0 k15 k7
  clear cc cb i0 hg
  go_wp2
  go_ret
  exact ⟨rfl, G1.out⟩
set_option maxHeartbeats 2000000 in
theorem checkCmd_1 (h1 : c.k = 1) : Calls Tryz.prog 61 #[cmV c] w fun e w' => e = .returned (.int .i64 (errB (cmdOk c))) ∧ Grown w w' := by
  obtain ⟨E, hE⟩ : ∃ x, x = errB (cmdOk c) := ⟨_, rfl⟩
  rw [← hE]
  have HE := Lib.hid hE
  have HK : Hid (cmdOk c = (neq c.id Nam.zero && (decide (c.m = 0) && bdOk c.b))) := Lib.hid (by unfold cmdOk; rw [beq_iff_eq.2 h1]; rfl)
  have b1 : (c.k == 1) = true := by simpa using h1
  have b2 : (c.k == 2) = false := by rw [h1]; rfl
  have b3 : (c.k == 3) = false := by rw [h1]; rfl
  have b4 : (c.k == 4) = false := by rw [h1]; rfl
  have CI := Lib.hid (fun W => checkId_any W c.id)
  have CB := Lib.hid (fun W => bdCheck_any W c.b)
  have hne : ∀ W : World, (binOp .neq 36 (namV c.id) (.agg #[.int .i64 0, .int .i64 0, .int .i64 0])).run Tryz.prog W = .ok (.bool (!neq c.id Nam.zero)) W := fun W => neqNam_run W c.id
  obtain ⟨N, hN⟩ : ∃ x, x = neq c.id Nam.zero := ⟨_, rfl⟩
  rw [← hN] at hne
  rw [← hN] at HK
  obtain ⟨K, hK⟩ : ∃ x, x = bdOk c.b := ⟨_, rfl⟩
  rw [← hK] at CB
  rw [← hK] at HK
  clear hN hK hE h1
  go_enter Tryz.func61, Tryz.ntmps61
  go_upto_region 1 with fail
  refine wp_world ?_
  intro W hW
  have G0 : Hid (Grown w W) := Lib.hid (by rw [hW]; exact (Grown.same w).alloc _)
  have cb : cellsAt W w.heap.size 0 16 = some (cmC c) := by rw [hW]; simp [go_sem]
  obtain ⟨gc, hgc⟩ : ∃ g, g = w.heap.size := ⟨_, rfl⟩
  rw [← hgc] at cb ⊢
  clear hW hgc
  have i0 : cellsAt W gc 1 3 = some (namC c.id) := cellsAt_part cb 1 (namC c.id) rfl (by simp)
  go_wp2_with fail
  refine (CI.out _).mono ?_
  rintro e w1 ⟨rfl, hg⟩
  have G1 := Lib.hid (G0.out.trans hg)
  have cc := hg.keeps.cellsAt cb
  have k0 := cellsAt_cell cc 0 _ rfl
  have k15 := cellsAt_cell cc 15 _ rfl
  have k7 := cellsAt_cell cc 7 _ rfl
  have i1 : cellsAt w1 gc 1 3 = some (namC c.id) := cellsAt_part cc 1 (namC c.id) rfl (by simp)
  have i4 : cellsAt w1 gc 4 11 = some (bdC c.b) := cellsAt_part cc 4 (bdC c.b) rfl (by simp)
  have i5 : cellsAt w1 gc 4 3 = some (namC c.b.id) := cellsAt_part cc 4 (namC c.b.id) rfl (by simp)
  simp only [Nat.zero_add] at k0 k15 k7
  clear cc cb i0 hg
  cases N with
  | false =>
    simp only [Bool.not_false] at hne
    go_wp2
    go_ret
    exact ⟨by rw [HE.out, HK.out]; rfl, G1.out⟩
  | true =>
    simp only [Bool.not_true] at hne
    by_cases hm : c.m = 0
    · have hm1 : (c.m != 0) = false := by rw [hm]; rfl
      have hm2 := Lib.hid (decide_eq_true hm)
      clear hm
      go_wp2_with fail
      refine (CB.out _).mono ?_
      rintro e w2 ⟨rfl, hg⟩
      have G2 := Lib.hid (G1.out.trans hg)
      clear hg
      go_wp2
      go_ret
      exact ⟨by rw [HE.out, HK.out, hm2.out]; rfl, G2.out⟩
    · have hm1 : (c.m != 0) = true := by simpa using hm
      have hm2 := Lib.hid (decide_eq_false hm)
      clear hm
      go_wp2
      go_ret
      exact ⟨by rw [HE.out, HK.out, hm2.out]; rfl, G1.out⟩
set_option maxHeartbeats 2000000 in
theorem checkCmd_2 (h1 : c.k = 2) : Calls Tryz.prog 61 #[cmV c] w fun e w' => e = .returned (.int .i64 (errB (cmdOk c))) ∧ Grown w w' := by
  obtain ⟨E, hE⟩ : ∃ x, x = errB (cmdOk c) := ⟨_, rfl⟩
  rw [← hE]
  have HE := Lib.hid hE
  have HK : Hid (cmdOk c = (idOk c.id && (decide (c.m = 0) && bdEq c.b Bd.zero))) := Lib.hid (by unfold cmdOk; rw [h1]; rfl)
  have b1 : (c.k == 1) = false := by rw [h1]; rfl
  have b2 : (c.k == 2) = true := by simpa using h1
  have b3 : (c.k == 3) = false := by rw [h1]; rfl
  have b4 : (c.k == 4) = false := by rw [h1]; rfl
  have CI := Lib.hid (fun W => checkId_any W c.id)
  have hbe : ∀ W : World, (binOp .neq 38 (bdV c.b) (.agg #[.int .i64 0, .int .i64 0, .int .i64 0, .int .i64 0, .int .i64 0, .int .i64 0, .int .i64 0, .int .i64 0, .int .i64 0, .int .i64 0, .int .i64 0])).run Tryz.prog W = .ok (.bool (!bdEq c.b Bd.zero)) W := fun W => neqBd_run W c.b
  obtain ⟨I, hI⟩ : ∃ x, x = idOk c.id := ⟨_, rfl⟩
  rw [← hI] at CI
  rw [← hI] at HK
  obtain ⟨N, hN⟩ : ∃ x, x = bdEq c.b Bd.zero := ⟨_, rfl⟩
  rw [← hN] at hbe
  rw [← hN] at HK
  clear hN hI hE h1
  go_enter Tryz.func61, Tryz.ntmps61
  go_upto_region 1 with fail
  refine wp_world ?_
  intro W hW
  have G0 : Hid (Grown w W) := Lib.hid (by rw [hW]; exact (Grown.same w).alloc _)
  have cb : cellsAt W w.heap.size 0 16 = some (cmC c) := by rw [hW]; simp [go_sem]
  obtain ⟨gc, hgc⟩ : ∃ g, g = w.heap.size := ⟨_, rfl⟩
  rw [← hgc] at cb ⊢
  clear hW hgc
  have i0 : cellsAt W gc 1 3 = some (namC c.id) := cellsAt_part cb 1 (namC c.id) rfl (by simp)
  go_wp2_with fail
  refine (CI.out _).mono ?_
  rintro e w1 ⟨rfl, hg⟩
  have G1 := Lib.hid (G0.out.trans hg)
  have cc := hg.keeps.cellsAt cb
  have k0 := cellsAt_cell cc 0 _ rfl
  have k15 := cellsAt_cell cc 15 _ rfl
  have k7 := cellsAt_cell cc 7 _ rfl
  have i1 : cellsAt w1 gc 1 3 = some (namC c.id) := cellsAt_part cc 1 (namC c.id) rfl (by simp)
  have i4 : cellsAt w1 gc 4 11 = some (bdC c.b) := cellsAt_part cc 4 (bdC c.b) rfl (by simp)
  have i5 : cellsAt w1 gc 4 3 = some (namC c.b.id) := cellsAt_part cc 4 (namC c.b.id) rfl (by simp)
  simp only [Nat.zero_add] at k0 k15 k7
  clear cc cb i0 hg
  by_cases hm : c.m = 0
  · have hm1 : (c.m != 0) = false := by rw [hm]; rfl
    have hm2 := Lib.hid (decide_eq_true hm)
    clear hm
    cases N with
    | false =>
      simp only [Bool.not_false] at hbe
      go_wp2
      go_ret
      exact ⟨by rw [HE.out, HK.out, hm2.out]; cases I <;> rfl, G1.out⟩
    | true =>
      simp only [Bool.not_true] at hbe
      go_wp2
      go_ret
      exact ⟨by rw [HE.out, HK.out, hm2.out]; cases I <;> rfl, G1.out⟩
  · have hm1 : (c.m != 0) = true := by simpa using hm
    have hm2 := Lib.hid (decide_eq_false hm)
    clear hm
    go_wp2
    go_ret
    exact ⟨by rw [HE.out, HK.out, hm2.out]; cases I <;> rfl, G1.out⟩
set_option maxHeartbeats 2000000 in
theorem checkCmd_4 (h1 : c.k = 4) : Calls Tryz.prog 61 #[cmV c] w fun e w' => e = .returned (.int .i64 (errB (cmdOk c))) ∧ Grown w w' := by
  obtain ⟨E, hE⟩ : ∃ x, x = errB (cmdOk c) := ⟨_, rfl⟩
  rw [← hE]
  have HE := Lib.hid hE
  have HK : Hid (cmdOk c = (idOk c.id && (bdEq c.b Bd.zero && takesM c.m))) := Lib.hid (by unfold cmdOk; rw [h1]; rfl)
  have b1 : (c.k == 1) = false := by rw [h1]; rfl
  have b2 : (c.k == 2) = false := by rw [h1]; rfl
  have b3 : (c.k == 3) = false := by rw [h1]; rfl
  have b4 : (c.k == 4) = true := by simpa using h1
  have CI := Lib.hid (fun W => checkId_any W c.id)
  have CS : Hid (∀ W, Calls Tryz.prog 110 #[.int .i64 c.m] W fun e w' => e = .returned (.bool (takesM c.m)) ∧ Grown W w') := Lib.hid (fun W => (some_any W c.m).mono fun e w' ⟨he, hw⟩ => ⟨he, by rw [hw]; exact Grown.same W⟩)
  have hbe : ∀ W : World, (binOp .neq 38 (bdV c.b) (.agg #[.int .i64 0, .int .i64 0, .int .i64 0, .int .i64 0, .int .i64 0, .int .i64 0, .int .i64 0, .int .i64 0, .int .i64 0, .int .i64 0, .int .i64 0])).run Tryz.prog W = .ok (.bool (!bdEq c.b Bd.zero)) W := fun W => neqBd_run W c.b
  obtain ⟨I, hI⟩ : ∃ x, x = idOk c.id := ⟨_, rfl⟩
  rw [← hI] at CI
  rw [← hI] at HK
  obtain ⟨N, hN⟩ : ∃ x, x = bdEq c.b Bd.zero := ⟨_, rfl⟩
  rw [← hN] at hbe
  rw [← hN] at HK
  obtain ⟨S, hS⟩ : ∃ x, x = takesM c.m := ⟨_, rfl⟩
  rw [← hS] at CS
  rw [← hS] at HK
  clear hN hI hS hE h1
  go_enter Tryz.func61, Tryz.ntmps61
  go_upto_region 1 with fail
  refine wp_world ?_
  intro W hW
  have G0 : Hid (Grown w W) := Lib.hid (by rw [hW]; exact (Grown.same w).alloc _)
  have cb : cellsAt W w.heap.size 0 16 = some (cmC c) := by rw [hW]; simp [go_sem]
  obtain ⟨gc, hgc⟩ : ∃ g, g = w.heap.size := ⟨_, rfl⟩
  rw [← hgc] at cb ⊢
  clear hW hgc
  have i0 : cellsAt W gc 1 3 = some (namC c.id) := cellsAt_part cb 1 (namC c.id) rfl (by simp)
  go_wp2_with fail
  refine (CI.out _).mono ?_
  rintro e w1 ⟨rfl, hg⟩
  have G1 := Lib.hid (G0.out.trans hg)
  have cc := hg.keeps.cellsAt cb
  have k0 := cellsAt_cell cc 0 _ rfl
  have k15 := cellsAt_cell cc 15 _ rfl
  have k7 := cellsAt_cell cc 7 _ rfl
  have i1 : cellsAt w1 gc 1 3 = some (namC c.id) := cellsAt_part cc 1 (namC c.id) rfl (by simp)
  have i4 : cellsAt w1 gc 4 11 = some (bdC c.b) := cellsAt_part cc 4 (bdC c.b) rfl (by simp)
  have i5 : cellsAt w1 gc 4 3 = some (namC c.b.id) := cellsAt_part cc 4 (namC c.b.id) rfl (by simp)
  simp only [Nat.zero_add] at k0 k15 k7
  clear cc cb i0 hg
  go_wp2_with fail
  refine (CS.out _).mono ?_
  rintro e w2 ⟨rfl, hg⟩
  have G2 := Lib.hid (G1.out.trans hg)
  have j4 := hg.keeps.cellsAt i4
  clear hg
  cases S with
  | false =>
    go_wp2
    go_ret
    exact ⟨by rw [HE.out, HK.out]; cases I <;> cases N <;> rfl, G2.out⟩
  | true =>
    cases N with
    | false =>
      simp only [Bool.not_false] at hbe
      go_wp2
      go_ret
      exact ⟨by rw [HE.out, HK.out]; cases I <;> rfl, G2.out⟩
    | true =>
      simp only [Bool.not_true] at hbe
      go_wp2
      go_ret
      exact ⟨by rw [HE.out, HK.out]; cases I <;> rfl, G2.out⟩
set_option maxHeartbeats 2000000 in
theorem checkCmd_3 (h1 : c.k = 3) : Calls Tryz.prog 61 #[cmV c] w fun e w' => e = .returned (.int .i64 (errB (cmdOk c))) ∧ Grown w w' := by
  obtain ⟨E, hE⟩ : ∃ x, x = errB (cmdOk c) := ⟨_, rfl⟩
  rw [← hE]
  have HE := Lib.hid hE
  have HK : Hid (cmdOk c = (idOk c.id && (decide (c.m = 0) && (neq c.b.id Nam.zero && (takesM c.b.m && rightBd c.b))))) := Lib.hid (by unfold cmdOk; rw [h1]; rfl)
  have b1 : (c.k == 1) = false := by rw [h1]; rfl
  have b2 : (c.k == 2) = false := by rw [h1]; rfl
  have b3 : (c.k == 3) = true := by simpa using h1
  have b4 : (c.k == 4) = false := by rw [h1]; rfl
  have CI := Lib.hid (fun W => checkId_any W c.id)
  have CS : Hid (∀ W, Calls Tryz.prog 110 #[.int .i64 c.b.m] W fun e w' => e = .returned (.bool (takesM c.b.m)) ∧ Grown W w') := Lib.hid (fun W => (some_any W c.b.m).mono fun e w' ⟨he, hw⟩ => ⟨he, by rw [hw]; exact Grown.same W⟩)
  have CR := Lib.hid (fun W => rightBd_any W c.b)
  have hne : ∀ W : World, (binOp .neq 36 (namV c.b.id) (.agg #[.int .i64 0, .int .i64 0, .int .i64 0])).run Tryz.prog W = .ok (.bool (!neq c.b.id Nam.zero)) W := fun W => neqNam_run W c.b.id
  obtain ⟨I, hI⟩ : ∃ x, x = idOk c.id := ⟨_, rfl⟩
  rw [← hI] at CI
  rw [← hI] at HK
  obtain ⟨N, hN⟩ : ∃ x, x = neq c.b.id Nam.zero := ⟨_, rfl⟩
  rw [← hN] at hne
  rw [← hN] at HK
  obtain ⟨S, hS⟩ : ∃ x, x = takesM c.b.m := ⟨_, rfl⟩
  rw [← hS] at CS
  rw [← hS] at HK
  obtain ⟨R, hR⟩ : ∃ x, x = rightBd c.b := ⟨_, rfl⟩
  rw [← hR] at CR
  rw [← hR] at HK
  clear hN hI hS hR hE h1
  go_enter Tryz.func61, Tryz.ntmps61
  go_upto_region 1 with fail
  refine wp_world ?_
  intro W hW
  have G0 : Hid (Grown w W) := Lib.hid (by rw [hW]; exact (Grown.same w).alloc _)
  have cb : cellsAt W w.heap.size 0 16 = some (cmC c) := by rw [hW]; simp [go_sem]
  obtain ⟨gc, hgc⟩ : ∃ g, g = w.heap.size := ⟨_, rfl⟩
  rw [← hgc] at cb ⊢
  clear hW hgc
  have i0 : cellsAt W gc 1 3 = some (namC c.id) := cellsAt_part cb 1 (namC c.id) rfl (by simp)
  go_wp2_with fail
  refine (CI.out _).mono ?_
  rintro e w1 ⟨rfl, hg⟩
  have G1 := Lib.hid (G0.out.trans hg)
  have cc := hg.keeps.cellsAt cb
  have k0 := cellsAt_cell cc 0 _ rfl
  have k15 := cellsAt_cell cc 15 _ rfl
  have k7 := cellsAt_cell cc 7 _ rfl
  have i1 : cellsAt w1 gc 1 3 = some (namC c.id) := cellsAt_part cc 1 (namC c.id) rfl (by simp)
  have i4 : cellsAt w1 gc 4 11 = some (bdC c.b) := cellsAt_part cc 4 (bdC c.b) rfl (by simp)
  have i5 : cellsAt w1 gc 4 3 = some (namC c.b.id) := cellsAt_part cc 4 (namC c.b.id) rfl (by simp)
  simp only [Nat.zero_add] at k0 k15 k7
  clear cc cb i0 hg
  by_cases hm : c.m = 0
  · have hm1 : (c.m != 0) = false := by rw [hm]; rfl
    have hm2 := Lib.hid (decide_eq_true hm)
    clear hm
    cases N with
    | false =>
      simp only [Bool.not_false] at hne
      go_wp2
      go_ret
      exact ⟨by rw [HE.out, HK.out, hm2.out]; cases I <;> rfl, G1.out⟩
    | true =>
      simp only [Bool.not_true] at hne
      go_wp2_with fail
      refine (CS.out _).mono ?_
      rintro e w2 ⟨rfl, hg⟩
      have G2 := Lib.hid (G1.out.trans hg)
      have j4 := hg.keeps.cellsAt i4
      clear hg
      cases S with
      | false =>
        go_wp2
        go_ret
        exact ⟨by rw [HE.out, HK.out, hm2.out]; cases I <;> rfl, G2.out⟩
      | true =>
        go_wp2_with fail
        refine (CR.out _).mono ?_
        rintro e w3 ⟨rfl, hg⟩
        have G3 := Lib.hid (G2.out.trans hg)
        clear hg
        cases R with
        | false =>
          go_wp2
          go_ret
          exact ⟨by rw [HE.out, HK.out, hm2.out]; cases I <;> rfl, G3.out⟩
        | true =>
          go_wp2
          go_ret
          exact ⟨by rw [HE.out, HK.out, hm2.out]; cases I <;> rfl, G3.out⟩
  · have hm1 : (c.m != 0) = true := by simpa using hm
    have hm2 := Lib.hid (decide_eq_false hm)
    clear hm
    go_wp2
    go_ret
    exact ⟨by rw [HE.out, HK.out, hm2.out]; cases I <;> rfl, G1.out⟩
theorem checkCmd_any : Calls Tryz.prog 61 #[cmV c] w fun e w' => e = .returned (.int .i64 (errB (cmdOk c))) ∧ Grown w w' := by
  by_cases h1 : c.k = 1
  · exact checkCmd_1 w c h1
  by_cases h2 : c.k = 2
  · exact checkCmd_2 w c h2
  by_cases h3 : c.k = 3
  · exact checkCmd_3 w c h3
  by_cases h4 : c.k = 4
  · exact checkCmd_4 w c h4
  exact checkCmd_else w c h1 h2 h3 h4
end
end Go.Proofs.YtndjnkjcfdaegaaGreatDoor

