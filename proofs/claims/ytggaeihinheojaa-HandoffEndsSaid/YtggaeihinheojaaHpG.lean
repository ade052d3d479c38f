/-
  hedgerowlaw21: an entity begins. No conditions of its own.
-/
import Derived.Test.YtggaeihinheojaaHpF
namespace Go.Proofs.Ytggaeihinheojaa
open Go.RowKit

abbrev gP (g : Nat) : Value := .pointer (some ⟨g, 0, none⟩)
/-- all that lies from a block on -/
def Up (g : Nat) : Nat → Prop := fun i => g ≤ i
/-- WHAT A STEP LEAVES -/
def StepPost (w : World) (g base T : Nat) (w' : World) : Prop := ∃ (V' : Vs) (ms' : Nat → Nat → List Ms) (W' : Wd), WAt w' g base V' ms' W' ∧ Ok W' (T + 1) ∧ Keeps (Up g) w w'

section
variable {w : World} {g base T : Nat} {V : Vs} {ms : Nat → Nat → List Ms} {W : Wd}
theorem own_up {w w' : World} (h : Keeps (Own g) w w') : Keeps (Up g) w w' := h.mono (fun i _ hi => by have : i = g := hi; show g ≤ i; omega)
theorem WAt.cell (h : WAt w g base V ms W) {k : Nat} (hk : k < 3) (j : Nat) (v : Value) (hj : (shC (V.o k) (V.u k) (V.i k) (W.s k).nx)[j]? = some v) : w.cell? ⟨g, k * 8 + j, none⟩ = some v := cellsAt_cell (h.st k hk) j v hj

set_option maxRecDepth 100000 in
set_option maxHeartbeats 8000000 in
theorem begin_any (h : WAt w g base V ms W) (hO : Ok W T) {k : Nat} (hk : k < 3) (b : Bd) :
    Calls Try.prog 53 #[gP g, .int .i64 k, .agg (bdC b).toArray] w fun e w' => e = .returned (.tuple #[]) ∧ StepPost w g base T w' := by
  obtain ⟨oa, oc, hoV⟩ := (h.own k hk).1.slice
  obtain ⟨N, hN⟩ : ∃ N, N = (W.s k).own.length := ⟨_, rfl⟩
  rw [← hN] at hoV
  have HN := Lib.hid hN
  clear hN
  have c2 : w.cell? ⟨g, k * 8 + 2, none⟩ = some (.slice oa N oc) := by rw [← hoV]; exact h.cell hk 2 _ rfl
  have cn := h.n
  have hk0 : (0 : Int) ≤ (k : Int) := by omega
  have hk3 : (k : Int) < 3 := by omega
  have lg := h.glt
  have n40 := hO.S.n40
  have H := Lib.hid h
  have HO := Lib.hid hO
  have Hk := Lib.hid hk
  clear h hO
  go_enter Try.func53, Try.ntmps53
  go_wp2
  refine wp_world ?_
  intro X hX
  have KX : Hid (Keeps No w X) := by rw [hX]; exact (Keeps.refl (S := No) w).alloc _
  have ob : Open X w.heap.size := by rw [hX]; simp [go_sem]
  have rb : rowD X w.heap.size = (bdC b).toArray := by rw [hX]; simp [go_sem]
  have cnX := KX.out.cell cn (fun h => h)
  have sX : Hid (X.heap.size = w.heap.size + 1) := by show _ = _; rw [hX]; simp
  clear hX cn c2
  go_still_tail 12, (by kernel_rfl)
  change wpList _ _ _ _ _ (World.drew _)
  go_wp2_with fail
  obtain ⟨B, hB⟩ : ∃ B : Bd, B = ⟨k, (W.n : Int) % 16, W.n, b.m, b.x, b.y, b.vx, b.vy, b.hp, b.pw, b.lf⟩ := ⟨_, rfl⟩
  obtain ⟨P, hP⟩ : ∃ P, findAt (k : Int) ((W.n : Int) % 16) W.n (W.s k).own = P := ⟨_, rfl⟩
  obtain ⟨F, hF⟩ : ∃ F, findIs (k : Int) ((W.n : Int) % 16) W.n (W.s k).own = F := ⟨_, rfl⟩
  refine wp_world ?_
  intro Y hY
  have KY : Hid (Keeps No w Y) := by rw [hY]; exact (KX.out.row (Nat.le_refl _) _).drew
  have cB : cellsAt Y w.heap.size 0 11 = some (bdC B) := by rw [hY, hB]; simp [go_sem, ob]
  have cB3 : cellsAt Y w.heap.size 0 3 = some [.int .i64 k, .int .i64 ((W.n : Int) % 16), .int .i64 W.n] := by rw [hY]; simp [go_sem, ob]
  have sY : Hid (Y.heap.size = w.heap.size + 1) := by show _ = _; rw [hY]; simp [sX.out]
  have HY := Lib.hid (H.out.no KY.out)
  have c2 : Y.cell? ⟨g, k * 8 + 2, none⟩ = some (.slice oa N oc) := by rw [← hoV]; exact HY.out.cell hk 2 _ rfl
  have Hrd := Lib.hid (HY.out.own k hk).1
  rw [hoV] at Hrd
  have Hrd2 : Hid (Reads Y 11 (.slice oa N oc) N (rowsOf cBd (W.s k).own)) := by
    have h := Hrd.out
    show Reads _ _ _ _ _
    rw [HN.out]
    rw [HN.out] at h
    exact h
  have Hlen := Lib.hid (own_le HO.out.S hk)
  have CB := Lib.hid cB
  have HB := Lib.hid hB
  have HP := Lib.hid hP
  have HF := Lib.hid hF
  clear hY ob rb cnX cB hB hP hF
  go_region_held3 (fun w' => w'.cell? ⟨g, k * 8 + 2, none⟩ = some (.slice oa N oc) ∧ cellsAt w' w.heap.size 0 3 = some [.int .i64 k, .int .i64 ((W.n : Int) % 16), .int .i64 W.n]) (exact ⟨c2, cB3⟩)
    (first
      | (go_at_call 30
         refine (rfind_any Y.drew _ _ (Hrd.out.kept (Keeps.refl (S := No) Y).drew (fun _ _ h => h)) (by have := Hlen.out; omega) _ _ _).mono ?_
         rw [HP.out, HF.out]
         rintro e w1 ⟨rfl, hk1⟩
         have J1 : Hid (Keeps No Y w1) := ((Keeps.refl (S := No) Y).drew).trans hk1 (fun _ _ h => h)
         have c21 := J1.out.cell c2 (fun h => h)
         have c31 := J1.out.cellsAt cB3
         clear hk1 c2 cB3
         have c2 := c21
         have cB3 := c31
         clear c21 c31))
  all_goals
    have H1 := Lib.hid (HY.out.no J1.out)
    have K1 : Hid (Keeps No w w1) := KY.out.trans J1.out (fun _ _ h => h)
    have cn1 := H1.out.n
    cases F
    · by_cases hn : W.n < 40
      · have hd : decide ((40 : Int) ≤ (W.n : Int)) = false := decide_eq_false (by omega)
        have hd2 : decide (40 ≤ W.n) = false := decide_eq_false (by omega)
        have hPl : P ≤ N := by rw [HN.out, ← HP.out]; exact findAt_le _ _ _ _
        have hN40 : N ≤ 40 := by rw [HN.out]; exact Hlen.out
        obtain ⟨i0, hi, hz0, hz1, hz2⟩ := info_parts Try.infoBd
        have R1 := Lib.hid (Hrd2.out.kept J1.out (fun _ _ h => h))
        have cB1 := J1.out.cellsAt CB.out
        unfold bdC at cB1
        have HPl := Lib.hid hPl
        have hP0 : (0 : Int) ≤ (P : Int) := by omega
        have hP1 : (P : Int) ≤ (N : Int) := by omega
        have hP40 : (P : Int) ≤ 40 := by omega
        rcases R1.out.shape with ⟨he, hn0⟩ | ⟨ad, c, he, hac, hcm, _⟩
        · simp only [Value.slice.injEq] at he
          obtain ⟨rfl, _, rfl⟩ := he
          subst hn0
          obtain rfl : P = 0 := by omega
          have Hnil : Hid ((W.s k).own = []) := by
            show _ = _
            exact List.eq_nil_of_length_eq_zero HN.out.symm
          go_wp2_with (at_builtin; refine wpList_append_reads rfl (.tmp 42) (.tmp 51) 22 rfl w1.heap.size 37 i0 _ 11 88 Try.underlying22 hi hz0 hz1 hz2 rfl (by decide) (.slice none 0 0) 0 [] rfl (World.ownsRow_nil _ _ _ _) (.slice none 0 0) 0 [] rfl (Reads.nil _ _) ?z1 ?z2 ?z3 ?z4)
          case z4 =>
            intro v2 w2 hown2 hk2 _ _
            have K2 : Hid (Keeps No w1 w2) := hk2.mono (fun i _ h => by cases h)
            have cB2 := K2.out.cellsAt cB1
            obtain ⟨a2, n2, d2, rfl, hn2⟩ : ∃ a n c, v2 = .slice a n c ∧ n = 0 := by
              obtain ⟨a, c, he⟩ := ownsRow_slice hown2
              exact ⟨a, _, c, he, by omega⟩
            have Hown2 : Hid (w2.ownsRow w1.heap.size 37 11 (.slice a2 n2 d2) n2 ([] : List Value)) := by
              show World.ownsRow _ _ _ _ _ _ _
              have h := hown2
              try simp only [Nat.zero_add, List.nil_append] at h
              rw [hn2]
              rw [hn2] at h
              exact h
            have Hn2 := Lib.hid hn2
            have c22 : w2.cell? ⟨g, k * 8 + 2, none⟩ = some (.slice none 0 0) := K2.out.cell c2 (fun h => h)
            clear hown2 hk2 hn2 c2 cB1 cB3
            go_wp2_with (at_builtin; refine wpList_append_reads rfl (.tmp 53) (.tmp 55) 22 rfl w1.heap.size 37 i0 _ 11 88 Try.underlying22 hi hz0 hz1 hz2 rfl (by decide) (.slice a2 n2 d2) n2 ([] : List Value) rfl (Hown2.out.alloc _) (.slice (some ⟨w2.heap.size, 0, none⟩) 1 1) 1 (bdC B) rfl (litReads cBd w2 37 B) ?c1 ?c2 ?c3 ?c4)
            case c1 => have := Hn2.out; unfold maxLen; omega
            case c2 => have := Hn2.out; omega
            case c3 => have := K2.out.size; simp; omega
            case c4 =>
              intro v3 w3 hown3 hk3 _ _
              have K3 : Hid (Keeps No w1 w3) := (K2.out.alloc _).trans hk3 (fun i hi hof => absurd hi (Nat.not_lt.2 (Hown2.out.lt i hof).1))
              have k23 : Keeps (Of (.slice a2 n2 d2)) w2 w3 := ((Keeps.refl w2).alloc _).trans hk3 (fun _ _ h => h)
              have c23 : w3.cell? ⟨g, k * 8 + 2, none⟩ = some (.slice none 0 0) := k23.cell c22 (fun e => by
                have h1 := (Hown2.out.lt g e).1
                have h2 := H1.out.glt
                omega)
              obtain ⟨a3, n3, d3, rfl, hn3⟩ : ∃ a n c, v3 = .slice a n c ∧ n = n2 + 1 := by
                obtain ⟨a, c, he⟩ := ownsRow_slice hown3
                exact ⟨a, _, c, he, rfl⟩
              have Hown3 : Hid (w3.ownsRow w1.heap.size 37 11 (.slice a3 n3 d3) n3 (bdC B)) := by
                show World.ownsRow _ _ _ _ _ _ _
                rw [hn3]
                rw [hn3] at hown3
                exact hown3
              have Hn3 := Lib.hid hn3
              have f3 := (H1.out.no K3.out).box.frozen (k * 8 + 2)
              have f33 := (H1.out.no K3.out).box.frozen 33
              have cn3 := (H1.out.no K3.out).n
              have hw1 : IntKind.i64.wrap ((W.n : Int) + 1) = (W.n : Int) + 1 := by rw [IntKind.wrap_i64]; omega
              clear hown3 hk3 hn3 k23 c22 cB2
              go_wp2_with (at_builtin; refine wpList_append_reads rfl (.tmp 57) (.tmp 66) 22 rfl w1.heap.size 37 i0 _ 11 88 Try.underlying22 hi hz0 hz1 hz2 rfl (by decide) (.slice a3 n3 d3) n3 (bdC B) rfl Hown3.out (.slice none 0 0) 0 [] rfl (Reads.nil _ _) ?c1 ?c2 ?c3 ?c4)
              case c1 => have := Hn2.out; have := Hn3.out; unfold maxLen; omega
              case c2 => have := Hn2.out; have := Hn3.out; omega
              case c3 => exact K3.out.size
              case c4 =>
                intro v4 w4 hown4 hk4 _ _
                have K4 : Hid (Keeps No w1 w4) := K3.out.trans hk4 (fun i hi hof => absurd hi (Nat.not_lt.2 (Hown3.out.lt i hof).1))
                have H4 := Lib.hid (H1.out.no K4.out)
                have Hown4 : Hid (OwnOf cBd 37 w4 w1.heap.size v4 ([B])) := by
                  show World.ownsRow _ _ _ _ _ _ _
                  have e1 : ([B] : List Bd).length = n3 + 0 := by
                    have h3 := Hn2.out
                    have h4 := Hn3.out
                    simp only [List.length_singleton]
                    omega
                  have e6 : rowsOf cBd [B] = bdC B := by simp [rowsOf, cBd]
                  rw [e1, e6]
                  have h := hown4
                  try simp only [List.append_nil, List.nil_append] at h
                  exact h
                have c24 : w4.cell? ⟨g, k * 8 + 2, none⟩ = some (.slice none 0 0) := by rw [← hoV]; exact H4.out.cell Hk.out 2 _ rfl
                have f4 := H4.out.box.frozen (k * 8 + 2)
                have f43 := H4.out.box.frozen 33
                have cn4 := H4.out.n
                clear hown4 hk4 c23 f3 f33 cn3 cn1
                obtain ⟨a4, n4, d4, he4⟩ : ∃ a n c, v4 = .slice a n c := by
                  obtain ⟨a, c, he⟩ := ownsRow_slice Hown4.out
                  exact ⟨a, _, c, he⟩
                subst he4
                have hne33 : ¬ k * 8 + 2 = 33 := by omega
                have hne34 : ¬ 33 = k * 8 + 2 := by omega
                go_wp2
                have hfar : FarL g V (.slice a4 n4 d4) ([B]) := fun _ i hi hm => by
                  have h1 := H1.out.mut_lt hm
                  have h2 := (Hown4.out.lt i hi).1
                  omega
                obtain ⟨q1, q2⟩ := H4.out.putOwn Hk.out ⟨Hown4.out.reads, hfar⟩
                obtain ⟨q3, q4⟩ := q1.putN (W.n + 1)
                have e9 : ((W.n + 1 : Nat) : Int) = (W.n : Int) + 1 := by omega
                rw [e9] at q3 q4
                have hok : Ok (W.beg k B) (T + 1) := ok_beg HO.out Hk.out hn (by rw [HB.out]) (by rw [HB.out]) (by rw [HB.out]) (by rw [HB.out]; exact HF.out)
                refine bodyPost_end (results_none rfl _ _ _) rfl ⟨rfl, V.setS k (.slice a4 n4 d4) (V.u k) (V.i k), ms, W.beg k B, ?_, hok, ?_⟩
                · have e2 : W.beg k B = { W.setS k ⟨[B], (W.s k).outs, (W.s k).ins, (W.s k).nx⟩ with n := W.n + 1 } := by
                    have h := Hnil.out
                    unfold Wd.beg
                    rw [h]
                    simp only [List.take_nil, List.drop_nil, List.nil_append]
                  rw [e2]
                  exact q3
                · exact (((K1.out.trans K4.out (fun _ _ h => h)).mono (fun _ _ h => h.elim)).trans (own_up q2) (fun _ _ h => h)).trans (own_up q4) (fun _ _ h => h)
        · simp only [Value.slice.injEq, true_and] at he
          obtain ⟨rfl, rfl⟩ := he
          have hPc : (P : Int) ≤ (oc : Int) := by omega
          have hNc : (N : Int) ≤ (oc : Int) := by omega
          have HT := Lib.hid (R1.out.take (m := P) hPl)
          rw [show P * 11 = P * cBd.size from rfl, rowsOf_take] at HT
          go_wp2_with (at_builtin; refine wpList_append_reads rfl (.tmp 42) (.tmp 51) 22 rfl w1.heap.size 37 i0 _ 11 88 Try.underlying22 hi hz0 hz1 hz2 rfl (by decide) (.slice none 0 0) 0 [] rfl (World.ownsRow_nil _ _ _ _) (.slice (some ad) P oc) P (rowsOf cBd ((W.s k).own.take P)) rfl HT.out ?c1 ?c2 ?c3 ?c4)
          case c1 => unfold maxLen; omega
          case c2 => omega
          case c3 => exact Nat.le_refl _
          case c4 =>
            intro v2 w2 hown2 hk2 _ _
            have K2 : Hid (Keeps No w1 w2) := hk2.mono (fun i _ h => by cases h)
            have cB2 := K2.out.cellsAt cB1
            obtain ⟨a2, n2, d2, rfl, hn2⟩ : ∃ a n c, v2 = .slice a n c ∧ n = P := by
              obtain ⟨a, c, he⟩ := ownsRow_slice hown2
              exact ⟨a, _, c, he, by omega⟩
            have Hown2 : Hid (w2.ownsRow w1.heap.size 37 11 (.slice a2 n2 d2) n2 (rowsOf cBd ((W.s k).own.take P))) := by
              show World.ownsRow _ _ _ _ _ _ _
              have h := hown2
              try simp only [Nat.zero_add, List.nil_append] at h
              rw [hn2]
              rw [hn2] at h
              exact h
            have Hn2 := Lib.hid hn2
            have c22 : w2.cell? ⟨g, k * 8 + 2, none⟩ = some (.slice (some ad) N oc) := K2.out.cell c2 (fun h => h)
            clear hown2 hk2 hn2 c2 cB1 cB3
            go_wp2_with (at_builtin; refine wpList_append_reads rfl (.tmp 53) (.tmp 55) 22 rfl w1.heap.size 37 i0 _ 11 88 Try.underlying22 hi hz0 hz1 hz2 rfl (by decide) (.slice a2 n2 d2) n2 (rowsOf cBd ((W.s k).own.take P)) rfl (Hown2.out.alloc _) (.slice (some ⟨w2.heap.size, 0, none⟩) 1 1) 1 (bdC B) rfl (litReads cBd w2 37 B) ?c1 ?c2 ?c3 ?c4)
            case c1 => have := Hn2.out; unfold maxLen; omega
            case c2 => have := Hn2.out; omega
            case c3 => have := K2.out.size; simp; omega
            case c4 =>
              intro v3 w3 hown3 hk3 _ _
              have K3 : Hid (Keeps No w1 w3) := (K2.out.alloc _).trans hk3 (fun i hi hof => absurd hi (Nat.not_lt.2 (Hown2.out.lt i hof).1))
              have k23 : Keeps (Of (.slice a2 n2 d2)) w2 w3 := ((Keeps.refl w2).alloc _).trans hk3 (fun _ _ h => h)
              have c23 : w3.cell? ⟨g, k * 8 + 2, none⟩ = some (.slice (some ad) N oc) := k23.cell c22 (fun e => by
                have h1 := (Hown2.out.lt g e).1
                have h2 := H1.out.glt
                omega)
              obtain ⟨a3, n3, d3, rfl, hn3⟩ : ∃ a n c, v3 = .slice a n c ∧ n = n2 + 1 := by
                obtain ⟨a, c, he⟩ := ownsRow_slice hown3
                exact ⟨a, _, c, he, rfl⟩
              have Hown3 : Hid (w3.ownsRow w1.heap.size 37 11 (.slice a3 n3 d3) n3 (rowsOf cBd ((W.s k).own.take P) ++ bdC B)) := by
                show World.ownsRow _ _ _ _ _ _ _
                rw [hn3]
                rw [hn3] at hown3
                exact hown3
              have Hn3 := Lib.hid hn3
              have hdrop := (R1.out.kept K3.out (fun _ _ h => h)).dropAny (m := P) HPl.out _ rfl
              rw [show P * 11 = P * cBd.size from rfl, rowsOf_drop] at hdrop
              obtain ⟨ao, hao⟩ : ∃ ao, ao = if oc = P then some ad else some (ad.add (P * 11)) := ⟨_, rfl⟩
              have HD : Hid (Reads w3 11 (.slice ao (N - P) (oc - P)) (N - P) (rowsOf cBd ((W.s k).own.drop P))) := by
                show Reads _ _ _ _ _
                rw [hao]
                have e : (if oc = P then some ad else some (ad.add (P * 11))) = (if oc = P then some ad else Option.map (fun x : Addr => x.add (P * 11)) (some ad)) := by
                  split <;> rfl
                rw [e]
                exact hdrop
              have Hao := Lib.hid hao
              clear hao hdrop
              have f3 := (H1.out.no K3.out).box.frozen (k * 8 + 2)
              have f33 := (H1.out.no K3.out).box.frozen 33
              have cn3 := (H1.out.no K3.out).n
              have hw1 : IntKind.i64.wrap ((W.n : Int) + 1) = (W.n : Int) + 1 := by rw [IntKind.wrap_i64]; omega
              clear hown3 hk3 hn3 k23 c22 cB2
              go_wp2_with (at_builtin; rw [← Hao.out]; refine wpList_append_reads rfl (.tmp 57) (.tmp 66) 22 rfl w1.heap.size 37 i0 _ 11 88 Try.underlying22 hi hz0 hz1 hz2 rfl (by decide) (.slice a3 n3 d3) n3 (rowsOf cBd ((W.s k).own.take P) ++ bdC B) rfl Hown3.out (.slice ao (N - P) (oc - P)) (N - P) (rowsOf cBd ((W.s k).own.drop P)) rfl HD.out ?c1 ?c2 ?c3 ?c4)
              case c1 => have := Hn2.out; have := Hn3.out; unfold maxLen; omega
              case c2 => have := Hn2.out; have := Hn3.out; omega
              case c3 => exact K3.out.size
              case c4 =>
                intro v4 w4 hown4 hk4 _ _
                have K4 : Hid (Keeps No w1 w4) := K3.out.trans hk4 (fun i hi hof => absurd hi (Nat.not_lt.2 (Hown3.out.lt i hof).1))
                have H4 := Lib.hid (H1.out.no K4.out)
                have Hown4 : Hid (OwnOf cBd 37 w4 w1.heap.size v4 ((W.s k).own.take P ++ B :: (W.s k).own.drop P)) := by
                  show World.ownsRow _ _ _ _ _ _ _
                  have e1 : ((W.s k).own.take P ++ B :: (W.s k).own.drop P).length = n3 + (N - P) := by
                    have h1 := HN.out
                    have h2 := HPl.out
                    have h3 := Hn2.out
                    have h4 := Hn3.out
                    simp only [List.length_append, List.length_take, List.length_cons, List.length_drop]
                    omega
                  rw [e1, rowsOf_append, rowsOf_cons]
                  have h := hown4
                  first
                    | exact h
                    | (rw [List.append_assoc] at h; exact h)
                have c24 : w4.cell? ⟨g, k * 8 + 2, none⟩ = some (.slice (some ad) N oc) := by rw [← hoV]; exact H4.out.cell Hk.out 2 _ rfl
                have f4 := H4.out.box.frozen (k * 8 + 2)
                have f43 := H4.out.box.frozen 33
                have cn4 := H4.out.n
                clear hown4 hk4 c23 f3 f33 cn3 cn1
                obtain ⟨a4, n4, d4, he4⟩ : ∃ a n c, v4 = .slice a n c := by
                  obtain ⟨a, c, he⟩ := ownsRow_slice Hown4.out
                  exact ⟨a, _, c, he⟩
                subst he4
                have hne33 : ¬ k * 8 + 2 = 33 := by omega
                have hne34 : ¬ 33 = k * 8 + 2 := by omega
                go_wp2
                have hfar : FarL g V (.slice a4 n4 d4) ((W.s k).own.take P ++ B :: (W.s k).own.drop P) := fun _ i hi hm => by
                  have h1 := H1.out.mut_lt hm
                  have h2 := (Hown4.out.lt i hi).1
                  omega
                obtain ⟨q1, q2⟩ := H4.out.putOwn Hk.out ⟨Hown4.out.reads, hfar⟩
                obtain ⟨q3, q4⟩ := q1.putN (W.n + 1)
                have e9 : ((W.n + 1 : Nat) : Int) = (W.n : Int) + 1 := by omega
                rw [e9] at q3 q4
                have hok : Ok (W.beg k B) (T + 1) := ok_beg HO.out Hk.out hn (by rw [HB.out]) (by rw [HB.out]) (by rw [HB.out]) (by rw [HB.out]; exact HF.out)
                refine bodyPost_end (results_none rfl _ _ _) rfl ⟨rfl, V.setS k (.slice a4 n4 d4) (V.u k) (V.i k), ms, W.beg k B, ?_, hok, ?_⟩
                · have e2 : W.beg k B = { W.setS k ⟨(W.s k).own.take P ++ B :: (W.s k).own.drop P, (W.s k).outs, (W.s k).ins, (W.s k).nx⟩ with n := W.n + 1 } := by
                    have e3 : findAt B.s B.i B.g (W.s k).own = P := by rw [HB.out]; exact HP.out
                    unfold Wd.beg
                    rw [e3]
                  rw [e2]
                  exact q3
                · exact (((K1.out.trans K4.out (fun _ _ h => h)).mono (fun _ _ h => h.elim)).trans (own_up q2) (fun _ _ h => h)).trans (own_up q4) (fun _ _ h => h)
      · have hd : decide ((40 : Int) ≤ (W.n : Int)) = true := decide_eq_true (by omega)
        have hd2 : decide (40 ≤ W.n) = true := decide_eq_true (by omega)
        go_wp2
        refine bodyPost_ret (v := .tuple #[]) (results_none rfl _ _ _) rfl ⟨rfl, V, ms, W, H1.out, HO.out.up, K1.out.mono (fun _ _ h => h.elim)⟩
    · go_wp2
      refine bodyPost_ret (v := .tuple #[]) (results_none rfl _ _ _) rfl ⟨rfl, V, ms, W, H1.out, HO.out.up, K1.out.mono (fun _ _ h => h.elim)⟩
end
end Go.Proofs.Ytggaeihinheojaa
