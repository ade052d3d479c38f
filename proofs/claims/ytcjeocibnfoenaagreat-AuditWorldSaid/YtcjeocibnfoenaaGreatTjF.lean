/-
  zones.New; what an entity takes from others (the document's takes). No conditions of their own.
-/
import Derived.Test.YtcjeocibnfoenaaGreatTjE
namespace Go.Proofs.YtcjeocibnfoenaaGreat
open Go.RowKit Go.Joins Go.Deep Go.Sort

/-- does an entity take from another one? -/
def sees (u : Int) (b c : Bd) : Bool := !neq c.id b.id && (hasB c.m 8 && decide (far b.x b.y c.x c.y ≤ u))
def takeS (u : Int) (b : Bd) (s : Int) (c : Bd) : Int := bif sees u b c then cl (s + cl c.pw) else s
def takeI (u : Int) (b : Bd) (l : List Bd) (s : Int) : Int := l.foldl (takeS u b) s
theorem takeI_succ (u : Int) (b : Bd) (l : List Bd) (s : Int) (i : Nat) (h : i < l.length) : takeI u b (l.take (i + 1)) s = takeS u b (takeI u b (l.take i) s) l[i] := by
  unfold takeI
  rw [List.take_succ_eq_append_getElem h, List.foldl_append]
  rfl
theorem takeS_bnd (u : Int) (b c : Bd) (s : Int) (h : -1073741824 ≤ s ∧ s ≤ 1073741824) : -1073741824 ≤ takeS u b s c ∧ takeS u b s c ≤ 1073741824 := by
  unfold takeS
  cases sees u b c
  · exact h
  · exact cl_bnd _
theorem takeI_bnd (u : Int) (b : Bd) (l : List Bd) : ∀ s : Int, (-1073741824 ≤ s ∧ s ≤ 1073741824) → -1073741824 ≤ takeI u b l s ∧ takeI u b l s ≤ 1073741824 := by
  induction l with
  | nil => exact fun s h => h
  | cons c l ih => exact fun s h => ih _ (takeS_bnd u b c s h)

set_option maxRecDepth 100000 in
set_option maxHeartbeats 4000000 in
theorem rtakes_any (w : World) (b : Bd) (v : Value) (l : List Bd) (hv : RdOf cBd w v l) (hl : l.length ≤ 1000) (hok : ∀ c ∈ l, c.ok) (u s : Int) (hs : -1073741824 ≤ s ∧ s ≤ 1073741824) :
    Calls Tryz.prog 63 #[bdV b, v, .int .i64 u, .int .i64 s] w fun e w' => e = .returned (.int .i64 (takeI u b l s)) ∧ Keeps No w w' := by
  obtain ⟨va, vc, rfl⟩ := hv.slice
  have HV := Lib.hid hv
  have HO := Lib.hid hok
  have HS := Lib.hid hs
  clear hv hok hs
  have hn : (l.length : Int) ≤ 1000 := by omega
  clear hl
  go_enter Tryz.func63, Tryz.ntmps63
  go_upto_region 1 with fail
  refine wp_world ?_
  intro W hW
  have KW : Hid (Keeps No w W) := Lib.hid (by rw [hW]; exact (Keeps.refl w).alloc _)
  have cb : Hid (cellsAt W w.heap.size 0 11 = some (bdC b)) := Lib.hid (by rw [hW]; simp [go_sem])
  obtain ⟨gb, hgb⟩ : ∃ g, g = w.heap.size := ⟨_, rfl⟩
  rw [← hgb]
  rw [← hgb] at cb
  clear hW hgb
  go_wp2_with fail
  go_loopw [3, 9] (fun t q wr => ∃ i : Nat, i ≤ l.length ∧ q = .int .i64 i ∧ t = .int .i64 (takeI u b (l.take i) s) ∧ Keeps No W wr) (fun _ q _ => l.length - (intOf q).toNat)
  case atStart => exact ⟨0, Nat.zero_le _, rfl, rfl, Keeps.refl _⟩
  case round =>
    obtain ⟨i, hil, rfl, rfl, hK⟩ := hrel
    obtain ⟨wo, hwo⟩ : ∃ x : World, x = wr := ⟨_, rfl⟩
    subst hwo
    have K := Lib.hid hK
    have hi0 : (0 : Int) ≤ (i : Int) := by omega
    have SB := takeI_bnd u b (l.take i) s HS.out
    by_cases hlt : i < l.length
    · have hlti : (i : Int) < (l.length : Int) := by omega
      have hr : RdOf cBd wo (.slice va l.length vc) l := HV.out.kept (KW.out.trans hK (fun _ _ h => h)) (fun _ _ h => h)
      obtain ⟨g, off, rfl, _, _, _⟩ := RdOf.addr cBd hr (by omega)
      have c11 := RdOf.at cBd hr i hlt
      obtain ⟨c, hc⟩ : ∃ c, c = l[i] := ⟨_, rfl⟩
      have HCM : Hid (i64 c.m) := Lib.hid (by rw [hc]; exact (HO.out _ (List.getElem_mem hlt)).m)
      have HT : Hid (takeI u b (l.take (i + 1)) s = takeS u b (takeI u b (l.take i) s) c) := Lib.hid (by rw [hc]; exact takeI_succ u b l s i hlt)
      have c12 : cellsAt wo g (off + i * 11) 11 = some (bdC c) := by rw [hc]; exact c11
      clear c11 hc hr
      have cb1 := hK.cellsAt cb.out
      have lb : gb < wo.heap.size := block_lt_of_cell (cellsAt_cell cb1 0 _ rfl)
      have b0 : cellsAt wo gb 0 3 = some [.int .i64 b.s, .int .i64 b.i, .int .i64 b.g] := cellsAt_part cb1 0 [.int .i64 b.s, .int .i64 b.i, .int .i64 b.g] rfl (by simp)
      have b4 := cellsAt_cell cb1 4 _ rfl
      have b5 := cellsAt_cell cb1 5 _ rfl
      simp only [Nat.zero_add] at b4 b5
      obtain ⟨t, ht⟩ : ∃ t, t = takeI u b (l.take i) s := ⟨_, rfl⟩
      rw [← ht] at HT SB ⊢
      obtain ⟨T, hT⟩ : ∃ T, T = neq c.id b.id := ⟨_, rfl⟩
      have heq : ∀ W, (binOp .eql 36 (.agg #[.int .i64 c.s, .int .i64 c.i, .int .i64 c.g]) (.agg #[.int .i64 b.s, .int .i64 b.i, .int .i64 b.g])).run Tryz.prog W = .ok (.bool T) W := fun W => by rw [hT]; exact run_eqlID _ _ _ _ _ _ W
      obtain ⟨H, hH⟩ : ∃ H, H = hasB c.m 8 := ⟨_, rfl⟩
      have CH := Lib.hid (fun W => bit_any W c.m 8 HCM.out (.inr (.inr (.inr (.inl rfl)))))
      rw [← hH] at CH
      obtain ⟨F, hF⟩ : ∃ F, F = far b.x b.y c.x c.y := ⟨_, rfl⟩
      have CF := Lib.hid (fun W => rfar_any W b.x b.y c.x c.y)
      rw [← hF] at CF
      have HT2 : Hid (takeI u b (l.take (i + 1)) s = bif !T && (H && decide (F ≤ u)) then cl (t + cl c.pw) else t) := Lib.hid (by rw [HT.out, hT, hH, hF]; rfl)
      clear hT hH hF HT ht hK cb1 HCM
      have KA : Hid (Keeps No W (wo.alloc (.cells (bdC c).toArray 38))) := Lib.hid (K.out.alloc _)
      cases T with
      | true =>
        go_wp2
        go_roundw
        case rel => exact ⟨i + 1, by omega, by go_num, by rw [HT2.out]; rfl, KA.out⟩
        case measure => simp [intOf]; omega
      | false =>
        cases H with
        | false =>
          go_wp2_with (first
            | (go_at_call 62; have hc := CH.out; with_reducible refine (hc _).mono ?_; rintro e w1 ⟨rfl, hw⟩; clear hc; have hw := hw.symm; subst hw))
          go_roundw
          case rel => exact ⟨i + 1, by omega, by go_num, by rw [HT2.out]; rfl, KA.out⟩
          case measure => simp [intOf]; omega
        | true =>
          go_wp2_with (first
            | (go_at_call 62; have hc := CH.out; with_reducible refine (hc _).mono ?_; rintro e w1 ⟨rfl, hw⟩; clear hc; have hw := hw.symm; subst hw))
          refine (CF.out _).mono ?_
          rintro e w2 ⟨rfl, hg⟩
          have KF : Hid (Keeps No W w2) := Lib.hid (KA.out.trans hg.keeps (fun _ _ h => h))
          have p7 : w2.cell? ⟨wo.heap.size, 7 + 2, none⟩ = some (.int .i64 c.pw) := hg.keeps.cell (by simp [go_sem]) (fun h => h)
          clear hg c12 b0 b4 b5 CF
          have P1 := Lib.hid (fun W => rclamp_any W c.pw)
          have P2 := Lib.hid (fun W => rclamp_any W (t + cl c.pw))
          have wS : IntKind.i64.wrap (t + cl c.pw) = t + cl c.pw := by
            have h1 := cl_bnd c.pw
            rw [IntKind.wrap_i64]
            omega
          obtain ⟨Z, hZ⟩ : ∃ Z, Z = cl (t + cl c.pw) := ⟨_, rfl⟩
          rw [← hZ] at P2 HT2
          obtain ⟨Y, hY⟩ : ∃ Y, Y = cl c.pw := ⟨_, rfl⟩
          rw [← hY] at P1 P2 wS
          clear hZ hY
          by_cases hF : F ≤ u
          · rw [decide_eq_true hF] at HT2
            go_wp2_with (first
              | (go_at_call 67; have hc := P1.out; with_reducible refine (hc _).mono ?_; rintro e w1 ⟨rfl, hw⟩; clear hc; have hw := hw.symm; subst hw)
              | (go_at_call 67; have hc := P2.out; with_reducible refine (hc _).mono ?_; rintro e w1 ⟨rfl, hw⟩; clear hc; have hw := hw.symm; subst hw))
            go_roundw
            case rel => exact ⟨i + 1, by omega, by go_num, by rw [HT2.out]; rfl, KF.out⟩
            case measure => simp [intOf]; omega
          · rw [decide_eq_false hF] at HT2
            go_wp2
            go_roundw
            case rel => exact ⟨i + 1, by omega, by go_num, by rw [HT2.out]; rfl, KF.out⟩
            case measure => simp [intOf]; omega
    · have hlti : ¬ ((i : Int) < (l.length : Int)) := by omega
      have hT : l.take i = l := List.take_of_length_le (by omega)
      rw [hT]
      clear hK
      go_wp2
      go_ret
      exact ⟨rfl, KW.out.trans K.out (fun _ _ h => h)⟩

set_option maxRecDepth 100000 in
set_option maxHeartbeats 1000000 in
theorem mapNew_any (w : World) (z : Zf) (hz : zfOk z = true) :
    Calls Tryz.prog 10 #[zfV z] w fun e w' => ∃ g, e = .returned (.tuple #[.pointer (some ⟨g, 0, none⟩), .int .i64 0]) ∧ w.heap.size ≤ g ∧ cellsAt w' g 0 11 = some (zmC z) ∧ Keeps No w w' := by
  have hok := zfOk_ok hz
  obtain ⟨x1, x2⟩ := hok.cs
  obtain ⟨y1, y2⟩ := hok.rs
  have HC := Lib.hid (fun W => check_any W z)
  rw [hz, cond_true] at HC
  have wX : IntKind.i64.wrap (z.c * z.s) = z.c * z.s := by rw [IntKind.wrap_i64]; omega
  have wY : IntKind.i64.wrap (z.r * z.s) = z.r * z.s := by rw [IntKind.wrap_i64]; omega
  have wX2 : wrap64 (z.c * z.s) = z.c * z.s := by unfold wrap64; omega
  have wY2 : wrap64 (z.r * z.s) = z.r * z.s := by unfold wrap64; omega
  clear hz hok x1 x2 y1 y2
  go_enter Tryz.func10, Tryz.ntmps10
  go_wp2_with fail
  refine (HC.out _).mono ?_
  rintro e w1 ⟨rfl, hk⟩
  have K1 : Hid (Keeps No w w1) := Lib.hid (((Keeps.refl w).alloc _).trans hk (fun _ _ h => h))
  have cb : cellsAt w1 w.heap.size 0 7 = some (zfC z) := hk.cellsAt (by simp [go_sem])
  have e0 := cellsAt_cell cb 0 _ rfl
  have e1 := cellsAt_cell cb 1 _ rfl
  have e2 := cellsAt_cell cb 2 _ rfl
  simp only [Nat.zero_add] at e0 e1 e2
  have K2 := K1.out.size
  clear hk
  go_wp2
  exact bodyPost_ret (v := .tuple #[.pointer (some ⟨w1.heap.size, 0, none⟩), .int .i64 0]) (by simp [results, Tryz.results10, go_sem]) rfl ⟨_, rfl, K2, by simp [go_sem], K1.out.alloc _⟩
set_option maxRecDepth 100000 in
theorem mapNew_no (w : World) (z : Zf) (hz : zfOk z = false) :
    Calls Tryz.prog 10 #[zfV z] w fun e w' => e = .returned (.tuple #[.pointer none, .int .i64 1]) ∧ Keeps No w w' := by
  have HC := Lib.hid (fun W => check_any W z)
  rw [hz, cond_false] at HC
  clear hz
  go_enter Tryz.func10, Tryz.ntmps10
  go_wp2_with fail
  refine (HC.out _).mono ?_
  rintro e w1 ⟨rfl, hk⟩
  have K1 : Hid (Keeps No w w1) := Lib.hid (((Keeps.refl w).alloc _).trans hk (fun _ _ h => h))
  clear hk
  go_wp2
  exact bodyPost_ret (v := .tuple #[.pointer none, .int .i64 1]) (by simp [results, Tryz.results10, go_sem]) rfl ⟨rfl, K1.out⟩
end Go.Proofs.YtcjeocibnfoenaaGreat
