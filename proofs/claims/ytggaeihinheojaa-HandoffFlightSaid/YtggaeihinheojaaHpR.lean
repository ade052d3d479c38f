/-
  HandoffFlight: never are more than Flight under way from a shard; numbers rise. No conditions.
-/
import Derived.Test.YtggaeihinheojaaHpP
namespace Go.Proofs.Ytggaeihinheojaa.handoffFlight
open Go.ChangeShapes Go.WideShapes Go.ChangeAt Go.RowKit Go.Joins Go.Deep

/-- the greatest number so far -/
def lastN (l : List Ou) : Int := l.foldl (fun a o => if o.st = 1 then a else o.n) 0
theorem lastN_snoc (l : List Ou) (o : Ou) : lastN (l ++ [o]) = if o.st = 1 then lastN l else o.n := by
  unfold lastN
  rw [List.foldl_append]
  rfl
theorem fold_lt {x : Int} : ∀ {l : List Ou} {a : Int}, a < x → (∀ p ∈ l, p.st ≠ 1 → p.n < x) → l.foldl (fun a o => if o.st = 1 then a else o.n) a < x := by
  intro l
  induction l with
  | nil => intro a h _; exact h
  | cons o l ih =>
    intro a h hl
    rw [List.foldl_cons]
    refine ih ?_ (fun p hp => hl p (by simp [hp]))
    split
    · exact h
    · exact hl o (by simp) (by assumption)
theorem fold_ge : ∀ {l : List Ou} {a : Int}, 0 ≤ a → (∀ p ∈ l, p.st ≠ 1 → 0 ≤ p.n) → 0 ≤ l.foldl (fun a o => if o.st = 1 then a else o.n) a := by
  intro l
  induction l with
  | nil => intro a h _; exact h
  | cons o l ih =>
    intro a h hl
    rw [List.foldl_cons]
    refine ih ?_ (fun p hp => hl p (by simp [hp]))
    split
    · exact h
    · exact hl o (by simp) (by assumption)
theorem take_next {α : Type} (l : List α) (j : Nat) (h : j < l.length) : l.take (j + 1) = l.take j ++ [l[j]] := List.take_succ_eq_append_getElem h

section
variable {w : World}
def FlyRel (w : World) (v5 : Value) (wr : World) : Prop := ∃ k : Nat, k ≤ 3 ∧ v5 = .int .i64 k ∧ Keeps No w wr
def FlyIn (w : World) (l : List Ou) (v6 v7 v8 : Value) (wr : World) : Prop := ∃ j : Nat, j ≤ l.length ∧ v8 = .int .i64 j ∧ v6 = .int .i64 (underOf (l.take j)) ∧ v7 = .int .i64 (lastN (l.take j)) ∧ Keeps No w wr

set_option maxRecDepth 100000 in
set_option maxHeartbeats 4000000 in
theorem walk {w : World} {v : Value} {l : List Tu} (hv : RdOf cTu w v l) : Calls Try.prog 8 #[v] w fun e w' => e = .returned (.bool true) ∧ Keeps No w w' := by
  have Hv := Lib.hid hv
  clear hv
  go_enter Try.func8, Try.ntmps8
  go_wp2_with (go_at_call 26; refine (played_any Hv.out).mono ?_; rintro e w1 ⟨g, V, ms, W, rfl, h1, hO1, hk1, _⟩; have K1 := Lib.hid hk1; have H := Lib.hid h1; have HO := Lib.hid hO1; clear hk1 h1 hO1)
  go_loopw [5] (fun v5 wr => FlyRel w1 v5 wr) (fun k _ => 3 - (intOf k).toNat)
  case atStart => exact ⟨0, by omega, rfl, Keeps.refl _⟩
  case round =>
    obtain ⟨k, hk, rfl, k1⟩ := hrel
    obtain ⟨wo, hwo⟩ : ∃ x : World, x = wr := ⟨_, rfl⟩
    subst hwo
    have K2 := Lib.hid k1
    clear k1
    have hkI : (0 : Int) ≤ (k : Int) := by omega
    by_cases hk3 : k < 3
    · have hk3' : (k : Int) < 3 := by omega
      have H1 := Lib.hid (H.out.no K2.out)
      obtain ⟨ua, uc, hVu⟩ := (H1.out.outs k hk3).1.slice
      obtain ⟨N, hN⟩ : ∃ N, N = (W.s k).outs.length := ⟨_, rfl⟩
      have HV2 : Hid (V.u k = .slice ua N uc) := by show _ = _; rw [hVu, hN]
      have hN44 : (N : Int) ≤ 44 := by have h := outs_le HO.out.S hk3; rw [← hN] at h; omega
      have HN := Lib.hid hN
      have kb1 : k * 8 + 8 ≤ 34 := by omega
      have Hk3 := Lib.hid hk3
      clear hVu hk3 hN
      go_wp2_with fail
      go_loopw [6, 7, 8] (fun v6 v7 v8 wr => FlyIn w1 (W.s k).outs v6 v7 v8 wr) (fun _ _ j _ => N - (intOf j).toNat)
      case atStart => exact ⟨0, Nat.zero_le _, rfl, rfl, rfl, K2.out⟩
      case round =>
        obtain ⟨j, hj, rfl, rfl, rfl, k3⟩ := hrel
        have K3 := Lib.hid k3
        clear k3
        have hjI : (0 : Int) ≤ (j : Int) := by omega
        have H3 := Lib.hid (H.out.no K3.out)
        have c4 := H3.out.cell Hk3.out 4 _ rfl
        have c7 := H3.out.cell Hk3.out 7 _ rfl
        rw [HV2.out] at c4
        have hjN : j ≤ N := by have h := HN.out; omega
        have hjI2 : (j : Int) ≤ (N : Int) := by omega
        obtain ⟨u0, hu0⟩ : ∃ u0, u0 = underOf ((W.s k).outs.take j) := ⟨_, rfl⟩
        obtain ⟨n0, hn0⟩ : ∃ n0, n0 = lastN ((W.s k).outs.take j) := ⟨_, rfl⟩
        rw [← hu0, ← hn0]
        have hu1 : (u0 : Int) ≤ 44 := by
          have h : u0 ≤ ((W.s k).outs.take j).length := by rw [hu0]; unfold underOf; exact List.length_filter_le _ _
          have h2 := List.length_take_le j (W.s k).outs
          omega
        have hu2 : (0 : Int) ≤ (u0 : Int) := by omega
        have Hu0 := Lib.hid hu0
        have Hn0 := Lib.hid hn0
        clear hu0 hn0 hj hjN
        by_cases hlt : j < N
        · have hltI : (j : Int) < (N : Int) := by omega
          have hjl : j < (W.s k).outs.length := by have h := HN.out; omega
          obtain ⟨o, ho⟩ : ∃ o, o = (W.s k).outs[j] := ⟨_, rfl⟩
          have hru : RdOf cOu wr (.slice ua N uc) (W.s k).outs := by rw [← HV2.out]; exact (H3.out.outs k Hk3.out).1
          rw [HN.out] at hru
          obtain ⟨gu, off, rfl, hc1, hc2, hg⟩ := RdOf.addr cOu hru (by omega)
          have g0 : cellsAt wr gu (off + j * 14) 14 = some (ouC o) := by rw [ho]; exact RdOf.at cOu hru j hjl
          rw [← HN.out] at hc1
          have hun : Hid (underOf ((W.s k).outs.take (j + 1)) = u0 + if o.st = 1 then 0 else 1) := by
            show _ = _
            rw [take_next _ _ hjl, underOf_append, ← Hu0.out, ← ho, underOf_cons]
            show _ + (_ + underOf []) = _
            rfl
          have hln : Hid (lastN ((W.s k).outs.take (j + 1)) = if o.st = 1 then n0 else o.n) := by
            show _ = _
            rw [take_next _ _ hjl, lastN_snoc, ← Hn0.out, ← ho]
          have hout := (HO.out.S.outs k Hk3.out o (by rw [ho]; exact List.getElem_mem hjl)).st
          have hmono : o.st ≠ 1 → n0 < o.n := by
            intro hs
            rw [Hn0.out]
            unfold lastN
            refine fold_lt (by rcases hout with h | ⟨_, h, _⟩; exact absurd h.1 hs; omega) (fun p hp hps => ?_)
            have hord := HO.out.S.order k Hk3.out
            have hsp := at_split (W.s k).outs j hjl
            rw [hsp] at hord
            have h := (ahead_mid hord).1 p hp
            rw [← ho] at h
            exact h.2 hps hs
          have hcI : (N : Int) ≤ (uc : Int) := by omega
          have hjl2 := Lib.hid hjl
          unfold ouC at g0
          clear ho hru hc2 hjl hc1
          by_cases h1 : o.st = 1
          · have hz : o.n = 0 := by
              rcases hout with h | ⟨h, _, _⟩
              · exact h.2
              · omega
            have e1 : (o.st == 1) = true := by rw [h1]; rfl
            have e2 : (o.n != 0) = false := by rw [hz]; rfl
            have Hh1 := Lib.hid h1
            clear hout hmono h1 hz
            go_wp2_with fail
            go_roundw
            case rel => exact ⟨j + 1, hjl2.out, by go_num, by rw [hun.out, if_pos Hh1.out, Nat.add_zero], by rw [hln.out, if_pos Hh1.out], K3.out.alloc _⟩
            case measure => simp [intOf]; omega
          · have e1 : (o.st == 1) = false := beq_false_of_ne h1
            have hm := hmono h1
            have hnx : o.n ≤ ((W.s k).nx : Int) := by
              rcases hout with h | ⟨_, _, h⟩
              · exact absurd h.1 h1
              · exact h
            have d1 : decide (o.n ≤ n0) = false := decide_eq_false (by omega)
            have d2 : decide (((W.s k).nx : Int) < o.n) = false := decide_eq_false (by omega)
            have Hh1 := Lib.hid h1
            clear hout hmono h1
            go_wp2_with fail
            refine wp_world ?_
            intro Y hY
            have KY : Hid (Keeps No wr Y) := by rw [hY]; exact (Keeps.refl (S := No) wr).alloc _
            have cT0 : Y.cell? ⟨wr.heap.size, 0, none⟩ = some (.int .i64 o.n) := by rw [hY]; simp [go_sem]
            have c7Y := KY.out.cell c7 (fun h => h)
            clear hY c4 c7 g0 e1
            go_quiet (fail)
            go_wp2_with fail
            go_roundw
            case rel => exact ⟨j + 1, hjl2.out, by go_num, by rw [hun.out, if_neg Hh1.out]; go_num, by rw [hln.out, if_neg Hh1.out], (K3.out.trans KY.out (fun _ _ h => h)).drewN _⟩
            case measure => simp [intOf]; omega
        · obtain rfl : j = N := by omega
          have hu4 : (u0 : Int) ≤ 4 := by
            have h := HO.out.S.under k Hk3.out
            rw [Hu0.out, HN.out, List.take_length]
            omega
          go_wp2_with fail
          go_roundw
          case rel => exact ⟨k + 1, by omega, by go_num, K3.out⟩
          case measure => simp [intOf]; omega
    · have hk3' : ¬ (k : Int) < 3 := by omega
      go_wp2_with (go_at_call 10; refine (awake_any _).mono ?_; rintro e w2 ⟨rfl, hk2⟩; have K4 : Hid (Keeps No w w2) := (K1.out.trans K2.out (fun _ _ h => h)).trans hk2 (fun _ _ h => h); clear hk2)
      go_ret
      exact ⟨rfl, K4.out⟩
end

set_option maxRecDepth 100000 in
theorem lifted (os : Os) (started : os.Started) (H : Type) (enc : TypeId × Value → H) :
    ReturnsInHanded {} Try.checked os 8 .any (Rows.handoffFlightSpec.pre6 enc Try.prog Try.f8 Rows.handoffFlightRow.domain false) (Rows.handoffFlightSpec.post enc Try.prog Try.f8 false true false false) := by
  refine law_lifted os started H enc (by kernel_rfl) Try.func8
    (ChangeSpec.witness6 (enc := enc) (C := Try.checked) false ⟨#[], #[.slice none 0 0], []⟩ 8 (by kernel_rfl) (by kernel_rfl) (by kernel_rfl) (by kernel_rfl))
    (by decide +kernel) rfl Try.underlying4 rfl (fun ds h => by match ds, h with | [d1], _ => rfl) ?_
  intro W base args ds p hval hA
  rw [Try.params8] at hA hval
  obtain ⟨v0, d0, rfl, rfl, h0⟩ := trodAll_one hA
  obtain ⟨l, hl⟩ := open_turns h0 (by obtain ⟨a, m, c, rfl⟩ := okWide_slice Try.underlying66 (hval 0 66 v0 rfl rfl); rfl)
  exact walk hl

theorem holds : Rows.HandoffFlightSaid :=
  OpenClaim.holds_of_wide 8 Try.f8 rfl rfl rfl rfl rfl rfl rfl ⟨rfl, rfl, rfl, rfl, rfl⟩ rfl rfl rfl rfl rfl (by kernel_rfl) Try.func8 (by kernel_rfl)
    (of_decide_eq_true (by kernel_rfl)) (by unfold Func.isWrapper; first | (rw [if_pos (by decide +kernel)]; kernel_rfl) | (rw [if_neg (by decide +kernel)]; exact ⟨rfl, rfl⟩))
    (fun os started H enc _ => lifted os started H enc)
end Go.Proofs.Ytggaeihinheojaa.handoffFlight
