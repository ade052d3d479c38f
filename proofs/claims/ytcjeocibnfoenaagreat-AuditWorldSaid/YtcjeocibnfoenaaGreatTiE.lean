/-
  slices.SortStableFunc, Clone, parts.Sorted over entities that are sorted. No conditions of their own.
-/
import Derived.Test.YtcjeocibnfoenaaGreatTiD
namespace Go.Proofs.YtcjeocibnfoenaaGreat
open Go.RowKit Go.Joins Go.Deep Go.Sort

section
variable {w : World} {blk off cap : Nat} {l : List Bd}
/-- of no element -/
theorem insEmpty_any (v : Value) (a : Nat) (ha : (a : Int) ≤ 1000000000) : Calls Tryz.prog 108 #[v, .int .i64 a, .int .i64 a, cmpF] w fun e w' => e = .returned (.tuple #[]) ∧ Grown w w' := by
  have h0 : (0 : Int) ≤ (a : Int) := by omega
  go_enter Tryz.func108, Tryz.ntmps108
  go_wp2
  go_loopw [8] (fun q wr => q = .int .i64 ((a : Int) + 1) ∧ w = wr) (fun _ _ => 0)
  case atStart => exact ⟨rfl, rfl⟩
  case round =>
    obtain ⟨rfl, rfl⟩ := hrel
    have hn : ¬ ((a : Int) + 1 < (a : Int)) := by omega
    go_wp2
    exact bodyPost_end (results_none rfl _ _ _) rfl ⟨rfl, Grown.same w⟩
set_option maxRecDepth 100000 in
theorem stableEmpty_any (v : Value) : Calls Tryz.prog 83 #[v, .int .i64 0, cmpF] w fun e w' => e = .returned (.tuple #[]) ∧ Grown w w' := by
  go_enter Tryz.func83, Tryz.ntmps83
  go_wp2_with fail
  go_loopw [7, 8] (fun q r wr => q = .int .i64 0 ∧ r = .int .i64 20 ∧ w = wr) (fun _ _ _ => 0)
  case atStart => exact ⟨rfl, rfl, rfl⟩
  case round =>
    obtain ⟨rfl, rfl, rfl⟩ := hrel
    go_wp2_with fail
    refine (insEmpty_any v 0 (by omega)).mono ?_
    rintro e w1 ⟨rfl, hg⟩
    have G1 := Lib.hid hg
    clear hg
    go_wp2_with fail
    go_loopw [6] (fun q wr => q = .int .i64 20 ∧ w1 = wr) (fun _ _ => 0)
    case atStart => exact ⟨rfl, rfl⟩
    case round =>
      obtain ⟨rfl, rfl⟩ := hrel
      go_wp2
      exact bodyPost_end (results_none rfl _ _ _) rfl ⟨rfl, G1.out⟩

set_option maxRecDepth 100000 in
set_option maxHeartbeats 4000000 in
theorem stableSorted_any (hR : RdOf cBd w (.slice (some ⟨blk, off, none⟩) l.length cap) l) (hs : SortedB l) (hbig : (l.length : Int) ≤ 1000000000) :
    Calls Tryz.prog 83 #[.slice (some ⟨blk, off, none⟩) l.length cap, .int .i64 l.length, cmpF] w fun e w' => e = .returned (.tuple #[]) ∧ Grown w w' := by
  have HI : Hid (∀ (W : World) (a b : Nat), Grown w W → a ≤ b → b ≤ l.length → Calls Tryz.prog 108 #[.slice (some ⟨blk, off, none⟩) l.length cap, .int .i64 a, .int .i64 b, cmpF] W fun e w' => e = .returned (.tuple #[]) ∧ Grown W w') :=
    Lib.hid (fun W a b hG hab hb => insSorted_any (Reads.kept hG.keeps hR (fun _ _ h => h)) hs a b hab hb hbig)
  have HM : Hid (∀ (W : World) (a m b : Nat), Grown w W → a < m → m < b → b ≤ l.length → Calls Tryz.prog 109 #[.slice (some ⟨blk, off, none⟩) l.length cap, .int .i64 a, .int .i64 m, .int .i64 b, cmpF] W fun e w' => e = .returned (.tuple #[]) ∧ Grown W w') :=
    Lib.hid (fun W a m b hG ham hmb hb => symSorted_any hR hs hbig (b - a) a m b W hG ham hmb hb (Nat.le_refl _))
  obtain ⟨n, hn⟩ : ∃ n, n = l.length := ⟨_, rfl⟩
  rw [← hn] at HI HM hbig ⊢
  clear hR hs hn
  have hn0 : (0 : Int) ≤ (n : Int) := by omega
  go_enter Tryz.func83, Tryz.ntmps83
  go_wp2_with fail
  go_loopw [7, 8] (fun q r wr => ∃ i : Nat, q = .int .i64 i ∧ r = .int .i64 ((i : Int) + 20) ∧ i ≤ n ∧ Grown w wr) (fun _ r _ => n + 21 - (intOf r).toNat)
  case atStart => exact ⟨0, rfl, rfl, Nat.zero_le _, Grown.same w⟩
  case round =>
    obtain ⟨i, rfl, rfl, hin, hG⟩ := hrel
    obtain ⟨wo, hwo⟩ : ∃ x : World, x = wr := ⟨_, rfl⟩
    subst hwo
    have GR := Lib.hid hG
    have hi0 : (0 : Int) ≤ (i : Int) := by omega
    have hib : (i : Int) ≤ 1000000000 := by omega
    by_cases hlt : i + 20 ≤ n
    · have hlti : (i : Int) + 20 ≤ (n : Int) := by omega
      have hc := HI.out wo i (i + 20) hG (by omega) hlt
      have e20 : ((i + 20 : Nat) : Int) = (i : Int) + 20 := by omega
      rw [e20] at hc
      have HC := Lib.hid hc
      clear hG hc e20
      go_wp2_with fail
      refine HC.out.mono ?_
      rintro e w1 ⟨rfl, hg⟩
      have G1 := Lib.hid (GR.out.trans hg)
      clear hg
      go_wp2
      go_roundw
      case rel => exact ⟨i + 20, by go_num, by go_num, hlt, G1.out⟩
      case measure => simp [intOf]; omega
    · have hlti : ¬ ((i : Int) + 20 ≤ (n : Int)) := by omega
      have HC := Lib.hid (HI.out wo i n hG hin (Nat.le_refl _))
      clear hG
      go_wp2_with fail
      refine HC.out.mono ?_
      rintro e w1 ⟨rfl, hg⟩
      have G1 := Lib.hid (GR.out.trans hg)
      clear hg hlti
      go_wp2_with fail
      go_loopw [6, 7, 8, 9] (fun q _ _ _ wr => ∃ s : Nat, q = .int .i64 s ∧ 20 ≤ s ∧ (s : Int) ≤ 2000000000 ∧ Grown w wr) (fun q _ _ _ _ => n - (intOf q).toNat)
      case atStart => exact ⟨20, rfl, Nat.le_refl _, by omega, G1.out⟩
      case round =>
        obtain ⟨s, rfl, hs20, hsb, hG⟩ := hrel
        obtain ⟨wp, hwp⟩ : ∃ x : World, x = wr := ⟨_, rfl⟩
        subst hwp
        have GP := Lib.hid hG
        have hs0 : (0 : Int) ≤ (s : Int) := by omega
        by_cases hsn : s < n
        · have hsni : (s : Int) < (n : Int) := by omega
          obtain ⟨t, ht⟩ : ∃ t : Nat, 2 * (s : Int) = (t : Int) := ⟨2 * s, by omega⟩
          have ht2 : (s : Int) * 2 = (t : Int) := by omega
          have htb : (t : Int) ≤ 2000000000 := by omega
          have HT : Hid (t = s + s) := Lib.hid (by omega)
          have ht0 : (0 : Int) ≤ (t : Int) := by omega
          clear hG
          go_wp2_with fail
          go_loopw [7, 8] (fun q r wr => ∃ i : Nat, q = .int .i64 i ∧ r = .int .i64 ((i : Int) + (t : Int)) ∧ i ≤ n ∧ Grown w wr) (fun _ r _ => n + t + 1 - (intOf r).toNat)
          case atStart => exact ⟨0, rfl, by simp, Nat.zero_le _, GP.out⟩
          case round =>
            obtain ⟨i, rfl, rfl, hin, hG⟩ := hrel
            obtain ⟨wq, hwq⟩ : ∃ x : World, x = wr := ⟨_, rfl⟩
            subst hwq
            have GQ := Lib.hid hG
            have hi0 : (0 : Int) ≤ (i : Int) := by omega
            have hib : (i : Int) ≤ 1000000000 := by omega
            by_cases hlt : i + t ≤ n
            · have hlti : (i : Int) + (t : Int) ≤ (n : Int) := by omega
              have hc := HM.out wq i (i + s) (i + t) hG (by omega) (by have := HT.out; omega) hlt
              have e1 : ((i + s : Nat) : Int) = (i : Int) + (s : Int) := by omega
              have e2 : ((i + t : Nat) : Int) = (i : Int) + (t : Int) := by omega
              rw [e1, e2] at hc
              have HC := Lib.hid hc
              clear hG hc e1 e2
              go_wp2_with fail
              refine HC.out.mono ?_
              rintro e w2 ⟨rfl, hg⟩
              have G2 := Lib.hid (GQ.out.trans hg)
              clear hg
              go_wp2
              go_roundw
              case rel => exact ⟨i + t, by go_num, by go_num, hlt, G2.out⟩
              case measure => have := HT.out; simp [intOf]; omega
            · have hlti : ¬ ((i : Int) + (t : Int) ≤ (n : Int)) := by omega
              by_cases hmn : i + s < n
              · have hmni : (i : Int) + (s : Int) < (n : Int) := by omega
                have hc := HM.out wq i (i + s) n hG (by omega) hmn (Nat.le_refl _)
                have e1 : ((i + s : Nat) : Int) = (i : Int) + (s : Int) := by omega
                rw [e1] at hc
                have HC := Lib.hid hc
                clear hG hc e1
                go_wp2_with fail
                refine HC.out.mono ?_
                rintro e w2 ⟨rfl, hg⟩
                have G2 := Lib.hid (GQ.out.trans hg)
                clear hg
                go_wp2
                go_roundw
                case rel => exact ⟨t, rfl, by have := HT.out; omega, htb, G2.out⟩
                case measure => have := HT.out; simp [intOf]; omega
              · have hmni : ¬ ((i : Int) + (s : Int) < (n : Int)) := by omega
                clear hG
                go_wp2
                go_roundw
                case rel => exact ⟨t, rfl, by have := HT.out; omega, htb, GQ.out⟩
                case measure => have := HT.out; simp [intOf]; omega
        · have hsni : ¬ ((s : Int) < (n : Int)) := by omega
          clear hG
          go_wp2
          exact bodyPost_end (results_none rfl _ _ _) rfl ⟨rfl, GP.out⟩
end
end Go.Proofs.YtcjeocibnfoenaaGreat
