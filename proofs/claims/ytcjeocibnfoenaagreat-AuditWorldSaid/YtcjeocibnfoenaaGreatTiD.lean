/-
  The order that entities are sorted by, and insertion sort over a row that is sorted. No conditions of their own.
-/
import Derived.Test.YtcjeocibnfoenaaGreatTiC
import Derived.Shelf.SlSortCmp.QuietGrown
namespace Go.Proofs.YtcjeocibnfoenaaGreat
open Go.RowKit Go.Joins Go.Deep Go.Sort

theorem mixed : Tryz.prog.follows .mixedOrders = true := by kernel_rfl
set_option maxRecDepth 100000 in
set_option maxHeartbeats 1000000 in
theorem cmpB_any (w : World) (x y : Bd) : Calls Tryz.prog 51 #[bdV x, bdV y] w fun e w' => e = .returned (.int .i64 (ncmp x.id y.id)) ∧ Grown w w' := by
  have HC := Lib.hid (fun W => compare_any W x.id y.id)
  obtain ⟨r, hr⟩ : ∃ r, r = ncmp x.id y.id := ⟨_, rfl⟩
  rw [← hr] at HC ⊢
  clear hr
  go_enter Tryz.func51, Tryz.ntmps51
  go_upto_region 1 with fail
  refine wp_world ?_
  intro W hW
  have cA : cellsAt W w.heap.size 0 11 = some (bdC x) := by rw [hW]; simp [go_sem]
  have cB : cellsAt W (w.heap.size + 1) 0 11 = some (bdC y) := by rw [hW]; simp [go_sem]
  have hA : cellsAt W w.heap.size 0 3 = some [.int .i64 x.s, .int .i64 x.i, .int .i64 x.g] := by rw [hW]; simp [go_sem]
  have hB : cellsAt W (w.heap.size + 1) 0 3 = some [.int .i64 y.s, .int .i64 y.i, .int .i64 y.g] := by rw [hW]; simp [go_sem]
  have G : Hid (Grown w W) := Lib.hid (by rw [hW]; exact ((Grown.same w).alloc _).alloc _)
  clear hW cA cB
  go_wp2_with fail
  refine (HC.out W).mono ?_
  rintro e w1 ⟨rfl, hg⟩
  have G1 := Lib.hid (G.out.trans hg)
  clear hg
  go_wp2
  go_ret
  exact ⟨rfl, G1.out⟩

/-- no one stands behind one that it comes ahead of -/
def SortedN (l : List Nam) : Prop := l.Pairwise fun a b => nlt b a = false
abbrev SortedB (l : List Bd) : Prop := SortedN (l.map Bd.id)
theorem SortedB.at {l : List Bd} (h : SortedB l) {i j : Nat} (hij : i < j) (hj : j < l.length) : nlt l[j].id (l[i]'(by omega)).id = false := by
  have := List.pairwise_iff_getElem.1 h i j (by simp; omega) (by simpa using hj) hij
  simpa using this
abbrev cmpF : Value := .func (.func 51) #[] #[]

section
variable {w : World} {blk off cap : Nat} {l : List Bd}
set_option maxRecDepth 100000 in
set_option maxHeartbeats 2000000 in
theorem insSorted_any (hR : RdOf cBd w (.slice (some ⟨blk, off, none⟩) l.length cap) l) (hs : SortedB l) (a b : Nat) (hab : a ≤ b) (hb : b ≤ l.length) (hbig : (l.length : Int) ≤ 1000000000) :
    Calls Tryz.prog 108 #[.slice (some ⟨blk, off, none⟩) l.length cap, .int .i64 a, .int .i64 b, cmpF] w fun e w' => e = .returned (.tuple #[]) ∧ Grown w w' := by
  have HR := Lib.hid hR
  have HS := Lib.hid hs
  have mx := mixed
  obtain ⟨n, hn⟩ : ∃ n, n = l.length := ⟨_, rfl⟩
  have HN := Lib.hid hn
  rw [← hn] at hb hbig ⊢
  have hbi : (b : Int) ≤ (n : Int) := by omega
  clear hR hs hn
  go_enter Tryz.func108, Tryz.ntmps108
  go_wp2
  go_loopw [8, 9] (fun q _ wr => ∃ i : Nat, q = .int .i64 i ∧ a < i ∧ i ≤ b + 1 ∧ Grown w wr) (fun q _ _ => b + 1 - (intOf q).toNat)
  case atStart => exact ⟨a + 1, by go_num, by omega, by omega, Grown.same w⟩
  case round =>
    obtain ⟨i, rfl, hai, hib, hG⟩ := hrel
    obtain ⟨wo, hwo⟩ : ∃ x : World, x = wr := ⟨_, rfl⟩
    subst hwo
    have GR := Lib.hid hG
    have hi0 : (0 : Int) ≤ (i : Int) := by omega
    by_cases hlt : i < b
    · have hlti : (i : Int) < (b : Int) := by omega
      have hil : i < l.length := by have := HN.out; omega
      have hilp : i - 1 < l.length := by omega
      obtain ⟨ip, rfl⟩ : ∃ ip, i = ip + 1 := ⟨i - 1, by omega⟩
      have hip : ip < l.length := by omega
      have hord : decide (ncmp l[ip + 1].id l[ip].id < 0) = false := by rw [ncmp_lt]; exact HS.out.at (Nat.lt_succ_self ip) hil
      have cj := hG.keeps.cellsAt (RdOf.at cBd HR.out (ip + 1) hil)
      have cp := hG.keeps.cellsAt (RdOf.at cBd HR.out ip hip)
      obtain ⟨x, hx⟩ : ∃ x, x = l[ip + 1] := ⟨_, rfl⟩
      obtain ⟨y, hy⟩ : ∃ y, y = l[ip] := ⟨_, rfl⟩
      rw [← hx] at cj hord
      rw [← hy] at cp hord
      have HC := Lib.hid (fun W => cmpB_any W x y)
      obtain ⟨r, hr⟩ : ∃ r, r = ncmp x.id y.id := ⟨_, rfl⟩
      rw [← hr] at HC hord
      have hblk : blk < wo.heap.size := block_lt_of_cell (cellsAt_cell cj 0 _ rfl)
      have cj' : cellsAt wo blk (off + (ip + 1) * 11) 11 = some (bdC x) := cj
      have cp' : cellsAt wo blk (off + ip * 11) 11 = some (bdC y) := cp
      have LJ : ∀ n os, cellsAt (grow (wo.drewN n) os) blk (off + (ip + 1) * 11) 11 = some (bdC x) := fun n os => (Grown.keeps ⟨n, os, rfl⟩).cellsAt cj'
      have LP : ∀ n os, cellsAt (grow (wo.drewN n) os) blk (off + ip * 11) 11 = some (bdC y) := fun n os => (Grown.keeps ⟨n, os, rfl⟩).cellsAt cp'
      have hai1 : (a : Int) < (ip : Int) + 1 := by omega
      have hai2 : decide ((a : Int) < (ip : Int) + 1) = true := decide_eq_true hai1
      have hain : decide (a < ip + 1) = true := decide_eq_true (by omega)
      have hw1 : IntKind.i64.wrap (ip : Int) = (ip : Int) := by rw [IntKind.wrap_i64]; omega
      have hin : (ip : Int) + 1 < (n : Int) := by omega
      have hin2 : (ip : Int) < (n : Int) := by omega
      have ht1 : ((ip : Int) + 1).toNat = ip + 1 := by omega
      have hp1 : (0 : Int) ≤ (ip : Int) + 1 := by omega
      clear cj cp hx hy hr hG
      go_wp2_with fail
      go_loopw [9] (fun q wr2 => q = .int .i64 ((ip : Int) + 1) ∧ wo = wr2) (fun _ _ => 0)
      case atStart => exact ⟨rfl, rfl⟩
      case round =>
        obtain ⟨rfl, rfl⟩ := hrel
        go_wp2_with fail
        go_quiet_grown (first | (go_at_call 51; refine Calls.grown_of (HC.out _)))
        go_wp2
        go_roundw
        case rel => exact ⟨ip + 1 + 1, by go_num, by omega, by omega, GR.out.trans ⟨_, _, rfl⟩⟩
        case measure => simp [intOf]; omega
    · have hlti : ¬ ((i : Int) < (b : Int)) := by omega
      clear hG
      go_wp2
      exact bodyPost_end (results_none rfl _ _ _) rfl ⟨rfl, GR.out⟩

/-- the comparison of two of the row: the later one does not come ahead -/
theorem RdB.pair (hR : RdOf cBd w (.slice (some ⟨blk, off, none⟩) l.length cap) l) (hs : SortedB l) {W : World} (hG : Grown w W) {i j : Nat} (hij : i < j) (hj : j < l.length) :
    ∃ x y : Bd, (∀ n os, cellsAt (grow (W.drewN n) os) blk (off + j * 11) 11 = some (bdC x)) ∧ (∀ n os, cellsAt (grow (W.drewN n) os) blk (off + i * 11) 11 = some (bdC y)) ∧
      ∃ r : Int, decide (r < 0) = false ∧ (∀ W', Calls Tryz.prog 51 #[bdV x, bdV y] W' fun e w' => e = .returned (.int .i64 r) ∧ Grown W' w') ∧ blk < W.heap.size := by
  have hi : i < l.length := by omega
  have cj := hG.keeps.cellsAt (RdOf.at cBd hR j hj)
  have cp := hG.keeps.cellsAt (RdOf.at cBd hR i hi)
  exact ⟨l[j], l[i], fun n os => (Grown.keeps ⟨n, os, rfl⟩).cellsAt cj, fun n os => (Grown.keeps ⟨n, os, rfl⟩).cellsAt cp, _, by rw [ncmp_lt]; exact hs.at hij hj, fun W' => cmpB_any W' l[j] l[i], block_lt_of_cell (cellsAt_cell cj 0 _ rfl)⟩

set_option maxRecDepth 100000 in
set_option maxHeartbeats 4000000 in
theorem symSorted_any (hR : RdOf cBd w (.slice (some ⟨blk, off, none⟩) l.length cap) l) (hs : SortedB l) (hbig : (l.length : Int) ≤ 1000000000) (f : Nat) : ∀ (a m b : Nat) (W : World), Grown w W → a < m → m < b → b ≤ l.length → b - a ≤ f →
    Calls Tryz.prog 109 #[.slice (some ⟨blk, off, none⟩) l.length cap, .int .i64 a, .int .i64 m, .int .i64 b, cmpF] W fun e w' => e = .returned (.tuple #[]) ∧ Grown W w' := by
  have HR := Lib.hid hR
  have HS := Lib.hid hs
  have mx := mixed
  obtain ⟨n, hn⟩ : ∃ n, n = l.length := ⟨_, rfl⟩
  have HN := Lib.hid hn
  rw [← hn] at hbig ⊢
  clear hR hs hn
  induction f with
  | zero => intro a m b W _ h1 h2 _ h3; omega
  | succ f ih =>
    intro a m b W hW ham hmb hbn hf
    have GW := Lib.hid hW
    have IH := Lib.hid ih
    have a0 : (0 : Int) ≤ (a : Int) := by omega
    have ami : (a : Int) < (m : Int) := by omega
    have mbi : (m : Int) < (b : Int) := by omega
    have bni : (b : Int) ≤ (n : Int) := by omega
    clear hW ih
    by_cases h1 : m - a = 1
    · have e1 : (m : Int) - (a : Int) = 1 := by omega
      go_enter Tryz.func109, Tryz.ntmps109
      go_wp2_with fail
      clear e1
      go_loopw [10, 11, 12] (fun qi qj _ wr => qi = .int .i64 m ∧ ∃ j : Nat, qj = .int .i64 j ∧ m ≤ j ∧ j ≤ b ∧ Grown W wr) (fun _ qj _ _ => (intOf qj).toNat - m)
      case atStart => exact ⟨rfl, b, rfl, by omega, Nat.le_refl _, Grown.same W⟩
      case round =>
        obtain ⟨rfl, j, rfl, hmj, hjb, hG⟩ := hrel
        obtain ⟨wo, hwo⟩ : ∃ x : World, x = wr := ⟨_, rfl⟩
        subst hwo
        have GR := Lib.hid hG
        by_cases hlt : m < j
        · obtain ⟨h, hh, hhe⟩ : ∃ h : Nat, ((m : Int) + (j : Int)) / 2 = (h : Int) ∧ h = (m + j) / 2 := ⟨(m + j) / 2, by omega, rfl⟩
          obtain ⟨x, y, LJ, LP, r, hr, HC, hblk⟩ := RdB.pair HR.out HS.out (GW.out.trans hG) (show a < h by omega) (by have := HN.out; omega)
          have HCC := Lib.hid HC
          have hlti : (m : Int) < (j : Int) := by omega
          have j1 : (j : Int) ≤ 1000000000 := by omega
          have hhn : (h : Int) < (n : Int) := by omega
          have hh0 : (0 : Int) ≤ (h : Int) := by omega
          have han : (a : Int) < (n : Int) := by omega
          have hmh : m ≤ h := by omega
          have hhj : h < j := by omega
          clear hG HC hhe
          go_wp2_with fail
          go_quiet_grown (first | (go_at_call 51; refine Calls.grown_of (HCC.out _)))
          go_wp2
          go_roundw
          case rel => exact ⟨rfl, h, by go_num, hmh, by omega, GR.out.trans ⟨_, _, rfl⟩⟩
          case measure => simp [intOf]; omega
        · have hjm : j = m := by omega
          subst hjm
          have hlti : ¬ ((j : Int) < (j : Int)) := by omega
          clear hG
          go_wp2_with fail
          go_loopw [13] (fun q wr2 => q = .int .i64 a ∧ wo = wr2) (fun _ _ => 0)
          case atStart => exact ⟨rfl, rfl⟩
          case round =>
            obtain ⟨rfl, rfl⟩ := hrel
            have hla : ¬ ((a : Int) < (j : Int) - 1) := by omega
            go_wp2
            exact bodyPost_ret (results_none rfl _ _ _) rfl ⟨rfl, GR.out⟩
    by_cases h2 : b - m = 1
    · have e0 : ¬ (m : Int) - (a : Int) = 1 := by omega
      have e1 : (b : Int) - (m : Int) = 1 := by omega
      go_enter Tryz.func109, Tryz.ntmps109
      have HE0 : Hid (((m : Int) - (a : Int) == 1) = false) := Lib.hid (by rw [beq_eq_false_iff_ne]; omega)
      go_wp2_with fail
      clear e0 e1
      try rw [HE0.out]
      go_loopw [14, 15, 16] (fun qi qj _ wr => qj = .int .i64 m ∧ ∃ j : Nat, qi = .int .i64 j ∧ a ≤ j ∧ j ≤ m ∧ Grown W wr) (fun qi _ _ _ => m - (intOf qi).toNat)
      case atStart => exact ⟨rfl, a, rfl, Nat.le_refl _, by omega, Grown.same W⟩
      case round =>
        obtain ⟨rfl, j, rfl, hmj, hjb, hG⟩ := hrel
        obtain ⟨wo, hwo⟩ : ∃ x : World, x = wr := ⟨_, rfl⟩
        subst hwo
        have GR := Lib.hid hG
        by_cases hlt : j < m
        · obtain ⟨h, hh, hhe⟩ : ∃ h : Nat, ((j : Int) + (m : Int)) / 2 = (h : Int) ∧ h = (j + m) / 2 := ⟨(j + m) / 2, by omega, rfl⟩
          obtain ⟨x, y, LJ, LP, r, hr, HC, hblk⟩ := RdB.pair HR.out HS.out (GW.out.trans hG) (show h < m by omega) (by have := HN.out; omega)
          have HCC := Lib.hid HC
          have hlti : (j : Int) < (m : Int) := by omega
          have j1 : (m : Int) ≤ 1000000000 := by omega
          have hhn : (h : Int) < (n : Int) := by omega
          have hh0 : (0 : Int) ≤ (h : Int) := by omega
          have han : (m : Int) < (n : Int) := by omega
          have hm0 : (0 : Int) ≤ (m : Int) := by omega
          have hmh : h < m := by omega
          have hhj : j ≤ h := by omega
          clear hG HC hhe
          go_wp2_with fail
          go_quiet_grown (first | (go_at_call 51; refine Calls.grown_of (HCC.out _)))
          go_wp2
          go_roundw
          case rel =>
            exact ⟨rfl, h + 1, by go_num, by omega, by omega, GR.out.trans ⟨_, _, rfl⟩⟩
          case measure => simp [intOf]; omega
        · have hjm : j = m := by omega
          subst hjm
          have hlti : ¬ ((j : Int) < (j : Int)) := by omega
          clear hG
          go_wp2_with fail
          go_loopw [17] (fun q wr2 => q = .int .i64 j ∧ wo = wr2) (fun _ _ => 0)
          case atStart => exact ⟨rfl, rfl⟩
          case round =>
            obtain ⟨rfl, rfl⟩ := hrel
            go_wp2
            exact bodyPost_ret (results_none rfl _ _ _) rfl ⟨rfl, GR.out⟩
    have e0 : ((m : Int) - (a : Int) == 1) = false := by rw [beq_eq_false_iff_ne]; omega
    have e1 : ((b : Int) - (m : Int) == 1) = false := by rw [beq_eq_false_iff_ne]; omega
    obtain ⟨d, hd, hde⟩ : ∃ d : Nat, ((a : Int) + (b : Int)) / 2 = (d : Int) ∧ d = (a + b) / 2 := ⟨(a + b) / 2, by omega, rfl⟩
    have HD : Hid (2 * d ≤ a + b ∧ a + b ≤ 2 * d + 1) := Lib.hid ⟨by omega, by omega⟩
    by_cases hmd : d < m
    · have hmdi : (d : Int) < (m : Int) := by omega
      have hab1 : (b : Int) ≤ 1000000000 := by omega
      have hda : a < d := by omega
      have hdb : d < b := by omega
      have hd0 : (0 : Int) ≤ (d : Int) := by omega
      obtain ⟨lo, hlo⟩ : ∃ k : Nat, (d : Int) + (m : Int) - (b : Int) = (k : Int) := ⟨d + m - b, by omega⟩
      have hlo2 : lo + b = d + m := by omega
      have hnm : (d : Int) + (m : Int) - (d : Int) = (m : Int) := by omega
      clear hde
      go_enter Tryz.func109, Tryz.ntmps109
      go_wp2_with fail
      clear e0 e1 hd hlo
      go_loopw [20, 21, 23] (fun qi qj _ wr => qj = .int .i64 d ∧ ∃ j : Nat, qi = .int .i64 j ∧ lo ≤ j ∧ j ≤ d ∧ Grown W wr) (fun qi _ _ _ => d - (intOf qi).toNat)
      case atStart => exact ⟨rfl, lo, rfl, Nat.le_refl _, by omega, Grown.same W⟩
      case round =>
        obtain ⟨rfl, j, rfl, hmj, hjb, hG⟩ := hrel
        obtain ⟨wo, hwo⟩ : ∃ x : World, x = wr := ⟨_, rfl⟩
        subst hwo
        have GR := Lib.hid hG
        by_cases hlt : j < d
        · have hD2 := HD.out
          obtain ⟨h, hh, hhe⟩ : ∃ h : Nat, ((j : Int) + (d : Int)) / 2 = (h : Int) ∧ h = (j + d) / 2 := ⟨(j + d) / 2, by omega, rfl⟩
          obtain ⟨k, hk⟩ : ∃ k : Nat, (d : Int) + (m : Int) - 1 - (h : Int) = (k : Int) := ⟨d + m - 1 - h, by omega⟩
          obtain ⟨x, y, LJ, LP, r, hr, HC, hblk⟩ := RdB.pair HR.out HS.out (GW.out.trans hG) (show h < k by omega) (by have := HN.out; omega)
          have HCC := Lib.hid HC
          have hlti : (j : Int) < (d : Int) := by omega
          have hhn : (h : Int) < (n : Int) := by omega
          have hkn : (k : Int) < (n : Int) := by omega
          have hh0 : (0 : Int) ≤ (h : Int) := by omega
          have hk0 : (0 : Int) ≤ (k : Int) := by omega
          have hkw : IntKind.i64.wrap (k : Int) = (k : Int) := by rw [IntKind.wrap_i64]; omega
          have hmh : h < d := by omega
          have hhj : j ≤ h := by omega
          clear hG HC hhe hD2
          go_wp2_with fail
          go_quiet_grown (first | (go_at_call 51; refine Calls.grown_of (HCC.out _)))
          go_wp2
          go_roundw
          case rel => exact ⟨rfl, h + 1, by go_num, by omega, by omega, GR.out.trans ⟨_, _, rfl⟩⟩
          case measure => simp [intOf]; omega
        · have hjm : j = d := by omega
          subst hjm
          have hlti : ¬ ((j : Int) < (j : Int)) := by omega
          clear hG
          go_wp2_with fail
          refine (IH.out j m b _ (GW.out.trans GR.out) (by omega) (by omega) (by omega) (by omega)).mono ?_
          rintro e w3 ⟨rfl, hg3⟩
          have G3 := Lib.hid (GR.out.trans hg3)
          clear hg3
          go_wp2
          exact bodyPost_end (results_none rfl _ _ _) rfl ⟨rfl, G3.out⟩
    · by_cases hmd2 : m < d
      · have hmdi : decide ((d : Int) < (m : Int)) = false := decide_eq_false (by omega)
        have hmdi2 : (m : Int) < (d : Int) := by omega
        have hab1 : (b : Int) ≤ 1000000000 := by omega
        have hdb : d < b := by omega
        have hd0 : (0 : Int) ≤ (d : Int) := by omega
        have hnm : (d : Int) + (m : Int) - (m : Int) = (d : Int) := by omega
        clear hde
        go_enter Tryz.func109, Tryz.ntmps109
        go_wp2_with fail
        clear e0 e1 hd
        go_loopw [20, 21, 23] (fun qi qj _ wr => qj = .int .i64 m ∧ ∃ j : Nat, qi = .int .i64 j ∧ a ≤ j ∧ j ≤ m ∧ Grown W wr) (fun qi _ _ _ => m - (intOf qi).toNat)
        case atStart => exact ⟨rfl, a, rfl, Nat.le_refl _, by omega, Grown.same W⟩
        case round =>
          obtain ⟨rfl, j, rfl, hmj, hjb, hG⟩ := hrel
          obtain ⟨wo, hwo⟩ : ∃ x : World, x = wr := ⟨_, rfl⟩
          subst hwo
          have GR := Lib.hid hG
          by_cases hlt : j < m
          · have hD2 := HD.out
            obtain ⟨h, hh, hhe⟩ : ∃ h : Nat, ((j : Int) + (m : Int)) / 2 = (h : Int) ∧ h = (j + m) / 2 := ⟨(j + m) / 2, by omega, rfl⟩
            obtain ⟨k, hk⟩ : ∃ k : Nat, (d : Int) + (m : Int) - 1 - (h : Int) = (k : Int) := ⟨d + m - 1 - h, by omega⟩
            obtain ⟨x, y, LJ, LP, r, hr, HC, hblk⟩ := RdB.pair HR.out HS.out (GW.out.trans hG) (show h < k by omega) (by have := HN.out; omega)
            have HCC := Lib.hid HC
            have hlti : (j : Int) < (m : Int) := by omega
            have hhn : (h : Int) < (n : Int) := by omega
            have hkn : (k : Int) < (n : Int) := by omega
            have hh0 : (0 : Int) ≤ (h : Int) := by omega
            have hk0 : (0 : Int) ≤ (k : Int) := by omega
            have hkw : IntKind.i64.wrap (k : Int) = (k : Int) := by rw [IntKind.wrap_i64]; omega
            have hmh : h < m := by omega
            have hhj : j ≤ h := by omega
            clear hG HC hhe hD2
            go_wp2_with fail
            go_quiet_grown (first | (go_at_call 51; refine Calls.grown_of (HCC.out _)))
            go_wp2
            go_roundw
            case rel => exact ⟨rfl, h + 1, by go_num, by omega, by omega, GR.out.trans ⟨_, _, rfl⟩⟩
            case measure => simp [intOf]; omega
          · have hjm : j = m := by omega
            subst hjm
            have hlti : ¬ ((j : Int) < (j : Int)) := by omega
            clear hG
            go_wp2_with fail
            refine (IH.out a j d _ (GW.out.trans GR.out) (by omega) (by omega) (by omega) (by omega)).mono ?_
            rintro e w3 ⟨rfl, hg3⟩
            have G3 := Lib.hid (GR.out.trans hg3)
            clear hg3
            go_wp2
            exact bodyPost_end (results_none rfl _ _ _) rfl ⟨rfl, G3.out⟩
      · have hmd3 : d = m := by omega
        subst hmd3
        have hab1 : (b : Int) ≤ 1000000000 := by omega
        have hdb : d < b := by omega
        have hd0 : (0 : Int) ≤ (d : Int) := by omega
        have hnm : (d : Int) + (d : Int) - (d : Int) = (d : Int) := by omega
        clear hde
        go_enter Tryz.func109, Tryz.ntmps109
        go_wp2_with fail
        clear e0 e1 hd
        go_loopw [20, 21, 23] (fun qi qj _ wr => qj = .int .i64 d ∧ ∃ j : Nat, qi = .int .i64 j ∧ a ≤ j ∧ j ≤ d ∧ Grown W wr) (fun qi _ _ _ => d - (intOf qi).toNat)
        case atStart => exact ⟨rfl, a, rfl, Nat.le_refl _, by omega, Grown.same W⟩
        case round =>
          obtain ⟨rfl, j, rfl, hmj, hjb, hG⟩ := hrel
          obtain ⟨wo, hwo⟩ : ∃ x : World, x = wr := ⟨_, rfl⟩
          subst hwo
          have GR := Lib.hid hG
          by_cases hlt : j < d
          · have hD2 := HD.out
            obtain ⟨h, hh, hhe⟩ : ∃ h : Nat, ((j : Int) + (d : Int)) / 2 = (h : Int) ∧ h = (j + d) / 2 := ⟨(j + d) / 2, by omega, rfl⟩
            obtain ⟨k, hk⟩ : ∃ k : Nat, (d : Int) + (d : Int) - 1 - (h : Int) = (k : Int) := ⟨d + d - 1 - h, by omega⟩
            obtain ⟨x, y, LJ, LP, r, hr, HC, hblk⟩ := RdB.pair HR.out HS.out (GW.out.trans hG) (show h < k by omega) (by have := HN.out; omega)
            have HCC := Lib.hid HC
            have hlti : (j : Int) < (d : Int) := by omega
            have hhn : (h : Int) < (n : Int) := by omega
            have hkn : (k : Int) < (n : Int) := by omega
            have hh0 : (0 : Int) ≤ (h : Int) := by omega
            have hk0 : (0 : Int) ≤ (k : Int) := by omega
            have hkw : IntKind.i64.wrap (k : Int) = (k : Int) := by rw [IntKind.wrap_i64]; omega
            have hmh : h < d := by omega
            have hhj : j ≤ h := by omega
            clear hG HC hhe hD2
            go_wp2_with fail
            go_quiet_grown (first | (go_at_call 51; refine Calls.grown_of (HCC.out _)))
            go_wp2
            go_roundw
            case rel => exact ⟨rfl, h + 1, by go_num, by omega, by omega, GR.out.trans ⟨_, _, rfl⟩⟩
            case measure => simp [intOf]; omega
          · have hjm : j = d := by omega
            subst hjm
            have hlti : ¬ ((j : Int) < (j : Int)) := by omega
            clear hG
            go_wp2
            exact bodyPost_end (results_none rfl _ _ _) rfl ⟨rfl, GR.out⟩
end
end Go.Proofs.YtcjeocibnfoenaaGreat
