/-
  The document's Next, under, word, and the comparisons of Outs and Ins. No conditions of its own.
-/
import Derived.Test.YtggaeihinheojaaHoK
namespace Go.Proofs.Ytggaeihinheojaa
open Go.RowKit

set_option maxHeartbeats 1000000 in
theorem sameOuts (w : World) (u v : Value) (l : List Ou) (hu : RdOf cOu w u l) (hv : RdOf cOu w v l) :
    Calls Try.prog 49 #[u, v] w fun e w' => e = .returned (.bool true) ∧ ∃ m, w' = w.drewN m := by
  obtain ⟨a, c, rfl⟩ := hu.slice
  obtain ⟨a', c', rfl⟩ := hv.slice
  have hlen := RdOf.len cOu hu
  unfold maxLen at hlen
  go_enter Try.func49, Try.ntmps49
  go_wp2
  go_loopw [5] (fun i wr => ∃ k : Nat, k ≤ l.length ∧ i = .int .i64 k ∧ ∃ m, wr = w.drewN m) (fun i _ => l.length - (intOf i).toNat)
  case atStart => exact ⟨0, Nat.zero_le _, rfl, 0, rfl⟩
  case round =>
    obtain ⟨k, hk, rfl, m, rfl⟩ := hrel
    by_cases hlt : k < l.length
    · obtain ⟨b, off, rfl, _, _, hb⟩ := RdOf.addr cOu hu (by omega)
      obtain ⟨b', off', rfl, _, _, hb'⟩ := RdOf.addr cOu hv (by omega)
      have g0 : cellsAt w b (off + k * 14) 14 = some (ouC l[k]) := RdOf.at cOu hu k hlt
      have g1 : cellsAt w b' (off' + k * 14) 14 = some (ouC l[k]) := RdOf.at cOu hv k hlt
      have hi0 : (0 : Int) ≤ (k : Int) := by omega
      have hi1 : (k : Int) < (l.length : Int) := by omega
      go_wp2
      go_quiet (fail)
      go_wp2
      exact ⟨⟨k + 1, by omega, by go_num, _, rfl⟩, by simp [intOf]; omega⟩
    · go_wp2
      go_ret
      exact ⟨rfl, m, rfl⟩

set_option maxHeartbeats 1000000 in
theorem sameIns (w : World) (u v : Value) (l : List Inn) (hu : RdOf cIn w u l) (hv : RdOf cIn w v l) :
    Calls Try.prog 50 #[u, v] w fun e w' => e = .returned (.bool true) ∧ ∃ m, w' = w.drewN m := by
  obtain ⟨a, c, rfl⟩ := hu.slice
  obtain ⟨a', c', rfl⟩ := hv.slice
  have hlen := RdOf.len cIn hu
  unfold maxLen at hlen
  go_enter Try.func50, Try.ntmps50
  go_wp2
  go_loopw [5] (fun i wr => ∃ k : Nat, k ≤ l.length ∧ i = .int .i64 k ∧ ∃ m, wr = w.drewN m) (fun i _ => l.length - (intOf i).toNat)
  case atStart => exact ⟨0, Nat.zero_le _, rfl, 0, rfl⟩
  case round =>
    obtain ⟨k, hk, rfl, m, rfl⟩ := hrel
    by_cases hlt : k < l.length
    · obtain ⟨b, off, rfl, _, _, hb⟩ := RdOf.addr cIn hu (by omega)
      obtain ⟨b', off', rfl, _, _, hb'⟩ := RdOf.addr cIn hv (by omega)
      have g0 : cellsAt w b (off + k * 13) 13 = some (inC l[k]) := RdOf.at cIn hu k hlt
      have g1 : cellsAt w b' (off' + k * 13) 13 = some (inC l[k]) := RdOf.at cIn hv k hlt
      have hi0 : (0 : Int) ≤ (k : Int) := by omega
      have hi1 : (k : Int) < (l.length : Int) := by omega
      go_wp2
      go_quiet (fail)
      go_wp2
      exact ⟨⟨k + 1, by omega, by go_num, _, rfl⟩, by simp [intOf]; omega⟩
    · go_wp2
      go_ret
      exact ⟨rfl, m, rfl⟩

section
variable {w : World} {ep t nx : Int} {own dead outs ins gh : Value}

set_option maxRecDepth 100000 in
set_option maxHeartbeats 2000000 in
theorem rnext_any {l : List Ou} (hv : RdOf cOu w outs l) (hl : l.length ≤ 1000) (hn : Hid (nx < 1099511627776 → wrap64 (nx + 1) = nx + 1)) :
    Calls Try.prog 18 #[stV ep t own dead outs ins gh nx] w fun e w' => e = .returned (.tuple #[.int .i64 (bif mayNext l nx then nx + 1 else 0), .bool (mayNext l nx)]) ∧ Keeps No w w' := by
  obtain ⟨va, vc, rfl⟩ := hv.slice
  have Hl := Lib.hid hl; clear hl
  have hu0 : Hid (underOf (l.take 0) = 0 ∧ keptOf (l.take 0) = false) := ⟨rfl, rfl⟩
  go_enter Try.func18, Try.ntmps18
  go_wp2
  go_loop [4, 5, 6] (fun u kp i => ∃ k : Nat, k ≤ l.length ∧ i = .int .i64 k ∧ u = .int .i64 (underOf (l.take k)) ∧ kp = .bool (keptOf (l.take k))) (fun _ _ i => l.length - (intOf i).toNat)
  case atStart => exact ⟨0, Nat.zero_le _, rfl, by rw [hu0.out.1]; rfl, by rw [hu0.out.2]⟩
  case round =>
    clear hu0
    obtain ⟨k, hk, rfl, rfl, rfl⟩ := hrel
    have hle := underOf_le l k
    generalize hU : underOf (l.take k) = U at *
    generalize hK : keptOf (l.take k) = K at *
    by_cases hlt : k < l.length
    · obtain ⟨g, off, rfl, hc1, hc2, hg⟩ := RdOf.addr cOu hv (by omega)
      have g0 : cellsAt w g (off + k * 14) 14 = some (ouC l[k]) := RdOf.at cOu hv k hlt
      have g2 : w.cell? ⟨g, off + k * 14 + 2, none⟩ = some (.int .i64 l[k].st) := cellsAt_cell g0 2 _ rfl
      clear hc1 hc2 g0
      have hu := underOf_next l k hlt
      have hkk := keptOf_next l k hlt
      rw [hU] at hu
      rw [hK] at hkk
      have Hu := Lib.hid hu; have Hkk := Lib.hid hkk
      have HU := Lib.hid hU; have HK := Lib.hid hK
      clear hu hkk hU hK
      have hkb : (k : Int) ≤ 999 := by have := Hl.out; omega
      have hUb : (U : Int) ≤ 999 := by omega
      have hik : Hid (isKept l[k] = (l[k].st == 1)) := rfl
      cases h1 : (l[k].st == 1)
      · go_wp2
        go_round
        case rel => exact ⟨k + 1, by omega, by go_num, by rw [Hu.out, hik.out, h1]; go_num, by rw [Hkk.out, hik.out, h1, Bool.or_false]⟩
        case measure => simp [intOf]; omega
      · go_wp2
        go_round
        case rel => exact ⟨k + 1, by omega, by go_num, by rw [Hu.out, hik.out, h1]; go_num, by rw [Hkk.out, hik.out, h1, Bool.or_true]⟩
        case measure => simp [intOf]; omega
    · obtain rfl : k = l.length := by omega
      rw [List.take_length] at hU hK
      have HM : Hid (mayNext l nx = (K && (decide ((U : Int) < 4) && decide (nx < 1099511627776)))) := by show _ = _; unfold mayNext; rw [hU, hK]
      clear hU hK
      cases K
      · go_wp2
        go_ret2
        exact ⟨by rw [HM.out]; rfl, (Keeps.refl _).alloc _⟩
      · cases h2 : decide ((U : Int) < 4)
        · have h2' : decide ((4 : Int) ≤ (U : Int)) = true := by simp at h2 ⊢; omega
          go_wp2
          go_ret2
          exact ⟨by rw [HM.out, h2]; rfl, (Keeps.refl _).alloc _⟩
        · have h2' : decide ((4 : Int) ≤ (U : Int)) = false := by simp at h2 ⊢; omega
          cases h3 : decide (nx < 1099511627776)
          · have h3' : decide ((1099511627776 : Int) ≤ nx) = true := by simp at h3 ⊢; omega
            go_wp2
            go_ret2
            exact ⟨by rw [HM.out, h2, h3]; rfl, (Keeps.refl _).alloc _⟩
          · have h3' : decide ((1099511627776 : Int) ≤ nx) = false := by simp at h3 ⊢; omega
            have hwr : wrap64 (nx + 1) = nx + 1 := hn.out (of_decide_eq_true h3)
            go_wp2
            go_ret2
            exact ⟨by rw [HM.out, h2, h3]; rfl, (Keeps.refl _).alloc _⟩

set_option maxHeartbeats 1000000 in
theorem under_any {l : List Ou} (hv : RdOf cOu w outs l) (n : Int) : Calls Try.prog 47 #[stV ep t own dead outs ins gh nx, .int .i64 n] w fun e w' => e = .returned (.int .i64 (firstOf (tellPr n) l)) ∧ Keeps No w w' := by
  obtain ⟨va, vc, rfl⟩ := hv.slice
  have hlen := RdOf.len cOu hv
  unfold maxLen at hlen
  go_enter Try.func47, Try.ntmps47
  go_wp2
  go_loop [5] (fun i => ∃ k : Nat, k ≤ l.length ∧ i = .int .i64 k ∧ (∀ j, (h : j < k) → (h2 : j < l.length) → tellPr n l[j] = false)) (fun i => l.length - (intOf i).toNat)
  case atStart => exact ⟨0, Nat.zero_le _, rfl, fun j h => absurd h (Nat.not_lt_zero _)⟩
  case round =>
    obtain ⟨k, hk, rfl, hno⟩ := hrel
    have Hno := Lib.hid hno; clear hno
    by_cases hlt : k < l.length
    · obtain ⟨g, off, rfl, hc1, hc2, hg⟩ := RdOf.addr cOu hv (by omega)
      have g0 : cellsAt w g (off + k * 14) 14 = some (ouC l[k]) := RdOf.at cOu hv k hlt
      have ga : w.cell? ⟨g, off + k * 14, none⟩ = some (.int .i64 l[k].n) := cellsAt_cell g0 0 _ rfl
      have gb : w.cell? ⟨g, off + k * 14 + 2, none⟩ = some (.int .i64 l[k].st) := cellsAt_cell g0 2 _ rfl
      clear hc1 hc2 g0
      have hp : Hid (tellPr n l[k] = (l[k].n == n && !(l[k].st == 1))) := rfl
      have hnxt : Hid (tellPr n l[k] = false → ∀ j, (h : j < k + 1) → (h2 : j < l.length) → tellPr n l[j] = false) := fun hp j h h2 => by
        by_cases hj : j < k
        · exact Hno.out j hj h2
        · obtain rfl : j = k := by omega
          exact hp
      cases h1 : (l[k].n == n)
      · have Hno' := Lib.hid (hnxt.out (by rw [hp.out, h1]; rfl))
        go_wp2
        go_round
        case rel => exact ⟨k + 1, by omega, by go_num, Hno'.out⟩
        case measure => simp [intOf]; omega
      · cases h2 : (l[k].st == 1)
        · have h2' : (l[k].st != 1) = true := by unfold bne; rw [h2]; rfl
          have hfin : Hid (firstOf (tellPr n) l = k) := firstOf_at _ l k hlt Hno.out (by rw [hp.out, h1, h2]; rfl)
          go_wp2
          go_ret
          exact ⟨by rw [hfin.out]; rfl, (Keeps.refl _).alloc _⟩
        · have h2' : (l[k].st != 1) = false := by unfold bne; rw [h2]; rfl
          have Hno' := Lib.hid (hnxt.out (by rw [hp.out, h1, h2]; rfl))
          go_wp2
          go_round
          case rel => exact ⟨k + 1, by omega, by go_num, Hno'.out⟩
          case measure => simp [intOf]; omega
    · have hfin : Hid (firstOf (tellPr n) l = -1) := firstOf_none _ l (fun j hj => Hno.out j (by omega) hj)
      go_wp2
      go_ret
      exact ⟨by rw [hfin.out]; rfl, (Keeps.refl _).alloc _⟩

set_option maxRecDepth 100000 in
set_option maxHeartbeats 1000000 in
theorem word_2 (o : Ou) (h : (o.st == 2) = true) (w : World) : Calls Try.prog 48 #[.agg (ouC o).toArray] w fun e w' => ∃ gw, e = .returned (msgIn 7 0 o.n (.slice none 0 0) (.slice (some ⟨gw, 0, none⟩) 1 1) (.slice none 0 0)) ∧ w.heap.size ≤ gw ∧ RdOf cBd w' (.slice (some ⟨gw, 0, none⟩) 1 1) [o.b] ∧ Keeps No w w' := by
  go_enter Try.func48, Try.ntmps48
  go_wp2
  refine bodyPost_ret (v := msgIn 7 0 o.n (.slice none 0 0) (.slice (some ⟨w.heap.size + 1 + 1, 0, none⟩) 1 1) (.slice none 0 0)) (by simp [results, Try.results48, go_sem]) rfl ⟨w.heap.size + 1 + 1, rfl, by omega, ?_, (((Keeps.refl _).alloc _).alloc _).alloc _⟩
  have hr := fun (A B : Obj) => rdOne cBd ((w.alloc A).alloc B) 37 o.b
  simp only [World.size_alloc] at hr
  exact hr _ _
set_option maxRecDepth 100000 in
set_option maxHeartbeats 1000000 in
theorem word_9 (o : Ou) (h : (o.st == 2) = false) (w : World) : Calls Try.prog 48 #[.agg (ouC o).toArray] w fun e w' => e = .returned (msgV 9 o.n) ∧ Keeps No w w' := by
  go_enter Try.func48, Try.ntmps48
  go_wp2
  exact bodyPost_ret (v := msgV 9 o.n) (by simp [results, Try.results48, go_sem]) rfl ⟨rfl, ((Keeps.refl _).alloc _).alloc _⟩

end
end Go.Proofs.Ytggaeihinheojaa
