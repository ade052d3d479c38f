/-
  slices.Delete of Outs and of Ins; copy of structs. No conditions of its own.
-/
import Derived.Test.YtggaeihinheojaaHoI
import Derived.Test.YtggaeihinheojaaHoX
namespace Go.Proofs.Ytggaeihinheojaa
open Go.RowKit

theorem rowsOf_cut {α : Type} (C : Codec α) (l : List α) (k : Nat) : rowsOf C (l.take k) ++ rowsOf C (l.drop (k + 1)) = rowsOf C (l.eraseIdx k) := by
  rw [← rowsOf_append, List.eraseIdx_eq_take_drop_succ]

set_option maxRecDepth 100000 in
set_option maxHeartbeats 1000000 in
theorem deleteOut (w : World) (base g cap k : Nat) (K1 : Int) (HK1 : K1 = (k : Int) + 1) (l : List Ou) (hown : OwnOf cOu 78 w base (.slice (some ⟨g, 0, none⟩) l.length cap) l) (hk : k < l.length) (hc : l.length ≤ cap) (hcm : cap ≤ maxLen) :
    Calls Try.prog 42 #[.slice (some ⟨g, 0, none⟩) l.length cap, .int .i64 k, .int .i64 K1] w fun e w' =>
      e = .returned (.slice (some ⟨g, 0, none⟩) (l.length - 1) cap) ∧ OwnOf cOu 78 w' base (.slice (some ⟨g, 0, none⟩) (l.length - 1) cap) (l.eraseIdx k) ∧ Keeps (Own g) w w' := by
  obtain ⟨i0, hi, hz0, hz1, hz2⟩ := info_parts Try.infoOu
  have hr : RdOf cOu w (.slice (some ⟨g, 0, none⟩) l.length cap) l := hown.reads
  unfold maxLen at hcm
  have hne : ((k : Int) == K1) = false := by simp; omega
  have e1 : K1.toNat = k + 1 := by omega
  have hel : (l.eraseIdx k).length = l.length - 1 := by rw [List.length_eraseIdx]; simp [hk]
  have h1 : (0 : Int) ≤ K1 := by omega
  have h2 : K1 ≤ l.length := by omega
  have h3 : ((k : Nat) : Int) ≤ K1 := by omega
  have h4 : ((k : Nat) : Int) ≤ (cap : Int) := by omega
  have h5 : 0 ≤ ((k : Nat) : Int) := by omega
  clear HK1
  obtain ⟨ao, hao⟩ : ∃ ao : Option Addr, (if cap = k + 1 then some (⟨g, 0, none⟩ : Addr) else some ⟨g, (k + 1) * 14, none⟩) = ao := ⟨_, rfl⟩
  have hsrc : Reads w 14 (.slice ao (l.length - (k + 1)) (cap - (k + 1))) (l.length - (k + 1)) (rowsOf cOu (l.drop (k + 1))) := by
    have := Reads.drop hr (m := k + 1) (by omega) ao (fun h => by rw [← hao, if_neg (by omega)]; simp [cOu]) (fun h => by rw [← hao] at h; split at h <;> cases h)
    rwa [rowsOf_drop] at this
  have hsub : w.ownsRow base 78 14 (.slice (some ⟨g, 0, none⟩) k cap) k (rowsOf cOu (l.take k)) := by
    have := ownsRow_shrink hown (k := k) (by omega)
    rwa [rowsOf_take] at this
  have hlen1 : (k + (l.length - (k + 1))) = l.length - 1 := by omega
  have H5 := Lib.hid hlen1
  have Hao := Lib.hid hao; clear hao hlen1
  have Hel := Lib.hid hel; clear hel
  go_enter Try.func42, Try.ntmps42
  go_wp2
  go_still_tail 6, (by kernel_rfl)
  rw [Hao.out]
  change wpList _ _ _ _ _ w.drew
  refine wpList_append_inplace rfl (.tmp 22) (.tmp 25) 24 rfl base 78 i0 14 Try.underlying24 hi hz1 g k cap (rowsOf cOu (l.take k)) rfl hsub _ _ _ rfl (hsrc.kept ((Keeps.refl (S := No) w).drew) (fun _ _ h => h)) (by omega) ?_
  intro w1 hown1 hk1
  rw [H5.out] at hown1 ⊢
  have hx : (k + (l.length - (k + 1))) * 14 = (l.length - 1) * 14 := by omega
  rw [rowsOf_cut] at hown1
  have h6 : ((l.length - 1 : Nat) : Int) ≤ (cap : Int) := by omega
  have h7 : ((l.length - 1 : Nat) : Int) ≤ (l.length : Int) := by omega
  have h8 : ((l.length : Nat) : Int) ≤ (cap : Int) := by omega
  have h9 : ¬ cap = l.length - 1 := by omega
  generalize hL1 : l.length - 1 = L1 at *
  have HL1 := Lib.hid hL1; clear hL1
  go_wp2_with (refine wpList_clear_row rfl (.tmp 31) 24 rfl 78 i0 _ Try.underlying24 hi hz0 14 rfl (by decide) base g L1 cap _ hown1 _ (L1 * 14) _ _ rfl ?c1 (Nat.le_refl _) ?c2 ?c3)
  case c2 => intro _; omega
  case c3 =>
    intro w2 hown2 hk2
    go_wp2
    go_ret
    refine ⟨by rw [HL1.out]; rfl, ?_, ?_⟩
    · show World.ownsRow _ _ _ _ (.slice (some ⟨g, 0, none⟩) (l.length - 1) cap) (l.eraseIdx k).length _
      rw [HL1.out, Hel.out]
      exact hown2
    exact (((Keeps.refl (S := Own g) w).drew).trans hk1 (fun _ _ h => h)).trans hk2 (fun _ _ h => h)

set_option maxRecDepth 100000 in
set_option maxHeartbeats 1000000 in
theorem deleteIn (w : World) (base g cap k : Nat) (K1 : Int) (HK1 : K1 = (k : Int) + 1) (l : List Inn) (hown : OwnOf cIn 89 w base (.slice (some ⟨g, 0, none⟩) l.length cap) l) (hk : k < l.length) (hc : l.length ≤ cap) (hcm : cap ≤ maxLen) :
    Calls Try.prog 46 #[.slice (some ⟨g, 0, none⟩) l.length cap, .int .i64 k, .int .i64 K1] w fun e w' =>
      e = .returned (.slice (some ⟨g, 0, none⟩) (l.length - 1) cap) ∧ OwnOf cIn 89 w' base (.slice (some ⟨g, 0, none⟩) (l.length - 1) cap) (l.eraseIdx k) ∧ Keeps (Own g) w w' := by
  obtain ⟨i0, hi, hz0, hz1, hz2⟩ := info_parts Try.infoIn
  have hr : RdOf cIn w (.slice (some ⟨g, 0, none⟩) l.length cap) l := hown.reads
  unfold maxLen at hcm
  have hne : ((k : Int) == K1) = false := by simp; omega
  have e1 : K1.toNat = k + 1 := by omega
  have hel : (l.eraseIdx k).length = l.length - 1 := by rw [List.length_eraseIdx]; simp [hk]
  have h1 : (0 : Int) ≤ K1 := by omega
  have h2 : K1 ≤ l.length := by omega
  have h3 : ((k : Nat) : Int) ≤ K1 := by omega
  have h4 : ((k : Nat) : Int) ≤ (cap : Int) := by omega
  have h5 : 0 ≤ ((k : Nat) : Int) := by omega
  clear HK1
  obtain ⟨ao, hao⟩ : ∃ ao : Option Addr, (if cap = k + 1 then some (⟨g, 0, none⟩ : Addr) else some ⟨g, (k + 1) * 13, none⟩) = ao := ⟨_, rfl⟩
  have hsrc : Reads w 13 (.slice ao (l.length - (k + 1)) (cap - (k + 1))) (l.length - (k + 1)) (rowsOf cIn (l.drop (k + 1))) := by
    have := Reads.drop hr (m := k + 1) (by omega) ao (fun h => by rw [← hao, if_neg (by omega)]; simp [cIn]) (fun h => by rw [← hao] at h; split at h <;> cases h)
    rwa [rowsOf_drop] at this
  have hsub : w.ownsRow base 89 13 (.slice (some ⟨g, 0, none⟩) k cap) k (rowsOf cIn (l.take k)) := by
    have := ownsRow_shrink hown (k := k) (by omega)
    rwa [rowsOf_take] at this
  have hlen1 : (k + (l.length - (k + 1))) = l.length - 1 := by omega
  have H5 := Lib.hid hlen1
  have Hao := Lib.hid hao; clear hao hlen1
  have Hel := Lib.hid hel; clear hel
  go_enter Try.func46, Try.ntmps46
  go_wp2
  go_still_tail 6, (by kernel_rfl)
  rw [Hao.out]
  change wpList _ _ _ _ _ w.drew
  refine wpList_append_inplace rfl (.tmp 22) (.tmp 25) 25 rfl base 89 i0 13 Try.underlying25 hi hz1 g k cap (rowsOf cIn (l.take k)) rfl hsub _ _ _ rfl (hsrc.kept ((Keeps.refl (S := No) w).drew) (fun _ _ h => h)) (by omega) ?_
  intro w1 hown1 hk1
  rw [H5.out] at hown1 ⊢
  have hx : (k + (l.length - (k + 1))) * 13 = (l.length - 1) * 13 := by omega
  rw [rowsOf_cut] at hown1
  have h6 : ((l.length - 1 : Nat) : Int) ≤ (cap : Int) := by omega
  have h7 : ((l.length - 1 : Nat) : Int) ≤ (l.length : Int) := by omega
  have h8 : ((l.length : Nat) : Int) ≤ (cap : Int) := by omega
  have h9 : ¬ cap = l.length - 1 := by omega
  generalize hL1 : l.length - 1 = L1 at *
  have HL1 := Lib.hid hL1; clear hL1
  go_wp2_with (refine wpList_clear_row rfl (.tmp 31) 25 rfl 89 i0 _ Try.underlying25 hi hz0 13 rfl (by decide) base g L1 cap _ hown1 _ (L1 * 13) _ _ rfl ?c1 (Nat.le_refl _) ?c2 ?c3)
  case c2 => intro _; omega
  case c3 =>
    intro w2 hown2 hk2
    go_wp2
    go_ret
    refine ⟨by rw [HL1.out]; rfl, ?_, ?_⟩
    · show World.ownsRow _ _ _ _ (.slice (some ⟨g, 0, none⟩) (l.length - 1) cap) (l.eraseIdx k).length _
      rw [HL1.out, Hel.out]
      exact hown2
    exact (((Keeps.refl (S := Own g) w).drew).trans hk1 (fun _ _ h => h)).trans hk2 (fun _ _ h => h)

end Go.Proofs.Ytggaeihinheojaa
