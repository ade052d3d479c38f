/-
  The names of segments, as plain lists: eight digits; their order; a name's number. No conditions of its own.
-/
import Derived.Test.YtghamhipcpgofaaGreatDoorWaO
namespace Go.Proofs.YtghamhipcpgofaaGreatDoor
open Go.RowKit

/-- a number in so many digits -/
def dgs : Nat → Nat → Nm
  | 0, _ => []
  | k + 1, n => dgs k (n / 10) ++ [UInt8.ofNat (48 + n % 10)]
theorem dgs_length : ∀ k n : Nat, (dgs k n).length = k
  | 0, _ => rfl
  | k + 1, n => by unfold dgs; rw [List.length_append, dgs_length k]; rfl
theorem repeat_one (m : Nat) : Lib.repeatL [48] m = List.replicate m 48 := by
  induction m with
  | zero => rfl
  | succ m ih => rw [Lib.repeatL, ih, List.replicate_succ]; rfl
theorem dgs_pad : ∀ (k n : Nat), 1 ≤ k → n < 10 ^ k → (Lib.decDigits n).length ≤ k ∧ List.replicate (k - (Lib.decDigits n).length) 48 ++ Lib.decDigits n = dgs k n
  | 0, _, h, _ => by omega
  | 1, n, _, h => by
    have h1 : n < 10 := by simpa using h
    rw [Lib.decDigits_one h1]
    refine ⟨Nat.le_refl _, ?_⟩
    simp [dgs, Nat.mod_eq_of_lt h1]
  | k + 2, n, _, h => by
    by_cases h1 : n < 10
    · obtain ⟨_, ih⟩ := dgs_pad (k + 1) 0 (by omega) (Nat.pow_pos (by omega))
      rw [Lib.decDigits_one (by omega : (0 : Nat) < 10)] at ih
      rw [Lib.decDigits_one h1]
      refine ⟨by simp, ?_⟩
      have e : n / 10 = 0 := by omega
      have e2 : n % 10 = n := by omega
      rw [dgs, e, ← ih, e2]
      simp only [List.length_cons, List.length_nil, Nat.zero_add]
      rw [show k + 2 - 1 = k + 1 - 1 + 1 by omega, List.replicate_succ']
      rfl
    · have h10 : n / 10 < 10 ^ (k + 1) := by
        rw [Nat.div_lt_iff_lt_mul (by omega)]
        rw [Nat.pow_succ] at h
        exact h
      obtain ⟨hl, ih⟩ := dgs_pad (k + 1) (n / 10) (by omega) h10
      rw [Lib.decDigits, dif_neg h1]
      refine ⟨by rw [List.length_append]; simp; omega, ?_⟩
      rw [dgs, ← ih, List.length_append]
      simp only [List.length_cons, List.length_nil, Nat.zero_add]
      rw [show k + 2 - ((Lib.decDigits (n / 10)).length + 1) = k + 1 - (Lib.decDigits (n / 10)).length by omega, List.append_assoc]
theorem segNm_dgs (name : Nm) {n : Nat} (h : n < 100000000) : segNm name n = name ++ [46] ++ dgs 8 n := by
  unfold segNm
  rw [Lib.itoa_nonneg, repeat_one, List.append_assoc, (dgs_pad 8 n (by omega) (by simpa using h)).2]

theorem bb_same : ∀ (x u v : Nm), bytesBefore (x ++ u) (x ++ v) = bytesBefore u v
  | [], _, _ => rfl
  | a :: x, u, v => by
    simp only [List.cons_append, bytesBefore, bb_same x u v]
    simp
theorem bb_head : ∀ (x y u v : Nm), x.length = y.length → bytesBefore x y = true → bytesBefore (x ++ u) (y ++ v) = true
  | [], [], _, _, _, h => by simp [bytesBefore] at h
  | a :: x, b :: y, u, v, hl, h => by
    simp only [List.cons_append, bytesBefore, Bool.or_eq_true, Bool.and_eq_true] at h ⊢
    rcases h with h | ⟨h1, h2⟩
    · exact .inl h
    · exact .inr ⟨h1, bb_head x y u v (by simpa using hl) h2⟩
theorem digit_lt {a b : Nat} (h : a < b) (hb : b < 10) : (UInt8.ofNat (48 + a) < UInt8.ofNat (48 + b)) := by
  have : ∀ (a b : Fin 10), a < b → UInt8.ofNat (48 + a.1) < UInt8.ofNat (48 + b.1) := by decide
  exact this ⟨a, by omega⟩ ⟨b, hb⟩ h
theorem dgs_before : ∀ (k a b : Nat), a < b → b < 10 ^ k → bytesBefore (dgs k a) (dgs k b) = true
  | 0, a, b, h, hb => by simp at hb; omega
  | k + 1, a, b, h, hb => by
    unfold dgs
    have h10 : b / 10 < 10 ^ k := by
      rw [Nat.div_lt_iff_lt_mul (by omega)]
      rw [Nat.pow_succ] at hb
      exact hb
    by_cases he : a / 10 = b / 10
    · rw [he, bb_same]
      have hd := digit_lt (a := a % 10) (b := b % 10) (by omega) (by omega)
      unfold bytesBefore
      rw [decide_eq_true hd]
      rfl
    · exact bb_head _ _ _ _ (by rw [dgs_length, dgs_length]) (dgs_before k _ _ (by omega) h10)
theorem segNm_before (name : Nm) {a b : Nat} (h : a < b) (hb : b < 100000000) : bytesBefore (segNm name a) (segNm name b) = true := by
  rw [segNm_dgs name (by omega : a < 100000000), segNm_dgs name hb, bb_same]
  exact dgs_before 8 a b h (by simpa using hb)
theorem dgs_read : ∀ (k n acc : Nat), n < 10 ^ k → Lib.decFrom acc (dgs k n) = some (acc * 10 ^ k + n)
  | 0, n, acc, h => by simp at h; subst h; simp [dgs, Lib.decFrom]
  | k + 1, n, acc, h => by
    have h10 : n / 10 < 10 ^ k := by
      rw [Nat.div_lt_iff_lt_mul (by omega)]
      rw [Nat.pow_succ] at h
      exact h
    have snoc : ∀ (l : Nm) (a m : Nat) (c : UInt8) (d : Nat), Lib.decFrom a l = some m → Lib.digitVal c = some d → Lib.decFrom a (l ++ [c]) = some (m * 10 + d) := by
      intro l
      induction l with
      | nil => intro a m c d h hd; simp [Lib.decFrom] at h; subst h; simp [Lib.decFrom, hd]
      | cons x l ih =>
        intro a m c d h hd
        simp only [List.cons_append, Lib.decFrom] at h ⊢
        cases hx : Lib.digitVal x with
        | none => rw [hx] at h; cases h
        | some y => rw [hx] at h; exact ih _ _ _ _ h hd
    have hd : Lib.digitVal (UInt8.ofNat (48 + n % 10)) = some (n % 10) := by
      have : ∀ j : Fin 10, Lib.digitVal (UInt8.ofNat (48 + j.1)) = some j.1 := by decide
      exact this ⟨n % 10, by omega⟩
    unfold dgs
    rw [snoc _ _ _ _ _ (dgs_read k (n / 10) acc h10) hd, Nat.pow_succ, Nat.add_mul, Nat.mul_assoc]
    congr 1
    omega
theorem segOf_segNm (name : Nm) {n : Nat} (h : n < 100000000) : segOf name (segNm name n) = some n := by
  rw [segNm_dgs name h]
  unfold segOf
  have hp : Lib.hasPrefix (name ++ [46] ++ dgs 8 n) (name ++ [46]) = true := by simp [Lib.hasPrefix]
  have ht : Lib.trimPrefix (name ++ [46] ++ dgs 8 n) (name ++ [46]) = dgs 8 n := by unfold Lib.trimPrefix; rw [hp]; simp
  rw [hp, ht, cond_true, dgs_length, decide_eq_true rfl, cond_true]
  unfold Lib.decNat
  have hne : (dgs 8 n).isEmpty = false := by
    have := dgs_length 8 n
    cases h2 : dgs 8 n with
    | nil => rw [h2] at this; cases this
    | cons _ _ => rfl
  rw [hne, dgs_read 8 n 0 (by simpa using h)]
  simp
theorem fileNm_inj {name : ByteArray} {a b : Nat} (ha : a < 100000000) (hb : b < 100000000) (h : segNm name.data.toList a = segNm name.data.toList b) : a = b := by
  have h1 := segOf_segNm name.data.toList ha
  rw [h, segOf_segNm _ hb] at h1
  exact (Option.some.inj h1).symm
theorem segNm_length (name : Nm) {n : Nat} (h : n < 100000000) : (segNm name n).length = name.length + 9 := by
  rw [segNm_dgs name h, List.length_append, List.length_append, dgs_length]; rfl
end Go.Proofs.YtghamhipcpgofaaGreatDoor
