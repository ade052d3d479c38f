/-
  Entities, commands and worlds as plain data; their masks. Plain Lean. No conditions of its own.
-/
import Derived.Test.YtcjeocibnfoenaaGreatRowsOf
import Derived.Laws.BitsAllLaws
namespace Go.Proofs.YtcjeocibnfoenaaGreat
open Go.RowKit

/-- An entity: its name, and its components. -/
structure Bd where
  s : Int
  i : Int
  g : Int
  m : Int
  x : Int
  y : Int
  vx : Int
  vy : Int
  hp : Int
  pw : Int
  lf : Int
def Bd.zero : Bd := ⟨0, 0, 0, 0, 0, 0, 0, 0, 0, 0, 0⟩
/-- A name. -/
structure Nam where
  s : Int
  i : Int
  g : Int
def Bd.id (b : Bd) : Nam := ⟨b.s, b.i, b.g⟩
/-- A command. -/
structure Cm where
  k : Int
  s : Int
  i : Int
  g : Int
  b : Bd
  m : Int
def Cm.id (c : Cm) : Nam := ⟨c.s, c.i, c.g⟩
/-- What an entity takes. -/
structure Ht where
  s : Int
  i : Int
  g : Int
  n : Int
def Ht.id (h : Ht) : Nam := ⟨h.s, h.i, h.g⟩
/-- A world's numbers. -/
structure Cf where
  cols : Int
  rows : Int
  side : Int
  radius : Int
  speed : Int
  ids : Int
  queue : Int
abbrev bdC (b : Bd) : List Value := [.int .i64 b.s, .int .i64 b.i, .int .i64 b.g, .int .i64 b.m, .int .i64 b.x, .int .i64 b.y, .int .i64 b.vx, .int .i64 b.vy, .int .i64 b.hp, .int .i64 b.pw, .int .i64 b.lf]
abbrev namC (b : Nam) : List Value := [.int .i64 b.s, .int .i64 b.i, .int .i64 b.g]
abbrev cmC (c : Cm) : List Value := [.int .i64 c.k, .int .i64 c.s, .int .i64 c.i, .int .i64 c.g, .int .i64 c.b.s, .int .i64 c.b.i, .int .i64 c.b.g, .int .i64 c.b.m, .int .i64 c.b.x, .int .i64 c.b.y, .int .i64 c.b.vx, .int .i64 c.b.vy, .int .i64 c.b.hp, .int .i64 c.b.pw, .int .i64 c.b.lf, .int .i64 c.m]
abbrev htC (h : Ht) : List Value := [.int .i64 h.s, .int .i64 h.i, .int .i64 h.g, .int .i64 h.n]
abbrev cfC (c : Cf) : List Value := [.int .i64 c.cols, .int .i64 c.rows, .int .i64 c.side, .int .i64 c.radius, .int .i64 c.speed, .int .i64 c.ids, .int .i64 c.queue]
def cBd : Codec Bd := ⟨bdC, 11, fun _ => rfl, fun a u h => by simp [bdC] at h; rcases h with rfl | rfl | rfl | rfl | rfl | rfl | rfl | rfl | rfl | rfl | rfl <;> rfl, by decide⟩
def cNam : Codec Nam := ⟨namC, 3, fun _ => rfl, fun a u h => by simp [namC] at h; rcases h with rfl | rfl | rfl <;> rfl, by decide⟩
def cCm : Codec Cm := ⟨cmC, 16, fun _ => rfl, fun a u h => by simp [cmC] at h; rcases h with rfl | rfl | rfl | rfl | rfl | rfl | rfl | rfl | rfl | rfl | rfl | rfl | rfl | rfl | rfl | rfl <;> rfl, by decide⟩
def cHt : Codec Ht := ⟨htC, 4, fun _ => rfl, fun a u h => by simp [htC] at h; rcases h with rfl | rfl | rfl | rfl <;> rfl, by decide⟩

/-- a number as the machine has it -/
def i64 (n : Int) : Prop := -9223372036854775808 ≤ n ∧ n ≤ 9223372036854775807
structure Bd.ok (b : Bd) : Prop where
  s : i64 b.s
  i : i64 b.i
  g : i64 b.g
  m : i64 b.m
  x : i64 b.x
  y : i64 b.y
  vx : i64 b.vx
  vy : i64 b.vy
  hp : i64 b.hp
  pw : i64 b.pw
  lf : i64 b.lf
structure Cm.ok (c : Cm) : Prop where
  k : i64 c.k
  s : i64 c.s
  i : i64 c.i
  g : i64 c.g
  b : c.b.ok
  m : i64 c.m

/-! ### names -/
def nlt (a b : Nam) : Bool := decide (a.s < b.s) || (decide (a.s = b.s) && (decide (a.i < b.i) || (decide (a.i = b.i) && decide (a.g < b.g))))
def neq (a b : Nam) : Bool := decide (a.s = b.s) && (decide (a.i = b.i) && decide (a.g = b.g))
def cmpI (a b : Int) : Int := bif decide (a < b) then -1 else bif decide (b < a) then 1 else 0
/-- as cmp.Or does it -/
def or3 (a b c : Int) : Int := bif a == 0 then (bif b == 0 then c else b) else a
def ncmp (a b : Nam) : Int := or3 (cmpI a.s b.s) (cmpI a.i b.i) (cmpI a.g b.g)
theorem cmpI_lt {a b : Int} (h : a < b) : cmpI a b = -1 := by unfold cmpI; rw [decide_eq_true h]; rfl
theorem cmpI_gt {a b : Int} (h : b < a) : cmpI a b = 1 := by unfold cmpI; rw [decide_eq_false (by omega), decide_eq_true h]; rfl
theorem cmpI_eq (a : Int) : cmpI a a = 0 := by unfold cmpI; rw [decide_eq_false (by omega)]; rfl
theorem ncmp_lt (a b : Nam) : decide (ncmp a b < 0) = nlt a b := by
  unfold ncmp nlt
  rcases Int.lt_trichotomy a.s b.s with h | h | h
  · rw [cmpI_lt h, decide_eq_true h]; rfl
  · rw [h, cmpI_eq, decide_eq_false (by omega : ¬ b.s < b.s), decide_eq_true rfl]
    rcases Int.lt_trichotomy a.i b.i with h | h | h
    · rw [cmpI_lt h, decide_eq_true h]; rfl
    · rw [h, cmpI_eq, decide_eq_false (by omega : ¬ b.i < b.i), decide_eq_true rfl]
      rcases Int.lt_trichotomy a.g b.g with h | h | h
      · rw [cmpI_lt h, decide_eq_true h]; rfl
      · rw [h, cmpI_eq, decide_eq_false (by omega : ¬ b.g < b.g)]; rfl
      · rw [cmpI_gt h, decide_eq_false (by omega : ¬ a.g < b.g)]; rfl
    · rw [cmpI_gt h, decide_eq_false (by omega : ¬ a.i < b.i), decide_eq_false (by omega : ¬ a.i = b.i)]; rfl
  · rw [cmpI_gt h, decide_eq_false (by omega : ¬ a.s < b.s), decide_eq_false (by omega : ¬ a.s = b.s)]; rfl
theorem ncmp_eq (a b : Nam) : decide (ncmp a b = 0) = neq a b := by
  unfold ncmp neq
  rcases Int.lt_trichotomy a.s b.s with h | h | h
  · rw [cmpI_lt h, decide_eq_false (by omega : ¬ a.s = b.s)]; rfl
  · rw [h, cmpI_eq, decide_eq_true rfl]
    rcases Int.lt_trichotomy a.i b.i with h | h | h
    · rw [cmpI_lt h, decide_eq_false (by omega : ¬ a.i = b.i)]; rfl
    · rw [h, cmpI_eq, decide_eq_true rfl]
      rcases Int.lt_trichotomy a.g b.g with h | h | h
      · rw [cmpI_lt h, decide_eq_false (by omega : ¬ a.g = b.g)]; rfl
      · rw [h, cmpI_eq, decide_eq_true rfl]; rfl
      · rw [cmpI_gt h, decide_eq_false (by omega : ¬ a.g = b.g)]; rfl
    · rw [cmpI_gt h, decide_eq_false (by omega : ¬ a.i = b.i)]; rfl
  · rw [cmpI_gt h, decide_eq_false (by omega : ¬ a.s = b.s)]; rfl
theorem neq_iff (a b : Nam) : neq a b = true ↔ a = b := by
  unfold neq
  obtain ⟨s, i, g⟩ := a
  obtain ⟨s', i', g'⟩ := b
  simp
theorem nlt_iff (a b : Nam) : nlt a b = true ↔ a.s < b.s ∨ a.s = b.s ∧ (a.i < b.i ∨ a.i = b.i ∧ a.g < b.g) := by
  unfold nlt
  simp
theorem nlt_irrefl (a : Nam) : nlt a a = false := by
  rw [Bool.eq_false_iff]; intro h; rw [nlt_iff] at h; omega
theorem nlt_trans {a b c : Nam} (h : nlt a b = true) (k : nlt b c = true) : nlt a c = true := by
  rw [nlt_iff] at *; omega
theorem nlt_asymm {a b : Nam} (h : nlt a b = true) : nlt b a = false := by
  rw [Bool.eq_false_iff]; intro k; rw [nlt_iff] at *; omega
theorem nlt_or {a b : Nam} (h : nlt a b = false) : nlt b a = true ∨ a = b := by
  obtain ⟨s, i, g⟩ := a
  obtain ⟨s', i', g'⟩ := b
  rw [Bool.eq_false_iff, Ne, nlt_iff] at h
  rw [nlt_iff]
  simp only [Nam.mk.injEq] at *
  omega

/-! ### masks -/
def hasB (m c : Int) : Bool := decide (m / c % 2 = 1)
theorem toNat_ofInt64 (m : Int) : (BitVec.ofInt 64 m).toNat = (m % 18446744073709551616).toNat := by simp [BitVec.toNat_ofInt]
theorem and_pow (M k : Nat) : M &&& 2 ^ k = bif M.testBit k then 2 ^ k else 0 := by
  apply Nat.eq_of_testBit_eq
  intro i
  rw [Nat.testBit_and, Nat.testBit_two_pow]
  by_cases h : k = i
  · subst h
    cases M.testBit k <;> simp
  · rw [decide_eq_false h, Bool.and_false]
    cases M.testBit k
    · simp
    · simp [h]
theorem and_bit (m : Int) (k : Nat) (c : Int) (hc : c = ((2 ^ k : Nat) : Int)) (hc0 : 0 ≤ c) (hc1 : c < 9223372036854775808) : bits .and .i64 m c = bif (m % 18446744073709551616).toNat.testBit k then c else 0 := by
  have h2 : (BitVec.ofInt 64 c).toNat = 2 ^ k := by
    rw [toNat_ofInt64]; omega
  show IntKind.i64.wrap ((BitVec.ofInt 64 m &&& BitVec.ofInt 64 c).toNat : Int) = _
  rw [BitVec.toNat_and, h2, toNat_ofInt64, and_pow]
  cases ((m % 18446744073709551616).toNat.testBit k)
  · simp [IntKind.wrap_i64]
  · simp only [cond_true]; rw [IntKind.wrap_i64, ← hc]; omega
theorem bit_is (m : Int) (k : Nat) (c : Int) (hd : (m % 18446744073709551616).toNat / 2 ^ k % 2 = (m / c % 2).toNat) : (m % 18446744073709551616).toNat.testBit k = hasB m c := by
  unfold hasB
  rw [Nat.testBit_eq_decide_div_mod_eq, hd]
  have h : m / c % 2 = 0 ∨ m / c % 2 = 1 := by omega
  rcases h with h | h <;> rw [h] <;> rfl
/-- an entity has a component -/
theorem has_spelled (m : Int) : bits .and .i64 m 1 = (bif hasB m 1 then 1 else 0) ∧ bits .and .i64 m 2 = (bif hasB m 2 then 2 else 0) ∧ bits .and .i64 m 4 = (bif hasB m 4 then 4 else 0) ∧ bits .and .i64 m 8 = (bif hasB m 8 then 8 else 0) ∧ bits .and .i64 m 16 = (bif hasB m 16 then 16 else 0) := by
  have go : ∀ (k : Nat) (c : Int), c = ((2 ^ k : Nat) : Int) → 0 ≤ c → c < 9223372036854775808 → (m % 18446744073709551616).toNat / 2 ^ k % 2 = (m / c % 2).toNat → bits .and .i64 m c = (bif hasB m c then c else 0) := by
    intro k c hc h0 h1 hd
    rw [and_bit m k c hc h0 h1, bit_is m k c hd]
  exact ⟨go 0 1 (by decide) (by omega) (by omega) (by omega), go 1 2 (by decide) (by omega) (by omega) (by omega), go 2 4 (by decide) (by omega) (by omega) (by omega), go 3 8 (by decide) (by omega) (by omega) (by omega), go 4 16 (by decide) (by omega) (by omega) (by omega)⟩
end Go.Proofs.YtcjeocibnfoenaaGreat
