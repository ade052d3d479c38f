/-
  Texts in one: RowsOf, TiA. No conditions of their own.
-/
import Derived.Test.YtpbpgjfdledgoaaGreatDoorZc02
import Derived.Laws.BitsAllLaws

/-
  Rows of structs, whatever the struct: how a slice of them reads. Plain lemmas, over any program. No conditions of its own.
-/
namespace Go.Proofs.YtpbpgjfdledgoaaGreatDoor
open Go.RowKit

/-- How a struct lies in memory: its cells, one behind the other. -/
structure Codec (α : Type) where
  cells : α → List Value
  size : Nat
  len : ∀ a, (cells a).length = size
  one : ∀ a, ∀ u ∈ cells a, u.oneCell' = true
  pos : 0 < size

section
variable {α : Type} (C : Codec α)
def rowsOf (l : List α) : List Value := l.flatMap C.cells
theorem rowsOf_cons (a : α) (l : List α) : rowsOf C (a :: l) = C.cells a ++ rowsOf C l := by simp [rowsOf]
theorem rowsOf_append (a b : List α) : rowsOf C (a ++ b) = rowsOf C a ++ rowsOf C b := by simp [rowsOf]
theorem rowsOf_one (a : α) : rowsOf C [a] = C.cells a := by simp [rowsOf]
theorem rowsOf_length (l : List α) : (rowsOf C l).length = l.length * C.size := by
  induction l with
  | nil => simp [rowsOf]
  | cons a l ih => rw [rowsOf_cons, List.length_append, ih, C.len, List.length_cons, Nat.succ_mul]; omega
theorem rowsOf_ones (l : List α) : ∀ u ∈ rowsOf C l, u.oneCell' = true := by
  intro u hu
  simp only [rowsOf, List.mem_flatMap] at hu
  obtain ⟨a, _, ha⟩ := hu
  exact C.one a u ha
theorem rowsOf_take (l : List α) (k : Nat) : (rowsOf C l).take (k * C.size) = rowsOf C (l.take k) := by
  by_cases hk : k ≤ l.length
  · have e : rowsOf C l = rowsOf C (l.take k) ++ rowsOf C (l.drop k) := by rw [← rowsOf_append, List.take_append_drop]
    rw [e, List.take_left' (by rw [rowsOf_length, List.length_take, Nat.min_eq_left hk])]
  · have : l.length * C.size ≤ k * C.size := Nat.mul_le_mul_right _ (by omega)
    rw [List.take_of_length_le (by rw [rowsOf_length]; omega), List.take_of_length_le (by omega)]
theorem rowsOf_drop (l : List α) (k : Nat) : (rowsOf C l).drop (k * C.size) = rowsOf C (l.drop k) := by
  by_cases hk : k ≤ l.length
  · have e : rowsOf C l = rowsOf C (l.take k) ++ rowsOf C (l.drop k) := by rw [← rowsOf_append, List.take_append_drop]
    rw [e, List.drop_left' (by rw [rowsOf_length, List.length_take, Nat.min_eq_left hk])]
  · have : l.length * C.size ≤ k * C.size := Nat.mul_le_mul_right _ (by omega)
    rw [List.drop_of_length_le (by rw [rowsOf_length]; omega), List.drop_of_length_le (by omega)]; rfl
theorem rowsOf_at (l : List α) (i : Nat) (h : i < l.length) (j : Nat) (hj : j < C.size) : (rowsOf C l)[i * C.size + j]? = (C.cells l[i])[j]? := by
  rw [← List.getElem?_drop, rowsOf_drop, List.drop_eq_getElem_cons h, rowsOf_cons, List.getElem?_append_left (by rw [C.len]; exact hj)]
theorem rowsOf_set (l : List α) (i : Nat) (h : i < l.length) (a : α) : rowsOf C (l.set i a) = (rowsOf C l).take (i * C.size) ++ C.cells a ++ (rowsOf C l).drop ((i + 1) * C.size) := by
  rw [rowsOf_take, rowsOf_drop, List.set_eq_take_append_cons_drop, if_pos h, rowsOf_append, rowsOf_cons, List.append_assoc]

/-- A slice's value that reads so. -/
abbrev RdOf (w : World) (v : Value) (l : List α) : Prop := Reads w C.size v l.length (rowsOf C l)
/-- the cells of the element at i -/
theorem RdOf.at {w : World} {b off n c : Nat} {l : List α} (h : Reads w C.size (.slice (some ⟨b, off, none⟩) n c) n (rowsOf C l)) (i : Nat) (hi : i < l.length) : cellsAt w b (off + i * C.size) C.size = some (C.cells l[i]) := by
  have hlt : i * C.size + C.size ≤ l.length * C.size := by rw [← Nat.succ_mul]; exact Nat.mul_le_mul_right _ hi
  have hp := C.pos
  obtain ⟨b', off', c', he, _, _, _, hx⟩ := h.addr (by rw [rowsOf_length]; omega)
  simp only [Value.slice.injEq, Option.some.injEq, Addr.mk.injEq, and_true, true_and] at he
  obtain ⟨⟨rfl, rfl⟩, rfl⟩ := he
  have hl := C.len l[i]
  rw [← hl]
  refine cellsAt_of (fun j v hv => ?_) (by rw [hl]; exact hp)
  have hj : j < C.size := by rw [← hl]; exact (List.getElem?_eq_some_iff.1 hv).1
  rw [hl, Nat.add_assoc]
  exact hx _ _ (by rw [rowsOf_at C l i hi j hj]; exact hv)
/-- where there is an element, the address is known -/
theorem RdOf.addr {w : World} {a : Option Addr} {c : Nat} {l : List α} (h : RdOf C w (.slice a l.length c) l) (hl : 0 < l.length) : ∃ b off, a = some ⟨b, off, none⟩ ∧ l.length ≤ c ∧ c ≤ maxLen ∧ b < w.heap.size := by
  have : 0 < l.length * C.size := Nat.mul_pos hl C.pos
  obtain ⟨b, off, c', he, h1, h2, h3, _⟩ := Reads.addr h (by rw [rowsOf_length]; exact this)
  simp only [Value.slice.injEq, true_and] at he
  obtain ⟨rfl, rfl⟩ := he
  exact ⟨b, off, rfl, h1, h2, h3⟩
theorem RdOf.len {w : World} {v : Value} {l : List α} (h : RdOf C w v l) : l.length ≤ maxLen := by
  rcases h.shape with ⟨_, h0⟩ | ⟨_, c', he, h1, h2, _⟩
  · simp [h0]
  · omega
end

/-- the first place of which pr is true; -1: there is none -/
def firstOf {α : Type} (pr : α → Bool) (l : List α) : Int := match l.findIdx? pr with | some k => k | none => -1
theorem firstOf_at {α : Type} (pr : α → Bool) (l : List α) (k : Nat) (hk : k < l.length) (hno : ∀ j, (h : j < k) → (h2 : j < l.length) → pr l[j] = false) (hp : pr l[k] = true) : firstOf pr l = k := by
  have : l.findIdx? pr = some k := by
    rw [List.findIdx?_eq_some_iff_getElem]
    exact ⟨hk, hp, fun j hj => by simpa using hno j hj (by omega)⟩
  simp [firstOf, this]
theorem firstOf_none {α : Type} (pr : α → Bool) (l : List α) (hno : ∀ j, (h2 : j < l.length) → pr l[j] = false) : firstOf pr l = -1 := by
  have : l.findIdx? pr = none := by
    rw [List.findIdx?_eq_none_iff]
    intro x hx
    obtain ⟨j, hj, rfl⟩ := List.getElem_of_mem hx
    exact hno j hj
  simp [firstOf, this]
/-- either none, or a place -/
theorem firstOf_cases {α : Type} (pr : α → Bool) (l : List α) : (firstOf pr l = -1 ∧ ∀ a ∈ l, pr a = false) ∨ ∃ k : Nat, firstOf pr l = k ∧ ∃ hk : k < l.length, pr l[k] = true ∧ ∀ j, (h : j < k) → (h2 : j < l.length) → pr l[j] = false := by
  cases hf : l.findIdx? pr with
  | none =>
    refine .inl ⟨by simp [firstOf, hf], ?_⟩
    rw [List.findIdx?_eq_none_iff] at hf
    exact hf
  | some k =>
    have h2 := hf
    rw [List.findIdx?_eq_some_iff_getElem] at hf
    obtain ⟨hk, hp, hno⟩ := hf
    exact .inr ⟨k, by simp [firstOf, h2], hk, hp, fun j hj _ => by simpa using hno j hj⟩

end Go.Proofs.YtpbpgjfdledgoaaGreatDoor

/-
  Entities, commands and worlds as plain data; their masks. Plain Lean. No conditions of its own.
-/
namespace Go.Proofs.YtpbpgjfdledgoaaGreatDoor
open Go.RowKit

/-- An entity: its name, and its components. -/
structure Bd where
  s : Int
  i : Int
  g : Int
  m : Int
  x : Int
  y : Int
  vx : Int
  vy : Int
  hp : Int
  pw : Int
  lf : Int
def Bd.zero : Bd := ⟨0, 0, 0, 0, 0, 0, 0, 0, 0, 0, 0⟩
/-- A name. -/
structure Nam where
  s : Int
  i : Int
  g : Int
def Bd.id (b : Bd) : Nam := ⟨b.s, b.i, b.g⟩
/-- A command. -/
structure Cm where
  k : Int
  s : Int
  i : Int
  g : Int
  b : Bd
  m : Int
def Cm.id (c : Cm) : Nam := ⟨c.s, c.i, c.g⟩
/-- What an entity takes. -/
structure Ht where
  s : Int
  i : Int
  g : Int
  n : Int
def Ht.id (h : Ht) : Nam := ⟨h.s, h.i, h.g⟩
abbrev bdC (b : Bd) : List Value := [.int .i64 b.s, .int .i64 b.i, .int .i64 b.g, .int .i64 b.m, .int .i64 b.x, .int .i64 b.y, .int .i64 b.vx, .int .i64 b.vy, .int .i64 b.hp, .int .i64 b.pw, .int .i64 b.lf]
abbrev namC (b : Nam) : List Value := [.int .i64 b.s, .int .i64 b.i, .int .i64 b.g]
abbrev cmC (c : Cm) : List Value := [.int .i64 c.k, .int .i64 c.s, .int .i64 c.i, .int .i64 c.g, .int .i64 c.b.s, .int .i64 c.b.i, .int .i64 c.b.g, .int .i64 c.b.m, .int .i64 c.b.x, .int .i64 c.b.y, .int .i64 c.b.vx, .int .i64 c.b.vy, .int .i64 c.b.hp, .int .i64 c.b.pw, .int .i64 c.b.lf, .int .i64 c.m]
def cNam : Codec Nam := ⟨namC, 3, fun _ => rfl, fun a u h => by simp [namC] at h; rcases h with rfl | rfl | rfl <;> rfl, by decide⟩
def cCm : Codec Cm := ⟨cmC, 16, fun _ => rfl, fun a u h => by simp [cmC] at h; rcases h with rfl | rfl | rfl | rfl | rfl | rfl | rfl | rfl | rfl | rfl | rfl | rfl | rfl | rfl | rfl | rfl <;> rfl, by decide⟩
/-- a number as the machine has it -/
def i64 (n : Int) : Prop := -9223372036854775808 ≤ n ∧ n ≤ 9223372036854775807
structure Bd.ok (b : Bd) : Prop where
  s : i64 b.s
  i : i64 b.i
  g : i64 b.g
  m : i64 b.m
  x : i64 b.x
  y : i64 b.y
  vx : i64 b.vx
  vy : i64 b.vy
  hp : i64 b.hp
  pw : i64 b.pw
  lf : i64 b.lf
structure Cm.ok (c : Cm) : Prop where
  k : i64 c.k
  s : i64 c.s
  i : i64 c.i
  g : i64 c.g
  b : c.b.ok
  m : i64 c.m

/-! ### names -/
def nlt (a b : Nam) : Bool := decide (a.s < b.s) || (decide (a.s = b.s) && (decide (a.i < b.i) || (decide (a.i = b.i) && decide (a.g < b.g))))
def neq (a b : Nam) : Bool := decide (a.s = b.s) && (decide (a.i = b.i) && decide (a.g = b.g))
/-- as cmp.Or does it -/
def or3 (a b c : Int) : Int := bif a == 0 then (bif b == 0 then c else b) else a
theorem neq_iff (a b : Nam) : neq a b = true ↔ a = b := by
  unfold neq
  obtain ⟨s, i, g⟩ := a
  obtain ⟨s', i', g'⟩ := b
  simp
/-! ### masks -/
def hasB (m c : Int) : Bool := decide (m / c % 2 = 1)
theorem toNat_ofInt64 (m : Int) : (BitVec.ofInt 64 m).toNat = (m % 18446744073709551616).toNat := by simp [BitVec.toNat_ofInt]
theorem and_pow (M k : Nat) : M &&& 2 ^ k = bif M.testBit k then 2 ^ k else 0 := by
  apply Nat.eq_of_testBit_eq
  intro i
  rw [Nat.testBit_and, Nat.testBit_two_pow]
  by_cases h : k = i
  · subst h
    cases M.testBit k <;> simp
  · rw [decide_eq_false h, Bool.and_false]
    cases M.testBit k
    · simp
    · simp [h]
theorem and_bit (m : Int) (k : Nat) (c : Int) (hc : c = ((2 ^ k : Nat) : Int)) (hc0 : 0 ≤ c) (hc1 : c < 9223372036854775808) : bits .and .i64 m c = bif (m % 18446744073709551616).toNat.testBit k then c else 0 := by
  have h2 : (BitVec.ofInt 64 c).toNat = 2 ^ k := by
    rw [toNat_ofInt64]; omega
  show IntKind.i64.wrap ((BitVec.ofInt 64 m &&& BitVec.ofInt 64 c).toNat : Int) = _
  rw [BitVec.toNat_and, h2, toNat_ofInt64, and_pow]
  cases ((m % 18446744073709551616).toNat.testBit k)
  · simp [IntKind.wrap_i64]
  · simp only [cond_true]; rw [IntKind.wrap_i64, ← hc]; omega
theorem bit_is (m : Int) (k : Nat) (c : Int) (hd : (m % 18446744073709551616).toNat / 2 ^ k % 2 = (m / c % 2).toNat) : (m % 18446744073709551616).toNat.testBit k = hasB m c := by
  unfold hasB
  rw [Nat.testBit_eq_decide_div_mod_eq, hd]
  have h : m / c % 2 = 0 ∨ m / c % 2 = 1 := by omega
  rcases h with h | h <;> rw [h] <;> rfl
/-- an entity has a component -/
theorem has_spelled (m : Int) : bits .and .i64 m 1 = (bif hasB m 1 then 1 else 0) ∧ bits .and .i64 m 2 = (bif hasB m 2 then 2 else 0) ∧ bits .and .i64 m 4 = (bif hasB m 4 then 4 else 0) ∧ bits .and .i64 m 8 = (bif hasB m 8 then 8 else 0) ∧ bits .and .i64 m 16 = (bif hasB m 16 then 16 else 0) := by
  have go : ∀ (k : Nat) (c : Int), c = ((2 ^ k : Nat) : Int) → 0 ≤ c → c < 9223372036854775808 → (m % 18446744073709551616).toNat / 2 ^ k % 2 = (m / c % 2).toNat → bits .and .i64 m c = (bif hasB m c then c else 0) := by
    intro k c hc h0 h1 hd
    rw [and_bit m k c hc h0 h1, bit_is m k c hd]
  exact ⟨go 0 1 (by decide) (by omega) (by omega) (by omega), go 1 2 (by decide) (by omega) (by omega) (by omega), go 2 4 (by decide) (by omega) (by omega) (by omega), go 3 8 (by decide) (by omega) (by omega) (by omega), go 4 16 (by decide) (by omega) (by omega) (by omega)⟩
end Go.Proofs.YtpbpgjfdledgoaaGreatDoor

