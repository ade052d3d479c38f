/-
  Frames as data: the register of the sum, frames, and what is read of bytes. Plain Lean. No conditions of its own.
-/
import Derived.Test.YtghamhipcpgofaaGreatDoorDkA
namespace Go.Proofs.YtghamhipcpgofaaGreatDoor

/-! ### the register -/
def nibL : List Nat := [0, 498536548, 997073096, 651767980, 1994146192, 1802195444, 1303535960, 1342533948, 3988292384, 4027552580, 3604390888, 3412177804, 2607071920, 2262029012, 2685067896, 3183342108]
def nib (k : Nat) : Nat := nibL.getD k 0
def nibStep (c : Nat) : Nat := c / 16 ^^^ nib (c % 16)
def byteStep (c x : Nat) : Nat := nibStep (nibStep (c ^^^ x))
def reg (l : Nm) (c : Nat) : Nat := l.foldl (fun c x => byteStep c x.toNat) c
def sumB (l : Nm) : Nat := 4294967295 - reg l 4294967295
/-- one bit -/
def bstep (c : Nat) : Nat := bif c % 2 == 1 then c / 2 ^^^ 3988292384 else c / 2

theorem nib_lt (k : Nat) : nib k < 2 ^ 32 := by
  by_cases h : k < 16
  · have : ∀ k : Fin 16, nib k.1 < 2 ^ 32 := by decide
    exact this ⟨k, h⟩
  · have : nib k = 0 := by
      unfold nib
      rw [List.getD_eq_getElem?_getD, List.getElem?_eq_none (by simp [nibL]; omega)]
      rfl
    omega
theorem nibStep_lt {c : Nat} (h : c < 2 ^ 32) : nibStep c < 2 ^ 32 := Nat.xor_lt_two_pow (by omega) (nib_lt _)
theorem byteStep_lt {c x : Nat} (h : c < 2 ^ 32) (hx : x < 256) : byteStep c x < 2 ^ 32 := nibStep_lt (nibStep_lt (Nat.xor_lt_two_pow h (by omega)))
theorem reg_lt : ∀ (l : Nm) {c : Nat}, c < 2 ^ 32 → reg l c < 2 ^ 32
  | [], _, h => h
  | x :: l, _, h => reg_lt l (byteStep_lt h x.toNat_lt)
theorem reg_append (a b : Nm) (c : Nat) : reg (a ++ b) c = reg b (reg a c) := List.foldl_append ..
theorem reg_snoc (a : Nm) (x : UInt8) (c : Nat) : reg (a ++ [x]) c = byteStep (reg a c) x.toNat := reg_append a [x] c

theorem xor_cancel {a b c : Nat} (h : a ^^^ b = a ^^^ c) : b = c := by
  have := congrArg (a ^^^ ·) h
  simpa [← Nat.xor_assoc] using this
theorem xor_half (a b : Nat) : (a ^^^ b) / 2 = a / 2 ^^^ b / 2 := by
  have := Nat.shiftRight_xor_distrib (a := a) (b := b) (i := 1)
  simpa [Nat.shiftRight_eq_div_pow] using this
theorem xor_odd (a b : Nat) : (a ^^^ b) % 2 = (a % 2 + b % 2) % 2 := by
  have h : ∀ n : Nat, n % 2 = if n.testBit 0 then 1 else 0 := by
    intro n
    rw [Nat.testBit_zero]
    rcases Nat.mod_two_eq_zero_or_one n with h | h <;> simp [h]
  rw [h, h a, h b, Nat.testBit_xor]
  cases a.testBit 0 <;> cases b.testBit 0 <;> rfl
theorem bstep_xor (a b : Nat) : bstep (a ^^^ b) = bstep a ^^^ bstep b := by
  unfold bstep
  rw [xor_odd, xor_half]
  rcases Nat.mod_two_eq_zero_or_one a with h | h <;> rcases Nat.mod_two_eq_zero_or_one b with k | k <;> rw [h, k]
  · rfl
  · show _ ^^^ 3988292384 = _
    rw [Nat.xor_assoc]
    rfl
  · show a / 2 ^^^ b / 2 ^^^ 3988292384 = (a / 2 ^^^ 3988292384) ^^^ b / 2
    rw [Nat.xor_assoc, Nat.xor_assoc, Nat.xor_comm (b / 2)]
  · show a / 2 ^^^ b / 2 = (a / 2 ^^^ 3988292384) ^^^ (b / 2 ^^^ 3988292384)
    rw [Nat.xor_comm (b / 2), Nat.xor_assoc (a / 2) 3988292384, ← Nat.xor_assoc 3988292384 3988292384, Nat.xor_self, Nat.zero_xor]
theorem bstep_even (q : Nat) : bstep (2 * q) = q := by
  unfold bstep
  have h : 2 * q % 2 = 0 := by omega
  rw [h]
  simp
theorem low_high (c : Nat) : c = (2 * (2 * (2 * (2 * (c / 16))))) ^^^ (c % 16) := by
  apply Nat.eq_of_testBit_eq
  intro i
  have e : 2 * (2 * (2 * (2 * (c / 16)))) = (c / 16) * 2 ^ 4 := by omega
  have e2 : c / 16 = c >>> 4 := by rw [Nat.shiftRight_eq_div_pow]
  have e3 : c % 16 = c % 2 ^ 4 := rfl
  rw [e, Nat.testBit_xor, e3, Nat.testBit_mod_two_pow, ← Nat.shiftLeft_eq, Nat.testBit_shiftLeft, e2, Nat.testBit_shiftRight]
  by_cases h : i < 4
  · have : ¬ 4 ≤ i := by omega
    simp [h, this]
  · have h4 : 4 ≤ i := by omega
    have : 4 + (i - 4) = i := by omega
    simp [h, h4, this]
theorem four_bits (c : Nat) : bstep (bstep (bstep (bstep c))) = nibStep c := by
  have h : ∀ r : Fin 16, bstep (bstep (bstep (bstep r.1))) = nib r.1 := by decide
  have hr := h ⟨c % 16, by omega⟩
  dsimp only at hr
  conv => lhs; rw [low_high c]
  rw [bstep_xor, bstep_even, bstep_xor, bstep_even, bstep_xor, bstep_even, bstep_xor, bstep_even, hr]
  rfl
/-- eight bits, one by one -/
theorem eight_bits (c : Nat) : bstep (bstep (bstep (bstep (bstep (bstep (bstep (bstep c))))))) = nibStep (nibStep c) := by rw [four_bits, four_bits]

theorem nib_top : ∀ i j : Fin 16, nib i.1 >>> 28 = nib j.1 >>> 28 → i = j := by decide
theorem nibStep_inj {c d : Nat} (hc : c < 2 ^ 32) (hd : d < 2 ^ 32) (h : nibStep c = nibStep d) : c = d := by
  unfold nibStep at h
  have h1 := congrArg (· >>> 28) h
  simp only [Nat.shiftRight_xor_distrib] at h1
  have z : ∀ n : Nat, n < 2 ^ 32 → (n / 16) >>> 28 = 0 := by
    intro n hn
    rw [Nat.shiftRight_eq_div_pow]
    omega
  rw [z c hc, z d hd, Nat.zero_xor, Nat.zero_xor] at h1
  have h2 := nib_top ⟨c % 16, by omega⟩ ⟨d % 16, by omega⟩ h1
  have h3 : c % 16 = d % 16 := by simpa using h2
  rw [h3] at h
  have h4 : c / 16 = d / 16 := xor_cancel (by rw [Nat.xor_comm (d / 16), Nat.xor_comm] at h; exact h)
  omega
theorem byteStep_inj {c d x : Nat} (hc : c < 2 ^ 32) (hd : d < 2 ^ 32) (hx : x < 256) (h : byteStep c x = byteStep d x) : c = d := by
  have hcx : c ^^^ x < 2 ^ 32 := Nat.xor_lt_two_pow hc (by omega)
  have hdx : d ^^^ x < 2 ^ 32 := Nat.xor_lt_two_pow hd (by omega)
  have := nibStep_inj hcx hdx (nibStep_inj (nibStep_lt hcx) (nibStep_lt hdx) h)
  exact xor_cancel (by rw [Nat.xor_comm x, Nat.xor_comm x]; exact this)
theorem byteStep_inj2 {c x y : Nat} (hc : c < 2 ^ 32) (hx : x < 256) (hy : y < 256) (h : byteStep c x = byteStep c y) : x = y := by
  have hcx : c ^^^ x < 2 ^ 32 := Nat.xor_lt_two_pow hc (by omega)
  have hdx : c ^^^ y < 2 ^ 32 := Nat.xor_lt_two_pow hc (by omega)
  have := nibStep_inj hcx hdx (nibStep_inj (nibStep_lt hcx) (nibStep_lt hdx) h)
  exact xor_cancel this
theorem reg_inj : ∀ (l : Nm) {c d : Nat}, c < 2 ^ 32 → d < 2 ^ 32 → reg l c = reg l d → c = d
  | [], _, _, _, _, h => h
  | x :: l, _, _, hc, hd, h => byteStep_inj hc hd x.toNat_lt (reg_inj l (byteStep_lt hc x.toNat_lt) (byteStep_lt hd x.toNat_lt) h)
/-- one byte is another one: so is the sum -/
theorem sumB_turned (a b : Nm) (x y : UInt8) (h : sumB (a ++ x :: b) = sumB (a ++ y :: b)) : x = y := by
  have h0 : (4294967295 : Nat) < 2 ^ 32 := by decide
  have h1 := reg_lt (a ++ x :: b) h0
  have h2 := reg_lt (a ++ y :: b) h0
  unfold sumB at h
  have h3 : reg (a ++ x :: b) 4294967295 = reg (a ++ y :: b) 4294967295 := by omega
  rw [reg_append, reg_append] at h3
  have h4 := reg_lt a h0
  have h5 : byteStep (reg a 4294967295) x.toNat = byteStep (reg a 4294967295) y.toNat := reg_inj b (byteStep_lt h4 x.toNat_lt) (byteStep_lt h4 y.toNat_lt) h3
  exact UInt8.toNat_inj.1 (byteStep_inj2 h4 x.toNat_lt y.toNat_lt h5)
theorem sumB_lt (l : Nm) : sumB l < 2 ^ 32 := by unfold sumB; omega

/-! ### frames -/
def be3 (n : Nat) : Nm := [UInt8.ofNat (n / 65536), UInt8.ofNat (n / 256), UInt8.ofNat n]
def be4 (n : Nat) : Nm := [UInt8.ofNat (n / 16777216), UInt8.ofNat (n / 65536), UInt8.ofNat (n / 256), UInt8.ofNat n]
def frameL (t : Nm) : Nm := be3 t.length ++ t ++ be4 (sumB (be3 t.length ++ t))
def n3 (s : Nm) : Nat := (s.getD 0 0).toNat * 65536 + (s.getD 1 0).toNat * 256 + (s.getD 2 0).toNat
/-- the text of the frame with which bytes begin -/
def firstF (s : Nm) : Option Nm :=
  if s.length < 3 then none else if 65536 < n3 s then none else if s.length < 7 + n3 s then none else
    if be4 (sumB (s.take (3 + n3 s))) = (s.drop (3 + n3 s)).take 4 then some ((s.drop 3).take (n3 s)) else none
def allF : Nat → Nm → List Nm
  | 0, _ => []
  | k + 1, s => match firstF s with
    | none => []
    | some t => t :: allF k (s.drop (t.length + 7))
/-- all frames with which bytes begin -/
def parse (s : Nm) : List Nm := allF s.length s
def frames (ts : List Nm) : Nm := ts.flatMap frameL
def flen (ts : List Nm) : Nat := (ts.map (·.length + 7)).sum

theorem be3_length (n : Nat) : (be3 n).length = 3 := rfl
theorem be4_length (n : Nat) : (be4 n).length = 4 := rfl
theorem frameL_length (t : Nm) : (frameL t).length = t.length + 7 := by simp [frameL, be3_length, be4_length]; omega
theorem frames_nil : frames [] = [] := rfl
theorem frames_cons (t : Nm) (ts : List Nm) : frames (t :: ts) = frameL t ++ frames ts := by simp [frames]
theorem frames_append (a b : List Nm) : frames (a ++ b) = frames a ++ frames b := by simp [frames]
theorem frames_one (t : Nm) : frames [t] = frameL t := by simp [frames]
theorem frames_length (ts : List Nm) : (frames ts).length = flen ts := by
  induction ts with
  | nil => rfl
  | cons t ts ih => rw [frames_cons, List.length_append, frameL_length, ih]; simp [flen]
theorem flen_append (a b : List Nm) : flen (a ++ b) = flen a + flen b := by simp [flen]
theorem n3_be3 {n : Nat} (h : n < 16777216) (r : Nm) : n3 (be3 n ++ r) = n := by
  simp [n3, be3]
  omega
theorem be3_n3 (s : Nm) (h : 3 ≤ s.length) : be3 (n3 s) = s.take 3 := by
  match s, h with
  | a :: b :: c :: r, _ =>
    simp only [n3, be3, List.getD_cons_zero, List.getD_cons_succ, List.take_succ_cons, List.take_zero, List.cons.injEq, and_true]
    have ha := a.toNat_lt
    have hb := b.toNat_lt
    have hc := c.toNat_lt
    refine ⟨?_, ?_, ?_⟩
    · apply UInt8.toNat_inj.1
      rw [UInt8.toNat_ofNat']
      omega
    · apply UInt8.toNat_inj.1
      rw [UInt8.toNat_ofNat']
      omega
    · apply UInt8.toNat_inj.1
      rw [UInt8.toNat_ofNat']
      omega
theorem be4_inj {a b : Nat} (ha : a < 2 ^ 32) (hb : b < 2 ^ 32) (h : be4 a = be4 b) : a = b := by
  simp only [be4, List.cons.injEq, and_true] at h
  obtain ⟨h0, h1, h2, h3⟩ := h
  have e0 := congrArg UInt8.toNat h0
  have e1 := congrArg UInt8.toNat h1
  have e2 := congrArg UInt8.toNat h2
  have e3 := congrArg UInt8.toNat h3
  simp only [UInt8.toNat_ofNat'] at e0 e1 e2 e3
  omega

theorem firstF_frame (t r : Nm) (h : t.length ≤ 65536) : firstF (frameL t ++ r) = some t := by
  have hn : n3 (frameL t ++ r) = t.length := by
    unfold frameL
    rw [List.append_assoc, List.append_assoc]
    exact n3_be3 (by omega) _
  have hl : (frameL t ++ r).length = t.length + 7 + r.length := by rw [List.length_append, frameL_length]
  unfold firstF
  rw [hn, hl, if_neg (by omega), if_neg (by omega), if_neg (by omega)]
  have h1 : (frameL t ++ r).take (3 + t.length) = be3 t.length ++ t := by
    unfold frameL
    rw [List.append_assoc, List.take_left' (by simp [be3_length])]
  have h2 : (frameL t ++ r).drop (3 + t.length) = be4 (sumB (be3 t.length ++ t)) ++ r := by
    unfold frameL
    rw [List.append_assoc, List.drop_left' (by simp [be3_length])]
  have h3 : ((frameL t ++ r).drop 3).take t.length = t := by
    unfold frameL
    rw [List.append_assoc, List.append_assoc, List.drop_left' (be3_length _), List.take_left' rfl]
  rw [h1, h2, h3, List.take_left' (be4_length _), if_pos rfl]
theorem firstF_some {s t : Nm} (h : firstF s = some t) : t.length ≤ 65536 ∧ ∃ r, s = frameL t ++ r := by
  unfold firstF at h
  split at h
  · cases h
  rename_i h1
  split at h
  · cases h
  rename_i h2
  split at h
  · cases h
  rename_i h3
  split at h
  · rename_i h4
    simp only [Option.some.injEq] at h
    have hl : t.length = n3 s := by rw [← h, List.length_take, List.length_drop]; omega
    refine ⟨by omega, s.drop (7 + n3 s), ?_⟩
    have ht : be3 t.length ++ t = s.take (3 + n3 s) := by
      rw [hl, be3_n3 s (by omega), ← h, List.take_add]
    unfold frameL
    rw [ht, h4, List.append_assoc]
    have e : (s.drop (3 + n3 s)).take 4 ++ s.drop (7 + n3 s) = s.drop (3 + n3 s) := by
      have : s.drop (7 + n3 s) = (s.drop (3 + n3 s)).drop 4 := by rw [List.drop_drop]; congr 1; omega
      rw [this, List.take_append_drop]
    rw [e, List.take_append_drop]
  · cases h
theorem firstF_iff {s t : Nm} : firstF s = some t ↔ t.length ≤ 65536 ∧ ∃ r, s = frameL t ++ r :=
  ⟨firstF_some, fun ⟨h, r, e⟩ => by rw [e]; exact firstF_frame t r h⟩
theorem allF_enough : ∀ (k m : Nat) (s : Nm), s.length ≤ k → s.length ≤ m → allF k s = allF m s
  | 0, 0, _, _, _ => rfl
  | 0, m + 1, s, h, _ => by
    have : s = [] := List.eq_nil_of_length_eq_zero (by omega)
    subst this
    rfl
  | k + 1, 0, s, _, h => by
    have : s = [] := List.eq_nil_of_length_eq_zero (by omega)
    subst this
    rfl
  | k + 1, m + 1, s, h1, h2 => by
    unfold allF
    cases hf : firstF s with
    | none => rfl
    | some t =>
      obtain ⟨_, r, hr⟩ := firstF_some hf
      have hs : s.length = t.length + 7 + r.length := by rw [hr, List.length_append, frameL_length]
      dsimp only
      rw [allF_enough k m (s.drop (t.length + 7)) (by rw [List.length_drop]; omega) (by rw [List.length_drop]; omega)]
theorem parse_none {s : Nm} (h : firstF s = none) : parse s = [] := by
  unfold parse
  cases hs : s.length with
  | zero => rfl
  | succ k => unfold allF; rw [h]
theorem parse_some {s t : Nm} (h : firstF s = some t) : parse s = t :: parse (s.drop (t.length + 7)) := by
  obtain ⟨_, r, hr⟩ := firstF_some h
  have hs : s.length = t.length + 7 + r.length := by rw [hr, List.length_append, frameL_length]
  unfold parse
  cases hl : s.length with
  | zero => omega
  | succ k =>
    rw [allF, h]
    dsimp only
    rw [allF_enough k (s.drop (t.length + 7)).length (s.drop (t.length + 7)) (by rw [List.length_drop]; omega) (Nat.le_refl _)]
theorem parse_cons (t r : Nm) (h : t.length ≤ 65536) : parse (frameL t ++ r) = t :: parse r := by
  rw [parse_some (firstF_frame t r h), List.drop_left' (frameL_length t)]
theorem parse_frames : ∀ (ts : List Nm) (r : Nm), (∀ t ∈ ts, t.length ≤ 65536) → parse (frames ts ++ r) = ts ++ parse r
  | [], _, _ => rfl
  | t :: ts, r, h => by
    rw [frames_cons, List.append_assoc, parse_cons _ _ (h t (by simp)), parse_frames ts r (fun x hx => h x (by simp [hx]))]
    rfl
theorem parse_all (ts : List Nm) (h : ∀ t ∈ ts, t.length ≤ 65536) : parse (frames ts) = ts := by
  have := parse_frames ts [] h
  rw [List.append_nil] at this
  rw [this, parse_none (by rfl), List.append_nil]
/-- what is read: frames, and what comes behind them begins with none -/
theorem parse_parts (s : Nm) : ∃ r, s = frames (parse s) ++ r ∧ firstF r = none ∧ ∀ t ∈ parse s, t.length ≤ 65536 := by
  suffices h : ∀ (k : Nat) (s : Nm), s.length ≤ k → ∃ r, s = frames (parse s) ++ r ∧ firstF r = none ∧ ∀ t ∈ parse s, t.length ≤ 65536 from h s.length s (Nat.le_refl _)
  intro k
  induction k with
  | zero =>
    intro s hs
    have : s = [] := List.eq_nil_of_length_eq_zero (by omega)
    subst this
    exact ⟨[], rfl, rfl, fun t ht => absurd ht List.not_mem_nil⟩
  | succ k ih =>
    intro s hs
    cases hf : firstF s with
    | none => exact ⟨s, by rw [parse_none hf]; rfl, hf, by rw [parse_none hf]; exact fun t ht => absurd ht List.not_mem_nil⟩
    | some t =>
      obtain ⟨ht, r, hr⟩ := firstF_some hf
      have hl : s.length = t.length + 7 + r.length := by rw [hr, List.length_append, frameL_length]
      obtain ⟨r', h1, h2, h3⟩ := ih r (by omega)
      have hp : parse s = t :: parse r := by rw [hr]; exact parse_cons t r ht
      refine ⟨r', by rw [hp, frames_cons, List.append_assoc, ← h1, hr], h2, ?_⟩
      rw [hp]
      intro x hx
      rcases List.mem_cons.1 hx with rfl | hx
      · exact ht
      · exact h3 x hx
theorem parse_flen (s : Nm) : flen (parse s) ≤ s.length := by
  obtain ⟨r, h, _⟩ := parse_parts s
  rw [← frames_length]
  conv => rhs; rw [h]
  rw [List.length_append]
  omega
theorem parse_take (s : Nm) : s.take (flen (parse s)) = frames (parse s) := by
  obtain ⟨r, h, _⟩ := parse_parts s
  conv => lhs; rw [h]
  rw [← frames_length]
  have : (frames (parse (frames (parse s) ++ r))) = frames (parse s) := by rw [← h]
  rw [this, List.take_left' rfl]
/-- a frame that is torn is none -/
theorem firstF_torn {s : Nm} {t : Nm} (h : s <+: frameL t) (hl : s.length < t.length + 7) (ht : t.length ≤ 65536) : firstF s = none := by
  obtain ⟨r, hr⟩ := h
  cases hf : firstF s with
  | none => rfl
  | some u =>
    obtain ⟨hu, r', hr'⟩ := firstF_some hf
    have h1 : firstF (frameL t ++ []) = some t := firstF_frame t [] ht
    have h2 : firstF (frameL u ++ (r' ++ r)) = some u := firstF_frame u _ hu
    rw [List.append_nil, ← hr, hr', List.append_assoc, h2] at h1
    simp only [Option.some.injEq] at h1
    rw [hr', List.length_append, frameL_length, h1] at hl
    omega
/-- a frame with a byte of its text or its sum that is another one is none -/
theorem firstF_turned (t a b r : Nm) (x y : UInt8) (ht : t.length ≤ 65536) (he : frameL t = a ++ x :: b) (ha : 3 ≤ a.length) (hxy : x ≠ y) : firstF (a ++ y :: b ++ r) = none := by
  have hl := frameL_length t
  rw [he] at hl
  simp only [List.length_append, List.length_cons] at hl
  -- the length is what it was
  have h3 : (a ++ y :: b ++ r).take 3 = be3 t.length := by
    have e1 : (frameL t).take 3 = be3 t.length := by unfold frameL; rw [List.append_assoc, List.take_left' (be3_length _)]
    rw [he, List.take_append_of_le_length ha] at e1
    rw [List.append_assoc, List.take_append_of_le_length ha, e1]
  have hn : n3 (a ++ y :: b ++ r) = t.length := by
    have := n3_be3 (n := t.length) (by omega) ((a ++ y :: b ++ r).drop 3)
    rwa [← h3, List.take_append_drop] at this
  unfold firstF
  rw [hn]
  split
  · rfl
  split
  · rfl
  split
  · rfl
  rw [if_neg]
  intro hc
  have hsum : (frameL t).take (3 + t.length) = be3 t.length ++ t := by unfold frameL; rw [List.take_left' (by simp [be3_length])]
  have htail : (frameL t).drop (3 + t.length) = be4 (sumB (be3 t.length ++ t)) := by unfold frameL; rw [List.drop_left' (by simp [be3_length])]
  by_cases hin : a.length < 3 + t.length
  · -- a byte of the text
    have hk : 3 + t.length = a.length + ((3 + t.length - a.length - 1) + 1) := by omega
    have c1 : (a ++ y :: b ++ r).take (3 + t.length) = a ++ y :: b.take (3 + t.length - a.length - 1) := by
      rw [List.append_assoc, hk, List.take_length_add_append, List.cons_append, List.take_succ_cons, List.take_append_of_le_length (by omega), ← hk]
    have c2 : be3 t.length ++ t = a ++ x :: b.take (3 + t.length - a.length - 1) := by
      rw [← hsum, he, hk, List.take_length_add_append, List.take_succ_cons, ← hk]
    have d1 : (a ++ y :: b ++ r).drop (3 + t.length) = b.drop (3 + t.length - a.length - 1) ++ r := by
      rw [List.append_assoc, hk, List.drop_length_add_append, List.cons_append, List.drop_succ_cons, List.drop_append_of_le_length (by omega), ← hk]
    have d2 : b.drop (3 + t.length - a.length - 1) = be4 (sumB (be3 t.length ++ t)) := by
      rw [← htail, he, hk, List.drop_length_add_append, List.drop_succ_cons, ← hk]
    rw [c1, d1, d2, List.take_left' (be4_length _)] at hc
    have := be4_inj (sumB_lt _) (sumB_lt _) hc
    rw [c2] at this
    exact hxy (sumB_turned _ _ _ _ this).symm
  · -- a byte of the sum
    have hk : a.length = 3 + t.length + (a.length - (3 + t.length)) := by omega
    have c1 : (a ++ y :: b ++ r).take (3 + t.length) = be3 t.length ++ t := by
      rw [← hsum, he, List.append_assoc, List.take_append_of_le_length (by omega), List.take_append_of_le_length (by omega)]
    have d1 : (a ++ y :: b ++ r).drop (3 + t.length) = a.drop (3 + t.length) ++ y :: b ++ r := by
      rw [List.append_assoc, List.drop_append_of_le_length (by omega), ← List.append_assoc]
    have d2 : be4 (sumB (be3 t.length ++ t)) = a.drop (3 + t.length) ++ x :: b := by
      rw [← htail, he, List.drop_append_of_le_length (by omega)]
    rw [c1, d1, d2] at hc
    rw [List.take_left' (by simp only [List.length_append, List.length_drop, List.length_cons]; omega)] at hc
    have := List.append_cancel_left hc
    simp only [List.cons.injEq, and_true] at this
    exact hxy this
end Go.Proofs.YtghamhipcpgofaaGreatDoor
