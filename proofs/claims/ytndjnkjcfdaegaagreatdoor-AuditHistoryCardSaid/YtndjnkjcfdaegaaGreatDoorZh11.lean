/-
  Texts in one: LeB, LgA, LeD. No conditions of their own.
-/
import Derived.Test.YtndjnkjcfdaegaaGreatDoorZh10
set_option linter.all false

/-
  What names, entities, commands and the ledger's records may be, and their bytes: plain, with what is read back. No conditions of its own.
-/
namespace Go.Proofs.YtndjnkjcfdaegaaGreatDoor

/-! ### what may be -/
def idOk (a : Nam) : Bool := okI a.s 0 15 && (okI a.i 0 15 && okI a.g 0 1048575)
def inB (h : Bool) (n lo hi : Int) : Bool := bif h then okI n lo hi else decide (n = 0)
def rightBd (b : Bd) : Bool := okI b.m 0 31 && (inB (hasB b.m 1) b.x (-1073741824) 1073741824 && (inB (hasB b.m 1) b.y (-1073741824) 1073741824 && (inB (hasB b.m 2) b.vx (-1073741824) 1073741824 && (inB (hasB b.m 2) b.vy (-1073741824) 1073741824 && (inB (hasB b.m 4) b.hp 1 1048576 && (inB (hasB b.m 8) b.pw 0 1024 && inB (hasB b.m 16) b.lf 1 1048576))))))
def bdOk (b : Bd) : Bool := rightBd b && (hasB b.m 1 && idOk b.id)
def takesM (m : Int) : Bool := okI m 1 31 && !hasB m 1
def Nam.zero : Nam := ⟨0, 0, 0⟩
def bdEq (a b : Bd) : Bool := neq a.id b.id && (decide (a.m = b.m) && (decide (a.x = b.x) && (decide (a.y = b.y) && (decide (a.vx = b.vx) && (decide (a.vy = b.vy) && (decide (a.hp = b.hp) && (decide (a.pw = b.pw) && decide (a.lf = b.lf))))))))
def cmEq (a b : Cm) : Bool := decide (a.k = b.k) && (neq a.id b.id && (bdEq a.b b.b && decide (a.m = b.m)))
theorem bdEq_iff (a b : Bd) : bdEq a b = true ↔ a = b := by
  obtain ⟨a0, a1, a2, a3, a4, a5, a6, a7, a8, a9, a10⟩ := a
  obtain ⟨b0, b1, b2, b3, b4, b5, b6, b7, b8, b9, b10⟩ := b
  unfold bdEq
  simp only [Bool.and_eq_true, decide_eq_true_eq, neq_iff, Bd.id, Nam.mk.injEq, Bd.mk.injEq, and_assoc]
theorem cmEq_iff (a b : Cm) : cmEq a b = true ↔ a = b := by
  obtain ⟨a0, a1, a2, a3, ab, a4⟩ := a
  obtain ⟨b0, b1, b2, b3, bb, b4⟩ := b
  unfold cmEq
  simp only [Bool.and_eq_true, decide_eq_true_eq, neq_iff, bdEq_iff, Cm.id, Nam.mk.injEq, Cm.mk.injEq, and_assoc]
def Cm.zero : Cm := ⟨0, 0, 0, 0, Bd.zero, 0⟩
def cmdOk (c : Cm) : Bool :=
  bif c.k == 1 then neq c.id Nam.zero && (decide (c.m = 0) && bdOk c.b) else
  bif c.k == 2 then idOk c.id && (decide (c.m = 0) && bdEq c.b Bd.zero) else
  bif c.k == 3 then idOk c.id && (decide (c.m = 0) && (neq c.b.id Nam.zero && (takesM c.b.m && rightBd c.b))) else
  bif c.k == 4 then idOk c.id && (bdEq c.b Bd.zero && takesM c.m) else false
/-- a record of the coordinator -/
structure Lr where
  k : Int
  n : Int
  s : Int
  i : Int
  c : Cm
  ids : List Nam
def Lr.zero : Lr := ⟨0, 0, 0, 0, Cm.zero, []⟩
def mayL (r : Lr) : Bool :=
  bif r.k == 1 then okI r.n 1 1099511627776 && (decide (r.s = 0) && (decide (r.i = 0) && (cmEq r.c Cm.zero && r.ids.isEmpty))) else
  bif r.k == 2 then decide (r.n = 0) && (okI r.s 0 15 && (okI r.i 0 15 && (cmEq r.c Cm.zero && r.ids.isEmpty))) else
  bif r.k == 3 then decide (r.n = 0) && (decide (r.s = 0) && (decide (r.i = 0) && (cmdOk r.c && r.ids.isEmpty))) else
  bif r.k == 4 then decide (r.n = 0) && (decide (r.s = 0) && (decide (r.i = 0) && (cmEq r.c Cm.zero && r.ids.isEmpty))) else
  bif r.k == 5 then decide (r.n = 0) && (decide (r.s = 0) && (decide (r.i = 0) && (cmEq r.c Cm.zero && (decide (r.ids.length ≤ 1024) && r.ids.all idOk)))) else false

/-! ### bytes -/
def putNam (a : Nam) : Nm := bif idOk a then layI a.s ++ layI a.i ++ layI a.g else []
def putIf (h : Bool) (n : Int) : Nm := bif h then layI n else []
def putRest (b : Bd) : Nm := layI b.m ++ putIf (hasB b.m 1) b.x ++ putIf (hasB b.m 1) b.y ++ putIf (hasB b.m 2) b.vx ++ putIf (hasB b.m 2) b.vy ++ putIf (hasB b.m 4) b.hp ++ putIf (hasB b.m 8) b.pw ++ putIf (hasB b.m 16) b.lf
def putBd (b : Bd) : Nm := bif bdOk b then putNam b.id ++ putRest b else []
def putCm (c : Cm) : Nm := bif cmdOk c then layI c.k ++
    (bif c.k == 1 then putBd c.b else bif c.k == 3 then putNam c.id ++ putRest c.b else bif c.k == 4 then putNam c.id ++ layI c.m else putNam c.id) else []
def putL {α : Type} (put : α → Nm) (l : List α) : Nm := layI l.length ++ l.flatMap put
def encT (r : Lr) : Nm :=
  layI r.k ++ (bif r.k == 1 then layI r.n else bif r.k == 2 then layI r.s ++ layI r.i else bif r.k == 3 then putCm r.c else bif r.k == 5 then putL putNam r.ids else [])
def encL (r : Lr) : Nm × Int := bif mayL r then (encT r, 0) else ([], 1)

/-- a reader: what is left of what it reads; none: it is bad -/
abbrev Rdr := Option Nm
def rdN (s : Nm) : Int × Rdr := match headI s with
  | none => (0, none)
  | some (n, k) => (n, some (s.drop k))
def rdI (r : Rdr) : Int × Rdr := match r with
  | none => (0, none)
  | some s => rdN s
def rdCount (most : Int) (r : Rdr) : Int × Rdr := bif decide ((rdI r).1 < 0) || decide (most < (rdI r).1) then (0, none) else rdI r
def rdIf (h : Bool) (r : Rdr) : Int × Rdr := bif h then rdI r else (0, r)
def namRaw (r : Rdr) : Nam × Rdr := (⟨(rdI r).1, (rdI (rdI r).2).1, (rdI (rdI (rdI r).2).2).1⟩, (rdI (rdI (rdI r).2).2).2)
def takeNam (r : Rdr) : Nam × Rdr := bif (namRaw r).2.isSome && idOk (namRaw r).1 then namRaw r else (Nam.zero, none)
def restRaw (m : Int) (r : Rdr) : Bd × Rdr :=
  let x := rdIf (hasB m 1) r
  let y := rdIf (hasB m 1) x.2
  let vx := rdIf (hasB m 2) y.2
  let vy := rdIf (hasB m 2) vx.2
  let hp := rdIf (hasB m 4) vy.2
  let pw := rdIf (hasB m 8) hp.2
  let lf := rdIf (hasB m 16) pw.2
  (⟨0, 0, 0, m, x.1, y.1, vx.1, vy.1, hp.1, pw.1, lf.1⟩, lf.2)
def takeRest (r : Rdr) : Bd × Rdr := bif okI (rdI r).1 0 31 && (restRaw (rdI r).1 (rdI r).2).2.isSome then restRaw (rdI r).1 (rdI r).2 else (Bd.zero, none)
def Bd.named (b : Bd) (a : Nam) : Bd := ⟨a.s, a.i, a.g, b.m, b.x, b.y, b.vx, b.vy, b.hp, b.pw, b.lf⟩
def takeBd (r : Rdr) : Bd × Rdr :=
  bif (takeRest (takeNam r).2).2.isSome && bdOk ((takeRest (takeNam r).2).1.named (takeNam r).1) then ((takeRest (takeNam r).2).1.named (takeNam r).1, (takeRest (takeNam r).2).2) else (Bd.zero, none)
def cmRaw (k : Int) (r : Rdr) : Cm × Rdr :=
  bif k == 1 then (⟨k, 0, 0, 0, (takeBd r).1, 0⟩, (takeBd r).2) else
  bif k == 2 then (⟨k, (takeNam r).1.s, (takeNam r).1.i, (takeNam r).1.g, Bd.zero, 0⟩, (takeNam r).2) else
  bif k == 3 then (⟨k, (takeNam r).1.s, (takeNam r).1.i, (takeNam r).1.g, (takeRest (takeNam r).2).1, 0⟩, (takeRest (takeNam r).2).2) else
  bif k == 4 then (⟨k, (takeNam r).1.s, (takeNam r).1.i, (takeNam r).1.g, Bd.zero, (rdI (takeNam r).2).1⟩, (rdI (takeNam r).2).2) else (⟨k, 0, 0, 0, Bd.zero, 0⟩, r)
def takeCm (r : Rdr) : Cm × Rdr := bif (cmRaw (rdI r).1 (rdI r).2).2.isSome && cmdOk (cmRaw (rdI r).1 (rdI r).2).1 then cmRaw (rdI r).1 (rdI r).2 else (Cm.zero, none)
def takeN {α : Type} (take : Rdr → α × Rdr) : Nat → List α → Rdr → List α × Rdr
  | 0, l, r => (l, r)
  | k + 1, l, r => bif (take r).2.isSome then takeN take k (l ++ [(take r).1]) (take r).2 else ([], none)
def takeLs {α : Type} (take : Rdr → α × Rdr) (most : Int) (r : Rdr) : List α × Rdr := takeN take (rdCount most r).1.toNat [] (rdCount most r).2
def recRaw (k : Int) (r : Rdr) : Lr × Rdr :=
  bif k == 1 then (⟨k, (rdI r).1, 0, 0, Cm.zero, []⟩, (rdI r).2) else
  bif k == 2 then (⟨k, 0, (rdI r).1, (rdI (rdI r).2).1, Cm.zero, []⟩, (rdI (rdI r).2).2) else
  bif k == 3 then (⟨k, 0, 0, 0, (takeCm r).1, []⟩, (takeCm r).2) else
  bif k == 5 then (⟨k, 0, 0, 0, Cm.zero, (takeLs takeNam 1024 r).1⟩, (takeLs takeNam 1024 r).2) else (⟨k, 0, 0, 0, Cm.zero, []⟩, r)
def doneR (r : Rdr) : Bool := match r with | some [] => true | _ => false
/-- the record whose bytes they are -/
def decL (s : Nm) : Lr × Int :=
  bif doneR (recRaw (rdI (some s)).1 (rdI (some s)).2).2 && mayL (recRaw (rdI (some s)).1 (rdI (some s)).2).1 then ((recRaw (rdI (some s)).1 (rdI (some s)).2).1, 0) else (Lr.zero, 2)

/-! ### what was laid is read -/
theorem okI_iff {n lo hi : Int} : okI n lo hi = true ↔ lo ≤ n ∧ n ≤ hi := by unfold okI; simp
theorem okI_i64 {n lo hi : Int} (h : okI n lo hi = true) (h1 : -9223372036854775808 ≤ lo := by omega) (h2 : hi ≤ 9223372036854775807 := by omega) : i64 n := by
  rw [okI_iff] at h
  exact ⟨by omega, by omega⟩
theorem rdI_lay {n : Int} (h : i64 n) (t : Nm) : rdI (some (layI n ++ t)) = (n, some t) := by
  unfold rdI rdN
  dsimp only
  rw [headI_lay n h.1 h.2 t]
  dsimp only
  rw [List.drop_left' rfl]
theorem inB_i64 {h : Bool} {n lo hi : Int} (k : inB h n lo hi = true) (h1 : -9223372036854775808 ≤ lo := by omega) (h2 : hi ≤ 9223372036854775807 := by omega) : i64 n ∧ (h = false → n = 0) := by
  unfold inB at k
  cases h
  · simp only [cond_false, decide_eq_true_eq] at k
    subst k
    exact ⟨⟨by omega, by omega⟩, fun _ => rfl⟩
  · simp only [cond_true] at k
    exact ⟨okI_i64 k h1 h2, fun h => by cases h⟩
theorem rdIf_lay {h : Bool} {n : Int} (k : i64 n ∧ (h = false → n = 0)) (t : Nm) : rdIf h (some (putIf h n ++ t)) = (n, some t) := by
  unfold rdIf putIf
  cases h
  · simp [k.2 rfl]
  · simp [rdI_lay k.1]
theorem namRaw_lay {a : Nam} (h : idOk a = true) (t : Nm) : namRaw (some (layI a.s ++ layI a.i ++ layI a.g ++ t)) = (a, some t) := by
  unfold idOk at h
  simp only [Bool.and_eq_true] at h
  obtain ⟨h1, h2, h3⟩ := h
  unfold namRaw
  simp only [List.append_assoc, rdI_lay (okI_i64 h1), rdI_lay (okI_i64 h2), rdI_lay (okI_i64 h3)]
theorem putNam_ok {a : Nam} (h : idOk a = true) : putNam a = layI a.s ++ layI a.i ++ layI a.g := by unfold putNam; rw [h]; rfl
theorem takeNam_lay {a : Nam} (h : idOk a = true) (t : Nm) : takeNam (some (putNam a ++ t)) = (a, some t) := by
  unfold takeNam
  rw [putNam_ok h, namRaw_lay h, h]
  rfl
theorem takeRest_lay {b : Bd} (h : rightBd b = true) (h0 : b.id = Nam.zero) (t : Nm) : takeRest (some (putRest b ++ t)) = (b, some t) := by
  unfold rightBd at h
  simp only [Bool.and_eq_true] at h
  obtain ⟨h1, h2, h3, h4, h5, h6, h7, h8⟩ := h
  have e : restRaw b.m (some (putIf (hasB b.m 1) b.x ++ (putIf (hasB b.m 1) b.y ++ (putIf (hasB b.m 2) b.vx ++ (putIf (hasB b.m 2) b.vy ++ (putIf (hasB b.m 4) b.hp ++ (putIf (hasB b.m 8) b.pw ++ (putIf (hasB b.m 16) b.lf ++ t)))))))) = (b, some t) := by
    unfold restRaw
    simp only [rdIf_lay (inB_i64 h2), rdIf_lay (inB_i64 h3), rdIf_lay (inB_i64 h4), rdIf_lay (inB_i64 h5), rdIf_lay (inB_i64 h6), rdIf_lay (inB_i64 h7), rdIf_lay (inB_i64 h8)]
    obtain ⟨b0, b1, b2, _, _, _, _, _, _, _, _⟩ := b
    simp only [Bd.id, Nam.zero, Nam.mk.injEq] at h0
    obtain ⟨rfl, rfl, rfl⟩ := h0
    rfl
  unfold takeRest putRest
  simp only [List.append_assoc, rdI_lay (okI_i64 h1), e, h1]
  rfl
def Bd.bare (b : Bd) : Bd := ⟨0, 0, 0, b.m, b.x, b.y, b.vx, b.vy, b.hp, b.pw, b.lf⟩
theorem takeRest_bare {b : Bd} (h : rightBd b = true) (t : Nm) : takeRest (some (putRest b ++ t)) = (b.bare, some t) := takeRest_lay (b := b.bare) h rfl t
theorem bare_named (b : Bd) : b.bare.named b.id = b := rfl
theorem bdOk_parts {b : Bd} (h : bdOk b = true) : rightBd b = true ∧ hasB b.m 1 = true ∧ idOk b.id = true := by
  unfold bdOk at h
  simpa only [Bool.and_eq_true] using h
theorem takeBd_lay {b : Bd} (h : bdOk b = true) (t : Nm) : takeBd (some (putBd b ++ t)) = (b, some t) := by
  obtain ⟨h1, h2, h3⟩ := bdOk_parts h
  unfold takeBd putBd
  rw [h]
  simp only [cond_true, List.append_assoc, takeNam_lay h3, takeRest_bare h1, bare_named, h]
  rfl
theorem takeCm_lay {c : Cm} (h : cmdOk c = true) (t : Nm) : takeCm (some (putCm c ++ t)) = (c, some t) := by
  have h' := h
  unfold cmdOk at h
  unfold takeCm putCm
  rw [h']
  obtain ⟨k, s, i, g, b, m⟩ := c
  by_cases h1 : k = 1
  · subst h1
    simp only [beq_self_eq_true, cond_true, Bool.and_eq_true, decide_eq_true_eq, neq_iff, Cm.id, Nam.zero, Nam.mk.injEq] at h
    obtain ⟨⟨rfl, rfl, rfl⟩, rfl, hb⟩ := h
    have e : cmRaw 1 (some (putBd b ++ t)) = (⟨1, 0, 0, 0, b, 0⟩, some t) := by unfold cmRaw; simp [takeBd_lay hb]
    simp only [cond_true, beq_self_eq_true, List.append_assoc, rdI_lay (⟨by omega, by omega⟩ : i64 1), e, h']
    rfl
  by_cases h2 : k = 2
  · subst h2
    simp only [(by decide : ((2 : Int) == 1) = false), (by decide : ((2 : Int) == 3) = false), (by decide : ((2 : Int) == 4) = false), cond_false, beq_self_eq_true, cond_true, Bool.and_eq_true, decide_eq_true_eq, bdEq_iff, Cm.id] at h ⊢
    obtain ⟨hi, rfl, rfl⟩ := h
    have e : cmRaw 2 (some (putNam ⟨s, i, g⟩ ++ t)) = (⟨2, s, i, g, Bd.zero, 0⟩, some t) := by unfold cmRaw; simp [takeNam_lay hi]
    simp only [List.append_assoc, rdI_lay (⟨by omega, by omega⟩ : i64 2), e, h']
    rfl
  by_cases h3 : k = 3
  · subst h3
    simp only [(by decide : ((3 : Int) == 1) = false), (by decide : ((3 : Int) == 2) = false), cond_false, beq_self_eq_true, cond_true, Bool.and_eq_true, decide_eq_true_eq, neq_iff, Cm.id] at h ⊢
    obtain ⟨hi, rfl, hz, _, hr⟩ := h
    have e : cmRaw 3 (some (putNam ⟨s, i, g⟩ ++ (putRest b ++ t))) = (⟨3, s, i, g, b, 0⟩, some t) := by unfold cmRaw; simp [takeNam_lay hi, takeRest_lay hr hz]
    simp only [List.append_assoc, rdI_lay (⟨by omega, by omega⟩ : i64 3), e, h']
    rfl
  by_cases h4 : k = 4
  · subst h4
    simp only [(by decide : ((4 : Int) == 1) = false), (by decide : ((4 : Int) == 2) = false), (by decide : ((4 : Int) == 3) = false), cond_false, beq_self_eq_true, cond_true, Bool.and_eq_true, bdEq_iff, Cm.id] at h ⊢
    obtain ⟨hi, rfl, hm⟩ := h
    unfold takesM at hm
    simp only [Bool.and_eq_true] at hm
    have e : cmRaw 4 (some (putNam ⟨s, i, g⟩ ++ (layI m ++ t))) = (⟨4, s, i, g, Bd.zero, m⟩, some t) := by unfold cmRaw; simp [takeNam_lay hi, rdI_lay (okI_i64 hm.1)]
    simp only [List.append_assoc, rdI_lay (⟨by omega, by omega⟩ : i64 4), e, h']
    rfl
  · simp only [beq_eq_false_iff_ne.2 h1, beq_eq_false_iff_ne.2 h2, beq_eq_false_iff_ne.2 h3, beq_eq_false_iff_ne.2 h4, cond_false] at h
    cases h
theorem takeN_lay {α : Type} {take : Rdr → α × Rdr} {put : α → Nm} {ok : α → Bool} (h : ∀ a t, ok a = true → take (some (put a ++ t)) = (a, some t)) (t : Nm) : ∀ (l a : List α), l.all ok = true → takeN take l.length a (some (l.flatMap put ++ t)) = (a ++ l, some t)
  | [], a, _ => by simp [takeN]
  | x :: l, a, hl => by
    rw [List.all_cons, Bool.and_eq_true] at hl
    rw [List.length_cons, takeN, List.flatMap_cons, List.append_assoc, h x _ hl.1]
    simp only [Option.isSome_some, cond_true]
    rw [takeN_lay h t l _ hl.2, List.append_assoc]
    rfl
theorem takeLs_lay {α : Type} {take : Rdr → α × Rdr} {put : α → Nm} {ok : α → Bool} (h : ∀ a t, ok a = true → take (some (put a ++ t)) = (a, some t)) (most : Nat) (l : List α) (hl : l.length ≤ most) (hm : most ≤ 1048576) (ho : l.all ok = true) (t : Nm) : takeLs take most (some (putL put l ++ t)) = (l, some t) := by
  have e : rdCount most (some (putL put l ++ t)) = ((l.length : Int), some (l.flatMap put ++ t)) := by
    unfold rdCount putL
    rw [List.append_assoc, rdI_lay (⟨by omega, by omega⟩ : i64 (l.length : Int))]
    rw [decide_eq_false (by omega : ¬ (((l.length : Int), (some (l.flatMap put ++ t) : Rdr)).1 < 0)), decide_eq_false (by dsimp only; omega)]
    rfl
  unfold takeLs
  rw [e]
  dsimp only
  rw [Int.toNat_natCast, takeN_lay h t l [] ho, List.nil_append]
theorem recRaw_lay {r : Lr} (h : mayL r = true) : ∃ s, encT r = layI r.k ++ s ∧ i64 r.k ∧ recRaw r.k (some s) = (r, some []) := by
  obtain ⟨k, n, s, i, c, ids⟩ := r
  unfold mayL at h
  unfold encT
  refine ⟨_, rfl, ?_⟩
  by_cases h1 : k = 1
  · subst h1
    simp only [beq_self_eq_true, cond_true, Bool.and_eq_true, decide_eq_true_eq, cmEq_iff, List.isEmpty_iff] at h ⊢
    obtain ⟨hn, rfl, rfl, rfl, rfl⟩ := h
    have := rdI_lay (okI_i64 hn) []
    rw [List.append_nil] at this
    exact ⟨⟨by omega, by omega⟩, by unfold recRaw; simp [this]⟩
  by_cases h2 : k = 2
  · subst h2
    simp only [(by decide : ((2 : Int) == 1) = false), beq_self_eq_true, cond_false, cond_true, Bool.and_eq_true, decide_eq_true_eq, cmEq_iff, List.isEmpty_iff] at h ⊢
    obtain ⟨rfl, hs, hi, rfl, rfl⟩ := h
    have := rdI_lay (okI_i64 hi) []
    rw [List.append_nil] at this
    exact ⟨⟨by omega, by omega⟩, by unfold recRaw; simp [rdI_lay (okI_i64 hs), this]⟩
  by_cases h3 : k = 3
  · subst h3
    simp only [(by decide : ((3 : Int) == 1) = false), (by decide : ((3 : Int) == 2) = false), beq_self_eq_true, cond_false, cond_true, Bool.and_eq_true, decide_eq_true_eq, List.isEmpty_iff] at h ⊢
    obtain ⟨rfl, rfl, rfl, hc, rfl⟩ := h
    have := takeCm_lay hc []
    rw [List.append_nil] at this
    exact ⟨⟨by omega, by omega⟩, by unfold recRaw; simp [this]⟩
  by_cases h4 : k = 4
  · subst h4
    simp only [(by decide : ((4 : Int) == 1) = false), (by decide : ((4 : Int) == 2) = false), (by decide : ((4 : Int) == 3) = false), (by decide : ((4 : Int) == 5) = false), beq_self_eq_true, cond_false, cond_true, Bool.and_eq_true, decide_eq_true_eq, cmEq_iff, List.isEmpty_iff] at h ⊢
    obtain ⟨rfl, rfl, rfl, rfl, rfl⟩ := h
    exact ⟨⟨by omega, by omega⟩, by unfold recRaw; simp⟩
  by_cases h5 : k = 5
  · subst h5
    simp only [(by decide : ((5 : Int) == 1) = false), (by decide : ((5 : Int) == 2) = false), (by decide : ((5 : Int) == 3) = false), (by decide : ((5 : Int) == 4) = false), beq_self_eq_true, cond_false, cond_true, Bool.and_eq_true, decide_eq_true_eq, cmEq_iff] at h ⊢
    obtain ⟨rfl, rfl, rfl, rfl, hl, ho⟩ := h
    have := takeLs_lay (fun a t ha => takeNam_lay ha t) 1024 ids hl (by omega) ho []
    rw [List.append_nil] at this
    exact ⟨⟨by omega, by omega⟩, by unfold recRaw; simp [show takeLs takeNam 1024 (some (putL putNam ids)) = (ids, some []) from this]⟩
  · simp only [beq_eq_false_iff_ne.2 h1, beq_eq_false_iff_ne.2 h2, beq_eq_false_iff_ne.2 h3, beq_eq_false_iff_ne.2 h4, beq_eq_false_iff_ne.2 h5, cond_false] at h
    cases h
/-- what was encoded is decoded again -/
theorem decL_enc {r : Lr} (h : mayL r = true) : decL (encT r) = (r, 0) := by
  obtain ⟨s, h1, h2, h3⟩ := recRaw_lay h
  unfold decL
  rw [h1]
  simp only [rdI_lay h2, h3, h]
  rfl
end Go.Proofs.YtndjnkjcfdaegaaGreatDoor

/-
  A pool of names, as data: what each method makes of it. Plain. No conditions of its own.
-/
namespace Go.Proofs.YtndjnkjcfdaegaaGreatDoor

/-- an index: its generation, how far it is set aside, whether it is somebody's -/
structure Ix where
  g : Int
  b : Int
  a : Bool
/-- a shard's indices, and those that are free -/
structure Sh where
  all : List Ix
  free : List Nat
abbrev Pl := List Sh

def plNew (n ids : Nat) : Pl := List.replicate n ⟨List.replicate ids ⟨0, 0, false⟩, List.range ids⟩
/-- the shard at k -/
def shAt (p : Pl) (k : Int) : Option Sh := bif decide (0 ≤ k) && decide (k < (p.length : Int)) then p[k.toNat]? else none
/-- the index at i -/
def ixIn (s : Sh) (i : Int) : Option Ix := bif decide (0 ≤ i) && decide (i < (s.all.length : Int)) then s.all[i.toNat]? else none
def ixAt (p : Pl) (k i : Int) : Option Ix := match shAt p k with
  | some s => ixIn s i
  | none => none
/-- an index is put in its place -/
def Sh.put (s : Sh) (i : Nat) (x : Ix) : Sh := ⟨s.all.set i x, s.free⟩
def plPut (p : Pl) (k : Nat) (s : Sh) : Pl := p.set k s
/-- the index that comes next -/
def headS (s : Sh) : Int × Bool × Int := match s.free with
  | [] => (0, false, 8)
  | i :: _ => ((i : Int), (match s.all[i]? with | some x => decide (x.g < x.b) | none => false), 0)
def headP (p : Pl) (k : Int) : Int × Bool × Int := match shAt p k with
  | none => (0, false, 1)
  | some s => headS s
def genP (p : Pl) (k i : Int) : Int := match ixAt p k i with
  | some x => x.g
  | none => 0
def reserveP (p : Pl) (k i : Int) : Int × Pl := match shAt p k with
  | none => (1, p)
  | some s => match ixIn s i with
    | none => (1, p)
    | some x => bif decide (x.b = 1048576) then (5, p) else (0, plPut p k.toNat (s.put i.toNat ⟨x.g, min (x.b + 8) 1048576, x.a⟩))
def aliveI (x : Ix) (g : Int) : Bool := x.a && decide (x.g = g)
def aliveP (p : Pl) (a : Nam) : Bool := match ixAt p a.s a.i with
  | none => false
  | some x => aliveI x a.g
/-- has a shard an index free? -/
def freeHas (s : Sh) (i : Int) : Bool := s.free.any (fun k => decide ((k : Int) = i))
def freeNot (s : Sh) (i : Int) : List Nat := s.free.filter (fun k => !decide ((k : Int) = i))
def takeS' (s : Sh) (x : Ix) (i g : Int) : Int × Sh :=
  bif decide (g < 0) then (1, s) else
  bif !freeHas s i then (14, s) else
  bif decide (g < x.g) || decide (x.b ≤ g) then (9, s) else
  (0, ⟨s.all.set i.toNat ⟨g, x.b, true⟩, freeNot s i⟩)
def takeP (p : Pl) (a : Nam) : Int × Pl := match shAt p a.s with
  | none => (1, p)
  | some s => match ixIn s a.i with
    | none => (1, p)
    | some x => ((takeS' s x a.i a.g).1, plPut p a.s.toNat (takeS' s x a.i a.g).2)
def freeS (s : Sh) (x : Ix) (i g : Int) : Int × Sh :=
  bif decide (g < 0) then (1, s) else
  bif !aliveI x g then (9, s) else
  (0, ⟨s.all.set i.toNat ⟨x.g + 1, x.b, false⟩, bif decide (x.g + 1 < 1048576) then s.free ++ [i.toNat] else s.free⟩)
def freeP (p : Pl) (a : Nam) : Int × Pl := match shAt p a.s with
  | none => (1, p)
  | some s => match ixIn s a.i with
    | none => (1, p)
    | some x => ((freeS s x a.i a.g).1, plPut p a.s.toNat (freeS s x a.i a.g).2)
/-- what is set aside is given up -/
def ixUp (x : Ix) : Ix := bif decide (x.g < x.b) then ⟨x.b, x.b, x.a⟩ else x
def lapseAll (A : List Ix) (l : List Nat) : List Ix := l.foldl (fun A i => A.modify i ixUp) A
def full (A : List Ix) (i : Nat) : Bool := match A[i]? with | some x => decide (x.g = 1048576) | none => false
def lapseS (s : Sh) : Sh := ⟨lapseAll s.all s.free, s.free.filter (fun i => !full (lapseAll s.all s.free) i)⟩
def lapseP (p : Pl) : Pl := p.map lapseS
/-! ### what stays so -/
structure Ix.ok (x : Ix) : Prop where
  g0 : 0 ≤ x.g
  g1 : x.g ≤ 1048576
  b0 : 0 ≤ x.b
  b1 : x.b ≤ 1048576
  al : x.a = true → x.g < 1048576
structure Sh.ok (s : Sh) : Prop where
  ix : ∀ x ∈ s.all, x.ok
  n0 : 1 ≤ s.all.length
  n1 : s.all.length ≤ 16
  nd : s.free.Nodup
  fr : ∀ i ∈ s.free, ∃ x, s.all[i]? = some x ∧ x.a = false ∧ x.g < 1048576
def plOk (p : Pl) : Prop := p.length ≤ 16 ∧ ∀ s ∈ p, s.ok
theorem nodup_le : ∀ (n : Nat) (l : List Nat), l.Nodup → (∀ i ∈ l, i < n) → l.length ≤ n
  | 0, l, _, h => by
    cases l with
    | nil => exact Nat.le_refl _
    | cons i l => exact absurd (h i (List.mem_cons_self ..)) (Nat.not_lt_zero _)
  | n + 1, l, hn, h => by
    have h1 := nodup_le n (l.erase n) (hn.erase n) fun i hi => by
      have h2 := h i (List.mem_of_mem_erase hi)
      have h3 : i ≠ n := by
        rintro rfl
        exact (hn.not_mem_erase) hi
      omega
    have h4 := List.length_erase_le (a := n) (l := l)
    by_cases hm : n ∈ l
    · have := List.length_erase_of_mem hm
      omega
    · rw [List.erase_of_not_mem hm] at h1
      omega
theorem Sh.ok.few {s : Sh} (h : s.ok) : s.free.length ≤ 16 := by
  have h1 : s.free.length ≤ s.all.length := by
    refine nodup_le _ _ h.nd fun i hi => ?_
    obtain ⟨x, hx, _⟩ := h.fr i hi
    exact (List.getElem?_eq_some_iff.1 hx).1
  exact Nat.le_trans h1 h.n1
theorem shAt_some {p : Pl} {k : Int} {s : Sh} (h : shAt p k = some s) : ∃ n : Nat, k = n ∧ p[n]? = some s := by
  unfold shAt at h
  cases hb : decide (0 ≤ k) && decide (k < (p.length : Int)) with
  | false => rw [hb] at h; cases h
  | true =>
    rw [hb, cond_true] at h
    simp only [Bool.and_eq_true, decide_eq_true_eq] at hb
    exact ⟨k.toNat, by omega, h⟩
theorem shAt_none {p : Pl} {k : Int} (h : shAt p k = none) : k < 0 ∨ (p.length : Int) ≤ k := by
  unfold shAt at h
  cases hb : decide (0 ≤ k) && decide (k < (p.length : Int)) with
  | false =>
    simp only [Bool.and_eq_false_iff, decide_eq_false_iff_not] at hb
    omega
  | true =>
    rw [hb, cond_true] at h
    simp only [Bool.and_eq_true, decide_eq_true_eq] at hb
    rw [List.getElem?_eq_none_iff] at h
    omega
theorem ixIn_some {s : Sh} {i : Int} {x : Ix} (h : ixIn s i = some x) : ∃ n : Nat, i = n ∧ s.all[n]? = some x := by
  unfold ixIn at h
  cases hb : decide (0 ≤ i) && decide (i < (s.all.length : Int)) with
  | false => rw [hb] at h; cases h
  | true =>
    rw [hb, cond_true] at h
    simp only [Bool.and_eq_true, decide_eq_true_eq] at hb
    exact ⟨i.toNat, by omega, h⟩
theorem ixIn_none {s : Sh} {i : Int} (h : ixIn s i = none) : i < 0 ∨ (s.all.length : Int) ≤ i := by
  unfold ixIn at h
  cases hb : decide (0 ≤ i) && decide (i < (s.all.length : Int)) with
  | false =>
    simp only [Bool.and_eq_false_iff, decide_eq_false_iff_not] at hb
    omega
  | true =>
    rw [hb, cond_true] at h
    simp only [Bool.and_eq_true, decide_eq_true_eq] at hb
    rw [List.getElem?_eq_none_iff] at h
    omega
theorem shAt_nat {p : Pl} {n : Nat} {s : Sh} (h : p[n]? = some s) : shAt p (n : Int) = some s := by
  have hlt := (List.getElem?_eq_some_iff.1 h).1
  unfold shAt
  rw [show (decide (0 ≤ (n : Int)) && decide ((n : Int) < (p.length : Int))) = true by simp; omega, cond_true]
  simpa using h
theorem ixIn_nat {s : Sh} {n : Nat} {x : Ix} (h : s.all[n]? = some x) : ixIn s (n : Int) = some x := by
  have hlt := (List.getElem?_eq_some_iff.1 h).1
  unfold ixIn
  rw [show (decide (0 ≤ (n : Int)) && decide ((n : Int) < (s.all.length : Int))) = true by simp; omega, cond_true]
  simpa using h
theorem plOk.sh {p : Pl} (h : plOk p) {n : Nat} {s : Sh} (hs : p[n]? = some s) : s.ok := h.2 s (List.mem_of_getElem? hs)
theorem Sh.ok.at {s : Sh} (h : s.ok) {n : Nat} {x : Ix} (hx : s.all[n]? = some x) : x.ok := h.ix x (List.mem_of_getElem? hx)
theorem plOk.put {p : Pl} (h : plOk p) (n : Nat) {s : Sh} (hs : s.ok) : plOk (plPut p n s) := by
  refine ⟨by rw [plPut, List.length_set]; exact h.1, fun t ht => ?_⟩
  rcases List.mem_or_eq_of_mem_set ht with h1 | h1
  · exact h.2 t h1
  · rw [h1]; exact hs
theorem Sh.ok.put {s : Sh} (h : s.ok) (n : Nat) {x : Ix} (hx : x.ok) {y : Ix} (hy : s.all[n]? = some y) (ha : x.a = y.a) (hg : x.g = y.g) : (s.put n x).ok := by
  have hlt := (List.getElem?_eq_some_iff.1 hy).1
  refine ⟨fun t ht => ?_, by simp [Sh.put]; exact h.n0, by simp [Sh.put]; exact h.n1, h.nd, fun i hi => ?_⟩
  · rcases List.mem_or_eq_of_mem_set ht with h1 | h1
    · exact h.ix t h1
    · rw [h1]; exact hx
  · obtain ⟨z, hz, hza, hzg⟩ := h.fr i hi
    by_cases hin : i = n
    · subst hin
      refine ⟨x, by simp [Sh.put, hlt], ?_⟩
      rw [hy] at hz
      cases hz
      rw [ha, hg]; exact ⟨hza, hzg⟩
    · exact ⟨z, by simp [Sh.put, Ne.symm hin]; exact hz, hza, hzg⟩
theorem plOk_new {n ids : Nat} (hn : n ≤ 16) (h0 : 1 ≤ ids) (h1 : ids ≤ 16) : plOk (plNew n ids) := by
  refine ⟨by simp [plNew]; exact hn, fun s hs => ?_⟩
  rw [plNew, List.mem_replicate] at hs
  rw [hs.2]
  refine ⟨fun x hx => ?_, by simp; exact h0, by simp; exact h1, List.nodup_range, fun i hi => ?_⟩
  · rw [List.mem_replicate] at hx
    rw [hx.2]
    exact ⟨by simp, by simp, by simp, by simp, fun h => by cases h⟩
  · refine ⟨⟨0, 0, false⟩, ?_, rfl, by decide⟩
    have := List.mem_range.1 hi
    simp [this]
theorem plOk.reserve {p : Pl} (h : plOk p) (k i : Int) : plOk (reserveP p k i).2 := by
  unfold reserveP
  split
  · exact h
  · rename_i s hs
    split
    · exact h
    · rename_i x hx
      cases hb : decide (x.b = 1048576)
      · obtain ⟨n, rfl, hn⟩ := shAt_some hs
        obtain ⟨m, rfl, hm⟩ := ixIn_some hx
        have hx2 := (h.sh hn).at hm
        exact h.put _ ((h.sh hn).put _ ⟨hx2.g0, hx2.g1, by have := hx2.b0; simp only; omega, by simp only; omega, hx2.al⟩ (y := x) (by simpa using hm) rfl rfl)
      · exact h
theorem plOk.take {p : Pl} (h : plOk p) (a : Nam) : plOk (takeP p a).2 := by
  unfold takeP
  split
  · exact h
  · rename_i s hs
    split
    · exact h
    · rename_i x hx
      obtain ⟨n, hn0, hn⟩ := shAt_some hs
      obtain ⟨m, hm0, hm⟩ := ixIn_some hx
      have ok := h.sh hn
      have hx2 := ok.at hm
      refine h.put _ ?_
      unfold takeS'
      cases h1 : decide (a.g < 0)
      · cases h2 : !freeHas s a.i
        · cases h3 : decide (a.g < x.g) || decide (x.b ≤ a.g)
          · simp only [cond_false]
            simp only [Bool.or_eq_false_iff, decide_eq_false_iff_not] at h3
            simp only [decide_eq_false_iff_not] at h1
            have hlt := (List.getElem?_eq_some_iff.1 hm).1
            refine ⟨fun t ht => ?_, by simpa using ok.n0, by simpa using ok.n1, ok.nd.filter _, fun i hi => ?_⟩
            · rcases List.mem_or_eq_of_mem_set ht with h4 | h4
              · exact ok.ix t h4
              · rw [h4]
                have := hx2.b1
                exact ⟨by simp only; omega, by simp only; omega, hx2.b0, hx2.b1, fun _ => by simp only; omega⟩
            · simp only [freeNot, List.mem_filter, Bool.not_eq_true', decide_eq_false_iff_not] at hi
              obtain ⟨z, hz, hza, hzg⟩ := ok.fr i hi.1
              refine ⟨z, ?_, hza, hzg⟩
              rw [List.getElem?_set, if_neg (by omega)]
              exact hz
          · exact ok
        · exact ok
      · exact ok
theorem plOk.free {p : Pl} (h : plOk p) (a : Nam) : plOk (freeP p a).2 := by
  unfold freeP
  split
  · exact h
  · rename_i s hs
    split
    · exact h
    · rename_i x hx
      obtain ⟨n, hn0, hn⟩ := shAt_some hs
      obtain ⟨m, hm0, hm⟩ := ixIn_some hx
      have ok := h.sh hn
      have hx2 := ok.at hm
      refine h.put _ ?_
      unfold freeS
      cases h1 : decide (a.g < 0)
      · cases h2 : !aliveI x a.g
        · simp only [cond_false]
          simp only [aliveI, Bool.not_eq_false', Bool.and_eq_true, decide_eq_true_eq] at h2
          have hlt := (List.getElem?_eq_some_iff.1 hm).1
          have hal := hx2.al h2.1
          have hmm : a.i.toNat = m := by omega
          have hnf : m ∉ s.free := fun hmem => by
            obtain ⟨z, hz, hza, _⟩ := ok.fr m hmem
            rw [hm] at hz
            cases hz
            rw [h2.1] at hza
            cases hza
          have hfr : ∀ i ∈ s.free, ∃ y, (s.all.set a.i.toNat ⟨x.g + 1, x.b, false⟩)[i]? = some y ∧ y.a = false ∧ y.g < 1048576 := fun i hi => by
            obtain ⟨z, hz, hza, hzg⟩ := ok.fr i hi
            refine ⟨z, ?_, hza, hzg⟩
            rw [List.getElem?_set, if_neg (by rintro rfl; exact hnf (hmm ▸ hi))]
            exact hz
          refine ⟨fun t ht => ?_, by simpa using ok.n0, by simpa using ok.n1, ?_, ?_⟩
          · rcases List.mem_or_eq_of_mem_set ht with h4 | h4
            · exact ok.ix t h4
            · rw [h4]
              have := hx2.g0
              exact ⟨by simp only; omega, by simp only; omega, hx2.b0, hx2.b1, fun h => by cases h⟩
          · cases hc : decide (x.g + 1 < 1048576)
            · exact ok.nd
            · simp only [cond_true]
              rw [List.nodup_append]
              refine ⟨ok.nd, by simp, fun i hi j hj => ?_⟩
              simp only [List.mem_singleton] at hj
              rintro rfl
              exact hnf (by rw [← hmm, ← hj]; exact hi)
          · cases hc : decide (x.g + 1 < 1048576)
            · exact hfr
            · simp only [cond_true]
              intro i hi
              rcases List.mem_append.1 hi with hi | hi
              · exact hfr i hi
              · simp only [List.mem_singleton] at hi
                subst hi
                exact ⟨⟨x.g + 1, x.b, false⟩, by simp [hmm, hlt], rfl, by simpa using hc⟩
        · exact ok
      · exact ok
theorem ixUp_ok {x : Ix} (h : x.ok) (ha : x.a = false) : (ixUp x).ok := by
  unfold ixUp
  cases hb : decide (x.g < x.b)
  · exact h
  · exact ⟨h.b0, h.b1, h.b0, h.b1, fun h2 => by simp only [cond_true] at h2; rw [ha] at h2; cases h2⟩
theorem ixUp_a (x : Ix) : (ixUp x).a = x.a := by
  unfold ixUp
  cases decide (x.g < x.b) <;> rfl
theorem lapseAll_length : ∀ (l : List Nat) (A : List Ix), (lapseAll A l).length = A.length
  | [], _ => rfl
  | i :: l, A => by
    show (lapseAll (A.modify i ixUp) l).length = A.length
    rw [lapseAll_length l, List.length_modify]
theorem lapseAll_get : ∀ (l : List Nat) (A : List Ix) (i : Nat) (x : Ix), A[i]? = some x → ∃ y, (lapseAll A l)[i]? = some y ∧ y.a = x.a
  | [], _, _, x, h => ⟨x, h, rfl⟩
  | j :: l, A, i, x, h => by
    by_cases hij : j = i
    · obtain ⟨y, hy, hya⟩ := lapseAll_get l (A.modify j ixUp) i (ixUp x) (by simp [hij, h])
      exact ⟨y, hy, by rw [hya, ixUp_a]⟩
    · exact lapseAll_get l (A.modify j ixUp) i x (by simp [hij, h])
theorem lapseAll_at : ∀ (l : List Nat) (A : List Ix) (i : Nat), l.Nodup → (lapseAll A l)[i]? = A[i]?.map (fun x => bif decide (i ∈ l) then ixUp x else x)
  | [], A, i, _ => by simp [lapseAll]
  | j :: l, A, i, hn => by
    rw [List.nodup_cons] at hn
    show (lapseAll (A.modify j ixUp) l)[i]? = _
    rw [lapseAll_at l _ i hn.2, List.getElem?_modify]
    by_cases hij : j = i
    · subst hij
      rw [decide_eq_false hn.1, decide_eq_true (List.mem_cons_self ..)]
      cases A[j]? <;> simp
    · by_cases hl : i ∈ l
      · rw [decide_eq_true hl, decide_eq_true (List.mem_cons_of_mem _ hl)]
        cases A[i]? <;> simp [hij]
      · rw [decide_eq_false hl, decide_eq_false (by simp [hl, Ne.symm hij])]
        cases A[i]? <;> simp [hij]
theorem lapseAll_ok : ∀ (l : List Nat) (A : List Ix), (∀ x ∈ A, x.ok) → (∀ i ∈ l, ∃ x, A[i]? = some x ∧ x.a = false) → ∀ x ∈ lapseAll A l, x.ok
  | [], _, h, _ => h
  | j :: l, A, h, hl => by
    refine lapseAll_ok l (A.modify j ixUp) (fun x hx => ?_) (fun i hi => ?_)
    · obtain ⟨i, hi, rfl⟩ := List.getElem_of_mem hx
      rw [List.length_modify] at hi
      by_cases hij : j = i
      · subst hij
        obtain ⟨y, hy, hya⟩ := hl j (List.mem_cons_self ..)
        rw [List.getElem_modify, if_pos rfl]
        have := (List.getElem?_eq_some_iff.1 hy).2
        rw [this]
        exact ixUp_ok (h y (List.mem_of_getElem? hy)) hya
      · rw [List.getElem_modify, if_neg hij]
        exact h _ (List.getElem_mem hi)
    · obtain ⟨y, hy, hya⟩ := hl i (List.mem_cons_of_mem _ hi)
      by_cases hij : j = i
      · exact ⟨ixUp y, by simp [hij, hy], by rw [ixUp_a, hya]⟩
      · exact ⟨y, by simp [hij, hy], hya⟩
theorem Sh.ok.lapse {s : Sh} (h : s.ok) : (lapseS s).ok := by
  refine ⟨lapseAll_ok _ _ h.ix (fun i hi => by obtain ⟨x, hx, hxa, _⟩ := h.fr i hi; exact ⟨x, hx, hxa⟩), by rw [lapseS, lapseAll_length]; exact h.n0, by rw [lapseS, lapseAll_length]; exact h.n1, h.nd.filter _, fun i hi => ?_⟩
  simp only [lapseS, List.mem_filter] at hi
  obtain ⟨x, hx, hxa, _⟩ := h.fr i hi.1
  obtain ⟨y, hy, hya⟩ := lapseAll_get s.free s.all i x hx
  refine ⟨y, hy, by rw [hya, hxa], ?_⟩
  have hfull := hi.2
  unfold full at hfull
  rw [hy] at hfull
  simp only [Bool.not_eq_true', decide_eq_false_iff_not] at hfull
  have := (lapseAll_ok s.free s.all h.ix (fun i hi => by obtain ⟨x, hx, hxa, _⟩ := h.fr i hi; exact ⟨x, hx, hxa⟩) y (List.mem_of_getElem? hy)).g1
  omega
theorem plOk.lapse {p : Pl} (h : plOk p) : plOk (lapseP p) := by
  refine ⟨by rw [lapseP, List.length_map]; exact h.1, fun s hs => ?_⟩
  obtain ⟨t, ht, rfl⟩ := List.mem_map.1 hs
  exact (h.2 t ht).lapse
end Go.Proofs.YtndjnkjcfdaegaaGreatDoor

/-
  octet.head: the number with which bytes begin. No conditions of its own.
-/
namespace Go.Proofs.YtndjnkjcfdaegaaGreatDoor
open Go.RowKit Go.Joins

theorem keeps_bytes0 (w : World) (e : TypeId) (s : ByteArray) : Keeps No w (Lib.bytesWorld w e s) :=
  have h := below_bytesWorld w.heap.size w e s (Nat.le_refl _)
  ⟨h.os, h.tape, h.output, h.size, fun k hk _ => h.block k hk⟩

theorem byte0 {s : ByteArray} {x : UInt8} {t : Nm} (he : s.data.toList = x :: t) (hp : 0 < s.size) : s[0] = x := by
  have h1 : s.data.toList[0]'(by rw [he]; simp) = x := by simp [he]
  have h2 : s.data[0] = x := by simpa using h1
  exact h2
theorem byte1 {s : ByteArray} {x y : UInt8} {t : Nm} (he : s.data.toList = x :: y :: t) (hp : 1 < s.size) : s[1] = y := by
  have h1 : s.data.toList[1]'(by rw [he]; simp) = y := by simp [he]
  have h2 : s.data[1] = y := by simpa using h1
  exact h2
theorem u8_and127 : ∀ x : Fin 256, bits .and .u8 (x.1 : Int) 127 = ((x.1 % 128 : Nat) : Int) := by decide +kernel
theorem u8_and (x : Nat) (h : x < 256) : bits .and .u8 (x : Int) 127 = ((x % 128 : Nat) : Int) := u8_and127 ⟨x, h⟩
/-- what the program puts together -/
def accI (l : Nm) : Int := l.foldl (fun n x => bits .or .i64 (IntKind.i64.wrap (n * 256)) (x.toNat : Int)) 0
theorem accI_snoc (l : Nm) (x : UInt8) : accI (l ++ [x]) = bits .or .i64 (IntKind.i64.wrap (accI l * 256)) (x.toNat : Int) := by simp [accI]
theorem toNat_wrap (n : Int) : (BitVec.ofInt 64 (IntKind.i64.wrap n)).toNat = (n % 18446744073709551616).toNat := by
  rw [toNat_ofInt64, IntKind.wrap_i64]
  omega
theorem or_byte (m : Nat) (x : Nat) (hm : m < 72057594037927936) (hx : x < 256) : bits .or .i64 (IntKind.i64.wrap ((m : Int) * 256)) (x : Int) = IntKind.i64.wrap ((256 * m + x : Nat) : Int) := by
  show IntKind.i64.wrap ((BitVec.ofInt 64 (IntKind.i64.wrap ((m : Int) * 256)) ||| BitVec.ofInt 64 (x : Int)).toNat : Int) = _
  rw [BitVec.toNat_or, toNat_wrap, toNat_ofInt64]
  have e1 : ((m : Int) * 256 % 18446744073709551616).toNat = m * 256 := by omega
  have e2 : ((x : Int) % 18446744073709551616).toNat = x := by omega
  have o2 : m * 256 ||| x = m * 256 + x := by
    have := Nat.shiftLeft_add_eq_or_of_lt (i := 8) (b := x) (by omega) m
    rw [Nat.shiftLeft_eq] at this
    exact this.symm
  rw [e1, e2, o2, Nat.mul_comm m 256]
theorem accI_num (l : Nm) (h : l.length ≤ 8) : accI l = IntKind.i64.wrap (onum l : Int) := by
  induction l using snocInd with
  | h0 => rfl
  | h1 s x ih =>
    rw [List.length_append, List.length_singleton] at h
    have h7 := onum_lt s
    have h8 : 256 ^ s.length ≤ 256 ^ 7 := Nat.pow_le_pow_right (by omega) (by omega)
    have e7 : (256 : Nat) ^ 7 = 72057594037927936 := by decide
    have hx := x.toNat_lt
    rw [accI_snoc, ih (by omega), onum_append]
    have e : IntKind.i64.wrap (onum s : Int) = (onum s : Int) := by rw [IntKind.wrap_i64]; omega
    rw [e]
    exact or_byte (onum s) x.toNat (by omega) (by omega)
theorem not_i64 (V : Int) (h1 : -9223372036854775808 ≤ V) (h2 : V ≤ 9223372036854775807) : bits .xor .i64 (-1) V = -V - 1 := by
  show IntKind.i64.wrap ((BitVec.ofInt 64 (-1) ^^^ BitVec.ofInt 64 V).toNat : Int) = _
  rw [show BitVec.ofInt 64 (-1) = BitVec.allOnes 64 by decide, BitVec.allOnes_xor, BitVec.toNat_not, toNat_ofInt64, IntKind.wrap_i64]
  omega
theorem onum_from (l : Nm) (a : Nat) : l.foldl (fun n x => 256 * n + x.toNat) a = a * 256 ^ l.length + onum l := by
  induction l using snocInd with
  | h0 => simp [onum]
  | h1 s x ih =>
    rw [List.foldl_append, ih, onum_append, List.length_append, List.length_singleton, Nat.pow_succ]
    simp only [List.foldl_cons, List.foldl_nil]
    rw [Nat.mul_add, ← Nat.mul_assoc, Nat.mul_comm 256 a, Nat.mul_assoc, Nat.mul_comm 256]
    omega
theorem onum_cons (y : UInt8) (l : Nm) : onum (y :: l) = y.toNat * 256 ^ l.length + onum l := by
  have := onum_from l y.toNat
  rw [← this]
  simp [onum]
def headV (o : Option (Int × Nat)) : Value := match o with
  | none => .tuple #[.int .i64 0, .int .i64 0, .bool false]
  | some (n, k) => .tuple #[.int .i64 n, .int .i64 k, .bool true]
theorem head_none (w : World) (s : ByteArray) (hs : s.size = 0) : Calls Tryz.prog 90 #[.string s] w fun e w' => e = .returned (headV (headI s.data.toList)) ∧ Keeps No w w' := by
  have he : s.data.toList = [] := by
    apply List.eq_nil_of_length_eq_zero
    simpa using hs
  have h0 : s.toList = [] := by rw [ByteArray.toList_eq]; exact he
  have h1 : s.toList.isEmpty = true := by rw [h0]; rfl
  rw [he]
  have H : Hid (headV (headI []) = .tuple #[.int .i64 0, .int .i64 0, .bool false]) := Lib.hid rfl
  rw [H.out]
  clear hs he
  go_enter Tryz.func90, Tryz.ntmps90
  go_wp2
  go_ret3
  exact ⟨rfl, Keeps.refl _⟩
set_option maxRecDepth 100000 in
set_option maxHeartbeats 1000000 in
theorem head_far (w : World) (s : ByteArray) (x : UInt8) (t : Nm) (he : s.data.toList = x :: t) (hsz : (s.size : Int) ≤ 140737488355328) (hb : 8 < x.toNat % 128 ∨ t.length < x.toNat % 128) : Calls Tryz.prog 90 #[.string s] w fun e w' => e = .returned (headV (headI s.data.toList)) ∧ Keeps No w w' := by
  have hz : s.size = t.length + 1 := by
    have := congrArg List.length he
    simpa using this
  have h1 : s.toList.isEmpty = false := by rw [ByteArray.toList_eq, he]; rfl
  have hp : 0 < s.size := by omega
  have g0 : s[0] = x := byte0 he hp
  have hx := x.toNat_lt
  have ha := u8_and x.toNat hx
  have H : Hid (headV (headI s.data.toList) = .tuple #[.int .i64 0, .int .i64 0, .bool false]) := by
    refine Lib.hid ?_
    rw [he, headI]
    have : headBad x t = true := by
      unfold headBad
      rcases hb with h | h
      · rw [decide_eq_true h]; rfl
      · rw [decide_eq_true h]; simp
    rw [this]
    rfl
  rw [H.out]
  obtain ⟨X, hX⟩ : ∃ X, X = x.toNat := ⟨_, rfl⟩
  obtain ⟨K, hK⟩ : ∃ K, K = X % 128 := ⟨_, rfl⟩
  rw [← hX] at hb hx ha
  rw [← hK] at ha hb
  have g1 : s[0].toNat = X := by rw [g0, hX]
  have hk : K < 128 := by omega
  clear g0 hX hK he
  have HZ := Lib.hid hz
  clear hz
  by_cases h8 : 8 < K
  · clear hb
    have h8i : (8 : Int) < (K : Int) := by omega
    go_enter Tryz.func90, Tryz.ntmps90
    go_wp2
    go_ret3
    exact ⟨rfl, Keeps.refl _⟩
  · have h8i : ¬ (8 : Int) < (K : Int) := by omega
    have hli : (s.size : Int) ≤ (K : Int) := by have := HZ.out; omega
    have hlk : s.size ≤ K := by have := HZ.out; omega
    clear hb
    go_enter Tryz.func90, Tryz.ntmps90
    go_wp2
    go_ret3
    exact ⟨rfl, Keeps.refl _⟩
/-- the cut of a string behind its first byte -/
theorem cut1 {s : ByteArray} {x : UInt8} {t : Nm} (he : s.data.toList = x :: t) (K : Nat) (hK : K ≤ t.length) : (s.extract 1 (1 + K)).data.toList = t.take K ∧ (s.extract 1 (1 + K)).size = K := by
  have h : (s.extract 1 (1 + K)).data.toList = t.take K := by
    rw [← ByteArray.toList_eq, Lib.extract_toList, he]
    simp
  refine ⟨h, ?_⟩
  have h2 := congrArg List.length h
  rw [List.length_take, Nat.min_eq_left hK] at h2
  have h3 : ∀ b : ByteArray, b.data.toList.length = b.size := fun b => by simp
  rw [h3] at h2
  exact h2
set_option maxRecDepth 100000 in
set_option maxHeartbeats 2000000 in
theorem head_in (w : World) (s : ByteArray) (x : UInt8) (t : Nm) (he : s.data.toList = x :: t) (hsz : (s.size : Int) ≤ 140737488355328) (h8 : x.toNat % 128 ≤ 8) (hl : x.toNat % 128 ≤ t.length) : Calls Tryz.prog 90 #[.string s] w fun e w' => e = .returned (headV (headI s.data.toList)) ∧ Keeps No w w' := by
  have hz : s.size = t.length + 1 := by
    have := congrArg List.length he
    simpa using this
  have h1 : s.toList.isEmpty = false := by rw [ByteArray.toList_eq, he]; rfl
  have hp : 0 < s.size := by omega
  have g0 : s[0] = x := byte0 he hp
  have hx := x.toNat_lt
  have ha := u8_and x.toNat hx
  obtain ⟨C, hC⟩ : ∃ C, C = s.extract 1 (1 + x.toNat % 128) := ⟨_, rfl⟩
  obtain ⟨hcl, hcs⟩ := cut1 he _ hl
  rw [← hC] at hcl hcs
  obtain ⟨X, hX⟩ : ∃ X, X = x.toNat := ⟨_, rfl⟩
  obtain ⟨K, hK⟩ : ∃ K, K = X % 128 := ⟨_, rfl⟩
  have HX := Lib.hid hX
  have HK := Lib.hid hK
  rw [← hX] at h8 hl hx ha hC hcl hcs
  rw [← hK] at ha h8 hl hC hcl hcs
  have g1 : s[0].toNat = X := by rw [g0, hX]
  have hk : K < 128 := by omega
  have h8i : ¬ (8 : Int) < (K : Int) := by omega
  have hli : ¬ (s.size : Int) ≤ (K : Int) := by omega
  have hlk : ¬ s.size ≤ K := by omega
  have h8n : ¬ 8 < K := by omega
  obtain ⟨M, hM⟩ : ∃ M, M = 1 + K := ⟨_, rfl⟩
  have he1 : s.extract 1 M = C := by rw [hM]; exact hC.symm
  have e1 : (1 : Int) + (K : Int) = (M : Int) := by omega
  have e2 : M ≤ s.size := by omega
  have e3 : (M : Int) ≤ (s.size : Int) := by omega
  have e4 : (1 : Int) ≤ (M : Int) := by omega
  have e5 : 1 ≤ M := by omega
  have HM := Lib.hid hM
  clear hM
  obtain ⟨R, hR⟩ : ∃ R, R = headV (headI s.data.toList) := ⟨_, rfl⟩
  rw [← hR]
  have HR := Lib.hid hR
  clear hR
  have hcv := Lib.run_convert_string_bytes (P := Tryz.prog) w 9 163 5 C Tryz.underlying9 Tryz.underlying163 Tryz.underlying5
  have hcell := Lib.bytesWorld_cell w 5 C
  have hkb := keeps_bytes0 w 5 C
  generalize grownCap w C.size 0 5 = cap at hcv
  generalize Lib.bytesWorld w 5 C = W at hcv hcell hkb
  rw [hcs] at hcv hcell
  rw [hcl] at hcell
  have Hcell := Lib.hid hcell
  have KB := Lib.hid hkb
  clear hcell hkb
  obtain ⟨L, hL⟩ : ∃ L, L = t.take K := ⟨_, rfl⟩
  have hLl : L.length = K := by rw [hL, List.length_take, Nat.min_eq_left hl]
  rw [← hL] at Hcell
  have HL := Lib.hid hL
  have HLl := Lib.hid hLl
  clear hL hLl hcl hcs
  have HE := Lib.hid he
  have HZ := Lib.hid hz
  clear g0 hX hK he hz hC
  go_enter Tryz.func90, Tryz.ntmps90
  go_wp2
  go_loop [6, 36] (fun n q => ∃ j : Nat, j ≤ K ∧ q = .int .i64 j ∧ n = .int .i64 (accI (L.take j))) (fun _ q => K - (intOf q).toNat)
  case atStart => exact ⟨0, Nat.zero_le _, rfl, rfl⟩
  case round =>
    obtain ⟨j, hj, rfl, rfl⟩ := hrel
    by_cases hlt : j < K
    · have hc := Hcell.out j hlt
      have hjl : j < L.length := by rw [HLl.out]; exact hlt
      have Hs := accI_snoc (L.take j) L[j]
      rw [← List.take_succ_eq_append_getElem hjl] at Hs
      have hg : L.getD j 0 = L[j] := by simp [List.getD, hjl]
      rw [hg] at hc
      obtain ⟨c, hce⟩ : ∃ c, c = L[j].toNat := ⟨_, rfl⟩
      have hcz : c < 256 := by rw [hce]; exact L[j].toNat_lt
      rw [← hce] at hc Hs
      obtain ⟨N, hN⟩ : ∃ N, N = accI (L.take j) := ⟨_, rfl⟩
      rw [← hN] at Hs ⊢
      have hk0 : (0 : Int) ≤ (j : Int) := by omega
      have HS := Lib.hid Hs
      clear Hs hN hce hg
      go_wp2
      go_round
      case rel => exact ⟨j + 1, by omega, by go_num, by rw [HS.out, IntWalk.i64_left]⟩
      case measure => simp [intOf]; omega
    · have hjK : K = j := by omega
      subst hjK
      have ht : L.take K = L := List.take_of_length_le (by rw [HLl.out]; exact Nat.le_refl _)
      rw [ht]
      have hV := accI_num L (by rw [HLl.out]; exact h8)
      obtain ⟨V, hVe⟩ : ∃ V, V = accI L := ⟨_, rfl⟩
      rw [← hVe] at hV ⊢
      have HV := Lib.hid hV
      have HB : Hid (headI s.data.toList = bif headBad x t then none else some (headVal x t, 1 + x.toNat % 128)) := by rw [HE.out]; exact Lib.hid rfl
      have e6 : x.toNat % 128 = K := by rw [← HX.out, HK.out]
      have HBad : Hid (headBad x t = ((decide (0 < K) && ((t.getD 0 0).toNat == 0)) || (decide (K = 8) && decide (127 < (t.getD 0 0).toNat)))) := by
        refine Lib.hid ?_
        unfold headBad
        rw [e6, decide_eq_false (by omega), decide_eq_false (by omega)]
        rfl
      have HVal : Hid (headVal x t = bif decide (127 < X) then -(onum L : Int) - 1 else (onum L : Int)) := by
        refine Lib.hid ?_
        unfold headVal
        rw [e6, HX.out, HL.out]
      rw [e6] at HB
      have honum := onum_lt L
      rw [HLl.out] at honum
      clear hV hVe ht hlt e6
      by_cases hk0 : K = 0
      · subst hk0
        have hv0 : V = 0 := by
          rw [HV.out]
          have : onum L = 0 := by simp at honum; exact honum
          rw [this]
          rfl
        have ho : onum L = 0 := by simp at honum; exact honum
        subst hv0
        have hb : headBad x t = false := by rw [HBad.out]; rfl
        have HF : Hid (R = .tuple #[.int .i64 (bif decide (127 < X) then -1 else 0), .int .i64 1, .bool true]) := by
          rw [HR.out, HB.out, hb, HVal.out, ho]
          exact Lib.hid rfl
        clear honum ho hb
        have HB := Lib.hid trivial
        by_cases h127 : 127 < X
        · rw [decide_eq_true h127] at HF
          have h127i : (127 : Int) < (X : Int) := by omega
          go_wp2
          go_ret3
          exact ⟨by rw [HF.out]; rfl, KB.out⟩
        · rw [decide_eq_false h127] at HF
          have h127i : ¬ (127 : Int) < (X : Int) := by omega
          go_wp2
          go_ret3
          exact ⟨by rw [HF.out]; rfl, KB.out⟩
      · obtain ⟨y, t', rfl⟩ : ∃ y t', t = y :: t' := by
          cases t with
          | nil => simp at hl; omega
          | cons y t' => exact ⟨y, t', rfl⟩
        have hs1 : 1 < s.size := by rw [HZ.out]; simp
        have hs1i : (1 : Int) < (s.size : Int) := by omega
        have gy := byte1 HE.out hs1
        simp only [List.getD_cons_zero] at HBad
        have hy := y.toNat_lt
        have hkpos : (0 : Int) < (K : Int) := by omega
        obtain ⟨Y, hY⟩ : ∃ Y, Y = y.toNat := ⟨_, rfl⟩
        rw [← hY] at HBad hy
        have gy1 : s[1].toNat = Y := by rw [gy, hY]
        have hV8 : (K = 8 ∧ 127 < Y → V < 0) ∧ (¬ (K = 8 ∧ 127 < Y) → V = (onum L : Int) ∧ V ≤ 9223372036854775807) := by
          have hVw := HV.out
          rw [IntKind.wrap_i64] at hVw
          have hKL : L = y :: t'.take (K - 1) := by
            rw [HL.out]
            cases K with
            | zero => omega
            | succ K => rw [List.take_succ_cons, Nat.add_sub_cancel]
          have hfirst : onum L = y.toNat * 256 ^ (K - 1) + onum (t'.take (K - 1)) := by
            rw [hKL]
            have := onum_cons y (t'.take (K - 1))
            rw [this]
            congr 3
            rw [List.length_take]
            have := List.length_cons ▸ hl
            omega
          rw [← hY] at hfirst
          have hlow := onum_lt (t'.take (K - 1))
          have hll : (t'.take (K - 1)).length ≤ K - 1 := List.length_take_le _ _
          have hpl : 256 ^ (t'.take (K - 1)).length ≤ 256 ^ (K - 1) := Nat.pow_le_pow_right (by omega) hll
          by_cases hK8 : K = 8
          · have e7 : (256 : Nat) ^ (K - 1) = 72057594037927936 := by rw [hK8]
            rw [e7] at hfirst hpl
            constructor
            · rintro ⟨_, hb⟩
              omega
            · intro hb
              have : ¬ 127 < Y := fun h => hb ⟨hK8, h⟩
              omega
          · have h7 : 256 ^ K ≤ 256 ^ 7 := Nat.pow_le_pow_right (by omega) (by omega)
            have e7 : (256 : Nat) ^ 7 = 72057594037927936 := by decide
            refine ⟨fun h => absurd h.1 hK8, fun _ => ?_⟩
            omega
        have HV8 := Lib.hid hV8
        clear gy hY hV8
        rw [decide_eq_true (show 0 < K by omega), Bool.true_and] at HBad
        by_cases hy0 : Y = 0
        · subst hy0
          have hb : headBad x (y :: t') = true := by rw [HBad.out]; rfl
          have HF : Hid (R = .tuple #[.int .i64 0, .int .i64 0, .bool false]) := by
            rw [HR.out, HB.out, hb]
            exact Lib.hid rfl
          clear honum hb HBad HVal HB
          go_wp2
          go_ret3
          exact ⟨by rw [HF.out]; rfl, KB.out⟩
        · have hy0i : ((Y : Int) == 0) = false := by simpa using hy0
          by_cases hbig : K = 8 ∧ 127 < Y
          · have hneg : V < 0 := HV8.out.1 hbig
            have hb : headBad x (y :: t') = true := by rw [HBad.out, decide_eq_true hbig.1, decide_eq_true hbig.2]; simp
            have HF : Hid (R = .tuple #[.int .i64 0, .int .i64 0, .bool false]) := by
              rw [HR.out, HB.out, hb]
              exact Lib.hid rfl
            clear honum hb HBad HVal HB hbig
            go_wp2
            go_ret3
            exact ⟨by rw [HF.out]; rfl, KB.out⟩
          · have hV2 := (HV8.out.2 hbig).1
            have hV3 := (HV8.out.2 hbig).2
            have hneg : ¬ V < 0 := by omega
            have hb : headBad x (y :: t') = false := by
              rw [HBad.out, beq_eq_false_iff_ne.2 hy0, Bool.false_or]
              by_cases h : K = 8
              · rw [decide_eq_false (show ¬ 127 < Y by omega), Bool.and_false]
              · rw [decide_eq_false h, Bool.false_and]
            have HF : Hid (R = .tuple #[.int .i64 (bif decide (127 < X) then -V - 1 else V), .int .i64 (M : Int), .bool true]) := by
              rw [HR.out, HB.out, hb, HVal.out, hV2, HM.out]
              exact Lib.hid rfl
            have hxor : bits .xor .i64 (-1) V = -V - 1 := by rw [hV2]; exact not_i64 _ (by omega) (by omega)
            clear honum hb HBad HVal HB hbig hV2
            by_cases h127 : 127 < X
            · rw [decide_eq_true h127] at HF
              have h127i : (127 : Int) < (X : Int) := by omega
              go_wp2
              go_ret3
              exact ⟨by rw [HF.out]; rfl, KB.out⟩
            · rw [decide_eq_false h127] at HF
              have h127i : ¬ (127 : Int) < (X : Int) := by omega
              go_wp2
              go_ret3
              exact ⟨by rw [HF.out]; rfl, KB.out⟩
/-- the number with which a string begins -/
theorem octHead_any (w : World) (s : ByteArray) (hsz : (s.size : Int) ≤ 140737488355328) : Calls Tryz.prog 90 #[.string s] w fun e w' => e = .returned (headV (headI s.data.toList)) ∧ Keeps No w w' := by
  cases he : s.data.toList with
  | nil =>
    rw [← he]
    refine head_none w s ?_
    have := congrArg List.length he
    simpa using this
  | cons x t =>
    rw [← he]
    by_cases h8 : 8 < x.toNat % 128
    · exact head_far w s x t he hsz (.inl h8)
    · by_cases hl : t.length < x.toNat % 128
      · exact head_far w s x t he hsz (.inr hl)
      · exact head_in w s x t he hsz (by omega) (by omega)
end Go.Proofs.YtndjnkjcfdaegaaGreatDoor

