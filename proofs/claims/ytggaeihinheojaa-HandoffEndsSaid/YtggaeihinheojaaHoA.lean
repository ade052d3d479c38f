/-
  Handoff: entities, Outs, Ins, records and messages as plain data, and as the values that the program has for them; the leaves of the packages. No conditions of its own.
-/
import Derived.Test.YtggaeihinheojaaRowsOf
namespace Go.Proofs.Ytggaeihinheojaa
open Go.RowKit

/-- An entity: its name, and its components. -/
structure Bd where
  s : Int
  i : Int
  g : Int
  m : Int
  x : Int
  y : Int
  vx : Int
  vy : Int
  hp : Int
  pw : Int
  lf : Int
/-- An Out: its number, its target, its state, the entity. -/
structure Ou where
  n : Int
  to : Int
  st : Int
  b : Bd
/-- An In: its source, its number, the entity. -/
structure Inn where
  f : Int
  n : Int
  b : Bd
def Bd.zero : Bd := ⟨0, 0, 0, 0, 0, 0, 0, 0, 0, 0, 0⟩
abbrev bdC (b : Bd) : List Value := [.int .i64 b.s, .int .i64 b.i, .int .i64 b.g, .int .i64 b.m, .int .i64 b.x, .int .i64 b.y, .int .i64 b.vx, .int .i64 b.vy, .int .i64 b.hp, .int .i64 b.pw, .int .i64 b.lf]
abbrev ouC (o : Ou) : List Value := [.int .i64 o.n, .int .i64 o.to, .int .i64 o.st, .int .i64 o.b.s, .int .i64 o.b.i, .int .i64 o.b.g, .int .i64 o.b.m, .int .i64 o.b.x, .int .i64 o.b.y, .int .i64 o.b.vx, .int .i64 o.b.vy, .int .i64 o.b.hp, .int .i64 o.b.pw, .int .i64 o.b.lf]
abbrev inC (x : Inn) : List Value := [.int .i64 x.f, .int .i64 x.n, .int .i64 x.b.s, .int .i64 x.b.i, .int .i64 x.b.g, .int .i64 x.b.m, .int .i64 x.b.x, .int .i64 x.b.y, .int .i64 x.b.vx, .int .i64 x.b.vy, .int .i64 x.b.hp, .int .i64 x.b.pw, .int .i64 x.b.lf]
def cBd : Codec Bd := ⟨bdC, 11, fun _ => rfl, fun a u h => by simp [bdC] at h; rcases h with rfl | rfl | rfl | rfl | rfl | rfl | rfl | rfl | rfl | rfl | rfl <;> rfl, by decide⟩
def cOu : Codec Ou := ⟨ouC, 14, fun _ => rfl, fun a u h => by simp [ouC] at h; rcases h with rfl | rfl | rfl | rfl | rfl | rfl | rfl | rfl | rfl | rfl | rfl | rfl | rfl | rfl <;> rfl, by decide⟩
def cIn : Codec Inn := ⟨inC, 13, fun _ => rfl, fun a u h => by simp [inC] at h; rcases h with rfl | rfl | rfl | rfl | rfl | rfl | rfl | rfl | rfl | rfl | rfl | rfl | rfl <;> rfl, by decide⟩
/-- a record without commands, list and state -/
abbrev recV (k n f : Int) (b : Bd) : Value := .agg #[.int .i64 k, .int .i64 n, .int .i64 f, .slice none 0 0, .int .i64 b.s, .int .i64 b.i, .int .i64 b.g, .int .i64 b.m, .int .i64 b.x, .int .i64 b.y, .int .i64 b.vx, .int .i64 b.vy, .int .i64 b.hp, .int .i64 b.pw, .int .i64 b.lf, .slice none 0 0,
  .int .i64 0, .int .i64 0, .slice none 0 0, .slice none 0 0, .slice none 0 0, .slice none 0 0, .slice none 0 0, .int .i64 0]
/-- a message without lists -/
abbrev msgV (k n : Int) : Value := .agg #[.int .i64 k, .int .i64 0, .int .i64 n, .slice none 0 0, .slice none 0 0, .slice none 0 0]

set_option maxRecDepth 100000 in
set_option maxHeartbeats 2000000 in
theorem yes_tt (k n f : Int) (b : Bd) (kind : Int) (w : World) : Calls Try.prog 31 #[recV k n f b, .bool true, .int .i64 kind, .bool true] w fun e w' =>
    e = .returned (.tuple #[recV k n f b, .bool true, msgV kind n, .bool true]) ∧ Keeps No w w' := by
  go_enter Try.func31, Try.ntmps31
  go_wp2
  go_region
  all_goals
    go_wp2
    exact bodyPost_ret (v := .tuple #[recV k n f b, .bool true, msgV kind n, .bool true]) (by simp [results, Try.results31, go_sem]) rfl ⟨rfl, ((((((Keeps.refl _).alloc _).alloc _).alloc _).alloc _).drew)⟩
set_option maxRecDepth 100000 in
set_option maxHeartbeats 2000000 in
theorem yes_tf (k n f : Int) (b : Bd) (kind : Int) (w : World) : Calls Try.prog 31 #[recV k n f b, .bool true, .int .i64 kind, .bool false] w fun e w' =>
    e = .returned (.tuple #[recV k n f b, .bool true, msgV 0 0, .bool false]) ∧ Keeps No w w' := by
  go_enter Try.func31, Try.ntmps31
  go_wp2
  go_region
  all_goals
    go_wp2
    exact bodyPost_ret (v := .tuple #[recV k n f b, .bool true, msgV 0 0, .bool false]) (by simp [results, Try.results31, go_sem]) rfl ⟨rfl, ((((((Keeps.refl _).alloc _).alloc _).alloc _).alloc _).drew)⟩
set_option maxRecDepth 100000 in
set_option maxHeartbeats 2000000 in
theorem yes_ft (k n f : Int) (b : Bd) (kind : Int) (w : World) : Calls Try.prog 31 #[recV k n f b, .bool false, .int .i64 kind, .bool true] w fun e w' =>
    e = .returned (.tuple #[recV 0 0 0 Bd.zero, .bool false, msgV kind n, .bool true]) ∧ Keeps No w w' := by
  go_enter Try.func31, Try.ntmps31
  go_wp2
  go_region
  all_goals
    go_wp2
    exact bodyPost_ret (v := .tuple #[recV 0 0 0 Bd.zero, .bool false, msgV kind n, .bool true]) (by simp [results, Try.results31, go_sem, Bd.zero]) rfl ⟨rfl, ((((((Keeps.refl _).alloc _).alloc _).alloc _).alloc _).drew)⟩
set_option maxRecDepth 100000 in
set_option maxHeartbeats 2000000 in
theorem yes_ff (k n f : Int) (b : Bd) (kind : Int) (w : World) : Calls Try.prog 31 #[recV k n f b, .bool false, .int .i64 kind, .bool false] w fun e w' =>
    e = .returned (.tuple #[recV 0 0 0 Bd.zero, .bool false, msgV 0 0, .bool false]) ∧ Keeps No w w' := by
  go_enter Try.func31, Try.ntmps31
  go_wp2
  go_region
  all_goals
    go_wp2
    exact bodyPost_ret (v := .tuple #[recV 0 0 0 Bd.zero, .bool false, msgV 0 0, .bool false]) (by simp [results, Try.results31, go_sem, Bd.zero]) rfl ⟨rfl, ((((((Keeps.refl _).alloc _).alloc _).alloc _).alloc _).drew)⟩

/-! ### The tests of Outs and Ins -/
def isOut (n st : Int) (o : Ou) : Bool := o.n == n && o.st == st
def isIn (f n : Int) (x : Inn) : Bool := x.f == f && x.n == n
def isKept (o : Ou) : Bool := o.st == 1

set_option maxHeartbeats 400000 in
theorem out1_any (ca cb : Nat) (a b : Int) (o : Ou) (w : World) (ha : w.cell? ⟨ca, 0, none⟩ = some (.int .i64 a)) (hb : w.cell? ⟨cb, 0, none⟩ = some (.int .i64 b)) :
    Calls Try.prog 60 #[.agg (ouC o).toArray, .pointer (some ⟨ca, 0, none⟩), .pointer (some ⟨cb, 0, none⟩)] w fun e w' => e = .returned (.bool (isOut a b o)) ∧ Keeps No w w' := by
  have la := block_lt_of_cell ha
  have lb := block_lt_of_cell hb
  dsimp only at la lb
  cases h1 : (o.n == a) <;> cases h2 : (o.st == b)
  all_goals
    have hfin : Hid (isOut a b o = (o.n == a && o.st == b)) := rfl
    go_enter Try.func60, Try.ntmps60
    go_wp2
    go_ret
    exact ⟨by rw [hfin.out, h1, h2]; rfl, (Keeps.refl _).alloc _⟩
theorem out1_answers (S : Nat → Prop) (w0 : World) (ca cb : Nat) (a b : Int) (ha : w0.heap[ca]? = some (.cells #[.int .i64 a] 3 (0, 0))) (hb : w0.heap[cb]? = some (.cells #[.int .i64 b] 3 (0, 0))) (na : ¬ S ca) (nb : ¬ S cb) :
    AnswersOf cOu Try.prog S w0 60 #[] #[.pointer (some ⟨ca, 0, none⟩), .pointer (some ⟨cb, 0, none⟩)] (isOut a b) :=
  ⟨fun _ _ => by kernel_rfl, fun w p hk => out1_any ca cb a b p w (by rw [cell_of_row w ca 0 _ _ _ (hk.heap ha na)]; rfl) (by rw [cell_of_row w cb 0 _ _ _ (hk.heap hb nb)]; rfl)⟩

set_option maxHeartbeats 400000 in
theorem in1_any (ca cb : Nat) (a b : Int) (o : Inn) (w : World) (ha : w.cell? ⟨ca, 0, none⟩ = some (.int .i64 a)) (hb : w.cell? ⟨cb, 0, none⟩ = some (.int .i64 b)) :
    Calls Try.prog 59 #[.agg (inC o).toArray, .pointer (some ⟨ca, 0, none⟩), .pointer (some ⟨cb, 0, none⟩)] w fun e w' => e = .returned (.bool (isIn a b o)) ∧ Keeps No w w' := by
  have la := block_lt_of_cell ha
  have lb := block_lt_of_cell hb
  dsimp only at la lb
  cases h1 : (o.f == a) <;> cases h2 : (o.n == b)
  all_goals
    have hfin : Hid (isIn a b o = (o.f == a && o.n == b)) := rfl
    go_enter Try.func59, Try.ntmps59
    go_wp2
    go_ret
    exact ⟨by rw [hfin.out, h1, h2]; rfl, (Keeps.refl _).alloc _⟩
theorem in1_answers (S : Nat → Prop) (w0 : World) (ca cb : Nat) (a b : Int) (ha : w0.heap[ca]? = some (.cells #[.int .i64 a] 3 (0, 0))) (hb : w0.heap[cb]? = some (.cells #[.int .i64 b] 3 (0, 0))) (na : ¬ S ca) (nb : ¬ S cb) :
    AnswersOf cIn Try.prog S w0 59 #[] #[.pointer (some ⟨ca, 0, none⟩), .pointer (some ⟨cb, 0, none⟩)] (isIn a b) :=
  ⟨fun _ _ => by kernel_rfl, fun w p hk => in1_any ca cb a b p w (by rw [cell_of_row w ca 0 _ _ _ (hk.heap ha na)]; rfl) (by rw [cell_of_row w cb 0 _ _ _ (hk.heap hb nb)]; rfl)⟩

theorem kept1_any (o : Ou) (w : World) : Calls Try.prog 41 #[.agg (ouC o).toArray] w fun e w' => e = .returned (.bool (isKept o)) ∧ Keeps No w w' := by
  have hfin : Hid (isKept o = (o.st == 1)) := rfl
  go_enter Try.func41, Try.ntmps41
  go_wp2
  go_ret
  exact ⟨by rw [hfin.out]; rfl, (Keeps.refl _).alloc _⟩
theorem kept1_answers (S : Nat → Prop) (w0 : World) : AnswersOf cOu Try.prog S w0 41 #[] #[] isKept :=
  ⟨fun _ _ => by kernel_rfl, fun w p _ => kept1_any p w⟩

set_option maxHeartbeats 1000000 in
theorem idxOut (S : Nat → Prop) (w : World) (v : Value) (l : List Ou) (hv : RdOf cOu w v l) (fid : Nat) (first captured : Array Value) (pr : Ou → Bool) (hf : AnswersOf cOu Try.prog S w fid first captured pr) :
    Calls Try.prog 40 #[v, .func (.func fid) first captured] w fun e w' => e = .returned (.int .i64 (firstOf pr l)) ∧ Keeps No w w' := by
  obtain ⟨a, c, rfl⟩ := hv.slice
  have hlen := RdOf.len cOu hv
  unfold maxLen at hlen
  go_enter Try.func40, Try.ntmps40
  go_wp2
  go_loopw [8] (fun i wr => ∃ k : Nat, k ≤ l.length ∧ i = .int .i64 k ∧ (∀ j, (h : j < k) → (h2 : j < l.length) → pr l[j] = false) ∧ Keeps No w wr) (fun i _ => l.length - (intOf i).toNat)
  case atStart => exact ⟨0, Nat.zero_le _, rfl, fun j h => absurd h (Nat.not_lt_zero _), Keeps.refl _⟩
  case round =>
    obtain ⟨k, hk, rfl, hno, hkeep⟩ := hrel
    have Hno := Lib.hid hno; clear hno
    by_cases hlt : k < l.length
    · have hv' := hv.kept hkeep (fun _ _ h => h)
      obtain ⟨b, off, rfl, hc1, hc2, hb⟩ := RdOf.addr cOu hv' (by omega)
      have g0 : cellsAt wr b (off + k * 14) 14 = some (ouC l[k]) := RdOf.at cOu hv' k hlt
      clear hc1 hc2
      have hcall := hf.call
      go_wp2_with fail
      refine (hf.ans _ l[k] (hkeep.mono (fun _ _ h => h.elim))).mono ?_
      rintro e w' ⟨rfl, hk'⟩
      by_cases hp : pr l[k] = true
      · have hfin : Hid (firstOf pr l = k) := firstOf_at pr l k hlt Hno.out hp
        go_wp2
        go_ret
        exact ⟨by rw [hfin.out]; rfl, hkeep.trans hk' (fun _ _ h => h)⟩
      · have hp' : pr l[k] = false := by simpa using hp
        have Hno' : Hid (∀ j, (h : j < k + 1) → (h2 : j < l.length) → pr l[j] = false) := fun j h h2 => by
          by_cases hj : j < k
          · exact Hno.out j hj h2
          · obtain rfl : j = k := by omega
            exact hp'
        go_wp2
        go_roundw
        case rel => exact ⟨k + 1, by omega, by go_num, Hno'.out, hkeep.trans hk' (fun _ _ h => h)⟩
        case measure => simp [intOf]; omega
    · have hfin : Hid (firstOf pr l = -1) := firstOf_none pr l (fun j hj => Hno.out j (by omega) hj)
      go_wp2
      go_ret
      exact ⟨by rw [hfin.out]; rfl, hkeep⟩

set_option maxHeartbeats 1000000 in
theorem idxIn (S : Nat → Prop) (w : World) (v : Value) (l : List Inn) (hv : RdOf cIn w v l) (fid : Nat) (first captured : Array Value) (pr : Inn → Bool) (hf : AnswersOf cIn Try.prog S w fid first captured pr) :
    Calls Try.prog 58 #[v, .func (.func fid) first captured] w fun e w' => e = .returned (.int .i64 (firstOf pr l)) ∧ Keeps No w w' := by
  obtain ⟨a, c, rfl⟩ := hv.slice
  have hlen := RdOf.len cIn hv
  unfold maxLen at hlen
  go_enter Try.func58, Try.ntmps58
  go_wp2
  go_loopw [8] (fun i wr => ∃ k : Nat, k ≤ l.length ∧ i = .int .i64 k ∧ (∀ j, (h : j < k) → (h2 : j < l.length) → pr l[j] = false) ∧ Keeps No w wr) (fun i _ => l.length - (intOf i).toNat)
  case atStart => exact ⟨0, Nat.zero_le _, rfl, fun j h => absurd h (Nat.not_lt_zero _), Keeps.refl _⟩
  case round =>
    obtain ⟨k, hk, rfl, hno, hkeep⟩ := hrel
    have Hno := Lib.hid hno; clear hno
    by_cases hlt : k < l.length
    · have hv' := hv.kept hkeep (fun _ _ h => h)
      obtain ⟨b, off, rfl, hc1, hc2, hb⟩ := RdOf.addr cIn hv' (by omega)
      have g0 : cellsAt wr b (off + k * 13) 13 = some (inC l[k]) := RdOf.at cIn hv' k hlt
      clear hc1 hc2
      have hcall := hf.call
      go_wp2_with fail
      refine (hf.ans _ l[k] (hkeep.mono (fun _ _ h => h.elim))).mono ?_
      rintro e w' ⟨rfl, hk'⟩
      by_cases hp : pr l[k] = true
      · have hfin : Hid (firstOf pr l = k) := firstOf_at pr l k hlt Hno.out hp
        go_wp2
        go_ret
        exact ⟨by rw [hfin.out]; rfl, hkeep.trans hk' (fun _ _ h => h)⟩
      · have hp' : pr l[k] = false := by simpa using hp
        have Hno' : Hid (∀ j, (h : j < k + 1) → (h2 : j < l.length) → pr l[j] = false) := fun j h h2 => by
          by_cases hj : j < k
          · exact Hno.out j hj h2
          · obtain rfl : j = k := by omega
            exact hp'
        go_wp2
        go_roundw
        case rel => exact ⟨k + 1, by omega, by go_num, Hno'.out, hkeep.trans hk' (fun _ _ h => h)⟩
        case measure => simp [intOf]; omega
    · have hfin : Hid (firstOf pr l = -1) := firstOf_none pr l (fun j hj => Hno.out j (by omega) hj)
      go_wp2
      go_ret
      exact ⟨by rw [hfin.out]; rfl, hkeep⟩

end Go.Proofs.Ytggaeihinheojaa
