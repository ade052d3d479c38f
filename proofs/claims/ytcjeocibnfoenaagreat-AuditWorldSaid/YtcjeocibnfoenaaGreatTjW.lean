/-
  A world's form and ticks among a law's arguments. No conditions of their own. States as data: what is owned; slices.IndexFunc and ContainsFunc of what came in. No conditions of their own.
-/
import Derived.Test.YtcjeocibnfoenaaGreatTjU
namespace Go.Proofs.YtcjeocibnfoenaaGreat
open Go.ChangeShapes Go.WideShapes Go.ChangeAt Go.RowKit Go.Joins Go.Deep

section
variable {H : Type} {enc : TypeId × Value → H} {w : World} {base : Nat} {spare : Nat → Bool} {held : Bool} {n : Nat} {cs : List Value} {x : DataW H × List MemPlace}

theorem k1 : Tryz.prog.cellsOf 3 = 1 := by kernel_rfl
theorem kId : Tryz.prog.cellsOf 36 = 3 := by kernel_rfl
theorem kBd : Tryz.prog.cellsOf 38 = 11 := by kernel_rfl
theorem kCm : Tryz.prog.cellsOf 89 = 16 := by kernel_rfl
theorem kCf : Tryz.prog.cellsOf 23 = 7 := by kernel_rfl
theorem kTk : Tryz.prog.cellsOf 25 = 1 := by kernel_rfl
theorem wf_i64 {a : Int} (h : (Lit.int .i64 a).wf = true) : i64 a := by
  have h1 : decide ((-9223372036854775808 : Int) ≤ a) = true ∧ decide (a ≤ (9223372036854775807 : Int)) = true := by
    have h0 : (decide (IntKind.i64.min ≤ a) && decide (a ≤ IntKind.i64.max)) = true := h
    exact ⟨(Bool.and_eq_true_iff.1 h0).1, (Bool.and_eq_true_iff.1 h0).2⟩
  exact ⟨of_decide_eq_true h1.1, of_decide_eq_true h1.2⟩
theorem one_ok {y : DataW H × List MemPlace} {c : Value} (h : DataW.trod enc Tryz.prog w base spare held n 3 [c] = some y) : ∃ a, c = .int .i64 a ∧ i64 a := by
  obtain ⟨a, ha, _, hw⟩ := DataW.trod_int Tryz.underlying3 h
  exact ⟨a, by simpa using ha, wf_i64 hw⟩

set_option maxRecDepth 100000 in
theorem trodNam (h : DataW.trod enc Tryz.prog w base spare held n 36 cs = some x) : ∃ a : Nam, cs = namC a ∧ i64 a.s ∧ i64 a.i ∧ i64 a.g := by
  obtain ⟨y0, y1, y2, m, _, hl, h0, h1, h2⟩ := trod_struct3 Tryz.underlying36 h
  rw [kId] at hl
  match cs, hl with
  | [c0, c1, c2], _ =>
    simp only [k1] at h0 h1 h2
    obtain ⟨a0, rfl, w0⟩ := one_ok (c := c0) h0
    obtain ⟨a1, rfl, w1⟩ := one_ok (c := c1) h1
    obtain ⟨a2, rfl, w2⟩ := one_ok (c := c2) h2
    exact ⟨⟨a0, a1, a2⟩, rfl, w0, w1, w2⟩
set_option maxRecDepth 100000 in
theorem trodBd (h : DataW.trod enc Tryz.prog w base spare held n 38 cs = some x) : ∃ b : Bd, cs = bdC b ∧ b.ok := by
  obtain ⟨xs, m, _, _, hl, hxl, hf⟩ := DataW.trod_struct Tryz.underlying38 h
  rw [kBd] at hl
  match cs, hl with
  | [c0, c1, c2, c3, c4, c5, c6, c7, c8, c9, c10], _ =>
    match xs, hxl with
    | [x0, x1, x2, x3, x4, x5, x6, x7, x8], _ =>
      have h0 := hf 0 _ rfl
      have h1 := hf 1 _ rfl
      have h2 := hf 2 _ rfl
      have h3 := hf 3 _ rfl
      have h4 := hf 4 _ rfl
      have h5 := hf 5 _ rfl
      have h6 := hf 6 _ rfl
      have h7 := hf 7 _ rfl
      have h8 := hf 8 _ rfl
      simp [k1, kId] at h0 h1 h2 h3 h4 h5 h6 h7 h8
      obtain ⟨a, ha, z0, z1, z2⟩ := trodNam (cs := [c0, c1, c2]) h0
      simp only [namC, List.cons.injEq, and_true] at ha
      obtain ⟨rfl, rfl, rfl⟩ := ha
      obtain ⟨a1, rfl, z3⟩ := one_ok (c := c3) h1
      obtain ⟨a2, rfl, z4⟩ := one_ok (c := c4) h2
      obtain ⟨a3, rfl, z5⟩ := one_ok (c := c5) h3
      obtain ⟨a4, rfl, z6⟩ := one_ok (c := c6) h4
      obtain ⟨a5, rfl, z7⟩ := one_ok (c := c7) h5
      obtain ⟨a6, rfl, z8⟩ := one_ok (c := c8) h6
      obtain ⟨a7, rfl, z9⟩ := one_ok (c := c9) h7
      obtain ⟨a8, rfl, za⟩ := one_ok (c := c10) h8
      exact ⟨⟨a.s, a.i, a.g, a1, a2, a3, a4, a5, a6, a7, a8⟩, rfl, z0, z1, z2, z3, z4, z5, z6, z7, z8, z9, za⟩
set_option maxRecDepth 100000 in
theorem trodCm (h : DataW.trod enc Tryz.prog w base spare held n 89 cs = some x) : ∃ o : Cm, cs = cmC o ∧ o.ok := by
  obtain ⟨xs, m, _, _, hl, hxl, hf⟩ := DataW.trod_struct Tryz.underlying89 h
  rw [kCm] at hl
  match cs, hl with
  | [c0, c1, c2, c3, d0, d1, d2, d3, d4, d5, d6, d7, d8, d9, d10, c15], _ =>
    match xs, hxl with
    | [x0, x1, x2, x3], _ =>
      have h0 := hf 0 _ rfl
      have h1 := hf 1 _ rfl
      have h2 := hf 2 _ rfl
      have h3 := hf 3 _ rfl
      simp [k1, kId, kBd] at h0 h1 h2 h3
      obtain ⟨a0, rfl, z0⟩ := one_ok (c := c0) h0
      obtain ⟨a, ha, y0, y1, y2⟩ := trodNam (cs := [c1, c2, c3]) h1
      simp only [namC, List.cons.injEq, and_true] at ha
      obtain ⟨rfl, rfl, rfl⟩ := ha
      obtain ⟨b, hb, hbo⟩ := trodBd (cs := [d0, d1, d2, d3, d4, d5, d6, d7, d8, d9, d10]) h2
      simp only [bdC, List.cons.injEq, and_true] at hb
      obtain ⟨rfl, rfl, rfl, rfl, rfl, rfl, rfl, rfl, rfl, rfl, rfl⟩ := hb
      obtain ⟨a1, rfl, z1⟩ := one_ok (c := c15) h3
      exact ⟨⟨a0, a.s, a.i, a.g, b, a1⟩, rfl, z0, y0, y1, y2, hbo, z1⟩
set_option maxRecDepth 100000 in
theorem trodZf (h : DataW.trod enc Tryz.prog w base spare held n 23 cs = some x) : ∃ z : Zf, cs = zfC z := by
  obtain ⟨xs, m, _, _, hl, hxl, hf⟩ := DataW.trod_struct Tryz.underlying23 h
  rw [kCf] at hl
  match cs, hl with
  | [c0, c1, c2, c3, c4, c5, c6], _ =>
    match xs, hxl with
    | [x0, x1, x2, x3, x4, x5, x6], _ =>
      have h0 := hf 0 _ rfl
      have h1 := hf 1 _ rfl
      have h2 := hf 2 _ rfl
      have h3 := hf 3 _ rfl
      have h4 := hf 4 _ rfl
      have h5 := hf 5 _ rfl
      have h6 := hf 6 _ rfl
      simp [k1] at h0 h1 h2 h3 h4 h5 h6
      obtain ⟨a0, rfl, _⟩ := one_ok (c := c0) h0
      obtain ⟨a1, rfl, _⟩ := one_ok (c := c1) h1
      obtain ⟨a2, rfl, _⟩ := one_ok (c := c2) h2
      obtain ⟨a3, rfl, _⟩ := one_ok (c := c3) h3
      obtain ⟨a4, rfl, _⟩ := one_ok (c := c4) h4
      obtain ⟨a5, rfl, _⟩ := one_ok (c := c5) h5
      obtain ⟨a6, rfl, _⟩ := one_ok (c := c6) h6
      exact ⟨⟨a0, a1, a2, a3, a4, a5, a6⟩, rfl⟩

theorem rdOf_of {α : Type} (C : Codec α) {w : World} {a : Addr} {c : Nat} {l : List α} (hc : l.length ≤ c) (hm : c ≤ maxLen)
    (h : ∀ i, (hi : i < l.length) → ∀ j u, (C.cells l[i])[j]? = some u → w.cell? (a.add (i * C.size + j)) = some u) : RdOf C w (.slice (some a) l.length c) l := by
  refine ⟨rowsOf_length C l, rowsOf_ones C l, .inr ⟨a, c, rfl, hc, hm, fun j u hu => ?_⟩⟩
  have hj : j < (rowsOf C l).length := (List.getElem?_eq_some_iff.1 hu).1
  rw [rowsOf_length] at hj
  have hp := C.pos
  have hi : j / C.size < l.length := Nat.div_lt_of_lt_mul (by rw [Nat.mul_comm]; exact hj)
  have hr : j = j / C.size * C.size + j % C.size := by rw [Nat.mul_comm]; exact (Nat.div_add_mod _ _).symm
  have hm := Nat.mod_lt j hp
  rw [hr] at hu ⊢
  rw [rowsOf_at C l _ hi _ hm] at hu
  exact h _ hi _ u hu

/-- a slice of rows, each of a kind, out of a reading -/
theorem trodAllOf {α : Type} (C : Codec α) (a0 : α) (P : α → Prop) {t e : TypeId} (ht : Tryz.prog.underlying t = some (.slice e)) (hC : Tryz.prog.cellsOf e = C.size)
    (hel : ∀ {n : Nat} {cs : List Value} {x : DataW H × List MemPlace}, DataW.trod enc Tryz.prog w base spare held n e cs = some x → ∃ a, cs = C.cells a ∧ P a)
    (h : DataW.trod enc Tryz.prog w base spare held n t cs = some x) : ∃ (v : Value) (l : List α), cs = [v] ∧ RdOf C w v l ∧ ∀ a ∈ l, P a := by
  rcases open_slice ht h with ⟨rfl, _⟩ | ⟨a, len, cap, m, n', D, Pl, rfl, _, hl, hm, hmm, _, hx⟩
  · exact ⟨_, [], rfl, Reads.nil _ _, fun a h => by cases h⟩
  · have hlm : len ≤ m := by rw [hmm]; split <;> omega
    have hp : ∀ i, i < len → ∃ p : α, w.cells? base (a.add (i * C.size)) C.size = some (C.cells p) ∧ P p := by
      intro i hi
      obtain ⟨cs', h1, h2⟩ := hx i (by omega)
      rw [hC] at h1
      obtain ⟨p, rfl, hP⟩ := hel h2
      exact ⟨p, h1, hP⟩
    obtain ⟨g, hg⟩ := @choose_lt α ⟨a0⟩ len _ hp
    refine ⟨_, (List.range len).map g, rfl, ?_, fun p hp => ?_⟩
    · have hlen : ((List.range len).map g).length = len := by simp
      have := rdOf_of C (w := w) (a := a) (c := cap) (l := (List.range len).map g) (by omega) hm (fun i hi j u hu => by
        have hil : i < len := by simpa using hi
        have h1 := (hg i hil).1
        obtain ⟨_, h2, h3⟩ := World.cells?_some h1
        simp only [List.getElem_map, List.getElem_range] at hu
        have hj3 : j < C.size := by have := (List.getElem?_eq_some_iff.1 hu).1; rw [C.len] at this; exact this
        have := h3 j hj3
        rwa [add_add, hu] at this)
      rwa [hlen] at this
    · obtain ⟨i, hi, rfl⟩ := List.mem_map.1 hp
      exact (hg i (by simpa using hi)).2
set_option maxRecDepth 100000 in
/-- a tick, out of a reading -/
theorem trodTk (h : DataW.trod enc Tryz.prog w base spare held n 25 cs = some x) : ∃ t : Tk, cs = cTk.cells t ∧ RdOf cCm w (.slice t.a t.cs.length t.c) t.cs ∧ ∀ c ∈ t.cs, c.ok := by
  obtain ⟨v, l, rfl, hr, hok⟩ := trodAllOf cCm ⟨0, 0, 0, 0, Bd.zero, 0⟩ Cm.ok Tryz.underlying25 kCm trodCm h
  obtain ⟨a, c, rfl⟩ := hr.slice
  exact ⟨⟨a, c, l⟩, rfl, hr, hok⟩
set_option maxRecDepth 100000 in
theorem trodTks (h : DataW.trod enc Tryz.prog w base spare held n 24 cs = some x) : ∃ (v : Value) (T : List Tk), cs = [v] ∧ RdOf cTk w v T ∧ TksRead w T := by
  obtain ⟨v, l, rfl, hr, hok⟩ := trodAllOf cTk ⟨none, 0, []⟩ (fun t => RdOf cCm w (.slice t.a t.cs.length t.c) t.cs ∧ ∀ c ∈ t.cs, c.ok) Tryz.underlying24 kTk trodTk h
  exact ⟨v, l, rfl, hr, fun t ht => (hok t ht).1, fun t ht => (hok t ht).2⟩
end
set_option maxRecDepth 100000 in
theorem open_zf {H : Type} {enc : TypeId × Value → H} {W : World} {base : Nat} {v : Value} {d : DataW H} {ps : List MemPlace}
    (hv : Value.okWide Tryz.prog W .any base 23 v) (h : DataW.Trod enc Tryz.prog W 0 (fun _ => true) true 23 v d ps) : ∃ z : Zf, v = zfV z := by
  obtain ⟨cs, rfl, _⟩ := okWide_struct Tryz.underlying23 hv
  obtain ⟨n, hn⟩ := h
  obtain ⟨z, hc⟩ := trodZf hn
  refine ⟨z, ?_⟩
  have : cs = (zfC z).toArray := by simp [Value.cells] at hc; rw [← hc]
  rw [this]
set_option maxRecDepth 100000 in
theorem open_tks {H : Type} {enc : TypeId × Value → H} {W : World} {base : Nat} {v : Value} {d : DataW H} {ps : List MemPlace}
    (hv : Value.okWide Tryz.prog W .any base 24 v) (h : DataW.Trod enc Tryz.prog W 0 (fun _ => true) true 24 v d ps) : ∃ T : List Tk, RdOf cTk W v T ∧ TksRead W T := by
  obtain ⟨a, m, c, rfl⟩ := okWide_slice Tryz.underlying24 hv
  obtain ⟨n, hn⟩ := h
  obtain ⟨v, T, hc, hr, ht⟩ := trodTks hn
  obtain rfl : .slice a m c = v := by simpa [Value.cells] using hc
  exact ⟨T, hr, ht⟩
end Go.Proofs.YtcjeocibnfoenaaGreat

namespace Go.Proofs.YtcjeocibnfoenaaGreat
open Go.RowKit Go.Joins Go.Deep Go.Sort

/-- An Out: its number, its target, its state, the entity. -/
structure Ou where
  n : Int
  tt : Int
  st : Int
  b : Bd
/-- An In: its source, its number, the entity. -/
structure Inn where
  f : Int
  n : Int
  b : Bd
abbrev ouC (o : Ou) : List Value := [.int .i64 o.n, .int .i64 o.tt, .int .i64 o.st, .int .i64 o.b.s, .int .i64 o.b.i, .int .i64 o.b.g, .int .i64 o.b.m, .int .i64 o.b.x, .int .i64 o.b.y, .int .i64 o.b.vx, .int .i64 o.b.vy, .int .i64 o.b.hp, .int .i64 o.b.pw, .int .i64 o.b.lf]
abbrev inC (x : Inn) : List Value := [.int .i64 x.f, .int .i64 x.n, .int .i64 x.b.s, .int .i64 x.b.i, .int .i64 x.b.g, .int .i64 x.b.m, .int .i64 x.b.x, .int .i64 x.b.y, .int .i64 x.b.vx, .int .i64 x.b.vy, .int .i64 x.b.hp, .int .i64 x.b.pw, .int .i64 x.b.lf]
def cOu : Codec Ou := ⟨ouC, 14, fun _ => rfl, fun a u h => by simp [ouC] at h; rcases h with rfl | rfl | rfl | rfl | rfl | rfl | rfl | rfl | rfl | rfl | rfl | rfl | rfl | rfl <;> rfl, by decide⟩
def cIn : Codec Inn := ⟨inC, 13, fun _ => rfl, fun a u h => by simp [inC] at h; rcases h with rfl | rfl | rfl | rfl | rfl | rfl | rfl | rfl | rfl | rfl | rfl | rfl | rfl <;> rfl, by decide⟩
def isIn (f n : Int) (x : Inn) : Bool := x.f == f && x.n == n
/-- A state: what it owns, what goes out, what came in (the rest is zero). -/
structure Sd where
  oa : Option Addr
  oc : Nat
  own : List Bd
  ua : Option Addr
  uc : Nat
  outs : List Ou
  ia : Option Addr
  ic : Nat
  ins : List Inn
abbrev sdC (s : Sd) : List Value := [.int .i64 0, .int .i64 0, .slice s.oa s.own.length s.oc, .slice none 0 0, .slice s.ua s.outs.length s.uc, .slice s.ia s.ins.length s.ic, .slice none 0 0, .int .i64 0]
def cSd : Codec Sd := ⟨sdC, 8, fun _ => rfl, fun a u h => by simp [sdC] at h; rcases h with rfl | rfl | rfl | rfl | rfl | rfl | rfl | rfl <;> rfl, by decide⟩
structure SdReads (w : World) (s : Sd) : Prop where
  own : RdOf cBd w (.slice s.oa s.own.length s.oc) s.own
  outs : RdOf cOu w (.slice s.ua s.outs.length s.uc) s.outs
  ins : RdOf cIn w (.slice s.ia s.ins.length s.ic) s.ins
theorem SdReads.no {w w' : World} {s : Sd} (h : SdReads w s) (k : Keeps No w w') : SdReads w' s := ⟨h.own.kept k (fun _ _ h => h), h.outs.kept k (fun _ _ h => h), h.ins.kept k (fun _ _ h => h)⟩
/-- who has what goes out, if anyone -/
def whoOf (L : List Sd) (k : Nat) (o : Ou) : Option Int :=
  bif o.st == 3 then
    (bif decide (0 ≤ o.tt) && decide (o.tt < (L.length : Int)) then (bif (((L[o.tt.toNat]?).map fun s => s.ins.any (isIn k o.n)).getD false) then some o.tt else none) else none)
  else some k
/-- what a state's outs yield -/
def outsOf (L : List Sd) (k : Nat) (l : List Ou) : List (Int × Bd) := l.filterMap fun o => (whoOf L k o).map fun q => (q, o.b)
def oneOf (L : List Sd) (k : Nat) (s : Sd) : List (Int × Bd) := s.own.map (fun b => ((k : Int), b)) ++ outsOf L k s.outs
def ownedOf (L : List Sd) (k : Nat) : List (Int × Bd) := (List.range k).flatMap fun j => ((L[j]?).map (oneOf L j)).getD []
theorem ownedOf_succ (L : List Sd) (k : Nat) (h : k < L.length) : ownedOf L (k + 1) = ownedOf L k ++ oneOf L k L[k] := by
  unfold ownedOf
  rw [List.range_succ, List.flatMap_append]
  simp [h]
theorem outsOf_succ (L : List Sd) (k : Nat) (l : List Ou) (j : Nat) (h : j < l.length) : outsOf L k (l.take (j + 1)) = outsOf L k (l.take j) ++ ((whoOf L k l[j]).map fun q => (q, l[j].b)).toList := by
  unfold outsOf
  rw [List.take_succ_eq_append_getElem h, List.filterMap_append]
  cases hw : whoOf L k l[j] <;> simp [hw]

set_option maxHeartbeats 1000000 in
theorem idxIn (S : Nat → Prop) (w : World) (v : Value) (l : List Inn) (hv : RdOf cIn w v l) (fid : Nat) (first captured : Array Value) (pr : Inn → Bool) (hf : AnswersOf cIn Tryz.prog S w fid first captured pr) :
    Calls Tryz.prog 72 #[v, .func (.func fid) first captured] w fun e w' => e = .returned (.int .i64 (firstOf pr l)) ∧ Keeps No w w' := by
  obtain ⟨a, c, rfl⟩ := hv.slice
  have hlen := RdOf.len cIn hv
  unfold maxLen at hlen
  go_enter Tryz.func72, Tryz.ntmps72
  go_wp2
  go_loopw [8] (fun i wr => ∃ k : Nat, k ≤ l.length ∧ i = .int .i64 k ∧ (∀ j, (h : j < k) → (h2 : j < l.length) → pr l[j] = false) ∧ Keeps No w wr) (fun i _ => l.length - (intOf i).toNat)
  case atStart => exact ⟨0, Nat.zero_le _, rfl, fun j h => absurd h (Nat.not_lt_zero _), Keeps.refl _⟩
  case round =>
    obtain ⟨k, hk, rfl, hno, hkeep⟩ := hrel
    have Hno := Lib.hid hno; clear hno
    by_cases hlt : k < l.length
    · have hv' := hv.kept hkeep (fun _ _ h => h)
      obtain ⟨b, off, rfl, hc1, hc2, hb⟩ := RdOf.addr cIn hv' (by omega)
      have g0 : cellsAt wr b (off + k * 13) 13 = some (inC l[k]) := RdOf.at cIn hv' k hlt
      clear hc1 hc2
      have hcall := hf.call
      go_wp2_with fail
      refine (hf.ans _ l[k] (hkeep.mono (fun _ _ h => h.elim))).mono ?_
      rintro e w' ⟨rfl, hk'⟩
      by_cases hp : pr l[k] = true
      · have hfin : Hid (firstOf pr l = k) := firstOf_at pr l k hlt Hno.out hp
        go_wp2
        go_ret
        exact ⟨by rw [hfin.out]; rfl, hkeep.trans hk' (fun _ _ h => h)⟩
      · have hp' : pr l[k] = false := by simpa using hp
        have Hno' : Hid (∀ j, (h : j < k + 1) → (h2 : j < l.length) → pr l[j] = false) := fun j h h2 => by
          by_cases hj : j < k
          · exact Hno.out j hj h2
          · obtain rfl : j = k := by omega
            exact hp'
        go_wp2
        go_roundw
        case rel => exact ⟨k + 1, by omega, by go_num, Hno'.out, hkeep.trans hk' (fun _ _ h => h)⟩
        case measure => simp [intOf]; omega
    · have hfin : Hid (firstOf pr l = -1) := firstOf_none pr l (fun j hj => Hno.out j (by omega) hj)
      go_wp2
      go_ret
      exact ⟨by rw [hfin.out]; rfl, hkeep⟩
theorem any_firstOf {α : Type} (pr : α → Bool) (l : List α) : decide (0 ≤ firstOf pr l) = l.any pr := by
  rcases firstOf_cases pr l with ⟨h, hn⟩ | ⟨k, h, hk, hp, _⟩
  · rw [h, List.any_eq_false.2 (fun x hx => by simp [hn x hx])]
    rfl
  · rw [h, List.any_eq_true.2 ⟨l[k], List.getElem_mem hk, hp⟩]
    exact decide_eq_true (by omega)
set_option maxHeartbeats 1000000 in
theorem hasIn (S : Nat → Prop) (w : World) (v : Value) (l : List Inn) (hv : RdOf cIn w v l) (fid : Nat) (first captured : Array Value) (pr : Inn → Bool) (hf : AnswersOf cIn Tryz.prog S w fid first captured pr) :
    Calls Tryz.prog 44 #[v, .func (.func fid) first captured] w fun e w' => e = .returned (.bool (l.any pr)) ∧ Keeps No w w' := by
  have HI := Lib.hid (idxIn S w v l hv fid first captured pr hf)
  have HA := Lib.hid (any_firstOf pr l)
  obtain ⟨a, c, rfl⟩ := hv.slice
  obtain ⟨y, hy⟩ : ∃ y, y = firstOf pr l := ⟨_, rfl⟩
  rw [← hy] at HI HA
  clear hf hv hy
  go_enter Tryz.func44, Tryz.ntmps44
  go_wp2_with fail
  refine HI.out.mono ?_
  rintro e w' ⟨rfl, hk⟩
  go_wp2
  go_ret
  exact ⟨by rw [← HA.out]; rfl, hk⟩

set_option maxHeartbeats 1000000 in
theorem saw_any (ca cb : Nat) (k : Int) (o : Ou) (x : Inn) (w : World) (ha : w.cell? ⟨ca, 0, none⟩ = some (.int .i64 k)) (hb : cellsAt w cb 0 14 = some (ouC o)) :
    Calls Tryz.prog 45 #[.agg (inC x).toArray, .pointer (some ⟨ca, 0, none⟩), .pointer (some ⟨cb, 0, none⟩)] w fun e w' => e = .returned (.bool (isIn k o.n x)) ∧ Keeps No w w' := by
  have hb0 : w.cell? ⟨cb, 0, none⟩ = some (.int .i64 o.n) := cellsAt_cell hb 0 _ rfl
  have la := block_lt_of_cell ha
  have lb := block_lt_of_cell hb0
  dsimp only at la lb
  clear hb
  cases h1 : (x.f == k) <;> cases h2 : (x.n == o.n)
  all_goals
    have hfin : Hid (isIn k o.n x = (x.f == k && x.n == o.n)) := rfl
    go_enter Tryz.func45, Tryz.ntmps45
    go_wp2
    go_ret
    exact ⟨by rw [hfin.out, h1, h2]; rfl, (Keeps.refl _).alloc _⟩
theorem saw_answers (w0 : World) (ca cb : Nat) (k : Int) (o : Ou) (ha : w0.cell? ⟨ca, 0, none⟩ = some (.int .i64 k)) (hb : cellsAt w0 cb 0 14 = some (ouC o)) :
    AnswersOf cIn Tryz.prog No w0 45 #[] #[.pointer (some ⟨ca, 0, none⟩), .pointer (some ⟨cb, 0, none⟩)] (isIn k o.n) :=
  ⟨fun _ _ => by kernel_rfl, fun w p hk => saw_any ca cb k o p w (hk.cell ha (fun h => h)) (hk.cellsAt hb)⟩
end Go.Proofs.YtcjeocibnfoenaaGreat
