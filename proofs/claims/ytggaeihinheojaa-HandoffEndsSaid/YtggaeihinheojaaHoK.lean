/-
  handoff.Hear and the document's Hear: the same answers; states and messages among a law's arguments. No conditions of its own.
-/
import Derived.Test.YtggaeihinheojaaHoJ
import Derived.Test.YtggaeihinheojaaLaw
import Derived.Deep.Strs
namespace Go.Proofs.Ytggaeihinheojaa
open Go.ChangeShapes Go.WideShapes Go.ChangeAt Go.RowKit Go.Joins Go.Deep

/-- Hear, of both: the same record, and the same answer. -/
def HearPair (w : World) (ep t : Int) (own dead outs ins gh : Value) (nx fr mk tt mn : Int) (cm bv ids : Value) (k n f : Int) (b : Bd) (ak an : Int) : Prop :=
  Calls Try.prog 11 #[stV ep t own dead outs ins gh nx, .int .i64 fr, msgIn mk tt mn cm bv ids] w (fun e w' => e = .returned (.tuple #[recV k n f b, .bool (decide (0 < k)), msgV ak an, .bool (decide (0 < ak))]) ∧ Keeps No w w') ∧
  ∀ w2, Keeps No w w2 → Calls Try.prog 12 #[stV ep t own dead outs ins gh nx, .int .i64 fr, msgIn mk tt mn cm bv ids] w2 (fun e w' => e = .returned (.tuple #[recV k n f b, msgV ak an]) ∧ Keeps No w2 w')

theorem hear_pair {w : World} {ep t nx tt : Int} {own dead outs ins gh cm bv ids : Value} {lo : List Ou} {li : List Inn} {lb : List Bd} (hvo : RdOf cOu w outs lo) (hvi : RdOf cIn w ins li) (hb : RdOf cBd w bv lb) (fr mk mn : Int) :
    ∃ k n f b ak an, HearPair w ep t own dead outs ins gh nx fr mk tt mn cm bv ids k n f b ak an := by
  by_cases h7 : mk = 7
  · subst h7
    by_cases hl : lb.length = 1
    · obtain ⟨b0, rfl⟩ := List.length_eq_one_iff.1 hl
      rcases firstOf_cases (isIn fr mn) li with ⟨hi, _⟩ | ⟨j, hi, hj, _⟩
      · exact ⟨_, _, _, _, _, _, hear_3 hvi hb fr mn hi, fun w2 hk => rhear_3 (hvi.kept hk (fun _ _ h => h)) (hb.kept hk (fun _ _ h => h)) fr mn hi⟩
      · exact ⟨_, _, _, _, _, _, hear_2 hvi hb fr mn j hi, fun w2 hk => rhear_2 (hvi.kept hk (fun _ _ h => h)) (hb.kept hk (fun _ _ h => h)) fr mn j hi⟩
    · have hl' : ((lb.length : Int) != 1) = true := by simp; omega
      exact ⟨_, _, _, _, _, _, hear_1 hb hl' fr mn, fun w2 hk => rhear_1 (hb.kept hk (fun _ _ h => h)) hl' fr mn⟩
  by_cases h8 : mk = 8
  · subst h8
    rcases firstOf_cases (isOut mn 2) lo with ⟨hi, _⟩ | ⟨j, hi, hj, _⟩
    · exact ⟨_, _, _, _, _, _, hear_4 hvo fr mn hi, fun w2 hk => rhear_4 (hvo.kept hk (fun _ _ h => h)) fr mn hi⟩
    · cases ht : (lo[j].to == fr)
      · exact ⟨_, _, _, _, _, _, hear_5 hvo fr mn j hj hi ht, fun w2 hk => rhear_5 (hvo.kept hk (fun _ _ h => h)) fr mn j hj hi ht⟩
      · exact ⟨_, _, _, _, _, _, hear_6 hvo fr mn j hj hi ht, fun w2 hk => rhear_6 (hvo.kept hk (fun _ _ h => h)) fr mn j hj hi ht⟩
  by_cases h9 : mk = 9
  · subst h9
    rcases firstOf_cases (isIn fr mn) li with ⟨hi, _⟩ | ⟨j, hi, hj, _⟩
    · exact ⟨_, _, _, _, _, _, hear_7 hvi fr mn hi, fun w2 hk => rhear_7 (hvi.kept hk (fun _ _ h => h)) fr mn hi⟩
    · exact ⟨_, _, _, _, _, _, hear_8 hvi fr mn j hi, fun w2 hk => rhear_8 (hvi.kept hk (fun _ _ h => h)) fr mn j hi⟩
  by_cases h10 : mk = 10
  · subst h10
    rcases firstOf_cases (isOut mn 3) lo with ⟨hi, _⟩ | ⟨j, hi, hj, _⟩
    · exact ⟨_, _, _, _, _, _, hear_9 hvo fr mn hi, fun w2 hk => rhear_9 (hvo.kept hk (fun _ _ h => h)) fr mn hi⟩
    · cases ht : (lo[j].to == fr)
      · exact ⟨_, _, _, _, _, _, hear_10 hvo fr mn j hj hi ht, fun w2 hk => rhear_10 (hvo.kept hk (fun _ _ h => h)) fr mn j hj hi ht⟩
      · exact ⟨_, _, _, _, _, _, hear_11 hvo fr mn j hj hi ht, fun w2 hk => rhear_11 (hvo.kept hk (fun _ _ h => h)) fr mn j hj hi ht⟩
  have e7 : (mk == 7) = false := by simpa using h7
  have e8 : (mk == 8) = false := by simpa using h8
  have e9 : (mk == 9) = false := by simpa using h9
  have e10 : (mk == 10) = false := by simpa using h10
  exact ⟨_, _, _, _, _, _, hear_12 mk fr mn e7 e8 e9 e10, fun w2 hk => rhear_12 mk fr mn e7 e8 e9 e10⟩

section
variable {H : Type} {enc : TypeId × Value → H} {w : World} {base : Nat} {spare : Nat → Bool} {held : Bool} {n : Nat} {cs : List Value} {x : DataW H × List MemPlace}

theorem k1 : Try.prog.cellsOf 3 = 1 := by kernel_rfl
theorem kId : Try.prog.cellsOf 35 = 3 := by kernel_rfl
theorem kBd : Try.prog.cellsOf 37 = 11 := by kernel_rfl
theorem kOu : Try.prog.cellsOf 78 = 14 := by kernel_rfl
theorem kIn : Try.prog.cellsOf 89 = 13 := by kernel_rfl
theorem one_field {y : DataW H × List MemPlace} {c : Value} (h : DataW.trod enc Try.prog w base spare held n 3 [c] = some y) : ∃ a, c = .int .i64 a := by
  obtain ⟨a, ha, _, _⟩ := DataW.trod_int Try.underlying3 h
  exact ⟨a, by simpa using ha⟩

set_option maxRecDepth 100000 in
theorem trodId (h : DataW.trod enc Try.prog w base spare held n 35 cs = some x) : ∃ a : Idn, cs = idC a := by
  obtain ⟨y0, y1, y2, m, _, hl, h0, h1, h2⟩ := trod_struct3 Try.underlying35 h
  rw [kId] at hl
  match cs, hl with
  | [c0, c1, c2], _ =>
    simp only [k1] at h0 h1 h2
    obtain ⟨a0, rfl⟩ := one_field (c := c0) h0
    obtain ⟨a1, rfl⟩ := one_field (c := c1) h1
    obtain ⟨a2, rfl⟩ := one_field (c := c2) h2
    exact ⟨⟨a0, a1, a2⟩, rfl⟩
set_option maxRecDepth 100000 in
theorem trodBd (h : DataW.trod enc Try.prog w base spare held n 37 cs = some x) : ∃ b : Bd, cs = bdC b := by
  obtain ⟨xs, m, _, _, hl, hxl, hf⟩ := DataW.trod_struct Try.underlying37 h
  rw [kBd] at hl
  match cs, hl with
  | [c0, c1, c2, c3, c4, c5, c6, c7, c8, c9, c10], _ =>
    match xs, hxl with
    | [x0, x1, x2, x3, x4, x5, x6, x7, x8], _ =>
      have h0 := hf 0 _ rfl
      have h1 := hf 1 _ rfl
      have h2 := hf 2 _ rfl
      have h3 := hf 3 _ rfl
      have h4 := hf 4 _ rfl
      have h5 := hf 5 _ rfl
      have h6 := hf 6 _ rfl
      have h7 := hf 7 _ rfl
      have h8 := hf 8 _ rfl
      simp [k1, kId] at h0 h1 h2 h3 h4 h5 h6 h7 h8
      obtain ⟨a, ha⟩ := trodId (cs := [c0, c1, c2]) h0
      simp only [idC, List.cons.injEq, and_true] at ha
      obtain ⟨rfl, rfl, rfl⟩ := ha
      obtain ⟨a1, rfl⟩ := one_field (c := c3) h1
      obtain ⟨a2, rfl⟩ := one_field (c := c4) h2
      obtain ⟨a3, rfl⟩ := one_field (c := c5) h3
      obtain ⟨a4, rfl⟩ := one_field (c := c6) h4
      obtain ⟨a5, rfl⟩ := one_field (c := c7) h5
      obtain ⟨a6, rfl⟩ := one_field (c := c8) h6
      obtain ⟨a7, rfl⟩ := one_field (c := c9) h7
      obtain ⟨a8, rfl⟩ := one_field (c := c10) h8
      exact ⟨⟨a.s, a.i, a.g, a1, a2, a3, a4, a5, a6, a7, a8⟩, rfl⟩
set_option maxRecDepth 100000 in
theorem trodOu (h : DataW.trod enc Try.prog w base spare held n 78 cs = some x) : ∃ o : Ou, cs = ouC o := by
  obtain ⟨xs, m, _, _, hl, hxl, hf⟩ := DataW.trod_struct Try.underlying78 h
  rw [kOu] at hl
  match cs, hl with
  | [c0, c1, c2, c3, c4, c5, c6, c7, c8, c9, c10, c11, c12, c13], _ =>
    match xs, hxl with
    | [x0, x1, x2, x3], _ =>
      have h0 := hf 0 _ rfl
      have h1 := hf 1 _ rfl
      have h2 := hf 2 _ rfl
      have h3 := hf 3 _ rfl
      simp [k1, kBd] at h0 h1 h2 h3
      obtain ⟨b, hb⟩ := trodBd (cs := [c3, c4, c5, c6, c7, c8, c9, c10, c11, c12, c13]) h3
      simp only [bdC, List.cons.injEq, and_true] at hb
      obtain ⟨rfl, rfl, rfl, rfl, rfl, rfl, rfl, rfl, rfl, rfl, rfl⟩ := hb
      obtain ⟨a0, rfl⟩ := one_field (c := c0) h0
      obtain ⟨a1, rfl⟩ := one_field (c := c1) h1
      obtain ⟨a2, rfl⟩ := one_field (c := c2) h2
      exact ⟨⟨a0, a1, a2, b⟩, rfl⟩
set_option maxRecDepth 100000 in
theorem trodIn (h : DataW.trod enc Try.prog w base spare held n 89 cs = some x) : ∃ o : Inn, cs = inC o := by
  obtain ⟨xs, m, _, _, hl, hxl, hf⟩ := DataW.trod_struct Try.underlying89 h
  rw [kIn] at hl
  match cs, hl with
  | [c0, c1, c3, c4, c5, c6, c7, c8, c9, c10, c11, c12, c13], _ =>
    match xs, hxl with
    | [x0, x1, x2], _ =>
      have h0 := hf 0 _ rfl
      have h1 := hf 1 _ rfl
      have h2 := hf 2 _ rfl
      simp [k1, kBd] at h0 h1 h2
      obtain ⟨b, hb⟩ := trodBd (cs := [c3, c4, c5, c6, c7, c8, c9, c10, c11, c12, c13]) h2
      simp only [bdC, List.cons.injEq, and_true] at hb
      obtain ⟨rfl, rfl, rfl, rfl, rfl, rfl, rfl, rfl, rfl, rfl, rfl⟩ := hb
      obtain ⟨a0, rfl⟩ := one_field (c := c0) h0
      obtain ⟨a1, rfl⟩ := one_field (c := c1) h1
      exact ⟨⟨a0, a1, b⟩, rfl⟩

theorem rdOf_of {α : Type} (C : Codec α) {w : World} {a : Addr} {c : Nat} {l : List α} (hc : l.length ≤ c) (hm : c ≤ maxLen)
    (h : ∀ i, (hi : i < l.length) → ∀ j u, (C.cells l[i])[j]? = some u → w.cell? (a.add (i * C.size + j)) = some u) : RdOf C w (.slice (some a) l.length c) l := by
  refine ⟨rowsOf_length C l, rowsOf_ones C l, .inr ⟨a, c, rfl, hc, hm, fun j u hu => ?_⟩⟩
  have hj : j < (rowsOf C l).length := (List.getElem?_eq_some_iff.1 hu).1
  rw [rowsOf_length] at hj
  have hp := C.pos
  have hi : j / C.size < l.length := Nat.div_lt_of_lt_mul (by rw [Nat.mul_comm]; exact hj)
  have hr : j = j / C.size * C.size + j % C.size := by rw [Nat.mul_comm]; exact (Nat.div_add_mod _ _).symm
  have hm := Nat.mod_lt j hp
  rw [hr] at hu ⊢
  rw [rowsOf_at C l _ hi _ hm] at hu
  exact h _ hi _ u hu

/-- a slice of structs, out of a reading -/
theorem trodRows {α : Type} (C : Codec α) (a0 : α) {t e : TypeId} (ht : Try.prog.underlying t = some (.slice e)) (hC : Try.prog.cellsOf e = C.size)
    (hel : ∀ {n : Nat} {cs : List Value} {x : DataW H × List MemPlace}, DataW.trod enc Try.prog w base spare held n e cs = some x → ∃ a, cs = C.cells a)
    (h : DataW.trod enc Try.prog w base spare held n t cs = some x) : ∃ (v : Value) (l : List α), cs = [v] ∧ RdOf C w v l := by
  rcases open_slice ht h with ⟨rfl, _⟩ | ⟨a, len, cap, m, n', D, Pl, rfl, _, hl, hm, hmm, _, hx⟩
  · exact ⟨_, [], rfl, rdNil C _⟩
  · have hlm : len ≤ m := by rw [hmm]; split <;> omega
    have hp : ∀ i, i < len → ∃ p : α, w.cells? base (a.add (i * C.size)) C.size = some (C.cells p) := by
      intro i hi
      obtain ⟨cs', h1, h2⟩ := hx i (by omega)
      rw [hC] at h1
      obtain ⟨p, rfl⟩ := hel h2
      exact ⟨p, h1⟩
    obtain ⟨g, hg⟩ := @choose_lt α ⟨a0⟩ len _ hp
    refine ⟨_, (List.range len).map g, rfl, ?_⟩
    have hlen : ((List.range len).map g).length = len := by simp
    have := rdOf_of C (w := w) (a := a) (c := cap) (l := (List.range len).map g) (by omega) hm (fun i hi j u hu => by
      have hil : i < len := by simpa using hi
      have h1 := hg i hil
      obtain ⟨_, h2, h3⟩ := World.cells?_some h1
      simp only [List.getElem_map, List.getElem_range] at hu
      have hj3 : j < C.size := by have := (List.getElem?_eq_some_iff.1 hu).1; rw [C.len] at this; exact this
      have := h3 j hj3
      rwa [add_add, hu] at this)
    rwa [hlen] at this
end
end Go.Proofs.Ytggaeihinheojaa
