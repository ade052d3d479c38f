/-
  States among a law's arguments, with what their neighbours told and the bounds of their numbers; entities among them. No conditions of its own.
-/
import Derived.Test.YtggaeihinheojaaHoL
import Derived.Test.YtggaeihinheojaaHoP
namespace Go.Proofs.Ytggaeihinheojaa
open Go.ChangeShapes Go.WideShapes Go.ChangeAt Go.RowKit Go.Joins Go.Deep

section
variable {H : Type} {enc : TypeId × Value → H} {w : World} {base : Nat} {spare : Nat → Bool} {held : Bool} {n : Nat} {cs : List Value} {x : DataW H × List MemPlace}
theorem kGh : Try.prog.cellsOf 117 = 3 := by kernel_rfl
theorem wf_field {y : DataW H × List MemPlace} {c : Value} (h : DataW.trod enc Try.prog w base spare held n 3 [c] = some y) : ∃ a, c = .int .i64 a ∧ (Lit.int .i64 a).wf = true := by
  obtain ⟨a, ha, _, hw⟩ := DataW.trod_int Try.underlying3 h
  exact ⟨a, by simpa using ha, hw⟩
/-- a slice of structs of which each bears more, out of a reading -/
theorem trodRowsQ {α : Type} (C : Codec α) (a0 : α) (Q : α → Prop) {t e : TypeId} (ht : Try.prog.underlying t = some (.slice e)) (hC : Try.prog.cellsOf e = C.size)
    (hel : ∀ {n : Nat} {cs : List Value} {x : DataW H × List MemPlace}, DataW.trod enc Try.prog w base spare held n e cs = some x → ∃ a, cs = C.cells a ∧ Q a)
    (h : DataW.trod enc Try.prog w base spare held n t cs = some x) : ∃ (v : Value) (l : List α), cs = [v] ∧ RdOf C w v l ∧ ∀ a ∈ l, Q a := by
  rcases open_slice ht h with ⟨rfl, _⟩ | ⟨a, len, cap, m, n', D, Pl, rfl, _, hl, hm, hmm, _, hx⟩
  · exact ⟨_, [], rfl, rdNil C _, fun _ h => by cases h⟩
  · have hlm : len ≤ m := by rw [hmm]; split <;> omega
    have hp : ∀ i, i < len → ∃ p : α, w.cells? base (a.add (i * C.size)) C.size = some (C.cells p) ∧ Q p := by
      intro i hi
      obtain ⟨cs', h1, h2⟩ := hx i (by omega)
      rw [hC] at h1
      obtain ⟨p, rfl, hq⟩ := hel h2
      exact ⟨p, h1, hq⟩
    obtain ⟨g, hg⟩ := @choose_lt α ⟨a0⟩ len _ hp
    refine ⟨_, (List.range len).map g, rfl, ?_, fun a ha => ?_⟩
    · have hlen : ((List.range len).map g).length = len := by simp
      have := rdOf_of C (w := w) (a := a) (c := cap) (l := (List.range len).map g) (by omega) hm (fun i hi j u hu => by
        have hil : i < len := by simpa using hi
        have h1 := (hg i hil).1
        obtain ⟨_, h2, h3⟩ := World.cells?_some h1
        simp only [List.getElem_map, List.getElem_range] at hu
        have hj3 : j < C.size := by have := (List.getElem?_eq_some_iff.1 hu).1; rw [C.len] at this; exact this
        have := h3 j hj3
        rwa [add_add, hu] at this)
      rwa [hlen] at this
    · rw [List.mem_map] at ha
      obtain ⟨i, hi, rfl⟩ := ha
      exact (hg i (by simpa using hi)).2
set_option maxRecDepth 100000 in
theorem trodGh (h : DataW.trod enc Try.prog w base spare held n 117 cs = some x) : ∃ g : Gh, cs = ghC g ∧ RdOf cBd w (.slice g.a g.l.length g.c) g.l := by
  obtain ⟨xs, m, _, _, hl, hxl, hf⟩ := DataW.trod_struct Try.underlying117 h
  rw [kGh] at hl
  match cs, hl with
  | [c0, c1, c2], _ =>
    match xs, hxl with
    | [x0, x1, x2], _ =>
      have h0 := hf 0 _ rfl
      have h1 := hf 1 _ rfl
      have h2 := hf 2 _ rfl
      simp [k1, kS1] at h0 h1 h2
      obtain ⟨a0, rfl⟩ := one_field (c := c0) h0
      obtain ⟨a1, rfl⟩ := one_field (c := c1) h1
      obtain ⟨lb, hb⟩ := one_rows (trodRows cBd Bd.zero Try.underlying22 kBd (fun h => trodBd h) h2)
      obtain ⟨a, c, rfl⟩ := hb.slice
      exact ⟨⟨a0, a1, a, c, lb⟩, rfl, hb⟩
/-- a state's slices, as they read, and its number's bounds -/
structure StReads2 (w : World) (own dead outs ins gh : Value) (nx : Int) (lb : List Bd) (ld : List Idn) (lo : List Ou) (li : List Inn) (lg : List Gh) : Prop where
  st : StReads w own dead outs ins lb ld lo li
  gh : GhReads w gh lg
  nx : (Lit.int .i64 nx).wf = true
set_option maxRecDepth 100000 in
theorem trodSt2 (h : DataW.trod enc Try.prog w base spare held n 28 cs = some x) : ∃ (ep t nx : Int) (own dead outs ins gh : Value) (lb : List Bd) (ld : List Idn) (lo : List Ou) (li : List Inn) (lg : List Gh),
    cs = [.int .i64 ep, .int .i64 t, own, dead, outs, ins, gh, .int .i64 nx] ∧ StReads2 w own dead outs ins gh nx lb ld lo li lg := by
  obtain ⟨xs, m, _, _, hl, hxl, hf⟩ := DataW.trod_struct Try.underlying28 h
  rw [kSt] at hl
  match cs, hl with
  | [c0, c1, c2, c3, c4, c5, c6, c7], _ =>
    match xs, hxl with
    | [x0, x1, x2, x3, x4, x5, x6, x7], _ =>
      have h0 := hf 0 _ rfl
      have h1 := hf 1 _ rfl
      have h2 := hf 2 _ rfl
      have h3 := hf 3 _ rfl
      have h4 := hf 4 _ rfl
      have h5 := hf 5 _ rfl
      have h6 := hf 6 _ rfl
      have h7 := hf 7 _ rfl
      simp [k1, kS1, kS2, kS3, kS4, kS5] at h0 h1 h2 h3 h4 h5 h6 h7
      obtain ⟨a0, rfl⟩ := one_field (c := c0) h0
      obtain ⟨a1, rfl⟩ := one_field (c := c1) h1
      obtain ⟨a7, rfl, hw⟩ := wf_field (c := c7) h7
      obtain ⟨lb, hb⟩ := one_rows (trodRows cBd Bd.zero Try.underlying22 kBd (fun h => trodBd h) h2)
      obtain ⟨ld, hd⟩ := one_rows (trodRows cId ⟨0, 0, 0⟩ Try.underlying23 kId (fun h => trodId h) h3)
      obtain ⟨lo, ho⟩ := one_rows (trodRows cOu ⟨0, 0, 0, Bd.zero⟩ Try.underlying24 kOu (fun h => trodOu h) h4)
      obtain ⟨li, hi⟩ := one_rows (trodRows cIn ⟨0, 0, Bd.zero⟩ Try.underlying25 kIn (fun h => trodIn h) h5)
      obtain ⟨vg, lg, hv, hg, hq⟩ := trodRowsQ cGh ⟨0, 0, none, 0, []⟩ (fun g : Gh => RdOf cBd w (.slice g.a g.l.length g.c) g.l) Try.underlying26 kGh (fun h => trodGh h) h6
      obtain rfl : c6 = vg := by simpa using hv
      exact ⟨a0, a1, a7, c2, c3, c4, c5, c6, lb, ld, lo, li, lg, rfl, ⟨⟨hb, hd, ho, hi⟩, ⟨hg, hq⟩, hw⟩⟩
end
set_option maxRecDepth 100000 in
theorem open_st2 {H : Type} {enc : TypeId × Value → H} {W : World} {base : Nat} {v : Value} {d : DataW H} {ps : List MemPlace}
    (hv : Value.okWide Try.prog W .any base 28 v) (h : DataW.Trod enc Try.prog W 0 (fun _ => true) true 28 v d ps) : ∃ (ep t nx : Int) (own dead outs ins gh : Value) (lb : List Bd) (ld : List Idn) (lo : List Ou) (li : List Inn) (lg : List Gh),
    v = stV ep t own dead outs ins gh nx ∧ StReads2 W own dead outs ins gh nx lb ld lo li lg := by
  obtain ⟨cs, rfl, _⟩ := okWide_struct Try.underlying28 hv
  obtain ⟨n, hn⟩ := h
  obtain ⟨ep, t, nx, own, dead, outs, ins, gh, lb, ld, lo, li, lg, hc, hr⟩ := trodSt2 hn
  refine ⟨ep, t, nx, own, dead, outs, ins, gh, lb, ld, lo, li, lg, ?_, hr⟩
  have : cs = [Value.int .i64 ep, .int .i64 t, own, dead, outs, ins, gh, .int .i64 nx].toArray := by simp [Value.cells] at hc; rw [← hc]
  rw [this]
set_option maxRecDepth 100000 in
theorem open_bd {H : Type} {enc : TypeId × Value → H} {W : World} {base : Nat} {v : Value} {d : DataW H} {ps : List MemPlace}
    (hv : Value.okWide Try.prog W .any base 37 v) (h : DataW.Trod enc Try.prog W 0 (fun _ => true) true 37 v d ps) : ∃ b : Bd, v = .agg (bdC b).toArray := by
  obtain ⟨cs, rfl, _⟩ := okWide_struct Try.underlying37 hv
  obtain ⟨n, hn⟩ := h
  obtain ⟨b, hc⟩ := trodBd hn
  refine ⟨b, ?_⟩
  have : cs = (bdC b).toArray := by simp [Value.cells] at hc; rw [← hc]
  rw [this]
theorem wrap_nx {nx : Int} (h : (Lit.int .i64 nx).wf = true) : nx < 1099511627776 → wrap64 (nx + 1) = nx + 1 := fun h2 => by
  have h1 : -9223372036854775808 ≤ nx := by
    have := (Bool.and_eq_true_iff.1 h).1
    exact of_decide_eq_true this
  exact IntWalk.wrap64_in _ ⟨by omega, by omega⟩
end Go.Proofs.Ytggaeihinheojaa
