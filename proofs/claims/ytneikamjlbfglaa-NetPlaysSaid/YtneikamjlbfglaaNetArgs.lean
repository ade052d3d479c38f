/-
  Packets among a law's arguments: how they read.
-/
import Derived.Test.YtneikamjlbfglaaNetE
import Derived.Test.YtneikamjlbfglaaLaw
import Derived.Deep.Strs
namespace Go.Proofs.Ytneikamjlbfglaa
open Go.ChangeShapes Go.WideShapes Go.ChangeAt Go.RowKit Go.Joins Go.Deep

/-- the bounds of a packet that can be read -/
structure PkWf (p : Pk) : Prop where
  f : (Lit.int .i64 p.f).wf = true
  t : (Lit.int .i64 p.t).wf = true
  s : p.s.size ≤ maxLen

theorem cellsPk : Try.prog.cellsOf 34 = 3 := by kernel_rfl

theorem trod_pk {H : Type} {enc : TypeId × Value → H} {w : World} {base : Nat} {spare : Nat → Bool} {held : Bool} {n : Nat} {cs : List Value} {x : DataW H × List MemPlace}
    (h : DataW.trod enc Try.prog w base spare held n 34 cs = some x) : ∃ p : Pk, cs = p.cells ∧ PkWf p := by
  obtain ⟨y0, y1, y2, m, _, hl, h0, h1, h2⟩ := trod_struct3 Try.underlying34 h
  rw [cellsPk] at hl
  match cs, hl with
  | [c0, c1, c2], _ =>
    have k1 : Try.prog.cellsOf 3 = 1 := by kernel_rfl
    have k2 : Try.prog.cellsOf 9 = 1 := by kernel_rfl
    obtain ⟨f, hf, _, wf⟩ := DataW.trod_int Try.underlying3 h0
    obtain ⟨t, ht, _, wt⟩ := DataW.trod_int Try.underlying3 h1
    obtain ⟨s, hs, _, ws⟩ := DataW.trod_string Try.underlying9 h2
    simp [k1, k2] at hf ht hs
    subst hf ht hs
    exact ⟨⟨f, t, s⟩, rfl, ⟨wf, wt, ws⟩⟩

/-- a packet by value -/
theorem open_pk {H : Type} {enc : TypeId × Value → H} {W : World} {base : Nat} {v : Value} {d : DataW H} {ps : List MemPlace}
    (hv : Value.okWide Try.prog W .any base 34 v) (h : DataW.Trod enc Try.prog W 0 (fun _ => true) true 34 v d ps) :
    ∃ p : Pk, v = .agg #[.int .i64 p.f, .int .i64 p.t, .string p.s] ∧ PkWf p := by
  obtain ⟨cs, rfl, _⟩ := okWide_struct Try.underlying34 hv
  obtain ⟨n, hn⟩ := h
  obtain ⟨p, hp, hw⟩ := trod_pk hn
  refine ⟨p, ?_, hw⟩
  have : cs = p.cells.toArray := by simp [Value.cells] at hp; rw [← hp]
  rw [this]
  rfl

theorem pkReads_of {w : World} {a : Addr} {c : Nat} {l : List Pk} (hc : l.length ≤ c) (hm : c ≤ maxLen)
    (h : ∀ i, (hi : i < l.length) → ∀ j u, l[i].cells[j]? = some u → w.cell? (a.add (i * 3 + j)) = some u) : PkReads w (.slice (some a) l.length c) l := by
  refine ⟨pkCells_length l, pkCells_one' l, .inr ⟨a, c, rfl, hc, hm, fun j u hu => ?_⟩⟩
  have hj : j < (pkCells l).length := (List.getElem?_eq_some_iff.1 hu).1
  rw [pkCells_length] at hj
  have hi : j / 3 < l.length := by omega
  obtain ⟨e0, e1, e2⟩ := pkCells_at l (j / 3) hi
  have hr : j = j / 3 * 3 + j % 3 := by omega
  have hcase : j % 3 = 0 ∨ j % 3 = 1 ∨ j % 3 = 2 := by omega
  rw [hr] at hu ⊢
  generalize j / 3 = i at *
  rcases hcase with h3 | h3 | h3 <;> rw [h3] at hu ⊢
  · rw [Nat.add_zero, e0] at hu; exact h i hi 0 u (by simpa [Pk.cells] using hu)
  · rw [e1] at hu; exact h i hi 1 u (by simpa [Pk.cells] using hu)
  · rw [e2] at hu; exact h i hi 2 u (by simpa [Pk.cells] using hu)

/-- a slice of packets, out of a reading -/
theorem trod_pks {H : Type} {enc : TypeId × Value → H} {w : World} {base : Nat} {spare : Nat → Bool} {held : Bool} {n : Nat} {cs : List Value} {x : DataW H × List MemPlace}
    (h : DataW.trod enc Try.prog w base spare held n 28 cs = some x) : ∃ (v : Value) (l : List Pk), cs = [v] ∧ PkReads w v l ∧ ∀ p ∈ l, PkWf p := by
  rcases open_slice Try.underlying28 h with ⟨rfl, _⟩ | ⟨a, len, cap, m, n', D, Pl, rfl, _, hl, hm, hmm, _, hx⟩
  · exact ⟨_, [], rfl, Reads.nil _ _, by simp⟩
  · have hlm : len ≤ m := by rw [hmm]; split <;> omega
    have hp : ∀ i, i < len → ∃ p : Pk, w.cells? base (a.add (i * 3)) 3 = some p.cells ∧ PkWf p := by
      intro i hi
      obtain ⟨cs', h1, h2⟩ := hx i (by omega)
      rw [cellsPk] at h1
      obtain ⟨p, rfl, hw⟩ := trod_pk h2
      exact ⟨p, h1, hw⟩
    obtain ⟨g, hg⟩ := @choose_lt Pk ⟨⟨0, 0, ByteArray.empty⟩⟩ len _ hp
    refine ⟨_, (List.range len).map g, rfl, ?_, ?_⟩
    · have hlen : ((List.range len).map g).length = len := by simp
      have := pkReads_of (w := w) (a := a) (c := cap) (l := (List.range len).map g) (by omega) hm (fun i hi j u hu => by
        have hil : i < len := by simpa using hi
        obtain ⟨h1, _⟩ := hg i hil
        obtain ⟨_, h2, h3⟩ := World.cells?_some h1
        simp only [List.getElem_map, List.getElem_range] at hu
        have hj3 : j < 3 := by have := (List.getElem?_eq_some_iff.1 hu).1; omega
        have := h3 j hj3
        rwa [add_add, hu] at this)
      rwa [hlen] at this
    · intro p hp
      obtain ⟨i, hi, rfl⟩ := List.mem_map.1 hp
      exact (hg i (by simpa using hi)).2
theorem open_pks {H : Type} {enc : TypeId × Value → H} {W : World} {base : Nat} {v : Value} {d : DataW H} {ps : List MemPlace}
    (hv : Value.okWide Try.prog W .any base 28 v) (h : DataW.Trod enc Try.prog W 0 (fun _ => true) true 28 v d ps) : ∃ l : List Pk, PkReads W v l ∧ ∀ p ∈ l, PkWf p := by
  obtain ⟨a, len, cap, rfl⟩ := okWide_slice Try.underlying28 hv
  obtain ⟨n, hn⟩ := h
  obtain ⟨v, l, hv, hl, hw⟩ := trod_pks hn
  simp [Value.cells] at hv
  subst hv
  exact ⟨l, hl, hw⟩
end Go.Proofs.Ytneikamjlbfglaa
