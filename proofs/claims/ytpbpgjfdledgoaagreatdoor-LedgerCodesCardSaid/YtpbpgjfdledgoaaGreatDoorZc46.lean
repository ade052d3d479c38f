/-
  Deeds of a ledger among a law's arguments. No conditions of their own.
-/
import Derived.Test.YtpbpgjfdledgoaaGreatDoorZc45
import Derived.Test.YtpbpgjfdledgoaaGreatDoorZc31
import Derived.Deep.Strs
namespace Go.Proofs.YtpbpgjfdledgoaaGreatDoor
open Go.ChangeShapes Go.WideShapes Go.ChangeAt Go.RowKit Go.Joins Go.Deep

/-- a deed: its kind, its number, its command, its names and where they lie -/
structure Du where
  k : Int
  n : Int
  c : Cm
  a : Option Addr
  p : Nat
  ids : List Nam
/-- what is read of a deed -/
structure DuOk (w : World) (x : Du) : Prop where
  n : i64 x.n
  k : i64 x.k
  c : x.c.ok
  ids : RdOf cNam w (.slice x.a x.ids.length x.p) x.ids
theorem DuOk.kept {w w' : World} {S : Nat → Prop} {x : Du} (h : DuOk w x) (k : Keeps S w w') (hn : ∀ a, x.a = some a → ¬ S a.block) : DuOk w' x :=
  ⟨h.n, h.k, h.c, h.ids.kept k (fun i hi => by
    cases hx : x.a with
    | none => rw [hx] at hi; cases hi
    | some a => rw [hx] at hi; exact (Option.some.inj hi) ▸ hn a hx)⟩
theorem DuOk.no {w w' : World} {x : Du} (h : DuOk w x) (k : Keeps No w w') : DuOk w' x := h.kept k (fun _ _ h => h)
section
variable {H : Type} {enc : TypeId × Value → H} {w : World} {base : Nat} {spare : Nat → Bool} {held : Bool} {n : Nat} {cs : List Value} {x : DataW H × List MemPlace}
theorem kIds : Tryz.prog.cellsOf 28 = 1 := by kernel_rfl
/-- a slice of rows, each of a kind, out of a reading -/
theorem trodAllOf {α : Type} (C : Codec α) (a0 : α) (P : α → Prop) {t e : TypeId} (ht : Tryz.prog.underlying t = some (.slice e)) (hC : Tryz.prog.cellsOf e = C.size)
    (hel : ∀ {n : Nat} {cs : List Value} {x : DataW H × List MemPlace}, DataW.trod enc Tryz.prog w base spare held n e cs = some x → ∃ a, cs = C.cells a ∧ P a)
    (h : DataW.trod enc Tryz.prog w base spare held n t cs = some x) : ∃ (v : Value) (l : List α), cs = [v] ∧ RdOf C w v l ∧ ∀ a ∈ l, P a := by
  rcases open_slice ht h with ⟨rfl, _⟩ | ⟨a, len, cap, m, n', D, Pl, rfl, _, hl, hm, hmm, _, hx⟩
  · exact ⟨_, [], rfl, Reads.nil _ _, fun a h => by cases h⟩
  · have hlm : len ≤ m := by rw [hmm]; split <;> omega
    have hp : ∀ i, i < len → ∃ p : α, w.cells? base (a.add (i * C.size)) C.size = some (C.cells p) ∧ P p := by
      intro i hi
      obtain ⟨cs', h1, h2⟩ := hx i (by omega)
      rw [hC] at h1
      obtain ⟨p, rfl, hP⟩ := hel h2
      exact ⟨p, h1, hP⟩
    obtain ⟨g, hg⟩ := @choose_lt α ⟨a0⟩ len _ hp
    refine ⟨_, (List.range len).map g, rfl, ?_, fun p hp => ?_⟩
    · have hlen : ((List.range len).map g).length = len := by simp
      have := rdOf_of C (w := w) (a := a) (c := cap) (l := (List.range len).map g) (by omega) hm (fun i hi j u hu => by
        have hil : i < len := by simpa using hi
        have h1 := (hg i hil).1
        obtain ⟨_, h2, h3⟩ := World.cells?_some h1
        simp only [List.getElem_map, List.getElem_range] at hu
        have hj3 : j < C.size := by have := (List.getElem?_eq_some_iff.1 hu).1; rw [C.len] at this; exact this
        have := h3 j hj3
        rwa [add_add, hu] at this)
      rwa [hlen] at this
    · obtain ⟨i, hi, rfl⟩ := List.mem_map.1 hp
      exact (hg i (by simpa using hi)).2

set_option maxRecDepth 100000 in
theorem trodIds (h : DataW.trod enc Tryz.prog w base spare held n 28 cs = some x) : ∃ (a : Option Addr) (p : Nat) (l : List Nam), cs = [.slice a l.length p] ∧ RdOf cNam w (.slice a l.length p) l := by
  obtain ⟨v, l, rfl, hr, _⟩ := trodAllOf cNam Nam.zero (fun _ => True) Tryz.underlying28 kId (fun h => by obtain ⟨a, ha, _⟩ := trodNam h; exact ⟨a, ha, trivial⟩) h
  obtain ⟨a, c, rfl⟩ := hr.slice
  exact ⟨a, c, l, rfl, hr⟩
end
end Go.Proofs.YtpbpgjfdledgoaaGreatDoor
