/-
  slices.SortFunc over names. No conditions of its own.
-/
import Derived.Test.YtcjeocibnfoenaaGreatTjK
import Derived.Test.YtcjeocibnfoenaaGreatSort
namespace Go.Proofs.YtcjeocibnfoenaaGreat
open Go.RowKit Go.Joins Go.Deep Go.Sort Go.Shelf

/-! ### a row of the call's own, as the sort's row kit sees it -/
section
variable {α : Type} [Inhabited α] (C : Codec α)
theorem flat_at (d : Array α) (t : Nat) (ht : t < d.size * C.size) : (rowsOf C d.toList)[t]? = some (flatK C.cells C.size d)[t]! := by
  have hp := C.pos
  have h1 : t / C.size < d.toList.length := by
    rw [Array.length_toList]
    exact (Nat.div_lt_iff_lt_mul hp).2 ht
  have h2 : t % C.size < C.size := Nat.mod_lt _ hp
  have h3 : t = t / C.size * C.size + t % C.size := by rw [Nat.mul_comm]; exact (Nat.div_add_mod t C.size).symm
  have h4 := rowsOf_at C d.toList (t / C.size) h1 (t % C.size) h2
  rw [← h3] at h4
  rw [h4, get_flatK _ _ _ _ ht]
  have h5 : d[t / C.size]! = d.toList[t / C.size] := by
    rw [getElem!_pos d _ (by simpa using h1)]
    simp
  rw [h5, getElem!_pos _ _ (by rw [C.len]; exact h2)]
  exact List.getElem?_eq_getElem _
theorem own_holds {e : TypeId} {w : World} {base g cap : Nat} {l : List α} (h : w.ownsRow base e C.size (.slice (some ⟨g, 0, none⟩) l.length cap) l.length (rowsOf C l)) : HoldsK C.cells C.size w g 0 l.toArray := by
  intro j hj
  have hj' : j < l.toArray.size * C.size := by simpa using hj
  have hf := flat_at C l.toArray j hj'
  have hc := h.cells (g := g) rfl j _ (by simpa using hf)
  rw [Addr.add_lit] at hc
  refine ⟨hc, ?_⟩
  rcases h.2 with ⟨h', _⟩ | ⟨g', cap', cur, h', _, hh, _⟩
  · simp at h'
  · simp only [Value.slice.injEq, Option.some.injEq, Addr.mk.injEq, and_true, true_and] at h'
    obtain ⟨rfl, rfl⟩ := h'
    exact frozen_of_row w g _ _ _ hh
theorem own_sorted {e : TypeId} {w : World} {base g cap : Nat} {l : List α} (h : w.ownsRow base e C.size (.slice (some ⟨g, 0, none⟩) l.length cap) l.length (rowsOf C l)) (d : Array α) (hd : d.size = l.length) (n : Nat) (os : Array Obj) :
    (sortWorldK C.cells C.size w g 0 n d os).ownsRow base e C.size (.slice (some ⟨g, 0, none⟩) d.toList.length cap) d.toList.length (rowsOf C d.toList) ∧ Keeps (Own g) w (sortWorldK C.cells C.size w g 0 n d os) := by
  have hdl : d.toList.length = l.length := by rw [Array.length_toList, hd]
  rcases h.2 with ⟨h', _⟩ | ⟨g', cap', cur, h', hb, hh, hnc, hcm, hcs, htake⟩
  · simp at h'
  simp only [Value.slice.injEq, Option.some.injEq, Addr.mk.injEq, and_true, true_and] at h'
  obtain ⟨rfl, rfl⟩ := h'
  have hlt := (Array.getElem?_eq_some_iff.1 hh).1
  have hheap : (sortWorldK C.cells C.size w g 0 n d os).heap[g]? = some (.cells (putCells id 0 (flatK C.cells C.size d) cur) e (0, 0)) := by
    unfold sortWorldK
    rw [heap_grow_old _ _ (by unfold putRowK; rw [size_putRow]; exact hlt)]
    unfold putRowK putRow mapBlock
    show (Array.modify w.heap g _)[g]? = _
    rw [Array.getElem?_modify, if_pos rfl, hh]
    rfl
  refine ⟨⟨rowsOf_length C _, .inr ⟨g, cap, _, rfl, hb, hheap, by rw [hdl]; exact hnc, hcm, by unfold putCells; rw [Array.size_mapIdx]; exact hcs, ?_⟩⟩, ?_⟩
  · apply List.ext_getElem?
    intro t
    rw [List.getElem?_take]
    by_cases ht : t < d.toList.length * C.size
    · rw [if_pos ht]
      have ht' : t < d.size * C.size := by rw [← Array.length_toList]; exact ht
      rw [flat_at C d t ht']
      have hct : t < cur.size := by
        have : l.length * C.size ≤ cap * C.size := Nat.mul_le_mul_right _ hnc
        rw [hdl] at ht
        omega
      rw [Array.getElem?_toList]
      unfold putCells
      rw [Array.getElem?_mapIdx, Array.getElem?_eq_getElem hct, Option.map_some, if_pos ⟨Nat.zero_le _, by rw [size_flatK]; omega⟩]
      try rfl
    · rw [if_neg ht, List.getElem?_eq_none (by rw [rowsOf_length]; omega)]
  · refine ⟨rfl, rfl, rfl, ?_, fun k hk hn => ?_⟩
    · unfold sortWorldK putRowK
      rw [size_grow, size_putRow]
      exact Nat.le_add_right _ _
    · unfold sortWorldK putRowK
      rw [heap_grow_old _ _ (by rw [size_putRow]; exact hk)]
      unfold putRow mapBlock
      show (Array.modify w.heap g _)[k]? = _
      rw [Array.getElem?_modify, if_neg (fun e => hn e.symm)]
      try rfl
end
instance : Inhabited Nam := ⟨⟨0, 0, 0⟩⟩
theorem nam_swo : SWO (ltOf ncmp) where
  irrefl x := by unfold ltOf; rw [ncmp_lt]; exact nlt_irrefl x
  trans x y z h1 h2 := by unfold ltOf at *; rw [ncmp_lt] at *; exact nlt_trans h1 h2
  ntrans x y z h1 h2 := by
    unfold ltOf at *
    rw [ncmp_lt] at *
    rw [Bool.eq_false_iff]
    intro h3
    rcases nlt_or h1 with a | a
    · rcases nlt_or h2 with b | b
      · rw [nlt_asymm (nlt_trans b a)] at h3; cases h3
      · subst b; rw [h1] at h3; cases h3
    · subst a; rw [h2] at h3; cases h3
abbrev cmpIDF : Value := .func (.func 18) #[] #[]
theorem sortID_some (w : World) (base g cap : Nat) (l : List Nam) (h : OwnOf cNam 36 w base (.slice (some ⟨g, 0, none⟩) l.length cap) l) (hl : l.length ≤ 1000000) :
    Calls Tryz.prog 32 #[.slice (some ⟨g, 0, none⟩) l.length cap, cmpIDF] w fun e w' => e = .returned (.tuple #[]) ∧ ∃ l' : List Nam, l'.length = l.length ∧ OwnOf cNam 36 w' base (.slice (some ⟨g, 0, none⟩) l'.length cap) l' ∧ Keeps (Own g) w w' := by
  have hcmp : CmpLays Tryz.prog 18 #[] cNam.cells 3 ncmp g 0 l.toArray.size w := fun m os dk _ x y => compare_any _ x y
  have hb := (h.lt g rfl).2
  have hc := AnyQ.slices_SortFunc Tryz.sortID 3 (fun w => by kernel_rfl) (fun w => by kernel_rfl) cNam.cells (fun x => rfl) (fun x v hv => cNam.one x v hv) ncmp nam_swo 18 #[] g 0 cap l.toArray w (fun args w => by kernel_rfl) hcmp (own_holds cNam h) hb (by simp; omega)
  refine Calls.mono hc ?_
  rintro e w' ⟨rfl, d', n, os, hp, _, rfl⟩
  have hs : d'.size = l.length := by have := hp.1; simpa using this
  obtain ⟨h1, h2⟩ := own_sorted cNam h d' hs n os
  exact ⟨rfl, d'.toList, by rw [Array.length_toList, hs], h1, h2⟩

set_option maxRecDepth 100000 in
theorem insNone_any (w : World) (cap : Nat) : Calls Tryz.prog 90 #[.slice none 0 cap, .int .i64 0, .int .i64 0, cmpIDF] w fun e w' => e = .returned (.tuple #[]) ∧ w' = w := by
  go_enter Tryz.func90, Tryz.ntmps90
  go_wp2_with fail
  go_loopw [8] (fun q wr => q = .int .i64 1 ∧ w = wr) (fun _ _ => 0)
  case atStart => exact ⟨rfl, rfl⟩
  case round =>
    obtain ⟨rfl, rfl⟩ := hrel
    go_wp2
    exact bodyPost_end (results_none rfl _ _ _) rfl ⟨rfl, rfl⟩
set_option maxRecDepth 100000 in
theorem pdqNone_any (w : World) (cap : Nat) (n : Int) : Calls Tryz.prog 61 #[.slice none 0 cap, .int .i64 0, .int .i64 0, .int .i64 n, cmpIDF] w fun e w' => e = .returned (.tuple #[]) ∧ w' = w := by
  have HI := Lib.hid (fun W => insNone_any W cap)
  go_enter Tryz.func61, Tryz.ntmps61
  go_wp2_with fail
  go_loopw [1, 2, 3, 10] (fun a b c q wr => a = .int .i64 0 ∧ b = .int .i64 0 ∧ c = .int .i64 n ∧ q = .bool true ∧ w = wr) (fun _ _ _ _ _ => 0)
  case atStart => exact ⟨rfl, rfl, rfl, rfl, rfl⟩
  case round =>
    obtain ⟨rfl, rfl, rfl, rfl, rfl⟩ := hrel
    go_wp2_with fail
    refine (HI.out _).mono ?_
    rintro e w1 ⟨rfl, hw⟩
    have hw := hw.symm
    subst hw
    go_wp2
    exact bodyPost_ret (v := .tuple #[]) (results_none rfl _ _ _) rfl ⟨rfl, rfl⟩
set_option maxRecDepth 100000 in
theorem sortID_none (w : World) (cap : Nat) : Calls Tryz.prog 32 #[.slice none 0 cap, cmpIDF] w fun e w' => e = .returned (.tuple #[]) ∧ w' = w := by
  have HI := Lib.hid (fun W n => pdqNone_any W cap n)
  have HB : Hid (∀ W, Calls Tryz.prog 47 #[.int .u64 0] W fun e w' => e = .returned (.int .i64 0) ∧ w' = W) := Lib.hid (fun W => by
    have h := Any.bits_Len (SlLaysF0.n15.bits (P := Tryz.prog) (ρ := Tryz.sortID_ren) { Tryz.sortID with }) 0 W (by omega) (by omega)
    exact h)
  go_enter Tryz.func32, Tryz.ntmps32
  go_wp2_with fail
  refine (HB.out _).mono ?_
  rintro e w1 ⟨rfl, hw⟩
  have hw := hw.symm
  subst hw
  go_wp2_with fail
  refine (HI.out _ _).mono ?_
  rintro e w1 ⟨rfl, hw⟩
  have hw := hw.symm
  subst hw
  go_wp2
  exact bodyPost_end (results_none rfl _ _ _) rfl ⟨rfl, rfl⟩
/-- names, sorted -/
theorem sortID_any (w : World) (base : Nat) (v : Value) (l : List Nam) (h : OwnOf cNam 36 w base v l) (hl : l.length ≤ 1000000) :
    Calls Tryz.prog 32 #[v, cmpIDF] w fun e w' => e = .returned (.tuple #[]) ∧ ∃ l' : List Nam, l'.length = l.length ∧ OwnOf cNam 36 w' base v l' ∧ Keeps (Of v) w w' := by
  rcases h.2 with ⟨rfl, hn⟩ | ⟨g, cap, cur, rfl, _⟩
  · have hnil : l = [] := List.eq_nil_of_length_eq_zero hn
    subst hnil
    exact (sortID_none w 0).mono fun e w' ⟨he, hw⟩ => ⟨he, [], rfl, by rw [hw]; exact h, by rw [hw]; exact Keeps.refl _⟩
  · exact (sortID_some w base g cap l h hl).mono fun e w' ⟨he, l', h1, h2, h3⟩ => ⟨he, l', h1, by have h4 : w'.ownsRow base 36 cNam.size (.slice (some ⟨g, 0, none⟩) l'.length cap) l'.length (rowsOf cNam l') := h2; rw [h1] at h4; unfold OwnOf; rw [h1]; exact h4, h3.mono (fun i _ e => by
      have e : i = g := e
      rw [e]
      rfl)⟩
end Go.Proofs.YtcjeocibnfoenaaGreat
