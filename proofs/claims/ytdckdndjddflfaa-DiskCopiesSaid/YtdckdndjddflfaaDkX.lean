/-
  Deeds in a row; hedgerowlaw06.few. No conditions of its own.
-/
import Derived.Test.YtdckdndjddflfaaDkI
import Derived.Test.YtdckdndjddflfaaDkO
namespace Go.Proofs.Ytdckdndjddflfaa
open Go.ChangeShapes Go.WideShapes Go.ChangeAt Go.RowKit Go.Joins Go.Deep

/-- a deed that may be -/
abbrev De := { d : Deed // DeedWf d }
def De.nil : De := ⟨⟨0, 0, ⟨#[]⟩, ⟨#[]⟩, ⟨#[]⟩⟩, ⟨by decide, by decide, by decide, by decide, by decide⟩⟩
def cDe : Codec De := ⟨fun d => dC d.1, 5, fun _ => rfl, fun a u h => by simp [dC] at h; rcases h with rfl | rfl | rfl | rfl | rfl <;> rfl, by decide⟩
theorem Try.infoDe : (Try.prog.info? 46).map (fun i => (i.zero, i.size, i.bytes)) = some (some (.agg (dC De.nil.1).toArray), 5, 64) := by kernel_rfl

section
variable {H : Type} {enc : TypeId × Value → H} {w : World} {base : Nat} {spare : Nat → Bool} {held : Bool} {n : Nat} {cs : List Value} {x : DataW H × List MemPlace}
/-- a slice of structs, out of a reading -/
theorem trodRows {α : Type} (C : Codec α) (a0 : α) {t e : TypeId} (ht : Try.prog.underlying t = some (.slice e)) (hC : Try.prog.cellsOf e = C.size)
    (hel : ∀ {n : Nat} {cs : List Value} {x : DataW H × List MemPlace}, DataW.trod enc Try.prog w base spare held n e cs = some x → ∃ a, cs = C.cells a)
    (h : DataW.trod enc Try.prog w base spare held n t cs = some x) : ∃ (v : Value) (l : List α), cs = [v] ∧ RdOf C w v l := by
  rcases open_slice ht h with ⟨rfl, _⟩ | ⟨a, len, cap, m, n', D, Pl, rfl, _, hl, hm, hmm, _, hx⟩
  · exact ⟨_, [], rfl, rdNil C _⟩
  · have hlm : len ≤ m := by rw [hmm]; split <;> omega
    have hp : ∀ i, i < len → ∃ p : α, w.cells? base (a.add (i * C.size)) C.size = some (C.cells p) := by
      intro i hi
      obtain ⟨cs', h1, h2⟩ := hx i (by omega)
      rw [hC] at h1
      obtain ⟨p, rfl⟩ := hel h2
      exact ⟨p, h1⟩
    obtain ⟨g, hg⟩ := @choose_lt α ⟨a0⟩ len _ hp
    refine ⟨_, (List.range len).map g, rfl, ?_⟩
    have hlen : ((List.range len).map g).length = len := by simp
    have := rdOf_of C (w := w) (a := a) (c := cap) (l := (List.range len).map g) (by omega) hm (fun i hi j u hu => by
      have hil : i < len := by simpa using hi
      have h1 := hg i hil
      obtain ⟨_, h2, h3⟩ := World.cells?_some h1
      simp only [List.getElem_map, List.getElem_range] at hu
      have hj3 : j < C.size := by have := (List.getElem?_eq_some_iff.1 hu).1; rw [C.len] at this; exact this
      have := h3 j hj3
      rwa [add_add, hu] at this)
    rwa [hlen] at this
end
/-- deeds among the arguments -/
theorem open_deeds {H : Type} {enc : TypeId × Value → H} {W : World} {v : Value} {d : DataW H} {ps : List MemPlace}
    (h : DataW.Trod enc Try.prog W 0 (fun _ => true) true 43 v d ps) (hv : v.cells.toList = [v]) : ∃ l : List De, RdOf cDe W v l := by
  obtain ⟨n, hn⟩ := h
  rw [hv] at hn
  obtain ⟨v', l, he, hr⟩ := trodRows cDe De.nil Try.underlying43 kDeed (fun h => by obtain ⟨d, hd, hw⟩ := trodDeed h; exact ⟨⟨d, hw⟩, hd⟩) hn
  simp at he
  subst he
  exact ⟨l, hr⟩

/-- no text is too long -/
def Short (l : List De) : Prop := ∀ d ∈ l, d.1.s.size ≤ 5000

set_option maxRecDepth 100000 in
set_option maxHeartbeats 4000000 in
theorem few_any (w : World) (v : Value) (l : List De) (hv : RdOf cDe w v l) : Calls Try.prog 23 #[v] w fun e w' => ∃ v' : Value, e = .returned v' ∧ ∃ l' : List De, OwnOf cDe 46 w' w.heap.size v' l' ∧ l'.length ≤ 60 ∧ Short l' ∧ Keeps No w w' := by
  obtain ⟨i0, hi, hz0, hz1, hz2⟩ := info_parts Try.infoDe
  obtain ⟨va, vc, rfl⟩ := hv.slice
  have hlen := RdOf.len cDe hv
  unfold maxLen at hlen
  have Hlen : Hid ((l.length : Int) ≤ 9223372036854775807) := Lib.hid (by omega)
  clear hlen
  have Hv := Lib.hid hv
  clear hv
  go_enter Try.func23, Try.ntmps23
  go_wp2
  go_loopw [3, 4] (fun o q wr => ∃ (k : Nat) (l' : List De), k ≤ l.length ∧ q = .int .i64 k ∧ OwnOf cDe 46 wr w.heap.size o l' ∧ l'.length ≤ 60 ∧ Short l' ∧ Keeps No w wr) (fun _ q _ => l.length - (intOf q).toNat)
  case atStart => exact ⟨0, [], Nat.zero_le _, rfl, World.ownsRow_nil _ _ _ _, by simp, (show Short [] from fun d h => absurd h (List.not_mem_nil)), Keeps.refl _⟩
  case round =>
    obtain ⟨k, l', hk, rfl, hown, h60, hall, hK⟩ := hrel
    obtain ⟨oa, oc, rfl⟩ := ownsRow_slice hown
    by_cases hlt : k < l.length
    · have hki : (k : Int) < (l.length : Int) := by omega
      have hk0 : (0 : Int) ≤ (k : Int) := by omega
      have hk1 : wrap64 ((k : Int) + 1) = (k : Int) + 1 := IntWalk.wrap64_in _ ⟨by omega, by have := Hlen.out; omega⟩
      obtain ⟨g, off, rfl, _, _, hg⟩ := RdOf.addr cDe Hv.out (by omega)
      have c5 : cellsAt wr g (off + k * 5) 5 = some (dC l[k].1) := RdOf.at cDe (Hv.out.kept hK (fun _ _ h => h)) k hlt
      have hgr : g < wr.heap.size := by have := hK.size; omega
      obtain ⟨d, hd⟩ : ∃ d, d = l[k] := ⟨_, rfl⟩
      rw [← hd] at c5
      have c4 : wr.cell? ⟨g, off + k * 5 + 4, none⟩ = some (.string d.1.s) := cellsAt_cell c5 4 _ rfl
      have hdl : (dC d.1).length = 5 := rfl
      have Hown := Lib.hid hown
      have Hall := Lib.hid hall
      have HK := Lib.hid hK
      clear hd hown hall hK hg
      by_cases h2 : l'.length < 60
      · have h2i : (l'.length : Int) < 60 := by omega
        by_cases h3 : d.1.s.size ≤ 5000
        · have h3i : (d.1.s.size : Int) ≤ 5000 := by omega
          have H3 := Lib.hid h3
          clear h2 h3
          go_wp2_with (at_builtin; refine wpList_append_reads rfl (.tmp 23) (.tmp 28) 43 rfl w.heap.size 46 i0 _ 5 64 Try.underlying43 hi hz0 hz1 hz2 rfl (by decide) (.slice oa l'.length oc) l'.length (rowsOf cDe l') rfl (Hown.out.alloc _) (.slice (some ⟨wr.heap.size, 0, none⟩) 1 1) 1 (dC d.1) rfl (litReads cDe wr 46 d) ?c1 ?c2 ?c3 ?c4)
          case c1 => unfold maxLen; omega
          case c2 => omega
          case c3 => have := HK.out.size; simp; omega
          case c4 =>
            intro v2 w2 hown2 hk2 _ _
            have Ho2 := Lib.hid (ownApp (a := d) hown2)
            have K2 : Hid (Keeps No w w2) := (HK.out.alloc _).trans hk2 (fun i hi hof => absurd hi (Nat.not_lt.2 (Hown.out.lt i hof).1))
            clear hown2 hk2
            go_wp2
            go_roundw
            case rel =>
              refine ⟨k + 1, l' ++ [d], by omega, by rw [hk1]; rfl, Ho2.out, by simp; omega, ?_, K2.out⟩
              intro x hx
              rcases List.mem_append.1 hx with hx | hx
              · exact Hall.out x hx
              · simp at hx
                subst hx
                exact H3.out
            case measure =>
              rw [hk1]
              show l.length - ((k : Int) + 1).toNat < l.length - ((k : Int)).toNat
              omega
        · have h3i : ¬ (d.1.s.size : Int) ≤ 5000 := by omega
          clear h2 h3
          go_wp2
          go_roundw
          case rel => exact ⟨k + 1, l', by omega, by rw [hk1]; rfl, Hown.out, h60, Hall.out, HK.out⟩
          case measure =>
              rw [hk1]
              show l.length - ((k : Int) + 1).toNat < l.length - ((k : Int)).toNat
              omega
      · have h2i : ¬ (l'.length : Int) < 60 := by omega
        clear h2
        go_wp2
        go_ret
        exact ⟨_, rfl, l', Hown.out, h60, Hall.out, HK.out⟩
    · have hki : ¬ (k : Int) < (l.length : Int) := by omega
      have Hown := Lib.hid hown
      have Hall := Lib.hid hall
      have HK := Lib.hid hK
      clear hlt hk hown hall hK
      go_wp2
      go_ret
      exact ⟨_, rfl, l', Hown.out, h60, Hall.out, HK.out⟩
end Go.Proofs.Ytdckdndjddflfaa
