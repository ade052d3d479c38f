/-
  The document's disk: put, take. No conditions of their own.
-/
import Derived.Test.YtdckdndjddflfaaDkV
import Derived.BigQuiet
namespace Go.Proofs.Ytdckdndjddflfaa
open Go.RowKit Go.WideShapes

theorem Try.infoRf : (Try.prog.info? 75).map (fun i => (i.zero, i.size, i.bytes)) = some (some (.agg (rfC ⟨⟨#[]⟩, ⟨#[]⟩, ⟨#[]⟩⟩).toArray), 3, 48) := by kernel_rfl
theorem bytesLess_before : ∀ (x y : List UInt8), Op.bytesLess x y = bytesBefore x y
  | [], [] => rfl
  | [], _ :: _ => rfl
  | _ :: _, [] => rfl
  | a :: x, b :: y => by rw [Op.bytesLess, bytesBefore, bytesLess_before x y]

section
variable {w : World} {q base : Nat} {v : Value} {is : Bool} {room : Int} {dead : Bool}

/-- what put leaves -/
def PutPost (w : World) (q base : Nat) (L : List Rf) (is : Bool) (room : Int) (dead : Bool) (w' : World) : Prop := ∃ v', RefAt w' q base v' L is room dead ∧ Keeps (Own q) w w'
theorem RefAt.setList {w2 : World} {L L' : List Rf} {v2 : Value} (h : RefAt w2 q base v L is room dead) (ho : OwnOf cRf 75 w2 base v2 L') (hq : ∀ i, v2.ownBlock = some i → i ≠ q) (hf : L'.length ≤ 64) : RefAt (w2.setCell ⟨q, 0, none⟩ v2) q base v2 L' is room dead :=
  ⟨heap_setCell_at h.cells _, ((Keeps.refl (S := Own q) w2).setCell (p := ⟨q, 0, none⟩) (fun _ => (rfl : q = q)) _).owns ho (fun i hi e => hq i hi e), hq, hf, by simpa using h.low⟩
theorem put_end {w w2 : World} {L L' : List Rf} {v2 : Value} (h : RefAt w q base v L is room dead) (hk : Keeps No w w2) (ho : OwnOf cRf 75 w2 w.heap.size v2 L') (hf : L'.length ≤ 64) :
    PutPost w q base L' is room dead (w2.setCell ⟨q, 0, none⟩ v2) := by
  have hqw : q < w.heap.size := (Array.getElem?_eq_some_iff.1 h.cells).1
  refine ⟨v2, (h.kept hk (fun h => h) (fun _ _ h => h)).setList (OwnOf.base ho h.low) (fun i hi e => by have := (ho.lt i hi).1; omega) hf, (hk.mono (T := Own q) (fun _ _ h => h.elim)).setCell (p := ⟨q, 0, none⟩) (fun _ => (rfl : q = q)) _⟩

set_option maxRecDepth 100000 in
set_option maxHeartbeats 4000000 in
theorem put_any {L A B : List Rf} (h : RefAt w q base v L is room dead) (hL : L = A ++ B) (x : Rf) (hA : ∀ a ∈ A, bytesBefore a.name.data.toList x.name.data.toList = true) (hB : ∀ c ∈ B, bytesBefore c.name.data.toList x.name.data.toList = false) (h64 : L.length < 64) :
    Calls Try.prog 47 #[dP q, .agg (rfC x).toArray] w fun e w' => e = .returned (.tuple #[]) ∧ PutPost w q base (A ++ x :: B) is room dead w' := by
  obtain ⟨i0, hi, hz0, hz1, hz2⟩ := info_parts Try.infoRf
  have hqw : q < w.heap.size := (Array.getElem?_eq_some_iff.1 h.cells).1
  obtain ⟨va, vc, rfl⟩ := ownsRow_slice h.own
  have HLl : Hid (L.length = A.length + B.length) := by show _ = _; rw [hL, List.length_append]
  have H := Lib.hid h
  have HA := Lib.hid hA
  have HB := Lib.hid hB
  have H64 := Lib.hid h64
  have HL := Lib.hid hL
  clear h hA hB h64 hL
  go_enter Try.func47, Try.ntmps47
  go_wp2_with fail
  refine wp_world ?_
  intro W hW
  have hk : Keeps No w W := by rw [hW]; exact (Keeps.refl _).alloc _
  have hbx : cellsAt W w.heap.size 0 3 = some [.string x.name, .string x.sure, .string x.loose] := by rw [hW]; simp [go_sem, rfC]
  have hsz : W.heap.size = w.heap.size + 1 := by rw [hW]; simp
  have Hk := Lib.hid hk
  have Hbx := Lib.hid hbx
  have Hsz := Lib.hid hsz
  clear hW hk hbx hsz
  go_wp2
  go_loopw [4, 5] (fun o i wr => ∃ k : Nat, k ≤ A.length ∧ i = .int .i64 k ∧ wr.ownsRow W.heap.size 75 3 o k (rowsOf cRf (A.take k)) ∧ Keeps No W wr) (fun _ i _ => A.length - (intOf i).toNat)
  case atStart => exact ⟨0, Nat.zero_le _, rfl, World.ownsRow_nil _ _ _ _, Keeps.refl _⟩
  case round =>
    obtain ⟨k, hkA, rfl, hown, hK⟩ := hrel
    have R0 := Lib.hid (H.out.kept (Hk.out.trans hK (fun _ _ h => h)) (fun h => h) (fun _ _ h => h))
    have c0 : wr.cell? ⟨q, 0, none⟩ = some (.slice va L.length vc) := by simp [World.cell?, R0.out.cells]
    have bx := hK.cellsAt Hbx.out
    have b0 : wr.cell? ⟨w.heap.size, 0, none⟩ = some (.string x.name) := cellsAt_cell bx 0 _ rfl
    have hr : RdOf cRf wr (.slice va L.length vc) L := R0.out.own.reads
    have hLl := HLl.out
    have hfew := H64.out
    obtain ⟨oa, oc, rfl⟩ := ownsRow_slice hown
    have hok : (A.take k).length = k := by rw [List.length_take, Nat.min_eq_left hkA]
    have Hok := Lib.hid hok
    have Hown := Lib.hid hown
    have HK := Lib.hid hK
    have Hsz2 : Hid (W.heap.size ≤ wr.heap.size) := hK.size
    clear hown hK hok
    have hk0 : (0 : Int) ≤ (k : Int) := by omega
    have hk64 : (k : Int) ≤ 64 := by omega
    by_cases hlt : k < A.length
    · have hki : (k : Int) < (L.length : Int) := by omega
      have hkd : decide ((k : Int) < (L.length : Int)) = true := decide_eq_true hki
      have hkl : k < L.length := by omega
      have he : L[k] = A[k] := by
        have := HL.out
        subst this
        exact List.getElem_append_left hlt
      obtain ⟨g, off, rfl, _, _, hg⟩ := RdOf.addr cRf hr (by omega)
      have c3 : cellsAt wr g (off + k * 3) 3 = some (rfC A[k]) := by rw [← he]; exact RdOf.at cRf hr k hkl
      have hless : Op.bytesLess A[k].name.toList x.name.toList = true := by rw [bytesLess_before, ByteArray.toList_eq, ByteArray.toList_eq]; exact HA.out _ (List.getElem_mem hlt)
      obtain ⟨a, ha⟩ : ∃ a, a = A[k] := ⟨_, rfl⟩
      have Ht : Hid (A.take (k + 1) = A.take k ++ [a]) := by show _ = _; rw [ha, List.take_succ_eq_append_getElem hlt]
      rw [← ha] at c3 hless
      have d0 : wr.cell? ⟨g, off + k * 3, none⟩ = some (.string a.name) := cellsAt_cell c3 0 _ rfl
      unfold rfC at c3
      have Hlt := Lib.hid hlt
      clear ha he hr hlt hkl hLl hfew hkA
      go_wp2
      go_quiet (fail)
      rename_i nq
      go_wp2_with (at_builtin; refine wpList_append_reads rfl (.tmp 26) (.tmp 34) 49 rfl W.heap.size 75 i0 _ 3 48 Try.underlying49 hi hz0 hz1 hz2 rfl (by decide) (.slice oa k oc) k (rowsOf cRf (A.take k)) rfl ((((Keeps.refl (S := No) wr).drewN nq).owns Hown.out (fun _ _ h => h)).alloc _) (.slice (some ⟨wr.heap.size, 0, none⟩) 1 1) 1 (rfC a) rfl (litReads cRf (wr.drewN nq) 75 a) ?c1 ?c2 ?c3 ?c4)
      case c1 => unfold maxLen; omega
      case c2 => omega
      case c3 => have := Hsz2.out; simp; omega
      case c4 =>
        intro v2 w2 hown2 hk2 _ _
        have Ho2 : Hid (w2.ownsRow W.heap.size 75 3 v2 (k + 1) (rowsOf cRf (A.take (k + 1)))) := by
          show World.ownsRow _ _ _ _ _ _ _
          rw [Ht.out, rowsOf_append, rowsOf_one]
          exact hown2
        have K2 : Hid (Keeps No W w2) := ((HK.out.drewN nq).alloc _).trans hk2 (fun i hi hof => absurd hi (Nat.not_lt.2 (Hown.out.lt i hof).1))
        clear hown2 hk2
        go_wp2
        go_roundw
        case rel => exact ⟨k + 1, Hlt.out, by go_num, Ho2.out, K2.out⟩
        case measure => have := Hlt.out; simp [intOf]; omega
    · obtain rfl : k = A.length := by omega
      have hTA : A.take A.length = A := List.take_length
      rw [hTA] at Hown
      have h3 : (va = none ∧ L.length = 0 ∧ vc = 0) ∨ ∃ g, va = some ⟨g, 0, none⟩ := by
        rcases R0.out.own.2 with ⟨h1, h2⟩ | ⟨g, cap, _, h1, _⟩
        · simp only [Value.slice.injEq] at h1
          exact .inl h1
        · simp only [Value.slice.injEq, true_and] at h1
          exact .inr ⟨g, h1.1⟩
      have h4 : (va = none ∧ L = [] ∧ A = [] ∧ B = [] ∧ vc = 0) ∨ (∃ g, va = some ⟨g, 0, none⟩ ∧ decide (A.length < L.length) = false) ∨ ∃ g, va = some ⟨g, 0, none⟩ ∧ ∃ a : Rf, (A.length : Int) < (L.length : Int) ∧ decide (A.length < L.length) = true ∧ Op.bytesLess a.name.toList x.name.toList = false ∧ wr.cell? ⟨g, A.length * 3, none⟩ = some (.string a.name) := by
        rcases h3 with ⟨h1, h0, h5⟩ | ⟨g, rfl⟩
        · exact .inl ⟨h1, List.eq_nil_of_length_eq_zero h0, List.eq_nil_of_length_eq_zero (by omega), List.eq_nil_of_length_eq_zero (by omega), h5⟩
        · refine .inr ?_
          by_cases hlt2 : A.length < L.length
          · refine .inr ⟨g, rfl, L[A.length], by omega, decide_eq_true (by omega), ?_, ?_⟩
            · rw [bytesLess_before, ByteArray.toList_eq, ByteArray.toList_eq]
              refine HB.out _ ?_
              have := HL.out
              subst this
              rw [List.getElem_append_right (Nat.le_refl _)]
              exact List.getElem_mem _
            · have c3 : cellsAt wr g (0 + A.length * 3) 3 = some (rfC L[A.length]) := RdOf.at cRf hr _ hlt2
              have := cellsAt_cell c3 0 _ rfl
              simpa using this
          · exact .inl ⟨g, rfl, decide_eq_false (by omega)⟩
      have hvc : L.length ≤ vc := by
        rcases hr.shape with ⟨h1, h2⟩ | ⟨_, _, h1, h2, _⟩
        · omega
        · simp only [Value.slice.injEq, true_and] at h1
          omega
      have Hvc := Lib.hid hvc
      have hAL : A.length ≤ L.length := by omega
      have hAv : (A.length : Int) ≤ (L.length : Int) := by omega
      have hAc : (A.length : Int) ≤ (vc : Int) := by omega
      have hLv : (L.length : Int) ≤ (vc : Int) := by omega
      clear hTA hlt hkA hvc hr hfew hLl h3
      have B0 := Lib.hid b0
      rcases h4 with ⟨rfl, rfl, rfl, rfl, rfl⟩ | ⟨g, rfl, h4⟩ | ⟨g, rfl, a, h4a, h4b, h4c, d0⟩
      · go_wp2
        go_quiet (fail)
        rename_i nq
        go_wp2_with (at_builtin; refine wpList_append_reads rfl (.tmp 38) (.tmp 40) 49 rfl W.heap.size 75 i0 _ 3 48 Try.underlying49 hi hz0 hz1 hz2 rfl (by decide) (.slice oa 0 oc) 0 [] rfl ((((Keeps.refl (S := No) wr).drewN nq).owns Hown.out (fun _ _ h => h)).alloc _) (.slice (some ⟨wr.heap.size, 0, none⟩) 1 1) 1 (rfC x) rfl (litReads cRf (wr.drewN nq) 75 x) ?c1 ?c2 ?c3 ?c4)
        case c1 => unfold maxLen; omega
        case c2 => omega
        case c3 => have := Hsz2.out; simp; omega
        case c4 =>
          intro v2 w2 hown2 hk2 _ _
          have K2 : Hid (Keeps No W w2) := ((HK.out.drewN nq).alloc _).trans hk2 (fun i hi hof => absurd hi (Nat.not_lt.2 (Hown.out.lt i hof).1))
          have R2 := Lib.hid (H.out.kept (Hk.out.trans K2.out (fun _ _ h => h)) (fun h => h) (fun _ _ h => h))
          have c02 : w2.cell? ⟨q, 0, none⟩ = some (.slice none 0 0) := by simp [World.cell?, R2.out.cells]
          obtain ⟨a2, d2, he2⟩ := ownsRow_slice hown2
          subst he2
          have Hown2 : Hid (w2.ownsRow W.heap.size 75 3 (.slice a2 1 d2) 1 (rfC x)) := hown2
          clear hown2 hk2 c0 b0 bx
          go_wp2_with (at_builtin; refine wpList_append_reads rfl (.tmp 42) (.tmp 48) 49 rfl W.heap.size 75 i0 _ 3 48 Try.underlying49 hi hz0 hz1 hz2 rfl (by decide) (.slice a2 1 d2) 1 (rfC x) rfl Hown2.out (.slice none 0 0) 0 [] rfl (Reads.nil _ _) ?c1 ?c2 ?c3 ?c4)
          case c1 => unfold maxLen; omega
          case c2 => omega
          case c3 => exact K2.out.size
          case c4 =>
            intro v3 w3 hown3 hk3 _ _
            have K3 : Hid (Keeps No W w3) := K2.out.trans hk3 (fun i hi hof => absurd hi (Nat.not_lt.2 (Hown2.out.lt i hof).1))
            have Hown3 : Hid (OwnOf cRf 75 w3 W.heap.size v3 ([] ++ [x])) := by
              show World.ownsRow _ _ _ _ _ _ _
              rw [List.nil_append, rowsOf_one]
              exact hown3
            have c03 : w3.cell? ⟨q, 0, none⟩ = some (.slice none 0 0) := by simp [World.cell?, (H.out.kept (Hk.out.trans K3.out (fun _ _ h => h)) (fun h => h) (fun _ _ h => h)).cells]
            have f3 := (H.out.kept (Hk.out.trans K3.out (fun _ _ h => h)) (fun h => h) (fun _ _ h => h)).opened.frozen 0
            have Hb3 : Hid (w.heap.size ≤ W.heap.size) := by show _ ≤ _; have := Hsz.out; omega
            have l3 := K3.out.size
            clear hown3 hk3
            obtain ⟨a3, n3, d3, he3⟩ : ∃ a n c, v3 = .slice a n c := by
              obtain ⟨a, c, he⟩ := ownsRow_slice Hown3.out
              exact ⟨a, _, c, he⟩
            subst he3
            go_wp2
            refine bodyPost_end (results_none rfl _ _ _) rfl ⟨rfl, put_end (w := w) H.out (Hk.out.trans K3.out (fun _ _ h => h)) (OwnOf.base Hown3.out Hb3.out) (show [x].length ≤ 64 by simp)⟩
      · go_wp2
        go_quiet (fail)
        rename_i nq
        go_wp2_with (at_builtin; refine wpList_append_reads rfl (.tmp 38) (.tmp 40) 49 rfl W.heap.size 75 i0 _ 3 48 Try.underlying49 hi hz0 hz1 hz2 rfl (by decide) (.slice oa A.length oc) A.length (rowsOf cRf A) rfl ((((Keeps.refl (S := No) wr).drewN nq).owns Hown.out (fun _ _ h => h)).alloc _) (.slice (some ⟨wr.heap.size, 0, none⟩) 1 1) 1 (rfC x) rfl (litReads cRf (wr.drewN nq) 75 x) ?c1 ?c2 ?c3 ?c4)
        case c1 => have := H64.out; unfold maxLen; omega
        case c2 => have := H64.out; omega
        case c3 => have := Hsz2.out; simp; omega
        case c4 =>
          intro v2 w2 hown2 hk2 _ _
          have K2 : Hid (Keeps No W w2) := ((HK.out.drewN nq).alloc _).trans hk2 (fun i hi hof => absurd hi (Nat.not_lt.2 (Hown.out.lt i hof).1))
          have KD : Hid (Keeps (Of (.slice oa A.length oc)) wr w2) := (((Keeps.refl wr).drewN nq).alloc _).trans hk2 (fun _ _ h => h)
          have R2 := Lib.hid (H.out.kept (Hk.out.trans K2.out (fun _ _ h => h)) (fun h => h) (fun _ _ h => h))
          have c02 : w2.cell? ⟨q, 0, none⟩ = some (.slice (some ⟨g, 0, none⟩) L.length vc) := by simp [World.cell?, R2.out.cells]
          have r2 := R2.out.own.reads
          have hdrop2 := r2.dropAny (m := A.length) hAL _ rfl
          have hdl2 : rowsOf cRf (L.drop A.length) = rowsOf cRf B := by rw [HL.out, List.drop_left]
          rw [rowsOf_drop, hdl2] at hdrop2
          obtain ⟨ao, hao⟩ : ∃ ao, ao = if vc = A.length then some (⟨g, 0, none⟩ : Addr) else some ⟨g, A.length * 3, none⟩ := ⟨_, rfl⟩
          have HD2 : Hid (Reads w2 3 (.slice ao (L.length - A.length) (vc - A.length)) (L.length - A.length) (rowsOf cRf B)) := by
            show Reads _ _ _ _ _
            rw [hao]
            have e : (if vc = A.length then some (⟨g, 0, none⟩ : Addr) else some ⟨g, A.length * 3, none⟩) = (if vc = A.length then some ⟨g, 0, none⟩ else Option.map (fun x : Addr => x.add (A.length * cRf.size)) (some ⟨g, 0, none⟩)) := by
              split
              · rfl
              · rw [Option.map_some, Addr.add_lit, Nat.zero_add]
                rfl
            rw [e]
            exact hdrop2
          have Hao := Lib.hid hao
          obtain ⟨a2, d2, he2⟩ := ownsRow_slice hown2
          subst he2
          have Hown2 := Lib.hid hown2
          clear hown2 hk2 c0 b0 bx r2 hdrop2 hdl2 hao
          go_wp2_with (at_builtin; rw [← Hao.out]; refine wpList_append_reads rfl (.tmp 42) (.tmp 48) 49 rfl W.heap.size 75 i0 _ 3 48 Try.underlying49 hi hz0 hz1 hz2 rfl (by decide) (.slice a2 (A.length + 1) d2) (A.length + 1) (rowsOf cRf A ++ rfC x) rfl Hown2.out (.slice ao (L.length - A.length) (vc - A.length)) (L.length - A.length) (rowsOf cRf B) rfl HD2.out ?c1 ?c2 ?c3 ?c4)
          case c1 => have := H64.out; unfold maxLen; omega
          case c2 => have := H64.out; omega
          case c3 => exact K2.out.size
          case c4 =>
            intro v3 w3 hown3 hk3 _ _
            have K3 : Hid (Keeps No W w3) := K2.out.trans hk3 (fun i hi hof => absurd hi (Nat.not_lt.2 (Hown2.out.lt i hof).1))
            have Hown3 : Hid (OwnOf cRf 75 w3 W.heap.size v3 (A ++ x :: B)) := by
              show World.ownsRow _ _ _ _ _ _ _
              have e1 : (A ++ x :: B).length = A.length + 1 + (L.length - A.length) := by have := HLl.out; simp; omega
              rw [e1, rowsOf_append, rowsOf_cons]
              exact hown3
            have hlen3 : Hid ((A ++ x :: B).length ≤ 64) := by show _ ≤ _; have := HLl.out; have := H64.out; simp; omega
            have c03 : w3.cell? ⟨q, 0, none⟩ = some (.slice (some ⟨g, 0, none⟩) L.length vc) := by simp [World.cell?, (H.out.kept (Hk.out.trans K3.out (fun _ _ h => h)) (fun h => h) (fun _ _ h => h)).cells]
            have f3 := (H.out.kept (Hk.out.trans K3.out (fun _ _ h => h)) (fun h => h) (fun _ _ h => h)).opened.frozen 0
            have Hb3 : Hid (w.heap.size ≤ W.heap.size) := by show _ ≤ _; have := Hsz.out; omega
            have l3 := K3.out.size
            clear hown3 hk3 HD2 Hao
            obtain ⟨a3, n3, d3, he3⟩ : ∃ a n c, v3 = .slice a n c := by
              obtain ⟨a, c, he⟩ := ownsRow_slice Hown3.out
              exact ⟨a, _, c, he⟩
            subst he3
            go_wp2
            refine bodyPost_end (results_none rfl _ _ _) rfl ⟨rfl, put_end (w := w) H.out (Hk.out.trans K3.out (fun _ _ h => h)) (OwnOf.base Hown3.out Hb3.out) hlen3.out⟩
      · go_wp2
        go_quiet (fail)
        rename_i nq
        clear h4a h4b
        go_wp2_with (at_builtin; refine wpList_append_reads rfl (.tmp 38) (.tmp 40) 49 rfl W.heap.size 75 i0 _ 3 48 Try.underlying49 hi hz0 hz1 hz2 rfl (by decide) (.slice oa A.length oc) A.length (rowsOf cRf A) rfl ((((Keeps.refl (S := No) wr).drewN nq).owns Hown.out (fun _ _ h => h)).alloc _) (.slice (some ⟨wr.heap.size, 0, none⟩) 1 1) 1 (rfC x) rfl (litReads cRf (wr.drewN nq) 75 x) ?c1 ?c2 ?c3 ?c4)
        case c1 => have := H64.out; unfold maxLen; omega
        case c2 => have := H64.out; omega
        case c3 => have := Hsz2.out; simp; omega
        case c4 =>
          intro v2 w2 hown2 hk2 _ _
          have K2 : Hid (Keeps No W w2) := ((HK.out.drewN nq).alloc _).trans hk2 (fun i hi hof => absurd hi (Nat.not_lt.2 (Hown.out.lt i hof).1))
          have KD : Hid (Keeps (Of (.slice oa A.length oc)) wr w2) := (((Keeps.refl wr).drewN nq).alloc _).trans hk2 (fun _ _ h => h)
          have R2 := Lib.hid (H.out.kept (Hk.out.trans K2.out (fun _ _ h => h)) (fun h => h) (fun _ _ h => h))
          have c02 : w2.cell? ⟨q, 0, none⟩ = some (.slice (some ⟨g, 0, none⟩) L.length vc) := by simp [World.cell?, R2.out.cells]
          have r2 := R2.out.own.reads
          have hdrop2 := r2.dropAny (m := A.length) hAL _ rfl
          have hdl2 : rowsOf cRf (L.drop A.length) = rowsOf cRf B := by rw [HL.out, List.drop_left]
          rw [rowsOf_drop, hdl2] at hdrop2
          obtain ⟨ao, hao⟩ : ∃ ao, ao = if vc = A.length then some (⟨g, 0, none⟩ : Addr) else some ⟨g, A.length * 3, none⟩ := ⟨_, rfl⟩
          have HD2 : Hid (Reads w2 3 (.slice ao (L.length - A.length) (vc - A.length)) (L.length - A.length) (rowsOf cRf B)) := by
            show Reads _ _ _ _ _
            rw [hao]
            have e : (if vc = A.length then some (⟨g, 0, none⟩ : Addr) else some ⟨g, A.length * 3, none⟩) = (if vc = A.length then some ⟨g, 0, none⟩ else Option.map (fun x : Addr => x.add (A.length * cRf.size)) (some ⟨g, 0, none⟩)) := by
              split
              · rfl
              · rw [Option.map_some, Addr.add_lit, Nat.zero_add]
                rfl
            rw [e]
            exact hdrop2
          have Hao := Lib.hid hao
          obtain ⟨a2, d2, he2⟩ := ownsRow_slice hown2
          subst he2
          have Hown2 := Lib.hid hown2
          clear hown2 hk2 c0 b0 bx r2 hdrop2 hdl2 hao
          go_wp2_with (at_builtin; rw [← Hao.out]; refine wpList_append_reads rfl (.tmp 42) (.tmp 48) 49 rfl W.heap.size 75 i0 _ 3 48 Try.underlying49 hi hz0 hz1 hz2 rfl (by decide) (.slice a2 (A.length + 1) d2) (A.length + 1) (rowsOf cRf A ++ rfC x) rfl Hown2.out (.slice ao (L.length - A.length) (vc - A.length)) (L.length - A.length) (rowsOf cRf B) rfl HD2.out ?c1 ?c2 ?c3 ?c4)
          case c1 => have := H64.out; unfold maxLen; omega
          case c2 => have := H64.out; omega
          case c3 => exact K2.out.size
          case c4 =>
            intro v3 w3 hown3 hk3 _ _
            have K3 : Hid (Keeps No W w3) := K2.out.trans hk3 (fun i hi hof => absurd hi (Nat.not_lt.2 (Hown2.out.lt i hof).1))
            have Hown3 : Hid (OwnOf cRf 75 w3 W.heap.size v3 (A ++ x :: B)) := by
              show World.ownsRow _ _ _ _ _ _ _
              have e1 : (A ++ x :: B).length = A.length + 1 + (L.length - A.length) := by have := HLl.out; simp; omega
              rw [e1, rowsOf_append, rowsOf_cons]
              exact hown3
            have hlen3 : Hid ((A ++ x :: B).length ≤ 64) := by show _ ≤ _; have := HLl.out; have := H64.out; simp; omega
            have c03 : w3.cell? ⟨q, 0, none⟩ = some (.slice (some ⟨g, 0, none⟩) L.length vc) := by simp [World.cell?, (H.out.kept (Hk.out.trans K3.out (fun _ _ h => h)) (fun h => h) (fun _ _ h => h)).cells]
            have f3 := (H.out.kept (Hk.out.trans K3.out (fun _ _ h => h)) (fun h => h) (fun _ _ h => h)).opened.frozen 0
            have Hb3 : Hid (w.heap.size ≤ W.heap.size) := by show _ ≤ _; have := Hsz.out; omega
            have l3 := K3.out.size
            clear hown3 hk3 HD2 Hao
            obtain ⟨a3, n3, d3, he3⟩ : ∃ a n c, v3 = .slice a n c := by
              obtain ⟨a, c, he⟩ := ownsRow_slice Hown3.out
              exact ⟨a, _, c, he⟩
            subst he3
            go_wp2
            refine bodyPost_end (results_none rfl _ _ _) rfl ⟨rfl, put_end (w := w) H.out (Hk.out.trans K3.out (fun _ _ h => h)) (OwnOf.base Hown3.out Hb3.out) hlen3.out⟩

set_option maxRecDepth 100000 in
set_option maxHeartbeats 4000000 in
theorem take_any {L A B : List Rf} {r : Rf} (h : RefAt w q base v L is room dead) (hL : L = A ++ r :: B) :
    Calls Try.prog 49 #[dP q, .int .i64 A.length] w fun e w' => e = .returned (.tuple #[]) ∧ PutPost w q base (A ++ B) is room dead w' := by
  obtain ⟨i0, hi, hz0, hz1, hz2⟩ := info_parts Try.infoRf
  have hlen : L.length = A.length + 1 + B.length := by rw [hL]; simp; omega
  obtain ⟨g, vc, rfl, hvc, hbg, _, _⟩ := own_at h.own (by omega)
  have h64 := h.few
  have c0 : w.cell? ⟨q, 0, none⟩ = some (.slice (some ⟨g, 0, none⟩) L.length vc) := by simp [World.cell?, h.cells]
  have hr := h.own.reads
  have hTA : L.take A.length = A := by rw [hL, List.take_left']; rfl
  have hDB : L.drop (A.length + 1) = B := by rw [hL, show A ++ r :: B = (A ++ [r]) ++ B by simp, List.drop_left' (by simp)]
  have HT := Lib.hid (hr.take (m := A.length) (by omega))
  rw [rowsOf_take, hTA] at HT
  have H := Lib.hid h
  have H64 := Lib.hid h64
  have HL := Lib.hid hlen
  have HDB := Lib.hid hDB
  have hAv : (A.length : Int) ≤ (L.length : Int) := by omega
  have hAc : (A.length : Int) ≤ (vc : Int) := by omega
  have hA1 : (A.length : Int) + 1 ≤ (L.length : Int) := by omega
  have hA2 : (A.length : Int) + 1 ≤ (vc : Int) := by omega
  have hLv : (L.length : Int) ≤ (vc : Int) := by omega
  have hA0 : (A.length : Int) ≤ 64 := by omega
  have hAn : (0 : Int) ≤ (A.length : Int) := by omega
  have Hvc := Lib.hid hvc
  clear h h64 hr hL hlen hTA hDB hvc
  go_enter Try.func49, Try.ntmps49
  go_wp2_with (at_builtin; refine wpList_append_reads rfl (.tmp 5) (.tmp 11) 49 rfl w.heap.size 75 i0 _ 3 48 Try.underlying49 hi hz0 hz1 hz2 rfl (by decide) (.slice none 0 0) 0 [] rfl (World.ownsRow_nil _ _ _ _) (.slice (some ⟨g, 0, none⟩) A.length vc) A.length (rowsOf cRf A) rfl HT.out ?c1 ?c2 ?c3 ?c4)
  case c1 => have := H64.out; have := HL.out; unfold maxLen; omega
  case c2 => have := H64.out; have := HL.out; omega
  case c3 => exact Nat.le_refl _
  case c4 =>
    intro v2 w2 hown2 hk2 _ _
    have K2 : Hid (Keeps No w w2) := hk2.mono (fun i _ h => by cases h)
    have R2 := Lib.hid (H.out.kept K2.out (fun h => h) (fun _ _ h => h))
    have c02 : w2.cell? ⟨q, 0, none⟩ = some (.slice (some ⟨g, 0, none⟩) L.length vc) := by simp [World.cell?, R2.out.cells]
    have hdrop2 := R2.out.own.reads.dropAny (m := A.length + 1) (by have := HL.out; omega) _ rfl
    rw [rowsOf_drop, HDB.out] at hdrop2
    obtain ⟨ao, hao⟩ : ∃ ao, ao = if vc = A.length + 1 then some (⟨g, 0, none⟩ : Addr) else some ⟨g, (A.length + 1) * 3, none⟩ := ⟨_, rfl⟩
    have HD2 : Hid (Reads w2 3 (.slice ao (L.length - (A.length + 1)) (vc - (A.length + 1))) (L.length - (A.length + 1)) (rowsOf cRf B)) := by
      show Reads _ _ _ _ _
      rw [hao]
      have e : (if vc = A.length + 1 then some (⟨g, 0, none⟩ : Addr) else some ⟨g, (A.length + 1) * 3, none⟩) = (if vc = A.length + 1 then some ⟨g, 0, none⟩ else Option.map (fun x : Addr => x.add ((A.length + 1) * cRf.size)) (some ⟨g, 0, none⟩)) := by
        split
        · rfl
        · rw [Option.map_some, Addr.add_lit, Nat.zero_add]
          rfl
      rw [e]
      exact hdrop2
    have Hao := Lib.hid hao
    obtain ⟨a2, n2, d2, rfl, hn2⟩ : ∃ a n c, v2 = .slice a n c ∧ n = A.length := by
      obtain ⟨a, c, he⟩ := ownsRow_slice hown2
      exact ⟨a, _, c, he, by omega⟩
    have Hown2 : Hid (w2.ownsRow w.heap.size 75 3 (.slice a2 n2 d2) n2 (rowsOf cRf A)) := by
      show World.ownsRow _ _ _ _ _ _ _
      have h := hown2
      try simp only [Nat.zero_add, List.nil_append] at h
      rw [hn2]
      rw [hn2] at h
      exact h
    have Hn2 := Lib.hid hn2
    clear hown2 hk2 c0 hdrop2 hao hn2
    go_wp2_with (at_builtin; rw [← Hao.out]; refine wpList_append_reads rfl (.tmp 13) (.tmp 20) 49 rfl w.heap.size 75 i0 _ 3 48 Try.underlying49 hi hz0 hz1 hz2 rfl (by decide) (.slice a2 n2 d2) n2 (rowsOf cRf A) rfl Hown2.out (.slice ao (L.length - (A.length + 1)) (vc - (A.length + 1))) (L.length - (A.length + 1)) (rowsOf cRf B) rfl HD2.out ?c1 ?c2 ?c3 ?c4)
    case c1 => have := H64.out; have := HL.out; have := Hn2.out; unfold maxLen; omega
    case c2 => have := H64.out; have := HL.out; have := Hn2.out; omega
    case c3 => exact K2.out.size
    case c4 =>
      intro v3 w3 hown3 hk3 _ _
      have K3 : Hid (Keeps No w w3) := K2.out.trans hk3 (fun i hi hof => absurd hi (Nat.not_lt.2 (Hown2.out.lt i hof).1))
      have Hown3 : Hid (OwnOf cRf 75 w3 w.heap.size v3 (A ++ B)) := by
        show World.ownsRow _ _ _ _ _ _ _
        have e1 : (A ++ B).length = n2 + (L.length - (A.length + 1)) := by have := HL.out; have := Hn2.out; simp; omega
        rw [e1, rowsOf_append]
        exact hown3
      have hlen3 : Hid ((A ++ B).length ≤ 64) := by show _ ≤ _; have := HL.out; have := H64.out; simp; omega
      have c03 : w3.cell? ⟨q, 0, none⟩ = some (.slice (some ⟨g, 0, none⟩) L.length vc) := by simp [World.cell?, (H.out.kept K3.out (fun h => h) (fun _ _ h => h)).cells]
      have f3 := (H.out.kept K3.out (fun h => h) (fun _ _ h => h)).opened.frozen 0
      clear hown3 hk3 HD2 Hao
      obtain ⟨a3, n3, d3, he3⟩ : ∃ a n c, v3 = .slice a n c := by
        obtain ⟨a, c, he⟩ := ownsRow_slice Hown3.out
        exact ⟨a, _, c, he⟩
      subst he3
      go_wp2
      refine bodyPost_end (results_none rfl _ _ _) rfl ⟨rfl, put_end (w := w) H.out K3.out Hown3.out hlen3.out⟩
end
end Go.Proofs.Ytdckdndjddflfaa
