/-
  The document's disk: Truncate, Rename, Remove, Cut, Read, Size. No conditions of their own.
-/
import Derived.Test.YtdckdndjddflfaaDkW
namespace Go.Proofs.Ytdckdndjddflfaa
open Go.RowKit Go.WideShapes

section
variable {w : World} {q base : Nat} {v : Value} {is : Bool} {room : Int} {dead : Bool}

set_option maxRecDepth 100000 in
set_option maxHeartbeats 1000000 in
theorem rremove_err {L : List Rf} (h : RefAt w q base v L is room dead) (n : ByteArray) (ec : Int) (hE : openA L dead n = (0, ec)) (he : (ec == 0) = false) :
    Calls Try.prog 39 #[dP q, .string n] w fun e w' => e = .returned (.int .i64 ec) ∧ w' = w := by
  have Hop := Lib.hid (ropen_any h n _ _ hE)
  clear h hE
  go_enter Try.func39, Try.ntmps39
  go_wp2_with fail
  refine Hop.out.mono ?_
  rintro e w1 ⟨rfl, rfl⟩
  go_wp2
  go_ret
  exact ⟨rfl, rfl⟩
theorem rremove_ok {L A B : List Rf} {r : Rf} (h : RefAt w q base v L is room dead) (hL : L = A ++ r :: B) (n : ByteArray) (hE : openA L dead n = ((A.length : Int), 0)) :
    Calls Try.prog 39 #[dP q, .string n] w fun e w' => e = .returned (.int .i64 0) ∧ PutPost w q base (A ++ B) is room dead w' := by
  have Hop := Lib.hid (ropen_any h n _ _ hE)
  have H := Lib.hid h
  have HL := Lib.hid hL
  clear h hE hL
  go_enter Try.func39, Try.ntmps39
  go_wp2_with fail
  refine Hop.out.mono ?_
  rintro e w1 ⟨rfl, rfl⟩
  go_wp2_with fail
  refine (take_any H.out HL.out).mono ?_
  rintro e w2 ⟨rfl, r2⟩
  have R2 := Lib.hid r2
  clear r2
  go_wp2
  go_ret
  exact ⟨rfl, R2.out⟩

set_option maxRecDepth 100000 in
set_option maxHeartbeats 1000000 in
theorem rtruncate_err {L : List Rf} (h : RefAt w q base v L is room dead) (n : ByteArray) (k ec : Int) (hE : openA L dead n = (0, ec)) (he : (ec != 0) = true) :
    Calls Try.prog 37 #[dP q, .string n, .int .i64 k] w fun e w' => e = .returned (.int .i64 ec) ∧ w' = w := by
  have Hop := Lib.hid (ropen_any h n _ _ hE)
  clear h hE
  go_enter Try.func37, Try.ntmps37
  go_wp2_with fail
  refine Hop.out.mono ?_
  rintro e w1 ⟨rfl, rfl⟩
  go_wp2
  go_ret
  exact ⟨rfl, rfl⟩

set_option maxRecDepth 100000 in
set_option maxHeartbeats 2000000 in
theorem rtruncate_range {L A B : List Rf} {r : Rf} (h : RefAt w q base v L is room dead) (hL : L = A ++ r :: B) (hr : FitsR r) (n : ByteArray) (k : Int) (hE : openA L dead n = ((A.length : Int), 0)) (hk : k < 0 ∨ (r.sure.size : Int) + r.loose.size < k) :
    Calls Try.prog 37 #[dP q, .string n, .int .i64 k] w fun e w' => e = .returned (.int .i64 5) ∧ Keeps No w w' := by
  obtain ⟨g, vc, rfl, hlt, c3, _, _⟩ := h.row hL
  have c0 : w.cell? ⟨q, 0, none⟩ = some (.slice (some ⟨g, 0, none⟩) L.length vc) := by simp [World.cell?, h.cells]
  have hk0 : (0 : Int) ≤ (A.length : Int) := by omega
  have hki : (A.length : Int) < (L.length : Int) := by omega
  unfold FitsR at hr
  have hw1 : IntKind.i64.wrap ((r.sure.size : Int) + (r.loose.size : Int)) = (r.sure.size : Int) + (r.loose.size : Int) := by rw [IntKind.wrap_i64]; omega
  have Hop := Lib.hid (ropen_any h n _ _ hE)
  have lq : q < w.heap.size ∧ g < w.heap.size := ⟨(Array.getElem?_eq_some_iff.1 h.cells).1, (h.own.lt g rfl).2⟩
  obtain ⟨lq1, lq2⟩ := lq
  unfold rfC at c3
  clear h hE hL hlt hr
  rcases hk with hk | hk
  · have hg : decide (k < 0) = true := decide_eq_true hk
    clear hk
    go_enter Try.func37, Try.ntmps37
    go_wp2_with fail
    refine Hop.out.mono ?_
    rintro e w1 ⟨rfl, rfl⟩
    go_wp2
    go_ret
    exact ⟨rfl, (Keeps.refl _).alloc _⟩
  · have hg : decide (k < 0) = false := decide_eq_false (by omega)
    have hg2 : decide ((r.sure.size : Int) + (r.loose.size : Int) < k) = true := decide_eq_true hk
    clear hk
    go_enter Try.func37, Try.ntmps37
    go_wp2_with fail
    refine Hop.out.mono ?_
    rintro e w1 ⟨rfl, rfl⟩
    go_wp2
    go_ret
    exact ⟨rfl, (Keeps.refl _).alloc _⟩

/-- what is left of a file -/
def cutR (n : ByteArray) (r : Rf) (K : Nat) : Rf := bif decide (K ≤ r.sure.size) then ⟨n, r.sure.extract 0 K, ⟨#[]⟩⟩ else ⟨r.name, r.sure, r.loose.extract 0 (K - r.sure.size)⟩
set_option maxRecDepth 100000 in
set_option maxHeartbeats 2000000 in
theorem rtruncate_ok {L A B : List Rf} {r : Rf} (h : RefAt w q base v L is room dead) (hL : L = A ++ r :: B) (hr : FitsR r) (n : ByteArray) (K : Nat) (hE : openA L dead n = ((A.length : Int), 0)) (hK : K ≤ r.sure.size + r.loose.size) :
    Calls Try.prog 37 #[dP q, .string n, .int .i64 K] w fun e w' => e = .returned (.int .i64 0) ∧ RefAt w' q base v (A ++ cutR n r K :: B) is room dead ∧ Keeps (QS q v) w w' := by
  obtain ⟨g, vc, rfl, hlt, c3, ho, hN⟩ := h.row hL
  have c0 : w.cell? ⟨q, 0, none⟩ = some (.slice (some ⟨g, 0, none⟩) L.length vc) := by simp [World.cell?, h.cells]
  have hk0 : (0 : Int) ≤ (A.length : Int) := by omega
  have hki : (A.length : Int) < (L.length : Int) := by omega
  unfold FitsR at hr
  have hw1 : IntKind.i64.wrap ((r.sure.size : Int) + (r.loose.size : Int)) = (r.sure.size : Int) + (r.loose.size : Int) := by rw [IntKind.wrap_i64]; omega
  have hg : decide ((K : Int) < 0) = false := decide_eq_false (by omega)
  have hg2 : decide ((r.sure.size : Int) + (r.loose.size : Int) < K) = false := decide_eq_false (by omega)
  have hK0 : (0 : Int) ≤ (K : Int) := by omega
  have Hop := Lib.hid (ropen_any h n _ _ hE)
  have H := Lib.hid h
  have HL := Lib.hid hL
  have lq1 : q < w.heap.size := (Array.getElem?_eq_some_iff.1 h.cells).1
  have lq2 : g < w.heap.size := (h.own.lt g rfl).2
  unfold rfC at c3
  have Hho := Lib.hid ho
  have HhN := Lib.hid hN
  clear h hE hL hlt ho hN
  by_cases hc : K ≤ r.sure.size
  · have e : cutR n r K = ⟨n, r.sure.extract 0 K, ⟨#[]⟩⟩ := by unfold cutR; rw [decide_eq_true hc]; rfl
    have hg3 : decide ((K : Int) ≤ (r.sure.size : Int)) = true := decide_eq_true (by omega)
    have hK1 : (K : Int) ≤ (r.sure.size : Int) := by omega
    rw [e]
    clear e hc hr hK
    go_enter Try.func37, Try.ntmps37
    go_wp2_with fail
    refine Hop.out.mono ?_
    rintro e w1 ⟨rfl, rfl⟩
    go_wp2
    refine wp_world ?_
    intro W hW
    have KW : Hid (Keeps No w1 W) := by rw [hW]; exact (Keeps.refl (S := No) w1).alloc _
    have DW := Lib.hid (H.out.kept KW.out (fun h => h) (fun _ _ h => h))
    have cW : cellsAt W w1.heap.size 0 3 = some [.string r.name, .string r.sure, .string r.loose] := by rw [hW]; simp [go_sem]
    have cA : W.cell? ⟨w1.heap.size, 1, none⟩ = some (.string r.sure) := cellsAt_cell cW 1 _ rfl
    have c0W : W.cell? ⟨q, 0, none⟩ = some (.slice (some ⟨g, 0, none⟩) L.length vc) := by simp [World.cell?, DW.out.cells]
    have hoW : Open W g := KW.out.opened Hho.out
    have hNW : A.length * 3 + 3 ≤ (rowD W g).size := by rw [KW.out.rowSize Hho.out rfl]; exact HhN.out
    clear hW c0 c3 cW
    go_still_tail 12, (by kernel_rfl)
    change wpList _ _ _ _ _ (World.drew _)
    go_wp2
    go_ret
    obtain ⟨hr1, hk1⟩ := DW.out.put3 HL.out ⟨n, r.sure.extract 0 K, ⟨#[]⟩⟩
    exact ⟨rfl, hr1.kept ((Keeps.refl (S := No) _).drew) (fun h => h) (fun _ _ h => h), (((KW.out.mono (T := QS q _) (fun _ _ h => h.elim)).trans hk1 (fun _ _ h => h))).drew⟩
  · have e : cutR n r K = ⟨r.name, r.sure, r.loose.extract 0 (K - r.sure.size)⟩ := by unfold cutR; rw [decide_eq_false hc]; rfl
    have hg3 : decide (K ≤ r.sure.size) = false := decide_eq_false (by omega)
    obtain ⟨J, hJ⟩ : ∃ J, J = K - r.sure.size := ⟨_, rfl⟩
    have hw2 : IntKind.i64.wrap ((K : Int) - (r.sure.size : Int)) = (J : Int) := by rw [IntKind.wrap_i64]; omega
    have hJ0 : (0 : Int) ≤ (J : Int) := by omega
    have hJ1 : (J : Int) ≤ (r.loose.size : Int) := by omega
    rw [e, ← hJ]
    clear e hc hr hK hJ
    go_enter Try.func37, Try.ntmps37
    go_wp2_with fail
    refine Hop.out.mono ?_
    rintro e w1 ⟨rfl, rfl⟩
    go_wp2
    refine wp_world ?_
    intro W hW
    have KW : Hid (Keeps No w1 W) := by rw [hW]; exact (Keeps.refl (S := No) w1).alloc _
    have DW := Lib.hid (H.out.kept KW.out (fun h => h) (fun _ _ h => h))
    have cW : cellsAt W w1.heap.size 0 3 = some [.string r.name, .string r.sure, .string r.loose] := by rw [hW]; simp [go_sem]
    have cA : W.cell? ⟨w1.heap.size, 1, none⟩ = some (.string r.sure) := cellsAt_cell cW 1 _ rfl
    have cB : W.cell? ⟨w1.heap.size, 2, none⟩ = some (.string r.loose) := cellsAt_cell cW 2 _ rfl
    have c0W : W.cell? ⟨q, 0, none⟩ = some (.slice (some ⟨g, 0, none⟩) L.length vc) := by simp [World.cell?, DW.out.cells]
    have hoW : Open W g := KW.out.opened Hho.out
    have f2 := hoW.frozen (A.length * 3 + 2)
    have d2 : W.cell? ⟨g, A.length * 3 + 2, none⟩ = some (.string r.loose) := cellsAt_cell (KW.out.cellsAt c3) 2 _ rfl
    clear hW c0 c3 cW hoW
    go_still_tail 15, (by kernel_rfl)
    change wpList _ _ _ _ _ (World.drew _)
    go_wp2
    go_ret
    obtain ⟨hr1, hk1⟩ := DW.out.put1 HL.out (r.loose.extract 0 J)
    exact ⟨rfl, hr1.kept ((Keeps.refl (S := No) _).drew) (fun h => h) (fun _ _ h => h), (((KW.out.mono (T := QS q _) (fun _ _ h => h.elim)).trans hk1 (fun _ _ h => h))).drew⟩
end
end Go.Proofs.Ytdckdndjddflfaa
