/-
  The document's disk: Rename, Cut, Read, Size, Crash, Copy. No conditions of their own.
-/
import Derived.Test.YtdckdndjddflfaaDkY
import Derived.Test.YtdckdndjddflfaaDkD
namespace Go.Proofs.Ytdckdndjddflfaa
open Go.RowKit Go.WideShapes

theorem calls_world {P : Program} {f : FuncId} {args : Array Value} {w : World} {Q : Ending → World → Prop} (h : ∀ W, W = w → Calls P f args W Q) : Calls P f args w Q := h w rfl

section
variable {w : World} {q base : Nat} {v : Value} {is : Bool} {room : Int} {dead : Bool}

set_option maxRecDepth 100000 in
set_option maxHeartbeats 1000000 in
theorem rrename_err {L : List Rf} (h : RefAt w q base v L is room dead) (n to : ByteArray) (ec : Int) (hE : openA L dead n = (0, ec)) (he : (ec != 0) = true) :
    Calls Try.prog 38 #[dP q, .string n, .string to] w fun e w' => e = .returned (.int .i64 ec) ∧ w' = w := by
  have Hop := Lib.hid (ropen_any h n _ _ hE)
  clear h hE
  go_enter Try.func38, Try.ntmps38
  go_wp2_with fail
  refine Hop.out.mono ?_
  rintro e w1 ⟨rfl, rfl⟩
  go_wp2
  go_ret
  exact ⟨rfl, rfl⟩
set_option maxRecDepth 100000 in
set_option maxHeartbeats 1000000 in
theorem rrename_no {L : List Rf} (h : RefAt w q base v L is room dead) (n to : ByteArray) (i j er : Int) (hE : openA L dead n = (i, 0)) (hT : atE L to = (j, er)) (he : er = 0 ∨ er = 1) :
    Calls Try.prog 38 #[dP q, .string n, .string to] w fun e w' => e = .returned (.int .i64 (bif er == 0 then 7 else 1)) ∧ w' = w := by
  have Hop := Lib.hid (ropen_any h n _ _ hE)
  have Hat := Lib.hid (at_any h to _ _ hT)
  clear h hE hT
  rcases he with rfl | rfl
  all_goals
    go_enter Try.func38, Try.ntmps38
    go_wp2_with fail
    refine Hop.out.mono ?_
    rintro e w1 ⟨rfl, rfl⟩
    go_wp2_with fail
    refine Hat.out.mono ?_
    rintro e w1 ⟨rfl, rfl⟩
    go_wp2
    go_ret
    exact ⟨rfl, rfl⟩
set_option maxRecDepth 100000 in
set_option maxHeartbeats 2000000 in
theorem rrename_ok {L A B A' B' : List Rf} {r : Rf} (h : RefAt w q base v L is room dead) (hL : L = A ++ r :: B) (n to : ByteArray) (hE : openA L dead n = ((A.length : Int), 0)) (hT : atE L to = (0, 6)) (hL' : A ++ B = A' ++ B')
    (hA : ∀ a ∈ A', bytesBefore a.name.data.toList to.data.toList = true) (hB : ∀ c ∈ B', bytesBefore c.name.data.toList to.data.toList = false) :
    Calls Try.prog 38 #[dP q, .string n, .string to] w fun e w' => e = .returned (.int .i64 0) ∧ PutPost w q base (A' ++ ⟨to, r.sure, r.loose⟩ :: B') is room dead w' := by
  obtain ⟨g, vc, rfl, hlt, c3, _, _⟩ := h.row hL
  have c0 : w.cell? ⟨q, 0, none⟩ = some (.slice (some ⟨g, 0, none⟩) L.length vc) := by simp [World.cell?, h.cells]
  have hk0 : (0 : Int) ≤ (A.length : Int) := by omega
  have hki : (A.length : Int) < (L.length : Int) := by omega
  have h64 : (A ++ B).length < 64 := by have := h.few; rw [hL] at this; simp at this ⊢; omega
  have H64 := Lib.hid h64
  have Hop := Lib.hid (ropen_any h n _ _ hE)
  have Hat := Lib.hid (at_any h to _ _ hT)
  have H := Lib.hid h
  have HL := Lib.hid hL
  have HL' := Lib.hid hL'
  have HA := Lib.hid hA
  have HB := Lib.hid hB
  have lq1 : q < w.heap.size := (Array.getElem?_eq_some_iff.1 h.cells).1
  have lq2 : g < w.heap.size := (h.own.lt g rfl).2
  unfold rfC at c3
  clear h hE hL hT hlt hL' hA hB h64
  go_enter Try.func38, Try.ntmps38
  go_wp2_with fail
  refine Hop.out.mono ?_
  rintro e w1 ⟨rfl, rfl⟩
  go_wp2_with fail
  refine Hat.out.mono ?_
  rintro e w1 ⟨rfl, rfl⟩
  go_wp2_with fail
  refine calls_world ?_
  intro W hW
  have KW : Hid (Keeps No w1 W) := by rw [hW]; exact ((Keeps.refl (S := No) w1).alloc _)
  have cW : cellsAt W w1.heap.size 0 3 = some [.string to, .string r.sure, .string r.loose] := by rw [hW]; simp [go_sem]
  have hsz : Hid (W.heap.size = w1.heap.size + 1) := by show _ = _; rw [hW]; simp
  clear hW c0 c3
  refine (take_any (H.out.kept KW.out (fun h => h) (fun _ _ h => h)) HL.out).mono ?_
  rintro e w2 ⟨rfl, v2, r2, k2⟩
  have R2 := Lib.hid r2
  have K2 := Lib.hid k2
  have c2 : cellsAt w2 w1.heap.size 0 3 = some [.string to, .string r.sure, .string r.loose] := cells_but k2 (fun e => by have : w1.heap.size = q := e; omega) cW
  clear r2 k2 cW
  go_wp2_with fail
  refine (put_any R2.out HL'.out ⟨to, r.sure, r.loose⟩ HA.out HB.out H64.out).mono ?_
  rintro e w3 ⟨rfl, v3, r3, k3⟩
  have R3 := Lib.hid r3
  have K3 : Hid (Keeps (Own q) w1 w3) := ((KW.out.mono (T := Own q) (fun _ _ h => h.elim)).trans K2.out (fun _ _ h => h)).trans k3 (fun _ _ h => h)
  clear r3 k3
  go_wp2
  go_ret
  exact ⟨rfl, v3, R3.out, K3.out⟩

set_option maxHeartbeats 1000000 in
theorem rcut_any {L : List Rf} (h : RefAt w q base v L is room dead) (k : Int) :
    Calls Try.prog 41 #[dP q, .int .i64 k] w fun e w' => e = .returned (.tuple #[]) ∧ RefAt w' q base v L (bif dead then is else true) (bif dead then room else max 0 k) dead ∧ Keeps (Own q) w w' := by
  have c1 := h.c1
  have c2 := h.c2
  have c3 := h.c3
  have f1 := h.opened.frozen 1
  have f2 := h.opened.frozen 2
  have H := Lib.hid h
  clear h
  have kq : Hid (∀ (W : World), Keeps (Own q) w W → ∀ i u, Keeps (Own q) w (W.setCell ⟨q, i, none⟩ u)) := fun W hW i u => hW.setCell (p := ⟨q, i, none⟩) (fun _ => (rfl : q = q)) _
  cases dead
  · rcases Int.lt_or_le k 0 with h0 | h0
    · have hm : max 0 k = 0 := by omega
      rw [hm]
      clear hm
      go_enter Try.func41, Try.ntmps41
      go_wp2
      refine bodyPost_end (results_none rfl _ _ _) rfl ⟨rfl, ?_⟩
      first
        | exact ⟨((H.out.setIs true).setRoom k).setRoom 0, kq.out _ (kq.out _ (kq.out _ (Keeps.refl _) _ _) _ _) _ _⟩
        | exact ⟨(H.out.setIs true).setRoom 0, kq.out _ (kq.out _ (Keeps.refl _) _ _) _ _⟩
    · have hm : max 0 k = k := by omega
      rw [hm]
      clear hm
      go_enter Try.func41, Try.ntmps41
      go_wp2
      refine bodyPost_end (results_none rfl _ _ _) rfl ⟨rfl, ?_⟩
      exact ⟨(H.out.setIs true).setRoom k, kq.out _ (kq.out _ (Keeps.refl _) _ _) _ _⟩
  · go_enter Try.func41, Try.ntmps41
    go_wp2
    refine bodyPost_ret (v := .tuple #[]) (results_none rfl _ _ _) rfl ?_
    exact ⟨rfl, H.out, Keeps.refl w⟩

set_option maxRecDepth 100000 in
set_option maxHeartbeats 1000000 in
theorem rread_err {L : List Rf} (h : RefAt w q base v L is room dead) (n : ByteArray) (ec : Int) (hE : atE L n = (0, ec)) (he : (ec != 0) = true) :
    Calls Try.prog 28 #[dP q, .string n] w fun e w' => e = .returned (.tuple #[.string ⟨#[]⟩, .int .i64 ec]) ∧ w' = w := by
  have Hop := Lib.hid (at_any h n _ _ hE)
  clear h hE
  go_enter Try.func28, Try.ntmps28
  go_wp2_with fail
  refine Hop.out.mono ?_
  rintro e w1 ⟨rfl, rfl⟩
  go_wp2
  refine bodyPost_ret (v := .tuple #[.string ⟨#[]⟩, .int .i64 ec]) ?_ rfl ⟨rfl, rfl⟩
  simp [results, Try.results28, go_sem, *]
set_option maxRecDepth 100000 in
set_option maxHeartbeats 1000000 in
theorem rread_ok {L A B : List Rf} {r : Rf} (h : RefAt w q base v L is room dead) (hL : L = A ++ r :: B) (hr : FitsR r) (n : ByteArray) (hE : atE L n = ((A.length : Int), 0)) :
    Calls Try.prog 28 #[dP q, .string n] w fun e w' => e = .returned (.tuple #[.string (r.sure ++ r.loose), .int .i64 0]) ∧ Keeps No w w' := by
  obtain ⟨g, vc, rfl, hlt, c3, _, _⟩ := h.row hL
  have c0 : w.cell? ⟨q, 0, none⟩ = some (.slice (some ⟨g, 0, none⟩) L.length vc) := by simp [World.cell?, h.cells]
  have d1 : w.cell? ⟨g, A.length * 3 + 1, none⟩ = some (.string r.sure) := cellsAt_cell c3 1 _ rfl
  have d2 : w.cell? ⟨g, A.length * 3 + 2, none⟩ = some (.string r.loose) := cellsAt_cell c3 2 _ rfl
  have hk0 : (0 : Int) ≤ (A.length : Int) := by omega
  have hki : (A.length : Int) < (L.length : Int) := by omega
  have hcat : ∀ W : World, (Op.stringOp .add r.sure r.loose).run Try.prog W = .ok (.string (r.sure ++ r.loose)) W := fun W => run_string_add_sum W _ _ (by unfold FitsR at hr; omega)
  have Hop := Lib.hid (at_any h n _ _ hE)
  clear h hE hr hL hlt c3
  go_enter Try.func28, Try.ntmps28
  go_wp2_with fail
  refine Hop.out.mono ?_
  rintro e w1 ⟨rfl, rfl⟩
  go_wp2
  go_quiet (fail)
  rename_i nq
  go_wp2
  refine bodyPost_ret (v := .tuple #[.string (r.sure ++ r.loose), .int .i64 0]) ?_ rfl ⟨rfl, (Keeps.refl _).drewN nq⟩
  simp [results, Try.results28, go_sem, *]
set_option maxRecDepth 100000 in
set_option maxHeartbeats 1000000 in
theorem rsize_err {L : List Rf} (h : RefAt w q base v L is room dead) (n : ByteArray) (ec : Int) (hE : atE L n = (0, ec)) (he : (ec != 0) = true) :
    Calls Try.prog 29 #[dP q, .string n] w fun e w' => e = .returned (.tuple #[.int .i64 0, .int .i64 0, .int .i64 ec]) ∧ w' = w := by
  have Hop := Lib.hid (at_any h n _ _ hE)
  clear h hE
  go_enter Try.func29, Try.ntmps29
  go_wp2_with fail
  refine Hop.out.mono ?_
  rintro e w1 ⟨rfl, rfl⟩
  go_wp2
  refine bodyPost_ret (v := .tuple #[.int .i64 0, .int .i64 0, .int .i64 ec]) ?_ rfl ⟨rfl, rfl⟩
  simp [results, Try.results29, go_sem, *]
set_option maxRecDepth 100000 in
set_option maxHeartbeats 1000000 in
theorem rsize_ok {L A B : List Rf} {r : Rf} (h : RefAt w q base v L is room dead) (hL : L = A ++ r :: B) (hr : FitsR r) (n : ByteArray) (hE : atE L n = ((A.length : Int), 0)) :
    Calls Try.prog 29 #[dP q, .string n] w fun e w' => e = .returned (.tuple #[.int .i64 ((r.sure ++ r.loose).size : Nat), .int .i64 r.sure.size, .int .i64 0]) ∧ Keeps No w w' := by
  obtain ⟨g, vc, rfl, hlt, c3, _, _⟩ := h.row hL
  have c0 : w.cell? ⟨q, 0, none⟩ = some (.slice (some ⟨g, 0, none⟩) L.length vc) := by simp [World.cell?, h.cells]
  have d1 : w.cell? ⟨g, A.length * 3 + 1, none⟩ = some (.string r.sure) := cellsAt_cell c3 1 _ rfl
  have d2 : w.cell? ⟨g, A.length * 3 + 2, none⟩ = some (.string r.loose) := cellsAt_cell c3 2 _ rfl
  have hk0 : (0 : Int) ≤ (A.length : Int) := by omega
  have hki : (A.length : Int) < (L.length : Int) := by omega
  have hw1 : IntKind.i64.wrap ((r.sure.size : Int) + (r.loose.size : Int)) = (((r.sure ++ r.loose).size : Nat) : Int) := by unfold FitsR at hr; rw [IntKind.wrap_i64, ByteArray.size_append]; omega
  obtain ⟨N, hN⟩ : ∃ N, N = (r.sure ++ r.loose).size := ⟨_, rfl⟩
  rw [← hN] at hw1 ⊢
  have Hop := Lib.hid (at_any h n _ _ hE)
  clear h hE hr hL hlt c3 hN
  go_enter Try.func29, Try.ntmps29
  go_wp2_with fail
  refine Hop.out.mono ?_
  rintro e w1 ⟨rfl, rfl⟩
  go_wp2
  go_quiet (fail)
  rename_i nq
  go_wp2
  refine bodyPost_ret (v := .tuple #[.int .i64 N, .int .i64 r.sure.size, .int .i64 0]) ?_ rfl ⟨rfl, (Keeps.refl _).drewN nq⟩
  simp [results, Try.results29, go_sem, *]

theorem crash_at {L : List Rf} (keep : Int) (k : Nat) (hk : k < L.length) : (L.take k).map (crashR keep) ++ L.drop k = (L.take k).map (crashR keep) ++ L[k] :: L.drop (k + 1) ∧ ((L.take k).map (crashR keep)).length = k ∧ (L.take k).map (crashR keep) ++ crashR keep L[k] :: L.drop (k + 1) = (L.take (k + 1)).map (crashR keep) ++ L.drop (k + 1) := by
  refine ⟨by rw [List.drop_eq_getElem_cons hk], by simp; omega, ?_⟩
  rw [List.take_succ_eq_append_getElem hk, List.map_append, List.append_assoc]
  rfl
/-- the bytes of the rest that a crash keeps -/
def keptOf (keep : Int) (s : ByteArray) : ByteArray := bif decide (keep ≤ 0) then ⟨#[]⟩ else bif decide (keep < (s.size : Int)) then s.extract 0 keep.toNat else s
theorem crashR_kept (keep : Int) (r : Rf) : crashR keep r = ⟨r.name, r.sure ++ keptOf keep r.loose, ⟨#[]⟩⟩ := rfl
theorem keptOf_le (keep : Int) (s : ByteArray) : (keptOf keep s).size ≤ s.size := by
  unfold keptOf
  cases decide (keep ≤ 0)
  · cases decide (keep < (s.size : Int))
    · exact Nat.le_refl _
    · simp only [cond_false, cond_true, ByteArray.size_extract]
      omega
  · exact Nat.zero_le _

set_option maxRecDepth 100000 in
set_option maxHeartbeats 4000000 in
theorem rcrash_any {L : List Rf} (h : RefAt w q base v L is room dead) (hr : ∀ r ∈ L, FitsR r) (keep : Int) :
    Calls Try.prog 40 #[dP q, .int .i64 keep] w fun e w' => e = .returned (.tuple #[]) ∧ RefAt w' q base v (L.map (crashR keep)) false room false ∧ Keeps (QS q v) w w' := by
  have c1 := h.c1
  have c3 := h.c3
  have f1 := h.opened.frozen 1
  have f3 := h.opened.frozen 3
  obtain ⟨va, vc, rfl⟩ := ownsRow_slice h.own
  have H := Lib.hid h
  have Hr := Lib.hid hr
  have hfew := h.few
  clear h hr
  go_enter Try.func40, Try.ntmps40
  go_wp2
  have hW : RefAt ((w.setCell ⟨q, 1, none⟩ (.bool false)).setCell ⟨q, 3, none⟩ (.bool false)) q base (.slice va L.length vc) L false room false ∧ Keeps (QS q (.slice va L.length vc)) w ((w.setCell ⟨q, 1, none⟩ (.bool false)).setCell ⟨q, 3, none⟩ (.bool false)) :=
    ⟨(H.out.setIs false).setDead false, (((Keeps.refl (S := QS q _) w).setCell (p := ⟨q, 1, none⟩) (fun _ => .inl rfl) _).setCell (p := ⟨q, 3, none⟩) (fun _ => .inl rfl) _)⟩
  have HW := Lib.hid hW
  clear hW c1 c3 f1 f3 H
  go_loopw [4] (fun i wr => ∃ k : Nat, k ≤ L.length ∧ i = .int .i64 k ∧ RefAt wr q base (.slice va L.length vc) ((L.take k).map (crashR keep) ++ L.drop k) false room false ∧ Keeps (QS q (.slice va L.length vc)) w wr) (fun i _ => L.length - (intOf i).toNat)
  case atStart => exact ⟨0, Nat.zero_le _, rfl, by simpa using HW.out.1, HW.out.2⟩
  case round =>
    obtain ⟨k, hkL, rfl, hR, hK⟩ := hrel
    have c0 : wr.cell? ⟨q, 0, none⟩ = some (.slice va L.length vc) := by simp [World.cell?, hR.cells]
    have HR := Lib.hid hR
    have HK := Lib.hid hK
    clear hR hK
    by_cases hlt : k < L.length
    · obtain ⟨e1, e2, e3⟩ := crash_at keep k hlt
      have R1 : RefAt wr q base (.slice va L.length vc) ((L.take k).map (crashR keep) ++ L[k] :: L.drop (k + 1)) false room false := by rw [← e1]; exact HR.out
      have hfr : FitsR L[k] := Hr.out _ (List.getElem_mem hlt)
      obtain ⟨r, hrr⟩ : ∃ r, r = L[k] := ⟨_, rfl⟩
      obtain ⟨A, hA⟩ : ∃ A, A = (L.take k).map (crashR keep) := ⟨_, rfl⟩
      rw [← hA, ← hrr] at R1 e3
      rw [← hA] at e2
      rw [← hrr] at hfr
      clear hA hrr e1
      have hLl : L.length = (A ++ r :: L.drop (k + 1)).length := by have := List.length_drop (i := k + 1) (l := L); simp; omega
      rw [hLl] at R1
      obtain ⟨g, vc', he, hltA, d3, ho, hN⟩ := R1.row rfl
      simp only [Value.slice.injEq, true_and] at he
      obtain ⟨rfl, rfl⟩ := he
      rw [← hLl] at R1
      rw [e2] at d3 hN
      have HR1 := Lib.hid R1
      have He2 := Lib.hid e2
      have He3 := Lib.hid e3
      have HLl := Lib.hid hLl
      have d0 : wr.cell? ⟨g, k * 3, none⟩ = some (.string r.name) := cellsAt_cell d3 0 _ rfl
      have d1 : wr.cell? ⟨g, k * 3 + 1, none⟩ = some (.string r.sure) := cellsAt_cell d3 1 _ rfl
      have d2 : wr.cell? ⟨g, k * 3 + 2, none⟩ = some (.string r.loose) := cellsAt_cell d3 2 _ rfl
      have hki : (k : Int) < (L.length : Int) := by omega
      have hk0 : (0 : Int) ≤ (k : Int) := by omega
      have hk64 : (k : Int) ≤ 64 := by omega
      have hcat : ∀ W : World, (Op.stringOp .add r.sure (keptOf keep r.loose)).run Try.prog W = .ok (.string (r.sure ++ keptOf keep r.loose)) W := fun W => run_string_add_sum W _ _ (by unfold FitsR at hfr; have := keptOf_le keep r.loose; omega)
      have hx : RefAt (wr.setRow g (splice (rowD wr g) (k * 3) [.string r.name, .string (r.sure ++ keptOf keep r.loose), .string ⟨#[]⟩])) q base (.slice (some ⟨g, 0, none⟩) L.length vc) ((L.take (k + 1)).map (crashR keep) ++ L.drop (k + 1)) false room false ∧ Keeps (QS q (.slice (some ⟨g, 0, none⟩) L.length vc)) wr (wr.setRow g (splice (rowD wr g) (k * 3) [.string r.name, .string (r.sure ++ keptOf keep r.loose), .string ⟨#[]⟩])) := by
        have R2 := HR1.out
        rw [HLl.out] at R2
        have h := R2.put3 rfl (crashR keep r)
        rw [← HLl.out, e2, e3] at h
        exact h
      have Hx := Lib.hid hx
      have Hlt := Lib.hid hlt
      clear hx R1 e2 e3 hLl hltA hfr d3 hlt hkL
      rcases Int.lt_or_le 0 keep with h0 | h0
      · have hg0 : decide (keep ≤ 0) = false := decide_eq_false (by omega)
        rcases Int.lt_or_le keep r.loose.size with h1 | h1
        · have hke : keptOf keep r.loose = r.loose.extract 0 keep.toNat := by unfold keptOf; rw [hg0, decide_eq_true h1]; rfl
          rw [hke] at hcat Hx
          have h00 : (0 : Int) ≤ keep := by omega
          have h11 : keep ≤ (r.loose.size : Int) := by omega
          clear hke
          go_wp2
          go_still_tail 25, (by kernel_rfl)
          change wpList _ _ _ _ _ (World.drew _)
          go_wp2
          go_roundw
          case rel => exact ⟨k + 1, Hlt.out, by go_num, Hx.out.1.kept ((Keeps.refl (S := No) _).drew) (fun h => h) (fun _ _ h => h), (HK.out.trans Hx.out.2 (fun _ _ h => h)).drew⟩
          case measure => have := Hlt.out; simp [intOf]; omega
        · have hke : keptOf keep r.loose = r.loose := by unfold keptOf; rw [hg0, decide_eq_false (by omega)]; rfl
          have hg1 : decide (keep < (r.loose.size : Int)) = false := decide_eq_false (by omega)
          rw [hke] at hcat Hx
          clear hke
          go_wp2
          go_still_tail 25, (by kernel_rfl)
          change wpList _ _ _ _ _ (World.drew _)
          go_wp2
          go_roundw
          case rel => exact ⟨k + 1, Hlt.out, by go_num, Hx.out.1.kept ((Keeps.refl (S := No) _).drew) (fun h => h) (fun _ _ h => h), (HK.out.trans Hx.out.2 (fun _ _ h => h)).drew⟩
          case measure => have := Hlt.out; simp [intOf]; omega
      · have hg0 : decide (keep ≤ 0) = true := decide_eq_true h0
        have hke : keptOf keep r.loose = ⟨#[]⟩ := by unfold keptOf; rw [hg0]; rfl
        rw [hke] at hcat Hx
        clear hke
        go_wp2
        go_still_tail 25, (by kernel_rfl)
        change wpList _ _ _ _ _ (World.drew _)
        go_wp2
        go_roundw
        case rel => exact ⟨k + 1, Hlt.out, by go_num, Hx.out.1.kept ((Keeps.refl (S := No) _).drew) (fun h => h) (fun _ _ h => h), (HK.out.trans Hx.out.2 (fun _ _ h => h)).drew⟩
        case measure => have := Hlt.out; simp [intOf]; omega
    · obtain rfl : k = L.length := by omega
      have hki : ¬ (L.length : Int) < (L.length : Int) := by omega
      have HF : Hid (RefAt wr q base (.slice va L.length vc) (L.map (crashR keep)) false room false) := by
        have := HR.out
        rw [List.take_length, List.drop_length, List.append_nil] at this
        exact this
      clear HR hlt
      go_wp2
      refine bodyPost_end (results_none rfl _ _ _) rfl ?_
      exact ⟨rfl, HF.out, HK.out⟩

set_option maxRecDepth 100000 in
set_option maxHeartbeats 2000000 in
theorem rcopy_any {L : List Rf} (h : RefAt w q base v L is room dead) :
    Calls Try.prog 31 #[dP q] w fun e w' => ∃ v', e = .returned (.agg #[v', .bool is, .int .i64 room, .bool dead]) ∧ OwnOf cRf 75 w' w.heap.size v' L ∧ Keeps No w w' := by
  obtain ⟨i0, hi, hz0, hz1, hz2⟩ := info_parts Try.infoRf
  obtain ⟨va, vc, rfl⟩ := ownsRow_slice h.own
  have c0 : w.cell? ⟨q, 0, none⟩ = some (.slice va L.length vc) := by simp [World.cell?, h.cells]
  have lq : q < w.heap.size := (Array.getElem?_eq_some_iff.1 h.cells).1
  have H := Lib.hid h
  have H64 := Lib.hid h.few
  have hr := Lib.hid (h.own.reads.kept ((Keeps.refl (S := No) w).alloc (.cells #[.slice none 0 0, .bool false, .int .i64 0, .bool false] 51)) (fun _ _ h => h))
  clear h
  go_enter Try.func31, Try.ntmps31
  go_wp2_with (at_builtin; refine wpList_append_reads rfl (.tmp 4) (.tmp 8) 49 rfl (w.heap.size + 1) 75 i0 _ 3 48 Try.underlying49 hi hz0 hz1 hz2 rfl (by decide) (.slice none 0 0) 0 [] rfl (World.ownsRow_nil _ _ _ _) (.slice va L.length vc) L.length (rowsOf cRf L) rfl hr.out ?c1 ?c2 ?c3 ?c4)
  case c1 => have := H64.out; unfold maxLen; omega
  case c2 => have := H64.out; omega
  case c3 => simp
  case c4 =>
    intro v2 w2 hown2 hk2 _ _
    have Hown2 : Hid (OwnOf cRf 75 w2 (w.heap.size + 1) v2 L) := by
      have h := hown2
      try simp only [Nat.zero_add, List.nil_append] at h
      exact h
    have k2 : Keeps No (w.alloc (.cells #[.slice none 0 0, .bool false, .int .i64 0, .bool false] 51)) w2 := hk2.mono (fun i _ h => by cases h)
    have K2 : Hid (Keeps No w w2) := ((Keeps.refl (S := No) w).alloc _).trans k2 (fun _ _ h => h)
    have R2 := H.out.kept K2.out (fun h => h) (fun _ _ h => h)
    have c1 := R2.c1
    have c2 := R2.c2
    have c3 := R2.c3
    have ob : Open w2 w.heap.size := k2.opened (by simp [go_sem])
    have nb : (rowD w2 w.heap.size).size = 4 := k2.rowSize (by simp [go_sem]) (by simp [go_sem])
    obtain ⟨a2, n2, d2, he2⟩ : ∃ a n c, v2 = .slice a n c := by
      obtain ⟨a, c, he⟩ := ownsRow_slice Hown2.out
      exact ⟨a, _, c, he⟩
    subst he2
    clear hown2 hk2 k2 R2 c0
    go_wp2
    go_still_tail 14, (by kernel_rfl)
    change wpList _ _ _ _ _ (World.drew _)
    go_wp2
    refine bodyPost_ret (v := .agg #[.slice a2 n2 d2, .bool is, .int .i64 room, .bool dead]) ?_ rfl ⟨_, rfl, ?_, ?_⟩
    · simp [results, Try.results31, go_sem, *]
    · refine OwnOf.base (b' := w.heap.size + 1) ?_ (by omega)
      exact (((Keeps.refl w2).setRow (S := Own w.heap.size) (fun _ => rfl) _).drew).owns Hown2.out (fun k hk e => by have := (Hown2.out.lt k hk).1; have : k = w.heap.size := e; omega)
    · exact (K2.out.row (Nat.le_refl _) _).drew
end
end Go.Proofs.Ytdckdndjddflfaa
