/-
  The document's disk: Sync, Read, Size, Append. No conditions of their own.
-/
import Derived.Test.YtdckdndjddflfaaDkU
namespace Go.Proofs.Ytdckdndjddflfaa
open Go.RowKit Go.WideShapes

/-- what a deed of the document's may turn -/
def QS (q : Nat) (v : Value) : Nat → Prop := fun i => i = q ∨ v.ownBlock = some i
def FitsR (r : Rf) : Prop := r.sure.size + r.loose.size ≤ 4194304

section
variable {w : World} {q base : Nat} {v : Value} {is : Bool} {room : Int} {dead : Bool}

theorem RefAt.put3 {w2 : World} {g vc : Nat} {L A B : List Rf} {r : Rf} (h : RefAt w2 q base (.slice (some ⟨g, 0, none⟩) L.length vc) L is room dead) (hL : L = A ++ r :: B) (x : Rf) :
    RefAt (w2.setRow g (splice (rowD w2 g) (A.length * 3) (rfC x))) q base (.slice (some ⟨g, 0, none⟩) L.length vc) (A ++ x :: B) is room dead ∧ Keeps (QS q (.slice (some ⟨g, 0, none⟩) L.length vc)) w2 (w2.setRow g (splice (rowD w2 g) (A.length * 3) (rfC x))) := by
  have hgq : g ≠ q := h.ne g rfl
  have hlen : L.length = (A ++ x :: B).length := by rw [hL]; simp
  have hs : L.set A.length x = A ++ x :: B := by rw [hL]; simp
  have h1 := own_splice h.own A.length (by rw [hL]; simp) x
  rw [hs] at h1
  have hk : Keeps (Own g) w2 (w2.setRow g (splice (rowD w2 g) (A.length * 3) (rfC x))) := (Keeps.refl w2).setRow (S := Own g) (fun _ => rfl) _
  exact ⟨⟨hk.heap h.cells (fun e => hgq e.symm), h1, h.ne, by rw [← hlen]; exact h.few, Nat.le_trans h.low hk.size⟩, hk.mono (fun i _ hi => .inr (by cases hi; rfl))⟩

/-- what is known of a file at a place -/
theorem RefAt.row {L A B : List Rf} {r : Rf} (h : RefAt w q base v L is room dead) (hL : L = A ++ r :: B) : ∃ g vc, v = .slice (some ⟨g, 0, none⟩) L.length vc ∧ A.length < L.length ∧ cellsAt w g (A.length * 3) 3 = some (rfC r) ∧ Open w g ∧ A.length * 3 + 3 ≤ (rowD w g).size := by
  have hlen : L.length = A.length + 1 + B.length := by rw [hL]; simp; omega
  obtain ⟨g, vc, rfl, hvc, hbg, ho, hs⟩ := own_at h.own (by omega)
  refine ⟨g, vc, rfl, by omega, ?_, ho, ?_⟩
  · have hr : RdOf cRf w (.slice (some ⟨g, 0, none⟩) L.length vc) L := h.own.reads
    have c3 : cellsAt w g (0 + A.length * 3) 3 = some (rfC (L[A.length]'(by omega))) := RdOf.at cRf hr A.length (by omega)
    have e : L[A.length]'(by omega) = r := by
      subst hL
      simp
    rw [e, Nat.zero_add] at c3
    exact c3
  · rw [hs]
    have : cRf.size = 3 := rfl
    rw [this]
    omega

set_option maxRecDepth 100000 in
set_option maxHeartbeats 1000000 in
theorem rsync_ok {L A B : List Rf} {r : Rf} (h : RefAt w q base v L is room dead) (hL : L = A ++ r :: B) (hf : FitsR r) (n : ByteArray) (hE : openA L dead n = ((A.length : Int), 0)) :
    Calls Try.prog 36 #[dP q, .string n] w fun e w' => e = .returned (.int .i64 0) ∧ RefAt w' q base v (A ++ ⟨n, r.sure ++ r.loose, ⟨#[]⟩⟩ :: B) is room dead ∧ Keeps (QS q v) w w' := by
  obtain ⟨g, vc, rfl, hlt, c3, ho, hN⟩ := h.row hL
  have c0 : w.cell? ⟨q, 0, none⟩ = some (.slice (some ⟨g, 0, none⟩) L.length vc) := by simp [World.cell?, h.cells]
  have d1 : w.cell? ⟨g, A.length * 3 + 1, none⟩ = some (.string r.sure) := cellsAt_cell c3 1 _ rfl
  have d2 : w.cell? ⟨g, A.length * 3 + 2, none⟩ = some (.string r.loose) := cellsAt_cell c3 2 _ rfl
  have hcat : ∀ W : World, (Op.stringOp .add r.sure r.loose).run Try.prog W = .ok (.string (r.sure ++ r.loose)) W := fun W => run_string_add_sum W _ _ (by unfold FitsR at hf; omega)
  have hk0 : (0 : Int) ≤ (A.length : Int) := by omega
  have hki : (A.length : Int) < (L.length : Int) := by omega
  have Hop := Lib.hid (ropen_any h n _ _ hE)
  have H := Lib.hid h
  have HL := Lib.hid hL
  clear h hf hE hL c3 hlt
  go_enter Try.func36, Try.ntmps36
  go_wp2_with fail
  refine Hop.out.mono ?_
  rintro e w1 ⟨rfl, rfl⟩
  go_wp2
  go_still_tail 25, (by kernel_rfl)
  change wpList _ _ _ _ _ (World.drew _)
  go_wp2
  go_ret
  obtain ⟨hr1, hk1⟩ := H.out.put3 HL.out ⟨n, r.sure ++ r.loose, ⟨#[]⟩⟩
  exact ⟨rfl, hr1.kept ((Keeps.refl (S := No) _).drew) (fun h => h) (fun _ _ h => h), hk1.drew⟩
theorem rsync_err {L : List Rf} (h : RefAt w q base v L is room dead) (n : ByteArray) (ec : Int) (hE : openA L dead n = (0, ec)) (he : (ec == 0) = false) :
    Calls Try.prog 36 #[dP q, .string n] w fun e w' => e = .returned (.int .i64 ec) ∧ w' = w := by
  have Hop := Lib.hid (ropen_any h n _ _ hE)
  clear h hE
  go_enter Try.func36, Try.ntmps36
  go_wp2_with fail
  refine Hop.out.mono ?_
  rintro e w1 ⟨rfl, rfl⟩
  go_wp2
  go_ret
  exact ⟨rfl, rfl⟩

/-- how much of a text is taken -/
def FitTo (is : Bool) (room : Int) (dead : Bool) (s s' : ByteArray) (room' : Int) (dead' : Bool) : Prop :=
  (is = false ∧ s' = s ∧ room' = room ∧ dead' = dead) ∨ (is = true ∧ (s.size : Int) ≤ room ∧ room ≤ 9223372036854775807 ∧ s' = s ∧ room' = room - s.size ∧ dead' = dead) ∨
    (is = true ∧ ∃ M : Nat, room = M ∧ (M : Int) < s.size ∧ s' = s.extract 0 M ∧ room' = 0 ∧ dead' = true)
theorem fits_any {L : List Rf} (h : RefAt w q base v L is room dead) (s s' : ByteArray) (room' : Int) (dead' : Bool) (hf : FitTo is room dead s s' room' dead') :
    Calls Try.prog 46 #[dP q, .string s] w fun e w' => e = .returned (.string s') ∧ RefAt w' q base v L is room' dead' ∧ Keeps (Own q) w w' := by
  rcases hf with ⟨rfl, rfl, rfl, rfl⟩ | ⟨rfl, h1, h2, rfl, rfl, rfl⟩ | ⟨rfl, M, rfl, h1, rfl, rfl, rfl⟩
  · exact (fits_free h s').mono (by rintro e w' ⟨rfl, rfl⟩; exact ⟨rfl, h, Keeps.refl _⟩)
  · exact fits_all h s' h1 h2
  · exact fits_part h s h1

set_option maxRecDepth 100000 in
set_option maxHeartbeats 1000000 in
theorem rappend_err {L : List Rf} (h : RefAt w q base v L is room dead) (n s : ByteArray) (ec : Int) (hE : openA L dead n = (0, ec)) (he : ec = 1 ∨ ec = 12) :
    Calls Try.prog 35 #[dP q, .string n, .string s] w fun e w' => e = .returned (.int .i64 ec) ∧ w' = w := by
  have Hop := Lib.hid (ropen_any h n _ _ hE)
  clear h hE
  rcases he with rfl | rfl
  all_goals
    go_enter Try.func35, Try.ntmps35
    go_wp2_with fail
    refine Hop.out.mono ?_
    rintro e w1 ⟨rfl, rfl⟩
    go_wp2
    go_ret
    exact ⟨rfl, rfl⟩

set_option maxRecDepth 100000 in
set_option maxHeartbeats 1000000 in
theorem rappend_full {L : List Rf} (h : RefAt w q base v L is room dead) (n s : ByteArray) (hE : openA L dead n = (0, 6)) (hs : 64 ≤ L.length ∨ L.length < 64 ∧ 4194304 < s.size) :
    Calls Try.prog 35 #[dP q, .string n, .string s] w fun e w' => e = .returned (.int .i64 8) ∧ w' = w := by
  have Hop := Lib.hid (ropen_any h n _ _ hE)
  obtain ⟨va, vc, rfl⟩ := ownsRow_slice h.own
  have c0 : w.cell? ⟨q, 0, none⟩ = some (.slice va L.length vc) := by simp [World.cell?, h.cells]
  clear h hE
  rcases hs with hs | ⟨hs, hs2⟩
  · have h1 : decide ((64 : Int) ≤ (L.length : Int)) = true := decide_eq_true (by omega)
    clear hs
    go_enter Try.func35, Try.ntmps35
    go_wp2_with fail
    refine Hop.out.mono ?_
    rintro e w1 ⟨rfl, rfl⟩
    go_wp2
    go_ret
    exact ⟨rfl, rfl⟩
  · have h1 : decide ((64 : Int) ≤ (L.length : Int)) = false := decide_eq_false (by omega)
    have h2 : decide ((4194304 : Int) < (s.size : Int)) = true := decide_eq_true (by omega)
    clear hs hs2
    go_enter Try.func35, Try.ntmps35
    go_wp2_with fail
    refine Hop.out.mono ?_
    rintro e w1 ⟨rfl, rfl⟩
    go_wp2
    go_ret
    exact ⟨rfl, rfl⟩

set_option maxRecDepth 100000 in
set_option maxHeartbeats 1000000 in
theorem rappend_new {L A B : List Rf} {dead' : Bool} {room' : Int} (h : RefAt w q base v L is room dead) (hL : L = A ++ B) (n s s' : ByteArray) (hE : openA L dead n = (0, 6)) (h64 : L.length < 64) (hs : s.size ≤ 4194304) (hf : FitTo is room dead s s' room' dead')
    (hA : ∀ a ∈ A, bytesBefore a.name.data.toList n.data.toList = true) (hB : ∀ c ∈ B, bytesBefore c.name.data.toList n.data.toList = false) :
    Calls Try.prog 35 #[dP q, .string n, .string s] w fun e w' => e = .returned (.int .i64 (bif dead' then 12 else 0)) ∧ PutPost w q base (A ++ ⟨n, ⟨#[]⟩, s'⟩ :: B) is room' dead' w' := by
  have Hop := Lib.hid (ropen_any h n _ _ hE)
  obtain ⟨va, vc, rfl⟩ := ownsRow_slice h.own
  have c0 : w.cell? ⟨q, 0, none⟩ = some (.slice va L.length vc) := by simp [World.cell?, h.cells]
  have h1 : decide ((64 : Int) ≤ (L.length : Int)) = false := decide_eq_false (by omega)
  have h2 : decide ((4194304 : Int) < (s.size : Int)) = false := decide_eq_false (by omega)
  have H := Lib.hid h
  have Hf := Lib.hid hf
  have H64 := Lib.hid h64
  have HL := Lib.hid hL
  have HA := Lib.hid hA
  have HB := Lib.hid hB
  clear h hE hs h64 hf hA hB hL
  go_enter Try.func35, Try.ntmps35
  go_wp2_with fail
  refine Hop.out.mono ?_
  rintro e w1 ⟨rfl, rfl⟩
  go_wp2_with fail
  refine (fits_any H.out s s' room' dead' Hf.out).mono ?_
  rintro e w2 ⟨rfl, r2, k2⟩
  have R2 := Lib.hid r2
  have K2 := Lib.hid k2
  clear r2 k2
  go_wp2_with fail
  refine (put_any R2.out HL.out ⟨n, ⟨#[]⟩, s'⟩ HA.out HB.out H64.out).mono ?_
  rintro e w3 ⟨rfl, v3, r3, k3⟩
  have R3 := Lib.hid r3
  have K3 : Hid (Keeps (Own q) w1 w3) := K2.out.trans k3 (fun _ _ h => h)
  clear r3 k3
  go_wp2_with fail
  refine (rdown_any R3.out).mono ?_
  rintro e w4 ⟨rfl, rfl⟩
  go_wp2
  go_ret
  exact ⟨rfl, v3, R3.out, K3.out⟩

theorem rowsOf_set1 {α : Type} (C : Codec α) (l : List α) (j : Nat) (hj : j < l.length) (i : Nat) (hi : i < C.size) (a : α) (u : Value) (h : C.cells a = (C.cells l[j]).set i u) : (rowsOf C l).set (j * C.size + i) u = rowsOf C (l.set j a) := by
  have e : rowsOf C l = rowsOf C (l.take j) ++ (C.cells l[j] ++ rowsOf C (l.drop (j + 1))) := by
    rw [← rowsOf_cons, ← List.drop_eq_getElem_cons hj, ← rowsOf_append, List.take_append_drop]
  have e2 : rowsOf C (l.set j a) = rowsOf C (l.take j) ++ (C.cells a ++ rowsOf C (l.drop (j + 1))) := by
    rw [List.set_eq_take_append_cons_drop, if_pos hj, rowsOf_append, rowsOf_cons]
  have hl : (rowsOf C (l.take j)).length = j * C.size := by rw [rowsOf_length, List.length_take, Nat.min_eq_left (by omega)]
  rw [e, e2, h, List.set_append_right _ _ (by omega), hl, Nat.add_sub_cancel_left, List.set_append_left _ _ (by rw [C.len]; exact hi)]
theorem RefAt.put1 {w2 : World} {g vc : Nat} {L A B : List Rf} {r : Rf} (h : RefAt w2 q base (.slice (some ⟨g, 0, none⟩) L.length vc) L is room dead) (hL : L = A ++ r :: B) (s : ByteArray) :
    RefAt (w2.setCell ⟨g, A.length * 3 + 2, none⟩ (.string s)) q base (.slice (some ⟨g, 0, none⟩) L.length vc) (A ++ ⟨r.name, r.sure, s⟩ :: B) is room dead ∧ Keeps (QS q (.slice (some ⟨g, 0, none⟩) L.length vc)) w2 (w2.setCell ⟨g, A.length * 3 + 2, none⟩ (.string s)) := by
  have hgq : g ≠ q := h.ne g rfl
  have hlen : L.length = (A ++ ⟨r.name, r.sure, s⟩ :: B : List Rf).length := by rw [hL]; simp
  have hs : L.set A.length ⟨r.name, r.sure, s⟩ = A ++ ⟨r.name, r.sure, s⟩ :: B := by rw [hL]; simp
  have hA : A.length < L.length := by rw [hL]; simp
  have e : L[A.length]'hA = r := by
    subst hL
    simp
  have h1 := (h.own.stored (A.length * 3 + 2) (.string s)).1
  have e1 : (rowsOf cRf L).set (A.length * 3 + 2) (.string s) = rowsOf cRf (A ++ ⟨r.name, r.sure, s⟩ :: B) := by
    rw [← hs]
    exact rowsOf_set1 cRf L A.length hA 2 (by decide) _ _ (by rw [e]; rfl)
  rw [e1] at h1
  have hk : Keeps (Own g) w2 (w2.setCell ⟨g, A.length * 3 + 2, none⟩ (.string s)) := (Keeps.refl w2).setCell (S := Own g) (p := ⟨g, A.length * 3 + 2, none⟩) (fun _ => rfl) _
  have h2 : OwnOf cRf 75 (w2.setCell ⟨g, A.length * 3 + 2, none⟩ (.string s)) base (.slice (some ⟨g, 0, none⟩) L.length vc) (A ++ ⟨r.name, r.sure, s⟩ :: B) := by
    unfold OwnOf
    rw [← hlen]
    exact h1
  exact ⟨⟨hk.heap h.cells (fun e => hgq e.symm), h2, h.ne, by rw [← hlen]; exact h.few, Nat.le_trans h.low hk.size⟩, hk.mono (fun i _ hi => .inr (by cases hi; rfl))⟩

set_option maxRecDepth 100000 in
set_option maxHeartbeats 1000000 in
theorem rappend_big {L A B : List Rf} {r : Rf} (h : RefAt w q base v L is room dead) (hL : L = A ++ r :: B) (hr : FitsR r) (n s : ByteArray) (hE : openA L dead n = ((A.length : Int), 0)) (hs : s.size ≤ 4194304) (hbig : 4194304 < r.sure.size + r.loose.size + s.size) :
    Calls Try.prog 35 #[dP q, .string n, .string s] w fun e w' => e = .returned (.int .i64 8) ∧ Keeps No w w' := by
  obtain ⟨g, vc, rfl, hlt, c3, _, _⟩ := h.row hL
  have c0 : w.cell? ⟨q, 0, none⟩ = some (.slice (some ⟨g, 0, none⟩) L.length vc) := by simp [World.cell?, h.cells]
  have d1 : w.cell? ⟨g, A.length * 3 + 1, none⟩ = some (.string r.sure) := cellsAt_cell c3 1 _ rfl
  have d2 : w.cell? ⟨g, A.length * 3 + 2, none⟩ = some (.string r.loose) := cellsAt_cell c3 2 _ rfl
  have hk0 : (0 : Int) ≤ (A.length : Int) := by omega
  have hki : (A.length : Int) < (L.length : Int) := by omega
  unfold FitsR at hr
  have hw1 : IntKind.i64.wrap ((r.sure.size : Int) + (r.loose.size : Int)) = (r.sure.size : Int) + (r.loose.size : Int) := by rw [IntKind.wrap_i64]; omega
  have hw2 : IntKind.i64.wrap (4194304 - (s.size : Int)) = 4194304 - (s.size : Int) := by rw [IntKind.wrap_i64]; omega
  have hg : decide (4194304 - (s.size : Int) < (r.sure.size : Int) + (r.loose.size : Int)) = true := decide_eq_true (by omega)
  have Hop := Lib.hid (ropen_any h n _ _ hE)
  clear h hE hL c3 hlt hr hbig hs
  go_enter Try.func35, Try.ntmps35
  go_wp2_with fail
  refine Hop.out.mono ?_
  rintro e w1 ⟨rfl, rfl⟩
  go_wp2
  go_quiet (fail)
  rename_i nq
  go_wp2
  go_ret
  exact ⟨rfl, (Keeps.refl _).drewN nq⟩

set_option maxRecDepth 100000 in
set_option maxHeartbeats 1000000 in
theorem rappend_old {L A B : List Rf} {r : Rf} {dead' : Bool} {room' : Int} (h : RefAt w q base v L is room dead) (hL : L = A ++ r :: B) (n s s' : ByteArray) (hE : openA L dead n = ((A.length : Int), 0)) (hfit : r.sure.size + r.loose.size + s.size ≤ 4194304) (hs' : s'.size ≤ s.size) (hf : FitTo is room dead s s' room' dead') :
    Calls Try.prog 35 #[dP q, .string n, .string s] w fun e w' => e = .returned (.int .i64 (bif dead' then 12 else 0)) ∧ RefAt w' q base v (A ++ ⟨r.name, r.sure, r.loose ++ s'⟩ :: B) is room' dead' ∧ Keeps (QS q v) w w' := by
  obtain ⟨g, vc, rfl, hlt, c3, _, _⟩ := h.row hL
  have c0 : w.cell? ⟨q, 0, none⟩ = some (.slice (some ⟨g, 0, none⟩) L.length vc) := by simp [World.cell?, h.cells]
  have d1 : w.cell? ⟨g, A.length * 3 + 1, none⟩ = some (.string r.sure) := cellsAt_cell c3 1 _ rfl
  have d2 : w.cell? ⟨g, A.length * 3 + 2, none⟩ = some (.string r.loose) := cellsAt_cell c3 2 _ rfl
  have hk0 : (0 : Int) ≤ (A.length : Int) := by omega
  have hki : (A.length : Int) < (L.length : Int) := by omega
  have hw1 : IntKind.i64.wrap ((r.sure.size : Int) + (r.loose.size : Int)) = (r.sure.size : Int) + (r.loose.size : Int) := by rw [IntKind.wrap_i64]; omega
  have hw2 : IntKind.i64.wrap (4194304 - (s.size : Int)) = 4194304 - (s.size : Int) := by rw [IntKind.wrap_i64]; omega
  have hg : decide (4194304 - (s.size : Int) < (r.sure.size : Int) + (r.loose.size : Int)) = false := decide_eq_false (by omega)
  have hcat : ∀ W : World, (Op.stringOp .add r.loose s').run Try.prog W = .ok (.string (r.loose ++ s')) W := fun W => run_string_add_sum W _ _ (by omega)
  have Hop := Lib.hid (ropen_any h n _ _ hE)
  have H := Lib.hid h
  have HL := Lib.hid hL
  have Hf := Lib.hid hf
  clear h hE hL c3 hlt hfit hs' hf
  go_enter Try.func35, Try.ntmps35
  go_wp2_with fail
  refine Hop.out.mono ?_
  rintro e w1 ⟨rfl, rfl⟩
  go_wp2
  go_quiet (fail)
  rename_i nq
  go_wp2_with fail
  refine (fits_any (H.out.kept ((Keeps.refl (S := No) w1).drewN nq) (fun h => h) (fun _ _ h => h)) s s' room' dead' Hf.out).mono ?_
  rintro e w2 ⟨rfl, r2, k2⟩
  have R2 := Lib.hid r2
  have K2 : Hid (Keeps (Own q) w1 w2) := ((Keeps.refl w1).drewN nq).trans k2 (fun _ _ h => h)
  clear r2 k2 c0 d1 d2
  have c0 : w2.cell? ⟨q, 0, none⟩ = some (.slice (some ⟨g, 0, none⟩) L.length vc) := by simp [World.cell?, R2.out.cells]
  obtain ⟨g', vc', he, _, c3, ho, hN⟩ := R2.out.row HL.out
  simp only [Value.slice.injEq, Option.some.injEq, Addr.mk.injEq, and_true, true_and] at he
  obtain ⟨rfl, rfl⟩ := he
  have d2 : w2.cell? ⟨g, A.length * 3 + 2, none⟩ = some (.string r.loose) := cellsAt_cell c3 2 _ rfl
  have f2 := ho.frozen (A.length * 3 + 2)
  clear c3 ho hN
  go_wp2
  go_still_tail 17, (by kernel_rfl)
  change wpList _ _ _ _ _ (World.drew _)
  go_wp2_with fail
  have hk := R2.out.put1 HL.out (r.loose ++ s')
  refine (rdown_any (hk.1.kept ((Keeps.refl (S := No) _).drew) (fun h => h) (fun _ _ h => h))).mono ?_
  rintro e w4 ⟨rfl, rfl⟩
  go_wp2
  go_ret
  exact ⟨rfl, hk.1.kept ((Keeps.refl (S := No) _).drew) (fun h => h) (fun _ _ h => h), ((K2.out.mono (T := QS q _) (fun _ _ h => .inl h)).trans hk.2 (fun _ _ h => h)).drew⟩
end
end Go.Proofs.Ytdckdndjddflfaa
