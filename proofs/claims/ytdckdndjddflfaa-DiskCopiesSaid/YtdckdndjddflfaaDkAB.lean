/-
  hedgerowlaw06.Step: a deed done to both. No conditions of its own.
-/
import Derived.Test.YtdckdndjddflfaaDkAA
import Derived.Deep.RegionHeld3
import Derived.BigQuiet
namespace Go.Proofs.Ytdckdndjddflfaa
open Go.RowKit Go.WideShapes

/-- what a deed may turn -/
def PQ (p b q base : Nat) : Nat → Prop := fun i => i = p ∨ i = b ∨ i = q ∨ base ≤ i
def StepPost (w : World) (p b q base cnt : Nat) (w' : World) : Prop := ∃ (v' : Value) (L' : List Rf) (is' : Bool) (room' rr' : Int) (dead' : Bool), Bo w' p b q base v' L' is' room' rr' dead' (cnt + 1) ∧ Keeps (PQ p b q base) w w'

section
variable {w : World} {p b q base : Nat} {v : Value} {L : List Rf} {is : Bool} {room rr : Int} {dead : Bool} {cnt : Nat}

theorem Bo.kept {S : Nat → Prop} {w' : World} (h : Bo w p b q base v L is room rr dead cnt) (k : Keeps S w w') (hS : ∀ i, S i → i ≠ p ∧ i ≠ b ∧ i ≠ q ∧ v.ownBlock ≠ some i) : Bo w' p b q base v L is room rr dead cnt :=
  ⟨h.d.kept k (fun e => (hS _ e).1 rfl) (fun e => (hS _ e).2.1 rfl), h.r.kept k (fun e => (hS _ e).2.2.1 rfl) (fun _ hi e => (hS _ e).2.2.2 hi), h.hp, h.hb, h.pq, h.bq, h.room, h.nm⟩
theorem Bo.no {w' : World} (h : Bo w p b q base v L is room rr dead cnt) (k : Keeps No w w') : Bo w' p b q base v L is room rr dead cnt := h.kept k (fun _ h => h.elim)
/-- the document's is not turned by what turns the disk -/
theorem Bo.refKept {w1 : World} (h : Bo w p b q base v L is room rr dead cnt) (k : Keeps (Two p b) w w1) : RefAt w1 q base v L is rr dead :=
  h.r.kept k (fun e => by rcases e with e | e; exact h.pq e.symm; exact h.bq e.symm) (fun i hi e => by
    have h1 := (h.r.own.lt i hi).1
    have h2 := h.hp
    have h3 := h.hb
    rcases e with rfl | rfl <;> omega)
/-- and the disk is not turned by what turns the document's -/
theorem Bo.both {w1 w2 : World} (h : Bo w p b q base v L is room rr dead cnt) {v' : Value} {L' : List Rf} {is' : Bool} {room' rr' : Int} {dead' : Bool} {m : Nat} (hd : DiskAt w1 p b (fsOf L') room' dead') (k1 : Keeps (Two p b) w w1) (hr : RefAt w2 q base v' L' is' rr' dead') (k2 : Keeps (QS q v) w1 w2) (hm : RoomBoth is' room' rr' m) (hn : NmB L') :
    Bo w2 p b q base v' L' is' room' rr' dead' m ∧ Keeps (PQ p b q base) w w2 := by
  have hv : ∀ i, v.ownBlock = some i → base ≤ i := fun i hi => (h.r.own.lt i hi).1
  have h2 := h.hp
  have h3 := h.hb
  refine ⟨⟨hd.kept k2 (fun e => ?_) (fun e => ?_), hr, h.hp, h.hb, h.pq, h.bq, hm, hn⟩, (k1.mono (fun i _ e => ?_)).trans k2 (fun i _ e => ?_)⟩
  · rcases e with e | e
    · exact h.pq e
    · have := hv _ e; omega
  · rcases e with e | e
    · exact h.bq e
    · have := hv _ e; omega
  · rcases e with e | e
    · exact .inl e
    · exact .inr (.inl e)
  · rcases e with e | e
    · exact .inr (.inr (.inl e))
    · exact .inr (.inr (.inr (hv _ e)))
/-- a box of the call's own stays -/
theorem Bo.box {w1 : World} (h : Bo w p b q base v L is room rr dead cnt) (k : Keeps (Two p b) w w1) {g o n : Nat} {l : List Value} (hc : cellsAt w g o n = some l) (hgp : base ≤ g) : cellsAt w1 g o n = some l :=
  cells_but k (fun e => by have := h.hp; have := h.hb; rcases e with rfl | rfl <;> omega) hc
theorem box_far {w1 w2 : World} (k : Keeps (QS q v) w1 w2) {g o n : Nat} {l : List Value} (hq : g ≠ q) (hv : v.ownBlock ≠ some g) (hc : cellsAt w1 g o n = some l) : cellsAt w2 g o n = some l :=
  cells_but k (fun e => by rcases e with e | e; exact hq e; exact hv e) hc

theorem Bo.drewd (h : Bo w p b q base v L is room rr dead cnt) : Bo w.drew p b q base v L is room rr dead cnt := h.no (Keeps.refl (S := No) w).drew

set_option maxRecDepth 100000 in
set_option maxHeartbeats 2000000 in
theorem step_0 (h : Bo w p b q base v L is room rr dead cnt) (d : Deed) (hk : d.k = 0) (hs : d.s.size ≤ 5000) (hc : cnt ≤ 1000) :
    Calls Try.prog 26 #[dP p, dP q, .agg #[.int .i64 d.k, .int .i64 d.n, .string d.name, .string d.to, .string d.s]] w fun e w' => e = .returned (.bool true) ∧ StepPost w p b q base cnt w' := by
  rw [hk]
  clear hk
  go_enter Try.func26, Try.ntmps26
  go_wp2_with fail
  refine wp_world ?_
  intro W hW
  have KW : Hid (Keeps No w W) := by rw [hW]; exact (Keeps.refl (S := No) w).alloc _
  have cB : cellsAt W w.heap.size 0 5 = some [.int .i64 0, .int .i64 d.n, .string d.name, .string d.to, .string d.s] := by rw [hW]; simp [go_sem]
  have hsz : W.heap.size = w.heap.size + 1 := by rw [hW]; simp
  have hlow : base ≤ w.heap.size := h.r.low
  have hvb : v.ownBlock ≠ some w.heap.size := fun e => by have := (h.r.own.lt _ e).2; omega
  have hqb : w.heap.size ≠ q := by have := (Array.getElem?_eq_some_iff.1 h.r.cells).1; omega
  have HB := Lib.hid (h.no KW.out)
  obtain ⟨ec, L', room', rr', dead', hroom, hnm, hA, hR⟩ := append_pair HB.out.drewd d.name d.s hs hc
  have HA := Lib.hid hA
  have HR := Lib.hid hR
  have Hroom := Lib.hid hroom
  have Hnm := Lib.hid hnm
  have HCB := Lib.hid cB
  have Hbx := Lib.hid (And.intro hlow (And.intro hvb hqb))
  have Hsz := Lib.hid hsz
  have p0 : W.cell? ⟨w.heap.size, 0, none⟩ = some (.int .i64 0) := by simpa using cellsAt_cell cB 0 _ rfl
  have p2 : W.cell? ⟨w.heap.size, 2, none⟩ = some (.string d.name) := by simpa using cellsAt_cell cB 2 _ rfl
  have p4 : W.cell? ⟨w.heap.size, 4, none⟩ = some (.string d.s) := by simpa using cellsAt_cell cB 4 _ rfl
  clear h hs hc hW cB hsz hlow hvb hqb hA hR hroom hnm
  go_wp2_with fail
  go_region_held3 (fun w' => w'.cell? ⟨w.heap.size, 2, none⟩ = some (.string d.name) ∧ w'.cell? ⟨w.heap.size, 4, none⟩ = some (.string d.s)) (exact ⟨p2, p4⟩)
    (first
      | (go_at_call 14
         refine HA.out.mono ?_
         rintro e w1 ⟨rfl, hd1, hk1⟩
         have D1 := Lib.hid hd1
         have K1 := Lib.hid hk1
         have cB : cellsAt w1 w.heap.size 0 5 = some [.int .i64 0, .int .i64 d.n, .string d.name, .string d.to, .string d.s] := HB.out.drewd.box hk1 HCB.out Hbx.out.1
         clear hd1 hk1 p2 p4
         have p2 : w1.cell? ⟨w.heap.size, 2, none⟩ = some (.string d.name) := by simpa using cellsAt_cell cB 2 _ rfl
         have p4 : w1.cell? ⟨w.heap.size, 4, none⟩ = some (.string d.s) := by simpa using cellsAt_cell cB 4 _ rfl)
      | (go_at_call 35
         refine (HR.out w1 (HB.out.drewd.refKept K1.out)).mono ?_
         rintro e w2 ⟨rfl, v', hr2, hk2⟩
         have F2 := Lib.hid (HB.out.drewd.both D1.out K1.out hr2 hk2 Hroom.out Hnm.out)
         have cB : cellsAt w2 w.heap.size 0 5 = some [.int .i64 0, .int .i64 d.n, .string d.name, .string d.to, .string d.s] := box_far hk2 Hbx.out.2.2 Hbx.out.2.1 (HB.out.drewd.box K1.out HCB.out Hbx.out.1)
         clear hr2 hk2 p2 p4
         have p2 : w2.cell? ⟨w.heap.size, 2, none⟩ = some (.string d.name) := by simpa using cellsAt_cell cB 2 _ rfl
         have p4 : w2.cell? ⟨w.heap.size, 4, none⟩ = some (.string d.s) := by simpa using cellsAt_cell cB 4 _ rfl))
  all_goals
    go_wp2
    go_ret
    exact ⟨rfl, v', L', is, room', rr', dead', F2.out.1, (((KW.out.drew).mono (T := PQ p b q base) (fun _ _ h => h.elim)).trans F2.out.2 (fun _ _ h => h))⟩

set_option maxRecDepth 100000 in
set_option maxHeartbeats 2000000 in
theorem step_1 (h : Bo w p b q base v L is room rr dead cnt) (d : Deed) (hk : d.k = 1) (hs : d.s.size ≤ 5000) (hc : cnt ≤ 1000) :
    Calls Try.prog 26 #[dP p, dP q, .agg #[.int .i64 d.k, .int .i64 d.n, .string d.name, .string d.to, .string d.s]] w fun e w' => e = .returned (.bool true) ∧ StepPost w p b q base cnt w' := by
  rw [hk]
  clear hk
  go_enter Try.func26, Try.ntmps26
  go_wp2_with fail
  refine wp_world ?_
  intro W hW
  have KW : Hid (Keeps No w W) := by rw [hW]; exact (Keeps.refl (S := No) w).alloc _
  have cB : cellsAt W w.heap.size 0 5 = some [.int .i64 1, .int .i64 d.n, .string d.name, .string d.to, .string d.s] := by rw [hW]; simp [go_sem]
  have hsz : W.heap.size = w.heap.size + 1 := by rw [hW]; simp
  have hlow : base ≤ w.heap.size := h.r.low
  have hvb : v.ownBlock ≠ some w.heap.size := fun e => by have := (h.r.own.lt _ e).2; omega
  have hqb : w.heap.size ≠ q := by have := (Array.getElem?_eq_some_iff.1 h.r.cells).1; omega
  have HB := Lib.hid (h.no KW.out)
  obtain ⟨ec, L', room', rr', dead', hroom, hnm, hA, hR⟩ := append_pair HB.out.drewd d.name d.s hs hc
  have HA := Lib.hid hA
  have HR := Lib.hid hR
  have Hroom := Lib.hid hroom
  have Hnm := Lib.hid hnm
  have HCB := Lib.hid cB
  have Hbx := Lib.hid (And.intro hlow (And.intro hvb hqb))
  have Hsz := Lib.hid hsz
  have p0 : W.cell? ⟨w.heap.size, 0, none⟩ = some (.int .i64 1) := by simpa using cellsAt_cell cB 0 _ rfl
  have p2 : W.cell? ⟨w.heap.size, 2, none⟩ = some (.string d.name) := by simpa using cellsAt_cell cB 2 _ rfl
  have p4 : W.cell? ⟨w.heap.size, 4, none⟩ = some (.string d.s) := by simpa using cellsAt_cell cB 4 _ rfl
  clear h hs hc hW cB hsz hlow hvb hqb hA hR hroom hnm
  go_wp2_with fail
  go_region_held3 (fun w' => w'.cell? ⟨w.heap.size, 2, none⟩ = some (.string d.name) ∧ w'.cell? ⟨w.heap.size, 4, none⟩ = some (.string d.s)) (exact ⟨p2, p4⟩)
    (first
      | (go_at_call 14
         refine HA.out.mono ?_
         rintro e w1 ⟨rfl, hd1, hk1⟩
         have D1 := Lib.hid hd1
         have K1 := Lib.hid hk1
         have cB : cellsAt w1 w.heap.size 0 5 = some [.int .i64 1, .int .i64 d.n, .string d.name, .string d.to, .string d.s] := HB.out.drewd.box hk1 HCB.out Hbx.out.1
         clear hd1 hk1 p2 p4
         have p2 : w1.cell? ⟨w.heap.size, 2, none⟩ = some (.string d.name) := by simpa using cellsAt_cell cB 2 _ rfl
         have p4 : w1.cell? ⟨w.heap.size, 4, none⟩ = some (.string d.s) := by simpa using cellsAt_cell cB 4 _ rfl)
      | (go_at_call 35
         refine (HR.out w1 (HB.out.drewd.refKept K1.out)).mono ?_
         rintro e w2 ⟨rfl, v', hr2, hk2⟩
         have F2 := Lib.hid (HB.out.drewd.both D1.out K1.out hr2 hk2 Hroom.out Hnm.out)
         have cB : cellsAt w2 w.heap.size 0 5 = some [.int .i64 1, .int .i64 d.n, .string d.name, .string d.to, .string d.s] := box_far hk2 Hbx.out.2.2 Hbx.out.2.1 (HB.out.drewd.box K1.out HCB.out Hbx.out.1)
         clear hr2 hk2 p2 p4
         have p2 : w2.cell? ⟨w.heap.size, 2, none⟩ = some (.string d.name) := by simpa using cellsAt_cell cB 2 _ rfl
         have p4 : w2.cell? ⟨w.heap.size, 4, none⟩ = some (.string d.s) := by simpa using cellsAt_cell cB 4 _ rfl))
  all_goals
    go_wp2
    go_ret
    exact ⟨rfl, v', L', is, room', rr', dead', F2.out.1, (((KW.out.drew).mono (T := PQ p b q base) (fun _ _ h => h.elim)).trans F2.out.2 (fun _ _ h => h))⟩

set_option maxRecDepth 100000 in
set_option maxHeartbeats 2000000 in
theorem step_2 (h : Bo w p b q base v L is room rr dead cnt) (d : Deed) (hk : d.k = 2) :
    Calls Try.prog 26 #[dP p, dP q, .agg #[.int .i64 d.k, .int .i64 d.n, .string d.name, .string d.to, .string d.s]] w fun e w' => e = .returned (.bool true) ∧ StepPost w p b q base cnt w' := by
  rw [hk]
  clear hk
  go_enter Try.func26, Try.ntmps26
  go_wp2_with fail
  refine wp_world ?_
  intro W hW
  have KW : Hid (Keeps No w W) := by rw [hW]; exact (Keeps.refl (S := No) w).alloc _
  have cB : cellsAt W w.heap.size 0 5 = some [.int .i64 2, .int .i64 d.n, .string d.name, .string d.to, .string d.s] := by rw [hW]; simp [go_sem]
  have hsz : W.heap.size = w.heap.size + 1 := by rw [hW]; simp
  have hlow : base ≤ w.heap.size := h.r.low
  have hvb : v.ownBlock ≠ some w.heap.size := fun e => by have := (h.r.own.lt _ e).2; omega
  have hqb : w.heap.size ≠ q := by have := (Array.getElem?_eq_some_iff.1 h.r.cells).1; omega
  have HB := Lib.hid (h.no KW.out)
  obtain ⟨ec, L', room', rr', dead', hroom, hnm, hA, hR⟩ := sync_pair HB.out.drewd d.name
  have HA := Lib.hid hA
  have HR := Lib.hid hR
  have Hroom := Lib.hid hroom
  have Hnm := Lib.hid hnm
  have HCB := Lib.hid cB
  have Hbx := Lib.hid (And.intro hlow (And.intro hvb hqb))
  have Hsz := Lib.hid hsz
  have p0 : W.cell? ⟨w.heap.size, 0, none⟩ = some (.int .i64 2) := by simpa using cellsAt_cell cB 0 _ rfl
  have p2 : W.cell? ⟨w.heap.size, 2, none⟩ = some (.string d.name) := by simpa using cellsAt_cell cB 2 _ rfl
  clear h hW cB hsz hlow hvb hqb hA hR hroom hnm
  go_wp2_with fail
  go_region_held3 (fun w' => w'.cell? ⟨w.heap.size, 2, none⟩ = some (.string d.name)) (exact p2)
    (first
      | (go_at_call 15
         refine HA.out.mono ?_
         rintro e w1 ⟨rfl, hd1, hk1⟩
         have D1 := Lib.hid hd1
         have K1 := Lib.hid hk1
         have cB : cellsAt w1 w.heap.size 0 5 = some [.int .i64 2, .int .i64 d.n, .string d.name, .string d.to, .string d.s] := HB.out.drewd.box hk1 HCB.out Hbx.out.1
         clear hd1 hk1 p2
         have p2 : w1.cell? ⟨w.heap.size, 2, none⟩ = some (.string d.name) := by simpa using cellsAt_cell cB 2 _ rfl)
      | (go_at_call 36
         refine (HR.out w1 (HB.out.drewd.refKept K1.out)).mono ?_
         rintro e w2 ⟨rfl, v', hr2, hk2⟩
         have F2 := Lib.hid (HB.out.drewd.both D1.out K1.out hr2 hk2 Hroom.out Hnm.out)
         have cB : cellsAt w2 w.heap.size 0 5 = some [.int .i64 2, .int .i64 d.n, .string d.name, .string d.to, .string d.s] := box_far hk2 Hbx.out.2.2 Hbx.out.2.1 (HB.out.drewd.box K1.out HCB.out Hbx.out.1)
         clear hr2 hk2 p2
         have p2 : w2.cell? ⟨w.heap.size, 2, none⟩ = some (.string d.name) := by simpa using cellsAt_cell cB 2 _ rfl))
  all_goals
    go_wp2
    go_ret
    exact ⟨rfl, v', L', is, room', rr', dead', F2.out.1, (((KW.out.drew).mono (T := PQ p b q base) (fun _ _ h => h.elim)).trans F2.out.2 (fun _ _ h => h))⟩

set_option maxRecDepth 100000 in
set_option maxHeartbeats 2000000 in
theorem step_3 (h : Bo w p b q base v L is room rr dead cnt) (d : Deed) (hk : d.k = 3) :
    Calls Try.prog 26 #[dP p, dP q, .agg #[.int .i64 d.k, .int .i64 d.n, .string d.name, .string d.to, .string d.s]] w fun e w' => e = .returned (.bool true) ∧ StepPost w p b q base cnt w' := by
  rw [hk]
  clear hk
  go_enter Try.func26, Try.ntmps26
  go_wp2_with fail
  refine wp_world ?_
  intro W hW
  have KW : Hid (Keeps No w W) := by rw [hW]; exact (Keeps.refl (S := No) w).alloc _
  have cB : cellsAt W w.heap.size 0 5 = some [.int .i64 3, .int .i64 d.n, .string d.name, .string d.to, .string d.s] := by rw [hW]; simp [go_sem]
  have hsz : W.heap.size = w.heap.size + 1 := by rw [hW]; simp
  have hlow : base ≤ w.heap.size := h.r.low
  have hvb : v.ownBlock ≠ some w.heap.size := fun e => by have := (h.r.own.lt _ e).2; omega
  have hqb : w.heap.size ≠ q := by have := (Array.getElem?_eq_some_iff.1 h.r.cells).1; omega
  have HB := Lib.hid (h.no KW.out)
  obtain ⟨ec, L', room', rr', dead', hroom, hnm, hA, hR⟩ := truncate_pair HB.out.drewd d.name d.n
  have HA := Lib.hid hA
  have HR := Lib.hid hR
  have Hroom := Lib.hid hroom
  have Hnm := Lib.hid hnm
  have HCB := Lib.hid cB
  have Hbx := Lib.hid (And.intro hlow (And.intro hvb hqb))
  have Hsz := Lib.hid hsz
  have p0 : W.cell? ⟨w.heap.size, 0, none⟩ = some (.int .i64 3) := by simpa using cellsAt_cell cB 0 _ rfl
  have p2 : W.cell? ⟨w.heap.size, 2, none⟩ = some (.string d.name) := by simpa using cellsAt_cell cB 2 _ rfl
  have p1 : W.cell? ⟨w.heap.size, 1, none⟩ = some (.int .i64 d.n) := by simpa using cellsAt_cell cB 1 _ rfl
  clear h hW cB hsz hlow hvb hqb hA hR hroom hnm
  go_wp2_with fail
  go_region_held3 (fun w' => w'.cell? ⟨w.heap.size, 2, none⟩ = some (.string d.name) ∧ w'.cell? ⟨w.heap.size, 1, none⟩ = some (.int .i64 d.n)) (exact ⟨p2, p1⟩)
    (first
      | (go_at_call 22
         refine HA.out.mono ?_
         rintro e w1 ⟨rfl, hd1, hk1⟩
         have D1 := Lib.hid hd1
         have K1 := Lib.hid hk1
         have cB : cellsAt w1 w.heap.size 0 5 = some [.int .i64 3, .int .i64 d.n, .string d.name, .string d.to, .string d.s] := HB.out.drewd.box hk1 HCB.out Hbx.out.1
         clear hd1 hk1 p2 p1
         have p2 : w1.cell? ⟨w.heap.size, 2, none⟩ = some (.string d.name) := by simpa using cellsAt_cell cB 2 _ rfl
         have p1 : w1.cell? ⟨w.heap.size, 1, none⟩ = some (.int .i64 d.n) := by simpa using cellsAt_cell cB 1 _ rfl)
      | (go_at_call 37
         refine (HR.out w1 (HB.out.drewd.refKept K1.out)).mono ?_
         rintro e w2 ⟨rfl, v', hr2, hk2⟩
         have F2 := Lib.hid (HB.out.drewd.both D1.out K1.out hr2 hk2 Hroom.out Hnm.out)
         have cB : cellsAt w2 w.heap.size 0 5 = some [.int .i64 3, .int .i64 d.n, .string d.name, .string d.to, .string d.s] := box_far hk2 Hbx.out.2.2 Hbx.out.2.1 (HB.out.drewd.box K1.out HCB.out Hbx.out.1)
         clear hr2 hk2 p2 p1
         have p2 : w2.cell? ⟨w.heap.size, 2, none⟩ = some (.string d.name) := by simpa using cellsAt_cell cB 2 _ rfl
         have p1 : w2.cell? ⟨w.heap.size, 1, none⟩ = some (.int .i64 d.n) := by simpa using cellsAt_cell cB 1 _ rfl))
  all_goals
    go_wp2
    go_ret
    exact ⟨rfl, v', L', is, room', rr', dead', F2.out.1, (((KW.out.drew).mono (T := PQ p b q base) (fun _ _ h => h.elim)).trans F2.out.2 (fun _ _ h => h))⟩

set_option maxRecDepth 100000 in
set_option maxHeartbeats 2000000 in
theorem step_4 (h : Bo w p b q base v L is room rr dead cnt) (d : Deed) (hk : d.k = 4) :
    Calls Try.prog 26 #[dP p, dP q, .agg #[.int .i64 d.k, .int .i64 d.n, .string d.name, .string d.to, .string d.s]] w fun e w' => e = .returned (.bool true) ∧ StepPost w p b q base cnt w' := by
  rw [hk]
  clear hk
  go_enter Try.func26, Try.ntmps26
  go_wp2_with fail
  refine wp_world ?_
  intro W hW
  have KW : Hid (Keeps No w W) := by rw [hW]; exact (Keeps.refl (S := No) w).alloc _
  have cB : cellsAt W w.heap.size 0 5 = some [.int .i64 4, .int .i64 d.n, .string d.name, .string d.to, .string d.s] := by rw [hW]; simp [go_sem]
  have hsz : W.heap.size = w.heap.size + 1 := by rw [hW]; simp
  have hlow : base ≤ w.heap.size := h.r.low
  have hvb : v.ownBlock ≠ some w.heap.size := fun e => by have := (h.r.own.lt _ e).2; omega
  have hqb : w.heap.size ≠ q := by have := (Array.getElem?_eq_some_iff.1 h.r.cells).1; omega
  have HB := Lib.hid (h.no KW.out)
  obtain ⟨ec, L', room', rr', dead', hroom, hnm, hA, hR⟩ := rename_pair HB.out.drewd d.name d.to
  have HA := Lib.hid hA
  have HR := Lib.hid hR
  have Hroom := Lib.hid hroom
  have Hnm := Lib.hid hnm
  have HCB := Lib.hid cB
  have Hbx := Lib.hid (And.intro hlow (And.intro hvb hqb))
  have Hsz := Lib.hid hsz
  have p0 : W.cell? ⟨w.heap.size, 0, none⟩ = some (.int .i64 4) := by simpa using cellsAt_cell cB 0 _ rfl
  have p2 : W.cell? ⟨w.heap.size, 2, none⟩ = some (.string d.name) := by simpa using cellsAt_cell cB 2 _ rfl
  have p3 : W.cell? ⟨w.heap.size, 3, none⟩ = some (.string d.to) := by simpa using cellsAt_cell cB 3 _ rfl
  clear h hW cB hsz hlow hvb hqb hA hR hroom hnm
  go_wp2_with fail
  go_region_held3 (fun w' => w'.cell? ⟨w.heap.size, 2, none⟩ = some (.string d.name) ∧ w'.cell? ⟨w.heap.size, 3, none⟩ = some (.string d.to)) (exact ⟨p2, p3⟩)
    (first
      | (go_at_call 20
         refine HA.out.mono ?_
         rintro e w1 ⟨rfl, hd1, hk1⟩
         have D1 := Lib.hid hd1
         have K1 := Lib.hid hk1
         have cB : cellsAt w1 w.heap.size 0 5 = some [.int .i64 4, .int .i64 d.n, .string d.name, .string d.to, .string d.s] := HB.out.drewd.box hk1 HCB.out Hbx.out.1
         clear hd1 hk1 p2 p3
         have p2 : w1.cell? ⟨w.heap.size, 2, none⟩ = some (.string d.name) := by simpa using cellsAt_cell cB 2 _ rfl
         have p3 : w1.cell? ⟨w.heap.size, 3, none⟩ = some (.string d.to) := by simpa using cellsAt_cell cB 3 _ rfl)
      | (go_at_call 38
         refine (HR.out w1 (HB.out.drewd.refKept K1.out)).mono ?_
         rintro e w2 ⟨rfl, v', hr2, hk2⟩
         have F2 := Lib.hid (HB.out.drewd.both D1.out K1.out hr2 hk2 Hroom.out Hnm.out)
         have cB : cellsAt w2 w.heap.size 0 5 = some [.int .i64 4, .int .i64 d.n, .string d.name, .string d.to, .string d.s] := box_far hk2 Hbx.out.2.2 Hbx.out.2.1 (HB.out.drewd.box K1.out HCB.out Hbx.out.1)
         clear hr2 hk2 p2 p3
         have p2 : w2.cell? ⟨w.heap.size, 2, none⟩ = some (.string d.name) := by simpa using cellsAt_cell cB 2 _ rfl
         have p3 : w2.cell? ⟨w.heap.size, 3, none⟩ = some (.string d.to) := by simpa using cellsAt_cell cB 3 _ rfl))
  all_goals
    go_wp2
    go_ret
    exact ⟨rfl, v', L', is, room', rr', dead', F2.out.1, (((KW.out.drew).mono (T := PQ p b q base) (fun _ _ h => h.elim)).trans F2.out.2 (fun _ _ h => h))⟩

set_option maxRecDepth 100000 in
set_option maxHeartbeats 2000000 in
theorem step_5 (h : Bo w p b q base v L is room rr dead cnt) (d : Deed) (hk : d.k = 5) :
    Calls Try.prog 26 #[dP p, dP q, .agg #[.int .i64 d.k, .int .i64 d.n, .string d.name, .string d.to, .string d.s]] w fun e w' => e = .returned (.bool true) ∧ StepPost w p b q base cnt w' := by
  rw [hk]
  clear hk
  go_enter Try.func26, Try.ntmps26
  go_wp2_with fail
  refine wp_world ?_
  intro W hW
  have KW : Hid (Keeps No w W) := by rw [hW]; exact (Keeps.refl (S := No) w).alloc _
  have cB : cellsAt W w.heap.size 0 5 = some [.int .i64 5, .int .i64 d.n, .string d.name, .string d.to, .string d.s] := by rw [hW]; simp [go_sem]
  have hsz : W.heap.size = w.heap.size + 1 := by rw [hW]; simp
  have hlow : base ≤ w.heap.size := h.r.low
  have hvb : v.ownBlock ≠ some w.heap.size := fun e => by have := (h.r.own.lt _ e).2; omega
  have hqb : w.heap.size ≠ q := by have := (Array.getElem?_eq_some_iff.1 h.r.cells).1; omega
  have HB := Lib.hid (h.no KW.out)
  obtain ⟨ec, L', room', rr', dead', hroom, hnm, hA, hR⟩ := remove_pair HB.out.drewd d.name
  have HA := Lib.hid hA
  have HR := Lib.hid hR
  have Hroom := Lib.hid hroom
  have Hnm := Lib.hid hnm
  have HCB := Lib.hid cB
  have Hbx := Lib.hid (And.intro hlow (And.intro hvb hqb))
  have Hsz := Lib.hid hsz
  have p0 : W.cell? ⟨w.heap.size, 0, none⟩ = some (.int .i64 5) := by simpa using cellsAt_cell cB 0 _ rfl
  have p2 : W.cell? ⟨w.heap.size, 2, none⟩ = some (.string d.name) := by simpa using cellsAt_cell cB 2 _ rfl
  clear h hW cB hsz hlow hvb hqb hA hR hroom hnm
  go_wp2_with fail
  go_region_held3 (fun w' => w'.cell? ⟨w.heap.size, 2, none⟩ = some (.string d.name)) (exact p2)
    (first
      | (go_at_call 21
         refine HA.out.mono ?_
         rintro e w1 ⟨rfl, hd1, hk1⟩
         have D1 := Lib.hid hd1
         have K1 := Lib.hid hk1
         have cB : cellsAt w1 w.heap.size 0 5 = some [.int .i64 5, .int .i64 d.n, .string d.name, .string d.to, .string d.s] := HB.out.drewd.box hk1 HCB.out Hbx.out.1
         clear hd1 hk1 p2
         have p2 : w1.cell? ⟨w.heap.size, 2, none⟩ = some (.string d.name) := by simpa using cellsAt_cell cB 2 _ rfl)
      | (go_at_call 39
         refine (HR.out w1 (HB.out.drewd.refKept K1.out)).mono ?_
         rintro e w2 ⟨rfl, v', hr2, hk2⟩
         have F2 := Lib.hid (HB.out.drewd.both D1.out K1.out hr2 hk2 Hroom.out Hnm.out)
         have cB : cellsAt w2 w.heap.size 0 5 = some [.int .i64 5, .int .i64 d.n, .string d.name, .string d.to, .string d.s] := box_far hk2 Hbx.out.2.2 Hbx.out.2.1 (HB.out.drewd.box K1.out HCB.out Hbx.out.1)
         clear hr2 hk2 p2
         have p2 : w2.cell? ⟨w.heap.size, 2, none⟩ = some (.string d.name) := by simpa using cellsAt_cell cB 2 _ rfl))
  all_goals
    go_wp2
    go_ret
    exact ⟨rfl, v', L', is, room', rr', dead', F2.out.1, (((KW.out.drew).mono (T := PQ p b q base) (fun _ _ h => h.elim)).trans F2.out.2 (fun _ _ h => h))⟩

set_option maxRecDepth 100000 in
set_option maxHeartbeats 2000000 in
theorem step_6 (h : Bo w p b q base v L is room rr dead cnt) (d : Deed) (hk : d.k = 6) :
    Calls Try.prog 26 #[dP p, dP q, .agg #[.int .i64 d.k, .int .i64 d.n, .string d.name, .string d.to, .string d.s]] w fun e w' => e = .returned (.bool true) ∧ StepPost w p b q base cnt w' := by
  rw [hk]
  clear hk
  go_enter Try.func26, Try.ntmps26
  go_wp2_with fail
  refine calls_world ?_
  intro W hW
  have KW : Hid (Keeps No w W) := by rw [hW]; exact (Keeps.refl (S := No) w).alloc _
  have cB : cellsAt W w.heap.size 0 5 = some [.int .i64 6, .int .i64 d.n, .string d.name, .string d.to, .string d.s] := by rw [hW]; simp [go_sem]
  have hsz : W.heap.size = w.heap.size + 1 := by rw [hW]; simp
  have hlow : base ≤ w.heap.size := h.r.low
  have HB := Lib.hid (h.no KW.out)
  have hA := crash_any HB.out.d d.n
  rw [fs_crash] at hA
  have HA := Lib.hid hA
  have HR : Hid (∀ w1, RefAt w1 q base v L is rr dead → _) := Lib.hid (fun w1 hr => rcrash_any hr (fun r hr => HB.out.fits hr) d.n)
  have Hnm : Hid (NmB (L.map (crashR d.n))) := by
    intro r hr
    obtain ⟨r0, h0, rfl⟩ := List.mem_map.1 hr
    exact HB.out.nm r0 h0
  have Hroom : Hid (RoomBoth false 4611686018427387904 rr (cnt + 1)) := .inl ⟨rfl, by omega⟩
  have HCB := Lib.hid cB
  have Hlow := Lib.hid hlow
  have p0 : W.cell? ⟨w.heap.size, 0, none⟩ = some (.int .i64 6) := by simpa using cellsAt_cell cB 0 _ rfl
  have p1 : W.cell? ⟨w.heap.size, 1, none⟩ = some (.int .i64 d.n) := by simpa using cellsAt_cell cB 1 _ rfl
  clear h hW cB hsz hlow hA
  refine HA.out.mono ?_
  rintro e w1 ⟨rfl, hd1, hk1⟩
  have D1 := Lib.hid hd1
  have K1 : Hid (Keeps (Two p b) W w1) := hk1
  clear p0 p1
  have p1 : w1.cell? ⟨w.heap.size, 1, none⟩ = some (.int .i64 d.n) := by simpa using cellsAt_cell (HB.out.box K1.out HCB.out Hlow.out) 1 _ rfl
  clear hd1 hk1
  go_wp2_with fail
  refine (HR.out w1 (HB.out.refKept K1.out)).mono ?_
  rintro e w2 ⟨rfl, hr2, hk2⟩
  have F2 := Lib.hid (HB.out.both D1.out K1.out hr2 hk2 Hroom.out Hnm.out)
  clear hr2 hk2 p1
  have c3 := F2.out.1.r.c3
  go_wp2_with fail
  go_quiet (first | (go_at_call 25; refine Calls.quiet_of_same (dead_any (F2.out.1.d.kept ((Keeps.refl (S := No) w2).drewN _) (fun h => h) (fun h => h)))))
  rename_i nq
  go_wp2
  go_ret
  have kd := (Keeps.refl (S := No) w2).drewN nq
  exact ⟨rfl, v, L.map (crashR d.n), false, 4611686018427387904, rr, false, F2.out.1.no kd, (((KW.out.mono (T := PQ p b q base) (fun _ _ h => h.elim)).trans F2.out.2 (fun _ _ h => h))).drewN nq⟩

set_option maxRecDepth 100000 in
set_option maxHeartbeats 2000000 in
theorem step_7 (h : Bo w p b q base v L is room rr dead cnt) (d : Deed) (hk : d.k = 7) (hn : d.n ≤ 9223372036854775807) :
    Calls Try.prog 26 #[dP p, dP q, .agg #[.int .i64 d.k, .int .i64 d.n, .string d.name, .string d.to, .string d.s]] w fun e w' => e = .returned (.bool true) ∧ StepPost w p b q base cnt w' := by
  rw [hk]
  clear hk
  go_enter Try.func26, Try.ntmps26
  go_wp2_with fail
  refine calls_world ?_
  intro W hW
  have KW : Hid (Keeps No w W) := by rw [hW]; exact (Keeps.refl (S := No) w).alloc _
  have cB : cellsAt W w.heap.size 0 5 = some [.int .i64 7, .int .i64 d.n, .string d.name, .string d.to, .string d.s] := by rw [hW]; simp [go_sem]
  have hsz : W.heap.size = w.heap.size + 1 := by rw [hW]; simp
  have hlow : base ≤ w.heap.size := h.r.low
  have HB := Lib.hid (h.no KW.out)
  have hA := cut_any HB.out.d d.n hn
  have HA := Lib.hid hA
  have HR : Hid (∀ w1, RefAt w1 q base v L is rr dead → _) := Lib.hid (fun w1 hr => rcut_any hr d.n)
  have Hnm : Hid (NmB L) := HB.out.nm
  have Hroom : Hid (RoomBoth (bif dead then is else true) (bif dead then room else max 0 d.n) (bif dead then rr else max 0 d.n) (cnt + 1)) := by
    cases dead
    · exact .inr ⟨rfl, rfl⟩
    · exact HB.out.room.up
  have HCB := Lib.hid cB
  have Hlow := Lib.hid hlow
  have p0 : W.cell? ⟨w.heap.size, 0, none⟩ = some (.int .i64 7) := by simpa using cellsAt_cell cB 0 _ rfl
  have p1 : W.cell? ⟨w.heap.size, 1, none⟩ = some (.int .i64 d.n) := by simpa using cellsAt_cell cB 1 _ rfl
  clear h hn hW cB hsz hlow hA
  refine HA.out.mono ?_
  rintro e w1 ⟨rfl, hd1, hk1⟩
  have D1 := Lib.hid hd1
  have K1 : Hid (Keeps (Two p b) W w1) := hk1.mono (fun _ _ h => .inl h)
  clear p0 p1
  have p1 : w1.cell? ⟨w.heap.size, 1, none⟩ = some (.int .i64 d.n) := by simpa using cellsAt_cell (HB.out.box K1.out HCB.out Hlow.out) 1 _ rfl
  clear hd1 hk1
  go_wp2_with fail
  refine (HR.out w1 (HB.out.refKept K1.out)).mono ?_
  rintro e w2 ⟨rfl, hr2, hk2⟩
  have F2 := Lib.hid (HB.out.both D1.out K1.out hr2 (own_to_qs hk2) Hroom.out Hnm.out)
  clear hr2 hk2 p1
  have c3 := F2.out.1.r.c3
  go_wp2_with fail
  go_quiet (first | (go_at_call 25; refine Calls.quiet_of_same (dead_any (F2.out.1.d.kept ((Keeps.refl (S := No) w2).drewN _) (fun h => h) (fun h => h)))))
  rename_i nq
  go_wp2
  go_ret
  have kd := (Keeps.refl (S := No) w2).drewN nq
  exact ⟨rfl, v, L, bif dead then is else true, bif dead then room else max 0 d.n, bif dead then rr else max 0 d.n, dead, F2.out.1.no kd, (((KW.out.mono (T := PQ p b q base) (fun _ _ h => h.elim)).trans F2.out.2 (fun _ _ h => h))).drewN nq⟩

set_option maxRecDepth 100000 in
set_option maxHeartbeats 2000000 in
theorem step_else (h : Bo w p b q base v L is room rr dead cnt) (d : Deed) (h0 : (d.k == 0) = false) (h1 : (d.k == 1) = false) (h2 : (d.k == 2) = false) (h3 : (d.k == 3) = false) (h4 : (d.k == 4) = false) (h5 : (d.k == 5) = false) (h6 : (d.k == 6) = false) (h7 : (d.k == 7) = false) :
    Calls Try.prog 26 #[dP p, dP q, .agg #[.int .i64 d.k, .int .i64 d.n, .string d.name, .string d.to, .string d.s]] w fun e w' => e = .returned (.bool true) ∧ StepPost w p b q base cnt w' := by
  go_enter Try.func26, Try.ntmps26
  go_wp2_with fail
  refine wp_world ?_
  intro W hW
  have KW : Hid (Keeps No w W) := by rw [hW]; exact (Keeps.refl (S := No) w).alloc _
  have p0 : W.cell? ⟨w.heap.size, 0, none⟩ = some (.int .i64 d.k) := by rw [hW]; simp [go_sem]
  have F2 := Lib.hid (h.no KW.out)
  have c3 := F2.out.r.c3
  clear h hW
  go_wp2_with fail
  go_quiet (first | (go_at_call 25; refine Calls.quiet_of_same (dead_any (F2.out.d.kept ((Keeps.refl (S := No) W).drewN _) (fun h => h) (fun h => h)))))
  rename_i nq
  go_wp2
  go_ret
  have kd := (Keeps.refl (S := No) W).drewN nq
  have hF := F2.out.no kd
  exact ⟨rfl, v, L, is, room, rr, dead, ⟨hF.d, hF.r, hF.hp, hF.hb, hF.pq, hF.bq, hF.room.up, hF.nm⟩, ((KW.out.mono (T := PQ p b q base) (fun _ _ h => h.elim))).drewN nq⟩

theorem step_any (h : Bo w p b q base v L is room rr dead cnt) (d : Deed) (hw : DeedWf d) (hs : d.s.size ≤ 5000) (hc : cnt ≤ 1000) :
    Calls Try.prog 26 #[dP p, dP q, .agg #[.int .i64 d.k, .int .i64 d.n, .string d.name, .string d.to, .string d.s]] w fun e w' => e = .returned (.bool true) ∧ StepPost w p b q base cnt w' := by
  have hnn : -9223372036854775808 ≤ d.n ∧ d.n ≤ 9223372036854775807 := by simpa [Lit.wf, IntKind.min, IntKind.max, IntKind.signed, IntKind.bits] using hw.n
  have hn := hnn.2
  by_cases h0 : d.k = 0
  · exact step_0 h d h0 hs hc
  by_cases h1 : d.k = 1
  · exact step_1 h d h1 hs hc
  by_cases h2 : d.k = 2
  · exact step_2 h d h2
  by_cases h3 : d.k = 3
  · exact step_3 h d h3
  by_cases h4 : d.k = 4
  · exact step_4 h d h4
  by_cases h5 : d.k = 5
  · exact step_5 h d h5
  by_cases h6 : d.k = 6
  · exact step_6 h d h6
  by_cases h7 : d.k = 7
  · exact step_7 h d h7 hn
  exact step_else h d (beq_false_of_ne h0) (beq_false_of_ne h1) (beq_false_of_ne h2) (beq_false_of_ne h3) (beq_false_of_ne h4) (beq_false_of_ne h5) (beq_false_of_ne h6) (beq_false_of_ne h7)
end
end Go.Proofs.Ytdckdndjddflfaa
