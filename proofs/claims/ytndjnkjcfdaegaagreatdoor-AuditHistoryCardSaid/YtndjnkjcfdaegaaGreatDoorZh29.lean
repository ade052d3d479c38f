/-
  Texts in one: LgL, LgM, LgN, LgO, LgP. No conditions of their own.
-/
import Derived.Test.YtndjnkjcfdaegaaGreatDoorZh24
import Derived.Test.YtndjnkjcfdaegaaGreatDoorZh28
import Derived.Test.YtndjnkjcfdaegaaGreatDoorZh22
set_option linter.all false

/-
  A desk, in memory; its methods that hand on to the pool. No conditions of their own.
-/
namespace Go.Proofs.YtndjnkjcfdaegaaGreatDoor
open Go.RowKit Go.Shelf Go.Sort Go.Joins Go.Deep

abbrev deskT : TypeId := 107
abbrev cmdT : TypeId := 40
/-- a desk's place in memory: its box, its map, its pool with its row and its shards, the row of what waits -/
structure Dp where
  d : Nat
  m : Nat
  p : Nat
  g : Nat
  R : List Rp
  q : Value
/-- the blocks of a desk that it writes -/
def DeskS (D : Dp) : Nat → Prop := fun i => i = D.d ∨ PoolS D.p D.g D.R i ∨ D.q.ownBlock = some i
/-- THE DESK AT D. -/
structure DeskAt (w : World) (base : Nat) (D : Dp) (k : Dk) : Prop where
  box : w.heap[D.d]? = some (.cells #[dP D.m, dP D.p, D.q, .int .i64 k.t, .bool k.o] deskT (0, 0))
  map : cellsAt w D.m 0 11 = some (zmC k.z)
  pool : PoolAt w base D.p D.g D.R k.pl
  q : OwnOf cCm cmdT w base D.q k.q
  nm : ¬ DeskS D D.m
  bd : base ≤ D.d
  ok : k.ok
theorem cellsAt_kept {S : Nat → Prop} {w w' : World} (k : Keeps S w w') {b o n : Nat} {l : List Value} (hc : cellsAt w b o n = some l) (hb : ¬ S b) : cellsAt w' b o n = some l := by
  have hlt : b < w.heap.size := by
    unfold cellsAt at hc
    split at hc
    · rename_i hh
      exact (Array.getElem?_eq_some_iff.1 hh).1
    · cases hc
  unfold cellsAt at hc ⊢
  rw [k.block b hlt hb]
  exact hc
theorem cellsAt_block {w : World} {b o n : Nat} {l : List Value} (hc : cellsAt w b o n = some l) : b < w.heap.size := by
  unfold cellsAt at hc
  split at hc
  · rename_i hh
    exact (Array.getElem?_eq_some_iff.1 hh).1
  · cases hc
theorem OwnOf.block {α : Type} {C : Codec α} {e : TypeId} {w : World} {b : Nat} {v : Value} {l : List α} (h : OwnOf C e w b v l) {i : Nat} (hi : v.ownBlock = some i) : ∃ cur : Array Value, w.heap[i]? = some (.cells cur e (0, 0)) ∧ b ≤ i := by
  rcases h.2 with ⟨rfl, _⟩ | ⟨g, cap, cur, rfl, hb, hh, _⟩
  · cases hi
  · simp only [Value.ownBlock, Option.some.injEq] at hi
    subst hi
    exact ⟨cur, hh, hb⟩
section
variable {w w' : World} {base : Nat} {D : Dp} {k : Dk} {S : Nat → Prop}
theorem DeskAt.kept (h : DeskAt w base D k) (hk : Keeps S w w') (hS : ∀ i, DeskS D i → ¬ S i) (hm : ¬ S D.m) : DeskAt w' base D k :=
  ⟨hk.heap h.box (hS _ (.inl rfl)), cellsAt_kept hk h.map hm, h.pool.kept hk (fun i hi => hS i (.inr (.inl hi))), hk.owns h.q (fun i hi => hS i (.inr (.inr hi))), h.nm, h.bd, h.ok⟩
theorem DeskAt.no (h : DeskAt w base D k) (hk : Keeps No w w') : DeskAt w' base D k := h.kept hk (fun _ _ h => h) (fun h => h)
theorem DeskAt.lt (h : DeskAt w base D k) {i : Nat} (hi : DeskS D i) : i < w.heap.size := by
  rcases hi with rfl | hi | hi
  · exact (Array.getElem?_eq_some_iff.1 h.box).1
  · exact h.pool.lt hi
  · exact (h.q.lt i hi).2
theorem DeskAt.le (h : DeskAt w base D k) {i : Nat} (hi : DeskS D i) : base ≤ i := by
  rcases hi with rfl | hi | hi
  · exact h.bd
  · exact h.pool.le hi
  · exact (h.q.lt i hi).1
/-- the desk's box lies elsewhere than the pool's blocks and the row of what waits -/
theorem DeskAt.box_pool (h : DeskAt w base D k) : ¬ PoolS D.p D.g D.R D.d := by
  rintro (e | e | ⟨r, hr, e⟩)
  · exact heap_types h.box h.pool.box (by decide) e
  · exact heap_types h.box h.pool.row (by decide) e
  · obtain ⟨j, s, _, _, hs⟩ := h.pool.placed hr
    rcases e with e | e
    · exact heap_types h.box hs.all (by decide) e
    · obtain ⟨cur, hf, _⟩ := hs.fblock
      exact heap_types h.box hf (by decide) e
theorem DeskAt.q_pool (h : DeskAt w base D k) : ∀ i, D.q.ownBlock = some i → ¬ PoolS D.p D.g D.R i := by
  intro i hi
  obtain ⟨cur, hc, _⟩ := h.q.block hi
  rintro (e | e | ⟨r, hr, e⟩)
  · exact heap_types hc h.pool.box (by decide) e
  · exact heap_types hc h.pool.row (by decide) e
  · obtain ⟨j, s, _, _, hs⟩ := h.pool.placed hr
    rcases e with e | e
    · exact heap_types hc hs.all (by decide) e
    · obtain ⟨cur, hf, _⟩ := hs.fblock
      exact heap_types hc hf (by decide) e
theorem DeskAt.q_box (h : DeskAt w base D k) : ∀ i, D.q.ownBlock = some i → ¬ i = D.d := by
  intro i hi e
  obtain ⟨cur, hc, _⟩ := h.q.block hi
  exact heap_types hc h.box (by decide) e
/-- the pool is another one -/
theorem DeskAt.pooled (h : DeskAt w base D k) {R' : List Rp} {pl' : Pl} (hp : PoolAt w' base D.p D.g R' pl') (hk : Keeps (PoolS D.p D.g D.R) w w') (hn : ∀ i, PoolS D.p D.g R' i → PoolS D.p D.g D.R i ∨ w.heap.size ≤ i) (ok : (⟨k.z, pl', k.q, k.t, k.o⟩ : Dk).ok) :
    DeskAt w' base ⟨D.d, D.m, D.p, D.g, R', D.q⟩ ⟨k.z, pl', k.q, k.t, k.o⟩ ∧ Keeps (DeskS D) w w' ∧ ∀ i, DeskS ⟨D.d, D.m, D.p, D.g, R', D.q⟩ i → DeskS D i ∨ w.heap.size ≤ i := by
  refine ⟨⟨hk.heap h.box h.box_pool, cellsAt_kept hk h.map (fun e => h.nm (.inr (.inl e))), hp, hk.owns h.q h.q_pool, fun e => ?_, h.bd, ok⟩, hk.mono (fun i _ e => .inr (.inl e)), fun i hi => ?_⟩
  · rcases e with e | e | e
    · exact h.nm (.inl e)
    · rcases hn _ e with e | e
      · exact h.nm (.inr (.inl e))
      · have := cellsAt_block h.map
        simp only at e
        omega
    · exact h.nm (.inr (.inr e))
  · rcases hi with e | e | e
    · exact .inl (.inl e)
    · rcases hn _ e with e | e
      · exact .inl (.inr (.inl e))
      · exact .inr e
    · exact .inl (.inr (.inr e))
theorem DeskAt.cells (h : DeskAt w base D k) : w.cell? ⟨D.d, 0, none⟩ = some (dP D.m) ∧ w.cell? ⟨D.d, 1, none⟩ = some (dP D.p) ∧ w.cell? ⟨D.d, 2, none⟩ = some D.q ∧ w.cell? ⟨D.d, 3, none⟩ = some (.int .i64 k.t) ∧ w.cell? ⟨D.d, 4, none⟩ = some (.bool k.o) := by
  refine ⟨?_, ?_, ?_, ?_, ?_⟩ <;> · rw [cell_of_row _ _ _ _ _ _ h.box]; rfl
/-- what a method that turns the desk leaves -/
def DeskPost (w : World) (base : Nat) (D : Dp) (k' : Dk) (w' : World) : Prop := ∃ D', DeskAt w' base D' k' ∧ Keeps (DeskS D) w w' ∧ (∀ i, DeskS D' i → DeskS D i ∨ w.heap.size ≤ i) ∧ D'.d = D.d ∧ D'.m = D.m
theorem DeskPost.refl (h : DeskAt w base D k) : DeskPost w base D k w := ⟨D, h, Keeps.refl _, fun _ hi => .inl hi, rfl, rfl⟩
set_option maxRecDepth 100000 in
theorem deskTick_any (h : DeskAt w base D k) : Calls Tryz.prog 26 #[dP D.d] w fun e w' => e = .returned (.tuple #[.int .i64 k.t, .bool k.o]) ∧ Keeps No w w' := by
  obtain ⟨_, _, _, c3, c4⟩ := h.cells
  clear h
  go_enter Tryz.func26, Tryz.ntmps26
  go_wp2_with fail
  go_region
  all_goals go_wp2
  all_goals go_ret2
  all_goals exact ⟨rfl, (Keeps.refl _).drew⟩
set_option maxRecDepth 100000 in
theorem deskReserve_any (h : DeskAt w base D k) (a i : Int) : Calls Tryz.prog 54 #[dP D.d, .int .i64 a, .int .i64 i] w fun e w' => e = .returned (.int .i64 (reserveP k.pl a i).1) ∧ DeskPost w base D ⟨k.z, (reserveP k.pl a i).2, k.q, k.t, k.o⟩ w' := by
  obtain ⟨_, c1, _, _, _⟩ := h.cells
  have C := Lib.hid (poolReserve_any h.pool a i)
  have H := Lib.hid h
  clear h
  go_enter Tryz.func54, Tryz.ntmps54
  go_wp2_with fail
  (with_reducible refine C.out.mono ?_)
  rintro e w1 ⟨rfl, hp, hk⟩
  have PP := Lib.hid (And.intro hp hk)
  clear hp hk
  go_wp2
  go_ret
  have ok := H.out.ok
  have hpl : (reserveP k.pl a i).2.length = k.pl.length := by
    unfold reserveP
    split
    · rfl
    · split
      · rfl
      · rename_i x _
        cases decide (x.b = 1048576) <;> simp [plPut]
  obtain ⟨z1, z2, z3⟩ := H.out.pooled (R' := D.R) PP.out.1 PP.out.2 (fun i hi => .inl hi) ⟨ok.z, ok.pl.reserve a i, by simp only; rw [hpl]; exact ok.pn, ok.q, ok.t0, ok.t1⟩
  exact ⟨rfl, _, z1, z2, z3, rfl, rfl⟩
set_option maxRecDepth 100000 in
theorem deskLapse_any (h : DeskAt w base D k) : Calls Tryz.prog 53 #[dP D.d] w fun e w' => (∃ n : Int, e = .returned (.int .i64 n)) ∧ DeskPost w base D ⟨k.z, lapseP k.pl, k.q, k.t, k.o⟩ w' := by
  obtain ⟨_, c1, _, _, _⟩ := h.cells
  have C := Lib.hid (poolLapse_any h.pool)
  have H := Lib.hid h
  clear h
  go_enter Tryz.func53, Tryz.ntmps53
  go_wp2_with fail
  (with_reducible refine C.out.mono ?_)
  rintro e w1 ⟨⟨n, rfl⟩, hp, hk⟩
  have PP := Lib.hid (And.intro hp hk)
  clear hp hk
  go_wp2
  go_ret
  have ok := H.out.ok
  obtain ⟨z1, z2, z3⟩ := H.out.pooled (R' := D.R) PP.out.1 PP.out.2 (fun i hi => .inl hi) ⟨ok.z, ok.pl.lapse, by simp only [lapseP, List.length_map]; exact ok.pn, ok.q, ok.t0, ok.t1⟩
  exact ⟨⟨n, rfl⟩, _, z1, z2, z3, rfl, rfl⟩
end
end Go.Proofs.YtndjnkjcfdaegaaGreatDoor

/-
  A desk: what waits, how a tick is opened; desk.New. No conditions of their own.
-/
namespace Go.Proofs.YtndjnkjcfdaegaaGreatDoor
open Go.RowKit Go.Shelf Go.Sort Go.Joins Go.Deep

theorem Tryz.infoCm : (Tryz.prog.info? 40).map (fun i => (i.zero, i.size, i.bytes)) = some (some (.agg (cmC Cm.zero).toArray), 16, 128) := by kernel_rfl
theorem cloneCm (w : World) (v : Value) (l : List Cm) (hr : RdOf cCm w v l) (hl : l.length ≤ 100000) :
    Calls Tryz.prog 69 #[v] w fun e w' => ∃ v', e = .returned v' ∧ OwnOf cCm cmdT w' w.heap.size v' l ∧ Keeps No w w' := by
  obtain ⟨i0, hi, hz0, hz1, hz2⟩ := info_parts Tryz.infoCm
  rcases hr.shape with ⟨rfl, hn⟩ | ⟨a, c, rfl, hc, hcm, hcell⟩
  · have hnil : l = [] := List.eq_nil_of_length_eq_zero hn
    subst hnil
    go_enter Tryz.func69, Tryz.ntmps69
    have hnil : ∀ w, (binOp .eql 33 (.slice none 0 0) (.slice none 0 0)).run Tryz.prog w = .ok (.bool true) w := fun w => by kernel_rfl
    go_wp2
    go_ret
    exact ⟨_, rfl, World.ownsRow_nil _ _ _ _, Keeps.refl _⟩
  · clear hcell
    have hnn : ∀ w, (binOp .eql 33 (.slice (some a) l.length c) (.slice none 0 0)).run Tryz.prog w = .ok (.bool false) w := fun w => Lib.run_eql_slice_nil w _ 40 _ _ _ _ _ Tryz.underlying33
    have hr' : Reads (w.alloc (.cells #[] 40)) 16 (.slice (some a) l.length c) l.length (rowsOf cCm l) := hr.kept ((Keeps.refl (S := No) w).alloc _) (fun _ _ h => h)
    have hlit : (w.alloc (.cells #[] 40)).ownsRow w.heap.size 40 16 (.slice (some ⟨w.heap.size, 0, none⟩) 0 0) 0 [] := World.ownsRow_lit w #[] 0 (Nat.le_refl _) (Nat.zero_le _) rfl
    have Hl := Lib.hid hl; clear hl
    go_enter Tryz.func69, Tryz.ntmps69
    go_wp2_with (at_builtin; refine wpList_append_reads rfl (.tmp 5) (.tmp 6) 33 rfl w.heap.size 40 i0 _ 16 128 Tryz.underlying33 hi hz0 hz1 hz2 rfl (by decide) _ 0 [] rfl hlit _ _ _ rfl hr' ?c1 ?c2 ?c3 ?c4)
    case c1 => have := Hl.out; unfold maxLen; omega
    case c2 => have := Hl.out; omega
    case c3 => simp
    case c4 =>
      intro v' w1 hown hk _ _
      go_wp2
      go_ret
      refine ⟨_, rfl, hown, ((Keeps.refl (S := No) w).alloc _).trans hk (fun i hi h => ?_)⟩
      simp [Of, Value.ownBlock] at h
      omega
theorem OwnOf.reads' {α : Type} {C : Codec α} {e : TypeId} {w : World} {b : Nat} {v : Value} {l : List α} (h : OwnOf C e w b v l) : RdOf C w v l := Reads.ofOwn h (rowsOf_ones C l)
section
variable {w w' : World} {base : Nat} {D : Dp} {k : Dk} {S : Nat → Prop}
theorem Dk.ok.few (h : k.ok) : k.q.length ≤ 64 := by
  have h1 := h.q
  have h2 := zfOk_ok h.z
  have h3 := h.z
  unfold zfOk okI at h3
  simp only [Bool.and_eq_true, decide_eq_true_eq] at h3
  omega
theorem run_eqlNam (a b : Nam) (W : World) : (binOp .eql 36 (namV a) (namV b)).run Tryz.prog W = .ok (.bool (neq a b)) W := by
  obtain ⟨a0, a1, a2⟩ := a
  obtain ⟨b0, b1, b2⟩ := b
  simp only [neq]
  simp [go_sem]
  simp only [ite_ok, Bool.and_true]
/-- does a command end the entity whose name lies at B? -/
theorem endsClos_any (W : World) (B : Nat) (a : Nam) (c : Cm) (hB : cellsAt W B 0 3 = some (namC a)) : Calls Tryz.prog 115 #[cmV c, .pointer (some ⟨B, 0, none⟩)] W fun e w' => e = .returned (.bool (endsOf a c)) ∧ Keeps No W w' := by
  have hlt := cellsAt_block hB
  have e1 := fun W' => run_eqlNam c.id a W'
  obtain ⟨T, hT⟩ : ∃ b, b = neq c.id a := ⟨_, rfl⟩
  rw [← hT] at e1
  have HT := Lib.hid hT
  clear hT
  have CC : cellsAt (W.alloc (.cells (cmC c).toArray 40)) W.heap.size 0 16 = some (cmC c) := by simp [go_sem]
  have CI : Hid (cellsAt (W.alloc (.cells (cmC c).toArray 40)) W.heap.size 1 3 = some (namC c.id)) := Lib.hid (cellsAt_part CC 1 (namC c.id) rfl (by simp))
  clear CC
  have HE : Hid (endsOf a c = (decide (c.k = 2) && T)) := Lib.hid (by rw [HT.out]; rfl)
  obtain ⟨E, hE⟩ : ∃ b, b = endsOf a c := ⟨_, rfl⟩
  rw [← hE] at HE ⊢
  clear hE HT
  go_enter Tryz.func115, Tryz.ntmps115
  go_upto_region 1 with fail
  refine wp_world ?_
  intro W1 hW1
  have KW : Hid (Keeps No W W1) := Lib.hid (by rw [hW1]; exact (Keeps.refl W).alloc _)
  have k0 : W1.cell? ⟨W.heap.size, 0, none⟩ = some (.int .i64 c.k) := by rw [hW1]; simp [go_sem]
  have k1 : cellsAt W1 W.heap.size 1 3 = some (namC c.id) := by rw [hW1]; exact CI.out
  have k2 := KW.out.cellsAt hB
  clear hW1 CI hB hlt
  by_cases h2 : c.k = 2
  · have b2 : (c.k == 2) = true := by rw [h2]; rfl
    rw [decide_eq_true h2, Bool.true_and] at HE
    clear h2
    go_wp2
    go_ret
    exact ⟨by rw [HE.out]; rfl, KW.out⟩
  · have b2 : (c.k == 2) = false := beq_eq_false_iff_ne.2 h2
    rw [decide_eq_false h2, Bool.false_and] at HE
    clear h2
    go_wp2
    go_ret
    exact ⟨by rw [HE.out]; rfl, KW.out⟩
abbrev endsF (B : Nat) : Value := .func (.func 115) #[] #[.pointer (some ⟨B, 0, none⟩)]
set_option maxRecDepth 100000 in
set_option maxHeartbeats 2000000 in
theorem idxEnds_any (w : World) (v : Value) (l : List Cm) (hv : RdOf cCm w v l) (hl : l.length ≤ 100000) (B : Nat) (a : Nam) (hB : cellsAt w B 0 3 = some (namC a)) :
    Calls Tryz.prog 160 #[v, endsF B] w fun e w' => e = .returned (.int .i64 (firstOf (endsOf a) l)) ∧ Keeps No w w' := by
  obtain ⟨va, vc, rfl⟩ := hv.slice
  have HV := Lib.hid hv
  have HBB := Lib.hid hB
  have hl1 : (l.length : Int) ≤ 100000 := by omega
  clear hv hB
  go_enter Tryz.func160, Tryz.ntmps160
  go_wp2
  go_loopw [8] (fun q wr => ∃ n : Nat, n ≤ l.length ∧ q = .int .i64 n ∧ (∀ j, (h : j < n) → (h2 : j < l.length) → endsOf a l[j] = false) ∧ Keeps No w wr) (fun q _ => l.length - (intOf q).toNat)
  case atStart => exact ⟨0, Nat.zero_le _, rfl, fun j h => absurd h (Nat.not_lt_zero _), Keeps.refl _⟩
  case round =>
    obtain ⟨n, hn, rfl, hno, hK⟩ := hrel
    have KJ := Lib.hid hK
    have HNO := Lib.hid hno
    have hn0 : (0 : Int) ≤ (n : Int) := by omega
    by_cases hlt : n < l.length
    · have hni : (n : Int) < (l.length : Int) := by omega
      have hrr : RdOf cCm wr (.slice va l.length vc) l := HV.out.kept hK (fun _ _ h => h)
      obtain ⟨g, off, rfl, _, _, _⟩ := RdOf.addr cCm hrr (by omega)
      have cr : cellsAt wr g (off + n * 16) 16 = some (cmC l[n]) := RdOf.at cCm hrr n hlt
      obtain ⟨c, hc⟩ : ∃ c, c = l[n] := ⟨_, rfl⟩
      rw [← hc] at cr
      have CP := Lib.hid (endsClos_any wr B a c (hK.cellsAt HBB.out))
      obtain ⟨T, hT⟩ : ∃ b, b = endsOf a c := ⟨_, rfl⟩
      rw [← hT] at CP
      have HT := Lib.hid (And.intro hT hc)
      clear hrr hc hK hT hno
      go_wp2_with fail
      (with_reducible refine CP.out.mono ?_)
      rintro e w3 ⟨rfl, hk3⟩
      have K3 : Hid (Keeps No w w3) := Lib.hid (KJ.out.trans hk3 (fun _ _ h => h))
      clear hk3 cr
      cases T with
      | true =>
        have HF : Hid (firstOf (endsOf a) l = (n : Int)) := Lib.hid (firstOf_at _ _ n hlt HNO.out (by rw [← HT.out.2, ← HT.out.1]))
        go_wp2
        go_ret
        exact ⟨by rw [HF.out]; rfl, K3.out⟩
      | false =>
        go_wp2
        go_roundw
        case rel =>
          refine ⟨n + 1, by omega, by go_num, fun j hj h2 => ?_, K3.out⟩
          rcases Nat.lt_succ_iff_lt_or_eq.1 hj with h | h
          · exact HNO.out j h h2
          · subst h
            rw [← HT.out.2, ← HT.out.1]
        case measure => simp [intOf]; omega
    · have HF : Hid (firstOf (endsOf a) l = -1) := Lib.hid (firstOf_none _ _ (fun j h2 => HNO.out j (by omega) h2))
      have hni : ¬ ((n : Int) < (l.length : Int)) := by omega
      clear hK hno
      go_wp2
      go_ret
      exact ⟨by rw [HF.out]; rfl, KJ.out⟩
theorem anyEnds_any (w : World) (v : Value) (l : List Cm) (hv : RdOf cCm w v l) (hl : l.length ≤ 100000) (B : Nat) (a : Nam) (hB : cellsAt w B 0 3 = some (namC a)) :
    Calls Tryz.prog 114 #[v, endsF B] w fun e w' => e = .returned (.bool (waitsQ l a)) ∧ Keeps No w w' := by
  obtain ⟨va, vc, rfl⟩ := hv.slice
  have C := Lib.hid (idxEnds_any w _ l hv hl B a hB)
  rcases firstOf_cases (endsOf a) l with ⟨hf, hall⟩ | ⟨n, hf, hn, hp, _⟩
  · have hw : waitsQ l a = false := by
      unfold waitsQ
      rw [List.any_eq_false]
      intro c hc
      rw [hall c hc]
      decide
    rw [hw]
    rw [hf] at C
    clear hv hf hall hw hB
    go_enter Tryz.func114, Tryz.ntmps114
    go_wp2_with fail
    (with_reducible refine C.out.mono ?_)
    rintro e w1 ⟨rfl, hk⟩
    go_wp2
    go_ret
    exact ⟨rfl, hk⟩
  · have hw : waitsQ l a = true := by
      unfold waitsQ
      rw [List.any_eq_true]
      exact ⟨_, List.getElem_mem hn, hp⟩
    rw [hw]
    rw [hf] at C
    have h0 : (0 : Int) ≤ (n : Int) := by omega
    clear hv hf hp hw hB hn
    go_enter Tryz.func114, Tryz.ntmps114
    go_wp2_with fail
    (with_reducible refine C.out.mono ?_)
    rintro e w1 ⟨rfl, hk⟩
    go_wp2
    go_ret
    exact ⟨rfl, hk⟩
set_option maxRecDepth 100000 in
theorem deskWaits_any (h : DeskAt w base D k) (a : Nam) : Calls Tryz.prog 64 #[dP D.d, namV a] w fun e w' => e = .returned (.bool (waitsQ k.q a)) ∧ Keeps No w w' := by
  have C := Lib.hid (fun (W : World) (q : Keeps No w W) (hB : cellsAt W w.heap.size 0 3 = some (namC a)) => anyEnds_any W D.q k.q (h.no q).q.reads' (by have := h.ok.few; omega) w.heap.size a hB)
  obtain ⟨_, _, c2, _, _⟩ := h.cells
  have ld := h.lt (i := D.d) (.inl rfl)
  clear h
  go_enter Tryz.func64, Tryz.ntmps64
  go_wp2_with fail
  (with_reducible refine (C.out _ ((Keeps.refl w).alloc _) (by simp [go_sem])).mono ?_)
  rintro e w1 ⟨rfl, hk⟩
  have K1 : Hid (Keeps No w w1) := Lib.hid (((Keeps.refl w).alloc _).trans hk (fun _ _ h => h))
  clear hk C
  go_wp2
  go_ret
  exact ⟨rfl, K1.out⟩
/-- what waits is the tick's: nothing waits any more -/
theorem DeskAt.emptied (h : DeskAt w base D k) (hk : Keeps (Own D.d) w w') (hb : w'.heap[D.d]? = some (.cells #[dP D.m, dP D.p, .slice none 0 0, .int .i64 (k.t + 1), .bool true] deskT (0, 0))) (ht : k.t < 1099511627776) :
    DeskAt w' base ⟨D.d, D.m, D.p, D.g, D.R, .slice none 0 0⟩ ⟨k.z, k.pl, [], k.t + 1, true⟩ ∧ ∀ i, DeskS ⟨D.d, D.m, D.p, D.g, D.R, .slice none 0 0⟩ i → DeskS D i := by
  have ok := h.ok
  refine ⟨⟨hb, cellsAt_kept hk h.map (fun e => h.nm (.inl e)), h.pool.kept hk (fun i hi e => h.box_pool (by have e : i = D.d := e; exact e ▸ hi)), World.ownsRow_nil _ _ _ _, fun e => ?_, h.bd, ⟨ok.z, ok.pl, ok.pn, ?_, ?_, ?_⟩⟩, fun i hi => ?_⟩
  · rcases e with e | e | e
    · exact h.nm (.inl e)
    · exact h.nm (.inr (.inl e))
    · cases e
  · have h3 := ok.z
    unfold zfOk okI at h3
    simp only [Bool.and_eq_true, decide_eq_true_eq] at h3
    simp
    omega
  · have := ok.t0
    simp only
    omega
  · simp only
    omega
  · rcases hi with e | e | e
    · exact .inl e
    · exact .inr (.inl e)
    · cases e
def DeskOpen (w : World) (base : Nat) (D : Dp) (x : Int × List Cm × Int × Dk) (e : Ending) (w' : World) : Prop :=
  ∃ D' v, e = .returned (.tuple #[.int .i64 x.1, v, .int .i64 x.2.2.1]) ∧ DeskAt w' base D' x.2.2.2 ∧ OwnOf cCm cmdT w' base v x.2.1 ∧ (∀ i, v.ownBlock = some i → DeskS D i ∧ ¬ DeskS D' i) ∧ Keeps (DeskS D) w w' ∧ (∀ i, DeskS D' i → DeskS D i ∨ w.heap.size ≤ i) ∧ D'.d = D.d ∧ D'.m = D.m
set_option maxRecDepth 100000 in
set_option maxHeartbeats 1000000 in
theorem deskOpen_any (h : DeskAt w base D k) : Calls Tryz.prog 56 #[dP D.d] w (DeskOpen w base D (openD k)) := by
  obtain ⟨_, _, c2, c3, c4⟩ := h.cells
  obtain ⟨qa, qc, hq⟩ := ownsRow_slice h.q
  rw [hq] at c2
  obtain ⟨E, hE⟩ : ∃ x, x = openD k := ⟨_, rfl⟩
  rw [← hE]
  unfold openD at hE
  have f2 : w.frozen? ⟨D.d, 2, none⟩ = false := frozen_of_row _ _ _ _ _ h.box
  have f3 : w.frozen? ⟨D.d, 3, none⟩ = false := frozen_of_row _ _ _ _ _ h.box
  have f4 : w.frozen? ⟨D.d, 4, none⟩ = false := frozen_of_row _ _ _ _ _ h.box
  have t0 := h.ok.t0
  have t1 := h.ok.t1
  have H := Lib.hid h
  have HQ := Lib.hid hq
  have HE := Lib.hid hE
  clear h hq hE
  obtain ⟨O, hO⟩ : ∃ b, b = k.o := ⟨_, rfl⟩
  rw [← hO] at c4 HE
  have HO := Lib.hid hO
  clear hO
  cases O
  case true =>
    have HE2 : Hid (E = (0, [], 14, k)) := Lib.hid (by rw [HE.out]; rfl)
    go_enter Tryz.func56, Tryz.ntmps56
    go_wp2
    go_ret3
    exact ⟨D, .slice none 0 0, by rw [HE2.out]; rfl, by rw [HE2.out]; exact H.out, by rw [HE2.out]; exact World.ownsRow_nil _ _ _ _, (fun i hi => by cases hi), Keeps.refl _, fun i hi => .inl hi, rfl, rfl⟩
  by_cases ht : 1099511627776 ≤ k.t
  · have HE2 : Hid (E = (0, [], 14, k)) := Lib.hid (by rw [HE.out, decide_eq_true ht]; rfl)
    go_enter Tryz.func56, Tryz.ntmps56
    go_wp2
    go_ret3
    exact ⟨D, .slice none 0 0, by rw [HE2.out]; rfl, by rw [HE2.out]; exact H.out, by rw [HE2.out]; exact World.ownsRow_nil _ _ _ _, (fun i hi => by cases hi), Keeps.refl _, fun i hi => .inl hi, rfl, rfl⟩
  · have HE2 : Hid (E = (k.t + 1, k.q, 0, ⟨k.z, k.pl, [], k.t + 1, true⟩)) := Lib.hid (by rw [HE.out, decide_eq_false ht]; rfl)
    go_enter Tryz.func56, Tryz.ntmps56
    go_wp2
    go_ret3
    obtain ⟨X, hX⟩ : ∃ X, X = ((w.setCell ⟨D.d, 2, none⟩ (.slice none 0 0)).setCell ⟨D.d, 4, none⟩ (.bool true)).setCell ⟨D.d, 3, none⟩ (.int .i64 (k.t + 1)) := ⟨_, rfl⟩
    have hk : Keeps (Own D.d) w X := by rw [hX]; exact ((keepsCell _ _ _ _).trans (keepsCell _ _ _ _) (fun _ _ h => h)).trans (keepsCell _ _ _ _) (fun _ _ h => h)
    have hb : X.heap[D.d]? = some (.cells #[dP D.m, dP D.p, .slice none 0 0, .int .i64 (k.t + 1), .bool true] deskT (0, 0)) := by rw [hX]; exact heap_setCell_at (heap_setCell_at (heap_setCell_at H.out.box _) _) _
    obtain ⟨z1, z2⟩ := H.out.emptied hk hb (by omega)
    have hq := hk.owns H.out.q (fun i hi e => H.out.q_box i hi e)
    rw [← hX]
    refine ⟨_, D.q, by rw [HE2.out, HQ.out]; rfl, by rw [HE2.out]; exact z1, by rw [HE2.out]; exact hq, fun i hi => ⟨.inr (.inr hi), fun e => ?_⟩, hk.mono (fun i _ e => .inl e), fun i hi => .inl (z2 i hi), rfl, rfl⟩
    rcases e with e | e | e
    · exact H.out.q_box i hi e
    · exact H.out.q_pool i hi e
    · cases e
end
end Go.Proofs.YtndjnkjcfdaegaaGreatDoor

/-
  A desk: a tick is closed; desk.New. No conditions of their own.
-/
namespace Go.Proofs.YtndjnkjcfdaegaaGreatDoor
open Go.RowKit Go.Shelf Go.Sort Go.Joins Go.Deep

theorem freeAll_snoc (p : Pl) (l : List Nam) (a : Nam) : freeAll p (l ++ [a]) = (freeP (freeAll p l) a).2 := by simp [freeAll]
theorem freeN_snoc : ∀ (p : Pl) (l : List Nam) (a : Nam), freeN p (l ++ [a]) = freeN p l + bif decide ((freeP (freeAll p l) a).1 = 0) then 1 else 0
  | p, [], a => by
    show (bif decide ((freeP p a).1 = 0) then 1 else 0) + 0 = 0 + _
    rw [Nat.add_zero, Nat.zero_add]
    rfl
  | p, b :: l, a => by
    show freeN p (b :: (l ++ [a])) = _
    rw [freeN, freeN_snoc, freeN, Nat.add_assoc]
    rfl
theorem freeN_le : ∀ (p : Pl) (l : List Nam), freeN p l ≤ l.length
  | _, [] => Nat.le_refl _
  | p, a :: l => by
    rw [freeN, List.length_cons]
    have := freeN_le (freeP p a).2 l
    cases decide ((freeP p a).1 = 0)
    · rw [cond_false]; omega
    · rw [cond_true]; omega
theorem freeP_length (p : Pl) (a : Nam) : (freeP p a).2.length = p.length := by
  unfold freeP
  split
  · rfl
  · split
    · rfl
    · simp [plPut]
theorem freeAll_length (l : List Nam) : ∀ p : Pl, (freeAll p l).length = p.length := by
  induction l with
  | nil => intro p; rfl
  | cons a l ih => intro p; show (freeAll (freeP p a).2 l).length = _; rw [ih, freeP_length]
theorem freeAll_ok (l : List Nam) : ∀ p : Pl, plOk p → plOk (freeAll p l) := by
  induction l with
  | nil => intro p h; exact h
  | cons a l ih => intro p h; exact ih _ (h.free a)
section
variable {w w' : World} {base : Nat} {D : Dp} {k : Dk} {S : Nat → Prop}
theorem DeskAt.flag (h : DeskAt w base D k) (o : Bool) : DeskAt (w.setCell ⟨D.d, 4, none⟩ (.bool o)) base D ⟨k.z, k.pl, k.q, k.t, o⟩ := by
  have hk : Keeps (Own D.d) w (w.setCell ⟨D.d, 4, none⟩ (.bool o)) := keepsCell _ _ _ _
  have ok := h.ok
  exact ⟨heap_setCell_at h.box _, cellsAt_kept hk h.map (fun e => h.nm (.inl e)), h.pool.kept hk (fun i hi e => h.box_pool (by have e : i = D.d := e; exact e ▸ hi)), hk.owns h.q (fun i hi e => h.q_box i hi e), h.nm, h.bd, ⟨ok.z, ok.pl, ok.pn, ok.q, ok.t0, ok.t1⟩⟩
set_option maxRecDepth 100000 in
set_option maxHeartbeats 2000000 in
theorem deskClose_any (h : DeskAt w base D k) (v : Value) (l : List Nam) (hv : RdOf cNam w v l) (hl : l.length ≤ 100000) (hd : ∀ i, v.ownBlock = some i → ¬ DeskS D i) :
    Calls Tryz.prog 57 #[dP D.d, v] w fun e w' => e = .returned (.tuple #[.int .i64 (closeD k l).1, .int .i64 (closeD k l).2.1]) ∧ DeskPost w base D (closeD k l).2.2 w' := by
  obtain ⟨va, vc, rfl⟩ := hv.slice
  obtain ⟨_, c1, _, _, c4⟩ := h.cells
  obtain ⟨E, hE⟩ : ∃ x, x = closeD k l := ⟨_, rfl⟩
  rw [← hE]
  unfold closeD at hE
  have HE := Lib.hid hE
  have H := Lib.hid h
  have HV := Lib.hid hv
  have HD := Lib.hid hd
  have hl1 : (l.length : Int) ≤ 100000 := by omega
  obtain ⟨O, hO⟩ : ∃ b, b = k.o := ⟨_, rfl⟩
  rw [← hO] at c4 HE
  clear h hv hd hE hO
  cases O
  case false =>
    have HE2 : Hid (E = (0, 14, k)) := Lib.hid (by rw [HE.out]; rfl)
    go_enter Tryz.func57, Tryz.ntmps57
    go_wp2
    go_ret2
    exact ⟨by rw [HE2.out]; rfl, by rw [HE2.out]; exact DeskPost.refl H.out⟩
  rw [cond_true] at HE
  go_enter Tryz.func57, Tryz.ntmps57
  go_wp2
  go_loopw [18, 6] (fun q n wr => ∃ (j : Nat) (R' : List Rp), j ≤ l.length ∧ q = .int .i64 j ∧ n = .int .i64 ((freeN k.pl (l.take j) : Nat) : Int) ∧ PoolAt wr base D.p D.g R' (freeAll k.pl (l.take j)) ∧ Keeps (PoolS D.p D.g D.R) w wr ∧ (∀ i, PoolS D.p D.g R' i → PoolS D.p D.g D.R i ∨ w.heap.size ≤ i)) (fun q _ _ => l.length - (intOf q).toNat)
  case atStart => exact ⟨0, D.R, Nat.zero_le _, rfl, rfl, H.out.pool, Keeps.refl _, fun i hi => .inl hi⟩
  case round =>
    obtain ⟨j, R', hj, rfl, rfl, hP, hK, hN⟩ := hrel
    have PJ := Lib.hid hP
    have KJ := Lib.hid hK
    have NJ := Lib.hid hN
    have hj0 : (0 : Int) ≤ (j : Int) := by omega
    have nd : ¬ PoolS D.p D.g D.R D.d := H.out.box_pool
    by_cases hjl : j < l.length
    · have hji : (j : Int) < (l.length : Int) := by omega
      have hrr : RdOf cNam wr (.slice va l.length vc) l := HV.out.kept hK (fun i hi e => HD.out i hi (.inr (.inl e)))
      obtain ⟨g, off, rfl, _, _, lg⟩ := RdOf.addr cNam hrr (by omega)
      have cr : cellsAt wr g (off + j * 3) 3 = some (namC l[j]) := RdOf.at cNam hrr j hjl
      obtain ⟨a, ha⟩ : ∃ a, a = l[j] := ⟨_, rfl⟩
      rw [← ha] at cr
      have HTK : Hid (l.take (j + 1) = l.take j ++ [a]) := Lib.hid (by rw [List.take_succ_eq_append_getElem hjl, ha])
      replace c1 := hK.cell c1 nd
      have ld : D.d < wr.heap.size := block_lt_of_cell c1
      obtain ⟨m, hm⟩ : ∃ m : Nat, m = freeN k.pl (l.take j) := ⟨_, rfl⟩
      have hm2 : (m : Int) ≤ 100000 := by have := freeN_le k.pl (l.take j); rw [List.length_take] at this; omega
      have hm0 : (0 : Int) ≤ (m : Int) := by omega
      rw [← hm]
      have HM := Lib.hid hm
      clear hP hK hN hrr ha hm
      go_upto_region 9 with fail
      refine wp_world ?_
      intro W hW
      have KW : Hid (Keeps No wr W) := Lib.hid (by rw [hW]; exact (Keeps.refl wr).alloc _)
      have b0 : cellsAt W wr.heap.size 0 3 = some (namC a) := by rw [hW]; simp [go_sem]
      replace c1 := KW.out.cell c1 (fun h => h)
      have CF := Lib.hid (poolFree_any (PJ.out.no (KW.out.drew)) a)
      obtain ⟨y, hy⟩ : ∃ y, y = freeP (freeAll k.pl (l.take j)) a := ⟨_, rfl⟩
      rw [← hy] at CF
      have HY := Lib.hid hy
      clear hW cr hy ld lg
      obtain ⟨y1, y2⟩ := y
      go_region_with (first
        | (go_at_call 101
           have hc := CF.out
           with_reducible refine hc.mono ?_
           clear hc
           rintro e w9 ⟨R2, rfl, hp9, hk9, hn9⟩
           have P9 := Lib.hid hp9
           have K9 : Hid (Keeps (PoolS D.p D.g D.R) w w9) := Lib.hid ((KJ.out.trans KW.out.drew (fun _ _ h => h.elim)).trans hk9 (fun i hi e => by rcases NJ.out i e with e | e; exact e; omega))
           have N9 : Hid (∀ i, PoolS D.p D.g R2 i → PoolS D.p D.g D.R i ∨ w.heap.size ≤ i) := Lib.hid (fun i hi => by
             rcases hn9 i hi with e | e
             · exact NJ.out i e
             · exact .inr (Nat.le_trans (Nat.le_trans KJ.out.size KW.out.size) e))
           clear hp9 hk9 hn9))
      all_goals
        by_cases h0 : y1 = 0
        · have HF : Hid (freeN k.pl (l.take (j + 1)) = m + 1) := Lib.hid (by rw [HTK.out, freeN_snoc, ← HY.out, decide_eq_true h0, HM.out]; rfl)
          go_wp2
          go_roundw
          case rel => exact ⟨j + 1, R2, by omega, by go_num, by rw [HF.out]; go_num, by rw [HTK.out, freeAll_snoc, ← HY.out]; exact P9.out, K9.out, N9.out⟩
          case measure => simp [intOf]; omega
        · have HF : Hid (freeN k.pl (l.take (j + 1)) = m) := Lib.hid (by rw [HTK.out, freeN_snoc, ← HY.out, decide_eq_false h0, HM.out]; rfl)
          go_wp2
          go_roundw
          case rel => exact ⟨j + 1, R2, by omega, by go_num, by rw [HF.out], by rw [HTK.out, freeAll_snoc, ← HY.out]; exact P9.out, K9.out, N9.out⟩
          case measure => simp [intOf]; omega
    · have hjn : j = l.length := by omega
      have hji : ¬ ((j : Int) < (l.length : Int)) := by omega
      have hb := Lib.hid (hK.heap H.out.box nd)
      have c4' := hK.cell c4 nd
      have f4 : wr.frozen? ⟨D.d, 4, none⟩ = false := frozen_of_row _ _ _ _ _ hb.out
      clear hP hK hN c1 c4
      go_wp2
      go_ret2
      have hP := PJ.out
      rw [hjn, List.take_length] at hP
      have ok := H.out.ok
      obtain ⟨z1, z2, z3⟩ := H.out.pooled hP KJ.out NJ.out ⟨ok.z, freeAll_ok l _ ok.pl, by simp only; rw [freeAll_length]; exact ok.pn, ok.q, ok.t0, ok.t1⟩
      have z4 := z1.flag false
      have z5 : Keeps (DeskS D) w (wr.setCell ⟨D.d, 4, none⟩ (.bool false)) := z2.trans (keepsCell wr D.d 4 (.bool false)) (fun i _ e => .inl e)
      exact ⟨by rw [HE.out]; rfl, by rw [HE.out]; exact ⟨_, z4, z5, z3, rfl, rfl⟩⟩
/-- what desk.New makes -/
def DeskNew (w : World) (z : Zf) (e : Ending) (w' : World) : Prop := ∃ D, e = .returned (.tuple #[dP D.d, .int .i64 0]) ∧ DeskAt w' w.heap.size D (Dk.new z) ∧ Keeps No w w' ∧ w.heap.size ≤ D.m
theorem PoolAt.lower {p g : Nat} {R : List Rp} {pl : Pl} {b : Nat} (h : PoolAt w base p g R pl) (hb : b ≤ base) : PoolAt w b p g R pl :=
  ⟨h.box, h.row, h.len, fun k r s hr hs => ⟨(h.sh k r s hr hs).all, ownInts_less (h.sh k r s hr hs).free hb, Nat.le_trans hb (h.sh k r s hr hs).ba⟩, h.apart, Nat.le_trans hb h.bp, Nat.le_trans hb h.bg, h.ok⟩
theorem zfOk_parts {z : Zf} (h : zfOk z = true) : 1 ≤ z.c ∧ z.c ≤ 4 ∧ 1 ≤ z.r ∧ z.r ≤ 4 ∧ 1 ≤ z.i ∧ z.i ≤ 16 ∧ 1 ≤ z.q ∧ z.q ≤ 64 := by
  unfold zfOk okI at h
  simp only [Bool.and_eq_true, decide_eq_true_eq] at h
  omega
theorem zones_few {z : Zf} (h : zfOk z = true) : 1 ≤ z.c * z.r ∧ z.c * z.r ≤ 16 := by
  obtain ⟨c1, c2, r1, r2, _⟩ := zfOk_parts h
  have h1 : 1 * 1 ≤ z.c * z.r := Int.mul_le_mul c1 r1 (by omega) (by omega)
  have h2 : z.c * z.r ≤ 4 * 4 := Int.mul_le_mul c2 r2 (by omega) (by omega)
  omega
theorem Dk.new_ok {z : Zf} (h : zfOk z = true) : (Dk.new z).ok := by
  obtain ⟨c1, c2, r1, r2, i1, i2, q1, q2⟩ := zfOk_parts h
  obtain ⟨n1, n2⟩ := zones_few h
  refine ⟨h, plOk_new (by omega) (by omega) (by omega), ?_, by simp [Dk.new]; omega, Int.le_refl _, by simp [Dk.new]⟩
  simp only [Dk.new, plNew, List.length_replicate]
  omega
set_option maxRecDepth 100000 in
set_option maxHeartbeats 2000000 in
theorem deskNew_any (w : World) (z : Zf) (hz : zfOk z = true) : Calls Tryz.prog 17 #[zfV z] w (DeskNew w z) := by
  obtain ⟨c1, c2, r1, r2, i1, i2, q1, q2⟩ := zfOk_parts hz
  obtain ⟨n1, n2⟩ := zones_few hz
  obtain ⟨n, hn⟩ := Int.eq_ofNat_of_zero_le (show 0 ≤ z.c * z.r by omega)
  obtain ⟨m, hm⟩ := Int.eq_ofNat_of_zero_le (show 0 ≤ z.i by omega)
  have HZ := Lib.hid hz
  have HN := Lib.hid hn
  have HM := Lib.hid hm
  clear hn hm
  have CM := Lib.hid (fun W => mapNew_any W z hz)
  have CB : Hid (cellsAt (w.alloc (.cells #[.int .i64 z.c, .int .i64 z.r, .int .i64 z.s, .int .i64 z.u, .int .i64 z.v, .int .i64 z.i, .int .i64 z.q] 23)) w.heap.size 0 7 = some [.int .i64 z.c, .int .i64 z.r, .int .i64 z.s, .int .i64 z.u, .int .i64 z.v, .int .i64 z.i, .int .i64 z.q]) := Lib.hid (by simp [go_sem])
  clear hz
  go_enter Tryz.func17, Tryz.ntmps17
  go_wp2_with fail
  (with_reducible refine (CM.out _).mono ?_)
  rintro e W ⟨g, rfl, hg, hc, hk⟩
  have K := Lib.hid (((Keeps.refl w).alloc _).trans hk (fun _ _ h => h))
  have b5 : W.cell? ⟨w.heap.size, 5, none⟩ = some (.int .i64 (m : Int)) := by
    have := cellsAt_cell (hk.cellsAt CB.out) 5 _ rfl
    rw [← HM.out]
    exact this
  have HC := Lib.hid hc
  have hgw : Hid (w.heap.size ≤ g) := Lib.hid (by simp only [World.size_alloc] at hg; omega)
  have C1 := Lib.hid (fun W' (k : Keeps No W W') => mapCount_any W' g z (k.cellsAt hc) (by omega) (by omega))
  have n1' := n1
  have n2' := n2
  have HM2 := HM.out
  rw [HN.out] at C1 n1' n2'
  have C2 := Lib.hid (fun W' => poolNew_any W' n m (by omega) (by omega) (by omega) (by omega))
  clear HM2 n1' n2'
  clear hg hc hk CM CB
  go_upto_region 4 with fail
  go_region_held3 (fun w' => w'.cell? ⟨w.heap.size, 5, none⟩ = some (.int .i64 (m : Int)) ∧ Keeps No W w')
    (first | exact ⟨b5, Keeps.refl W⟩ | exact ⟨b5, (Keeps.refl W).drew⟩ | assumption)
    (first
      | (go_at_call 35
         have hc := C1.out
         with_reducible refine (hc _ ((Keeps.refl W).drew)).mono ?_
         clear hc
         rintro e w5 ⟨rfl, hg5⟩
         have hS1 : w5.cell? ⟨w.heap.size, 5, none⟩ = some (.int .i64 (m : Int)) ∧ Keeps No W w5 := ⟨hg5.keeps.cell (a := W.drew) b5 (fun h => h), ((Keeps.refl W).drew).trans hg5.keeps (fun _ _ h => h)⟩
         clear hg5)
      | (go_at_call 34
         have hc := C2.out
         with_reducible refine (hc _).mono ?_
         clear hc
         rintro e w6 ⟨p, gg, R, rfl, hp6, hk6⟩
         have HP6 := Lib.hid hp6
         have HK6 := Lib.hid hk6
         have hS2 : w6.cell? ⟨w.heap.size, 5, none⟩ = some (.int .i64 (m : Int)) ∧ Keeps No W w6 := ⟨hk6.cell hS1.1 (fun h => h), hS1.2.trans hk6 (fun _ _ h => h)⟩
         clear hp6 hk6))
  all_goals go_wp2
  all_goals go_ret2
  all_goals
    have kA : Keeps No w6 (w6.alloc (.cells #[dP g, dP p, .slice none 0 0, .int .i64 0, .bool false] deskT)) := (Keeps.refl w6).alloc _
    have hw6 : Keeps No w w6 := K.out.trans hS2.2 (fun _ _ h => h)
    have hpl : plNew (z.c * z.r).toNat z.i.toNat = plNew n m := by rw [HN.out, HM.out, Int.toNat_natCast, Int.toNat_natCast]
    have hm6 := kA.cellsAt (hS2.2.cellsAt HC.out)
    have hgW : g < W.heap.size := cellsAt_block HC.out
    have hp6 := (HP6.out.no kA).lower (b := w.heap.size) (by have := hS1.2.size; have := K.out.size; omega)
    refine ⟨⟨w6.heap.size, g, p, gg, R, .slice none 0 0⟩, rfl, ⟨heap_alloc_new w6 _, hm6, ?_, World.ownsRow_nil _ _ _ _, fun e => ?_, by have := hw6.size; simp only; omega, Dk.new_ok HZ.out⟩, hw6.trans kA (fun _ _ h => h), hgw.out⟩
    · show PoolAt _ _ _ _ _ (plNew (z.c * z.r).toNat z.i.toNat)
      rw [hpl]
      exact hp6
    · rcases e with e | e | e
      · have := hS2.2.size
        simp only at e
        omega
      · have := HP6.out.le e
        have := hS1.2.size
        simp only at *
        omega
      · cases e
end
end Go.Proofs.YtndjnkjcfdaegaaGreatDoor

/-
  A desk lets a command in. No conditions of its own.
-/
namespace Go.Proofs.YtndjnkjcfdaegaaGreatDoor
open Go.RowKit Go.Shelf Go.Sort Go.Joins Go.Deep

section
variable {w w' : World} {base : Nat} {D : Dp} {k : Dk} {S : Nat → Prop}
theorem Dk.ok.zone (h : k.ok) : 1 ≤ k.z.c * k.z.s ∧ k.z.c * k.z.s ≤ 1073741824 ∧ 1 ≤ k.z.r * k.z.s ∧ k.z.r * k.z.s ≤ 1073741824 ∧ 1 ≤ k.z.s ∧ 0 ≤ k.z.c ∧ k.z.c ≤ 1073741824 := by
  have h3 := h.z
  unfold zfOk okI at h3
  simp only [Bool.and_eq_true, decide_eq_true_eq] at h3
  obtain ⟨⟨c1, c2⟩, ⟨r1, r2⟩, ⟨s1, s2⟩, _⟩ := h3
  have a1 : 1 * 1 ≤ k.z.c * k.z.s := Int.mul_le_mul c1 (by omega) (by omega) (by omega)
  have a2 : k.z.c * k.z.s ≤ 4 * 1048576 := Int.mul_le_mul c2 s2 (by omega) (by omega)
  have a3 : 1 * 1 ≤ k.z.r * k.z.s := Int.mul_le_mul r1 (by omega) (by omega) (by omega)
  have a4 : k.z.r * k.z.s ≤ 4 * 1048576 := Int.mul_le_mul r2 s2 (by omega) (by omega)
  omega
theorem deskOf_any (h : DeskAt w base D k) (x y : Int) : Calls Tryz.prog 62 #[dP D.m, .int .i64 x, .int .i64 y] w fun e w' => e = .returned (.int .i64 (zoneI k.z x y)) ∧ Keeps No w w' := by
  obtain ⟨a1, a2, a3, a4, a5, a6, a7⟩ := h.ok.zone
  exact mapOf_any w D.m k.z h.map x y a1 a2 a3 a4 a5 a6 a7
theorem DeskPost.trans {D1 : Dp} {k2 : Dk} {w1 w2 : World} (hk : Keeps (DeskS D) w w1) (hn : ∀ i, DeskS D1 i → DeskS D i ∨ w.heap.size ≤ i) (hd : D1.d = D.d) (hm : D1.m = D.m) (h : DeskPost w1 base D1 k2 w2) : DeskPost w base D k2 w2 := by
  obtain ⟨D2, a1, a2, a3, a4, a5⟩ := h
  refine ⟨D2, a1, hk.trans a2 (fun i hi e => ?_), fun i hi => ?_, a4.trans hd, a5.trans hm⟩
  · rcases hn i e with e | e
    · exact e
    · omega
  · rcases a3 i hi with e | e
    · exact hn i e
    · exact .inr (Nat.le_trans hk.size e)
/-- a command is put behind those that wait -/
theorem DeskAt.pushed (h : DeskAt w base D k) {w8 : World} (hk : Keeps (Of D.q) w w8) {wa : Option Addr} {wc : Nat} (c : Cm) (ho : w8.ownsRow base cmdT 16 (.slice wa (k.q.length + 1) wc) (k.q.length + 1) (rowsOf cCm k.q ++ cmC c))
    (hb : ∀ i, (Value.slice wa (k.q.length + 1) wc).ownBlock = some i → D.q.ownBlock = some i ∨ w.heap.size ≤ i) (hq : (k.q.length : Int) < k.z.q) : DeskPost w base D ⟨k.z, k.pl, k.q ++ [c], k.t, k.o⟩ (w8.setCell ⟨D.d, 2, none⟩ (.slice wa (k.q.length + 1) wc)) := by
  have ok := h.ok
  have hk2 : Keeps (Own D.d) w8 (w8.setCell ⟨D.d, 2, none⟩ (.slice wa (k.q.length + 1) wc)) := keepsCell _ _ _ _
  have b8 := hk.heap h.box (fun e => h.q_box _ e rfl)
  have ho' : OwnOf cCm cmdT w8 base (.slice wa (k.q.length + 1) wc) (k.q ++ [c]) := by
    unfold OwnOf
    rw [List.length_append, rowsOf_append, rowsOf_one]
    exact ho
  have hob : ∀ i, (Value.slice wa (k.q.length + 1) wc).ownBlock = some i → ¬ i = D.d := fun i hi e => by
    obtain ⟨cur, hc, _⟩ := OwnOf.block ho' hi
    exact heap_types hc b8 (by decide) e
  refine ⟨⟨D.d, D.m, D.p, D.g, D.R, .slice wa (k.q.length + 1) wc⟩, ⟨heap_setCell_at b8 _, cellsAt_kept hk2 (cellsAt_kept hk h.map (fun e => h.nm (.inr (.inr e)))) (fun e => h.nm (.inl e)), (h.pool.kept hk (fun i hi e => h.q_pool i e hi)).kept hk2 (fun i hi e => h.box_pool (by have e : i = D.d := e; exact e ▸ hi)), hk2.owns ho' hob, fun e => ?_, h.bd, ⟨ok.z, ok.pl, ok.pn, by simp only [List.length_append, List.length_cons, List.length_nil]; omega, ok.t0, ok.t1⟩⟩, (hk.mono (fun i _ e => .inr (.inr e))).trans hk2 (fun i _ e => .inl e), fun i hi => ?_, rfl, rfl⟩
  · rcases e with e | e | e
    · exact h.nm (.inl e)
    · exact h.nm (.inr (.inl e))
    · rcases hb _ e with e | e
      · exact h.nm (.inr (.inr e))
      · have := cellsAt_block h.map
        simp only at e
        omega
  · rcases hi with e | e | e
    · exact .inl (.inl e)
    · exact .inl (.inr (.inl e))
    · rcases hb _ e with e | e
      · exact .inl (.inr (.inr e))
      · exact .inr e
theorem litR {α : Type} (C : Codec α) (w : World) (e : TypeId) (a : α) : Reads (w.alloc (.cells (C.cells a).toArray e)) C.size (.slice (some ⟨w.heap.size, 0, none⟩) 1 1) 1 (C.cells a) :=
  Reads.ofOwn (World.ownsRow_lit (base := 0) w (C.cells a).toArray 1 (Nat.zero_le _) (by unfold maxLen; omega) (by simp [C.len])) (by simpa using C.one a)
theorem takeP_length (p : Pl) (a : Nam) : (takeP p a).2.length = p.length := by
  unfold takeP
  split
  · rfl
  · split
    · rfl
    · simp [plPut]
theorem takeP_err {p : Pl} {a : Nam} (h : ¬ (takeP p a).1 = 0) : (takeP p a).2 = p := by
  cases hx : ixAt p a.s a.i with
  | none => rw [takeP_none hx]
  | some x =>
    obtain ⟨k, i, s, hk, hi, hs, hn⟩ := ixAt_split hx
    rw [takeP_some hk hi hs hn] at h ⊢
    simp only at h ⊢
    have e : (takeS' s x a.i a.g).2 = s := by
      unfold takeS' at h ⊢
      cases c1 : decide (a.g < 0)
      · rw [c1, cond_false] at h
        rw [cond_false]
        cases c2 : !freeHas s a.i
        · rw [c2, cond_false] at h
          rw [cond_false]
          cases c3 : decide (a.g < x.g) || decide (x.b ≤ a.g)
          · rw [c3, cond_false] at h
            exact absurd rfl h
          · rfl
        · rfl
      · rfl
    rw [e, plPut_id hs]
set_option maxRecDepth 100000 in
set_option maxHeartbeats 4000000 in
theorem deskAdmit_any (h : DeskAt w base D k) (c : Cm) : Calls Tryz.prog 55 #[dP D.d, cmV c] w fun e w' => e = .returned (.int .i64 (admitD k c).1) ∧ DeskPost w base D (admitD k c).2 w' := by
  obtain ⟨i0, hi, hz0, hz1, hz2⟩ := info_parts Tryz.infoCm
  obtain ⟨c0, c1, c2, _, _⟩ := h.cells
  obtain ⟨qa, qc, hq⟩ := ownsRow_slice h.q
  rw [hq] at c2
  have z6 : w.cell? ⟨D.m, 6, none⟩ = some (.int .i64 k.z.q) := by
    have := cellsAt_cell h.map 6 _ rfl
    simpa using this
  obtain ⟨E, hE⟩ : ∃ x, x = admitD k c := ⟨_, rfl⟩
  rw [← hE]
  unfold admitD at hE
  have H := Lib.hid h
  have HQ := Lib.hid hq
  have HE := Lib.hid hE
  have CK := Lib.hid (fun W => checkCmd_any W c)
  have CB : Hid (cellsAt (w.alloc (.cells (cmC c).toArray 40)) w.heap.size 0 16 = some (cmC c)) := Lib.hid (by simp [go_sem])
  have hq64 : (k.q.length : Int) ≤ 64 := by have := h.ok.few; omega
  have ld : D.d < w.heap.size := h.lt (.inl rfl)
  have lm : D.m < w.heap.size := cellsAt_block h.map
  clear h hq hE
  obtain ⟨T1, hT1⟩ : ∃ b, b = cmdOk c := ⟨_, rfl⟩
  rw [← hT1] at HE CK
  have HT1 := Lib.hid hT1
  clear hT1
  go_enter Tryz.func55, Tryz.ntmps55
  go_wp2_with fail
  (with_reducible refine (CK.out _).mono ?_)
  rintro e W ⟨rfl, hg⟩
  have K : Hid (Keeps No w W) := Lib.hid (((Keeps.refl w).alloc _).trans hg.keeps (fun _ _ h => h))
  have cW := hg.keeps.cellsAt CB.out
  cases T1
  case false =>
    have HE2 : Hid (E = (1, k)) := Lib.hid (by rw [HE.out]; rfl)
    simp only [errB, cond_false]
    clear hg cW CB
    go_wp2
    go_ret
    exact ⟨by rw [HE2.out]; rfl, by rw [HE2.out]; exact ⟨D, H.out.no K.out, K.out.mono (fun _ _ h => h.elim), fun i hi => .inl hi, rfl, rfl⟩⟩
  simp only [errB, cond_true]
  simp only [Bool.not_true, cond_false] at HE
  replace c0 := K.out.cell c0 (fun h => h)
  replace c1 := K.out.cell c1 (fun h => h)
  replace c2 := K.out.cell c2 (fun h => h)
  replace z6 := K.out.cell z6 (fun h => h)
  have CW := Lib.hid cW
  clear hg cW CB CK
  go_upto_region 3 with fail
  by_cases t2 : k.z.q ≤ (k.q.length : Int)
  · have HE2 : Hid (E = (8, k)) := Lib.hid (by rw [HE.out, decide_eq_true t2]; rfl)
    go_region
    all_goals go_wp2
    all_goals go_ret
    all_goals exact ⟨by rw [HE2.out]; rfl, by rw [HE2.out]; exact ⟨D, H.out.no K.out.drew, K.out.drew.mono (fun _ _ h => h.elim), fun i hi => .inl hi, rfl, rfl⟩⟩
  rw [decide_eq_false t2, cond_false] at HE
  go_region
  go_upto_region 5 with fail
  refine wp_world ?_
  intro W5 hW5
  have K5 : Hid (Keeps No w W5) := Lib.hid (by rw [hW5]; exact K.out.drew)
  have hc5 : cellsAt W5 w.heap.size 0 16 = some (cmC c) := by rw [hW5]; exact CW.out
  have C5 := Lib.hid hc5
  have i1 : cellsAt W5 w.heap.size 1 3 = some (namC c.id) := cellsAt_part hc5 1 (namC c.id) rfl (by simp)
  have i4 : cellsAt W5 w.heap.size 4 3 = some (namC c.b.id) := cellsAt_part hc5 4 (namC c.b.id) rfl (by simp)
  have m0 := cellsAt_cell hc5 0 _ rfl
  have m4 := cellsAt_cell hc5 4 _ rfl
  have m8 := cellsAt_cell hc5 8 _ rfl
  have m9 := cellsAt_cell hc5 9 _ rfl
  simp only [Nat.zero_add] at m0 m4 m8 m9
  replace c0 : W5.cell? ⟨D.d, 0, none⟩ = some (dP D.m) := by rw [hW5]; exact c0
  replace c1 : W5.cell? ⟨D.d, 1, none⟩ = some (dP D.p) := by rw [hW5]; exact c1
  replace c2 : W5.cell? ⟨D.d, 2, none⟩ = some (.slice qa k.q.length qc) := by rw [hW5]; exact c2
  clear hW5 K CW z6 hc5
  have H5 := Lib.hid (H.out.no K5.out)
  by_cases t3 : c.k = 1
  · rw [decide_eq_true t3, cond_true] at HE
    have b3 : (c.k == 1) = true := by rw [t3]; rfl
    have CO := Lib.hid (fun W' (q : Keeps No W5 W') => deskOf_any (H5.out.no q) c.b.x c.b.y)
    obtain ⟨Z, hZ⟩ : ∃ Z, Z = c.zone k.z := ⟨_, rfl⟩
    have CO' : Hid (∀ W', Keeps No W5 W' → Calls Tryz.prog 62 #[dP D.m, .int .i64 c.b.x, .int .i64 c.b.y] W' fun e w' => e = .returned (.int .i64 Z) ∧ Keeps No W' w') := Lib.hid (by rw [hZ]; exact CO.out)
    rw [← hZ] at HE
    have L0 : ∀ w', Keeps No W5 w' → w'.cell? ⟨D.d, 0, none⟩ = some (dP D.m) := fun w' q => q.cell c0 (fun h => h)
    have L1 : ∀ w', Keeps No W5 w' → w'.cell? ⟨w.heap.size, 0, none⟩ = some (.int .i64 c.k) := fun w' q => q.cell m0 (fun h => h)
    have L4 : ∀ w', Keeps No W5 w' → w'.cell? ⟨w.heap.size, 4, none⟩ = some (.int .i64 c.b.s) := fun w' q => q.cell m4 (fun h => h)
    have L8 : ∀ w', Keeps No W5 w' → w'.cell? ⟨w.heap.size, 8, none⟩ = some (.int .i64 c.b.x) := fun w' q => q.cell m8 (fun h => h)
    have L9 : ∀ w', Keeps No W5 w' → w'.cell? ⟨w.heap.size, 9, none⟩ = some (.int .i64 c.b.y) := fun w' q => q.cell m9 (fun h => h)
    clear CO hZ t3
    go_region_held3 (fun w' => Keeps No W5 w')
      (first | assumption | exact (Keeps.refl W5).drew | exact Keeps.refl W5)
      (first
        | (go_at_call 62
           have hc := CO'.out
           with_reducible refine (hc _ ((Keeps.refl W5).drew)).mono ?_
           clear hc
           rintro e w6 ⟨rfl, hk⟩
           have hS1 : Keeps No W5 w6 := Keeps.trans (by first | assumption | exact (Keeps.refl W5).drew | exact Keeps.refl W5) hk (fun _ _ h => h)))
    clear L0 L1 L4 L8 L9
    have K6 : Hid (Keeps No w w6) := Lib.hid (K5.out.trans hS1 (fun _ _ h => h))
    have j4 : cellsAt w6 w.heap.size 4 3 = some (namC c.b.id) := hS1.cellsAt i4
    have n0 : w6.cell? ⟨w.heap.size, 0, none⟩ = some (.int .i64 c.k) := hS1.cell m0 (fun h => h)
    have e1 : w6.cell? ⟨D.d, 1, none⟩ = some (dP D.p) := hS1.cell c1 (fun h => h)
    have C6 := Lib.hid (hS1.cellsAt C5.out)
    clear hS1 i1 i4 m0 m4 m8 m9 c0 c1 c2 C5 K5 H5 CO'
    by_cases tz : Z = c.b.s
    case neg =>
      have HE2 : Hid (E = (5, k)) := Lib.hid (by rw [HE.out, decide_eq_false tz]; rfl)
      have bz : (Z != c.b.s) = true := by simpa using tz
      go_wp2
      go_ret
      exact ⟨by rw [HE2.out]; rfl, by rw [HE2.out]; exact ⟨D, H.out.no K6.out, K6.out.mono (fun _ _ h => h.elim), fun i hi => .inl hi, rfl, rfl⟩⟩
    rw [decide_eq_true tz] at HE
    simp only [Bool.not_true, cond_false] at HE
    have bz : (Z != c.b.s) = false := by simpa using tz
    have H6 := Lib.hid (H.out.no K6.out)
    have CT := Lib.hid (poolTake_any (H6.out.no ((Keeps.refl w6).drew)).pool c.b.id)
    obtain ⟨y, hy⟩ : ∃ y, y = takeP k.pl c.b.id := ⟨_, rfl⟩
    rw [← hy] at CT HE
    have HY := Lib.hid hy
    obtain ⟨y1, y2⟩ := y
    have nd : Hid (¬ PoolS D.p D.g D.R D.d) := Lib.hid H.out.box_pool
    have nb : Hid (¬ PoolS D.p D.g D.R w.heap.size) := Lib.hid (fun e => by have := H.out.pool.lt e; omega)
    clear hy tz
    go_upto_region 8 with fail
    go_region_held3 (fun w' => w'.cell? ⟨D.d, 1, none⟩ = some (dP D.p) ∧ cellsAt w' w.heap.size 4 3 = some (namC c.b.id))
      (first | exact ⟨e1, j4⟩ | assumption)
      (first
        | (go_at_call 100
           have hc := CT.out
           with_reducible refine hc.mono ?_
           clear hc
           rintro e w9 ⟨rfl, hp9, hk9⟩
           have P9 := Lib.hid hp9
           have K9 : Hid (Keeps (PoolS D.p D.g D.R) w6 w9) := Lib.hid (((Keeps.refl (S := No) w6).drew.mono (fun _ _ h => h.elim)).trans hk9 (fun _ _ h => h))
           have hS2 : w9.cell? ⟨D.d, 1, none⟩ = some (dP D.p) ∧ cellsAt w9 w.heap.size 4 3 = some (namC c.b.id) := ⟨K9.out.cell e1 nd.out, cellsAt_kept K9.out j4 nb.out⟩
           clear hp9 hk9))
    have C13 : Hid (cellsAt w9 w.heap.size 0 16 = some (cmC c)) := Lib.hid (cellsAt_kept K9.out C6.out nb.out)
    have hok := H.out.ok
    have hpo : plOk y2 := by have := hok.pl.take c.b.id; rw [← HY.out] at this; exact this
    have hpn : y2.length = k.pl.length := by have := takeP_length k.pl c.b.id; rw [← HY.out] at this; exact this
    obtain ⟨x1, x2, x3⟩ := H6.out.pooled (R' := D.R) P9.out K9.out (fun i hi => .inl hi) ⟨hok.z, hpo, by simp only; rw [hpn]; exact hok.pn, hok.q, hok.t0, hok.t1⟩
    have H13 := Lib.hid x1
    have KP : Hid (Keeps (DeskS D) w w9) := Lib.hid ((K6.out.mono (fun _ _ h => h.elim)).trans x2 (fun _ _ h => h))
    clear hok hpo hpn x1 x2 x3 hS2 e1 j4 n0 CT
    by_cases ty : y1 = 0
    case neg =>
      have hy2 : y2 = k.pl := by have := takeP_err (p := k.pl) (a := c.b.id) (by rw [← HY.out]; exact ty); rw [← HY.out] at this; exact this
      have HE2 : Hid (E = (y1, k)) := Lib.hid (by rw [HE.out, decide_eq_false ty]; rfl)
      go_wp2
      go_ret
      have h13 := H13.out
      rw [hy2] at h13
      exact ⟨by rw [HE2.out]; rfl, by rw [HE2.out]; exact ⟨D, h13, KP.out, fun i hi => .inl hi, rfl, rfl⟩⟩
    have HE2 : Hid (E = (0, ⟨k.z, y2, k.q ++ [c], k.t, k.o⟩)) := Lib.hid (by rw [HE.out, decide_eq_true ty]; rfl)
    go_upto_region 13 with fail
    refine wp_world ?_
    intro W13 hW13
    subst hW13
    have O13 := Lib.hid H13.out.q
    rw [HQ.out] at O13
    have d2 : W13.cell? ⟨D.d, 2, none⟩ = some (.slice qa k.q.length qc) := by rw [(H13.out.cells).2.2.1, HQ.out]
    have f2 : W13.frozen? ⟨D.d, 2, none⟩ = false := frozen_of_row _ _ _ _ _ H13.out.box
    have c13 := C13.out
    have l13 : D.d < W13.heap.size := H13.out.lt (.inl rfl)
    have lb13 : w.heap.size < W13.heap.size := cellsAt_block c13
    have Hown : Hid (OwnOf cCm cmdT ((W13.alloc (.cells (cmC c).toArray cmdT)).drew) base (.slice qa k.q.length qc) k.q) := Lib.hid ((((Keeps.refl (S := No) W13).alloc _).drew).owns O13.out (fun _ _ h => h))
    have Hrd : Hid (Reads ((W13.alloc (.cells (cmC c).toArray cmdT)).drew) 16 (.slice (some ⟨W13.heap.size, 0, none⟩) 1 1) 1 (cmC c)) := Lib.hid (Reads.kept (S := No) ((Keeps.refl _).drew) (litR cCm W13 cmdT c) (fun _ _ h => h))
    have HB : Hid (base ≤ W13.heap.size) := Lib.hid (Nat.le_of_lt (Nat.lt_of_le_of_lt (show base ≤ D.d from H13.out.bd) l13))
    have HBX := Lib.hid (H13.out.q_box)
    have HF := Lib.hid hq64
    go_region_law (refine step_append_reads rfl (.tmp 78) (.tmp 80) 33 rfl base cmdT i0 _ 16 128 Tryz.underlying33 hi hz0 hz1 hz2 rfl (by decide) (.slice qa k.q.length qc) k.q.length (rowsOf cCm k.q) rfl Hown.out _ 1 (cmC c) rfl Hrd.out (by have := HF.out; unfold maxLen; omega) (by have := HF.out; omega) (by have := HB.out; simp; omega) ?_
                   intro v' w8 ho8 hk8 hb8 _
                   have K8 : Hid (Keeps (Of (.slice qa k.q.length qc)) W13 w8) := Lib.hid (((((Keeps.refl (S := No) W13).alloc _).drew).mono (fun _ _ h => h.elim)).trans hk8 (fun _ _ h => h))
                   have O8 := Lib.hid ho8
                   have B8 := Lib.hid hb8
                   have G8 := Lib.hid (K8.out.heap H13.out.box (fun e => HBX.out D.d (by rw [HQ.out]; exact e) rfl))
                   obtain ⟨wa, wc, rfl⟩ := ownsRow_slice ho8
                   have q0 : w8.cell? ⟨D.d, 2, none⟩ = some (.slice qa k.q.length qc) := by rw [cell_of_row _ _ _ _ _ _ G8.out, HQ.out]; rfl
                   have q1 : w8.frozen? ⟨D.d, 2, none⟩ = false := frozen_of_row _ _ _ _ _ G8.out
                   clear ho8 hk8 hb8)
    all_goals go_wp2
    all_goals go_ret
    all_goals
      have k8 := K8.out
      rw [← HQ.out] at k8
      have p8 := H13.out.pushed (wa := wa) (wc := wc) k8 c O8.out (fun i hi => by
        rcases B8.out i hi with e | e
        · exact .inl (by rw [HQ.out]; exact e)
        · exact .inr (Nat.le_trans (by simp) e)) (by simp only; omega)
      exact ⟨by rw [HE2.out]; rfl, by rw [HE2.out]; exact DeskPost.trans KP.out (fun i hi => .inl hi) rfl rfl p8⟩
  · rw [decide_eq_false t3, cond_false] at HE
    have b3 : (c.k == 1) = false := beq_eq_false_iff_ne.2 t3
    clear t3
    go_region
    go_upto_region 11 with fail
    refine wp_world ?_
    intro W6 hW6
    have kk : Keeps No W5 W6 := by rw [hW6]; exact (Keeps.refl W5).drew
    have K6 : Hid (Keeps No w W6) := Lib.hid (K5.out.trans kk (fun _ _ h => h))
    have e1 := kk.cell c1 (fun h => h)
    have j1 := kk.cellsAt i1
    have C6 := Lib.hid (kk.cellsAt C5.out)
    have H6 := Lib.hid (H.out.no K6.out)
    clear hW6 kk i1 i4 m0 m4 m8 m9 c0 c1 c2 C5 K5 H5
    have CA := Lib.hid (poolAlive_any (H6.out.no ((Keeps.refl W6).drew)).pool c.id)
    obtain ⟨T, hT⟩ : ∃ b, b = aliveP k.pl c.id := ⟨_, rfl⟩
    rw [← hT] at CA HE
    have HT := Lib.hid hT
    clear hT
    have L1 : ∀ w', Keeps No W6 w' → w'.cell? ⟨D.d, 1, none⟩ = some (dP D.p) := fun w' q => q.cell e1 (fun h => h)
    have L2 : ∀ w', Keeps No W6 w' → cellsAt w' w.heap.size 1 3 = some (namC c.id) := fun w' q => q.cellsAt j1
    go_region_held3 (fun w' => Keeps No W6 w')
      (first | assumption | exact (Keeps.refl W6).drew | exact Keeps.refl W6)
      (first
        | (go_at_call 63
           have hc := CA.out
           with_reducible refine hc.mono ?_
           clear hc
           rintro e w9 ⟨rfl, hk⟩
           have hS1 : Keeps No W6 w9 := Keeps.trans (by first | assumption | exact (Keeps.refl W6).drew | exact Keeps.refl W6) hk (fun _ _ h => h)))
    have K9 : Hid (Keeps No w w9) := Lib.hid (K6.out.trans hS1 (fun _ _ h => h))
    have C13 : Hid (cellsAt w9 w.heap.size 0 16 = some (cmC c)) := Lib.hid (hS1.cellsAt C6.out)
    have H13 := Lib.hid (H.out.no K9.out)
    have KP : Hid (Keeps (DeskS D) w w9) := Lib.hid (K9.out.mono (fun _ _ h => h.elim))
    clear hS1 e1 j1 L1 L2 CA
    cases T
    case false =>
      have HE2 : Hid (E = (9, k)) := Lib.hid (by rw [HE.out]; rfl)
      go_wp2
      go_ret
      exact ⟨by rw [HE2.out]; rfl, by rw [HE2.out]; exact ⟨D, H13.out, KP.out, fun i hi => .inl hi, rfl, rfl⟩⟩
    have HE2 : Hid (E = (0, ⟨k.z, k.pl, k.q ++ [c], k.t, k.o⟩)) := Lib.hid (by rw [HE.out]; rfl)
    go_upto_region 13 with fail
    refine wp_world ?_
    intro W13 hW13
    subst hW13
    have O13 := Lib.hid H13.out.q
    rw [HQ.out] at O13
    have d2 : W13.cell? ⟨D.d, 2, none⟩ = some (.slice qa k.q.length qc) := by rw [(H13.out.cells).2.2.1, HQ.out]
    have f2 : W13.frozen? ⟨D.d, 2, none⟩ = false := frozen_of_row _ _ _ _ _ H13.out.box
    have c13 := C13.out
    have l13 : D.d < W13.heap.size := H13.out.lt (.inl rfl)
    have lb13 : w.heap.size < W13.heap.size := cellsAt_block c13
    have Hown : Hid (OwnOf cCm cmdT ((W13.alloc (.cells (cmC c).toArray cmdT)).drew) base (.slice qa k.q.length qc) k.q) := Lib.hid ((((Keeps.refl (S := No) W13).alloc _).drew).owns O13.out (fun _ _ h => h))
    have Hrd : Hid (Reads ((W13.alloc (.cells (cmC c).toArray cmdT)).drew) 16 (.slice (some ⟨W13.heap.size, 0, none⟩) 1 1) 1 (cmC c)) := Lib.hid (Reads.kept (S := No) ((Keeps.refl _).drew) (litR cCm W13 cmdT c) (fun _ _ h => h))
    have HB : Hid (base ≤ W13.heap.size) := Lib.hid (Nat.le_of_lt (Nat.lt_of_le_of_lt (show base ≤ D.d from H13.out.bd) l13))
    have HBX := Lib.hid (H13.out.q_box)
    have HF := Lib.hid hq64
    go_region_law (refine step_append_reads rfl (.tmp 78) (.tmp 80) 33 rfl base cmdT i0 _ 16 128 Tryz.underlying33 hi hz0 hz1 hz2 rfl (by decide) (.slice qa k.q.length qc) k.q.length (rowsOf cCm k.q) rfl Hown.out _ 1 (cmC c) rfl Hrd.out (by have := HF.out; unfold maxLen; omega) (by have := HF.out; omega) (by have := HB.out; simp; omega) ?_
                   intro v' w8 ho8 hk8 hb8 _
                   have K8 : Hid (Keeps (Of (.slice qa k.q.length qc)) W13 w8) := Lib.hid (((((Keeps.refl (S := No) W13).alloc _).drew).mono (fun _ _ h => h.elim)).trans hk8 (fun _ _ h => h))
                   have O8 := Lib.hid ho8
                   have B8 := Lib.hid hb8
                   have G8 := Lib.hid (K8.out.heap H13.out.box (fun e => HBX.out D.d (by rw [HQ.out]; exact e) rfl))
                   obtain ⟨wa, wc, rfl⟩ := ownsRow_slice ho8
                   have q0 : w8.cell? ⟨D.d, 2, none⟩ = some (.slice qa k.q.length qc) := by rw [cell_of_row _ _ _ _ _ _ G8.out, HQ.out]; rfl
                   have q1 : w8.frozen? ⟨D.d, 2, none⟩ = false := frozen_of_row _ _ _ _ _ G8.out
                   clear ho8 hk8 hb8)
    all_goals go_wp2
    all_goals go_ret
    all_goals
      have k8 := K8.out
      rw [← HQ.out] at k8
      have p8 := H13.out.pushed (wa := wa) (wc := wc) k8 c O8.out (fun i hi => by
        rcases B8.out i hi with e | e
        · exact .inl (by rw [HQ.out]; exact e)
        · exact .inr (Nat.le_trans (by simp) e)) (by omega)
      exact ⟨by rw [HE2.out]; rfl, by rw [HE2.out]; exact DeskPost.trans KP.out (fun i hi => .inl hi) rfl rfl p8⟩
end
end Go.Proofs.YtndjnkjcfdaegaaGreatDoor

/-
  How a command would be let in by a desk. No conditions of its own.
-/
namespace Go.Proofs.YtndjnkjcfdaegaaGreatDoor
open Go.RowKit Go.Shelf Go.Sort Go.Joins Go.Deep

def LookPost (w : World) (x : Cm × Bool × Int) (e : Ending) (w' : World) : Prop := e = .returned (.tuple #[cmV x.1, .bool x.2.1, .int .i64 x.2.2]) ∧ Keeps No w w'
/-- the two boxes of Look -/
structure LkAt (w W : World) (c : Cm) : Prop where
  kp : Keeps No w W
  b : W.heap[w.heap.size]? = some (.cells (cmC c).toArray cmdT (0, 0))
  z : W.heap[w.heap.size + 1]? = some (.cells (cmC Cm.zero).toArray cmdT (0, 0))
theorem LkAt.no {w W W' : World} {c : Cm} (h : LkAt w W c) (k : Keeps No W W') : LkAt w W' c := ⟨h.kp.trans k (fun _ _ h => h), k.heap h.b (fun h => h), k.heap h.z (fun h => h)⟩
theorem LkAt.opened {w W : World} {c : Cm} (h : LkAt w W c) : Open W (w.heap.size + 1) ∧ (rowD W (w.heap.size + 1)).size = 16 ∧ Open W w.heap.size ∧ (rowD W w.heap.size).size = 16 :=
  ⟨⟨_, _, h.z⟩, by unfold rowD; rw [h.z]; rfl, ⟨_, _, h.b⟩, by unfold rowD; rw [h.b]; rfl⟩
theorem LkAt.cells {w W : World} {c : Cm} (h : LkAt w W c) : cellsAt W w.heap.size 0 16 = some (cmC c) := by unfold cellsAt; rw [h.b]; rfl
theorem neqNam0_run (W : World) (a : Nam) : (binOp .neq 36 (namV a) (.agg #[.int .i64 0, .int .i64 0, .int .i64 0])).run Tryz.prog W = .ok (.bool (!neq a Nam.zero)) W := neqNam_run W a
section
variable {w w' : World} {base : Nat} {D : Dp} {k : Dk} {S : Nat → Prop}
theorem LkAt.row_out {w W : World} {c : Cm} (h : LkAt w W c) (x : Cm) : cellsAt (W.setRow (w.heap.size + 1) (cmC x).toArray) (w.heap.size + 1) 0 16 = some (cmC x) ∧ Keeps No w (W.setRow (w.heap.size + 1) (cmC x).toArray) :=
  ⟨by rw [cellsAt_setRow_at _ _ _ _ _ h.opened.1]; rfl, h.kp.setRow (S := No) (fun hlt => absurd hlt (by omega)) _⟩
set_option maxRecDepth 100000 in
set_option maxHeartbeats 4000000 in
theorem deskLook_else (h : DeskAt w base D k) (c : Cm) (hk1 : ¬ c.k = 1) : Calls Tryz.prog 24 #[dP D.d, cmV c] w (LookPost w (lookD k c)) := by
  have b1 : (c.k == 1) = false := beq_eq_false_iff_ne.2 hk1
  obtain ⟨c0, c1, c2, _, _⟩ := h.cells
  obtain ⟨qa, qc, hq⟩ := ownsRow_slice h.q
  rw [hq] at c2
  have z6 : w.cell? ⟨D.m, 6, none⟩ = some (.int .i64 k.z.q) := by
    have := cellsAt_cell h.map 6 _ rfl
    simpa using this
  obtain ⟨E, hE⟩ : ∃ x, x = lookD k c := ⟨_, rfl⟩
  rw [← hE]
  unfold lookD at hE
  have H := Lib.hid h
  have HE := Lib.hid hE
  have CK := Lib.hid (fun W => checkCmd_any W c)
  have hq64 : (k.q.length : Int) ≤ 64 := by have := h.ok.few; omega
  have HC := Lib.hid (And.intro c0 (And.intro c1 (And.intro c2 z6)))
  clear h hq hE c0 c1 c2 z6
  obtain ⟨T1, hT1⟩ : ∃ b, b = cmdOk c := ⟨_, rfl⟩
  rw [← hT1] at HE CK
  clear hT1
  have en := fun W => neqNam0_run W c.b.id
  obtain ⟨N, hN⟩ : ∃ b, b = neq c.b.id Nam.zero := ⟨_, rfl⟩
  rw [← hN] at HE en
  clear hN
  go_enter Tryz.func24, Tryz.ntmps24
  go_upto_region 1 with fail
  refine wp_world ?_
  intro W0 hW0
  have A0 : Hid (LkAt w W0 c) := Lib.hid (by
    rw [hW0]
    refine ⟨((Keeps.refl w).alloc _).alloc _, ?_, ?_⟩
    · rw [Below.heap_alloc _ _ _ (by simp)]
      exact heap_alloc_new w _
    · have h0 := heap_alloc_new (w.alloc (.cells (cmC c).toArray cmdT)) (.cells (cmC Cm.zero).toArray cmdT)
      have e : (w.alloc (.cells (cmC c).toArray cmdT)).heap.size = w.heap.size + 1 := by simp
      rw [e] at h0
      exact h0)
  clear hW0
  have k0 : W0.cell? ⟨w.heap.size, 0, none⟩ = some (.int .i64 c.k) := by rw [cell_of_row _ _ _ _ _ _ A0.out.b]; rfl
  have k1 := A0.out.cells
  go_wp2_with fail
  (with_reducible refine (CK.out _).mono ?_)
  rintro e W ⟨rfl, hg⟩
  have A1 := Lib.hid (A0.out.no hg.keeps)
  clear hg k0 k1 CK A0
  cases T1
  case false =>
    have HE2 : Hid (E = (Cm.zero, false, 1)) := Lib.hid (by rw [HE.out]; rfl)
    simp only [errB, cond_false]
    obtain ⟨oz, sz, _, _⟩ := A1.out.opened
    clear HE
    go_wp2
    obtain ⟨hcr, hkk⟩ := A1.out.row_out Cm.zero
    have hgoal : LookPost w E (.returned (.tuple #[cmV Cm.zero, .bool false, .int .i64 (1)])) _ := ⟨by rw [HE2.out], hkk⟩
    refine bodyPost_ret (v := .tuple #[cmV Cm.zero, .bool false, .int .i64 (1)]) ?_ rfl hgoal
    clear hgoal hkk
    simp only [cmC, Cm.zero, Bd.zero] at hcr
    simp [results, Tryz.results24, go_sem, hcr, Cm.zero, Bd.zero]
  simp only [errB, cond_true]
  rw [decide_eq_false hk1] at HE
  simp only [Bool.not_true, Bool.false_and, Bool.or_self, cond_false] at HE
  clear hk1
  -- the zone
  obtain ⟨c0, _, _, _⟩ := HC.out
  replace c0 := A1.out.kp.cell c0 (fun h => h)
  have m8 := cellsAt_cell A1.out.cells 8 _ rfl
  have m9 := cellsAt_cell A1.out.cells 9 _ rfl
  simp only [Nat.zero_add] at m8 m9
  have CO := Lib.hid (deskOf_any (H.out.no (A1.out.kp.drew)) c.b.x c.b.y)
  obtain ⟨Z, hZ⟩ : ∃ Z, Z = zoneI k.z c.b.x c.b.y := ⟨_, rfl⟩
  rw [← hZ] at CO
  have L0 : ∀ w', Keeps No W w' → w'.cell? ⟨D.d, 0, none⟩ = some (dP D.m) := fun w' q => q.cell c0 (fun h => h)
  have L8 : ∀ w', Keeps No W w' → w'.cell? ⟨w.heap.size, 8, none⟩ = some (.int .i64 c.b.x) := fun w' q => q.cell m8 (fun h => h)
  have L9 : ∀ w', Keeps No W w' → w'.cell? ⟨w.heap.size, 9, none⟩ = some (.int .i64 c.b.y) := fun w' q => q.cell m9 (fun h => h)
  clear hZ
  go_upto_region 4 with fail
  go_region_held3 (fun w' => Keeps No W w')
    (first | assumption | exact (Keeps.refl W).drew | exact Keeps.refl W)
    (first
      | (go_at_call 62
         have hc := CO.out
         with_reducible refine hc.mono ?_
         clear hc
         rintro e w6 ⟨rfl, hk⟩
         have hS1 : Keeps No W w6 := Keeps.trans (by first | assumption | exact (Keeps.refl W).drew | exact Keeps.refl W) hk (fun _ _ h => h)))
  have A6 := Lib.hid (A1.out.no hS1)
  clear hS1 L0 L8 L9 m8 m9 c0 CO A1 en
  -- is it somebody's?
  obtain ⟨_, c1, c2, z6⟩ := HC.out
  replace c1 := A6.out.kp.cell c1 (fun h => h)
  have i1 : cellsAt w6 w.heap.size 1 3 = some (namC c.id) := cellsAt_part A6.out.cells 1 (namC c.id) rfl (by simp)
  have CA := Lib.hid (poolAlive_any (H.out.no (A6.out.kp.drew)).pool c.id)
  obtain ⟨T, hT⟩ : ∃ b, b = aliveP k.pl c.id := ⟨_, rfl⟩
  rw [← hT] at CA HE
  have L1 : ∀ w', Keeps No w6 w' → w'.cell? ⟨D.d, 1, none⟩ = some (dP D.p) := fun w' q => q.cell c1 (fun h => h)
  have L2 : ∀ w', Keeps No w6 w' → cellsAt w' w.heap.size 1 3 = some (namC c.id) := fun w' q => q.cellsAt i1
  clear hT
  go_upto_region 7 with fail
  go_region_held3 (fun w' => Keeps No w6 w')
    (first | assumption | exact (Keeps.refl w6).drew | exact Keeps.refl w6)
    (first
      | (go_at_call 63
         have hc := CA.out
         with_reducible refine hc.mono ?_
         clear hc
         rintro e w7 ⟨rfl, hk⟩
         have hS2 : Keeps No w6 w7 := Keeps.trans (by first | assumption | exact (Keeps.refl w6).drew | exact Keeps.refl w6) hk (fun _ _ h => h)))
  have A7 := Lib.hid (A6.out.no hS2)
  clear hS2 L1 L2 i1 c1 CA A6
  cases T
  case false =>
    have HE2 : Hid (E = (Cm.zero, false, 9)) := Lib.hid (by rw [HE.out]; rfl)
    obtain ⟨oz, sz, _, _⟩ := A7.out.opened
    clear HE c2 z6
    go_wp2
    obtain ⟨hcr, hkk⟩ := A7.out.row_out Cm.zero
    have hgoal : LookPost w E (.returned (.tuple #[cmV Cm.zero, .bool false, .int .i64 (9)])) _ := ⟨by rw [HE2.out], hkk⟩
    refine bodyPost_ret (v := .tuple #[cmV Cm.zero, .bool false, .int .i64 (9)]) ?_ rfl hgoal
    clear hgoal hkk
    simp only [cmC, Cm.zero, Bd.zero] at hcr
    simp [results, Tryz.results24, go_sem, hcr, Cm.zero, Bd.zero]
  simp only [Bool.not_true, cond_false] at HE
  -- does it wait for its end?
  have CW := Lib.hid (deskWaits_any (H.out.no A7.out.kp) c.id)
  obtain ⟨T, hT⟩ : ∃ b, b = waitsQ k.q c.id := ⟨_, rfl⟩
  rw [← hT] at CW HE
  have i2 : cellsAt w7 w.heap.size 1 3 = some (namC c.id) := cellsAt_part A7.out.cells 1 (namC c.id) rfl (by simp)
  clear hT
  go_wp2_with fail
  (with_reducible refine CW.out.mono ?_)
  rintro e w8 ⟨rfl, hk8⟩
  have A8 := Lib.hid (A7.out.no hk8)
  clear hk8 i2 CW A7
  cases T
  case true =>
    have HE2 : Hid (E = (Cm.zero, false, 10)) := Lib.hid (by rw [HE.out]; rfl)
    obtain ⟨oz, sz, _, _⟩ := A8.out.opened
    clear HE c2 z6
    go_wp2
    obtain ⟨hcr, hkk⟩ := A8.out.row_out Cm.zero
    have hgoal : LookPost w E (.returned (.tuple #[cmV Cm.zero, .bool false, .int .i64 (10)])) _ := ⟨by rw [HE2.out], hkk⟩
    refine bodyPost_ret (v := .tuple #[cmV Cm.zero, .bool false, .int .i64 (10)]) ?_ rfl hgoal
    clear hgoal hkk
    simp only [cmC, Cm.zero, Bd.zero] at hcr
    simp [results, Tryz.results24, go_sem, hcr, Cm.zero, Bd.zero]
  simp only [cond_false] at HE
  obtain ⟨c0, _, _, _⟩ := HC.out
  replace c0 := A8.out.kp.cell c0 (fun h => h)
  replace c2 := A8.out.kp.cell c2 (fun h => h)
  replace z6 := A8.out.kp.cell z6 (fun h => h)
  go_upto_region 11 with fail
  by_cases t2 : k.z.q ≤ (k.q.length : Int)
  · have HE2 : Hid (E = (Cm.zero, false, 8)) := Lib.hid (by rw [HE.out, decide_eq_true t2]; rfl)
    clear HE
    go_region
    go_upto_region 12 with fail
    refine wp_world ?_
    intro W9 hW9
    have A9 : Hid (LkAt w W9 c) := Lib.hid (by rw [hW9]; exact A8.out.no ((Keeps.refl w8).drew))
    obtain ⟨oz, sz, _, _⟩ := A9.out.opened
    clear hW9
    go_wp2
    obtain ⟨hcr, hkk⟩ := A9.out.row_out Cm.zero
    have hgoal : LookPost w E (.returned (.tuple #[cmV Cm.zero, .bool false, .int .i64 (8)])) _ := ⟨by rw [HE2.out], hkk⟩
    refine bodyPost_ret (v := .tuple #[cmV Cm.zero, .bool false, .int .i64 (8)]) ?_ rfl hgoal
    clear hgoal hkk
    simp only [cmC, Cm.zero, Bd.zero] at hcr
    simp [results, Tryz.results24, go_sem, hcr, Cm.zero, Bd.zero]
  · have HE2 : Hid (E = (c, false, 0)) := Lib.hid (by rw [HE.out, decide_eq_false t2]; rfl)
    clear HE
    go_region
    go_upto_region 14 with fail
    refine wp_world ?_
    intro W9 hW9
    have A9 : Hid (LkAt w W9 c) := Lib.hid (by rw [hW9]; exact A8.out.no ((Keeps.refl w8).drew))
    obtain ⟨oz, sz, _, _⟩ := A9.out.opened
    clear hW9
    have k1 := A9.out.cells
    go_wp2
    obtain ⟨hcr, hkk⟩ := A9.out.row_out c
    have hgoal : LookPost w E (.returned (.tuple #[cmV c, .bool false, .int .i64 (0)])) _ := ⟨by rw [HE2.out], hkk⟩
    refine bodyPost_ret (v := .tuple #[cmV c, .bool false, .int .i64 (0)]) ?_ rfl hgoal
    clear hgoal hkk
    simp [results, Tryz.results24, go_sem, hcr]
set_option maxRecDepth 100000 in
set_option maxHeartbeats 4000000 in
theorem deskLook_spawn (h : DeskAt w base D k) (c : Cm) (hk1 : c.k = 1) : Calls Tryz.prog 24 #[dP D.d, cmV c] w (LookPost w (lookD k c)) := by
  have b1 : (c.k == 1) = true := by rw [hk1]; rfl
  have HK1 := Lib.hid hk1
  clear hk1
  obtain ⟨c0, c1, c2, _, _⟩ := h.cells
  obtain ⟨qa, qc, hq⟩ := ownsRow_slice h.q
  rw [hq] at c2
  have z6 : w.cell? ⟨D.m, 6, none⟩ = some (.int .i64 k.z.q) := by
    have := cellsAt_cell h.map 6 _ rfl
    simpa using this
  obtain ⟨E, hE⟩ : ∃ x, x = lookD k c := ⟨_, rfl⟩
  rw [← hE]
  unfold lookD at hE
  have H := Lib.hid h
  have HE := Lib.hid hE
  have CK := Lib.hid (fun W => checkCmd_any W c)
  have hq64 : (k.q.length : Int) ≤ 64 := by have := h.ok.few; omega
  have HC := Lib.hid (And.intro c0 (And.intro c1 (And.intro c2 z6)))
  clear h hq hE c0 c1 c2 z6
  obtain ⟨T1, hT1⟩ : ∃ b, b = cmdOk c := ⟨_, rfl⟩
  rw [← hT1] at HE CK
  clear hT1
  have en := fun W => neqNam0_run W c.b.id
  obtain ⟨N, hN⟩ : ∃ b, b = neq c.b.id Nam.zero := ⟨_, rfl⟩
  rw [← hN] at HE en
  clear hN
  go_enter Tryz.func24, Tryz.ntmps24
  go_upto_region 1 with fail
  refine wp_world ?_
  intro W0 hW0
  have A0 : Hid (LkAt w W0 c) := Lib.hid (by
    rw [hW0]
    refine ⟨((Keeps.refl w).alloc _).alloc _, ?_, ?_⟩
    · rw [Below.heap_alloc _ _ _ (by simp)]
      exact heap_alloc_new w _
    · have h0 := heap_alloc_new (w.alloc (.cells (cmC c).toArray cmdT)) (.cells (cmC Cm.zero).toArray cmdT)
      have e : (w.alloc (.cells (cmC c).toArray cmdT)).heap.size = w.heap.size + 1 := by simp
      rw [e] at h0
      exact h0)
  clear hW0
  have k0 : W0.cell? ⟨w.heap.size, 0, none⟩ = some (.int .i64 c.k) := by rw [cell_of_row _ _ _ _ _ _ A0.out.b]; rfl
  have k1 := A0.out.cells
  go_wp2_with fail
  (with_reducible refine (CK.out _).mono ?_)
  rintro e W ⟨rfl, hg⟩
  have A1 := Lib.hid (A0.out.no hg.keeps)
  clear hg k0 k1 CK A0
  cases T1
  case false =>
    have HE2 : Hid (E = (Cm.zero, false, 1)) := Lib.hid (by rw [HE.out]; rfl)
    simp only [errB, cond_false]
    obtain ⟨oz, sz, _, _⟩ := A1.out.opened
    clear HE
    go_wp2
    obtain ⟨hcr, hkk⟩ := A1.out.row_out Cm.zero
    have hgoal : LookPost w E (.returned (.tuple #[cmV Cm.zero, .bool false, .int .i64 (1)])) _ := ⟨by rw [HE2.out], hkk⟩
    refine bodyPost_ret (v := .tuple #[cmV Cm.zero, .bool false, .int .i64 (1)]) ?_ rfl hgoal
    clear hgoal hkk
    simp only [cmC, Cm.zero, Bd.zero] at hcr
    simp [results, Tryz.results24, go_sem, hcr, Cm.zero, Bd.zero]
  simp only [errB, cond_true]
  rw [decide_eq_true HK1.out] at HE
  simp only [Bool.not_true, Bool.true_and, Bool.false_or, cond_true] at HE
  have i4 : cellsAt W w.heap.size 4 3 = some (namC c.b.id) := cellsAt_part A1.out.cells 4 (namC c.b.id) rfl (by simp)
  cases N
  case false =>
    have HE2 : Hid (E = (Cm.zero, false, 1)) := Lib.hid (by rw [HE.out]; rfl)
    obtain ⟨oz, sz, _, _⟩ := A1.out.opened
    clear HE
    go_wp2
    obtain ⟨hcr, hkk⟩ := A1.out.row_out Cm.zero
    have hgoal : LookPost w E (.returned (.tuple #[cmV Cm.zero, .bool false, .int .i64 (1)])) _ := ⟨by rw [HE2.out], hkk⟩
    refine bodyPost_ret (v := .tuple #[cmV Cm.zero, .bool false, .int .i64 (1)]) ?_ rfl hgoal
    clear hgoal hkk
    simp only [cmC, Cm.zero, Bd.zero] at hcr
    simp [results, Tryz.results24, go_sem, hcr, Cm.zero, Bd.zero]
  simp only [Bool.not_true, cond_false] at HE
  obtain ⟨c0, _, _, _⟩ := HC.out
  replace c0 := A1.out.kp.cell c0 (fun h => h)
  have m8 := cellsAt_cell A1.out.cells 8 _ rfl
  have m9 := cellsAt_cell A1.out.cells 9 _ rfl
  simp only [Nat.zero_add] at m8 m9
  have CO := Lib.hid (deskOf_any (H.out.no (A1.out.kp.drew)) c.b.x c.b.y)
  obtain ⟨Z, hZ⟩ : ∃ Z, Z = c.zone k.z := ⟨_, rfl⟩
  have CO' : Hid (Calls Tryz.prog 62 #[dP D.m, .int .i64 c.b.x, .int .i64 c.b.y] W.drew fun e w' => e = .returned (.int .i64 Z) ∧ Keeps No W.drew w') := Lib.hid (by rw [hZ]; exact CO.out)
  rw [← hZ] at HE
  have L0 : ∀ w', Keeps No W w' → w'.cell? ⟨D.d, 0, none⟩ = some (dP D.m) := fun w' q => q.cell c0 (fun h => h)
  have L8 : ∀ w', Keeps No W w' → w'.cell? ⟨w.heap.size, 8, none⟩ = some (.int .i64 c.b.x) := fun w' q => q.cell m8 (fun h => h)
  have L9 : ∀ w', Keeps No W w' → w'.cell? ⟨w.heap.size, 9, none⟩ = some (.int .i64 c.b.y) := fun w' q => q.cell m9 (fun h => h)
  clear hZ CO
  go_upto_region 4 with fail
  go_region_held3 (fun w' => Keeps No W w')
    (first | assumption | exact (Keeps.refl W).drew | exact Keeps.refl W)
    (first
      | (go_at_call 62
         have hc := CO'.out
         with_reducible refine hc.mono ?_
         clear hc
         rintro e w6 ⟨rfl, hk⟩
         have hS1 : Keeps No W w6 := Keeps.trans (by first | assumption | exact (Keeps.refl W).drew | exact Keeps.refl W) hk (fun _ _ h => h)))
  have A6 := Lib.hid (A1.out.no hS1)
  clear hS1 L0 L8 L9 m8 m9 c0 CO' A1 en i4
  by_cases tz : Z < 0
  · have HE2 : Hid (E = (Cm.zero, false, 5)) := Lib.hid (by rw [HE.out, decide_eq_true tz]; rfl)
    obtain ⟨oz, sz, _, _⟩ := A6.out.opened
    clear HE
    go_wp2
    obtain ⟨hcr, hkk⟩ := A6.out.row_out Cm.zero
    have hgoal : LookPost w E (.returned (.tuple #[cmV Cm.zero, .bool false, .int .i64 (5)])) _ := ⟨by rw [HE2.out], hkk⟩
    refine bodyPost_ret (v := .tuple #[cmV Cm.zero, .bool false, .int .i64 (5)]) ?_ rfl hgoal
    clear hgoal hkk
    simp only [cmC, Cm.zero, Bd.zero] at hcr
    simp [results, Tryz.results24, go_sem, hcr, Cm.zero, Bd.zero]
  rw [decide_eq_false tz, cond_false] at HE
  go_upto_region 7 with fail
  go_region
  go_upto_region 11 with fail
  refine wp_world ?_
  intro W8 hW8
  have A8 : Hid (LkAt w W8 c) := Lib.hid (by rw [hW8]; exact A6.out.no ((Keeps.refl w6).drew))
  clear hW8 A6
  obtain ⟨c0, c1, c2, z6⟩ := HC.out
  replace c0 := A8.out.kp.cell c0 (fun h => h)
  replace c1 := A8.out.kp.cell c1 (fun h => h)
  replace c2 := A8.out.kp.cell c2 (fun h => h)
  replace z6 := A8.out.kp.cell z6 (fun h => h)
  by_cases t2 : k.z.q ≤ (k.q.length : Int)
  · have HE2 : Hid (E = (Cm.zero, false, 8)) := Lib.hid (by rw [HE.out, decide_eq_true t2]; rfl)
    clear HE
    go_region
    go_upto_region 12 with fail
    refine wp_world ?_
    intro W9 hW9
    have A9 : Hid (LkAt w W9 c) := Lib.hid (by rw [hW9]; exact A8.out.no ((Keeps.refl W8).drew))
    obtain ⟨oz, sz, _, _⟩ := A9.out.opened
    clear hW9
    go_wp2
    obtain ⟨hcr, hkk⟩ := A9.out.row_out Cm.zero
    have hgoal : LookPost w E (.returned (.tuple #[cmV Cm.zero, .bool false, .int .i64 (8)])) _ := ⟨by rw [HE2.out], hkk⟩
    refine bodyPost_ret (v := .tuple #[cmV Cm.zero, .bool false, .int .i64 (8)]) ?_ rfl hgoal
    clear hgoal hkk
    simp only [cmC, Cm.zero, Bd.zero] at hcr
    simp [results, Tryz.results24, go_sem, hcr, Cm.zero, Bd.zero]
  rw [decide_eq_false t2, cond_false] at HE
  go_region
  go_upto_region 15 with fail
  refine wp_world ?_
  intro W9 hW9
  have A9 : Hid (LkAt w W9 c) := Lib.hid (by rw [hW9]; exact A8.out.no ((Keeps.refl W8).drew))
  replace c1 : W9.cell? ⟨D.d, 1, none⟩ = some (dP D.p) := by rw [hW9]; exact c1
  clear hW9 A8 c0 c2 z6
  have CH := Lib.hid (poolHead_any (H.out.no A9.out.kp).pool Z)
  obtain ⟨hd, hhd⟩ : ∃ x, x = headP k.pl Z := ⟨_, rfl⟩
  rw [← hhd] at CH HE
  obtain ⟨ix, sd, he⟩ := hd
  clear hhd
  simp only at CH HE
  go_wp2_with fail
  (with_reducible refine CH.out.mono ?_)
  rintro e w10 ⟨rfl, hk10⟩
  have A10 := Lib.hid (A9.out.no hk10)
  replace c1 := hk10.cell c1 (fun h => h)
  clear hk10 CH A9
  by_cases th : he = 0
  case neg =>
    have HE2 : Hid (E = (Cm.zero, false, 13)) := Lib.hid (by rw [HE.out, decide_eq_false th]; rfl)
    obtain ⟨oz, sz, _, _⟩ := A10.out.opened
    clear HE
    go_wp2
    obtain ⟨hcr, hkk⟩ := A10.out.row_out Cm.zero
    have hgoal : LookPost w E (.returned (.tuple #[cmV Cm.zero, .bool false, .int .i64 (13)])) _ := ⟨by rw [HE2.out], hkk⟩
    refine bodyPost_ret (v := .tuple #[cmV Cm.zero, .bool false, .int .i64 (13)]) ?_ rfl hgoal
    clear hgoal hkk
    simp only [cmC, Cm.zero, Bd.zero] at hcr
    simp [results, Tryz.results24, go_sem, hcr, Cm.zero, Bd.zero]
  rw [decide_eq_true th] at HE
  simp only [Bool.not_true, cond_false] at HE
  have CG := Lib.hid (poolGen_any (H.out.no A10.out.kp).pool Z ix)
  obtain ⟨gn, hgn⟩ : ∃ x, x = genP k.pl Z ix := ⟨_, rfl⟩
  rw [← hgn] at CG HE
  clear hgn
  go_wp2_with fail
  (with_reducible refine CG.out.mono ?_)
  rintro e w11 ⟨rfl, hk11⟩
  have A11 := Lib.hid (A10.out.no hk11)
  obtain ⟨oz, sz, ob, sb⟩ := A11.out.opened
  clear hk11 CG A10
  obtain ⟨nm, hnm⟩ : ∃ nm : Nam, nm = ⟨Z, ix, gn⟩ := ⟨_, rfl⟩
  have HNM := Lib.hid hnm
  have HE2 : Hid (E = (c.named nm, !sd, 0)) := Lib.hid (by rw [HE.out, hnm])
  clear hnm HE
  go_upto_region 19 with fail
  refine wp_world ?_
  intro W12 hW12
  have A12 : Hid (LkAt w W12 (c.named nm)) := Lib.hid (by
    have hr : rowD w11 w.heap.size = (cmC c).toArray := by unfold rowD; rw [A11.out.b]
    rw [hW12, hr]
    have e : splice (cmC c).toArray 4 [.int .i64 Z, .int .i64 ix, .int .i64 gn] = (cmC (c.named nm)).toArray := by rw [HNM.out]; rfl
    rw [e]
    have kR : Keeps (Own w.heap.size) w11 (w11.setRow w.heap.size (cmC (c.named nm)).toArray) := (Keeps.refl (S := Own w.heap.size) w11).setRow (fun _ => (rfl : w.heap.size = w.heap.size)) _
    exact ⟨A11.out.kp.trans kR (fun i hi e => by have e : i = w.heap.size := e; omega), setRow_heap _ _ _ _ _ _ A11.out.b, kR.heap A11.out.z (fun e => by have e : w.heap.size + 1 = w.heap.size := e; omega)⟩)
  clear hW12 oz sz ob sb A11
  obtain ⟨oz, sz, _, _⟩ := A12.out.opened
  have k1 := A12.out.cells
  go_wp2
  obtain ⟨hcr, hkk⟩ := A12.out.row_out (c.named nm)
  have hgoal : LookPost w E (.returned (.tuple #[cmV (c.named nm), .bool (!sd), .int .i64 (0)])) _ := ⟨by rw [HE2.out], hkk⟩
  refine bodyPost_ret (v := .tuple #[cmV (c.named nm), .bool (!sd), .int .i64 (0)]) ?_ rfl hgoal
  clear hgoal hkk
  simp [results, Tryz.results24, go_sem, hcr]
theorem deskLook_any (h : DeskAt w base D k) (c : Cm) : Calls Tryz.prog 24 #[dP D.d, cmV c] w (LookPost w (lookD k c)) := by
  by_cases hk1 : c.k = 1
  · exact deskLook_spawn h c hk1
  · exact deskLook_else h c hk1
end
end Go.Proofs.YtndjnkjcfdaegaaGreatDoor

