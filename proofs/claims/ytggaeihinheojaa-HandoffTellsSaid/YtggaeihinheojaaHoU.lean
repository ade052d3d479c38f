/-
  The document's Says. No conditions of its own.
-/
import Derived.Test.YtggaeihinheojaaHoT
import Derived.Deep.RegionHeld3
namespace Go.Proofs.Ytggaeihinheojaa
open Go.RowKit

theorem open_lt {w : World} {b : Nat} (h : Open w b) : b < w.heap.size := by
  obtain ⟨C, t, hc⟩ := h
  exact (Array.getElem?_eq_some_iff.1 hc).1

section
variable {w : World} {ep t nx : Int} {own dead outs ins gh : Value}

theorem rtell_m {l : List Ou} (hv : RdOf cOu w outs l) (o : Ou) (ho : o ∈ l) (hst : (o.st == 1) = false) :
    Calls Try.prog 20 #[stV ep t own dead outs ins gh nx, .int .i64 o.n] w fun e w' => ∃ (tg : Int) (m : Ms), e = .returned (.tuple #[.int .i64 tg, .agg (msC m).toArray, .bool true]) ∧
      mcOf m = mcO (foundOf l o) ∧ RdOf cBd w' (.slice m.a m.bs.length m.c) m.bs ∧ (∀ k, (Value.slice m.a m.bs.length m.c).ownBlock = some k → w.heap.size ≤ k ∧ k < w'.heap.size) ∧ Keeps No w w' := by
  rcases firstOf_cases (tellPr o.n) l with ⟨_, h1⟩ | ⟨j, hf, hj, hp, hno⟩
  · have := h1 o ho
    simp [tellPr] at this
    simp [this] at hst
  · have hfo : foundOf l o = l[j] := by
      have : l.find? (tellPr o.n) = some l[j] := by
        rw [List.find?_eq_some_iff_getElem]
        exact ⟨hp, j, hj, rfl, fun i hi => by simpa using hno i hi (by omega)⟩
      unfold foundOf
      rw [this]
    cases hs : (l[j].st == 2)
    · refine (rtell_9 hv o.n j hj hf hs).mono ?_
      rintro e w' ⟨rfl, hk⟩
      refine ⟨_, ⟨9, l[j].n, none, 0, []⟩, rfl, ?_, rdNil cBd _, (fun k hk => by cases hk), hk⟩
      rw [hfo]
      unfold mcO mcOf
      rw [hs]
      rfl
    · refine (rtell_2 hv o.n j hj hf hs).mono ?_
      rintro e w' ⟨⟨v, rfl, hr, hlo⟩, hk⟩
      obtain ⟨a, c, rfl⟩ := hr.slice
      refine ⟨_, ⟨7, l[j].n, a, c, [l[j].b]⟩, rfl, ?_, hr, (fun k hk => ⟨hlo k hk, reads_lt hr (by simp [rowsOf_length, cBd]) hk⟩), hk⟩
      rw [hfo]
      unfold mcO mcOf
      rw [hs]
      rfl

set_option maxRecDepth 100000 in
set_option maxHeartbeats 4000000 in
theorem rsays_any {l : List Ou} (hv : RdOf cOu w outs l) (hl : l.length ≤ 1000) (tg : Int) :
    Calls Try.prog 22 #[stV ep t own dead outs ins gh nx, .int .i64 tg] w fun e w' => (∃ v ms, e = .returned v ∧ MsReads w' v ms ∧ ms.map mcOf = saidC l l tg) ∧ Keeps No w w' := by
  obtain ⟨i0, hi, hz0, hz1, hz2⟩ := info_parts Try.infoMs
  obtain ⟨va, vc, rfl⟩ := hv.slice
  have Hl := Lib.hid hl; clear hl
  go_enter Try.func22, Try.ntmps22
  go_wp2
  go_loopw [5, 6] (fun sl i wr => ∃ k : Nat, k ≤ l.length ∧ i = .int .i64 k ∧ (∃ ms, Said wr (w.heap.size + 1) sl ms ∧ (∀ m ∈ ms, ∀ k, (Value.slice m.a m.bs.length m.c).ownBlock = some k → k < wr.heap.size) ∧ ms.map mcOf = saidC l (l.take k) tg) ∧ Keeps No w wr ∧ cellsAt wr w.heap.size 0 8 = some [.int .i64 ep, .int .i64 t, own, dead, .slice va l.length vc, ins, gh, .int .i64 nx] ∧ w.heap.size < wr.heap.size) (fun _ i _ => l.length - (intOf i).toNat)
  case atStart => exact ⟨0, Nat.zero_le _, rfl, ⟨[], Said.nil _ _, (fun _ h => by cases h), rfl⟩, (Keeps.refl _).alloc _, by simp [go_sem], by simp⟩
  case round =>
    obtain ⟨k, hk, rfl, ⟨ms, hsd, hlt0, hms⟩, hkw, hst, hbx⟩ := hrel
    obtain ⟨sa, sc, rfl⟩ := hsd.row.reads.slice
    have Hsd := Lib.hid hsd; have Hlt0 := Lib.hid hlt0; have Hms := Lib.hid hms; have Hkw := Lib.hid hkw; have Hst := Lib.hid hst
    clear hsd hlt0 hms
    have st4 : wr.cell? ⟨w.heap.size, 4, none⟩ = some (.slice va l.length vc) := cellsAt_cell hst 4 _ rfl
    have hmsl : Hid (ms.length ≤ k) := by
      have := saidC_le l tg k
      rw [← Hms.out, List.length_map] at this
      exact this
    by_cases hlt : k < l.length
    · have hv' := hv.kept hkw (fun _ _ h => h)
      obtain ⟨g, off, rfl, hc1, hc2, hg⟩ := RdOf.addr cOu hv' (by omega)
      have g0 : cellsAt wr g (off + k * 14) 14 = some (ouC l[k]) := RdOf.at cOu hv' k hlt
      have gn : wr.cell? ⟨g, off + k * 14, none⟩ = some (.int .i64 l[k].n) := cellsAt_cell g0 0 _ rfl
      have gt : wr.cell? ⟨g, off + k * 14 + 1, none⟩ = some (.int .i64 l[k].to) := cellsAt_cell g0 1 _ rfl
      have gs : wr.cell? ⟨g, off + k * 14 + 2, none⟩ = some (.int .i64 l[k].st) := cellsAt_cell g0 2 _ rfl
      have Hv' := Lib.hid hv'
      clear hc1 hc2 hv' hkw g0
      have hkb : (k : Int) ≤ 999 := by have := Hl.out; omega
      have hk0 : (0 : Int) ≤ (k : Int) := by omega
      have hk1 : (k : Int) < (l.length : Int) := by omega
      have hmem : Hid (l[k] ∈ l) := List.getElem_mem hlt
      have hskip : Hid (saysTo tg l[k] = false → saidC l (l.take (k + 1)) tg = saidC l (l.take k) tg) := saidC_skip l tg k hlt
      have hmore : Hid (saysTo tg l[k] = true → saidC l (l.take (k + 1)) tg = saidC l (l.take k) tg ++ [mcO (foundOf l l[k])]) := saidC_more l tg k hlt
      obtain ⟨o, ho⟩ : ∃ o, o = l[k] := ⟨_, rfl⟩
      rw [← ho] at gn gt gs hmem hskip hmore
      clear ho
      have hst0 : Hid (saysTo tg o = (!(o.st == 1) && o.to == tg)) := rfl
      cases h1 : (o.st == 1)
      · cases h2 : (o.to == tg)
        · have h2' : (o.to != tg) = true := by unfold bne; rw [h2]; rfl
          have hsk : saysTo tg o = false := by rw [hst0.out, h1, h2]; rfl
          have Hsk := Lib.hid (hskip.out hsk)
          clear hsk
          go_wp2
          go_roundw
          case rel => exact ⟨k + 1, by omega, by go_num, ⟨ms, Hsd.out, Hlt0.out, by rw [Hsk.out, Hms.out]⟩, Hkw.out, Hst.out, hbx⟩
          case measure => simp [intOf]; omega
        · have h2' : (o.to != tg) = false := by unfold bne; rw [h2]; rfl
          have hsk : saysTo tg o = true := by rw [hst0.out, h1, h2]; rfl
          have Hsk := Lib.hid (hmore.out hsk)
          clear hsk
          have HC : Hid (∀ W, Keeps No wr W → Calls Try.prog 20 #[stV ep t own dead (.slice (some ⟨g, off, none⟩) l.length vc) ins gh nx, .int .i64 o.n] W fun e w' => ∃ (tg : Int) (m : Ms), e = .returned (.tuple #[.int .i64 tg, .agg (msC m).toArray, .bool true]) ∧
              mcOf m = mcO (foundOf l o) ∧ RdOf cBd w' (.slice m.a m.bs.length m.c) m.bs ∧ (∀ k, (Value.slice m.a m.bs.length m.c).ownBlock = some k → W.heap.size ≤ k ∧ k < w'.heap.size) ∧ Keeps No W w') :=
            fun W hW => rtell_m (Hv'.out.kept hW (fun _ _ h => h)) o hmem.out h1
          have p1 : cellsAt wr w.heap.size 0 8 = some [.int .i64 ep, .int .i64 t, own, dead, .slice (some ⟨g, off, none⟩) l.length vc, ins, gh, .int .i64 nx] := hst
          have p2 := st4
          have p3 := gn
          have K0 : Hid (Keeps No wr wr.drew) := (Keeps.refl _).drew
          clear hst
          go_wp2_with fail
          clear st4 gn
          go_region_held3 (fun w' => cellsAt w' w.heap.size 0 8 = some [.int .i64 ep, .int .i64 t, own, dead, .slice (some ⟨g, off, none⟩) l.length vc, ins, gh, .int .i64 nx] ∧ w'.cell? ⟨w.heap.size, 4, none⟩ = some (.slice (some ⟨g, off, none⟩) l.length vc) ∧ w'.cell? ⟨g, off + k * 14, none⟩ = some (.int .i64 o.n))
            (first | exact ⟨p1, p2, p3⟩ | exact ⟨((Keeps.refl (S := No) _).alloc _).cellsAt p1, ((Keeps.refl (S := No) _).alloc _).cell p2 (fun h => h), ((Keeps.refl (S := No) _).alloc _).cell p3 (fun h => h)⟩ | exact ⟨cells_row p1 (by omega), cell_row p2 (by omega), cell_row p3 (by omega)⟩)
            (first
              | (go_at_call 20
                 refine (HC.out (wr.alloc (.cells #[.int .i64 0, .int .i64 0, .int .i64 0, .slice none 0 0, .slice none 0 0, .slice none 0 0] 31)).drew ((Keeps.refl wr).alloc _).drew).mono ?_
                 rintro e w1 ⟨tg1, m, rfl, hmc, hmr, hmb, hk1⟩
                 have HK1 : Hid (Keeps No wr w1) := Keeps.trans ((Keeps.refl wr).alloc _).drew hk1 (fun _ _ h => h)
                 have Hmc := Lib.hid hmc
                 have Hmr := Lib.hid hmr
                 have Hmb : Hid (∀ k, (Value.slice m.a m.bs.length m.c).ownBlock = some k → wr.heap.size ≤ k ∧ k < w1.heap.size ∧ k ≠ wr.heap.size) := fun k hk => by
                   have := hmb k hk
                   simp at this
                   omega
                 have q1 := HK1.out.cellsAt p1
                 have q2 := HK1.out.cell p2 (fun h => h)
                 have q3 := HK1.out.cell p3 (fun h => h)
                 have o8 : Open w1 wr.heap.size := hk1.opened (by simp [go_sem])
                 have n8 : (rowD w1 wr.heap.size).size = 6 := hk1.rowSize (by simp [go_sem]) (by simp [go_sem])
                 clear p1 p2 p3 hmc hmr hmb hk1
                 have p1 := q1
                 have p2 := q2
                 have p3 := q3
                 clear q1 q2 q3)
              | (go_at_call 20
                 refine (HC.out wr.drew (Keeps.refl wr).drew).mono ?_
                 rintro e w1 ⟨tg1, m, rfl, hmc, hmr, hmb, hk1⟩
                 have HK1 : Hid (Keeps No wr w1) := Keeps.trans (Keeps.refl wr).drew hk1 (fun _ _ h => h)
                 have Hmc := Lib.hid hmc
                 have Hmr := Lib.hid hmr
                 have Hmb : Hid (∀ k, (Value.slice m.a m.bs.length m.c).ownBlock = some k → wr.heap.size ≤ k ∧ k < w1.heap.size) := fun k hk => by
                   have := hmb k hk
                   simp at this
                   omega
                 have q1 := HK1.out.cellsAt p1
                 have q2 := HK1.out.cell p2 (fun h => h)
                 have q3 := HK1.out.cell p3 (fun h => h)
                 clear p1 p2 p3 hmc hmr hmb hk1
                 have p1 := q1
                 have p2 := q2
                 have p3 := q3
                 clear q1 q2 q3))
          · have F2 : Keeps No wr (w1.alloc (.cells (msC m).toArray 31)) := HK1.out.alloc _
            have F1 : cellsAt (w1.alloc (.cells (msC m).toArray 31)) w1.heap.size 0 6 = some (msC m) := by simp [go_sem]
            have F3 : RdOf cBd (w1.alloc (.cells (msC m).toArray 31)) (.slice m.a m.bs.length m.c) m.bs := Hmr.out.kept ((Keeps.refl (S := No) w1).alloc _) (fun _ _ h => h)
            have F4 : ∀ k, (Value.slice m.a m.bs.length m.c).ownBlock = some k → wr.heap.size ≤ k ∧ k < (w1.alloc (.cells (msC m).toArray 31)).heap.size := fun k hk => by
              have := Hmb.out k hk
              simp
              omega
            have F5 : w1.heap.size < (w1.alloc (.cells (msC m).toArray 31)).heap.size := by simp
            have F6 := F2.cellsAt Hst.out
            have Hmc' := Lib.hid Hmc.out
            clear p1 p2 p3 HK1 Hmr Hmb
            generalize hW : w1.alloc (.cells (msC m).toArray 31) = W at *
            generalize hb8 : w1.heap.size = b8 at *
            clear hW hb8
            clear w1
            have F2' := Lib.hid F2; have F3' := Lib.hid F3; have F4' := Lib.hid F4; have F6' := Lib.hid F6
            clear F2 F3 F4 F6
            have hown : Hid (∀ A, (W.alloc A).ownsRow (w.heap.size + 1) 31 6 (.slice sa ms.length sc) ms.length (rowsOf cMs ms)) := fun A => ((Hsd.out.kept F2'.out).kept ((Keeps.refl _).alloc A)).row
            have hlit : Hid (Reads (W.alloc (.cells (msC m).toArray 31)) 6 (.slice (some ⟨W.heap.size, 0, none⟩) 1 1) 1 (msC m)) := litReads cMs W 31 m
            go_wp2_with (at_builtin; refine wpList_append_reads rfl (.tmp 46) (.tmp 48) 61 rfl (w.heap.size + 1) 31 i0 _ 6 96 Try.underlying61 hi hz0 hz1 hz2 rfl (by decide) (.slice sa ms.length sc) ms.length (rowsOf cMs ms) rfl (hown.out _) _ 1 (msC m) rfl hlit.out ?c1 ?c2 ?c3 ?c4)
            case c1 => have := Hl.out; have := hmsl.out; unfold maxLen; omega
            case c2 => have := Hl.out; have := hmsl.out; omega
            case c3 => simp; have := F2'.out.size; omega
            case c4 =>
              intro v2 w2 hown2 hk2 hbl _
              have hsz := F2'.out.size
              have hsd2 : Hid (Said w2 (w.heap.size + 1) v2 (ms ++ [m])) := by
                refine Said.more ((Hsd.out.kept F2'.out).kept ((Keeps.refl _).alloc _)) (F3'.out.kept ((Keeps.refl (S := No) _).alloc _) (fun _ _ h => h)) ?_ ?_ hown2 hk2 (by simpa using hbl)
                · intro j hj
                  have h3 := F4'.out j hj
                  simp only [World.size_alloc]
                  refine ⟨by omega, fun h4 => ?_⟩
                  have := (Hsd.out.row.lt j h4).2
                  omega
                · intro x hx j hj
                  have := Hlt0.out x hx j hj
                  simp only [World.size_alloc]
                  omega
              have hbase : ∀ j, (Value.slice sa ms.length sc).ownBlock = some j → w.heap.size < j := fun j h4 => by
                have := (Hsd.out.row.lt j h4).1
                omega
              have hz2 := hk2.size
              simp only [World.size_alloc] at hz2
              have HK2 : Hid (Keeps No w w2) := ((Hkw.out.trans F2'.out (fun _ _ h => h)).alloc _).trans hk2 (fun j hj h4 => by have := hbase j h4; omega)
              have s2 : Hid (cellsAt w2 w.heap.size 0 8 = some [.int .i64 ep, .int .i64 t, own, dead, .slice (some ⟨g, off, none⟩) l.length vc, ins, gh, .int .i64 nx]) :=
                keeps_cellsAt hk2 (fun h4 => by have := hbase _ h4; omega) (((Keeps.refl (S := No) W).alloc _).cellsAt F6'.out)
              have hlt2 : Hid (∀ x ∈ ms ++ [m], ∀ j, (Value.slice x.a x.bs.length x.c).ownBlock = some j → j < w2.heap.size) := by
                intro x hx j hj
                rcases List.mem_append.1 hx with hx | hx
                · have := Hlt0.out x hx j hj; omega
                · obtain rfl := List.mem_singleton.1 hx
                  have := (F4'.out j hj).2; omega
              have hm2 : Hid ((ms ++ [m]).map mcOf = saidC l (l.take (k + 1)) tg) := by
                show _ = _
                rw [Hsk.out, List.map_append, Hms.out, ← Hmc'.out]
                rfl
              obtain ⟨a2, c2, rfl⟩ := ownsRow_slice hown2
              clear hk2 hown2 hbl hbase
              go_wp2
              go_roundw
              case rel => exact ⟨k + 1, by omega, by go_num, ⟨ms ++ [m], hsd2.out, hlt2.out, hm2.out⟩, HK2.out, s2.out, by omega⟩
              case measure => simp [intOf]; omega
          · have F2 : Keeps No wr (w1.setRow wr.heap.size (msC m).toArray) := HK1.out.row (Nat.le_refl _) _
            have F1 : cellsAt (w1.setRow wr.heap.size (msC m).toArray) wr.heap.size 0 6 = some (msC m) := by simp [go_sem, o8]
            have F3 : RdOf cBd (w1.setRow wr.heap.size (msC m).toArray) (.slice m.a m.bs.length m.c) m.bs := Hmr.out.kept ((Keeps.refl (S := Own wr.heap.size) w1).setRow (fun _ => rfl) _) (fun k hk he => by have := (Hmb.out k hk).2.2; exact this he)
            have F4 : ∀ k, (Value.slice m.a m.bs.length m.c).ownBlock = some k → wr.heap.size ≤ k ∧ k < (w1.setRow wr.heap.size (msC m).toArray).heap.size := fun k hk => by
              have := Hmb.out k hk
              simp
              omega
            have F5 : wr.heap.size < (w1.setRow wr.heap.size (msC m).toArray).heap.size := by
              have := open_lt o8
              simpa using this
            have F6 := F2.cellsAt Hst.out
            have Hmc' := Lib.hid Hmc.out
            clear p1 p2 p3 HK1 Hmr Hmb o8 n8
            generalize hW : w1.setRow wr.heap.size (msC m).toArray = W at *
            clear hW
            clear w1
            have F2' := Lib.hid F2; have F3' := Lib.hid F3; have F4' := Lib.hid F4; have F6' := Lib.hid F6
            clear F2 F3 F4 F6
            have hown : Hid (∀ A, (W.alloc A).ownsRow (w.heap.size + 1) 31 6 (.slice sa ms.length sc) ms.length (rowsOf cMs ms)) := fun A => ((Hsd.out.kept F2'.out).kept ((Keeps.refl _).alloc A)).row
            have hlit : Hid (Reads (W.alloc (.cells (msC m).toArray 31)) 6 (.slice (some ⟨W.heap.size, 0, none⟩) 1 1) 1 (msC m)) := litReads cMs W 31 m
            go_wp2_with (at_builtin; refine wpList_append_reads rfl (.tmp 46) (.tmp 48) 61 rfl (w.heap.size + 1) 31 i0 _ 6 96 Try.underlying61 hi hz0 hz1 hz2 rfl (by decide) (.slice sa ms.length sc) ms.length (rowsOf cMs ms) rfl (hown.out _) _ 1 (msC m) rfl hlit.out ?e1 ?e2 ?e3 ?e4)
            case e1 => have := Hl.out; have := hmsl.out; unfold maxLen; omega
            case e2 => have := Hl.out; have := hmsl.out; omega
            case e3 => simp; have := F2'.out.size; omega
            case e4 =>
              intro v2 w2 hown2 hk2 hbl _
              have hsz := F2'.out.size
              have hsd2 : Hid (Said w2 (w.heap.size + 1) v2 (ms ++ [m])) := by
                refine Said.more ((Hsd.out.kept F2'.out).kept ((Keeps.refl _).alloc _)) (F3'.out.kept ((Keeps.refl (S := No) _).alloc _) (fun _ _ h => h)) ?_ ?_ hown2 hk2 (by simpa using hbl)
                · intro j hj
                  have h3 := F4'.out j hj
                  simp only [World.size_alloc]
                  refine ⟨by omega, fun h4 => ?_⟩
                  have := (Hsd.out.row.lt j h4).2
                  omega
                · intro x hx j hj
                  have := Hlt0.out x hx j hj
                  simp only [World.size_alloc]
                  omega
              have hbase : ∀ j, (Value.slice sa ms.length sc).ownBlock = some j → w.heap.size < j := fun j h4 => by
                have := (Hsd.out.row.lt j h4).1
                omega
              have hz2 := hk2.size
              simp only [World.size_alloc] at hz2
              have HK2 : Hid (Keeps No w w2) := ((Hkw.out.trans F2'.out (fun _ _ h => h)).alloc _).trans hk2 (fun j hj h4 => by have := hbase j h4; omega)
              have s2 : Hid (cellsAt w2 w.heap.size 0 8 = some [.int .i64 ep, .int .i64 t, own, dead, .slice (some ⟨g, off, none⟩) l.length vc, ins, gh, .int .i64 nx]) :=
                keeps_cellsAt hk2 (fun h4 => by have := hbase _ h4; omega) (((Keeps.refl (S := No) W).alloc _).cellsAt F6'.out)
              have hlt2 : Hid (∀ x ∈ ms ++ [m], ∀ j, (Value.slice x.a x.bs.length x.c).ownBlock = some j → j < w2.heap.size) := by
                intro x hx j hj
                rcases List.mem_append.1 hx with hx | hx
                · have := Hlt0.out x hx j hj; omega
                · obtain rfl := List.mem_singleton.1 hx
                  have := (F4'.out j hj).2; omega
              have hm2 : Hid ((ms ++ [m]).map mcOf = saidC l (l.take (k + 1)) tg) := by
                show _ = _
                rw [Hsk.out, List.map_append, Hms.out, ← Hmc'.out]
                rfl
              obtain ⟨a2, c2, rfl⟩ := ownsRow_slice hown2
              clear hk2 hown2 hbl hbase
              go_wp2
              go_roundw
              case rel => exact ⟨k + 1, by omega, by go_num, ⟨ms ++ [m], hsd2.out, hlt2.out, hm2.out⟩, HK2.out, s2.out, by omega⟩
              case measure => simp [intOf]; omega
      · have hsk : saysTo tg o = false := by rw [hst0.out, h1]; rfl
        have Hsk := Lib.hid (hskip.out hsk)
        clear hsk
        go_wp2
        go_roundw
        case rel => exact ⟨k + 1, by omega, by go_num, ⟨ms, Hsd.out, Hlt0.out, by rw [Hsk.out, Hms.out]⟩, Hkw.out, Hst.out, hbx⟩
        case measure => simp [intOf]; omega
    · obtain rfl : k = l.length := by omega
      have hfin : Hid (ms.map mcOf = saidC l l tg) := by
        have := Hms.out
        rwa [List.take_length] at this
      clear hkw
      go_wp2
      go_ret
      exact ⟨⟨_, ms, rfl, Hsd.out.reads, hfin.out⟩, Hkw.out⟩

end
end Go.Proofs.Ytggaeihinheojaa
