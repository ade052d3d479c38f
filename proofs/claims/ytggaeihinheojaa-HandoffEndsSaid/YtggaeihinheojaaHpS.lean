/-
  handoff.Says, walked: what it makes is in new blocks. No conditions of its own.
-/
import Derived.Test.YtggaeihinheojaaHoS
namespace Go.Proofs.Ytggaeihinheojaa
open Go.RowKit

section
variable {w : World} {ep t nx : Int} {own dead outs ins gh : Value}

set_option maxRecDepth 100000 in
set_option maxHeartbeats 4000000 in
theorem says_new {l : List Ou} (hv : RdOf cOu w outs l) (hl : l.length ≤ 1000) (tg : Int) :
    Calls Try.prog 21 #[stV ep t own dead outs ins gh nx, .int .i64 tg] w fun e w' => (∃ v ms, e = .returned v ∧ Said w' (w.heap.size + 1) v ms ∧ (∀ m ∈ ms, ∀ k, (Value.slice m.a m.bs.length m.c).ownBlock = some k → w.heap.size ≤ k ∧ k < w'.heap.size) ∧ ms.map mcOf = saidC l l tg) ∧ Keeps No w w' := by
  obtain ⟨i0, hi, hz0, hz1, hz2⟩ := info_parts Try.infoMs
  obtain ⟨va, vc, rfl⟩ := hv.slice
  have Hl := Lib.hid hl; clear hl
  go_enter Try.func21, Try.ntmps21
  go_wp2
  go_loopw [5, 13] (fun sl i wr => ∃ k : Nat, k ≤ l.length ∧ i = .int .i64 k ∧ (∃ ms, Said wr (w.heap.size + 1) sl ms ∧ (∀ m ∈ ms, ∀ k, (Value.slice m.a m.bs.length m.c).ownBlock = some k → w.heap.size ≤ k ∧ k < wr.heap.size) ∧ ms.map mcOf = saidC l (l.take k) tg) ∧ Keeps No w wr ∧ cellsAt wr w.heap.size 0 8 = some [.int .i64 ep, .int .i64 t, own, dead, .slice va l.length vc, ins, gh, .int .i64 nx] ∧ w.heap.size < wr.heap.size) (fun _ i _ => l.length - (intOf i).toNat)
  case atStart => exact ⟨0, Nat.zero_le _, rfl, ⟨[], Said.nil _ _, fun _ h => (by cases h), rfl⟩, (Keeps.refl _).alloc _, by simp [go_sem], by simp⟩
  case round =>
    obtain ⟨k, hk, rfl, ⟨ms, hsd, hlt0, hms⟩, hkw, hst, hbx⟩ := hrel
    obtain ⟨sa, sc, rfl⟩ := hsd.row.reads.slice
    have Hsd := Lib.hid hsd; have Hlt0 := Lib.hid hlt0; have Hms := Lib.hid hms; have Hkw := Lib.hid hkw; have Hst := Lib.hid hst
    clear hsd hlt0 hms hst
    have hmsl : Hid (ms.length ≤ k) := by
      have := saidC_le l tg k
      rw [← Hms.out, List.length_map] at this
      exact this
    by_cases hlt : k < l.length
    · have hv' := hv.kept hkw (fun _ _ h => h)
      obtain ⟨g, off, rfl, hc1, hc2, hg⟩ := RdOf.addr cOu hv' (by omega)
      have g0 : cellsAt wr g (off + k * 14) 14 = some (ouC l[k]) := RdOf.at cOu hv' k hlt
      have s0 : cellsAt wr w.heap.size 0 8 = some [.int .i64 ep, .int .i64 t, own, dead, .slice (some ⟨g, off, none⟩) l.length vc, ins, gh, .int .i64 nx] := Hst.out
      have Hv' := Lib.hid hv'
      clear hc1 hc2 hv' hkw
      have hkb : (k : Int) ≤ 999 := by have := Hl.out; omega
      have hmem : Hid (l[k] ∈ l) := List.getElem_mem hlt
      have hskip : Hid (saysTo tg l[k] = false → saidC l (l.take (k + 1)) tg = saidC l (l.take k) tg) := saidC_skip l tg k hlt
      have hmore : Hid (saysTo tg l[k] = true → saidC l (l.take (k + 1)) tg = saidC l (l.take k) tg ++ [mcO (foundOf l l[k])]) := saidC_more l tg k hlt
      obtain ⟨o, ho⟩ : ∃ o, o = l[k] := ⟨_, rfl⟩
      rw [← ho] at g0 hmem hskip hmore
      clear ho
      have hst0 : Hid (saysTo tg o = (!(o.st == 1) && o.to == tg)) := rfl
      go_wp2_with fail
      refine (tell_any (l := l) (Hv'.out.kept ((Keeps.refl (S := No) wr).alloc _) (fun _ _ h => h)) o.n).mono ?_
      rintro e w1 ⟨hp, hk1⟩
      obtain ⟨a, kk, nn, v, ok, rfl, hv1, hT⟩ := tell_cases hp
      have HT := Lib.hid (hT o hmem.out rfl)
      clear hp hT
      have q0 : cellsAt w1 wr.heap.size 0 14 = some (ouC o) := hk1.cellsAt (by simp [go_sem])
      have q1 : w1.cell? ⟨wr.heap.size, 1, none⟩ = some (.int .i64 o.to) := cellsAt_cell q0 1 _ rfl
      have q2 : w1.cell? ⟨wr.heap.size, 2, none⟩ = some (.int .i64 o.st) := cellsAt_cell q0 2 _ rfl
      have hK1 : Keeps No wr w1 := ((Keeps.refl _).alloc _).trans hk1 (fun _ _ h => h)
      have s1 : Hid (cellsAt w1 w.heap.size 0 8 = some [.int .i64 ep, .int .i64 t, own, dead, .slice (some ⟨g, off, none⟩) l.length vc, ins, gh, .int .i64 nx]) := hK1.cellsAt s0
      have hz := hk1.size
      simp only [World.size_alloc] at hz
      have l1 : wr.heap.size < w1.heap.size := by omega
      have HK1 := Lib.hid hK1
      have Hz := Lib.hid hz
      have HkwB := Lib.hid (Hkw.out.trans hK1 (fun _ _ h => h))
      clear hk1 hK1 q0 s0 g0 hz
      cases ok
      · have hsk : saysTo tg o = false := by
          rw [hst0.out]
          cases h : (o.st == 1)
          · exact absurd (HT.out h).1 (by decide)
          · rfl
        have Hsk := Lib.hid (hskip.out hsk)
        clear hsk
        go_wp2
        go_roundw
        case rel => exact ⟨k + 1, by omega, by go_num, ⟨ms, (Hsd.out.kept HK1.out).kept ((Keeps.refl _).alloc _), fun m hm j hj => by have := Hlt0.out m hm j hj; simp; omega, by rw [Hsk.out, Hms.out]⟩, HkwB.out.alloc _, ((Keeps.refl (S := No) w1).alloc _).cellsAt s1.out, by simp; omega⟩
        case measure => simp [intOf]; omega
      · cases h1 : (o.st == 1)
        · have h1' : (o.st != 1) = true := by unfold bne; rw [h1]; rfl
          cases h2 : (o.to == tg)
          · have hsk : saysTo tg o = false := by rw [hst0.out, h1, h2]; rfl
            have Hsk := Lib.hid (hskip.out hsk)
            clear hsk
            go_wp2
            go_roundw
            case rel => exact ⟨k + 1, by omega, by go_num, ⟨ms, (Hsd.out.kept HK1.out).kept ((Keeps.refl _).alloc _), fun m hm j hj => by have := Hlt0.out m hm j hj; simp; omega, by rw [Hsk.out, Hms.out]⟩, HkwB.out.alloc _, ((Keeps.refl (S := No) w1).alloc _).cellsAt s1.out, by simp; omega⟩
            case measure => simp [intOf]; omega
          · have hsk : saysTo tg o = true := by rw [hst0.out, h1, h2]; rfl
            have Hsk := Lib.hid (hmore.out hsk)
            clear hsk
            obtain ⟨_, m, rfl, rfl, rfl, hmc, hmr, hmb⟩ := HT.out h1
            have Hmc := Lib.hid hmc; have Hmr := Lib.hid hmr; have Hmb := Lib.hid hmb
            clear hmc hmr hmb HT
            have hown : Hid (∀ A B, ((w1.alloc A).alloc B).ownsRow (w.heap.size + 1) 31 6 (.slice sa ms.length sc) ms.length (rowsOf cMs ms)) := fun A B => (((Hsd.out.kept HK1.out).kept ((Keeps.refl _).alloc A)).kept ((Keeps.refl _).alloc B)).row
            have hlit : Hid (∀ A, Reads ((w1.alloc A).alloc (.cells (msC m).toArray 31)) 6 (.slice (some ⟨w1.heap.size + 1, 0, none⟩) 1 1) 1 (msC m)) := fun A => by
              have := litReads cMs (w1.alloc A) 31 m
              rwa [World.size_alloc] at this
            go_wp2_with (at_builtin; refine wpList_append_reads rfl (.tmp 36) (.tmp 39) 61 rfl (w.heap.size + 1) 31 i0 _ 6 96 Try.underlying61 hi hz0 hz1 hz2 rfl (by decide) (.slice sa ms.length sc) ms.length (rowsOf cMs ms) rfl (hown.out _ _) _ 1 (msC m) rfl (hlit.out _) ?c1 ?c2 ?c3 ?c4)
            case c1 => have := Hl.out; have := hmsl.out; unfold maxLen; omega
            case c2 => have := Hl.out; have := hmsl.out; omega
            case c3 => simp; omega
            case c4 =>
              intro v2 w2 hown2 hk2 hbl _
              have hsd2 : Hid (Said w2 (w.heap.size + 1) v2 (ms ++ [m])) := by
                refine Said.more (((Hsd.out.kept HK1.out).kept ((Keeps.refl _).alloc _)).kept ((Keeps.refl _).alloc _)) ((Hmr.out.kept ((Keeps.refl (S := No) _).alloc _) (fun _ _ h => h)).kept ((Keeps.refl (S := No) _).alloc _) (fun _ _ h => h)) ?_ ?_ hown2 hk2 (by simpa using hbl)
                · intro j hj
                  have h3 := Hmb.out j hj
                  simp only [World.size_alloc] at h3 ⊢
                  refine ⟨by omega, fun h4 => ?_⟩
                  have := (Hsd.out.row.lt j h4).2
                  omega
                · intro x hx j hj
                  have := Hlt0.out x hx j hj
                  simp only [World.size_alloc]
                  omega
              have hbase : ∀ j, (Value.slice sa ms.length sc).ownBlock = some j → w.heap.size < j := fun j h4 => by
                have := (Hsd.out.row.lt j h4).1
                omega
              have hz2 := hk2.size
              simp only [World.size_alloc] at hz2
              have HK2 : Hid (Keeps No w w2) := ((HkwB.out.alloc _).alloc _).trans hk2 (fun j hj h4 => by have := hbase j h4; omega)
              have s2 : Hid (cellsAt w2 w.heap.size 0 8 = some [.int .i64 ep, .int .i64 t, own, dead, .slice (some ⟨g, off, none⟩) l.length vc, ins, gh, .int .i64 nx]) :=
                keeps_cellsAt hk2 (fun h4 => by have := hbase _ h4; omega) (((Keeps.refl (S := No) w1).alloc _).alloc _ |>.cellsAt s1.out)
              have hlt2 : Hid (∀ x ∈ ms ++ [m], ∀ j, (Value.slice x.a x.bs.length x.c).ownBlock = some j → w.heap.size ≤ j ∧ j < w2.heap.size) := by
                intro x hx j hj
                rcases List.mem_append.1 hx with hx | hx
                · have := Hlt0.out x hx j hj; omega
                · obtain rfl := List.mem_singleton.1 hx
                  have h9 := Hmb.out j hj
                  simp only [World.size_alloc] at h9
                  have := Hkw.out.size
                  omega
              have hm2 : Hid ((ms ++ [m]).map mcOf = saidC l (l.take (k + 1)) tg) := by
                show _ = _
                rw [Hsk.out, List.map_append, Hms.out, ← Hmc.out]
                rfl
              obtain ⟨a2, c2, rfl⟩ := ownsRow_slice hown2
              clear hk2 hown2 hbl hbase
              go_wp2
              go_roundw
              case rel => exact ⟨k + 1, by omega, by go_num, ⟨ms ++ [m], hsd2.out, hlt2.out, hm2.out⟩, HK2.out, s2.out, by omega⟩
              case measure => simp [intOf]; omega
        · have h1' : (o.st != 1) = false := by unfold bne; rw [h1]; rfl
          have hsk : saysTo tg o = false := by rw [hst0.out, h1]; rfl
          have Hsk := Lib.hid (hskip.out hsk)
          clear hsk
          go_wp2
          go_roundw
          case rel => exact ⟨k + 1, by omega, by go_num, ⟨ms, (Hsd.out.kept HK1.out).kept ((Keeps.refl _).alloc _), fun m hm j hj => by have := Hlt0.out m hm j hj; simp; omega, by rw [Hsk.out, Hms.out]⟩, HkwB.out.alloc _, ((Keeps.refl (S := No) w1).alloc _).cellsAt s1.out, by simp; omega⟩
          case measure => simp [intOf]; omega
    · obtain rfl : k = l.length := by omega
      have hfin : Hid (ms.map mcOf = saidC l l tg) := by
        have := Hms.out
        rwa [List.take_length] at this
      clear hkw
      go_wp2
      go_ret
      exact ⟨⟨_, ms, rfl, Hsd.out, Hlt0.out, hfin.out⟩, Hkw.out⟩

end
end Go.Proofs.Ytggaeihinheojaa
