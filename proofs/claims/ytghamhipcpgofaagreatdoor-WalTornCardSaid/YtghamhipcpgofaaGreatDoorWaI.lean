/-
  wal's Drop. No conditions of its own, but that the tables are laid.
-/
import Derived.Test.YtghamhipcpgofaaGreatDoorWaH
namespace Go.Proofs.YtghamhipcpgofaaGreatDoor
open Go.RowKit Go.Shelf Go.Sort Go.Joins

/-- files are taken away, one after the other -/
def rmAll (name : ByteArray) (L : List Nat) (d : Ds) : Ds := L.foldl (fun d n => (d.remove (fileNm name n)).2) d
theorem rmAll_snoc (name : ByteArray) (L : List Nat) (n : Nat) (d : Ds) : rmAll name (L ++ [n]) d = ((rmAll name L d).remove (fileNm name n)).2 := by simp [rmAll]
/-- the log's block, and its disk's -/
def Core (l p b : Nat) : Nat → Prop := fun i => i = l ∨ i = p ∨ i = b
theorem two_core {w w' : World} {l p b : Nat} (k : Keeps (Two p b) w w') : Keeps (Core l p b) w w' := k.mono (fun _ _ h => by rcases h with h | h; exact .inr (.inl h); exact .inr (.inr h))
theorem no_core {w w' : World} {l p b : Nat} (k : Keeps No w w') : Keeps (Core l p b) w w' := k.mono (fun _ _ h => h.elim)
theorem core_log {w w' : World} {l p b : Nat} {v : Value} (k : Keeps (Core l p b) w w') : Keeps (LogS l p b v) w w' := k.mono (fun _ _ h => by rcases h with h | h | h; exact .inl h; exact .inr (.inl h); exact .inr (.inr (.inl h)))

/-- what Drop drops: the first k segments -/
def DropPost (w : World) (base l p b : Nat) (v : Value) (g : Lg) (d : Ds) (upto : Int) (e : Ending) (w' : World) : Prop :=
  ∃ (k : Nat) (v' : Value), e = .returned (.int .i64 k) ∧ k < g.firsts.length ∧ (∀ j n, 1 ≤ j → j ≤ k → g.firsts[j]? = some n → (n : Int) ≤ upto) ∧ (∀ n, g.firsts[k + 1]? = some n → upto < (n : Int)) ∧
    WLog w' base l p b v' ⟨g.name, g.firsts.drop k, g.next⟩ (rmAll g.name (g.firsts.take k) d) ∧ v'.ownBlock = v.ownBlock ∧ Keeps (Core l p b) w w'

section
variable {w : World} {base l p b : Nat} {v : Value} {g : Lg} {d : Ds}
theorem WLog.rowed {w' : World} {g' : Lg} {v' : Value} (h : WLog w base l p b v g d) (hl : w'.heap[l]? = some (.cells #[dP p, .string g.name, v', .int .i64 g.next] lT (0, 0))) (hk : Keeps (Own l) w w') (hn : g'.name = g.name) (hx : g'.next = g.next)
    (hne : 0 < g'.firsts.length) (hsub : ∀ n ∈ g'.firsts, n ∈ g.firsts) (hrd : RdInts w' v' g'.firsts) (ho : v'.ownBlock = v.ownBlock) : WLog w' base l p b v' g' d :=
  ⟨⟨by rw [hn, hx]; exact hl, hrd, hne, by rw [hn]; exact h.log.nm, fun n hn' => h.log.few n (hsub n hn'), by rw [hx]; exact h.log.nx, h.log.bl, by rw [ho]; exact h.log.bv, by rw [ho]; exact h.log.vl, h.log.lp⟩,
    h.disk.kept hk (fun e => h.log.lp e.symm) (fun e => h.lb e.symm), h.bp, h.bb, by rw [ho]; exact h.vp, by rw [ho]; exact h.vb, h.lb⟩

set_option maxRecDepth 100000 in
set_option maxHeartbeats 4000000 in
theorem drop_any (hL : Laid w base) (h : WLog w base l p b v g d) (hfl : g.firsts.length ≤ 1000000) (upto : Int) :
    Calls Tryz.prog 25 #[dP l, .int .i64 upto] w (DropPost w base l p b v g d upto) := by
  obtain ⟨q, off, c, rfl, hc1, hc2, hqw, hx⟩ := RdInts.cell h.log.rd h.log.ne
  have Hx := Lib.hid hx
  have H := Lib.hid h
  have HL := Lib.hid hL
  have Hcm := Lib.hid hc2
  have hne : 0 < g.firsts.length := h.log.ne
  obtain ⟨N, hN⟩ : ∃ N, N = g.firsts.length := ⟨_, rfl⟩
  have HN := Lib.hid hN
  rw [← hN] at hc1 hfl hne
  have hnm : Hid ((g.name.size : Int) ≤ 1000) := Lib.hid (by have := h.log.nm; omega)
  have Hfl := Lib.hid hfl
  clear hfl
  have hv0 : WLog w base l p b (.slice (some ⟨q, off, none⟩) N c) g d := by rw [hN]; exact h
  have H0 := Lib.hid hv0
  clear hx h hL hc2 hv0 hN
  go_enter Tryz.func25, Tryz.ntmps25
  go_wp2
  go_loopw [5] (fun n wr => ∃ k : Nat, k < N ∧ n = .int .i64 k ∧ (∀ j m, 1 ≤ j → j ≤ k → g.firsts[j]? = some m → (m : Int) ≤ upto) ∧ WLog wr base l p b (.slice (some ⟨q, off + k, none⟩) (N - k) (c - k)) ⟨g.name, g.firsts.drop k, g.next⟩ (rmAll g.name (g.firsts.take k) d) ∧ Keeps (Core l p b) w wr) (fun n _ => N - (intOf n).toNat)
  case atStart => exact ⟨0, by omega, rfl, fun j m h1 h2 => by omega, H0.out, Keeps.refl _⟩
  case round =>
    obtain ⟨k, hk, rfl, hup, hW, hK⟩ := hrel
    have c2 := hW.log.cell2
    have hlr : l < wr.heap.size := hW.log.lt
    have hqn : ¬ Core l p b q := by
      intro hs
      rcases hs with e | e | e
      · exact hW.log.vl (e ▸ rfl)
      · exact hW.vp (e ▸ rfl)
      · exact hW.vb (e ▸ rfl)
    by_cases hlast : k + 1 = N
    · -- one is left
      have hn1 : ((N - k : Nat) : Int) = 1 := by omega
      have Hup := Lib.hid hup
      have HW := Lib.hid hW
      have HK := Lib.hid hK
      have e1 : N - k = 1 := by omega
      rw [e1] at c2
      clear hup hW hK hn1 e1
      go_wp2
      go_ret
      refine ⟨k, _, rfl, by rw [← HN.out]; exact hk, Hup.out, fun n hn => ?_, HW.out, rfl, HK.out⟩
      rw [List.getElem?_eq_none (by rw [← HN.out]; omega)] at hn
      cases hn
    · have hlt : k + 1 < N := by omega
      have hltf : k + 1 < g.firsts.length := by rw [← HN.out]; exact hlt
      have d1 := hK.cell (Hx.out (k + 1) _ (List.getElem?_eq_getElem hltf)) hqn
      have d0 := hK.cell (Hx.out k _ (List.getElem?_eq_getElem (by omega : k < g.firsts.length))) hqn
      have hF1 := List.getElem?_eq_getElem hltf
      have hF0 := List.getElem?_eq_getElem (show k < g.firsts.length by omega)
      have hfe := H.out.log.few _ (List.getElem_mem (show k < g.firsts.length by omega))
      generalize g.firsts[k + 1] = F1 at d1 hF1
      generalize g.firsts[k] = F0 at d0 hF0 hfe
      have e1 : off + (k + 1) = off + k + 1 := by omega
      rw [e1] at d1
      obtain ⟨n, hn⟩ : ∃ n, N - k = n := ⟨_, rfl⟩
      obtain ⟨cc, hcc⟩ : ∃ n, c - k = n := ⟨_, rfl⟩
      have hm1 : (1 : Int) < (n : Int) := by omega
      have hm2 : 1 < n := by omega
      have hm3 : 1 < cc := by omega
      have hm4 : (1 : Int) ≤ (n : Int) := by omega
      have hm5 : (1 : Int) ≤ (cc : Int) := by omega
      have hm6 : 1 ≤ n := by omega
      have hm7 : 0 < n := by omega
      have hm8 : (0 : Int) < (n : Int) := by omega
      have c2' := c2
      rw [hn, hcc] at c2
      have HF1 := Lib.hid hF1
      have HF0 := Lib.hid hF0
      have Hn := Lib.hid hn
      have Hcc := Lib.hid hcc
      have Hup := Lib.hid hup
      have HW := Lib.hid hW
      have HK := Lib.hid hK
      have Hqn := Lib.hid hqn
      have Hfe := Lib.hid hfe
      clear hfe hF1 hF0 hn hcc hup hW hK hqn e1 c2' hlast hltf
      by_cases hle : (F1 : Int) ≤ upto
      · have c0 : wr.cell? ⟨l, 0, none⟩ = some (dP p) := HW.out.log.cell0
        have c1 : wr.cell? ⟨l, 1, none⟩ = some (.string g.name) := HW.out.log.cell1
        have Lr : Hid (Laid wr base) := Lib.hid (H.out.laid HL.out (core_log HK.out))
        obtain ⟨⟨er, dr⟩, hrm⟩ : ∃ x, (rmAll g.name (g.firsts.take k) d).remove (fileNm g.name F0) = x := ⟨_, rfl⟩
        have Hrm := Lib.hid hrm
        have Hdr : Hid (rmAll g.name (g.firsts.take (k + 1)) d = dr) := Lib.hid (by
          have hk2 : k < g.firsts.length := (List.getElem?_eq_some_iff.1 HF0.out).1
          have hg : g.firsts[k] = F0 := (List.getElem?_eq_some_iff.1 HF0.out).2
          rw [List.take_succ_eq_append_getElem hk2, rmAll_snoc, hg, hrm])
        clear hrm
        have hkb : (k : Int) + 1 ≤ 1000001 := by have := Hfl.out; omega
        go_wp2_with fail
        go_region_held3 (fun w' => w'.cell? ⟨l, 0, none⟩ = some (dP p) ∧ w'.cell? ⟨l, 2, none⟩ = some (.slice (some ⟨q, off + k, none⟩) n cc) ∧ w'.cell? ⟨q, off + k, none⟩ = some (.int .i64 F0)) (exact ⟨c0, c2, d0⟩)
          (first
            | (go_at_call 43
               refine (file_any _ base (Lr.out.kept ((Keeps.refl (S := No) wr).drew) (fun _ h => h.elim)) l g.name hnm.out c1 F0 (by have := Hfe.out; omega)).mono ?_
               rintro e w2 ⟨rfl, hk2⟩
               have K2 : Hid (Keeps No wr w2) := Lib.hid (((Keeps.refl (S := No) wr).drew).trans hk2 (fun _ _ h => h))
               have H2 := Lib.hid (HW.out.no K2.out)
               have e0 := K2.out.cell c0 (fun h => h)
               have e2 := K2.out.cell c2 (fun h => h)
               have e3 := K2.out.cell d0 (fun h => h)
               clear hk2 c0 c2 d0 c1
               have c0 := e0
               have c2 := e2
               have d0 := e3
               clear e0 e2 e3)
            | (go_at_call 46
               refine (remove_tot H2.out.disk _ er dr Hrm.out).mono ?_
               rintro e w3 ⟨rfl, hd3, hk3⟩
               have K3 : Hid (Keeps (Two p b) wr w3) := Lib.hid ((K2.out.mono (fun _ _ h => h.elim)).trans hk3 (fun _ _ h => h))
               have H3 := Lib.hid (H2.out.disked hk3 hd3)
               have e0 : w3.cell? ⟨l, 0, none⟩ = some (dP p) := H3.out.log.cell0
               have e2 := hk3.cell c2 (fun e => by rcases e with e | e; exact H3.out.log.lp e; exact H3.out.lb e)
               have e3 := hk3.cell d0 (fun e => Hqn.out (by rcases e with e | e; exact .inr (.inl e); exact .inr (.inr e)))
               clear hk3 hd3 c0 c2 d0
               have c0 := e0
               have c2 := e2
               have d0 := e3
               clear e0 e2 e3))
        have f2 := H3.out.log.opened.frozen 2
        have hl3 : l < w3.heap.size := H3.out.log.lt
        clear K2 H2 d0 d1
        go_wp2
        go_roundw
        case rel =>
          have hk1 : N - (k + 1) = n - 1 := by have := Hn.out; omega
          have hk2 : c - (k + 1) = cc - 1 := by have := Hcc.out; omega
          refine ⟨k + 1, by omega, by go_num, fun j m h1 h2 hj => ?_, ?_, ?_⟩
          · by_cases hjk : j ≤ k
            · exact Hup.out j m h1 hjk hj
            · obtain rfl : j = k + 1 := by omega
              rw [HF1.out] at hj
              simp only [Option.some.injEq] at hj
              rw [← hj]
              exact hle
          · have hdl : (g.firsts.drop (k + 1)).length = N - (k + 1) := by rw [List.length_drop, ← HN.out]
            have ea : off + k + 1 = off + (k + 1) := by omega
            have hkk : Keeps (Core l p b) w (w3.setCell ⟨l, 2, none⟩ (.slice (some ⟨q, off + (k + 1), none⟩) (N - (k + 1)) (c - (k + 1)))) := (HK.out.trans (two_core K3.out) (fun _ _ h => h)).setCell (p := ⟨l, 2, none⟩) (fun _ => .inl rfl) _
            rw [Hdr.out, ← hk1, ← hk2, ea]
            refine H3.out.rowed (heap_setCell_at H3.out.log.cells _) ((Keeps.refl (S := Own l) w3).setCell (p := ⟨l, 2, none⟩) (fun _ => (rfl : l = l)) _) rfl rfl (by rw [hdl]; omega) (fun m hm => ?_) ?_ rfl
            · have e : g.firsts.drop (k + 1) = (g.firsts.drop k).drop 1 := by rw [List.drop_drop]
              show m ∈ g.firsts.drop k
              rw [show ({ name := g.name, firsts := List.drop (k + 1) g.firsts, next := g.next } : Lg).firsts = (g.firsts.drop k).drop 1 from e] at hm
              exact List.mem_of_mem_drop hm
            · refine ⟨by rw [intsV_length]; omega, fun u hu => intsV_one u _ hu, .inr ⟨⟨q, off + (k + 1), none⟩, c - (k + 1), by rw [hdl], by rw [hdl]; omega, by have := Hcm.out; omega, fun j u hu => ?_⟩⟩
              unfold intsV at hu
              rw [List.getElem?_map, List.getElem?_drop] at hu
              cases hf : g.firsts[k + 1 + j]? with
              | none => rw [hf] at hu; cases hu
              | some m =>
                rw [hf] at hu
                simp only [Option.map_some, Option.some.injEq] at hu
                have h9 := hkk.cell (Hx.out (k + 1 + j) m hf) Hqn.out
                rw [Addr.add_lit, ← hu]
                rw [show off + (k + 1) + j = off + (k + 1 + j) by omega]
                exact h9
          · exact (HK.out.trans (two_core K3.out) (fun _ _ h => h)).setCell (p := ⟨l, 2, none⟩) (fun _ => .inl rfl) _
        case measure => simp [intOf]; omega
      · go_wp2
        go_ret
        refine ⟨k, _, rfl, by rw [← HN.out]; exact hk, Hup.out, fun m hm => ?_, HW.out, rfl, HK.out⟩
        rw [HF1.out] at hm
        simp only [Option.some.injEq] at hm
        rw [← hm]
        omega
end
end Go.Proofs.YtghamhipcpgofaaGreatDoor
