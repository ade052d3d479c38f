/-
  The log as data: what its methods make of it; wal's First, Next, Segments, Sync, lay. No conditions of their own, but that the tables are laid.
-/
import Derived.Test.YtghamhipcpgofaaGreatDoorWaE
import Derived.Deep.RegionLaw
namespace Go.Proofs.YtghamhipcpgofaaGreatDoor
open Go.RowKit Go.Shelf Go.Sort Go.Joins

def Lg.last (g : Lg) : ByteArray := fileNm g.name (lastN g.firsts)
def Lg.file (g : Lg) (n : Nat) : ByteArray := fileNm g.name n
def frameB (s : ByteArray) : ByteArray := ⟨(frameL s.data.toList).toArray⟩
/-- what is read of a file -/
def Ds.look (d : Ds) (n : ByteArray) : Fi := (findE d.fs n).1
def Lg.sync (g : Lg) (d : Ds) : Int × Ds := d.sync g.last
/-- one record is laid -/
def Lg.lay (g : Lg) (d : Ds) (s : ByteArray) : Int × Lg × Ds :=
  bif decide ((d.look g.last).s.size < 4096) then
    (bif (d.append g.last (frameB s)).1 == 0 then (0, ⟨g.name, g.firsts, g.next + 1⟩, (d.append g.last (frameB s)).2) else ((d.append g.last (frameB s)).1, g, (d.append g.last (frameB s)).2))
  else bif decide (99999999 < g.next) then (8, g, d) else
    (bif ((d.sync g.last).2.append (g.file g.next) (frameB s)).1 == 0 then (0, ⟨g.name, g.firsts ++ [g.next], g.next + 1⟩, ((d.sync g.last).2.append (g.file g.next) (frameB s)).2)
     else (((d.sync g.last).2.append (g.file g.next) (frameB s)).1, g, ((d.sync g.last).2.append (g.file g.next) (frameB s)).2))

/-- THE LOG AND ITS DISK. -/
structure WLog (w : World) (base l p b : Nat) (v : Value) (g : Lg) (d : Ds) : Prop where
  log : LogAt w base l p v g
  disk : DAt w p b d
  bp : base ≤ p
  bb : base ≤ b
  vp : ¬ v.ownBlock = some p
  vb : ¬ v.ownBlock = some b
  lb : l ≠ b
section
variable {w : World} {base l p b : Nat} {v : Value} {g : Lg} {d : Ds}
theorem WLog.no {w' : World} (h : WLog w base l p b v g d) (k : Keeps No w w') : WLog w' base l p b v g d :=
  ⟨h.log.no k, h.disk.kept k (fun h => h) (fun h => h), h.bp, h.bb, h.vp, h.vb, h.lb⟩
theorem WLog.kept {S : Nat → Prop} {w' : World} (h : WLog w base l p b v g d) (k : Keeps S w w') (hS : ∀ i, LogS l p b v i → ¬ S i) : WLog w' base l p b v g d :=
  ⟨h.log.kept k (hS l (.inl rfl)) (fun i hi => hS i (.inr (.inr (.inr hi)))), h.disk.kept k (hS p (.inr (.inl rfl))) (hS b (.inr (.inr (.inl rfl)))), h.bp, h.bb, h.vp, h.vb, h.lb⟩
/-- the disk alone is another one -/
theorem WLog.disked {w' : World} {d' : Ds} (h : WLog w base l p b v g d) (k : Keeps (Two p b) w w') (hd : DAt w' p b d') : WLog w' base l p b v g d' :=
  ⟨h.log.kept k (fun hs => by rcases hs with e | e; exact h.log.lp e; exact h.lb e) (fun i hi hs => by rcases hs with e | e; exact h.vp (e ▸ hi); exact h.vb (e ▸ hi)), hd, h.bp, h.bb, h.vp, h.vb, h.lb⟩
theorem two_log {w' : World} (k : Keeps (Two p b) w w') : Keeps (LogS l p b v) w w' := k.mono (fun i _ h => by rcases h with h | h; exact .inr (.inl h); exact .inr (.inr (.inl h)))
theorem no_log {w' : World} (k : Keeps No w w') : Keeps (LogS l p b v) w w' := k.mono (fun _ _ h => h.elim)
theorem WLog.laid {w' : World} (h : WLog w base l p b v g d) (hL : Laid w base) (k : Keeps (LogS l p b v) w w') : Laid w' base :=
  hL.kept k (fun i hi => by rcases hi with e | e | e | e; exact e ▸ h.log.bl; exact e ▸ h.bp; exact e ▸ h.bb; exact h.log.bv i e)

theorem firstLog_any (h : LogAt w base l p v g) (F : Nat) (hF : g.firsts[0]? = some F) : Calls Tryz.prog 26 #[dP l] w fun e w' => e = .returned (.int .i64 F) ∧ w' = w := by
  obtain ⟨q, off, c, rfl, h1, h2, h3, hx⟩ := RdInts.cell h.rd h.ne
  have c2 := h.cell2
  have d0 : w.cell? ⟨q, off, none⟩ = some (.int .i64 F) := hx 0 F hF
  have hn := h.ne
  have hn2 : (0 : Int) < (g.firsts.length : Int) := by omega
  clear hx hF h
  go_enter Tryz.func26, Tryz.ntmps26
  go_wp2
  go_ret
  exact ⟨rfl, rfl⟩
theorem nextLog_any (h : LogAt w base l p v g) : Calls Tryz.prog 22 #[dP l] w fun e w' => e = .returned (.int .i64 g.next) ∧ w' = w := by
  have c3 := h.cell3
  clear h
  go_enter Tryz.func22, Tryz.ntmps22
  go_wp2
  go_ret
  exact ⟨rfl, rfl⟩
theorem cast_getD (L : List Nat) (j : Nat) (hj : j < L.length) : (L.map fun n : Nat => (n : Int)).getD j 0 = ((L[j] : Nat) : Int) := by
  simp [List.getD, hj]
theorem segs_any (h : LogAt w base l p v g) (hsm : g.firsts.length ≤ 1000000) : Calls Tryz.prog 12 #[dP l] w fun e w' => ∃ v', e = .returned v' ∧ OwnInts w' w.heap.size v' g.firsts ∧ Keeps No w w' := by
  obtain ⟨q, off, c, rfl, h1, h2, h3, hx⟩ := RdInts.cell h.rd h.ne
  have c2 := h.cell2
  have hcl := Tryz.slices_Clone_int q off g.firsts.length c (g.firsts.map fun n : Nat => (n : Int)) w (by simp) (by omega) (fun j hj => by
    have hj' : j < g.firsts.length := by simpa using hj
    rw [cast_getD _ _ hj']
    exact hx j _ (List.getElem?_eq_getElem hj'))
  have hcl2 : Calls Tryz.prog 32 #[.slice (some ⟨q, off, none⟩) g.firsts.length c] w fun e w' => ∃ v', e = .returned v' ∧ OwnInts w' w.heap.size v' g.firsts ∧ Keeps No w w' := by
    refine hcl.mono ?_
    rintro e w' ⟨v', rfl, ho, _, hb⟩
    refine ⟨v', rfl, ?_, Keeps.ofBelow hb⟩
    have e1 : ((g.firsts.map fun n : Nat => (n : Int)).take g.firsts.length).map (Value.int .i64) = intsV g.firsts := by
      rw [List.take_of_length_le (by simp), List.map_map]
      rfl
    rw [e1] at ho
    exact ho
  clear hx h hcl
  go_enter Tryz.func12, Tryz.ntmps12
  go_wp2_with fail
  refine hcl2.mono ?_
  rintro e w1 ⟨v', rfl, ho, hk⟩
  have Ho := Lib.hid ho
  have HK := Lib.hid hk
  clear ho hk
  go_wp2
  go_ret
  exact ⟨_, rfl, Ho.out, HK.out⟩

set_option maxRecDepth 100000 in
set_option maxHeartbeats 1000000 in
theorem syncLog_any (hL : Laid w base) (h : WLog w base l p b v g d) (ec : Int) (d' : Ds) (hE : g.sync d = (ec, d')) :
    Calls Tryz.prog 17 #[dP l] w fun e w' => e = .returned (.int .i64 ec) ∧ WLog w' base l p b v g d' ∧ Keeps (Two p b) w w' := by
  have c0 := h.log.cell0
  have H := Lib.hid h
  have HL := Lib.hid hL
  have HE := Lib.hid hE
  have hll := h.log.lt
  clear h hL hE
  go_enter Tryz.func17, Tryz.ntmps17
  go_wp2_with fail
  go_region_held3 (fun w' => w'.cell? ⟨l, 0, none⟩ = some (dP p)) (exact c0)
    (first
      | (go_at_call 39
         refine (last_any (HL.out.kept ((Keeps.refl (S := No) w).drew) (fun _ h => h.elim)) (H.out.log.no ((Keeps.refl (S := No) w).drew))).mono ?_
         rintro e w1 ⟨rfl, hk1⟩
         have K1 : Hid (Keeps No w w1) := Lib.hid (((Keeps.refl (S := No) w).drew).trans hk1 (fun _ _ h => h))
         have H1 := Lib.hid (H.out.no K1.out)
         have d0 := K1.out.cell c0 (fun h => h)
         clear hk1 c0
         have c0 := d0
         clear d0)
      | (go_at_call 38
         refine (sync_tot H1.out.disk _ ec d' HE.out).mono ?_
         rintro e w2 ⟨rfl, hd2, hk2⟩
         have K2 : Hid (Keeps (Two p b) w w2) := Lib.hid ((K1.out.mono (fun _ _ h => h.elim)).trans hk2 (fun _ _ h => h))
         have H2 := Lib.hid (H1.out.disked hk2 hd2)
         have c0 := H2.out.log.cell0
         clear hk2 hd2))
  go_wp2
  go_ret
  exact ⟨rfl, H2.out, K2.out⟩

/-- a row that comes to be is the old one, or a new one -/
def Newer (w : World) (v v' : Value) : Prop := ∀ k, v'.ownBlock = some k → v.ownBlock = some k ∨ w.heap.size ≤ k
def LayPost (w : World) (base l p b : Nat) (v : Value) (ec : Int) (g' : Lg) (d' : Ds) (e : Ending) (w' : World) : Prop :=
  e = .returned (.int .i64 ec) ∧ ∃ v', WLog w' base l p b v' g' d' ∧ OwnInts w' base v' g'.firsts ∧ Newer w v v' ∧ Keeps (LogS l p b v) w w'
theorem WLog.nexted {n : Nat} (h : WLog w base l p b v g d) (hn : n ≤ 4611686018427387904) : WLog (w.setCell ⟨l, 3, none⟩ (.int .i64 n)) base l p b v ⟨g.name, g.firsts, n⟩ d :=
  have k : Keeps (Own l) w (w.setCell ⟨l, 3, none⟩ (.int .i64 n)) := (Keeps.refl (S := Own l) w).setCell (p := ⟨l, 3, none⟩) (fun _ => (rfl : l = l)) _
  ⟨⟨heap_setCell_at h.log.cells _, h.log.rd.kept k (fun _ hi e => h.log.vl (e ▸ hi)), h.log.ne, h.log.nm, h.log.few, hn, h.log.bl, h.log.bv, h.log.vl, h.log.lp⟩,
    h.disk.kept k (fun e => h.log.lp e.symm) (fun e => h.lb e.symm), h.bp, h.bb, h.vp, h.vb, h.lb⟩

theorem WLog.pushed (h : WLog w base l p b v g d) (hb : base ≤ w.heap.size) {w' : World} {v' : Value} (k : Keeps (Of v) w w') (ho : w'.ownsRow base 3 1 v' (g.firsts.length + 1) (intsV g.firsts ++ [.int .i64 g.next]))
    (hnew : Newer w v v') (hn : g.next + 1 ≤ 4611686018427387904) :
    WLog ((w'.setCell ⟨l, 2, none⟩ v').setCell ⟨l, 3, none⟩ (.int .i64 ((g.next + 1 : Nat) : Int))) base l p b v' ⟨g.name, g.firsts ++ [g.next], g.next + 1⟩ d ∧
    OwnInts ((w'.setCell ⟨l, 2, none⟩ v').setCell ⟨l, 3, none⟩ (.int .i64 ((g.next + 1 : Nat) : Int))) base v' (g.firsts ++ [g.next]) ∧
    Keeps (LogS l p b v) w ((w'.setCell ⟨l, 2, none⟩ v').setCell ⟨l, 3, none⟩ (.int .i64 ((g.next + 1 : Nat) : Int))) := by
  have ne : ∀ q, q < w.heap.size → ¬ v.ownBlock = some q → ¬ v'.ownBlock = some q := fun q hq hv hv' => by rcases hnew q hv' with e | e; exact hv e; omega
  have lv := ne l h.log.lt h.log.vl
  have pv := ne p h.disk.lt.1 h.vp
  have bv := ne b h.disk.lt.2 h.vb
  have kk : Keeps (Own l) w' ((w'.setCell ⟨l, 2, none⟩ v').setCell ⟨l, 3, none⟩ (.int .i64 ((g.next + 1 : Nat) : Int))) := ((Keeps.refl (S := Own l) w').setCell (p := ⟨l, 2, none⟩) (fun _ => (rfl : l = l)) _).setCell (p := ⟨l, 3, none⟩) (fun _ => (rfl : l = l)) _
  have hc := k.heap h.log.cells (fun e => h.log.vl e)
  have ho2 : OwnInts w' base v' (g.firsts ++ [g.next]) := by
    unfold OwnInts
    rw [List.length_append, intsV_append]
    exact ho
  have ho3 : OwnInts ((w'.setCell ⟨l, 2, none⟩ v').setCell ⟨l, 3, none⟩ (.int .i64 ((g.next + 1 : Nat) : Int))) base v' (g.firsts ++ [g.next]) := kk.owns ho2 (fun i hi e => lv (e ▸ hi))
  refine ⟨⟨⟨heap_setCell_at (heap_setCell_at hc v') _, Reads.ofOwn ho3 (fun u hu => intsV_one u _ hu), by simp, h.log.nm, ?_, hn, h.log.bl, ?_, lv, h.log.lp⟩, ?_, h.bp, h.bb, pv, bv, h.lb⟩, ho3, ?_⟩
  · intro n hn'
    rcases List.mem_append.1 hn' with e | e
    · exact h.log.few n e
    · rw [List.mem_singleton.1 e]; omega
  · intro i hi
    rcases hnew i hi with e | e
    · exact h.log.bv i e
    · omega
  · exact (h.disk.kept k (fun e => h.vp e) (fun e => h.vb e)).kept kk (fun e => h.log.lp e.symm) (fun e => h.lb e.symm)
  · exact (k.mono (fun i _ e => .inr (.inr (.inr e)))).trans kk (fun i _ e => .inl e)

set_option maxRecDepth 100000 in
set_option maxHeartbeats 4000000 in
theorem lay_any (hL : Laid w base) (hb : base ≤ w.heap.size) (h : WLog w base l p b v g d) (ho : OwnInts w base v g.firsts) (s : ByteArray) (hs : (s.size : Int) ≤ 65536) (hnx : g.next + 1 ≤ 4611686018427387904) (hfl : g.firsts.length ≤ 1000000)
    (ec : Int) (g' : Lg) (d' : Ds) (hE : g.lay d s = (ec, g', d')) : Calls Tryz.prog 31 #[dP l, .string s] w (LayPost w base l p b v ec g' d') := by
  have Hb := Lib.hid hb
  obtain ⟨i0, hi, hz0, hz1, hz2⟩ := info_parts Tryz.infoInt
  obtain ⟨va, vc, rfl⟩ := ownsRow_slice ho
  obtain ⟨⟨fx, fe⟩, hfind⟩ : ∃ x, findE d.fs g.last = x := ⟨_, rfl⟩
  have hfok : fx.s.size ≤ 4194304 := by
    rcases findE_cases d.fs g.last with hc | ⟨hc, _⟩ | ⟨f, hc, hg, _⟩
    · rw [hc] at hfind; obtain ⟨rfl, rfl⟩ := Prod.mk.inj hfind; decide
    · rw [hc] at hfind; obtain ⟨rfl, rfl⟩ := Prod.mk.inj hfind; decide
    · rw [hc] at hfind; obtain ⟨rfl, rfl⟩ := Prod.mk.inj hfind; exact (h.disk.get_ok hg).1
  have hlook : d.look g.last = fx := by unfold Ds.look; rw [hfind]
  unfold Lg.lay at hE
  rw [hlook] at hE
  have HE := Lib.hid hE
  have Hfind := Lib.hid hfind
  have H := Lib.hid h
  have HL := Lib.hid hL
  have Ho := Lib.hid ho
  have Hnx := Lib.hid hnx
  have Hfl := Lib.hid hfl
  obtain ⟨F, hF⟩ : ∃ F, F = frameB s := ⟨_, rfl⟩
  have HF := Lib.hid hF
  have hFF : (⟨(frameL s.data.toList).toArray⟩ : ByteArray) = F := hF.symm
  have c0 := h.log.cell0
  have hll := h.log.lt
  clear hb hE hfind h hL ho hnx hfl hlook hF
  go_enter Tryz.func31, Tryz.ntmps31
  go_wp2_with fail
  refine (frame_ok w base HL.out Hb.out s hs).mono ?_
  rintro e w1 ⟨rfl, hk1⟩
  rw [hFF]
  have H1 := Lib.hid (H.out.no hk1)
  have K1 := Lib.hid hk1
  have L1 := Lib.hid (HL.out.kept hk1 (fun _ h => h.elim))
  have d0 := hk1.cell c0 (fun h => h)
  clear hk1 c0 hFF
  have hl1 : l < w1.heap.size := H1.out.log.lt
  go_wp2_with fail
  go_region_held3 (fun w' => w'.cell? ⟨l, 0, none⟩ = some (dP p)) (exact d0)
    (first
      | (go_at_call 39
         refine (last_any (L1.out.kept ((Keeps.refl (S := No) w1).drew) (fun _ h => h.elim)) (H1.out.log.no ((Keeps.refl (S := No) w1).drew))).mono ?_
         rintro e w2 ⟨rfl, hk2⟩
         have K2 : Hid (Keeps No w w2) := Lib.hid ((K1.out.drew).trans hk2 (fun _ _ h => h))
         have H2 := Lib.hid (H.out.no K2.out)
         have c0 := H2.out.log.cell0
         clear hk2 d0
         have d0 := c0
         clear c0)
      | (go_at_call 50
         refine (size_any H2.out.disk _ fx fe Hfind.out).mono ?_
         rintro e w3 ⟨rfl, hk3⟩
         have K3 : Hid (Keeps No w w3) := Lib.hid (K2.out.trans hk3 (fun _ _ h => h))
         have H3 := Lib.hid (H.out.no K3.out)
         have c0 := H3.out.log.cell0
         clear hk3 d0
         have d0 := c0
         clear c0))
  have L3 := Lib.hid (HL.out.kept K3.out (fun _ h => h.elim))
  have hl3 : l < w3.heap.size := H3.out.log.lt
  clear K1 K2 H1 H2 L1 hl1 Hfind
  by_cases hlt : fx.s.size < 4096
  · have hlti : (fx.s.size : Int) < 4096 := by omega
    obtain ⟨⟨ea, da⟩, hap⟩ : ∃ x, d.append g.last (frameB s) = x := ⟨_, rfl⟩
    have hE2 := HE.out
    rw [decide_eq_true hlt, cond_true, hap] at hE2
    dsimp only at hE2
    rw [← HF.out] at hap
    have Hap := Lib.hid hap
    have HE2 := Lib.hid hE2
    clear hap hE2 HE hlt
    go_wp2_with fail
    go_region_held3 (fun w' => w'.cell? ⟨l, 0, none⟩ = some (dP p)) (exact d0)
      (first
        | (go_at_call 39
           refine (last_any (L3.out.kept ((Keeps.refl (S := No) w3).drew) (fun _ h => h.elim)) (H3.out.log.no ((Keeps.refl (S := No) w3).drew))).mono ?_
           rintro e w4 ⟨rfl, hk4⟩
           have K4 : Hid (Keeps No w w4) := Lib.hid ((K3.out.drew).trans hk4 (fun _ _ h => h))
           have H4 := Lib.hid (H.out.no K4.out)
           have c0 := H4.out.log.cell0
           clear hk4 d0
           have d0 := c0
           clear c0)
        | (go_at_call 19
           refine (append_tot H4.out.disk _ F ea da Hap.out).mono ?_
           rintro e w5 ⟨rfl, hd5, hk5⟩
           have K5 : Hid (Keeps (Two p b) w w5) := Lib.hid ((K4.out.mono (fun _ _ h => h.elim)).trans hk5 (fun _ _ h => h))
           have H5 := Lib.hid (H4.out.disked hk5 hd5)
           have Ho5 : Hid (OwnInts w5 base (.slice va g.firsts.length vc) g.firsts) := Lib.hid (K5.out.owns Ho.out (fun i hi hs => by rcases hs with e | e; exact H.out.vp (e ▸ hi); exact H.out.vb (e ▸ hi)))
           have c0 := H5.out.log.cell0
           clear hk5 hd5 d0
           have d0 := c0
           clear c0))
    have c3 := H5.out.log.cell3
    have f3 := H5.out.log.opened.frozen 3
    have hl5 : l < w5.heap.size := H5.out.log.lt
    clear K4 H4 L3 H3 K3 hl3 Hap
    by_cases hea : ea = 0
    · subst hea
      have h0 : ((0 : Int) != 0) = false := rfl
      have hg1 : (g.next : Int) + 1 ≤ 4611686018427387904 := by have := Hnx.out; omega
      have hg0 : (0 : Int) ≤ (g.next : Int) := by omega
      go_wp2
      go_ret
      have hE3 := HE2.out
      have e1 : ((0 : Int) == 0) = true := rfl
      rw [e1, cond_true] at hE3
      simp only [Prod.mk.injEq] at hE3
      obtain ⟨rfl, rfl, rfl⟩ := hE3
      exact ⟨rfl, _, H5.out.nexted Hnx.out, ((Keeps.refl (S := Own l) w5).setCell (p := ⟨l, 3, none⟩) (fun _ => (rfl : l = l)) _).owns Ho5.out (fun i hi hs => H5.out.log.vl (hs ▸ hi)), fun k hk => .inl hk, (two_log K5.out).setCell (p := ⟨l, 3, none⟩) (fun _ => .inl rfl) _⟩
    · have h0 : (ea != 0) = true := by simpa using hea
      have h1 : (ea == 0) = false := by simpa using hea
      go_wp2
      go_ret
      have hE3 := HE2.out
      rw [h1, cond_false] at hE3
      simp only [Prod.mk.injEq] at hE3
      obtain ⟨rfl, rfl, rfl⟩ := hE3
      exact ⟨rfl, _, H5.out, Ho5.out, fun k hk => .inl hk, two_log K5.out⟩
  · have hlti : ¬ (fx.s.size : Int) < 4096 := by omega
    have hE2 := HE.out
    rw [decide_eq_false hlt, cond_false] at hE2
    have HE2 := Lib.hid hE2
    have c3 := H3.out.log.cell3
    clear hE2 HE hlt
    by_cases hbig : 99999999 < g.next
    · have hbi : (99999999 : Int) < (g.next : Int) := by omega
      go_wp2
      go_ret
      have hE3 := HE2.out
      rw [decide_eq_true hbig, cond_true] at hE3
      simp only [Prod.mk.injEq] at hE3
      obtain ⟨rfl, rfl, rfl⟩ := hE3
      exact ⟨rfl, _, H3.out, K3.out.owns Ho.out (fun _ _ h => h), fun k hk => .inl hk, no_log K3.out⟩
    · have hbi : ¬ (99999999 : Int) < (g.next : Int) := by omega
      have hE3 := HE2.out
      rw [decide_eq_false hbig, cond_false] at hE3
      obtain ⟨⟨es, ds⟩, hsy⟩ : ∃ x, d.sync g.last = x := ⟨_, rfl⟩
      rw [hsy] at hE3
      dsimp only at hE3
      obtain ⟨⟨ea, da⟩, hap⟩ : ∃ x, ds.append (g.file g.next) (frameB s) = x := ⟨_, rfl⟩
      rw [hap] at hE3
      dsimp only at hE3
      rw [← HF.out] at hap
      have HE3 := Lib.hid hE3
      have Hap := Lib.hid hap
      have Hsy := Lib.hid hsy
      clear hE3 hap hsy HE2 hbig
      go_wp2_with fail
      go_region_held3 (fun w' => w'.cell? ⟨l, 0, none⟩ = some (dP p)) (exact d0)
        (first
          | (go_at_call 39
             refine (last_any (L3.out.kept ((Keeps.refl (S := No) w3).drew) (fun _ h => h.elim)) (H3.out.log.no ((Keeps.refl (S := No) w3).drew))).mono ?_
             rintro e w4 ⟨rfl, hk4⟩
             have K4 : Hid (Keeps No w w4) := Lib.hid ((K3.out.drew).trans hk4 (fun _ _ h => h))
             have H4 := Lib.hid (H.out.no K4.out)
             have c0 := H4.out.log.cell0
             clear hk4 d0
             have d0 := c0
             clear c0)
          | (go_at_call 38
             refine (sync_tot H4.out.disk _ es ds Hsy.out).mono ?_
             rintro e w5 ⟨rfl, hd5, hk5⟩
             have K5 : Hid (Keeps (Two p b) w w5) := Lib.hid ((K4.out.mono (fun _ _ h => h.elim)).trans hk5 (fun _ _ h => h))
             have H5 := Lib.hid (H4.out.disked hk5 hd5)
             have L5 := Lib.hid (H.out.laid HL.out (two_log K5.out))
             have c0 := H5.out.log.cell0
             clear hk5 hd5 d0
             have d0 := c0
             clear c0))
      clear c3
      have c3 := H5.out.log.cell3
      have c1 := H5.out.log.cell1
      have hl5 : l < w5.heap.size := H5.out.log.lt
      have hnm : Hid ((g.name.size : Int) ≤ 1000) := Lib.hid (by have := H.out.log.nm; omega)
      clear K4 H4 L3 H3 K3 hl3 Hsy
      go_wp2_with fail
      go_region_held3 (fun w' => w'.cell? ⟨l, 0, none⟩ = some (dP p) ∧ w'.cell? ⟨l, 3, none⟩ = some (.int .i64 g.next)) (exact ⟨d0, c3⟩)
        (first
          | (go_at_call 43
             refine (file_any _ base (L5.out.kept ((Keeps.refl (S := No) w5).drew) (fun _ h => h.elim)) l g.name hnm.out c1 g.next (by have := Hnx.out; omega)).mono ?_
             rintro e w6 ⟨rfl, hk6⟩
             have hk56 : Keeps No w5 w6 := ((Keeps.refl (S := No) w5).drew).trans hk6 (fun _ _ h => h)
             have K6 : Hid (Keeps (Two p b) w w6) := Lib.hid (K5.out.trans hk56 (fun _ _ h => h.elim))
             have H6 := Lib.hid (H5.out.no hk56)
             have e0 := H6.out.log.cell0
             have e3 := H6.out.log.cell3
             clear hk6 hk56 d0 c3 c1
             have d0 := e0
             have c3 := e3
             clear e0 e3)
          | (go_at_call 19
             refine (append_tot H6.out.disk _ F ea da Hap.out).mono ?_
             rintro e w7 ⟨rfl, hd7, hk7⟩
             have K7 : Hid (Keeps (Two p b) w w7) := Lib.hid (K6.out.trans hk7 (fun _ _ h => h))
             have H7 := Lib.hid (H6.out.disked hk7 hd7)
             have e0 := H7.out.log.cell0
             have e3 := H7.out.log.cell3
             clear hk7 hd7 d0 c3
             have d0 := e0
             have c3 := e3
             clear e0 e3))
      have Ho7 : Hid (OwnInts w7 base (.slice va g.firsts.length vc) g.firsts) := Lib.hid (K7.out.owns Ho.out (fun i hi hs => by rcases hs with e | e; exact H.out.vp (e ▸ hi); exact H.out.vb (e ▸ hi)))
      have hl7 : l < w7.heap.size := H7.out.log.lt
      clear K6 H6 K5 H5 L5 hl5 Hap
      by_cases hea : ea = 0
      · subst hea
        have h0 : ((0 : Int) != 0) = false := rfl
        have c2 := H7.out.log.cell2
        have f2 := H7.out.log.opened.frozen 2
        go_wp2_with fail
        have Hk : Hid (Keeps No w7 ((w7.alloc (.cells #[.int .i64 g.next] 3)).drew)) := Lib.hid (((Keeps.refl (S := No) w7).alloc _).drew)
        have Hown : Hid (OwnInts ((w7.alloc (.cells #[.int .i64 g.next] 3)).drew) base (.slice va g.firsts.length vc) g.firsts) := Lib.hid (Hk.out.owns Ho7.out (fun _ _ h => h))
        have Hrd : Hid (Reads ((w7.alloc (.cells #[.int .i64 g.next] 3)).drew) 1 (.slice (some ⟨w7.heap.size, 0, none⟩) 1 1) 1 [.int .i64 g.next]) := Lib.hid (Reads.kept (S := No) ((Keeps.refl _).drew) (Reads.ofOwn (World.ownsRow_lit w7 #[.int .i64 g.next] 1 (Nat.zero_le _) (by unfold maxLen; omega) rfl) (by simp [Value.oneCell'])) (fun _ _ h => h))
        have Hb7 : Hid (base ≤ w7.heap.size) := Lib.hid (by have := Hb.out; have := K7.out.size; omega)
        go_region_law (refine step_append_reads rfl (.tmp 79) (.tmp 84) 30 rfl base 3 i0 _ 1 8 Tryz.underlying30 hi hz0 hz1 hz2 rfl (by decide) (.slice va g.firsts.length vc) g.firsts.length (intsV g.firsts) rfl Hown.out _ 1 [.int .i64 g.next] rfl Hrd.out (by have := Hfl.out; unfold maxLen; omega) (by have := Hfl.out; omega) (by have := Hb7.out; simp; omega) ?_
                       intro v' w8 ho8 hk8 hb8 _
                       obtain ⟨wa, wc, rfl⟩ := ownsRow_slice ho8
                       have K8 : Hid (Keeps (Of (.slice va g.firsts.length vc)) w7 w8) := Lib.hid ((Hk.out.mono (fun _ _ h => h.elim)).trans hk8 (fun _ _ h => h))
                       have HN : Hid (Newer w7 (.slice va g.firsts.length vc) (.slice wa (g.firsts.length + 1) wc)) := Lib.hid (fun q hq => by rcases hb8 q hq with e | e; exact .inl e; exact .inr (Nat.le_trans Hk.out.size e))
                       have HW := Lib.hid (H7.out.pushed Hb7.out K8.out ho8 HN.out Hnx.out)
                       have hh8 := K8.out.heap H7.out.log.cells (fun e => H7.out.log.vl e)
                       have k2 : w8.cell? ⟨l, 2, none⟩ = some (.slice va g.firsts.length vc) := by rw [cell_of_row w8 l 2 _ _ _ hh8]; rfl
                       have k3 : w8.cell? ⟨l, 3, none⟩ = some (.int .i64 g.next) := by rw [cell_of_row w8 l 3 _ _ _ hh8]; rfl
                       have q2 := frozen_of_row w8 l 2 _ _ hh8
                       have q3 := frozen_of_row w8 l 3 _ _ hh8
                       have hl8 : l < w8.heap.size := (Array.getElem?_eq_some_iff.1 hh8).1
                       clear hh8 ho8 hk8 hb8)
        all_goals
          have hg1 : (g.next : Int) + 1 ≤ 4611686018427387904 := by have := Hnx.out; omega
          have hg0 : (0 : Int) ≤ (g.next : Int) := by omega
          go_wp2
          go_ret
          have hE4 := HE3.out
          have e1 : ((0 : Int) == 0) = true := rfl
          rw [e1, cond_true] at hE4
          simp only [Prod.mk.injEq] at hE4
          obtain ⟨rfl, rfl, rfl⟩ := hE4
          exact ⟨rfl, _, HW.out.1, HW.out.2.1, fun k hk => by rcases HN.out k hk with e | e; exact .inl e; exact .inr (Nat.le_trans K7.out.size e), (two_log K7.out).trans HW.out.2.2 (fun _ _ h => h)⟩
      · have h0 : (ea != 0) = true := by simpa using hea
        have h1 : (ea == 0) = false := by simpa using hea
        go_wp2
        go_ret
        have hE4 := HE3.out
        rw [h1, cond_false] at hE4
        simp only [Prod.mk.injEq] at hE4
        obtain ⟨rfl, rfl, rfl⟩ := hE4
        exact ⟨rfl, _, H7.out, Ho7.out, fun k hk => .inl hk, two_log K7.out⟩
end
end Go.Proofs.YtghamhipcpgofaaGreatDoor
