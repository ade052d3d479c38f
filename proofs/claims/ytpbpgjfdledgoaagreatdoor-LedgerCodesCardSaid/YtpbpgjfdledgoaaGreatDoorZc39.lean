/-
  Records are laid and done (ledger.write). No conditions of its own, but that the tables are laid.
-/
import Derived.Test.YtpbpgjfdledgoaaGreatDoorZc38
import Derived.Test.YtpbpgjfdledgoaaGreatDoorZc28
namespace Go.Proofs.YtpbpgjfdledgoaaGreatDoor
open Go.RowKit Go.Shelf Go.Sort Go.Joins Go.Deep

/-- a record in memory: its names lie in a slice -/
structure Rc where
  r : Lr
  a : Option Addr
  n : Nat
  c : Nat
abbrev Rc.v (x : Rc) : Value := .slice x.a x.n x.c
def cRec : Codec Rc where
  cells x := lrC x.r x.v
  size := 21
  len _ := rfl
  one x u hu := by
    simp only [List.mem_cons, List.not_mem_nil, or_false] at hu
    rcases hu with rfl | rfl | rfl | rfl | rfl | rfl | rfl | rfl | rfl | rfl | rfl | rfl | rfl | rfl | rfl | rfl | rfl | rfl | rfl | rfl | rfl <;> rfl
  pos := by decide
/-- records in a row, off the blocks of B -/
structure Recs (w : World) (B : Nat → Prop) (av : Value) (xs : List Rc) : Prop where
  rd : RdOf cRec w av xs
  off : ∀ i, av.ownBlock = some i → i < w.heap.size ∧ ¬ B i
  one : ∀ x ∈ xs, RdOf cNam w x.v x.r.ids ∧ mayL x.r = true ∧ ∀ i, x.v.ownBlock = some i → i < w.heap.size ∧ ¬ B i
theorem Recs.kept {w w' : World} {B : Nat → Prop} {av : Value} {xs : List Rc} (h : Recs w B av xs) (k : Keeps B w w') : Recs w' B av xs :=
  ⟨h.rd.kept k (fun i hi => (h.off i hi).2), fun i hi => ⟨Nat.lt_of_lt_of_le (h.off i hi).1 k.size, (h.off i hi).2⟩, fun x hx => by
    obtain ⟨a, b, c⟩ := h.one x hx
    exact ⟨a.kept k (fun i hi => (c i hi).2), b, fun i hi => ⟨Nat.lt_of_lt_of_le (c i hi).1 k.size, (c i hi).2⟩⟩⟩
/-! ### what write makes, by how the log answered -/
section
variable {l : Ld} {d : Ds} {rs : List Lr} {e : Int} {g : Lg} {d1 : Ds}
theorem Ld.lay_no (h : l.lg.append d (textsOf rs) = (e, g, d1)) (he : ¬ e = 0) : l.lay d rs = (e, g, d1) := by
  unfold Ld.lay
  rw [h, decide_eq_false he, cond_false]
theorem Ld.lay_on (h : l.lg.append d (textsOf rs) = (0, g, d1)) : l.lay d rs = ((g.sync d1).1, g, (g.sync d1).2) := by
  unfold Ld.lay
  rw [h]
  rfl
theorem Ld.write_no (h : l.lay d rs = (e, g, d1)) (he : ¬ e = 0) : l.write d rs = (e, ⟨l.dk, g, l.ep, l.cmds, e⟩, d1) := by
  unfold Ld.write
  rw [h, decide_eq_false he, cond_false]
theorem Ld.write_ok (h : l.lay d rs = (0, g, d1)) : l.write d rs = (0, Ld.run ⟨l.dk, g, l.ep, l.cmds, 0⟩ rs, d1) := by
  unfold Ld.write
  rw [h]
  rfl
theorem Ld.run_snoc (l : Ld) (rs : List Lr) (r : Lr) : l.run (rs ++ [r]) = ((l.run rs).fold r).2 := by
  unfold Ld.run
  rw [List.foldl_append]
  rfl
end
section
variable {w w' : World} {base : Nat} {P : Lp} {ld : Ld} {ds : Ds}
/-- the log is another one -/
theorem LedAt.logged (h : LedAt w base P ld ds) {v1 : Value} {g1 : Lg} {d1 : Ds} (hW : WLog w' base P.g P.p P.b v1 g1 d1) (hO : OwnInts w' base v1 g1.firsts) (hN : Newer w P.v v1) (hK : Keeps (LogSS P) w w') :
    LedAt w' base ⟨P.l, P.D, P.g, v1, P.p, P.b, P.cv⟩ ⟨ld.dk, g1, ld.ep, ld.cmds, ld.e⟩ d1 ∧ (∀ i, LedS ⟨P.l, P.D, P.g, v1, P.p, P.b, P.cv⟩ i → LedS P i ∨ w.heap.size ≤ i) := by
  have hg : ∀ i, LogSS ⟨P.l, P.D, P.g, v1, P.p, P.b, P.cv⟩ i → LogSS P i ∨ w.heap.size ≤ i := by
    intro i hi
    rcases hi with e | e | e | e
    · exact .inl (.inl e)
    · exact .inl (.inr (.inl e))
    · exact .inl (.inr (.inr (.inl e)))
    · rcases hN i e with e | e
      · exact .inl (.inr (.inr (.inr e)))
      · exact .inr e
  refine ⟨⟨hK.heap h.box h.nl.2, h.desk.kept hK (fun i hi => h.dl i hi) (fun e => h.nm (.inr (.inr e))), hW, hO, hK.owns h.cm (fun i hi e => h.nc i hi (.inr (.inr e))), fun i hi e => ?_, ⟨h.nl.1, fun e => ?_⟩, fun i hi e => ?_, fun e => ?_, h.bl, h.e0, h.e1, h.cl⟩, fun i hi => ?_⟩
  · rcases hg i e with e | e
    · exact h.dl i hi e
    · have := h.desk.lt hi
      omega
  · rcases hg _ e with e | e
    · exact h.nl.2 e
    · have := h.lt _ (.inl rfl)
      simp only at e
      omega
  · rcases e with e | e | e
    · exact h.nc i hi (.inl e)
    · exact h.nc i hi (.inr (.inl e))
    · rcases hg i e with e | e
      · exact h.nc i hi (.inr (.inr e))
      · have := (h.cm.lt i hi).2
        omega
  · rcases e with e | e | e
    · exact h.nm (.inl e)
    · exact h.nm (.inr (.inl e))
    · rcases hg _ e with e | e
      · exact h.nm (.inr (.inr e))
      · have := cellsAt_block h.desk.map
        simp only at e
        omega
  · rcases hi with e | e | e
    · exact .inl (.inl e)
    · exact .inl (.inr (.inl e))
    · rcases hg i e with e | e
      · exact .inl (.inr (.inr e))
      · exact .inr e
theorem LedAt.disked (h : LedAt w base P ld ds) {d1 : Ds} (hW : WLog w' base P.g P.p P.b P.v ld.lg d1) (hK : Keeps (Two P.p P.b) w w') : LedAt w' base P ld d1 :=
  (h.logged hW (hK.owns h.own (fun i hi e => by rcases e with e | e; exact h.log.vp (e ▸ hi); exact h.log.vb (e ▸ hi))) (fun i hi => .inl hi) (two_log hK)).1
theorem Laid.led (hL : Laid w base) (h : LedAt w base P ld ds) (k : Keeps (LedS P) w w') : Laid w' base := hL.kept k h.le
/-- the texts of records -/
def recText (x : Rc) : ByteArray := toB (encL x.r).1
theorem textsOf_recs (xs : List Rc) : textsOf (xs.map Rc.r) = xs.map recText := by
  unfold textsOf
  rw [List.map_map]
  rfl
def WritePost (w : World) (base : Nat) (P : Lp) (x : Int × Ld × Ds) (e : Ending) (w' : World) : Prop := e = .returned (.int .i64 x.1) ∧ LedPost w base P x.2.1 x.2.2 w'
set_option maxRecDepth 100000 in
set_option maxHeartbeats 4000000 in
theorem ledWrite_any (hL : Laid w base) (hb : base ≤ w.heap.size) (h : LedAt w base P ld ds) (av : Value) (xs : List Rc) (hx : Recs w (LedS P) av xs) (hxl : xs.length ≤ 1000)
    (hnx : ld.lg.next + xs.length ≤ 1000000000000) (hfl : ld.lg.firsts.length + xs.length ≤ 1000000) : Calls Tryz.prog 74 #[dP P.l, av] w (WritePost w base P (ld.write ds (xs.map Rc.r))) := by
  obtain ⟨i0, hi, hz0, hz1, hz2⟩ := info_parts Tryz.infoStr
  obtain ⟨va, vc, rfl⟩ := RdOf.slice hx.rd
  obtain ⟨_, c1, _, _, c4⟩ := h.cells
  have ll : P.l < w.heap.size := h.lt _ (.inl rfl)
  have hlen : (xs.length : Int) ≤ 1000 := by omega
  obtain ⟨E, hE⟩ : ∃ x, x = ld.write ds (xs.map Rc.r) := ⟨_, rfl⟩
  rw [← hE]
  have H := Lib.hid h
  have HL := Lib.hid hL
  have Hb := Lib.hid hb
  have HX := Lib.hid hx
  have HE := Lib.hid hE
  have Hnx := Lib.hid hnx
  have Hfl := Lib.hid hfl
  clear h hL hb hx hE hnx hfl
  go_enter Tryz.func74, Tryz.ntmps74
  go_wp2
  go_loopw [5, 14] (fun o q wr => ∃ k : Nat, k ≤ xs.length ∧ q = .int .i64 k ∧ wr.ownsRow w.heap.size 9 1 o k ((xs.take k).map fun x => .string (recText x)) ∧ Keeps No w wr) (fun _ q _ => xs.length - (intOf q).toNat)
  case atStart => exact ⟨0, Nat.zero_le _, rfl, World.ownsRow_nil _ _ _ _, Keeps.refl _⟩
  case round =>
    obtain ⟨k, hk, rfl, hrow, hK⟩ := hrel
    have hk0 : (0 : Int) ≤ (k : Int) := by omega
    obtain ⟨oa, oc, rfl⟩ := ownsRow_slice hrow
    have HO := Lib.hid hrow
    have HK := Lib.hid hK
    by_cases hlt : k < xs.length
    · have hji : (k : Int) < (xs.length : Int) := by omega
      have hrr : RdOf cRec wr (.slice va xs.length vc) xs := HX.out.rd.kept hK (fun _ _ h => h)
      obtain ⟨g, off, rfl, _, _, lg⟩ := RdOf.addr cRec hrr (by omega)
      have cr : cellsAt wr g (off + k * 21) 21 = some (lrC xs[k].r xs[k].v) := RdOf.at cRec hrr k hlt
      obtain ⟨x1, x2, x3⟩ := HX.out.one xs[k] (List.getElem_mem hlt)
      have htk : xs.take (k + 1) = xs.take k ++ [xs[k]] := List.take_succ_eq_append_getElem hlt
      obtain ⟨x, hx⟩ : ∃ x, x = xs[k] := ⟨_, rfl⟩
      rw [← hx] at cr x1 x2 x3 htk
      have HT := Lib.hid htk
      have HV := Lib.hid (x1.kept hK (fun _ _ h => h))
      have HM := Lib.hid x2
      clear hrow hK hrr x1 x2 x3 htk hx
      go_upto_region 5 with fail
      refine wp_world ?_
      intro W hW
      have KW : Hid (Keeps No w W) := Lib.hid (HK.out.trans (by rw [hW]; exact (Keeps.refl _).alloc _) (fun _ _ h => h))
      have HO2 : Hid (W.ownsRow w.heap.size 9 1 (.slice oa k oc) k ((xs.take k).map fun x => .string (recText x))) := Lib.hid (by rw [hW]; exact ((Keeps.refl (S := No) wr).alloc _).owns HO.out (fun _ _ h => h))
      have b0 : cellsAt W wr.heap.size 0 21 = some (lrC x.r x.v) := by rw [hW]; simp [go_sem]
      have CE : Hid (Calls Tryz.prog 10 #[lrV x.r x.v] W fun e w' => e = .returned (.tuple #[.string (recText x), .int .i64 (encL x.r).2]) ∧ Keeps No W w') := Lib.hid (encode_any W x.r x.v (HV.out.kept (by rw [hW]; exact (Keeps.refl (S := No) wr).alloc _) (fun _ _ h => h)))
      have hws : w.heap.size ≤ wr.heap.size := HK.out.size
      clear hW cr HO HK
      go_wp2_with fail
      (with_reducible refine CE.out.mono ?_)
      rintro e w1 ⟨rfl, hk1⟩
      have K1 : Hid (Keeps No w w1) := Lib.hid (KW.out.trans hk1 (fun _ _ h => h))
      have Ho1 := Lib.hid (hk1.owns HO2.out (fun _ _ h => h))
      obtain ⟨T, hT⟩ : ∃ T, T = recText x := ⟨_, rfl⟩
      rw [← hT]
      have HTx := Lib.hid hT
      clear hk1 b0 CE HO2 hT
      go_wp2_with (at_builtin; refine wpList_append_own _ rfl _ _ 67 rfl w.heap.size 9 i0 (.string ⟨#[]⟩) 1 16 Tryz.underlying67 hi hz0 hz1 hz2 rfl (by decide) _ _ _ rfl (Ho1.out.alloc _) ⟨w1.heap.size, 0, none⟩ 1 1 [.string T] rfl rfl (cell_one_new _ _ _) (by simp [Value.oneCell']) (by unfold maxLen; omega) (by omega) (by have := K1.out.size; simp; omega) ?_; intro v' w2 hown2 hk2 _)
      have Ho2 := Lib.hid hown2
      have K2 : Hid (Keeps No w w2) := Lib.hid ((K1.out.alloc _).grown hk2 (fun i hi hlt => absurd hlt (Nat.not_lt.2 (Ho1.out.lt i hi).1)))
      clear hown2 hk2
      go_wp2
      go_roundw
      case rel =>
        refine ⟨k + 1, by omega, by go_num, ?_, K2.out⟩
        have h := Ho2.out
        rw [HT.out, List.map_append, List.map_singleton, ← HTx.out]
        exact h
      case measure => simp [intOf]; omega
    · have hjn : k = xs.length := by omega
      have hji : ¬ ((k : Int) < (xs.length : Int)) := by omega
      subst hjn
      have hws : w.heap.size ≤ wr.heap.size := hK.size
      have d1 := hK.cell c1 (fun h => h)
      have HR := Lib.hid (H.out.no hK)
      have hrd : RdStr wr (.slice oa xs.length oc) (xs.map recText) := by
        have h := Reads.ofOwn hrow (by intro u hu; obtain ⟨t, _, rfl⟩ := List.mem_map.1 hu; rfl)
        unfold RdStr
        rw [List.length_map, List.map_map]
        rw [List.take_length] at h
        exact h
      obtain ⟨⟨e1, g1, s1⟩, hA⟩ : ∃ x, ld.lg.append ds (textsOf (xs.map Rc.r)) = x := ⟨_, rfl⟩
      have HA := Lib.hid hA
      have CA := Lib.hid (appendLog_any (HL.out.kept hK (fun _ h => h.elim)) (Nat.le_trans Hb.out hws) HR.out.log HR.out.own (.slice oa xs.length oc) (xs.map recText) hrd (fun i hi e => by have h1 := (hrow.lt i hi).1; have h2 := logS_lt H.out.log H.out.own i e; omega)
        (by rw [List.length_map]; exact Hnx.out) (by rw [List.length_map]; exact Hfl.out) e1 g1 s1 (by rw [← textsOf_recs]; exact hA))
      clear hrow hK hrd hA
      go_wp2_with fail
      (with_reducible refine CA.out.mono ?_)
      rintro e w1 ⟨rfl, v1, hW1, hO1, hN1, hK1⟩
      obtain ⟨z1, z2⟩ := HR.out.logged hW1 hO1 hN1 hK1
      have L1 := Lib.hid z1
      have N1 : Hid (∀ i, LedS ⟨P.l, P.D, P.g, v1, P.p, P.b, P.cv⟩ i → LedS P i ∨ w.heap.size ≤ i) := Lib.hid (fun i hi => (z2 i hi).imp id (Nat.le_trans hws))
      have K1 : Hid (Keeps (LedS P) w w1) := Lib.hid ((HK.out.mono (fun _ _ h => h.elim)).trans hK1 (fun i _ e => .inr (.inr e)))
      have a4 := (z1.cells).2.2.2.2
      have f4 : w1.frozen? ⟨P.l, 4, none⟩ = false := frozen_of_row _ _ _ _ _ z1.box
      simp only at a4
      clear hW1 hO1 hN1 hK1 z1 z2 CA HR HO HK
      go_upto_region 9 with fail
      refine wp_world ?_
      intro W1 hW1
      have L2 : Hid (LedAt W1 base ⟨P.l, P.D, P.g, v1, P.p, P.b, P.cv⟩ ⟨ld.dk, g1, ld.ep, ld.cmds, e1⟩ s1) := Lib.hid (by rw [hW1]; exact L1.out.box_e e1)
      have K2 : Hid (Keeps (LedS P) w W1) := Lib.hid (K1.out.trans (by rw [hW1]; exact Keeps.ofL rfl (keepsCell _ _ _ _)) (fun _ _ h => h))
      have a4' : W1.cell? ⟨P.l, 4, none⟩ = some (.int .i64 e1) := L2.out.cells.2.2.2.2
      have a1' : W1.cell? ⟨P.l, 1, none⟩ = some (dP P.g) := L2.out.cells.2.1
      have f4' : W1.frozen? ⟨P.l, 4, none⟩ = false := frozen_of_row _ _ _ _ _ L2.out.box
      clear hW1 a4 f4 L1 K1 d1
      by_cases h1 : e1 = 0
      case neg =>
        have HE2 : Hid (E = (e1, ⟨ld.dk, g1, ld.ep, ld.cmds, e1⟩, s1)) := Lib.hid (by rw [HE.out]; exact Ld.write_no (Ld.lay_no HA.out h1) h1)
        have b1 : (e1 == 0) = false := by simpa using h1
        have b2 : (e1 != 0) = true := by simpa using h1
        clear h1
        go_wp2
        go_ret
        exact ⟨by rw [HE2.out]; rfl, by rw [HE2.out]; exact ⟨_, L2.out, K2.out, N1.out, ⟨rfl, rfl, rfl, rfl, rfl, fun _ hi => .inl hi⟩⟩⟩
      subst h1
      obtain ⟨⟨e2, s2⟩, hS⟩ : ∃ x, g1.sync s1 = x := ⟨_, rfl⟩
      have HS := Lib.hid hS
      have CS := Lib.hid (syncLog_any (HL.out.led H.out K2.out) L2.out.log e2 s2 hS)
      clear hS
      go_wp2_with fail
      (with_reducible refine CS.out.mono ?_)
      rintro e w3 ⟨rfl, hW3, hK3⟩
      have L3 := Lib.hid (L2.out.disked hW3 hK3)
      have K3 : Hid (Keeps (LedS P) w w3) := Lib.hid (K2.out.trans hK3 (fun i _ e => by rcases e with e | e; exact .inr (.inr (.inr (.inl e))); exact .inr (.inr (.inr (.inr (.inl e))))))
      have c4' : w3.cell? ⟨P.l, 4, none⟩ = some (.int .i64 0) := L3.out.cells.2.2.2.2
      have g4' : w3.frozen? ⟨P.l, 4, none⟩ = false := frozen_of_row _ _ _ _ _ L3.out.box
      clear hW3 hK3 CS a1' a4' f4'
      go_upto_region 11 with fail
      refine wp_world ?_
      intro W4 hW4
      have L4 : Hid (LedAt W4 base ⟨P.l, P.D, P.g, v1, P.p, P.b, P.cv⟩ ⟨ld.dk, g1, ld.ep, ld.cmds, e2⟩ s2) := Lib.hid (by rw [hW4]; exact L3.out.box_e e2)
      have K4 : Hid (Keeps (LedS P) w W4) := Lib.hid (K3.out.trans (by rw [hW4]; exact Keeps.ofL rfl (keepsCell _ _ _ _)) (fun _ _ h => h))
      have a4' : W4.cell? ⟨P.l, 4, none⟩ = some (.int .i64 e2) := L4.out.cells.2.2.2.2
      clear hW4 c4' g4' L3 K3 L2 K2
      have HLY : Hid (ld.lay ds (xs.map Rc.r) = (e2, g1, s2)) := Lib.hid (by rw [Ld.lay_on HA.out, HS.out])
      by_cases h2 : e2 = 0
      case neg =>
        have HE2 : Hid (E = (e2, ⟨ld.dk, g1, ld.ep, ld.cmds, e2⟩, s2)) := Lib.hid (by rw [HE.out]; exact Ld.write_no HLY.out h2)
        have b2 : (e2 != 0) = true := by simpa using h2
        clear h2
        go_wp2
        go_ret
        exact ⟨by rw [HE2.out]; rfl, by rw [HE2.out]; exact ⟨_, L4.out, K4.out, N1.out, ⟨rfl, rfl, rfl, rfl, rfl, fun _ hi => .inl hi⟩⟩⟩
      subst h2
      have HE2 : Hid (E = (0, Ld.run ⟨ld.dk, g1, ld.ep, ld.cmds, 0⟩ (xs.map Rc.r), s2)) := Lib.hid (by rw [HE.out]; exact Ld.write_ok HLY.out)
      obtain ⟨L0, hL0⟩ : ∃ x, x = (⟨ld.dk, g1, ld.ep, ld.cmds, 0⟩ : Ld) := ⟨_, rfl⟩
      rw [← hL0] at HE2 L4
      have P0 : Hid (LedPost w base P L0 s2 W4) := Lib.hid ⟨_, L4.out, K4.out, N1.out, ⟨rfl, rfl, rfl, rfl, rfl, fun _ hi => .inl hi⟩⟩
      clear hL0 L4 K4 N1 HLY HS HA HE hji
      go_wp2_with fail
      go_loopw [61] (fun q wr => ∃ k : Nat, k ≤ xs.length ∧ q = .int .i64 k ∧ LedPost w base P (L0.run ((xs.map Rc.r).take k)) s2 wr) (fun q _ => xs.length - (intOf q).toNat)
      case atStart => exact ⟨0, Nat.zero_le _, rfl, P0.out⟩
      case round =>
        obtain ⟨k, hk, rfl, P', hP', hK', hN', pg⟩ := hrel
        have hk1 : (0 : Int) ≤ (k : Int) := by omega
        by_cases hlt : k < xs.length
        · have hji : (k : Int) < (xs.length : Int) := by omega
          have hXr := HX.out.kept hK'
          obtain ⟨g, off, rfl, _, _, lg⟩ := RdOf.addr cRec hXr.rd (by omega)
          have cr : cellsAt wr g (off + k * 21) 21 = some (lrC xs[k].r xs[k].v) := RdOf.at cRec hXr.rd k hlt
          obtain ⟨x1, x2, x3⟩ := hXr.one xs[k] (List.getElem_mem hlt)
          have x4 := (HX.out.one xs[k] (List.getElem_mem hlt)).2.2
          have htk : (xs.map Rc.r).take (k + 1) = (xs.map Rc.r).take k ++ [xs[k].r] := by
            rw [List.take_succ_eq_append_getElem (by rw [List.length_map]; exact hlt), List.getElem_map]
          obtain ⟨x, hx⟩ : ∃ x, x = xs[k] := ⟨_, rfl⟩
          rw [← hx] at cr x1 x2 x3 x4 htk
          have HT := Lib.hid htk
          have HV := Lib.hid x1
          have HM := Lib.hid x2
          have HF : Hid (∀ i, x.v.ownBlock = some i → ¬ LedS P' i) := Lib.hid (fun i hi e => by
            rcases hN' i e with e | e
            · exact (x4 i hi).2 e
            · have := (x4 i hi).1
              omega)
          have HP := Lib.hid hP'
          have HK2 := Lib.hid hK'
          have HN2 := Lib.hid hN'
          have HE3 := Lib.hid pg
          clear hXr x1 x2 x3 x4 htk hx hP' hK' hN' pg a4' hlt
          go_upto_region 16 with fail
          refine wp_world ?_
          intro W hW
          have kw : Keeps No wr W := by rw [hW]; exact (Keeps.refl _).alloc _
          have b0 : cellsAt W wr.heap.size 0 21 = some (lrC x.r x.v) := by rw [hW]; simp [go_sem]
          have CF : Hid (Calls Tryz.prog 73 #[dP P.l, lrV x.r x.v] W (FoldPost W base P' ((L0.run ((xs.map Rc.r).take k)).fold x.r) s2)) := Lib.hid (by
            rw [← HE3.out.l]
            exact ledFold_any (HP.out.no kw) x.r x.v (HV.out.kept kw (fun _ _ h => h)) HM.out HF.out)
          have KW : Hid (Keeps (LedS P) w W) := Lib.hid (HK2.out.trans kw (fun _ _ h => h.elim))
          clear hW kw cr
          go_wp2_with fail
          (with_reducible refine CF.out.mono ?_)
          rintro e w6 ⟨rfl, hp⟩
          have P6 : Hid (LedPost w base P (L0.run ((xs.map Rc.r).take (k + 1))) s2 w6) := Lib.hid (by
            rw [HT.out, Ld.run_snoc]
            exact LedPost.trans KW.out HN2.out HE3.out hp)
          clear hp b0 CF
          go_wp2
          go_roundw
          case rel => exact ⟨k + 1, by omega, by go_num, P6.out⟩
          case measure => simp [intOf]; omega
        · have hjn : k = xs.length := by omega
          have hji : ¬ ((k : Int) < (xs.length : Int)) := by omega
          have P6 : Hid (LedPost w base P E.2.1 E.2.2 wr) := Lib.hid (by
            rw [HE2.out]
            rw [List.take_of_length_le (by rw [List.length_map]; omega)] at hP'
            exact ⟨P', hP', hK', hN', pg⟩)
          clear hP' hK' hN' pg
          go_wp2
          go_ret
          exact ⟨by rw [HE2.out]; rfl, P6.out⟩
end
end Go.Proofs.YtpbpgjfdledgoaaGreatDoor
