/-
  The walk of AuditHistory. No conditions of its own, but that the tables are laid.
-/
import Derived.Test.YtndjnkjcfdaegaaGreatDoorZh41
set_option linter.all false
namespace Go.Proofs.YtndjnkjcfdaegaaGreatDoor.auditHistory
open Go.ChangeShapes Go.WideShapes Go.ChangeAt Go.RowKit Go.Joins Go.Deep

/-- where the loop stands -/
def Logs (w : World) (G p b : Nat) (zf : Zf) (n : Nat) (a tv qv i : Value) (wr : World) : Prop :=
  ∃ (k : Nat) (T : List Hk) (q : List Cm) (P : Lp) (ld : Ld) (ds : Ds), k ≤ n ∧ k ≤ 50 ∧ a = dP P.l ∧ i = .int .i64 k ∧ LogsAt w wr G p b zf tv qv T q (hisOf T q) P ld ds k
theorem LedBut.post {w w' : World} {base : Nat} {P : Lp} {ld' : Ld} {ds' : Ds} {v : Value} (h : LedBut w base P ld' ds' v w') : LedPost w base P ld' ds' w' := by
  obtain ⟨P', h1, h2, h3, h4, _⟩ := h
  exact ⟨P', h1, h2, h3, h4⟩
theorem tells_of {zf : Zf} {ld : Ld} {ds : Ds} {H H' : His} {l' : Ld} {d' : Ds} {k : Nat} (h : ∃ rs, Tells zf ld ds rs ∧ rs.length ≤ 1 + 2 * k ∧ hist rs = H) (f : ∀ rs, Tells zf ld ds rs → rs.length ≤ 1 + 2 * k → ∃ rs', Tells zf l' d' rs' ∧ rs'.length ≤ rs.length + 2 ∧ (hist rs = H → hist rs' = H')) :
    ∃ rs', Tells zf l' d' rs' ∧ rs'.length ≤ 1 + 2 * k + 2 ∧ hist rs' = H' := by
  obtain ⟨rs, h1, h2, h3⟩ := h
  obtain ⟨rs', g1, g2, g3⟩ := f rs h1 h2
  exact ⟨rs', g1, by omega, g3 h3⟩
/-- what was let in beside what is told -/
structure EndAt (w wr : World) (B : Nat) (tv qv tv' qv' : Value) (T T' : List Hk) (q : List Cm) : Prop where
  kp : Keeps No w wr
  a : HisAt wr w.heap.size tv qv T q
  b : HisAt wr B tv' qv' T' q
  eq : T'.map Hk.cs = T.map Hk.cs
  ln : ∀ t ∈ T, t.cs.length ≤ 150
theorem EndAt.no {w wr w' : World} {B : Nat} {tv qv tv' qv' : Value} {T T' : List Hk} {q : List Cm} (h : EndAt w wr B tv qv tv' qv' T T' q) (k : Keeps No wr w') : EndAt w w' B tv qv tv' qv' T T' q :=
  ⟨h.kp.trans k (fun _ _ h => h), h.a.no k, h.b.no k, h.eq, h.ln⟩
theorem EndAt.len {w wr : World} {B : Nat} {tv qv tv' qv' : Value} {T T' : List Hk} {q : List Cm} (h : EndAt w wr B tv qv tv' qv' T T' q) : T'.length = T.length := by
  have := congrArg List.length h.eq
  simpa using this
set_option maxRecDepth 100000 in
set_option maxHeartbeats 8000000 in
theorem walk (w : World) (z0 : Zf) (lv0 : Value) (L : List De) (hv : RdOf cDe w lv0 L) (hx : ∀ x ∈ L, DeOk x) (hL : Laid w w.heap.size) :
    Calls Tryz.prog 3 #[zfV z0, lv0] w fun e W' => e = .returned (.bool true) ∧ Keeps No w W' := by
  have HL := Lib.hid hL
  have HV := Lib.hid hv
  have HX := Lib.hid hx
  have HLN := Lib.hid (RdOf.len cDe hv)
  obtain ⟨va, vc, rfl⟩ := hv.slice
  clear hL hv hx
  obtain ⟨zf, hzf⟩ : ∃ x, x = mayZ z0 := ⟨_, rfl⟩
  have CM := Lib.hid (fun W => may_any W z0)
  rw [← hzf] at CM
  have HZ : Hid (zfOk zf = true) := Lib.hid (by rw [hzf]; exact mayZ_ok z0)
  clear hzf
  go_enter Tryz.func3, Tryz.ntmps3
  go_upto_region 1 with fail
  refine wp_world ?_
  intro W0 hW0
  have K0 : Hid (Keeps No w W0) := Lib.hid (by rw [hW0]; exact (Keeps.refl w).alloc _)
  have b0 : cellsAt W0 w.heap.size 0 7 = some (zfC z0) := by rw [hW0]; simp [go_sem]
  have o0 : Open W0 w.heap.size := by rw [hW0]; simp [go_sem]
  have s0 : (rowD W0 w.heap.size).size = 7 := by rw [hW0]; simp [go_sem]
  obtain ⟨G, hG⟩ : ∃ g, g = w.heap.size := ⟨_, rfl⟩
  have HG : Hid (w.heap.size ≤ G) := Lib.hid (by omega)
  rw [← hG] at b0 o0 s0 ⊢
  clear hW0 hG
  go_wp2_with fail
  (with_reducible refine (CM.out _).mono ?_)
  rintro e w1 ⟨rfl, hk1⟩
  have K1 : Hid (Keeps No w w1) := Lib.hid (K0.out.trans hk1 (fun _ _ h => h))
  have o1 := hk1.opened o0
  have s1 := hk1.rowSize o0 s0
  clear hk1 o0 s0 b0 CM K0
  go_upto_region 2 with fail
  refine wp_world ?_
  intro W2 hW2
  have cf2 : cellsAt W2 G 0 7 = some (zfC zf) := by rw [hW2, cellsAt_setRow_at _ _ _ _ _ o1]; rfl
  have K2 : Hid (Keeps No w W2) := Lib.hid (by rw [hW2]; exact K1.out.row HG.out _)
  clear hW2 o1 s1 K1
  go_wp2_with fail
  refine (new_tot W2).mono ?_
  rintro e w3 ⟨rfl, hd3, hk3⟩
  have K3 : Hid (Keeps No w w3) := Lib.hid (K2.out.trans hk3 (fun _ _ h => h))
  have cf3 := hk3.cellsAt cf2
  have D3 := Lib.hid hd3
  have hs3 := K2.out.size
  obtain ⟨b, hb⟩ : ∃ g, g = W2.heap.size := ⟨_, rfl⟩
  rw [← hb] at D3 hs3 ⊢
  obtain ⟨p, hp⟩ : ∃ g, g = b + 1 := ⟨_, rfl⟩
  rw [← hp] at D3 ⊢
  have HPB : Hid (w.heap.size ≤ p ∧ w.heap.size ≤ b ∧ G ≠ p ∧ G ≠ b) := Lib.hid ⟨by omega, by omega, by have := cellsAt_block cf2; omega, by have := cellsAt_block cf2; omega⟩
  clear hb hp hs3 hk3 hd3 cf2 K2
  obtain ⟨l0, d0, ha0, hst0, hep0⟩ := new_tells zf
  have HST := Lib.hid (And.intro hst0 hep0)
  have CO : Hid (Calls Tryz.prog 6 #[dP p, zfV zf] w3 (OpPost w3 w.heap.size p b (0, some l0, d0))) := Lib.hid (by
    rw [← ha0]
    exact ledOpen_any (HL.out.kept K3.out (fun _ h => h.elim)) K3.out.size D3.out HPB.out.1 HPB.out.2.1 zf HZ.out [0] nwA nw_1 _ _ _ nw_2 (by decide) (fun t ht => by cases ht) (by decide) (by decide))
  clear ha0 hst0 hep0
  go_wp2_with fail
  (with_reducible refine CO.out.mono ?_)
  rintro e w4 ⟨hk4, _, hm⟩
  obtain ⟨P, rfl, hn4⟩ : ∃ P, e = .returned (.tuple #[dP P.l, .int .i64 0]) ∧ LedNew w3 w4 w.heap.size p b P l0 d0 := hm
  have K4 : Hid (Keeps No w w4) := Lib.hid (K3.out.trans hk4 (fun i hi e => by have := HPB.out; rcases e with e | e <;> omega))
  have hGl := cellsAt_block cf3
  have cf4 : cellsAt w4 G 0 7 = some (zfC zf) := cellsAt_kept hk4 cf3 (fun e => by have := HPB.out; rcases e with e | e <;> omega)
  have O4 : Hid (LogsAt w w4 G p b zf (.slice none 0 0) (.slice none 0 0) [] [] ([], []) P l0 d0 0) := Lib.hid
    ⟨K4.out, hn4.led, hn4.pp, hn4.pb, HisAt.nil _ _, cf4, ⟨fun e => by
        have := HPB.out
        rcases hn4.new G e with e | e | e <;> omega, fun e => (by rcases e with e | e | ⟨_, e, _⟩ <;> cases e)⟩,
      fun i hi => (by rcases hi with e | e | ⟨_, e, _⟩ <;> cases e), HZ.out, ⟨_, HST.out.1, by simp, rfl⟩, by rw [HST.out.2]; exact ⟨by omega, by omega⟩⟩
  clear hk4 hm hn4 cf3 cf4 hGl CO D3 K3 HST K4
  go_wp2_with fail
  go_loopw [6, 8, 9, 10] (fun a t q i wr => Logs w G p b zf L.length a t q i wr) (fun _ _ _ i _ => 50 - (intOf i).toNat)
  case atStart => exact ⟨0, [], [], P, l0, d0, Nat.zero_le _, by omega, rfl, rfl, O4.out⟩
  case round =>
    obtain ⟨wq, hwq⟩ : ∃ x : World, x = wr := ⟨_, rfl⟩
    subst hwq
    obtain ⟨k, T, q, P, ld, ds, hk, hk5, rfl, rfl, hO⟩ := hrel
    have OO := Lib.hid hO
    have hk0 : (0 : Int) ≤ (k : Int) := by omega
    have hkb : (k : Int) ≤ 50 := by omega
    have CD : Hid (Calls Tryz.prog 7 #[dP p] wq fun e w' => e = .returned (.bool ds.dead) ∧ w' = wq) := Lib.hid (dead_any hO.disk)
    obtain ⟨ta, tc, rfl⟩ := ownsRow_slice hO.his.ts
    obtain ⟨qa, qc, rfl⟩ := ownsRow_slice hO.his.qs
    clear O4
    obtain ⟨dd, hdd⟩ : ∃ d, d = ds.dead := ⟨_, rfl⟩
    rw [← hdd] at CD
    have HDD := Lib.hid hdd
    clear hdd
    by_cases hgo : k < L.length ∧ k < 50 ∧ dd = false
    · obtain ⟨hlt, h50, rfl⟩ := hgo
      have hki : (k : Int) < (L.length : Int) := by omega
      have hk5i : (k : Int) < 50 := by omega
      have hHK := Lib.hid h50
      obtain ⟨gl, ol, rfl, _, _, _⟩ := RdOf.addr cDe HV.out (by omega)
      have c18 : cellsAt wq gl (ol + k * 18) 18 = some (deC L[k]) := RdOf.at cDe (HV.out.kept hO.kp (fun _ _ h => h)) k hlt
      have HXO := Lib.hid (HX.out L[k] (List.getElem_mem hlt))
      obtain ⟨x, hx⟩ : ∃ x, x = L[k] := ⟨_, rfl⟩
      rw [← hx] at c18 HXO
      clear hx hO h50 hk5
      go_wp2_with fail
      (with_reducible refine CD.out.mono ?_)
      rintro e w5' ⟨rfl, rfl⟩
      clear CD
      go_upto_region 12 with fail
      refine wp_world ?_
      intro W hW
      have cX : cellsAt W w5'.heap.size 0 18 = some (deC x) := by rw [hW]; simp [go_sem]
      have k1 : Keeps No w5' W := by rw [hW]; exact (Keeps.refl w5').alloc _
      have O1 := Lib.hid (OO.out.no k1)
      obtain ⟨X, hX⟩ : ∃ g, g = w5'.heap.size := ⟨_, rfl⟩
      rw [← hX] at cX ⊢
      have x0 := cellsAt_cell cX 0 _ rfl
      simp only [Nat.zero_add] at x0
      clear hW k1 hX c18 OO
      have hlg : ld.lg.next ≤ 200 ∧ ld.lg.firsts.length ≤ 200 := by
        obtain ⟨rs, s1, s2, _⟩ := O1.out.st
        exact s1.stand.lgs (by have := hHK.out; omega)
      have HLW := Lib.hid (HL.out.kept O1.out.kp (fun _ h => h.elim))
      have HLG := Lib.hid hlg
      have HTF : Hid (T.length ≤ 150 ∧ q.length ≤ 150) := Lib.hid (by
        obtain ⟨rs, s1, s2, s3⟩ := O1.out.st
        have h1 := hist_len rs
        rw [s3] at h1
        have h3 : (hisOf T q).1.length = T.length := List.length_map _
        have h4 : (hisOf T q).2.length = q.length := rfl
        have := hHK.out
        exact ⟨by omega, by omega⟩)
      clear hlg
      by_cases h4 : x.k < 4
      · have i2 : cellsAt W X 2 16 = some (cmC x.c) := cellsAt_part cX 2 (cmC x.c) rfl (by simp)
        have CC := Lib.hid (ledCall_any HLW.out O1.out.kp.size O1.out.led x.c (by have := HLG.out; omega) (by have := HLG.out; omega))
        have ST := Lib.hid (tells_of (H' := bif decide ((ld.call ds x.c).2.1 = 0) then (T.map Hk.cs, q ++ [(ld.call ds x.c).1]) else hisOf T q) O1.out.st (fun rs h hl => by
          obtain ⟨rs', a1, a2, a3⟩ := h.call O1.out.z HDD.out.symm (by have := hHK.out; omega) x.c
          exact ⟨rs', a1, a2, fun e => by rw [a3, e]; rfl⟩))
        have HEP : Hid ((ld.call ds x.c).2.2.1.ep = ld.ep) := Lib.hid (by
          obtain ⟨rs, s1, s2, _⟩ := O1.out.st
          exact (s1.stand.call O1.out.z (by have := hHK.out; omega) x.c).1.ep)
        obtain ⟨r, hr⟩ : ∃ r, r = ld.call ds x.c := ⟨_, rfl⟩
        rw [← hr] at CC ST HEP
        obtain ⟨c', f, ld', ds'⟩ := r
        clear hr
        go_wp2_with fail
        (with_reducible refine CC.out.mono ?_)
        rintro e w2 ⟨rfl, hp⟩
        obtain ⟨P', hPl, o2⟩ := O1.out.post hp ST.out HEP.out
        have O2 := Lib.hid o2
        clear hp o2 CC ST O1 i2 x0 cX HXO HLW HLG HEP HDD
        go_upto_region 14 with fail
        refine wp_world ?_
        intro W3 hW3
        have cY : cellsAt W3 w2.heap.size 0 16 = some (cmC c') := by rw [hW3]; simp [go_sem]
        have k3 : Keeps No w2 W3 := by rw [hW3]; exact (Keeps.refl w2).alloc _
        have O3 := Lib.hid (O2.out.no k3)
        obtain ⟨Y, hY⟩ : ∃ g, g = w2.heap.size := ⟨_, rfl⟩
        rw [← hY] at cY ⊢
        clear hW3 k3 hY O2
        by_cases hf : f = 0
        · subst hf
          obtain ⟨i0, hi, hz0, hz1, hz2⟩ := info_parts Tryz.infoCm
          go_wp2_with (at_builtin; refine wpList_append_reads rfl (.tmp 67) (.tmp 69) 33 rfl w.heap.size 40 i0 _ 16 128 Tryz.underlying33 hi hz0 hz1 hz2 rfl (by decide) (.slice qa q.length qc) q.length (rowsOf cCm q) rfl (O3.out.his.qs.alloc _) (.slice (some ⟨W3.heap.size, 0, none⟩) 1 1) 1 (cmC c') rfl (litReads cCm W3 40 c') ?c1 ?c2 ?c3 ?c4)
          case c1 => have := HTF.out; unfold maxLen; omega
          case c2 => have := HTF.out; omega
          case c3 => have := O3.out.kp.size; simp; omega
          case c4 =>
            intro v6 w6 ho6 hk6 hn6 _
            have k6 : Keeps (Of (.slice qa q.length qc)) W3 w6 := ((Keeps.refl W3).alloc _).trans hk6 (fun i _ e => e)
            have hn : ∀ i, v6.ownBlock = some i → (Value.slice qa q.length qc).ownBlock = some i ∨ W3.heap.size ≤ i := fun i hi => by
              rcases hn6 i hi with e | e
              · exact .inl e
              · exact .inr (Nat.le_trans (by simp) e)
            have O6 : Hid (LogsAt w w6 G p b zf _ v6 T (q ++ [c']) (hisOf T (q ++ [c'])) P' ld' ds' (k + 1)) := Lib.hid (O3.out.push (ownApp (a := c') ho6) k6 hn)
            clear ho6 hk6 hn6 k6 hn hi hz0 hz1 hz2
            go_wp2
            go_roundw
            case rel => exact ⟨k + 1, T, q ++ [c'], P', ld', ds', by omega, by omega, by rw [hPl], by go_num, O6.out⟩
            case measure => simp [intOf]; omega
        · have hfb : (f == 0) = false := by simpa using hf
          have O6 : Hid (LogsAt w W3 G p b zf (.slice ta T.length tc) (.slice qa q.length qc) T q (hisOf T q) P' ld' ds' (k + 1)) := Lib.hid (by
            have h := O3.out
            rw [decide_eq_false hf] at h
            exact h)
          clear hf cY O3
          go_wp2
          go_roundw
          case rel => exact ⟨k + 1, T, q, P', ld', ds', by omega, by omega, by rw [hPl], by go_num, O6.out⟩
          case measure => simp [intOf]; omega
      · by_cases h4e : x.k = 4
        · have h4b : (x.k == 4) = true := by simpa using h4e
          have CC := Lib.hid (ledBegin_any HLW.out O1.out.kp.size O1.out.led (by have := HLG.out; omega) (by have := HLG.out; omega))
          have ST := Lib.hid (tells_of (H' := bif decide ((ld.begin ds).2.2.1 = 0) then (T.map Hk.cs ++ [q], []) else hisOf T q) O1.out.st (fun rs h hl => by
            obtain ⟨rs', a1, a2, a3⟩ := h.begin HDD.out.symm (by have := hHK.out; omega)
            exact ⟨rs', a1, a2, fun e => by rw [a3, e]; rfl⟩))
          have HEP : Hid ((ld.begin ds).2.2.2.1.ep = ld.ep) := Lib.hid (by
            obtain ⟨rs, s1, s2, _⟩ := O1.out.st
            exact (s1.stand.begin (by have := hHK.out; omega)).ep)
          obtain ⟨r, hr⟩ : ∃ r, r = ld.begin ds := ⟨_, rfl⟩
          rw [← hr] at CC ST HEP
          obtain ⟨tt, cs, f, ld', ds'⟩ := r
          clear hr h4e
          go_wp2_with fail
          (with_reducible refine CC.out.mono ?_)
          rintro e w2 ⟨v, rfl, hp, _⟩
          obtain ⟨P', hPl, o2⟩ := O1.out.post (LedBut.post hp) ST.out HEP.out
          have O3 := Lib.hid o2
          clear hp o2 CC ST O1 x0 cX HXO HLW HLG HEP HDD
          by_cases hf : f = 0
          · subst hf
            obtain ⟨i0, hi, hz0, hz1, hz2⟩ := info_parts Tryz.infoHk
            go_wp2_with (at_builtin; refine wpList_append_reads rfl (.tmp 83) (.tmp 85) 32 rfl w.heap.size hkT i0 _ 1 24 Tryz.underlying32 hi hz0 hz1 hz2 rfl (by decide) (.slice ta T.length tc) T.length (rowsOf cHk T) rfl (O3.out.his.ts.alloc _) (.slice (some ⟨w2.heap.size, 0, none⟩) 1 1) 1 (cHk.cells ⟨qa, qc, q⟩) rfl (litReads cHk w2 hkT ⟨qa, qc, q⟩) ?d1 ?d2 ?d3 ?d4)
            case d1 => have := HTF.out; unfold maxLen; omega
            case d2 => have := HTF.out; omega
            case d3 => have := O3.out.kp.size; simp; omega
            case d4 =>
              intro v6 w6 ho6 hk6 hn6 _
              have k6 : Keeps (Of (.slice ta T.length tc)) w2 w6 := ((Keeps.refl w2).alloc _).trans hk6 (fun i _ e => e)
              have hn : ∀ i, v6.ownBlock = some i → (Value.slice ta T.length tc).ownBlock = some i ∨ w2.heap.size ≤ i := fun i hi => by
                rcases hn6 i hi with e | e
                · exact .inl e
                · exact .inr (Nat.le_trans (by simp) e)
              have O6 : Hid (LogsAt w w6 G p b zf v6 (.slice none 0 0) (T ++ [⟨qa, qc, q⟩]) [] (hisOf (T ++ [⟨qa, qc, q⟩]) []) P' ld' ds' (k + 1)) := Lib.hid (by
                have h := O3.out.tick (a := qa) (c := qc) (ownApp (a := (⟨qa, qc, q⟩ : Hk)) ho6) k6 hn
                unfold hisOf
                rw [List.map_append]
                exact h)
              clear ho6 hk6 hn6 k6 hn hi hz0 hz1 hz2
              go_wp2
              go_roundw
              case rel => exact ⟨k + 1, T ++ [⟨qa, qc, q⟩], [], P', ld', ds', by omega, by omega, by rw [hPl], by go_num, O6.out⟩
              case measure => simp [intOf]; omega
          · have hfb : (f == 0) = false := by simpa using hf
            have O6 : Hid (LogsAt w w2 G p b zf (.slice ta T.length tc) (.slice qa q.length qc) T q (hisOf T q) P' ld' ds' (k + 1)) := Lib.hid (by
              have h := O3.out
              rw [decide_eq_false hf] at h
              exact h)
            clear hf O3
            go_wp2
            go_roundw
            case rel => exact ⟨k + 1, T, q, P', ld', ds', by omega, by omega, by rw [hPl], by go_num, O6.out⟩
            case measure => simp [intOf]; omega
        · have h4b : (x.k == 4) = false := by simpa using h4e
          by_cases h5e : x.k = 5
          · have h5b : (x.k == 5) = true := by simpa using h5e
            have CC := Lib.hid (ledEnd_any HLW.out O1.out.kp.size O1.out.led (.slice none 0 0) [] (rdNil cNam W) (by simp) (by have := HLG.out; omega) (by have := HLG.out; omega))
            have ST := Lib.hid (tells_of (H' := hisOf T q) O1.out.st (fun rs h hl => by
              obtain ⟨rs', a1, a2, a3⟩ := h.finish HDD.out.symm (by have := hHK.out; omega)
              exact ⟨rs', a1, a2, fun e => by rw [a3, e]⟩))
            have HEP : Hid ((ld.finish ds []).2.1.ep = ld.ep) := Lib.hid (by
              obtain ⟨rs, s1, s2, _⟩ := O1.out.st
              exact (s1.stand.finish (by have := hHK.out; omega) (by simp)).ep)
            obtain ⟨r, hr⟩ : ∃ r, r = ld.finish ds [] := ⟨_, rfl⟩
            rw [← hr] at CC ST HEP
            obtain ⟨f, ld', ds'⟩ := r
            clear hr h4e h5e
            go_wp2_with fail
            (with_reducible refine CC.out.mono ?_)
            rintro e w2 ⟨rfl, hp⟩
            obtain ⟨P', hPl, o2⟩ := O1.out.post hp ST.out HEP.out
            have O2 := Lib.hid o2
            clear hp o2 CC ST O1 x0 cX HXO HLW HLG HEP HDD
            go_wp2
            go_roundw
            case rel => exact ⟨k + 1, T, q, P', ld', ds', by omega, by omega, by rw [hPl], by go_num, O2.out⟩
            case measure => simp [intOf]; omega
          · have h5b : (x.k == 5) = false := by simpa using h5e
            have x1 := cellsAt_cell cX 1 _ rfl
            simp only [Nat.zero_add] at x1
            by_cases h6e : x.k = 6
            · have h6b : (x.k == 6) = true := by simpa using h6e
              have CC := Lib.hid (crash_tot O1.out.disk x.n)
              have cG := O1.out.cf
              clear h4e h5e h6e cX HLW HLG
              go_wp2_with fail
              (with_reducible refine CC.out.mono ?_)
              rintro e w2 ⟨rfl, hd, hk2⟩
              have CR := Lib.hid (O1.out.reopen HL.out hHK.out HDD.out.symm x.n hd hk2)
              have cG2 : cellsAt w2 G 0 7 = some (zfC zf) := cellsAt_kept hk2 cG (fun e => O1.out.gn.1 (by
                rcases e with e | e
                · exact .inr (.inr (.inr (.inl (by rw [O1.out.pp]; exact e))))
                · exact .inr (.inr (.inr (.inr (.inl (by rw [O1.out.pb]; exact e)))))))
              clear hd hk2 CC O1 x0 x1 HXO cG HDD
              go_wp2_with fail
              (with_reducible refine CR.out.mono ?_)
              rintro e w3' ⟨P', ld', ds', rfl, o3, _⟩
              have O3 := Lib.hid o3
              clear o3 CR cG2
              go_wp2
              go_roundw
              case rel => exact ⟨k + 1, T, q, P', ld', ds', by omega, by omega, rfl, by go_num, O3.out⟩
              case measure => simp [intOf]; omega
            · have h6b : (x.k == 6) = false := by simpa using h6e
              by_cases h7e : x.k = 7
              · have h7b : (x.k == 7) = true := by simpa using h7e
                have CC := Lib.hid (cut_any O1.out.disk x.n HXO.out.n.2)
                clear h4e h5e h6e h7e cX HLW HLG
                go_wp2_with fail
                (with_reducible refine CC.out.mono ?_)
                rintro e w2 ⟨rfl, hd, hk2⟩
                have O2 := Lib.hid ((O1.out.cut x.n hd hk2).later)
                clear hd hk2 CC O1 x0 x1 HXO HDD
                go_wp2
                go_roundw
                case rel => exact ⟨k + 1, T, q, P, ld, ds.cut x.n, by omega, by omega, rfl, by go_num, O2.out⟩
                case measure => simp [intOf]; omega
              · have h7b : (x.k == 7) = false := by simpa using h7e
                have O2 := Lib.hid O1.out.later
                clear h4e h5e h6e h7e cX HLW HLG O1 x1 HXO HDD
                go_wp2
                go_roundw
                case rel => exact ⟨k + 1, T, q, P, ld, ds, by omega, by omega, rfl, by go_num, O2.out⟩
                case measure => simp [intOf]; omega
    · have KO := Lib.hid hO.kp
      have HIS := Lib.hid hO.his
      have HLO := Lib.hid (HL.out.kept hO.kp (fun _ h => h.elim))
      have CH : Hid (Calls Tryz.prog 13 #[dP p] wq (HisPost wq (hisOf T q))) := Lib.hid (by
        obtain ⟨rs, s1, s2, s3⟩ := hO.st
        have hE := hO.ep
        obtain ⟨there, g', d', rs', hrd, hh⟩ := s1.read (by omega) (by omega) (by omega) 4194304
        have h := history_any HLO.out hO.kp.size hO.disk hrd
        rw [hh, s3] at h
        exact h)
      have HTF : Hid (T.length ≤ 150 ∧ q.length ≤ 150 ∧ ∀ t ∈ T, t.cs.length ≤ 150) := Lib.hid (by
        obtain ⟨rs, s1, s2, s3⟩ := hO.st
        have h1 := hist_len rs
        rw [s3] at h1
        have h3 : (hisOf T q).1.length = T.length := List.length_map _
        have h4 : (hisOf T q).2.length = q.length := rfl
        exact ⟨by omega, by omega, fun t ht => by have := h1.2.2 t.cs (List.mem_map.2 ⟨t, ht, rfl⟩); omega⟩)
      have CDD : Hid (∀ w', Keeps No wq w' → Calls Tryz.prog 7 #[dP p] w' fun e w'' => e = .returned (.bool dd) ∧ w'' = w') := Lib.hid (fun w' h => by
        have h2 := dead_any (hO.disk.kept h (fun h => h) (fun h => h))
        rw [← HDD.out] at h2
        exact h2)
      clear hO OO HDD HV HX HZ
      have hways : ¬ k < L.length ∨ (k < L.length ∧ ¬ k < 50) ∨ (k < L.length ∧ k < 50 ∧ dd = true) := by
        by_cases h1 : k < L.length
        · by_cases h2 : k < 50
          · cases dd with
            | true => exact .inr (.inr ⟨h1, h2, rfl⟩)
            | false => exact absurd ⟨h1, h2, rfl⟩ hgo
          · exact .inr (.inl ⟨h1, h2⟩)
        · exact .inl h1
      clear hgo hk hk5
      rcases hways with hlt | ⟨hlt, h50⟩ | ⟨hlt, h50, rfl⟩
      have hki : ¬ (k : Int) < (L.length : Int) := by omega
      clear CD hlt
      go_wp2_with fail
      rotate_left
      have hki : (k : Int) < (L.length : Int) := by omega
      have hk5i : ¬ (k : Int) < 50 := by omega
      clear CD hlt h50
      go_wp2_with fail
      rotate_left
      have hki : (k : Int) < (L.length : Int) := by omega
      have hk5i : (k : Int) < 50 := by omega
      clear hlt h50
      go_wp2_with fail
      (with_reducible refine CD.out.mono ?_)
      rintro e w5' ⟨rfl, rfl⟩
      clear CD
      go_wp2_with fail
      all_goals
        (with_reducible refine CH.out.mono ?_)
        rintro e w7 ⟨tv', qv', T', q', rfl, hh', he', hk7⟩
        have ET : T'.map Hk.cs = T.map Hk.cs := congrArg Prod.fst he'
        obtain rfl : q' = q := congrArg Prod.snd he'
        obtain ⟨ta', tc', rfl⟩ := ownsRow_slice hh'.ts
        obtain ⟨qa', qc', rfl⟩ := ownsRow_slice hh'.qs
        obtain ⟨B, hh'⟩ : ∃ B, HisAt w7 B _ _ T' q' := ⟨_, hh'⟩
        have E7 : Hid (EndAt w w7 B _ _ _ _ T T' q') := Lib.hid ⟨KO.out.trans hk7 (fun _ _ h => h), HIS.out.no hk7, hh', ET, HTF.out.2.2⟩
        have EL := E7.out.len
        have hl0 : decide (T'.length < T.length) = false := decide_eq_false (by omega)
        have hl1 : ¬ ((T'.length : Int) < (T.length : Int)) := by omega
        have hl2 : ((T'.length : Int) != (T.length : Int)) = false := by rw [EL]; simp
        have HEL := Lib.hid EL
        have CD7 := Lib.hid (CDD.out w7 hk7)
        have CS : Hid (Calls Tryz.prog 14 #[.slice qa' q'.length qc', .slice qa q'.length qc] w7 (YesIf (q' = q') w7)) := Lib.hid (by
          have h2 := HTF.out.2.1
          exact sameCmds_any w7 _ _ q' q' (OwnOf.reads hh'.qs) (OwnOf.reads E7.out.a.qs) (by omega) (by omega))
        clear hh' he' hk7 CH KO HIS CDD HLO ET EL
        go_wp2_with fail
        (with_reducible refine CD7.out.mono ?_)
        rintro e w7' ⟨rfl, rfl⟩
        try cases dd
        all_goals go_wp2_with fail
        all_goals try
          (with_reducible refine CS.out.mono ?_)
          rintro e w8 ⟨⟨bb, rfl, hb⟩, hk8⟩
          obtain rfl : bb = true := by first | exact hb rfl | exact hb trivial
          replace E7 := Lib.hid (E7.out.no hk8)
          clear hb hk8
          go_wp2_with fail
      all_goals
        go_loopw [20] (fun i wr => ∃ j : Nat, j ≤ T.length ∧ i = .int .i64 j ∧ EndAt w wr B (.slice ta T.length tc) (.slice qa q'.length qc) (.slice ta' T'.length tc') (.slice qa' q'.length qc') T T' q') (fun i _ => T.length - (intOf i).toNat)
        case atStart => exact ⟨0, Nat.zero_le _, rfl, E7.out⟩
        case round =>
          obtain ⟨wz, hwz⟩ : ∃ x : World, x = wr := ⟨_, rfl⟩
          subst hwz
          obtain ⟨j, hj, rfl, hE⟩ := hrel
          have EJ := Lib.hid hE
          have hj0 : (0 : Int) ≤ (j : Int) := by omega
          have hjb : (j : Int) ≤ 200 := by have := HTF.out; omega
          by_cases hjt : j < T.length
          · have hji : (j : Int) < (T.length : Int) := by omega
            have hjt' : j < T'.length := by rw [hE.len]; exact hjt
            have hji' : (j : Int) < (T'.length : Int) := by omega
            obtain ⟨g1, o1, rfl, _, _, hg1⟩ := RdOf.addr cHk (OwnOf.reads hE.b.ts) (by omega)
            obtain ⟨g2, o2, rfl, _, _, hg2⟩ := RdOf.addr cHk (OwnOf.reads hE.a.ts) (by omega)
            have c1 := cellsAt_cell (RdOf.at cHk (OwnOf.reads hE.b.ts) j hjt') 0 (hkV T'[j]) rfl
            have c2 := cellsAt_cell (RdOf.at cHk (OwnOf.reads hE.a.ts) j hjt) 0 (hkV T[j]) rfl
            rw [show o1 + j * cHk.size + 0 = o1 + j by show o1 + j * 1 + 0 = _; omega] at c1
            rw [show o2 + j * cHk.size + 0 = o2 + j by show o2 + j * 1 + 0 = _; omega] at c2
            have ECS : Hid (T'[j].cs = T[j].cs) := Lib.hid (by
              have h1 : (T'.map Hk.cs)[j]? = (T.map Hk.cs)[j]? := by rw [hE.eq]
              rw [List.getElem?_map, List.getElem?_map, List.getElem?_eq_getElem hjt', List.getElem?_eq_getElem hjt] at h1
              exact Option.some.inj h1)
            have R1 := Lib.hid (hE.b.rd T'[j] (List.getElem_mem hjt'))
            have R2 := Lib.hid (hE.a.rd T[j] (List.getElem_mem hjt))
            have HLN2 := Lib.hid (hE.ln T[j] (List.getElem_mem hjt))
            obtain ⟨t1, ht1⟩ : ∃ t, t = T'[j] := ⟨_, rfl⟩
            obtain ⟨t2, ht2⟩ : ∃ t, t = T[j] := ⟨_, rfl⟩
            rw [← ht1] at c1 ECS R1
            rw [← ht2] at c2 ECS R2 HLN2
            have LC1 : ∀ w', Keeps No wz w' → w'.cell? ⟨g1, o1 + j, none⟩ = some (.slice t1.a t1.cs.length t1.c) := fun w' h => h.cell c1 (fun h => h)
            have LC2 : ∀ w', Keeps No wz w' → w'.cell? ⟨g2, o2 + j, none⟩ = some (.slice t2.a t2.cs.length t2.c) := fun w' h => h.cell c2 (fun h => h)
            have CT : Hid (∀ w', Keeps No wz w' → Calls Tryz.prog 14 #[.slice t1.a t1.cs.length t1.c, .slice t2.a t2.cs.length t2.c] w' (YesIf (t1.cs = t2.cs) w')) := Lib.hid (fun w' h =>
              sameCmds_any w' _ _ t1.cs t2.cs (R1.out.kept h (fun _ _ h => h)) (R2.out.kept h (fun _ _ h => h)) (by rw [ECS.out]; have := HLN2.out; omega) (by have := HLN2.out; omega))
            clear ht1 ht2 c1 c2 R1 R2 hE hjt hjt' hj
            go_upto_region 36 with fail
            go_region_held3 (fun w' => Keeps No wz w')
              (first | assumption | exact (Keeps.refl wz).drew | exact Keeps.refl wz)
              ((go_at_call 14
                have hc := CT.out
                with_reducible refine (hc _ (by first | assumption | exact (Keeps.refl wz).drew | exact Keeps.refl wz)).mono ?_
                clear hc
                rintro e w9 ⟨⟨bb, rfl, hb⟩, hk9⟩
                obtain rfl := hb ECS.out
                have hS1 : Keeps No wz w9 := Keeps.trans (by first | assumption | exact (Keeps.refl wz).drew | exact Keeps.refl wz) hk9 (fun _ _ h => h)))
            go_wp2
            go_roundw
            case rel => exact ⟨j + 1, by omega, by go_num, EJ.out.no hS1⟩
            case measure => simp [intOf]; omega
          · have hji : ¬ (j : Int) < (T.length : Int) := by omega
            have KZ := Lib.hid hE.kp
            clear hE EJ hjt hj
            go_wp2_with fail
            (with_reducible refine (history_nil _).mono ?_)
            rintro e w9 ⟨rfl, rfl⟩
            go_wp2_with fail
            (with_reducible refine (awake_any _).mono ?_)
            rintro e w10 ⟨rfl, hk10⟩
            have KF := Lib.hid (KZ.out.trans hk10 (fun _ _ h => h))
            clear hk10
            go_wp2
            go_ret
            exact ⟨rfl, KF.out⟩
end Go.Proofs.YtndjnkjcfdaegaaGreatDoor.auditHistory
