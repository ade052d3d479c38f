/-
  The walk of LedgerOnce. No conditions of its own, but that the tables are laid.
-/
import Derived.Test.YtpbpgjfdledgoaaGreatDoorZb48
import Derived.Test.YtpbpgjfdledgoaaGreatDoorZb47
import Derived.Test.YtpbpgjfdledgoaaGreatDoorZb49
import Derived.BigQuiet
namespace Go.Proofs.YtpbpgjfdledgoaaGreatDoor.ledgerOnce
open Go.ChangeShapes Go.WideShapes Go.ChangeAt Go.RowKit Go.Joins Go.Deep

def Once (w : World) (G p b : Nat) (zf : Zf) (lv : Value) (L : List Du) (a t ep q : Value) (wr : World) : Prop :=
  ∃ (k : Nat) (P : Lp) (ld : Ld) (ds : Ds) (told : List Nam), k ≤ L.length ∧ a = dP P.l ∧ ep = .int .i64 ld.ep ∧ q = .int .i64 k ∧ OnceAt w wr G p b zf lv L t told P ld ds k
theorem LedBut.post {w w' : World} {base : Nat} {P : Lp} {ld' : Ld} {ds' : Ds} {v : Value} (h : LedBut w base P ld' ds' v w') : LedPost w base P ld' ds' w' := by
  obtain ⟨P', h1, h2, h3, h4, _⟩ := h
  exact ⟨P', h1, h2, h3, h4⟩
set_option maxRecDepth 100000 in
set_option maxHeartbeats 8000000 in
theorem walk (w : World) (z0 : Zf) (lv0 : Value) (L0 : List Du) (hv : RdOf cDu w lv0 L0) (hx : ∀ x ∈ L0, DuOk w x) (hL : Laid w w.heap.size) :
    Calls Tryz.prog 4 #[zfV z0, lv0] w fun e W' => e = .returned (.bool true) ∧ Keeps No w W' := by
  have HL := Lib.hid hL
  have HV := Lib.hid hv
  have HX := Lib.hid hx
  clear hL hv hx
  obtain ⟨zf, hzf⟩ : ∃ x, x = mayZ z0 := ⟨_, rfl⟩
  have CM := Lib.hid (fun W => may_any W z0)
  rw [← hzf] at CM
  have HZ : Hid (zfOk zf = true) := Lib.hid (by rw [hzf]; exact mayZ_ok z0)
  clear hzf
  go_enter Tryz.func4, Tryz.ntmps4
  go_upto_region 1 with fail
  refine wp_world ?_
  intro W0 hW0
  have K0 : Hid (Keeps No w W0) := Lib.hid (by rw [hW0]; exact (Keeps.refl w).alloc _)
  have b0 : cellsAt W0 w.heap.size 0 7 = some (zfC z0) := by rw [hW0]; simp [go_sem]
  have o0 : Open W0 w.heap.size := by rw [hW0]; simp [go_sem]
  have s0 : (rowD W0 w.heap.size).size = 7 := by rw [hW0]; simp [go_sem]
  obtain ⟨G, hG⟩ : ∃ g, g = w.heap.size := ⟨_, rfl⟩
  have HG : Hid (w.heap.size ≤ G) := Lib.hid (by omega)
  rw [← hG] at b0 o0 s0 ⊢
  clear hW0 hG
  go_wp2_with fail
  (with_reducible refine (CM.out _).mono ?_)
  rintro e w1 ⟨rfl, hk1⟩
  have K1 : Hid (Keeps No w w1) := Lib.hid (K0.out.trans hk1 (fun _ _ h => h))
  have o1 := hk1.opened o0
  have s1 := hk1.rowSize o0 s0
  clear hk1 o0 s0 b0 CM K0
  go_upto_region 2 with fail
  refine wp_world ?_
  intro W2 hW2
  have cf2 : cellsAt W2 G 0 7 = some (zfC zf) := by rw [hW2, cellsAt_setRow_at _ _ _ _ _ o1]; rfl
  have K2 : Hid (Keeps No w W2) := Lib.hid (by rw [hW2]; exact K1.out.row HG.out _)
  clear hW2 o1 s1 K1
  go_wp2_with fail
  refine (new_tot W2).mono ?_
  rintro e w3 ⟨rfl, hd3, hk3⟩
  have K3 : Hid (Keeps No w w3) := Lib.hid (K2.out.trans hk3 (fun _ _ h => h))
  have cf3 := hk3.cellsAt cf2
  have D3 := Lib.hid hd3
  have hs3 := K2.out.size
  obtain ⟨b, hb⟩ : ∃ g, g = W2.heap.size := ⟨_, rfl⟩
  rw [← hb] at D3 hs3 ⊢
  obtain ⟨p, hp⟩ : ∃ g, g = b + 1 := ⟨_, rfl⟩
  rw [← hp] at D3 ⊢
  have HPB : Hid (w.heap.size ≤ p ∧ w.heap.size ≤ b ∧ G ≠ p ∧ G ≠ b) := Lib.hid ⟨by omega, by omega, by have := cellsAt_block cf2; omega, by have := cellsAt_block cf2; omega⟩
  clear hb hp hs3 hk3 hd3 cf2 K2
  obtain ⟨l0, d0, ha0, hst0, hep0⟩ := new_stand zf
  have HST := Lib.hid (And.intro hst0 hep0)
  have CO : Hid (Calls Tryz.prog 18 #[dP p, zfV zf] w3 (OpPost w3 w.heap.size p b (0, some l0, d0))) := Lib.hid (by
    rw [← ha0]
    exact ledOpen_any (HL.out.kept K3.out (fun _ h => h.elim)) K3.out.size D3.out HPB.out.1 HPB.out.2.1 zf HZ.out [0] nwA nw_1 _ _ _ nw_2 (by decide) (fun t ht => by cases ht) (by decide) (by decide))
  clear ha0 hst0 hep0
  go_wp2_with fail
  (with_reducible refine CO.out.mono ?_)
  rintro e w4 ⟨hk4, _, hm⟩
  obtain ⟨P, rfl, hn4⟩ : ∃ P, e = .returned (.tuple #[dP P.l, .int .i64 0]) ∧ LedNew w3 w4 w.heap.size p b P l0 d0 := hm
  have K4 : Hid (Keeps No w w4) := Lib.hid (K3.out.trans hk4 (fun i hi e => by have := HPB.out; rcases e with e | e <;> omega))
  have hGl := cellsAt_block cf3
  have cf4 : cellsAt w4 G 0 7 = some (zfC zf) := cellsAt_kept hk4 cf3 (fun e => by have := HPB.out; rcases e with e | e <;> omega)
  have HGN : Hid (¬ LedS P G) := Lib.hid (fun e => by
    have := HPB.out
    rcases hn4.new G e with e | e | e <;> omega)
  have N4 := Lib.hid hn4
  have CF := Lib.hid (few_any K4.out lv0 L0 (HV.out.kept K4.out (fun _ _ h => h)) HX.out)
  clear hk4 hm hn4 cf3 hGl CO D3 K3 HV HX
  go_wp2_with fail
  (with_reducible refine CF.out.mono ?_)
  rintro e w5 ⟨lv, L, rfl, ho5, hl5, hf5, hk5⟩
  have O5 : Hid (OnceAt w w5 G p b zf lv L (.slice none 0 0) [] P l0 d0 0) := Lib.hid
    ⟨K4.out.trans hk5 (fun _ _ h => h), N4.out.led.no hk5, N4.out.pp, N4.out.pb, OwnOf.base ho5 K4.out.size, World.ownsRow_nil _ _ _ _, hk5.cellsAt cf4, ⟨HGN.out, fun e => by cases e⟩,
      (fun i hi e => by have := (ho5.lt i hi).1; have := N4.out.led.lt i e; omega), (fun i hi => by cases hi), hf5, HZ.out, ⟨_, HST.out.1, by simp⟩, (by rw [HST.out.2]; exact ⟨by omega, by omega⟩), (fun a ha => by cases ha), Nat.le_refl _⟩
  have HL5 := Lib.hid hl5
  have ep0 := HST.out.2
  obtain ⟨va, vc, rfl⟩ := ownsRow_slice ho5
  clear ho5 hl5 hf5 hk5 cf4 CF HST K4 N4 HGN
  go_wp2_with fail
  go_loopw [6, 8, 9, 10] (fun a t ep q wr => Once w G p b zf (.slice va L.length vc) L a t ep q wr) (fun _ _ _ q _ => L.length - (intOf q).toNat)
  case atStart => exact ⟨0, P, l0, d0, [], Nat.zero_le _, rfl, by rw [ep0], rfl, O5.out⟩
  case round =>
    obtain ⟨wq, hwq⟩ : ∃ x : World, x = wr := ⟨_, rfl⟩
    subst hwq
    obtain ⟨k, P, ld, ds, told, hk, rfl, rfl, rfl, hO⟩ := hrel
    have OO := Lib.hid hO
    have hep := hO.ep
    have hk0 : (0 : Int) ≤ (k : Int) := by omega
    have hkn := HL5.out
    clear O5 ep0
    by_cases hlt : k < L.length
    · have hki : (k : Int) < (L.length : Int) := by omega
      have HK50 : Hid (k < 50) := Lib.hid (by omega)
      have hkb : (k : Int) ≤ 100 := by omega
      obtain ⟨gl, ol, rfl, _, _, _⟩ := RdOf.addr cDu (OwnOf.reads hO.deeds) (by omega)
      have c19 : cellsAt wq gl (ol + k * 19) 19 = some (duC L[k]) := RdOf.at cDu (OwnOf.reads hO.deeds) k hlt
      have HXO := Lib.hid (hO.ok L[k] (List.getElem_mem hlt))
      obtain ⟨x, hx⟩ : ∃ x, x = L[k] := ⟨_, rfl⟩
      rw [← hx] at c19 HXO
      clear hx hO hkn
      go_upto_region 19 with fail
      refine wp_world ?_
      intro W hW
      have cX : cellsAt W wq.heap.size 0 19 = some (duC x) := by rw [hW]; simp [go_sem]
      have k1 : Keeps No wq W := by rw [hW]; exact (Keeps.refl wq).alloc _
      have O1 := Lib.hid (OO.out.no k1)
      obtain ⟨X, hX⟩ : ∃ g, g = wq.heap.size := ⟨_, rfl⟩
      rw [← hX] at cX ⊢
      have x0 := cellsAt_cell cX 0 _ rfl
      simp only [Nat.zero_add] at x0
      clear hW k1 hX c19 OO
      have hlg : ld.lg.next ≤ 200 ∧ ld.lg.firsts.length ≤ 200 := by
        obtain ⟨rs, s1, s2⟩ := O1.out.st
        exact s1.lgs (by have := HK50.out; omega)
      have HLW := Lib.hid (HL.out.kept O1.out.kp (fun _ h => h.elim))
      have HLG := Lib.hid hlg
      clear hlg
      by_cases h5 : x.k < 5
      · have i2 : cellsAt W X 2 16 = some (cmC x.c) := cellsAt_part cX 2 (cmC x.c) rfl (by simp)
        have CC := Lib.hid (ledCall_any HLW.out O1.out.kp.size O1.out.led x.c (by have := HLG.out; omega) (by have := HLG.out; omega))
        have ST : Hid (∀ rs, Stand zf ld ds rs → rs.length ≤ 1 + 2 * k → Steps zf ld (rs.length + 2) (ld.call ds x.c).2.2.1 (ld.call ds x.c).2.2.2) := Lib.hid (fun rs h hl => (h.call O1.out.z (by have := HK50.out; omega) x.c).1)
        have TL : Hid ((ld.call ds x.c).2.1 = 0 → (ld.call ds x.c).1.k = 1 → (∀ a ∈ told, neq (ld.call ds x.c).1.b.id a = false) ∧ Past (ld.call ds x.c).2.2.1.dk.pl (ld.call ds x.c).1.b.id) := Lib.hid (fun h0 h1 => by
          obtain ⟨rs, s1, s2⟩ := O1.out.st
          obtain ⟨p1, p2⟩ := (s1.call O1.out.z (by have := HK50.out; omega) x.c).2 h0 h1
          refine ⟨fun a ha => ?_, p2⟩
          cases hn : neq (ld.call ds x.c).1.b.id a with
          | false => rfl
          | true => rw [neq_iff] at hn; exact absurd (hn ▸ O1.out.past a ha) p1)
        obtain ⟨r, hr⟩ : ∃ r, r = ld.call ds x.c := ⟨_, rfl⟩
        rw [← hr] at CC ST TL
        obtain ⟨c', f, ld', ds'⟩ := r
        clear hr
        go_wp2_with fail
        (with_reducible refine CC.out.mono ?_)
        rintro e w2 ⟨rfl, hp⟩
        obtain ⟨P', hPl, o2⟩ := O1.out.post hp ST.out
        have O2 := Lib.hid o2
        have HTL := Lib.hid O1.out.tl
        have HEP : Hid (ld'.ep = ld.ep) := Lib.hid (by obtain ⟨rs, s1, s2⟩ := O1.out.st; exact (ST.out rs s1 s2).ep)
        clear hp o2 CC ST O1 i2 x0 cX HXO HLW HLG
        go_upto_region 21 with fail
        refine wp_world ?_
        intro W3 hW3
        have cY : cellsAt W3 w2.heap.size 0 16 = some (cmC c') := by rw [hW3]; simp [go_sem]
        have k3 : Keeps No w2 W3 := by rw [hW3]; exact (Keeps.refl w2).alloc _
        have O3 := Lib.hid (O2.out.no k3)
        obtain ⟨Y, hY⟩ : ∃ g, g = w2.heap.size := ⟨_, rfl⟩
        rw [← hY] at cY ⊢
        have CY := Lib.hid cY
        clear hW3 k3 hY cY O2
        by_cases hf : f = 0
        · subst hf
          by_cases hck : c'.k = 1
          · obtain ⟨HNE, HPA⟩ := TL.out rfl hck
            have y0 : W3.cell? ⟨Y, 0, none⟩ = some (.int .i64 1) := by
              have := cellsAt_cell CY.out 0 _ rfl
              rw [hck] at this
              exact this
            have HNEH := Lib.hid HNE
            have HPAH := Lib.hid HPA
            clear TL hck HNE HPA
            obtain ⟨ta, tc, rfl⟩ := ownsRow_slice O3.out.names
            go_wp2_with fail
            go_loopw [14] (fun q w' => ∃ j : Nat, j ≤ told.length ∧ q = .int .i64 j ∧ Keeps No W3 w') (fun q _ => told.length - (intOf q).toNat)
            case atStart => exact ⟨0, Nat.zero_le _, rfl, Keeps.refl _⟩
            case round =>
              obtain ⟨wj, hwj⟩ : ∃ x : World, x = wr := ⟨_, rfl⟩
              subst hwj
              obtain ⟨j, hj, rfl, hK⟩ := hrel
              have hj0 : (0 : Int) ≤ (j : Int) := by omega
              have hjb : (j : Int) ≤ 100 := by have := HTL.out; omega
              by_cases hjt : j < told.length
              · have hji : (j : Int) < (told.length : Int) := by omega
                have KJ := Lib.hid hK
                obtain ⟨gt, ot, rfl, _, _, _⟩ := RdOf.addr cNam (OwnOf.reads O3.out.names) (by omega)
                have cT : cellsAt wj gt (ot + j * 3) 3 = some (namC told[j]) := RdOf.at cNam ((OwnOf.reads O3.out.names).kept hK (fun _ _ h => h)) j hjt
                have cN : cellsAt wj Y 4 3 = some (namC c'.b.id) := cellsAt_part (hK.cellsAt CY.out) 4 (namC c'.b.id) rfl (by simp)
                have hne := HNEH.out told[j] (List.getElem_mem hjt)
                obtain ⟨a, ha⟩ : ∃ a, a = told[j] := ⟨_, rfl⟩
                rw [← ha] at cT hne
                have en : ∀ W', (binOp .eql 23 (.agg (namC c'.b.id).toArray) (.agg (namC a).toArray)).run Tryz.prog W' = .ok (.bool false) W' := fun W' => by rw [← hne]; exact run_eqlNam c'.b.id a W'
                have l1 : ∀ n, cellsAt (wj.drewN n) Y 4 3 = some (namC c'.b.id) := fun n => cN
                have l2 : ∀ n, cellsAt (wj.drewN n) gt (ot + j * 3) 3 = some (namC a) := fun n => cT
                clear ha hne
                have yj := hK.cell y0 (fun h => h)
                have l0 : ∀ n, (wj.drewN n).cell? ⟨Y, 0, none⟩ = some (.int .i64 1) := fun n => yj
                clear y0
                clear hK hjt
                go_upto_region 24 with fail
                go_quiet (fail)
                go_wp2
                go_roundw
                case rel => exact ⟨j + 1, by omega, by go_num, KJ.out.drewN nq⟩
                case measure => simp [intOf]; omega
              · have hji : ¬ (j : Int) < (told.length : Int) := by omega
                have O4 := Lib.hid (O3.out.no hK)
                have yj := hK.cell y0 (fun h => h)
                clear y0
                have cN : cellsAt wj Y 4 3 = some (namC c'.b.id) := cellsAt_part (hK.cellsAt CY.out) 4 (namC c'.b.id) rfl (by simp)
                obtain ⟨i0, hi, hz0, hz1, hz2⟩ := info_parts Tryz.infoID
                have hkk := HK50.out
                have htt := HTL.out
                clear hjt hK
                go_wp2_with (at_builtin; refine wpList_append_reads rfl (.tmp 106) (.tmp 110) 28 rfl w.heap.size 23 i0 _ 3 24 Tryz.underlying28 hi hz0 hz1 hz2 rfl (by decide) (.slice ta told.length tc) told.length (rowsOf cNam told) rfl (O4.out.names.alloc _) (.slice (some ⟨wj.heap.size, 0, none⟩) 1 1) 1 (namC c'.b.id) rfl (litReads cNam wj 23 c'.b.id) ?c1 ?c2 ?c3 ?c4)
                case c1 => unfold maxLen; omega
                case c2 => omega
                case c3 => have := O4.out.kp.size; simp; omega
                case c4 =>
                  intro v5 w5 hown5 hk5 hnew5 _
                  have O5 := Lib.hid ((O4.out.no ((Keeps.refl wj).alloc _)).tell (ownApp (a := c'.b.id) hown5) hk5 (fun i hi => by simpa using hnew5 i hi) HPAH.out (by omega))
                  clear hown5 hk5 hnew5 hi hz0 hz1 hz2 hkk htt
                  go_wp2
                  go_roundw
                  case rel => exact ⟨k + 1, P', ld', ds', told ++ [c'.b.id], by omega, by rw [hPl], by rw [HEP.out], by go_num, O5.out⟩
                  case measure => simp [intOf]; omega
          · have hckb : (c'.k == 1) = false := by simpa using hck
            have y0 := cellsAt_cell CY.out 0 _ rfl
            simp only [Nat.zero_add] at y0
            clear TL hck
            obtain ⟨ta, tc, rfl⟩ := ownsRow_slice O3.out.names
            go_wp2_with fail
            go_loopw [14] (fun q w' => ∃ j : Nat, j ≤ told.length ∧ q = .int .i64 j ∧ Keeps No W3 w') (fun q _ => told.length - (intOf q).toNat)
            case atStart => exact ⟨0, Nat.zero_le _, rfl, Keeps.refl _⟩
            case round =>
              obtain ⟨wj, hwj⟩ : ∃ x : World, x = wr := ⟨_, rfl⟩
              subst hwj
              obtain ⟨j, hj, rfl, hK⟩ := hrel
              have hj0 : (0 : Int) ≤ (j : Int) := by omega
              have hjb : (j : Int) ≤ 100 := by have := HTL.out; omega
              by_cases hjt : j < told.length
              · have hji : (j : Int) < (told.length : Int) := by omega
                have KJ := Lib.hid hK
                have yj := hK.cell y0 (fun h => h)
                have l0 : ∀ n, (wj.drewN n).cell? ⟨Y, 0, none⟩ = some (.int .i64 c'.k) := fun n => yj
                clear y0
                clear hK hjt
                go_upto_region 24 with fail
                go_quiet (fail)
                go_wp2
                go_roundw
                case rel => exact ⟨j + 1, by omega, by go_num, KJ.out.drewN nq⟩
                case measure => simp [intOf]; omega
              · have hji : ¬ (j : Int) < (told.length : Int) := by omega
                have O4 := Lib.hid (O3.out.no hK)
                have yj := hK.cell y0 (fun h => h)
                clear y0
                clear hjt hK
                go_wp2
                go_roundw
                case rel => exact ⟨k + 1, P', ld', ds', told, by omega, by rw [hPl], by rw [HEP.out], by go_num, O4.out⟩
                case measure => simp [intOf]; omega
        · have hfb : (f == 0) = false := by simpa using hf
          clear TL hf
          obtain ⟨ta, tc, rfl⟩ := ownsRow_slice O3.out.names
          go_wp2_with fail
          go_loopw [14] (fun q w' => ∃ j : Nat, j ≤ told.length ∧ q = .int .i64 j ∧ Keeps No W3 w') (fun q _ => told.length - (intOf q).toNat)
          case atStart => exact ⟨0, Nat.zero_le _, rfl, Keeps.refl _⟩
          case round =>
            obtain ⟨wj, hwj⟩ : ∃ x : World, x = wr := ⟨_, rfl⟩
            subst hwj
            obtain ⟨j, hj, rfl, hK⟩ := hrel
            have hj0 : (0 : Int) ≤ (j : Int) := by omega
            have hjb : (j : Int) ≤ 100 := by have := HTL.out; omega
            by_cases hjt : j < told.length
            · have hji : (j : Int) < (told.length : Int) := by omega
              have KJ := Lib.hid hK
              clear hK hjt
              go_upto_region 24 with fail
              go_quiet (fail)
              go_wp2
              go_roundw
              case rel => exact ⟨j + 1, by omega, by go_num, KJ.out.drewN nq⟩
              case measure => simp [intOf]; omega
            · have hji : ¬ (j : Int) < (told.length : Int) := by omega
              have O4 := Lib.hid (O3.out.no hK)
              clear hjt hK
              go_wp2
              go_roundw
              case rel => exact ⟨k + 1, P', ld', ds', told, by omega, by rw [hPl], by rw [HEP.out], by go_num, O4.out⟩
              case measure => simp [intOf]; omega
      · have h5n : ¬ x.k < 5 := h5
        clear h5
        by_cases h7 : x.k < 7
        · have CC := Lib.hid (ledBegin_any HLW.out O1.out.kp.size O1.out.led (by have := HLG.out; omega) (by have := HLG.out; omega))
          have ST : Hid (∀ rs, Stand zf ld ds rs → rs.length ≤ 1 + 2 * k → Steps zf ld (rs.length + 2) (ld.begin ds).2.2.2.1 (ld.begin ds).2.2.2.2) := Lib.hid (fun rs h hl => h.begin (by have := HK50.out; omega))
          obtain ⟨r, hr⟩ : ∃ r, r = ld.begin ds := ⟨_, rfl⟩
          rw [← hr] at CC ST
          obtain ⟨tt, cs, f, ld', ds'⟩ := r
          clear hr
          go_wp2_with fail
          (with_reducible refine CC.out.mono ?_)
          rintro e w2 ⟨v, rfl, hp, _⟩
          obtain ⟨P', hPl, o2⟩ := O1.out.post (LedBut.post hp) ST.out
          have HEP : Hid (ld'.ep = ld.ep) := Lib.hid (by obtain ⟨rs, s1, s2⟩ := O1.out.st; exact (ST.out rs s1 s2).ep)
          have O2 := Lib.hid o2
          clear hp o2 CC ST O1 x0 cX HXO HLW HLG
          go_wp2
          go_roundw
          case rel => exact ⟨k + 1, P', ld', ds', told, by omega, by rw [hPl], by rw [HEP.out], by go_num, O2.out⟩
          case measure => simp [intOf]; omega
        · have h7n : ¬ x.k < 7 := h7
          clear h7
          by_cases h9 : x.k < 9
          · have x18 := cellsAt_cell cX 18 _ rfl
            simp only [Nat.zero_add] at x18
            have CC := Lib.hid (ledEnd_any HLW.out O1.out.kp.size O1.out.led _ x.ids (HXO.out.1.ids.kept O1.out.kp (fun _ _ h => h)) (by have := HXO.out.2; omega) (by have := HLG.out; omega) (by have := HLG.out; omega))
            have ST : Hid (∀ rs, Stand zf ld ds rs → rs.length ≤ 1 + 2 * k → Steps zf ld (rs.length + 2) (ld.finish ds x.ids).2.1 (ld.finish ds x.ids).2.2) := Lib.hid (fun rs h hl => h.finish (by have := HK50.out; omega) HXO.out.2)
            obtain ⟨r, hr⟩ : ∃ r, r = ld.finish ds x.ids := ⟨_, rfl⟩
            rw [← hr] at CC ST
            obtain ⟨f, ld', ds'⟩ := r
            clear hr
            go_wp2_with fail
            (with_reducible refine CC.out.mono ?_)
            rintro e w2 ⟨rfl, hp⟩
            obtain ⟨P', hPl, o2⟩ := O1.out.post hp ST.out
            have HEP : Hid (ld'.ep = ld.ep) := Lib.hid (by obtain ⟨rs, s1, s2⟩ := O1.out.st; exact (ST.out rs s1 s2).ep)
            have O2 := Lib.hid o2
            clear hp o2 CC ST O1 x0 x18 cX HXO HLW HLG
            go_wp2
            go_roundw
            case rel => exact ⟨k + 1, P', ld', ds', told, by omega, by rw [hPl], by rw [HEP.out], by go_num, O2.out⟩
            case measure => simp [intOf]; omega
          · have h9n : ¬ x.k < 9 := h9
            clear h9
            have x1 := cellsAt_cell cX 1 _ rfl
            simp only [Nat.zero_add] at x1
            by_cases h10 : x.k = 10
            · have h10b : (x.k == 10) = true := by simpa using h10
              have CC := Lib.hid (cut_any O1.out.disk x.n HXO.out.1.n.2)
              clear h10 cX HLW HLG
              go_wp2_with fail
              (with_reducible refine CC.out.mono ?_)
              rintro e w2 ⟨rfl, hd, hk2⟩
              have O2 := Lib.hid ((O1.out.cut x.n hd hk2).later)
              clear hd hk2 CC O1 x0 x1 HXO
              go_wp2
              go_roundw
              case rel => exact ⟨k + 1, P, ld, ds.cut x.n, told, by omega, rfl, rfl, by go_num, O2.out⟩
              case measure => simp [intOf]; omega
            · have h10b : (x.k == 10) = false := by simpa using h10
              have CC := Lib.hid (crash_tot O1.out.disk x.n)
              have cG := O1.out.cf
              clear h10 cX HLW HLG
              go_wp2_with fail
              (with_reducible refine CC.out.mono ?_)
              rintro e w2 ⟨rfl, hd, hk2⟩
              have CR := Lib.hid (O1.out.reopen HL.out HK50.out x.n hd hk2)
              have cG2 : cellsAt w2 G 0 7 = some (zfC zf) := cellsAt_kept hk2 cG (fun e => O1.out.gn.1 (by
                rcases e with e | e
                · exact .inr (.inr (.inr (.inl (by rw [O1.out.pp]; exact e))))
                · exact .inr (.inr (.inr (.inr (.inl (by rw [O1.out.pb]; exact e)))))))
              clear hd hk2 CC O1 x0 x1 HXO cG
              go_wp2_with fail
              (with_reducible refine CR.out.mono ?_)
              rintro e w3' ⟨P', ld', ds', rfl, o3, hep'⟩
              have O3 := Lib.hid o3
              have CE := Lib.hid (ledEpoch_any o3.led)
              have HEP := Lib.hid hep'
              have he1 := hep.1
              have he2 := hep.2
              have hkk := HK50.out
              rw [hep'] at CE
              clear o3 hep' CR cG2 hep
              have hw1 : wrap64 (ld.ep + 1) = ld.ep + 1 := IntWalk.wrap64_in _ ⟨by omega, by omega⟩
              have e2 : ¬ ld.ep + 1 < 2 := by omega
              have e3 : ¬ ld.ep + 1 < ld.ep + 1 := by omega
              go_wp2_with fail
              (with_reducible refine CE.out.mono ?_)
              rintro e w4' ⟨rfl, rfl⟩
              go_wp2_with fail
              (with_reducible refine CE.out.mono ?_)
              rintro e w5' ⟨rfl, rfl⟩
              go_wp2_with fail
              (with_reducible refine CE.out.mono ?_)
              rintro e w6' ⟨rfl, rfl⟩
              go_wp2
              go_roundw
              case rel => exact ⟨k + 1, P', ld', ds', told, by omega, rfl, by rw [HEP.out], by go_num, O3.out⟩
              case measure => simp [intOf]; omega
    · have hki : ¬ (k : Int) < (L.length : Int) := by omega
      have CA := Lib.hid (ledAwake_any (HL.out.kept hO.kp (fun _ h => h.elim)) hO.kp.size)
      have KO := Lib.hid hO.kp
      clear hlt hk hO OO hep hkn
      go_wp2_with fail
      (with_reducible refine CA.out.mono ?_)
      rintro e w6 ⟨rfl, hk6⟩
      have KF : Hid (Keeps No w w6) := Lib.hid (KO.out.trans hk6 (fun _ _ h => h))
      clear hk6 CA KO
      go_wp2
      go_ret
      exact ⟨rfl, KF.out⟩
end Go.Proofs.YtpbpgjfdledgoaaGreatDoor.ledgerOnce
