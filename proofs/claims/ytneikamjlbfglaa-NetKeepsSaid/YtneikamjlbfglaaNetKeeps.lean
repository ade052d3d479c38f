/-
  Whatever the deeds: NetKeeps returns true, and its argument reads behind the call as it read before. No conditions.
-/
import Derived.Test.YtneikamjlbfglaaNetDeeds
import Derived.Deep.CutBlock
namespace Go.Proofs.Ytneikamjlbfglaa.netKeeps
open Go.ChangeShapes Go.WideShapes Go.ChangeAt Go.RowKit

/-- What holds ahead of round k. -/
structure Inv (w wr : World) (b : Nat) (lv : Value) (ds : List Dd) (k : Nat) (A B : Int) (sv : Value) (ps sent : List Pk) : Prop where
  mem : Mem w wr [NetT b 4 ps, DdT lv ds, PkT sv sent]
  diff : A - B = ps.length
  low : 0 ≤ B
  high : A ≤ 21 * k
  sub : ∀ p ∈ ps, p ∈ sent
  len : sent.length ≤ 20 * k
abbrev Rel (w : World) (b : Nat) (lv : Value) (ds : List Dd) (k : Nat) (v5 v6 v7 : Value) (wr : World) : Prop := ∃ (A B : Int) (ps sent : List Pk), v5 = .int .i64 A ∧ v6 = .int .i64 B ∧ Inv w wr b lv ds k A B v7 ps sent

theorem bytes_ne {a b : ByteArray} (h : ¬ a = b) : (a.toList == b.toList) = false := by
  rw [beq_eq_false_iff_ne, ByteArray.toList_eq, ByteArray.toList_eq]
  intro e
  apply h
  cases a; cases b
  simp only at e
  rw [Array.ext' e]
/-- Take, whatever the number -/
theorem take_both {w0 w : World} {L : List Thing} {b : Nat} {N : Int} {ps : List Pk} (hm : Mem w0 w L) (i : Nat) (hL : L[i]? = some (NetT b N ps)) (hps : ps.length ≤ 4096) (k : Int) :
    Calls Try.prog 12 #[.pointer (some ⟨b, 0, none⟩), .int .i64 k] w fun e w' => ∃ (q : Pk) (ev : Int) (ps' : List Pk), e = .returned (.tuple #[.agg #[.int .i64 q.f, .int .i64 q.t, .string q.s], .int .i64 ev]) ∧ Mem w0 w' (L.set i (NetT b N ps')) ∧
      ((ev = 6 ∧ ps' = ps) ∨ (ev = 0 ∧ q ∈ ps ∧ (ps'.length : Int) = ps.length - 1 ∧ ∀ p ∈ ps', p ∈ ps)) := by
  cases hnd : nd ps.length k
  · refine (take_m_no hm i hL k hnd).mono ?_
    rintro e w' ⟨rfl, h⟩
    refine ⟨⟨0, 0, ByteArray.empty⟩, 6, ps, rfl, ?_, .inl ⟨rfl, rfl⟩⟩
    have e : L.set i (NetT b N ps) = L := by
      apply List.ext_getElem?
      intro n
      by_cases hn : i = n
      · subst hn
        rw [List.getElem?_set_self (List.getElem?_eq_some_iff.1 hL).1, hL]
      · rw [List.getElem?_set_ne hn]
    rw [e]
    exact h
  · obtain ⟨j, rfl, hjl⟩ : ∃ j : Nat, k = j ∧ j < ps.length := by
      simp only [nd, Bool.and_eq_true, decide_eq_true_eq] at hnd
      exact ⟨k.toNat, by omega, by omega⟩
    refine (take_m hm i hL hps j hjl).mono ?_
    rintro e w' ⟨rfl, h⟩
    exact ⟨ps[j], 0, _, rfl, h, .inr ⟨rfl, List.getElem_mem hjl, by rw [List.length_eraseIdx_of_lt hjl]; omega, fun p hp => List.mem_of_mem_eraseIdx hp⟩⟩

set_option maxRecDepth 100000 in
set_option maxHeartbeats 4000000 in
theorem walk (v : Value) (l : List Dd) (w : World) (hv : DdReads w v l) (hok0 : ∀ d ∈ l, DdOk w d) : Calls Try.prog 3 #[v] w fun e w' => e = .returned (.bool true) ∧ Keeps No w w' := by
  obtain ⟨i0, hi, hz0, hz1, hz2⟩ := info_parts Try.infoPk
  go_enter Try.func3, Try.ntmps3
  go_wp2_with fail
  refine (new_m (w0 := w) 4 (by omega) (by omega) (Mem.start w)).mono ?_
  rintro e w1 ⟨b, rfl, hm1⟩
  have hm : Mem w w1 [NetT b 4 []] := hm1
  clear hm1
  go_wp2_with fail
  refine (few_any hm v l (hv.kept hm.keeps (fun _ _ h => h)) (fun d hd => (hok0 d hd).kept hm.keeps)).mono ?_
  rintro e w2 ⟨lv, rfl, hm2⟩
  obtain ⟨ds, hds⟩ : ∃ ds, ds = (l.take 50).map Dd.cut := ⟨_, rfl⟩
  rw [← hds] at hm2
  have hok : ∀ d ∈ ds, DdOk w d ∧ d.ps.length ≤ 20 := by
    intro d hd
    rw [hds] at hd
    obtain ⟨x, hx, rfl⟩ := List.mem_map.1 hd
    exact ⟨Dd.cut_ok (hok0 x (List.mem_of_mem_take hx)), Dd.cut_len x⟩
  have hn50 : ds.length ≤ 50 := by rw [hds, List.length_map, List.length_take]; omega
  clear hds hok0 hv hm
  have hm3 : Mem w w2 [NetT b 4 [], DdT lv ds, PkT (.slice none 0 0) []] := Mem.push (L := [NetT b 4 [], DdT lv ds]) hm2 (rowT_lies _ _ _ _ _) (pkT_nil _)
  clear hm2
  obtain ⟨la, lc, rfl⟩ : ∃ la lc, lv = .slice la ds.length lc := by
    obtain ⟨F, ⟨h, _⟩⟩ := hm3.see 1 rfl
    exact ownsRow_slice h
  have h0 : Rel w b (.slice la ds.length lc) ds 0 (.int .i64 0) (.int .i64 0) (.slice none 0 0) w2 := ⟨0, 0, [], [], rfl, rfl, hm3, by simp, by omega, by omega, by simp, by simp⟩
  clear hm3
  have Hn50 := Lib.hid hn50; clear hn50
  go_wp2
  go_loopw [5, 6, 7, 8] (fun v5 v6 v7 i wr => ∃ k : Nat, k ≤ ds.length ∧ i = .int .i64 k ∧ Rel w b (.slice la ds.length lc) ds k v5 v6 v7 wr) (fun _ _ _ i _ => ds.length - (intOf i).toNat)
  case atStart => exact ⟨0, Nat.zero_le _, rfl, h0⟩
  case round =>
    obtain ⟨k, hk, rfl, A, B, ps, sent, rfl, rfl, inv⟩ := hrel
    have hmr := inv.mem
    by_cases hlt : k < ds.length
    · obtain ⟨F, ⟨hF, _⟩⟩ := hmr.see 1 rfl
      have hr := Reads.ofOwn hF (ddCells_one' (fun d hd => (hok d hd).1))
      clear hF
      obtain ⟨b', off, d, he, _, _, hbl, _⟩ := hr.addr (by rw [ddCells_length]; omega)
      simp only [Value.slice.injEq, true_and] at he
      obtain ⟨rfl, rfl⟩ := he
      obtain ⟨g0, g1, g2⟩ := hr.dd k hlt
      obtain ⟨hd1, hd2⟩ := hok _ (List.getElem_mem hlt)
      obtain ⟨D, hD⟩ : ∃ D, ds[k] = D := ⟨_, rfl⟩
      rw [hD] at g0 g1 g2 hd1 hd2
      clear hD hr
      obtain ⟨kind, kk, dv, dps⟩ := D
      obtain ⟨pa, pc, hpv⟩ := hd1.reads.slice
      dsimp only at g0 g1 g2 hd2 hpv
      subst hpv
      have hd1r : PkReads w (.slice pa dps.length pc) dps := hd1.reads
      have hrd : PkReads wr (.slice pa dps.length pc) dps := hd1r.kept hmr.keeps (fun _ _ h => h)
      have Hinv := Lib.hid inv; clear inv
      have Hd2 := Lib.hid hd2; clear hd2
      clear hd1
      have hk50 : (k : Int) ≤ 49 := by have := Hn50.out; omega
      go_upto_block 2 with fail
      go_cut [5, 6, 7] (fun v5 v6 v7 w' => Rel w b (.slice (some ⟨b', off, none⟩) ds.length lc) ds (k + 1) v5 v6 v7 w')
      case first =>
        obtain ⟨wx, hwx⟩ : ∃ wx, wx = wr.alloc (.cells #[.int .i64 kind, .int .i64 kk, .slice pa dps.length pc] 30) := ⟨_, rfl⟩
        have c0 : wx.cell? ⟨wr.heap.size, 0, none⟩ = some (.int .i64 kind) := by rw [hwx]; go_simp
        have c1 : wx.cell? ⟨wr.heap.size, 1, none⟩ = some (.int .i64 kk) := by rw [hwx]; go_simp
        have c2 : wx.cell? ⟨wr.heap.size, 2, none⟩ = some (.slice pa dps.length pc) := by rw [hwx]; go_simp
        have hmx : Mem w wx [NetT b 4 ps, DdT (.slice (some ⟨b', off, none⟩) ds.length lc) ds, PkT u7 sent] := by rw [hwx]; exact mem_lit hmr _
        have hmb : Mem w wx [NetT b 4 ps, DdT (.slice (some ⟨b', off, none⟩) ds.length lc) ds, PkT u7 sent, RowT 30 3 (.slice (some ⟨wr.heap.size, 0, none⟩) 1 1) 1 [.int .i64 kind, .int .i64 kk, .slice pa dps.length pc]] := by rw [hwx]; exact ddT_lit (L := [NetT b 4 ps, DdT (.slice (some ⟨b', off, none⟩) ds.length lc) ds, PkT u7 sent]) hmr kind kk _
        have hrx : PkReads wx (.slice pa dps.length pc) dps := by rw [hwx]; exact hrd.kept ((Keeps.refl _).alloc _) (fun _ _ h => h)
        rw [← hwx]
        have hdp : (dps.length : Int) ≤ 20 := by have := Hd2.out; omega
        have hpl : Hid (ps.length ≤ 1050) := by
          have := Hinv.out.diff; have := Hinv.out.low; have := Hinv.out.high
          show _ ≤ _; omega
        have hAb : Hid (A ≤ 1029 ∧ 0 ≤ A) := by
          have := Hinv.out.diff; have := Hinv.out.low; have := Hinv.out.high
          show _ ∧ _; omega
        clear hwx hmr g0 g1 g2 hrd hbl
        generalize wr.heap.size = g at *
        have hkind : (kind = 0 ∨ kind = 1 ∨ kind = 2) ∨ (kind = 3 ∨ kind = 4) ∨ kind = 5 ∨ (kind ≠ 0 ∧ kind ≠ 1 ∧ kind ≠ 2 ∧ kind ≠ 3 ∧ kind ≠ 4 ∧ kind ≠ 5) := by omega
        rcases hkind with hkd | hkd | rfl | ⟨n0, n1, n2, n3, n4, n5⟩
        · have hdn : Hid (dps.length ≤ 20) := Hd2
          rcases hkd with rfl | rfl | rfl
          all_goals
            cases hw : dps.any (wrongB 4)
            · have e0 : (dps.length : Int) - min (dps.length : Int) (4096 - ps.length) = 0 := by have := hpl.out; omega
              have e1 : ps ++ dps.take (4096 - ps.length) = ps ++ dps := by rw [List.take_of_length_le (by have := hpl.out; have := hdn.out; omega)]
              have hcall := send_m hmb 0 rfl (by have := hpl.out; omega) _ dps hrx hw
              rw [e0, e1] at hcall
              have Hcall := Lib.hid hcall
              clear hcall e0 e1
              go_wp2_with fail
              refine Hcall.out.mono ?_
              rintro e w3 ⟨rfl, hm3, _⟩
              clear Hcall
              have hm3' : Mem w w3 [NetT b 4 (ps ++ dps), DdT (.slice (some ⟨b', off, none⟩) ds.length lc) ds, PkT u7 sent, RowT 30 3 (.slice (some ⟨g, 0, none⟩) 1 1) 1 _] := hm3
              clear hm3
              obtain ⟨q2, _⟩ := hm3'.cellAt 3 rfl 2 (by omega)
              simp only [List.getElem?_cons_succ, List.getElem?_cons_zero] at q2
              have hrd3 : PkReads w3 (.slice pa dps.length pc) dps := hd1r.kept hm3'.keeps (fun _ _ h => h)
              have hA1 : wrap64 (A + (dps.length : Int)) = A + (dps.length : Int) := IntWalk.wrap64_in _ ⟨by have := hAb.out; omega, by have := hAb.out; omega⟩
              have Hm3 := Lib.hid hm3'
              go_wp2_with (at_builtin; refine wpList_append_mem rfl (.tmp 63) (.tmp 65) 28 rfl 34 i0 _ 3 32 Try.underlying28 hi hz0 hz1 hz2 rfl (by decide) Hm3.out 2 _ sent.length (pkCells sent) rfl rfl _ dps.length (pkCells dps) rfl hrd3 ?c1 ?c2 ?c4)
              case c1 => have := Hinv.out.len; unfold maxLen; omega
              case c2 => have := Hinv.out.len; omega
              case c4 =>
                intro sv w5 hm5 _ _
                have hm6 : Mem w w5 [NetT b 4 (ps ++ dps), DdT (.slice (some ⟨b', off, none⟩) ds.length lc) ds, PkT sv (sent ++ dps)] := by
                  have := hm5.out.erase 3 (by simp)
                  rw [← pkT_app _ _ dps dps.length rfl]
                  exact this
                have hfin : Hid (Rel w b (.slice (some ⟨b', off, none⟩) ds.length lc) ds (k + 1) (.int .i64 (A + (dps.length : Int))) (.int .i64 B) sv w5) := by
                  refine ⟨_, B, _, _, rfl, rfl, hm6, ?_, Hinv.out.low, by have := Hinv.out.high; omega, ?_, ?_⟩
                  · have := Hinv.out.diff; rw [List.length_append]; omega
                  · intro p hp
                    rcases List.mem_append.1 hp with hp | hp
                    · exact List.mem_append_left _ (Hinv.out.sub p hp)
                    · exact List.mem_append_right _ hp
                  · have := Hinv.out.len; rw [List.length_append]; omega
                clear hm5 hm6 hm3' Hm3
                go_wp2
                go_meet
                case rel => exact hfin.out
            · go_wp2_with fail
              refine (send_m_no hmx 0 rfl _ dps hrx hw).mono ?_
              rintro e w3 ⟨rfl, hm3, _⟩
              have hfin : Hid (Rel w b (.slice (some ⟨b', off, none⟩) ds.length lc) ds (k + 1) (.int .i64 A) (.int .i64 B) u7 w3) :=
                ⟨A, B, ps, sent, rfl, rfl, hm3, Hinv.out.diff, Hinv.out.low, by have := Hinv.out.high; omega, Hinv.out.sub, by have := Hinv.out.len; omega⟩
              clear hm3
              go_wp2
              go_meet
              case rel => exact hfin.out
        · have htk := take_both hmx 0 rfl (by have := hpl.out; omega) kk
          have hB1 : wrap64 (B + 1) = B + 1 := IntWalk.wrap64_in _ ⟨by have := Hinv.out.low; omega, by have := Hinv.out.low; have := Hinv.out.diff; have := hAb.out; omega⟩
          obtain ⟨sa, sc, rfl⟩ : ∃ sa sc, u7 = .slice sa sent.length sc := by
            obtain ⟨F, ⟨h, _⟩⟩ := hmx.see 2 rfl
            exact ownsRow_slice h
          have hsl : (sent.length : Int) ≤ 980 := by have := Hinv.out.len; omega
          have Htk := Lib.hid htk; clear htk
          rcases hkd with rfl | rfl
          all_goals
            go_wp2_with fail
            refine Htk.out.mono ?_
            rintro e w3 ⟨⟨qf, qt, qs⟩, ev, ps', rfl, hm3, hor⟩
            have hm3' : Mem w w3 [NetT b 4 ps', DdT (.slice (some ⟨b', off, none⟩) ds.length lc) ds, PkT (.slice sa sent.length sc) sent] := hm3
            have hm4 := pkT_lit hm3' ⟨qf, qt, qs⟩
            have Hor := Lib.hid hor
            clear hm3 hm3' hor Htk
            go_wp2_with fail
            go_loopw [14, 15] (fun mv i wq => ∃ (j : Nat) (mb : Bool), j ≤ sent.length ∧ i = .int .i64 j ∧ mv = .bool mb ∧ ((ev ≠ 0 ∨ (⟨qf, qt, qs⟩ : Pk) ∈ sent.take j) → mb = true) ∧ Mem w wq [NetT b 4 ps', DdT (.slice (some ⟨b', off, none⟩) ds.length lc) ds, PkT (.slice sa sent.length sc) sent, PkT (.slice (some ⟨w3.heap.size, 0, none⟩) 1 1) [⟨qf, qt, qs⟩]]) (fun _ i _ => sent.length - (intOf i).toNat)
            case atStart =>
              refine ⟨0, _, Nat.zero_le _, rfl, rfl, ?_, hm4⟩
              rintro (h | h)
              · simp [h]
              · simp at h
            case round =>
              obtain ⟨j, mb, hj, rfl, rfl, hmb', hmq⟩ := hrel
              have Hmb := Lib.hid hmb'; clear hmb'
              by_cases hjl : j < sent.length
              · obtain ⟨F, hF⟩ := hmq.see 2 rfl
                have hrs := pkT_reads hF
                clear hF
                obtain ⟨b3, off3, d3, he, _, _, hbl3, _⟩ := hrs.addr (by rw [pkCells_length]; omega)
                simp only [Value.slice.injEq, true_and] at he
                obtain ⟨rfl, rfl⟩ := he
                obtain ⟨r0, r1, r2⟩ := hrs.pk j hjl
                obtain ⟨F, hF⟩ := hmq.see 3 rfl
                obtain ⟨q0, q1, q2⟩ := (pkT_reads hF).pk 0 (by simp)
                simp only [Nat.zero_mul, Nat.add_zero, Nat.zero_add, List.getElem_cons_zero] at q0 q1 q2
                clear hF hrs
                have hj0 : (0 : Int) ≤ (j : Int) := by omega
                have hj1 : (j : Int) < (sent.length : Int) := by omega
                have hnx : Hid (sent.take (j + 1) = sent.take j ++ [sent[j]]) := List.take_succ_eq_append_getElem hjl
                obtain ⟨p, hp⟩ : ∃ p, sent[j] = p := ⟨_, rfl⟩
                rw [hp] at r0 r1 r2 hnx
                clear hp
                obtain ⟨pf, pt, pn⟩ := p
                dsimp only at r0 r1 r2
                cases mb
                · by_cases hpq : pf = qf ∧ pt = qt ∧ pn = qs
                  · obtain ⟨rfl, rfl, rfl⟩ := hpq
                    go_wp2
                    go_quiet (fail)
                    go_wp2
                    go_roundw
                    case rel => exact ⟨j + 1, true, by omega, by go_num, rfl, fun _ => rfl, hmq.later ((Keeps.refl _).drewN _)⟩
                    case measure => simp [intOf]; omega
                  · have Hnx : Hid ((ev ≠ 0 ∨ (⟨qf, qt, qs⟩ : Pk) ∈ sent.take (j + 1)) → false = true) := by
                      intro h
                      refine Hmb.out (h.imp_right fun h => ?_)
                      rw [hnx.out, List.mem_append, List.mem_singleton] at h
                      rcases h with h | h
                      · exact h
                      · cases h; exact (hpq ⟨rfl, rfl, rfl⟩).elim
                    cases e0 : (pf == qf)
                    · go_wp2
                      go_quiet (fail)
                      go_wp2
                      go_roundw
                      case rel => exact ⟨j + 1, _, by omega, by go_num, rfl, Hnx.out, hmq.later ((Keeps.refl _).drewN _)⟩
                      case measure => simp [intOf]; omega
                    · cases e1 : (pt == qt)
                      · go_wp2
                        go_quiet (fail)
                        go_wp2
                        go_roundw
                        case rel => exact ⟨j + 1, _, by omega, by go_num, rfl, Hnx.out, hmq.later ((Keeps.refl _).drewN _)⟩
                        case measure => simp [intOf]; omega
                      · obtain rfl := eq_of_beq e0
                        obtain rfl := eq_of_beq e1
                        have hs : ¬ pn = qs := fun h => hpq ⟨rfl, rfl, h⟩
                        have hs2 : (pn.toList == qs.toList) = false := bytes_ne hs
                        go_wp2
                        go_quiet (fail)
                        go_wp2
                        go_roundw
                        case rel => exact ⟨j + 1, _, by omega, by go_num, rfl, Hnx.out, hmq.later ((Keeps.refl _).drewN _)⟩
                        case measure => simp [intOf]; omega
                · go_wp2
                  go_quiet (fail)
                  go_wp2
                  go_roundw
                  case rel => exact ⟨j + 1, true, by omega, by go_num, rfl, fun _ => rfl, hmq.later ((Keeps.refl _).drewN _)⟩
                  case measure => simp [intOf]; omega
              · obtain rfl : j = sent.length := by omega
                have hmt : mb = true := by
                  refine Hmb.out ?_
                  rw [List.take_length]
                  rcases Hor.out with ⟨h, _⟩ | ⟨_, h, _⟩
                  · left; omega
                  · exact .inr (Hinv.out.sub _ h)
                subst hmt
                rcases Hor.out with ⟨rfl, rfl⟩ | ⟨rfl, hq, hl, hsub⟩
                · have hfin : Hid (Rel w b (.slice (some ⟨b', off, none⟩) ds.length lc) ds (k + 1) (.int .i64 A) (.int .i64 B) (.slice sa sent.length sc) wr) :=
                    ⟨A, B, ps', sent, rfl, rfl, hmq.erase 3 (by simp), Hinv.out.diff, Hinv.out.low, by have := Hinv.out.high; omega, Hinv.out.sub, by have := Hinv.out.len; omega⟩
                  clear hmq
                  go_wp2
                  go_meet
                  case rel => exact hfin.out
                · have hfin : Hid (Rel w b (.slice (some ⟨b', off, none⟩) ds.length lc) ds (k + 1) (.int .i64 A) (.int .i64 (B + 1)) (.slice sa sent.length sc) wr) :=
                    ⟨A, B + 1, ps', sent, rfl, rfl, hmq.erase 3 (by simp), by have := Hinv.out.diff; omega, by have := Hinv.out.low; omega, by have := Hinv.out.high; omega, fun p hp => Hinv.out.sub p (hsub p hp), by have := Hinv.out.len; omega⟩
                  clear hmq hq hl hsub
                  go_wp2
                  go_meet
                  case rel => first | exact hfin.out | (rw [hB1]; exact hfin.out)
        · cases hnd : nd ps.length kk
          · go_wp2_with fail
            refine (double_m_no hmx 0 rfl kk hnd).mono ?_
            rintro e w3 ⟨rfl, rfl⟩
            go_wp2
            go_meet
            case rel => exact ⟨A, B, ps, sent, rfl, rfl, hmx, Hinv.out.diff, Hinv.out.low, by have := Hinv.out.high; omega, Hinv.out.sub, by have := Hinv.out.len; omega⟩
          · obtain ⟨j, hj, hjl⟩ : ∃ j : Nat, kk = j ∧ j < ps.length := by
              simp only [nd, Bool.and_eq_true, decide_eq_true_eq] at hnd
              exact ⟨kk.toNat, by omega, by omega⟩
            subst hj
            have hA1 : wrap64 (A + 1) = A + 1 := IntWalk.wrap64_in _ ⟨by have := hAb.out; omega, by have := hAb.out; omega⟩
            go_wp2_with fail
            refine (double_m hmx 0 rfl j hjl (by have := hpl.out; omega)).mono ?_
            rintro e w3 ⟨rfl, hm3⟩
            have hfin : Hid (Rel w b (.slice (some ⟨b', off, none⟩) ds.length lc) ds (k + 1) (.int .i64 (A + 1)) (.int .i64 B) u7 w3) := by
              refine ⟨A + 1, B, ps ++ [ps[j]], sent, rfl, rfl, hm3, ?_, Hinv.out.low, by have := Hinv.out.high; omega, ?_, by have := Hinv.out.len; omega⟩
              · have := Hinv.out.diff; simp; omega
              · intro p hp
                simp only [List.mem_append, List.mem_singleton] at hp
                rcases hp with hp | rfl
                · exact Hinv.out.sub p hp
                · exact Hinv.out.sub _ (List.getElem_mem hjl)
            clear hm3
            go_wp2
            go_meet
            case rel => rw [hA1]; exact hfin.out
        · obtain ⟨F, hF⟩ : ∃ F, F = ps.filter fun p => !(p.t == kk) := ⟨_, rfl⟩
          have hFl : F.length ≤ ps.length := by rw [hF]; exact List.length_filter_le _ _
          have hw42 : wrap64 (B + ((ps.length : Int) - (F.length : Int))) = B + ((ps.length : Int) - (F.length : Int)) := by
            refine IntWalk.wrap64_in _ ⟨?_, ?_⟩ <;> (have := Hinv.out.diff; have := Hinv.out.low; have := hAb.out; omega)
          go_wp2_with fail
          refine (to_any kk _).mono ?_
          rintro e w6 ⟨rfl, hw6⟩
          go_wp2_with fail
          refine (lose_m hmx 0 rfl (by have := hpl.out; omega) kk _ w6 hw6 rfl).mono ?_
          rw [← hF]
          rintro e w3 ⟨rfl, hm3⟩
          have hfin : Hid (Rel w b (.slice (some ⟨b', off, none⟩) ds.length lc) ds (k + 1) (.int .i64 A) (.int .i64 (B + ((ps.length : Int) - (F.length : Int)))) u7 w3) := by
            refine ⟨A, _, F, sent, rfl, rfl, hm3, ?_, ?_, by have := Hinv.out.high; omega, ?_, by have := Hinv.out.len; omega⟩
            · have := Hinv.out.diff; omega
            · have := Hinv.out.low; omega
            · intro p hp
              rw [hF] at hp
              exact Hinv.out.sub p (List.mem_filter.1 hp).1
          clear hm3 hw6
          go_wp2
          go_meet
          case rel => rw [← hF, hw42]; exact hfin.out
      case rest =>
        obtain ⟨A', B', ps', sent', rfl, rfl, inv⟩ := hcut
        have hAB : wrap64 (A' - B') = (ps'.length : Int) := by
          rw [← inv.diff]
          refine IntWalk.wrap64_in _ ⟨?_, ?_⟩ <;> (have := inv.diff; have := inv.low; have := inv.high; have := Hn50.out; omega)
        have hne : ((ps'.length : Int) != (ps'.length : Int)) = false := by simp
        have Hinv' := Lib.hid inv
        go_wp2_with fail
        refine (len_m inv.mem 0 rfl).mono ?_
        rintro e w3 ⟨rfl, rfl⟩
        clear inv
        go_wp2
        go_roundw
        case rel => exact ⟨k + 1, by omega, by go_num, A', B', ps', sent', rfl, rfl, Hinv'.out⟩
        case measure => simp [intOf]; omega
    · obtain rfl : k = ds.length := by omega
      go_wp2_with fail
      refine (awake_any _).mono ?_
      rintro e w8 ⟨rfl, hk8⟩
      have hfin : Hid (Keeps No w w8) := hmr.keeps.trans hk8 (fun _ _ h => h)
      go_wp2
      go_ret
      exact ⟨rfl, hfin.out⟩

set_option maxRecDepth 100000 in
theorem lifted (os : Os) (started : os.Started) (H : Type) (enc : TypeId × Value → H) :
    ReturnsInHanded {} Try.checked os 3 .any (Rows.netKeepsSpec.pre6 enc Try.prog Try.f3 Rows.netKeepsRow.domain false) (Rows.netKeepsSpec.post enc Try.prog Try.f3 false true false false) := by
  refine law_lifted os started H enc (by kernel_rfl) Try.func3
    (ChangeSpec.witness6 (enc := enc) (C := Try.checked) false ⟨#[], #[.slice none 0 0], []⟩ 8 (by kernel_rfl) (by kernel_rfl) (by kernel_rfl) (by kernel_rfl))
    (by decide +kernel) rfl Try.underlying4 rfl (fun ds h => by match ds, h with | [d1], _ => rfl) ?_
  intro W base args ds p hval hA
  rw [Try.params3] at hA hval
  obtain ⟨v0, d0, rfl, rfl, h0⟩ := trodAll_one hA
  obtain ⟨l, hl, hok⟩ := open_dds (hval 0 22 v0 rfl rfl) h0
  exact walk v0 l W hl hok

theorem holds : Rows.NetKeepsSaid :=
  OpenClaim.holds_of_wide 3 Try.f3 rfl rfl rfl rfl rfl rfl rfl ⟨rfl, rfl, rfl, rfl, rfl⟩ rfl rfl rfl rfl rfl (by kernel_rfl) Try.func3 (by kernel_rfl)
    (of_decide_eq_true (by kernel_rfl)) (by unfold Func.isWrapper; first | (rw [if_pos (by decide +kernel)]; kernel_rfl) | (rw [if_neg (by decide +kernel)]; exact ⟨rfl, rfl⟩))
    (fun os started H enc _ => lifted os started H enc)
end Go.Proofs.Ytneikamjlbfglaa.netKeeps
