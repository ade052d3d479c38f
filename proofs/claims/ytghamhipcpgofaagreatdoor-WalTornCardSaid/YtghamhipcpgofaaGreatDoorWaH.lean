/-
  wal's All, Drop. No conditions of their own, but that the tables are laid.
-/
import Derived.Test.YtghamhipcpgofaaGreatDoorWaG
namespace Go.Proofs.YtghamhipcpgofaaGreatDoor
open Go.RowKit Go.Shelf Go.Sort Go.Joins

/-- the records of a log's segment -/
def Lg.recs (g : Lg) (d : Ds) (n : Nat) : List Nm := parse (d.look (g.file n)).s.data.toList
/-- all records of a log -/
def Lg.all (g : Lg) (d : Ds) : List Nm := g.firsts.flatMap (g.recs d)
theorem look_ok {w : World} {p b : Nat} {d : Ds} (h : DAt w p b d) (n : ByteArray) : FileOk (d.look n) := by
  unfold Ds.look
  rcases findE_cases d.fs n with hc | ⟨hc, _⟩ | ⟨f, hc, hg, _⟩
  · rw [hc]; exact ⟨by decide, by decide⟩
  · rw [hc]; exact ⟨by decide, by decide⟩
  · rw [hc]; exact h.get_ok hg
theorem parse_length (s : Nm) : (parse s).length * 7 ≤ s.length := Nat.le_trans (flen_len _) (parse_flen s)

section
variable {w : World} {base l p b : Nat} {v : Value} {g : Lg} {d : Ds}
theorem recs_length (h : DAt w p b d) (g : Lg) (n : Nat) : (g.recs d n).length * 7 ≤ 4194304 := by
  have h1 := (look_ok h (g.file n)).1
  have h2 := parse_length (d.look (g.file n)).s.data.toList
  have h3 : (d.look (g.file n)).s.data.toList.length = (d.look (g.file n)).s.size := by simp
  unfold Lg.recs
  omega
theorem flat_length (h : DAt w p b d) (g : Lg) : ∀ L : List Nat, (L.flatMap (g.recs d)).length ≤ L.length * 599187
  | [] => Nat.le_refl _
  | n :: L => by
    have h1 := recs_length h g n
    have h2 := flat_length h g L
    rw [List.flatMap_cons, List.length_append, List.length_cons]
    omega

set_option maxRecDepth 100000 in
set_option maxHeartbeats 4000000 in
theorem allLog_any (hL : Laid w base) (hb : base ≤ w.heap.size) (h : WLog w base l p b v g d) (hfl : g.firsts.length ≤ 1000000) :
    Calls Tryz.prog 23 #[dP l] w fun e w' => ∃ v', e = .returned v' ∧ OwnStr w' w.heap.size v' (g.all d).length (g.all d) ∧ Keeps No w w' := by
  obtain ⟨i0, hi, hz0, hz1, hz2⟩ := info_parts Tryz.infoStr
  have Hb := Lib.hid hb
  have H := Lib.hid h
  have HL := Lib.hid hL
  have hne : Hid (0 < g.firsts.length) := Lib.hid h.log.ne
  have hfew : Hid (∀ n ∈ g.firsts, n ≤ 4611686018427387904) := Lib.hid h.log.few
  have hnm : Hid ((g.name.size : Int) ≤ 1000) := Lib.hid (by have := h.log.nm; omega)
  have Hfl := Lib.hid hfl
  clear hb h hL hfl
  go_enter Tryz.func23, Tryz.ntmps23
  go_wp2_with fail
  refine (segs_any H.out.log Hfl.out).mono ?_
  rintro e w1 ⟨sv, rfl, hs1, hk1⟩
  have Hs1 := Lib.hid hs1
  have K1 := Lib.hid hk1
  obtain ⟨sa, sc, rfl⟩ := ownsRow_slice hs1
  have hlen : (g.firsts.length : Int) ≤ 1000000 := by have := Hfl.out; omega
  clear hs1 hk1
  go_wp2
  go_loopw [3, 13] (fun o q wr => ∃ k : Nat, k ≤ g.firsts.length ∧ q = .int .i64 k ∧ OwnStr wr w1.heap.size o ((g.firsts.take k).flatMap (g.recs d)).length ((g.firsts.take k).flatMap (g.recs d)) ∧ Keeps No w1 wr) (fun _ q _ => g.firsts.length - (intOf q).toNat)
  case atStart => exact ⟨0, Nat.zero_le _, rfl, World.ownsRow_nil _ _ _ _, Keeps.refl _⟩
  case round =>
    obtain ⟨k, hk, rfl, ho, hK⟩ := hrel
    by_cases hlt : k < g.firsts.length
    · have hrd : RdInts w1 (.slice sa g.firsts.length sc) g.firsts := Reads.ofOwn Hs1.out (fun u hu => intsV_one u _ hu)
      obtain ⟨q, off, c, he, _, _, _, hx⟩ := RdInts.cell hrd hne.out
      simp only [Value.slice.injEq, true_and] at he
      obtain ⟨rfl, rfl⟩ := he
      have hc := hK.cell (hx k _ (List.getElem?_eq_getElem hlt)) (fun h => h)
      have hfk := hfew.out _ (List.getElem_mem hlt)
      have hkw : Keeps No w wr := K1.out.trans hK (fun _ _ h => h)
      have htk : (g.firsts.take (k + 1)).flatMap (g.recs d) = (g.firsts.take k).flatMap (g.recs d) ++ g.recs d g.firsts[k] := by
        rw [List.take_succ_eq_append_getElem hlt, List.flatMap_append]
        simp
      have hol := flat_length H.out.disk g (g.firsts.take k)
      rw [List.length_take] at hol
      obtain ⟨F, hF⟩ : ∃ F, F = g.firsts[k] := ⟨_, rfl⟩
      rw [← hF] at hc hfk htk
      obtain ⟨L, hLe⟩ : ∃ L, L = (g.firsts.take k).flatMap (g.recs d) := ⟨_, rfl⟩
      rw [← hLe] at ho htk hol
      obtain ⟨oa, oc, rfl⟩ := ownsRow_slice ho
      have Ho := Lib.hid ho
      have HK := Lib.hid hK
      have Hw := Lib.hid hkw
      have HWr := Lib.hid (H.out.no hkw)
      have Lr := Lib.hid (HL.out.kept hkw (fun _ h => h.elim))
      have Htk := Lib.hid htk
      have Hol : Hid ((L.length : Int) ≤ 599187000000) := Lib.hid (by have := Hfl.out; omega)
      obtain ⟨⟨fx, fe⟩, hfind⟩ : ∃ x, findE d.fs (g.file F) = x := ⟨_, rfl⟩
      have hlook : d.look (g.file F) = fx := by unfold Ds.look; rw [hfind]
      have Hfx : Hid (fx.s.size ≤ 4194304) := Lib.hid (hlook ▸ (look_ok H.out.disk (g.file F)).1)
      have Hrec : Hid (g.recs d F = parse fx.s.data.toList) := Lib.hid (by unfold Lg.recs; rw [hlook])
      have Hfind := Lib.hid hfind
      have HFk := Lib.hid hfk
      have hk0 : (0 : Int) ≤ (k : Int) := by omega
      have hki : (k : Int) < (g.firsts.length : Int) := by omega
      have hk9 : (k : Int) + 1 ≤ 1000001 := by omega
      have c0 := HWr.out.log.cell0
      have c1 := HWr.out.log.cell1
      have hlr : l < wr.heap.size := HWr.out.log.lt
      clear hx hrd hfk hkw htk hol hF hLe ho hK hfind hlook
      go_wp2_with fail
      go_region_held3 (fun w' => w'.cell? ⟨l, 0, none⟩ = some (dP p)) (exact c0)
        (first
          | (go_at_call 43
             refine (file_any _ base (Lr.out.kept ((Keeps.refl (S := No) wr).drew) (fun _ h => h.elim)) l g.name hnm.out c1 F (by have := HFk.out; omega)).mono ?_
             rintro e w2 ⟨rfl, hk2⟩
             have K2 : Hid (Keeps No wr w2) := Lib.hid (((Keeps.refl (S := No) wr).drew).trans hk2 (fun _ _ h => h))
             have H2 := Lib.hid (HWr.out.no K2.out)
             have e0 := H2.out.log.cell0
             clear hk2 c0 c1
             have c0 := e0
             clear e0)
          | (go_at_call 14
             refine (read_any H2.out.disk _ fx fe Hfind.out).mono ?_
             rintro e w3 ⟨rfl, hk3⟩
             have K3 : Hid (Keeps No wr w3) := Lib.hid (K2.out.trans hk3 (fun _ _ h => h))
             have e0 := hk3.cell c0 (fun h => h)
             clear hk3 c0
             have c0 := e0
             clear e0))
      go_wp2_with fail
      refine (all_any _ base (Lr.out.kept K3.out (fun _ h => h.elim)) (by have := Hb.out; have := Hw.out.size; have := K3.out.size; omega) fx.s Hfx.out).mono ?_
      rintro e w4 ⟨rv, rfl, hr4, hk4⟩
      have K4 : Hid (Keeps No wr w4) := Lib.hid (K3.out.trans hk4 (fun _ _ h => h))
      have Hr4 : Hid (Reads w4 1 rv (parse fx.s.data.toList).length ((parse fx.s.data.toList).map encStr)) := Lib.hid (Reads.ofOwn hr4 (by intro u hu; obtain ⟨t, _, rfl⟩ := List.mem_map.1 hu; rfl))
      have Ho4 := Lib.hid (K4.out.owns Ho.out (fun _ _ h => h))
      obtain ⟨ra, rc, rfl⟩ := ownsRow_slice hr4
      have Hpl : Hid ((parse fx.s.data.toList).length * 7 ≤ 4194304) := Lib.hid (by have := parse_length fx.s.data.toList; have := Hfx.out; have e : fx.s.data.toList.length = fx.s.size := by simp
                                                                                    omega)
      clear hr4 hk4 K3 K2 H2 c0
      obtain ⟨R, hR⟩ : ∃ R, R = parse fx.s.data.toList := ⟨_, rfl⟩
      rw [← hR] at Hr4 Hpl Hrec ⊢
      clear hR
      have B1 : Hid (L.length + R.length ≤ maxLen) := Lib.hid (by have := Hol.out; have := Hpl.out; unfold maxLen; omega)
      have B2 : Hid ((L.length + R.length) * 16 ≤ 140737488355328) := Lib.hid (by have := Hol.out; have := Hpl.out; omega)
      have B3 : Hid (w1.heap.size ≤ w4.heap.size) := Lib.hid (by have := HK.out.size; have := K4.out.size; omega)
      go_wp2_with (at_builtin; refine wpList_append_reads rfl _ _ 22 rfl w1.heap.size 9 i0 (.string ⟨#[]⟩) 1 16 Tryz.underlying22 hi hz0 hz1 hz2 rfl (by decide) (.slice oa L.length oc) L.length (L.map encStr) rfl Ho4.out (.slice ra R.length rc) R.length (R.map encStr) rfl Hr4.out B1.out B2.out B3.out ?_; intro v' w5 ho5 hk5 _ _)
      have Ho5 := Lib.hid ho5
      have K5 : Hid (Keeps No w1 w5) := Lib.hid ((HK.out.trans K4.out (fun _ _ h => h)).trans hk5 (fun i hi hs => absurd hi (Nat.not_lt.2 (Ho4.out.lt i hs).1)))
      clear ho5 hk5
      go_wp2
      go_roundw
      case rel =>
        refine ⟨k + 1, by omega, by go_num, ?_, K5.out⟩
        unfold OwnStr
        rw [Htk.out, Hrec.out, List.length_append, List.map_append]
        exact Ho5.out
      case measure => simp [intOf]; omega
    · have hkk : k = g.firsts.length := by omega
      rw [hkk, List.take_length] at ho
      obtain ⟨oa, oc, rfl⟩ := ownsRow_slice ho
      have Ho := Lib.hid ho
      have HK := Lib.hid hK
      subst hkk
      clear ho hK
      go_wp2
      go_ret
      exact ⟨_, rfl, Ho.out.mono K1.out.size, K1.out.trans HK.out (fun _ _ h => h)⟩
end
end Go.Proofs.YtghamhipcpgofaaGreatDoor
