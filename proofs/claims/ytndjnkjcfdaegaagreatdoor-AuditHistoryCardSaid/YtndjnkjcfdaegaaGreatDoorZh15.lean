/-
  Texts in one: DkF, DkTot. No conditions of their own.
-/
import Derived.Test.YtndjnkjcfdaegaaGreatDoorZh14
set_option linter.all false

/-
  disk.Crash, Copy. No conditions of their own.
-/
namespace Go.Proofs.YtndjnkjcfdaegaaGreatDoor
open Go.RowKit Go.Sort Go.Maps

section
variable {w : World} {p b : Nat} {fs : Fs} {room : Int} {dead : Bool}

theorem encStr_is (l : List UInt8) : Proofs.encStr l = .string ⟨l.toArray⟩ := rfl
/-- the k-th name in a row of names -/
theorem name_cell {w : World} {base g cap : Nat} {fs : Fs} (h : OwnStr w base (.slice (some ⟨g, 0, none⟩) fs.length cap) fs.length (namesOf fs)) (k : Nat) (hk : k < fs.length) : w.cell? ⟨g, k, none⟩ = some (.string ⟨fs[k].1.toArray⟩) := by
  have := h.cellAt k (by omega)
  rw [this]
  simp [namesOf, encStr_is, hk]
theorem row_some {w : World} {base : Nat} {v : Value} {fs : Fs} (h : OwnStr w base v fs.length (namesOf fs)) (hk : 0 < fs.length) : ∃ g cap, v = .slice (some ⟨g, 0, none⟩) fs.length cap ∧ base ≤ g ∧ g < w.heap.size := by
  rcases h.2 with ⟨_, h0⟩ | ⟨g, cap, cur, hv, hb, hg, _⟩
  · omega
  · exact ⟨g, cap, hv, hb, (Array.getElem?_eq_some_iff.1 hg).1⟩

set_option maxRecDepth 100000 in
set_option maxHeartbeats 2000000 in
theorem crash_any (hd : DiskAt w p b fs room dead) (keep : Int) : Calls Tryz.prog 11 #[dP p, .int .i64 keep] w fun e w' => e = .returned (.tuple #[]) ∧ DiskAt w' p b (fs.map (crashP keep)) 4611686018427387904 false ∧ Keeps (Two p b) w w' := by
  have c1 := hd.cell1
  have c2 := hd.cell2
  have f1 := hd.opened.frozen 1
  have f2 := hd.opened.frozen 2
  have D0 := Lib.hid ((hd.setRoom 4611686018427387904 (by omega) (by omega)).setDead false)
  have K0 : Hid (Keeps (Two p b) w ((w.setCell ⟨p, 1, none⟩ (.int .i64 4611686018427387904)).setCell ⟨p, 2, none⟩ (.bool false))) := ((Keeps.refl (S := Two p b) w).setCell (p := ⟨p, 1, none⟩) (fun _ => .inl rfl) _).setCell (p := ⟨p, 2, none⟩) (fun _ => .inl rfl) _
  have Hris := Lib.hid hd.rising
  have Hok := Lib.hid hd.ok
  have Hnm := Lib.hid hd.nm
  have Hfew := Lib.hid hd.few
  have Hlt := Lib.hid hd.lt
  clear hd
  go_enter Tryz.func11, Tryz.ntmps11
  go_wp2_with fail
  refine (files_any D0.out).mono ?_
  rintro e w1 ⟨v, rfl, hv, hk1⟩
  have D1 := Lib.hid (D0.out.kept hk1 (fun h => h) (fun h => h))
  have K1 : Hid (Keeps (Two p b) w w1) := K0.out.trans hk1 (fun _ _ h => h.elim)
  have Hv : Hid (OwnStr w1 w.heap.size v fs.length (namesOf fs)) := Lib.hid (by simpa using hv)
  obtain ⟨va, vc, rfl⟩ := ownsRow_slice Hv.out
  clear hk1 hv c1 c2 f1 f2 D0 K0
  go_wp2
  go_loopw [19] (fun q wr => ∃ k : Nat, k ≤ fs.length ∧ q = .int .i64 k ∧ DiskAt wr p b ((fs.take k).map (crashP keep) ++ fs.drop k) 4611686018427387904 false ∧ OwnStr wr w.heap.size (.slice va fs.length vc) fs.length (namesOf fs) ∧ Keeps (Two p b) w wr) (fun q _ => fs.length - (intOf q).toNat)
  case atStart => exact ⟨0, Nat.zero_le _, rfl, by simpa using D1.out, Hv.out, K1.out⟩
  case round =>
    obtain ⟨k, hk, rfl, hD, hV, hK⟩ := hrel
    by_cases hlt : k < fs.length
    · obtain ⟨hg, hp⟩ := crash_step keep Hris.out k hlt
      have hnm := Hnm.out _ (List.getElem_mem hlt)
      have hokf := Hok.out _ (List.getElem_mem hlt)
      obtain ⟨g, cap, hvv, hgb, hgl⟩ := row_some hV (by omega)
      simp only [Value.slice.injEq, true_and] at hvv
      obtain ⟨rfl, rfl⟩ := hvv
      have cn := name_cell hV k hlt
      obtain ⟨x, hx⟩ : ∃ x, x = fs[k] := ⟨_, rfl⟩
      rw [← hx] at hg hp hnm hokf cn
      clear hx
      obtain ⟨nm, f⟩ := x
      have hC := crashK_le keep hokf.2
      have hok2 := crashF_ok keep hokf
      dsimp only at cn hokf hnm hp hg hC hok2
      have hlenk := crash_length keep fs k hk
      generalize (fs.take k).map (crashP keep) ++ fs.drop k = fsk at hD hg hp hlenk
      obtain ⟨C, hCe⟩ : ∃ C, C = crashK keep f := ⟨_, rfl⟩
      have hcf : crashF keep f = ⟨f.s.extract 0 C, C⟩ := by rw [hCe]; rfl
      rw [hcf] at hp hok2
      rw [← hCe] at hC
      obtain ⟨Dn, hDn⟩ : ∃ Dn : Nat, (Dn : Int) = (f.s.size : Int) - (f.k : Int) := ⟨f.s.size - f.k, by have := hokf.2; omega⟩
      have hw1 : IntKind.i64.wrap ((f.s.size : Int) - (f.k : Int)) = (Dn : Int) := by have := hokf.1; have := hokf.2; rw [IntKind.wrap_i64]; omega
      have hCv : (C : Int) = (f.k : Int) + max 0 (min keep (Dn : Int)) := by rw [hCe, hDn]; unfold crashK; omega
      have hC0 : (0 : Int) ≤ (C : Int) := by omega
      have hC1 : (C : Int) ≤ (f.s.size : Int) := by omega
      have hki : (k : Int) < (fs.length : Int) := by omega
      have hk0 : (0 : Int) ≤ (k : Int) := by omega
      have hk64 : (k : Int) ≤ 64 := by have := Hfew.out; omega
      have Hp := Lib.hid hp
      have Hok2 := Lib.hid hok2
      have Hlenk := Lib.hid hlenk
      have HD := Lib.hid hD
      have HV := Lib.hid hV
      have HK := Lib.hid hK
      have Hnmx : Hid (nm.length ≤ 32) := hnm
      have Hb : Hid (f.s.size ≤ 4194304) := hokf.1
      have c0 := hD.cell0
      have lp := hD.lt.1
      have lb := Lib.hid hD.lt.2
      have hw2 : wrap64 ((f.k : Int) + max 0 (min keep (Dn : Int))) = (C : Int) := by
        have := hokf.1
        rw [← hCv]
        exact IntWalk.wrap64_in _ ⟨by omega, by omega⟩
      clear hp hok2 hlenk hD hV hK hnm hokf hCe hcf hDn hCv hC hlt hk Hv
      go_wp2_with (at_lookup; refine wpList_files_one rfl _ _ rfl HD.out.own rfl ⟨nm.toArray⟩ rfl (by show nm.length ≤ maxLen; have := Hnmx.out; unfold maxLen; omega) f hg ?_)
      refine wp_world ?_
      intro W hW
      have KW : Hid (Keeps No wr W) := by rw [hW]; exact (Keeps.refl (S := No) wr).alloc _
      have DW : Hid (DiskAt W p b fsk 4611686018427387904 false) := HD.out.kept KW.out (fun h => h) (fun h => h)
      have cW : W.heap[wr.heap.size]? = some (.cells #[.string f.s, .int .i64 f.k] 85 (0, 0)) := by rw [hW]; exact heap_alloc_new _ _
      have cA : W.cell? ⟨wr.heap.size, 0, none⟩ = some (.string f.s) := by simp [World.cell?, cW]
      have c0W := DW.out.cell0
      clear hW cW c0 lp cn
      go_still_tail 11, (by kernel_rfl)
      change wpList _ _ _ _ _ (World.drew _)
      refine wpList_files_put rfl (.tmp 44) (.tmp 45) (.tmp 51) rfl DW.out.drew.own DW.out.few rfl ⟨nm.toArray⟩ rfl (by show nm.length ≤ maxLen; have := Hnmx.out; unfold maxLen; omega) ⟨f.s.extract 0 C, C⟩ rfl ?_
      intro w2 ho2 hk2
      have hle : (putF fsk nm ⟨f.s.extract 0 C, C⟩).length ≤ 64 := by rw [Hp.out, crash_length keep fs (k + 1) (by omega)]; exact Hfew.out
      have hoks := DW.out.putF_ok (n := ⟨nm.toArray⟩) (f := ⟨f.s.extract 0 C, C⟩) Hnmx.out Hok2.out
      have D2 := Lib.hid (DW.out.drew.turned hk2 ho2 hle hoks.1 hoks.2)
      have K2 : Hid (Keeps (Own b) wr w2) := ((KW.out.mono (T := Own b) (fun _ _ h => h.elim)).drew).trans hk2 (fun _ _ h => h)
      clear ho2 hk2 hle hoks
      go_wp2
      go_roundw
      case rel =>
        refine ⟨k + 1, by omega, by go_num, ?_, K2.out.owns HV.out (fun j hj hS => by have hS' : j = b := hS; have : g = j := Option.some.inj hj; have := Hlt.out.2; omega), HK.out.trans K2.out (fun i _ h => .inr h)⟩
        have h := D2.out
        have e : putF fsk (⟨nm.toArray⟩ : ByteArray).data.toList ⟨f.s.extract 0 C, C⟩ = (fs.take (k + 1)).map (crashP keep) ++ fs.drop (k + 1) := Hp.out
        rw [e] at h
        exact h
      case measure => simp [intOf]; omega
    · have hkk : k = fs.length := by omega
      subst hkk
      have hfin : Hid (DiskAt wr p b (fs.map (crashP keep)) 4611686018427387904 false) := Lib.hid (by simpa using hD)
      clear hD
      go_wp2
      refine bodyPost_end (results_none rfl _ _ _) rfl ?_
      exact ⟨rfl, hfin.out, hK⟩

theorem take_put {fs : Fs} (hr : Rising fs) (k : Nat) (hk : k < fs.length) : putF (fs.take k) fs[k].1 fs[k].2 = fs.take (k + 1) := by
  have h := hr
  rw [← List.take_append_drop k fs, List.drop_eq_getElem_cons hk] at h
  obtain ⟨h1, _⟩ := rising_mid h
  have := putF_new (A := fs.take k) (B := []) (n := fs[k].1) (f := fs[k].2) h1 (by simp)
  rw [List.append_nil] at this
  rw [this, List.take_succ_eq_append_getElem hk]
theorem get_at {fs : Fs} (hr : Rising fs) (k : Nat) (hk : k < fs.length) : getF fs fs[k].1 = some fs[k].2 := by
  have h := hr
  rw [← List.take_append_drop k fs, List.drop_eq_getElem_cons hk] at h
  have := getF_mid (A := fs.take k) (B := fs.drop (k + 1)) (n := fs[k].1) (f := fs[k].2) h
  rw [← List.drop_eq_getElem_cons hk, List.take_append_drop] at this
  exact this
theorem look_run {w : World} {p b : Nat} {fs : Fs} {room : Int} {dead : Bool} (hd : DiskAt w p b fs room dead) (n : ByteArray) (hn : n.size ≤ maxLen) (f : Fi) (hf : getF fs n.data.toList = some f) : (Instr.lookup 54 (.map (some b)) (.string n) false).run Tryz.prog w = .ok (fV f) w := by
  obtain ⟨v, ps, hrun, hv⟩ := hd.own.lookup Tryz.keyed Tryz.underlying54 (Tryz.zeroFile w) (fileElem_mk Fi.none) (WideMaps.keyOf_string_mk Tryz.underlying9 hn)
  rw [dOf_at hf] at hv
  rw [fileElem_inv hv] at hrun
  exact hrun

set_option maxRecDepth 100000 in
set_option maxHeartbeats 2000000 in
theorem copy_any (hd : DiskAt w p b fs room dead) : Calls Tryz.prog 31 #[dP p] w fun e w' => e = .returned (dP (w.heap.size + 1)) ∧ DiskAt w' (w.heap.size + 1) w.heap.size fs room dead ∧ Keeps No w w' := by
  have Hris := Lib.hid hd.rising
  have Hok := Lib.hid hd.ok
  have Hnm := Lib.hid hd.nm
  have Hfew := Lib.hid hd.few
  have Hlt := Lib.hid hd.lt
  have Hr := Lib.hid (And.intro hd.r0 hd.r1)
  have Hd := Lib.hid hd
  clear hd
  go_enter Tryz.func31, Tryz.ntmps31
  go_wp2_with fail
  refine (new_any w).mono ?_
  rintro e w1 ⟨rfl, hq, hk1⟩
  have D1 := Lib.hid (Hd.out.kept hk1 (fun h => h) (fun h => h))
  have Q1 := Lib.hid hq
  have K1 := Lib.hid hk1
  have Lq := Lib.hid hq.lt.1
  have c1 := D1.out.cell1
  have c2 := D1.out.cell2
  have q1 := hq.cell1
  have q2 := hq.cell2
  have f1 := hq.opened.frozen 1
  have f2 := hq.opened.frozen 2
  have n1 : ¬ p = w.heap.size + 1 := by have := Hlt.out.1; omega
  have n2 : ¬ w.heap.size + 1 = p := by have := Hlt.out.1; omega
  clear hq hk1
  go_wp2_with fail
  go_region
  all_goals
    have Q2 := Lib.hid ((Q1.out.setRoom room Hr.out.1 Hr.out.2).setDead dead)
    have D2 : Hid (DiskAt ((w1.setCell ⟨w.heap.size + 1, 1, none⟩ (.int .i64 room)).setCell ⟨w.heap.size + 1, 2, none⟩ (.bool dead)) p b fs room dead) := D1.out.kept (((Keeps.refl (S := Own (w.heap.size + 1)) w1).setCell (p := ⟨w.heap.size + 1, 1, none⟩) (fun _ => (rfl : w.heap.size + 1 = _)) _).setCell (p := ⟨w.heap.size + 1, 2, none⟩) (fun _ => (rfl : w.heap.size + 1 = _)) _) (fun h => n1 h) (fun h => by have h' : b = w.heap.size + 1 := h; have := Hlt.out.2; omega)
    have K2 : Hid (Keeps No w ((w1.setCell ⟨w.heap.size + 1, 1, none⟩ (.int .i64 room)).setCell ⟨w.heap.size + 1, 2, none⟩ (.bool dead))) := (K1.out.setCell (p := ⟨w.heap.size + 1, 1, none⟩) (fun h => by have h' : w.heap.size + 1 < w.heap.size := h; omega) _).setCell (p := ⟨w.heap.size + 1, 2, none⟩) (fun h => by have h' : w.heap.size + 1 < w.heap.size := h; omega) _
    go_wp2_with fail
    refine (files_any D2.out.drew).mono ?_
    rintro e w2 ⟨v, rfl, hv, hk2⟩
    have D3 := Lib.hid (D2.out.drew.kept hk2 (fun h => h) (fun h => h))
    have Q3 := Lib.hid (Q2.out.drew.kept hk2 (fun h => h) (fun h => h))
    have K3 : Hid (Keeps No w w2) := (K2.out.drew).trans hk2 (fun _ _ h => h)
    have Hv : Hid (OwnStr w2 w1.heap.size v fs.length (namesOf fs)) := Lib.hid (by simpa using hv)
    obtain ⟨va, vc, rfl⟩ := ownsRow_slice Hv.out
    clear hk2 hv c1 c2 q1 q2 f1 f2 D1 Q1 D2 Q2
    go_wp2
    go_loopw [26] (fun q wr => ∃ k : Nat, k ≤ fs.length ∧ q = .int .i64 k ∧ DiskAt wr (w.heap.size + 1) w.heap.size (fs.take k) room dead ∧ DiskAt wr p b fs room dead ∧ OwnStr wr w1.heap.size (.slice va fs.length vc) fs.length (namesOf fs) ∧ Keeps No w wr) (fun q _ => fs.length - (intOf q).toNat)
    case atStart => exact ⟨0, Nat.zero_le _, rfl, by simpa using Q3.out, D3.out, Hv.out, K3.out⟩
    case round =>
      obtain ⟨k, hk, rfl, hQ, hD, hV, hK⟩ := hrel
      by_cases hlt : k < fs.length
      · have hp := take_put Hris.out k hlt
        have hg := get_at Hris.out k hlt
        have hnm := Hnm.out _ (List.getElem_mem hlt)
        have hokf := Hok.out _ (List.getElem_mem hlt)
        obtain ⟨g, cap, hvv, hgb, hgl⟩ := row_some hV (by omega)
        simp only [Value.slice.injEq, true_and] at hvv
        obtain ⟨rfl, rfl⟩ := hvv
        have cn := name_cell hV k hlt
        obtain ⟨x, hx⟩ : ∃ x, x = fs[k] := ⟨_, rfl⟩
        rw [← hx] at hg hp hnm hokf cn
        clear hx
        obtain ⟨nm, f⟩ := x
        dsimp only at cn hokf hnm hp hg
        have hki : (k : Int) < (fs.length : Int) := by omega
        have hk0 : (0 : Int) ≤ (k : Int) := by omega
        have hk64 : (k : Int) ≤ 64 := by have := Hfew.out; omega
        have Hp := Lib.hid hp
        have Hokf := Lib.hid hokf
        have HD := Lib.hid hD
        have HQ := Lib.hid hQ
        have HV := Lib.hid hV
        have HK := Lib.hid hK
        have Hnmx : Hid (nm.length ≤ 32) := hnm
        have Hgb : Hid (w1.heap.size ≤ g ∧ w.heap.size + 1 < w1.heap.size) := ⟨hgb, Lq.out⟩
        have c0 := hD.cell0
        have q0 := hQ.cell0
        have hlk : (Instr.lookup 54 (.map (some b)) (.string ⟨nm.toArray⟩) false).run Tryz.prog wr.drew = .ok (fV f) wr.drew := look_run hD.drew ⟨nm.toArray⟩ (by show nm.length ≤ maxLen; have := Hnmx.out; unfold maxLen; omega) f hg
        clear hp hD hQ hV hK hnm hokf hlt hk Hv
        go_wp2_with fail
        go_still_tail 11, (by kernel_rfl)
        change wpList _ _ _ _ _ (World.drew _)
        refine wpList_files_put rfl (.tmp 33) (.tmp 34) (.tmp 40) rfl HQ.out.drew.own HQ.out.few rfl ⟨nm.toArray⟩ rfl (by show nm.length ≤ maxLen; have := Hnmx.out; unfold maxLen; omega) f rfl ?_
        intro w3 ho3 hk3
        have hle : (putF (fs.take k) nm f).length ≤ 64 := by rw [Hp.out]; have := Hfew.out; simp; omega
        have hoks := HQ.out.putF_ok (n := ⟨nm.toArray⟩) (f := f) Hnmx.out Hokf.out
        have Q4 := Lib.hid (HQ.out.drew.turned hk3 ho3 hle hoks.1 hoks.2)
        have K4 : Hid (Keeps (Own w.heap.size) wr w3) := ((Keeps.refl (S := Own w.heap.size) wr).drew).trans hk3 (fun _ _ h => h)
        clear ho3 hk3 hle hoks
        go_wp2
        go_roundw
        case rel =>
          refine ⟨k + 1, by omega, by go_num, ?_, HD.out.kept K4.out (fun h => by have h' : p = w.heap.size := h; have := Hlt.out.1; omega) (fun h => by have h' : b = w.heap.size := h; have := Hlt.out.2; omega), K4.out.owns HV.out (fun j hj hS => by have hS' : j = w.heap.size := hS; have : g = j := Option.some.inj hj; have := Hgb.out; omega), HK.out.trans K4.out (fun i hi h => by have h' : i = w.heap.size := h; omega)⟩
          have h := Q4.out
          have e : putF (fs.take k) (⟨nm.toArray⟩ : ByteArray).data.toList f = fs.take (k + 1) := Hp.out
          rw [e] at h
          exact h
        case measure => simp [intOf]; omega
      · have hkk : k = fs.length := by omega
        subst hkk
        have hfin : Hid (DiskAt wr (w.heap.size + 1) w.heap.size fs room dead) := Lib.hid (by simpa using hQ)
        clear hQ hD hV
        go_wp2
        go_ret
        exact ⟨rfl, hfin.out, hK⟩
end
end Go.Proofs.YtndjnkjcfdaegaaGreatDoor

/-
  A disk as data, and what each method makes of it, whole: each method's contract in one piece. No conditions of its own.
-/
namespace Go.Proofs.YtndjnkjcfdaegaaGreatDoor
open Go.RowKit

/-- a disk: its files, what more it takes, and whether it is dead -/
structure Ds where
  fs : Fs
  room : Int
  dead : Bool
abbrev DAt (w : World) (p b : Nat) (d : Ds) : Prop := DiskAt w p b d.fs d.room d.dead
abbrev Ds.with (d : Ds) (fs : Fs) : Ds := ⟨fs, d.room, d.dead⟩
def Ds.new : Ds := ⟨[], 4611686018427387904, false⟩
def Ds.sync (d : Ds) (n : ByteArray) : Int × Ds :=
  bif (openE d.fs d.dead n).2 == 0 then (0, d.with (putF d.fs n.data.toList ⟨(openE d.fs d.dead n).1.s, (openE d.fs d.dead n).1.s.size⟩)) else ((openE d.fs d.dead n).2, d)
def Ds.append (d : Ds) (n s : ByteArray) : Int × Ds :=
  bif (openE d.fs d.dead n).2 == 1 || (openE d.fs d.dead n).2 == 12 then ((openE d.fs d.dead n).2, d) else
  bif ((openE d.fs d.dead n).2 == 6 && decide (64 ≤ d.fs.length)) || decide (4194304 < (openE d.fs d.dead n).1.s.size + s.size) then (8, d) else
  bif decide ((s.size : Int) ≤ d.room) then (0, ⟨putF d.fs n.data.toList (withS (openE d.fs d.dead n).1 s), d.room - s.size, false⟩) else
  (12, ⟨putF d.fs n.data.toList (withS (openE d.fs d.dead n).1 (s.extract 0 d.room.toNat)), 0, true⟩)
def Ds.truncate (d : Ds) (n : ByteArray) (k : Int) : Int × Ds :=
  bif (openE d.fs d.dead n).2 == 0 then
    (bif decide (k < 0) || decide (((openE d.fs d.dead n).1.s.size : Int) < k) then (5, d) else
      (0, d.with (putF d.fs n.data.toList ⟨(openE d.fs d.dead n).1.s.extract 0 k.toNat, min (openE d.fs d.dead n).1.k k.toNat⟩)))
  else ((openE d.fs d.dead n).2, d)
def Ds.remove (d : Ds) (n : ByteArray) : Int × Ds :=
  bif (openE d.fs d.dead n).2 == 0 then (0, d.with (delF d.fs n.data.toList)) else ((openE d.fs d.dead n).2, d)
def Ds.crash (d : Ds) (keep : Int) : Ds := ⟨d.fs.map (crashP keep), 4611686018427387904, false⟩

section
variable {w : World} {p b : Nat} {d : Ds}

theorem new_tot (w : World) : Calls Tryz.prog 5 #[] w fun e w' => e = .returned (dP (w.heap.size + 1)) ∧ DAt w' (w.heap.size + 1) w.heap.size Ds.new ∧ Keeps No w w' := new_any w
theorem sync_tot (hd : DAt w p b d) (n : ByteArray) (ec : Int) (d' : Ds) (hE : d.sync n = (ec, d')) : Calls Tryz.prog 45 #[dP p, .string n] w fun e w' => e = .returned (.int .i64 ec) ∧ DAt w' p b d' ∧ Keeps (Two p b) w w' := by
  unfold Ds.sync at hE
  rcases openE_cases d.fs d.dead n with h | ⟨h0, h, h1, h2⟩ | ⟨h0, h, hg, h1, h2⟩ | ⟨f, h0, h, hg, h1, h2⟩
  all_goals
    rw [h] at hE
    dsimp only at hE
  · obtain ⟨rfl, rfl⟩ := Prod.mk.inj hE
    exact (sync_err hd n _ _ h rfl).mono fun e w' ⟨he, hk⟩ => ⟨he, hd.kept hk (fun h => h) (fun h => h), hk.mono fun _ _ h => h.elim⟩
  · obtain ⟨rfl, rfl⟩ := Prod.mk.inj hE
    exact (sync_err hd n _ _ h rfl).mono fun e w' ⟨he, hk⟩ => ⟨he, hd.kept hk (fun h => h) (fun h => h), hk.mono fun _ _ h => h.elim⟩
  · obtain ⟨rfl, rfl⟩ := Prod.mk.inj hE
    exact (sync_err hd n _ _ h rfl).mono fun e w' ⟨he, hk⟩ => ⟨he, hd.kept hk (fun h => h) (fun h => h), hk.mono fun _ _ h => h.elim⟩
  · obtain ⟨rfl, rfl⟩ := Prod.mk.inj hE
    exact (sync_ok hd n f h hg h2).mono fun e w' ⟨he, h', hk⟩ => ⟨he, h', hk.mono fun _ _ h => .inr h⟩

theorem append_tot (hd : DAt w p b d) (n s : ByteArray) (ec : Int) (d' : Ds) (hE : d.append n s = (ec, d')) : Calls Tryz.prog 38 #[dP p, .string n, .string s] w fun e w' => e = .returned (.int .i64 ec) ∧ DAt w' p b d' ∧ Keeps (Two p b) w w' := by
  obtain ⟨fs, room, dead⟩ := d
  have hd : DiskAt w p b fs room dead := hd
  unfold Ds.append at hE
  rcases openE_cases fs dead n with h | ⟨h0, h, h1, h2⟩ | ⟨h0, h, hg, h1, h2⟩ | ⟨f, h0, h, hg, h1, h2⟩
  all_goals
    dsimp only at hE
    rw [h] at hE
    dsimp only at hE
  · obtain ⟨rfl, rfl⟩ := Prod.mk.inj hE
    exact (append_err hd n s _ _ h (.inl rfl)).mono fun e w' ⟨he, hk⟩ => ⟨he, hd.kept hk (fun h => h) (fun h => h), hk.mono fun _ _ h => h.elim⟩
  · obtain ⟨rfl, rfl⟩ := Prod.mk.inj hE
    exact (append_err hd n s _ _ h (.inr rfl)).mono fun e w' ⟨he, hk⟩ => ⟨he, hd.kept hk (fun h => h) (fun h => h), hk.mono fun _ _ h => h.elim⟩
  · subst h0
    have e1 : (((6 : Int) == 1 || (6 : Int) == 12) : Bool) = false := rfl
    rw [e1, cond_false] at hE
    by_cases h64 : 64 ≤ fs.length
    · rw [decide_eq_true h64] at hE
      obtain ⟨rfl, rfl⟩ := Prod.mk.inj hE
      exact (append_full1 hd n s _ _ h rfl h64).mono fun e w' ⟨he, hk⟩ => ⟨he, hd.kept hk (fun h => h) (fun h => h), hk.mono fun _ _ h => h.elim⟩
    · by_cases hb : 4194304 < Fi.none.s.size + s.size
      · rw [decide_eq_false h64, decide_eq_true hb, Bool.and_false, Bool.false_or, cond_true] at hE
        obtain ⟨rfl, rfl⟩ := Prod.mk.inj hE
        exact (append_full2 hd n s _ _ h (.inr ⟨rfl, by show fs.length < 64; omega⟩) (by decide) (by omega)).mono fun e w' ⟨he, hk⟩ => ⟨he, hd.kept hk (fun h => h) (fun h => h), hk.mono fun _ _ h => h.elim⟩
      · rw [decide_eq_false h64, decide_eq_false hb, Bool.and_false, Bool.false_or, cond_false] at hE
        have hfew : ∀ g, (putF fs n.data.toList g).length ≤ 64 := fun g => Nat.le_trans (putF_length_le fs _ g) (by omega)
        by_cases hr : (s.size : Int) ≤ room
        · rw [decide_eq_true hr, cond_true] at hE
          obtain ⟨rfl, rfl⟩ := Prod.mk.inj hE
          exact append_all hd n s _ _ h (.inr ⟨rfl, by omega⟩) h2 ⟨by decide, by decide⟩ (by omega) hr (hfew _)
        · rw [decide_eq_false hr, cond_false] at hE
          obtain ⟨rfl, rfl⟩ := Prod.mk.inj hE
          have h0 := hd.r0
          obtain ⟨M, rfl⟩ := Int.eq_ofNat_of_zero_le h0
          exact append_part (M := M) (fs := fs) hd n s _ _ h (.inr ⟨rfl, by omega⟩) h2 ⟨by decide, by decide⟩ (by omega) (by show (M : Int) < _; omega) (hfew _)
  · subst h0
    have e1 : (((0 : Int) == 1 || (0 : Int) == 12) : Bool) = false := rfl
    rw [e1, cond_false] at hE
    have e2 : ((0 : Int) == 6) = false := rfl
    rw [e2, Bool.false_and, Bool.false_or] at hE
    have hf := hd.get_ok hg
    by_cases hb : 4194304 < f.s.size + s.size
    · rw [decide_eq_true hb, cond_true] at hE
      obtain ⟨rfl, rfl⟩ := Prod.mk.inj hE
      exact (append_full2 hd n s _ _ h (.inl rfl) hf.1 (by omega)).mono fun e w' ⟨he, hk⟩ => ⟨he, hd.kept hk (fun h => h) (fun h => h), hk.mono fun _ _ h => h.elim⟩
    · rw [decide_eq_false hb, cond_false] at hE
      have hfew : ∀ g, (putF fs n.data.toList g).length ≤ 64 := fun g => Nat.le_trans (putF_length_some hg) hd.few
      by_cases hr : (s.size : Int) ≤ room
      · rw [decide_eq_true hr, cond_true] at hE
        obtain ⟨rfl, rfl⟩ := Prod.mk.inj hE
        exact append_all hd n s _ _ h (.inl rfl) h2 hf (by omega) hr (hfew _)
      · rw [decide_eq_false hr, cond_false] at hE
        obtain ⟨rfl, rfl⟩ := Prod.mk.inj hE
        have h0 := hd.r0
        obtain ⟨M, rfl⟩ := Int.eq_ofNat_of_zero_le h0
        exact append_part (M := M) (fs := fs) hd n s _ _ h (.inl rfl) h2 hf (by omega) (by show (M : Int) < _; omega) (hfew _)

theorem truncate_tot (hd : DAt w p b d) (n : ByteArray) (k : Int) (ec : Int) (d' : Ds) (hE : d.truncate n k = (ec, d')) : Calls Tryz.prog 42 #[dP p, .string n, .int .i64 k] w fun e w' => e = .returned (.int .i64 ec) ∧ DAt w' p b d' ∧ Keeps (Two p b) w w' := by
  unfold Ds.truncate at hE
  rcases openE_cases d.fs d.dead n with h | ⟨h0, h, h1, h2⟩ | ⟨h0, h, hg, h1, h2⟩ | ⟨f, h0, h, hg, h1, h2⟩
  all_goals
    rw [h] at hE
    dsimp only at hE
  · obtain ⟨rfl, rfl⟩ := Prod.mk.inj hE
    exact (truncate_err hd n k _ _ h rfl).mono fun e w' ⟨he, hk⟩ => ⟨he, hd.kept hk (fun h => h) (fun h => h), hk.mono fun _ _ h => h.elim⟩
  · obtain ⟨rfl, rfl⟩ := Prod.mk.inj hE
    exact (truncate_err hd n k _ _ h rfl).mono fun e w' ⟨he, hk⟩ => ⟨he, hd.kept hk (fun h => h) (fun h => h), hk.mono fun _ _ h => h.elim⟩
  · obtain ⟨rfl, rfl⟩ := Prod.mk.inj hE
    exact (truncate_err hd n k _ _ h rfl).mono fun e w' ⟨he, hk⟩ => ⟨he, hd.kept hk (fun h => h) (fun h => h), hk.mono fun _ _ h => h.elim⟩
  · have e1 : ((0 : Int) == 0) = true := rfl
    rw [e1, cond_true] at hE
    by_cases hb : k < 0 ∨ (f.s.size : Int) < k
    · have hb2 : (decide (k < 0) || decide ((f.s.size : Int) < k)) = true := by simpa using hb
      rw [hb2, cond_true] at hE
      obtain ⟨rfl, rfl⟩ := Prod.mk.inj hE
      exact (truncate_range hd n k _ _ h rfl hb).mono fun e w' ⟨he, hk⟩ => ⟨he, hd.kept hk (fun h => h) (fun h => h), hk.mono fun _ _ h => h.elim⟩
    · have hb2 : (decide (k < 0) || decide ((f.s.size : Int) < k)) = false := by simpa using hb
      rw [hb2, cond_false] at hE
      obtain ⟨rfl, rfl⟩ := Prod.mk.inj hE
      obtain ⟨K, rfl⟩ := Int.eq_ofNat_of_zero_le (show 0 ≤ k by omega)
      exact (truncate_ok hd n f h hg h2 K (by omega)).mono fun e w' ⟨he, h', hk⟩ => ⟨he, h', hk.mono fun _ _ h => .inr h⟩

theorem remove_tot (hd : DAt w p b d) (n : ByteArray) (ec : Int) (d' : Ds) (hE : d.remove n = (ec, d')) : Calls Tryz.prog 44 #[dP p, .string n] w fun e w' => e = .returned (.int .i64 ec) ∧ DAt w' p b d' ∧ Keeps (Two p b) w w' := by
  unfold Ds.remove at hE
  rcases openE_cases d.fs d.dead n with h | ⟨h0, h, h1, h2⟩ | ⟨h0, h, hg, h1, h2⟩ | ⟨f, h0, h, hg, h1, h2⟩
  all_goals
    rw [h] at hE
    dsimp only at hE
  · obtain ⟨rfl, rfl⟩ := Prod.mk.inj hE
    exact (remove_err hd n _ _ h rfl).mono fun e w' ⟨he, hk⟩ => ⟨he, hd.kept hk (fun h => h) (fun h => h), hk.mono fun _ _ h => h.elim⟩
  · obtain ⟨rfl, rfl⟩ := Prod.mk.inj hE
    exact (remove_err hd n _ _ h rfl).mono fun e w' ⟨he, hk⟩ => ⟨he, hd.kept hk (fun h => h) (fun h => h), hk.mono fun _ _ h => h.elim⟩
  · obtain ⟨rfl, rfl⟩ := Prod.mk.inj hE
    exact (remove_err hd n _ _ h rfl).mono fun e w' ⟨he, hk⟩ => ⟨he, hd.kept hk (fun h => h) (fun h => h), hk.mono fun _ _ h => h.elim⟩
  · obtain ⟨rfl, rfl⟩ := Prod.mk.inj hE
    exact (remove_ok hd n f h h2).mono fun e w' ⟨he, h', hk⟩ => ⟨he, h', hk.mono fun _ _ h => .inr h⟩
theorem crash_tot (hd : DAt w p b d) (keep : Int) : Calls Tryz.prog 11 #[dP p, .int .i64 keep] w fun e w' => e = .returned (.tuple #[]) ∧ DAt w' p b (d.crash keep) ∧ Keeps (Two p b) w w' := crash_any hd keep
end
end Go.Proofs.YtndjnkjcfdaegaaGreatDoor

