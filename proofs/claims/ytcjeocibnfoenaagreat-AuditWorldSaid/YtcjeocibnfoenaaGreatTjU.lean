/-
  audit.World and the document's World; a world and ticks among a law's arguments. No conditions of their own. The document's World. No conditions of its own.
-/
import Derived.Test.YtcjeocibnfoenaaGreatTjS
import Derived.Test.YtcjeocibnfoenaaGreatLaw
import Derived.Deep.Strs
namespace Go.Proofs.YtcjeocibnfoenaaGreat
open Go.ChangeShapes Go.WideShapes Go.ChangeAt Go.RowKit Go.Joins Go.Deep Go.Sort

/-- a tick's commands, as a slice has them -/
structure Tk where
  a : Option Addr
  c : Nat
  cs : List Cm
def cTk : Codec Tk := ⟨fun t => [.slice t.a t.cs.length t.c], 1, fun _ => rfl, fun a u h => by simp at h; rcases h with rfl; rfl, by decide⟩
/-- ticks read so -/
structure TksRead (w : World) (T : List Tk) : Prop where
  r : ∀ t ∈ T, RdOf cCm w (.slice t.a t.cs.length t.c) t.cs
  ok : ∀ t ∈ T, ∀ c ∈ t.cs, c.ok
theorem TksRead.no {w w' : World} {T : List Tk} (h : TksRead w T) (k : Keeps No w w') : TksRead w' T := ⟨fun t ht => (h.r t ht).kept k (fun _ _ h => h), h.ok⟩
def worldL (z : Zf) (T : List Tk) : List Bd := T.foldl (fun l t => runL z l t.cs) []
theorem worldL_succ (z : Zf) (T : List Tk) (k : Nat) (h : k < T.length) : worldL z (T.take (k + 1)) = runL z (worldL z (T.take k)) T[k].cs := by
  unfold worldL
  rw [List.take_succ_eq_append_getElem h, List.foldl_append]
  rfl
theorem worldL_good {z : Zf} (hz : z.ok) {T : List Tk} (hok : ∀ t ∈ T, ∀ c ∈ t.cs, c.ok) (hn : ∀ t ∈ T, t.cs.length ≤ 30) : ∀ k, k ≤ T.length → (worldL z (T.take k)).length ≤ 30 * k ∧ SortedB (worldL z (T.take k)) ∧ ∀ b ∈ worldL z (T.take k), b.ok := by
  intro k
  induction k with
  | zero => exact fun _ => ⟨Nat.le_refl _, List.Pairwise.nil, fun b hb => by cases hb⟩
  | succ k ih =>
    intro hk
    obtain ⟨h1, h2, h3⟩ := ih (by omega)
    have hm := List.getElem_mem (show k < T.length by omega)
    rw [worldL_succ z T k (by omega)]
    refine ⟨?_, runL_sorted h2, runL_ok hz (hok _ hm) h3⟩
    have h4 := runL_len z (worldL z (T.take k)) T[k].cs
    have h5 := hn _ hm
    omega

/-- what a world's entities are, as an answer -/
def WorldPost (w : World) (l : List Bd) (e : Ending) (w' : World) : Prop := ∃ (v : Value), e = .returned (.tuple #[v, .int .i64 0]) ∧ RdOf cBd w' v l ∧ Keeps No w w'
set_option maxRecDepth 100000 in
set_option maxHeartbeats 8000000 in
theorem aworld_any (w : World) (z : Zf) (hzf : zfOk z = true) (ta : Option Addr) (tc : Nat) (T : List Tk) (hT : RdOf cTk w (.slice ta T.length tc) T) (hr : TksRead w T) (hn : T.length ≤ 30) (hc : ∀ t ∈ T, t.cs.length ≤ 30) :
    Calls Tryz.prog 5 #[zfV z, .slice ta T.length tc] w (WorldPost w (worldL z T)) := by
  have hz := zfOk_ok hzf
  have HN := Lib.hid (fun W => mapNew_any W z hzf)
  have HZ := Lib.hid hz
  have HT := Lib.hid hT
  have HR := Lib.hid hr
  have HC := Lib.hid hc
  have HG := Lib.hid (worldL_good hz hr.ok hc)
  have hni : (T.length : Int) ≤ 30 := by omega
  have HL := Lib.hid hn
  clear hzf hz hT hr hc hn
  go_enter Tryz.func5, Tryz.ntmps5
  go_wp2_with fail
  refine (HN.out _).mono ?_
  rintro e w1 ⟨g, rfl, hg, hm, hk⟩
  have K1 : Hid (Keeps No w w1) := Lib.hid (((Keeps.refl w).alloc _).trans hk (fun _ _ h => h))
  have M1 := Lib.hid hm
  clear hg hm hk HN
  go_wp2_with fail
  go_loopw [8, 21] (fun o q wr => ∃ k : Nat, k ≤ T.length ∧ q = .int .i64 k ∧ RdOf cBd wr o (worldL z (T.take k)) ∧ Keeps No w1 wr) (fun _ q _ => T.length - (intOf q).toNat)
  case atStart => exact ⟨0, Nat.zero_le _, rfl, Reads.nil _ _, Keeps.refl _⟩
  case round =>
    obtain ⟨k, hkl, rfl, hO, hK⟩ := hrel
    obtain ⟨wo, hwo⟩ : ∃ x : World, x = wr := ⟨_, rfl⟩
    subst hwo
    have K := Lib.hid hK
    have O := Lib.hid hO
    have KF := Lib.hid (K1.out.trans hK (fun _ _ h => h))
    obtain ⟨oa, oc, rfl⟩ := hO.slice
    have hk0 : (0 : Int) ≤ (k : Int) := by omega
    clear hO hK
    by_cases hlt : k < T.length
    · have hlti : (k : Int) < (T.length : Int) := by omega
      have hrr : RdOf cTk wo (.slice ta T.length tc) T := HT.out.kept KF.out (fun _ _ h => h)
      obtain ⟨gt, off, rfl, _, _, _⟩ := RdOf.addr cTk hrr (by omega)
      have c1 := RdOf.at cTk hrr k hlt
      have hm := List.getElem_mem hlt
      have HS := Lib.hid (worldL_succ z T k hlt)
      have HG1 := Lib.hid (HG.out k hkl)
      have RT := Lib.hid ((HR.out.no KF.out).r _ hm)
      have OT := Lib.hid (HR.out.ok _ hm)
      have NT := Lib.hid (HC.out _ hm)
      obtain ⟨t, ht⟩ : ∃ t, t = T[k] := ⟨_, rfl⟩
      rw [← ht] at HS RT OT NT c1
      have t0 := cellsAt_cell c1 0 _ rfl
      have t1 : wo.cell? ⟨gt, off + k, none⟩ = some (.slice t.a t.cs.length t.c) := by
        have e : off + k * cTk.size + 0 = off + k := by show off + k * 1 + 0 = _; omega
        rw [e] at t0
        exact t0
      obtain ⟨lk, hlk⟩ : ∃ x, x = worldL z (T.take k) := ⟨_, rfl⟩
      rw [← hlk] at O HS HG1 ⊢
      clear c1 t0 hm ht hrr hlk
      go_wp2_with fail
      refine (run_any wo g z HZ.out (K.out.cellsAt M1.out) _ _ lk t.cs O.out RT.out HG1.out.2.1 (by have h1 := HG1.out.1; have h2 := NT.out; have h3 := HL.out; omega) HG1.out.2.2 OT.out).mono ?_
      rintro e w5 ⟨ov, gv, dv, rfl, hov, hk5⟩
      have O5 : Hid (RdOf cBd w5 ov (worldL z (T.take (k + 1)))) := Lib.hid (by rw [HS.out]; exact OwnOf.reads hov)
      have K5 := Lib.hid (K.out.trans hk5 (fun _ _ h => h))
      clear hov hk5 t1
      go_wp2_with fail
      have e1 : Sem.run Tryz.prog (Instr.field 57 (.agg #[ov, gv, dv]) 0) w5 = .ok ov w5 := by rfl
      rw [e1]
      go_wp2_with fail
      go_roundw
      case rel => exact ⟨k + 1, by omega, by go_num, O5.out, K5.out⟩
      case measure => simp [intOf]; omega
    · have hlti : ¬ ((k : Int) < (T.length : Int)) := by omega
      have hTk : T.take k = T := List.take_of_length_le (by omega)
      rw [hTk] at O ⊢
      have FN : Hid (WorldPost w (worldL z T) (.returned (.tuple #[.slice oa (worldL z T).length oc, .int .i64 0])) wo) := Lib.hid ⟨_, rfl, O.out, KF.out⟩
      go_wp2
      exact bodyPost_ret (v := .tuple #[.slice oa (worldL z T).length oc, .int .i64 0]) (by simp [results, Tryz.results5, go_sem]) rfl FN.out
theorem aworld_no (w : World) (z : Zf) (hzf : zfOk z = false) (tv : Value) (ta : Option Addr) (n c : Nat) (htv : tv = .slice ta n c) :
    Calls Tryz.prog 5 #[zfV z, tv] w fun e w' => e = .returned (.tuple #[.slice none 0 0, .int .i64 1]) ∧ Keeps No w w' := by
  subst htv
  have HN := Lib.hid (fun W => mapNew_no W z hzf)
  go_enter Tryz.func5, Tryz.ntmps5
  go_wp2_with fail
  refine (HN.out _).mono ?_
  rintro e w1 ⟨rfl, hk⟩
  have K1 : Hid (Keeps No w w1) := Lib.hid (((Keeps.refl w).alloc _).trans hk (fun _ _ h => h))
  clear hk
  go_wp2
  exact bodyPost_ret (v := .tuple #[.slice none 0 0, .int .i64 1]) (by simp [results, Tryz.results5, go_sem]) rfl ⟨rfl, K1.out⟩
/-- the document's -/
def RWorldPost (w : World) (l : List Bd) (e : Ending) (w' : World) : Prop := ∃ (v : Value), e = .returned v ∧ RdOf cBd w' v l ∧ Keeps No w w'
end Go.Proofs.YtcjeocibnfoenaaGreat

namespace Go.Proofs.YtcjeocibnfoenaaGreat
open Go.ChangeShapes Go.WideShapes Go.ChangeAt Go.RowKit Go.Joins Go.Deep Go.Sort
set_option maxRecDepth 100000 in
set_option maxHeartbeats 8000000 in
theorem rworld_any (w : World) (z : Zf) (hz : z.ok) (ta : Option Addr) (tc : Nat) (T : List Tk) (hT : RdOf cTk w (.slice ta T.length tc) T) (hr : TksRead w T) (hn : T.length ≤ 30) (hc : ∀ t ∈ T, t.cs.length ≤ 30) :
    Calls Tryz.prog 8 #[zfV z, .slice ta T.length tc] w (RWorldPost w (worldL z T)) := by
  have HZ := Lib.hid hz
  have HT := Lib.hid hT
  have HR := Lib.hid hr
  have HC := Lib.hid hc
  have HG := Lib.hid (worldL_good hz hr.ok hc)
  have hfd : ∀ (ov b c : Value) (W : World), Sem.run Tryz.prog (Instr.field 60 (.agg #[ov, b, c]) 0) W = .ok ov W := fun _ _ _ _ => rfl
  have hni : (T.length : Int) ≤ 30 := by omega
  have HL := Lib.hid hn
  clear hz hT hr hc hn
  go_enter Tryz.func8, Tryz.ntmps8
  go_wp2_with fail
  have K1 : Hid (Keeps No w (w.alloc (.cells #[.int .i64 z.c, .int .i64 z.r, .int .i64 z.s, .int .i64 z.u, .int .i64 z.v, .int .i64 z.i, .int .i64 z.q] 23))) := Lib.hid ((Keeps.refl w).alloc _)
  have M1 : Hid (cellsAt (w.alloc (.cells #[.int .i64 z.c, .int .i64 z.r, .int .i64 z.s, .int .i64 z.u, .int .i64 z.v, .int .i64 z.i, .int .i64 z.q] 23)) w.heap.size 0 7 = some (zfC z)) := Lib.hid (by simp [go_sem, zfC])
  obtain ⟨gz, hgz⟩ : ∃ g, g = w.heap.size := ⟨_, rfl⟩
  obtain ⟨w1, hw1⟩ : ∃ x, x = (w.alloc (.cells #[.int .i64 z.c, .int .i64 z.r, .int .i64 z.s, .int .i64 z.u, .int .i64 z.v, .int .i64 z.i, .int .i64 z.q] 23)) := ⟨_, rfl⟩
  rw [← hgz] at M1 ⊢
  rw [← hw1] at M1 K1 ⊢
  clear hgz hw1
  go_loopw [5, 6] (fun o q wr => ∃ k : Nat, k ≤ T.length ∧ q = .int .i64 k ∧ RdOf cBd wr o (worldL z (T.take k)) ∧ Keeps No w1 wr) (fun _ q _ => T.length - (intOf q).toNat)
  case atStart => exact ⟨0, Nat.zero_le _, rfl, Reads.nil _ _, Keeps.refl _⟩
  case round =>
    obtain ⟨k, hkl, rfl, hO, hK⟩ := hrel
    obtain ⟨wo, hwo⟩ : ∃ x : World, x = wr := ⟨_, rfl⟩
    subst hwo
    have K := Lib.hid hK
    have O := Lib.hid hO
    have KF := Lib.hid (K1.out.trans hK (fun _ _ h => h))
    obtain ⟨oa, oc, rfl⟩ := hO.slice
    have hk0 : (0 : Int) ≤ (k : Int) := by omega
    clear hO hK
    by_cases hlt : k < T.length
    · have hlti : (k : Int) < (T.length : Int) := by omega
      have hrr : RdOf cTk wo (.slice ta T.length tc) T := HT.out.kept KF.out (fun _ _ h => h)
      obtain ⟨gt, off, rfl, _, _, _⟩ := RdOf.addr cTk hrr (by omega)
      have c1 := RdOf.at cTk hrr k hlt
      have hm := List.getElem_mem hlt
      have HS := Lib.hid (worldL_succ z T k hlt)
      have HG1 := Lib.hid (HG.out k hkl)
      have RT := Lib.hid ((HR.out.no KF.out).r _ hm)
      have OT := Lib.hid (HR.out.ok _ hm)
      have NT := Lib.hid (HC.out _ hm)
      obtain ⟨t, ht⟩ : ∃ t, t = T[k] := ⟨_, rfl⟩
      rw [← ht] at HS RT OT NT c1
      have t0 := cellsAt_cell c1 0 _ rfl
      have t1 : wo.cell? ⟨gt, off + k, none⟩ = some (.slice t.a t.cs.length t.c) := by
        have e : off + k * cTk.size + 0 = off + k := by show off + k * 1 + 0 = _; omega
        rw [e] at t0
        exact t0
      have cz := K.out.cellsAt M1.out
      obtain ⟨lk, hlk⟩ : ∃ x, x = worldL z (T.take k) := ⟨_, rfl⟩
      rw [← hlk] at O HS HG1 ⊢
      have HCM : Hid (∀ w', Keeps No wo w' → Calls Tryz.prog 13 #[zfV z, .int .i64 (-1), .slice oa lk.length oc, .slice none 0 0, .slice t.a t.cs.length t.c] w' (RRunPost w' (runL z lk t.cs))) := Lib.hid (fun w' h => rrun_any w' z HZ.out _ _ lk t.cs (O.out.kept h (fun _ _ h => h)) (RT.out.kept h (fun _ _ h => h)) HG1.out.2.1 (by have h1 := HG1.out.1; have h2 := NT.out; have h3 := HL.out; omega) HG1.out.2.2 OT.out)
      have LC1 : ∀ w', Keeps No wo w' → w'.cell? ⟨gt, off + k, none⟩ = some (.slice t.a t.cs.length t.c) := fun w' h => h.cell t1 (fun h => h)
      have LC2 : ∀ w', Keeps No wo w' → cellsAt w' gz 0 7 = some (zfC z) := fun w' h => h.cellsAt cz
      clear c1 t0 t1 cz hm ht hrr hlk
      go_wp2_with fail
      go_region_held3 (fun w' => Keeps No wo w')
        (first | assumption | exact (Keeps.refl wo).drew)
        (first
          | (go_at_call 13
             refine (HCM.out _ (by first | assumption | exact (Keeps.refl wo).drew)).mono ?_
             rintro e w2 ⟨ov, da, dn, dc, rfl, hl', hk'⟩
             obtain ⟨fa, fc, rfl⟩ := hl'.slice
             have K2 : Hid (Keeps No wo w2) := Lib.hid (((Keeps.refl wo).drew).trans hk' (fun _ _ h => h))
             have hS1 := K2.out))
      have O5 : Hid (RdOf cBd w2 (.slice fa (runL z lk t.cs).length fc) (worldL z (T.take (k + 1)))) := Lib.hid (by rw [HS.out]; exact hl')
      have K5 := Lib.hid (K.out.trans K2.out (fun _ _ h => h))
      clear hl' hk' hS1 LC1 LC2 HCM
      go_wp2
      go_roundw
      case rel => exact ⟨k + 1, by omega, by go_num, O5.out, K5.out⟩
      case measure => simp [intOf]; omega
    · have hlti : ¬ ((k : Int) < (T.length : Int)) := by omega
      have hTk : T.take k = T := List.take_of_length_le (by omega)
      rw [hTk] at O ⊢
      have FN : Hid (RWorldPost w (worldL z T) (.returned (.slice oa (worldL z T).length oc)) wo) := Lib.hid ⟨_, rfl, O.out, KF.out⟩
      go_wp2
      exact bodyPost_ret (v := .slice oa (worldL z T).length oc) (by simp [results, Tryz.results8, go_sem]) rfl FN.out
end Go.Proofs.YtcjeocibnfoenaaGreat
