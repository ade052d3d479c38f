/-
  hedgerowlaw21: one of its own is to go. No conditions of its own.
-/
import Derived.Test.YtggaeihinheojaaHpG
namespace Go.Proofs.Ytggaeihinheojaa
open Go.RowKit

theorem upd_upd {α : Type} (f : Nat → α) (k : Nat) (x y : α) : upd (upd f k x) k y = upd f k y := by
  funext i
  unfold upd
  split <;> rfl
theorem Wd.setS_setS (W : Wd) (k : Nat) (x y : Sh) : (W.setS k x).setS k y = W.setS k y := by
  unfold Wd.setS
  simp only [upd_upd]

theorem cellsAt_keeps {S : Nat → Prop} {a w : World} (h : Keeps S a w) {b o n : Nat} {l : List Value} (hc : cellsAt a b o n = some l) (hn : ¬ S b) : cellsAt w b o n = some l := by
  have hb : b < a.heap.size := by
    unfold Proofs.Ytggaeihinheojaa.cellsAt at hc
    split at hc
    · rename_i hh
      exact (Array.getElem?_eq_some_iff.1 hh).1
    · cases hc
  unfold Proofs.Ytggaeihinheojaa.cellsAt at hc ⊢
  rw [h.block b hb hn]
  exact hc

section
variable {w : World} {g base T : Nat} {V : Vs} {ms : Nat → Nat → List Ms} {W : Wd}
set_option maxRecDepth 100000 in
set_option maxHeartbeats 8000000 in
theorem wleave_any (h : WAt w g base V ms W) (hO : Ok W T) {k d : Nat} (hk : k < 3) (hd3 : d < 3) (i : Int) :
    Calls Try.prog 54 #[gP g, .int .i64 k, .int .i64 d, .int .i64 i] w fun e w' => e = .returned (.tuple #[]) ∧ StepPost w g base T w' := by
  obtain ⟨oa, oc, hoV⟩ := (h.own k hk).1.slice
  obtain ⟨ua, uc, hVu⟩ := (h.outs k hk).1.slice
  obtain ⟨ia, ic, hVi⟩ := (h.ins k hk).1.slice
  obtain ⟨N, hN⟩ : ∃ N, N = (W.s k).own.length := ⟨_, rfl⟩
  rw [← hN] at hoV
  have HN := Lib.hid hN
  clear hN
  have c2 : w.cell? ⟨g, k * 8 + 2, none⟩ = some (.slice oa N oc) := by rw [← hoV]; exact h.cell hk 2 _ rfl
  have hk0 : (0 : Int) ≤ (k : Int) := by omega
  have hk3 : (k : Int) < 3 := by omega
  have kb1 : k * 8 + 8 ≤ 34 := by omega
  have kb2 : k * 8 ≤ 26 := by omega
  have Hlen := Lib.hid (own_le hO.S hk)
  have H := Lib.hid h
  have HO := Lib.hid hO
  have Hk := Lib.hid hk
  have lg := h.glt
  clear h hO
  by_cases hN0 : N = 0
  · subst hN0
    go_enter Try.func54, Try.ntmps54
    go_wp2
    refine bodyPost_ret (v := .tuple #[]) (results_none rfl _ _ _) rfl ⟨rfl, V, ms, W, H.out, HO.out.up, (Keeps.refl w)⟩
  have hz : ¬ (N : Int) = 0 := by omega
  by_cases hkd : k = d
  · subst hkd
    go_enter Try.func54, Try.ntmps54
    go_wp2
    refine bodyPost_ret (v := .tuple #[]) (results_none rfl _ _ _) rfl ⟨rfl, V, ms, W, H.out, HO.out.up, (Keeps.refl w)⟩
  have hne : ¬ (k : Int) = (d : Int) := by omega
  have hN40 : N ≤ 40 := by have := HN.out; have := Hlen.out; omega
  obtain ⟨P, hPN, hmod⟩ := mod_any i N (by omega) (by omega) w
  have Hmod := Lib.hid hmod
  obtain ⟨i0, hi, hz0, hz1, hz2⟩ := info_parts Try.infoBd
  have Hrd := Lib.hid (H.out.own k hk).1
  rw [hoV] at Hrd
  have Hrd2 : Hid (Reads w 11 (.slice oa N oc) N (rowsOf cBd (W.s k).own)) := by
    have h := Hrd.out
    show Reads _ _ _ _ _
    rw [HN.out]
    rw [HN.out] at h
    exact h
  obtain ⟨gb, off, rfl, hNc, _, hgb⟩ : ∃ b off, oa = some ⟨b, off, none⟩ ∧ N ≤ oc ∧ oc ≤ maxLen ∧ b < w.heap.size := by
    have h := Hrd.out
    rw [HN.out] at h
    obtain ⟨b, off, h1, h2, h3, h4⟩ := RdOf.addr cBd h (by have := HN.out; omega)
    exact ⟨b, off, h1, by have := HN.out; omega, h3, h4⟩
  obtain ⟨b, hb⟩ : ∃ b, b = (W.s k).own[P]'(by have := HN.out; omega) := ⟨_, rfl⟩
  have Hb := Lib.hid hb
  have cb : cellsAt w gb (off + P * 11) 11 = some (bdC b) := by
    have h := Hrd.out
    rw [HN.out] at h
    rw [hb]
    exact RdOf.at cBd h P _
  unfold bdC at cb
  clear hb hmod hN40
  have hP0 : (0 : Int) ≤ (P : Int) := by omega
  have hP1 : (P : Int) < (N : Int) := by omega
  have hP2 : (P : Int) ≤ (N : Int) := by omega
  have hP40 : (P : Int) ≤ 40 := by have := HN.out; have := Hlen.out; omega
  have hPc : (P : Int) ≤ (oc : Int) := by omega
  have hPc1 : (P : Int) + 1 ≤ (oc : Int) := by omega
  have hPN1 : (P : Int) + 1 ≤ (N : Int) := by omega
  have hNcI : (N : Int) ≤ (oc : Int) := by omega
  have HPN := Lib.hid hPN
  have bz : ((N : Int) == 0) = false := beq_false_of_ne hz
  have bne : ((k : Int) == (d : Int)) = false := beq_false_of_ne hne
  have HT := Lib.hid (Hrd2.out.take (m := P) (by omega))
  rw [show P * 11 = P * cBd.size from rfl, rowsOf_take] at HT
  have hw1 : IntKind.i64.wrap ((P : Int) + 1) = (P : Int) + 1 := by rw [IntKind.wrap_i64]; omega
  go_enter Try.func54, Try.ntmps54
  go_wp2_with (first
    | (go_at_call 52; refine Hmod.out.mono ?_; rintro e w1 ⟨rfl, rfl⟩)
    | (at_builtin; refine wpList_append_reads rfl (.tmp 34) (.tmp 37) 22 rfl (w1.heap.size + 1) 37 i0 _ 11 88 Try.underlying22 hi hz0 hz1 hz2 rfl (by decide) (.slice none 0 0) 0 [] rfl (World.ownsRow_nil _ _ _ _) (.slice (some ⟨gb, off, none⟩) P oc) P (rowsOf cBd ((W.s k).own.take P)) rfl (HT.out.kept ((Keeps.refl (S := No) w1).alloc _) (fun _ _ h => h)) ?c1 ?c2 ?c3 ?c4))
  case c1 => unfold maxLen; omega
  case c2 => omega
  case c3 => simp
  case c4 =>
    intro v2 w2 hown2 hk2 _ _
    have hkN : Keeps No _ w2 := hk2.mono (fun i _ h => by cases h)
    have K2 : Hid (Keeps No w1 w2) := ((Keeps.refl (S := No) w1).alloc _).trans hkN (fun _ _ h => h)
    have hs2 : Hid (w1.heap.size + 1 ≤ w2.heap.size) := by have h := hk2.size; show _ ≤ _; simpa using h
    have cB1 : cellsAt (w1.alloc (Obj.cells #[.int .i64 b.s, .int .i64 b.i, .int .i64 b.g, .int .i64 b.m, .int .i64 b.x, .int .i64 b.y, .int .i64 b.vx, .int .i64 b.vy, .int .i64 b.hp, .int .i64 b.pw, .int .i64 b.lf] 37)) w1.heap.size 0 11 = some (bdC b) := by simp [go_sem, bdC]
    have cB2 : Hid (cellsAt w2 w1.heap.size 0 11 = some (bdC b)) := hkN.cellsAt cB1
    obtain ⟨a2, n2, d2, rfl, hn2⟩ : ∃ a n c, v2 = .slice a n c ∧ n = P := by
      obtain ⟨a, c, he⟩ := ownsRow_slice hown2
      exact ⟨a, _, c, he, by omega⟩
    have Hown2 : Hid (w2.ownsRow (w1.heap.size + 1) 37 11 (.slice a2 n2 d2) n2 (rowsOf cBd ((W.s k).own.take P))) := by
      show World.ownsRow _ _ _ _ _ _ _
      have h := hown2
      try simp only [Nat.zero_add, List.nil_append] at h
      rw [hn2]
      rw [hn2] at h
      exact h
    have Hn2 := Lib.hid hn2
    have hdrop := (Hrd2.out.kept K2.out (fun _ _ h => h)).dropAny (m := P + 1) (by have := HPN.out; omega) _ rfl
    rw [show (P + 1) * 11 = (P + 1) * cBd.size from rfl, rowsOf_drop] at hdrop
    obtain ⟨ao, hao⟩ : ∃ ao, ao = if oc = P + 1 then some (⟨gb, off, none⟩ : Addr) else some ⟨gb, off + (P + 1) * 11, none⟩ := ⟨_, rfl⟩
    have HD : Hid (Reads w2 11 (.slice ao (N - (P + 1)) (oc - (P + 1))) (N - (P + 1)) (rowsOf cBd ((W.s k).own.drop (P + 1)))) := by
      show Reads _ _ _ _ _
      rw [hao]
      have e : (if oc = P + 1 then some (⟨gb, off, none⟩ : Addr) else some ⟨gb, off + (P + 1) * 11, none⟩) = (if oc = P + 1 then some ⟨gb, off, none⟩ else Option.map (fun x : Addr => x.add ((P + 1) * cBd.size)) (some ⟨gb, off, none⟩)) := by
        split <;> rfl
      rw [e]
      exact hdrop
    have Hao := Lib.hid hao
    have f2 := (H.out.no K2.out).box.frozen (k * 8 + 2)
    clear hown2 hk2 hn2 c2 hdrop hao cb cB1 hkN
    go_wp2_with (at_builtin; rw [← Hao.out]; refine wpList_append_reads rfl (.tmp 39) (.tmp 43) 22 rfl (w1.heap.size + 1) 37 i0 _ 11 88 Try.underlying22 hi hz0 hz1 hz2 rfl (by decide) (.slice a2 n2 d2) n2 (rowsOf cBd ((W.s k).own.take P)) rfl Hown2.out (.slice ao (N - (P + 1)) (oc - (P + 1))) (N - (P + 1)) (rowsOf cBd ((W.s k).own.drop (P + 1))) rfl HD.out ?c1 ?c2 ?c3 ?c4)
    case c1 => have := Hn2.out; have := HPN.out; have := HN.out; have := Hlen.out; unfold maxLen; omega
    case c2 => have := Hn2.out; have := HPN.out; have := HN.out; have := Hlen.out; omega
    case c3 => exact hs2.out
    case c4 =>
      intro v3 w3 hown3 hk3 _ _
      have K3 : Hid (Keeps No w1 w3) := K2.out.trans hk3 (fun i hi hof => by have h1 := (Hown2.out.lt i hof).1; have h2 : i < w1.heap.size := hi; omega)
      have H3 := Lib.hid (H.out.no K3.out)
      have cB3 : cellsAt w3 w1.heap.size 0 11 = some (bdC b) := by
        exact cellsAt_keeps hk3 cB2.out (fun hof => by have h1 := (Hown2.out.lt _ hof).1; omega)
      have Hown3 : Hid (OwnOf cBd 37 w3 (w1.heap.size + 1) v3 ((W.s k).own.take P ++ (W.s k).own.drop (P + 1))) := by
        show World.ownsRow _ _ _ _ _ _ _
        have e1 : ((W.s k).own.take P ++ (W.s k).own.drop (P + 1)).length = n2 + (N - (P + 1)) := by
          have h1 := HN.out
          have h2 := HPN.out
          have h3 := Hn2.out
          simp only [List.length_append, List.length_take, List.length_drop]
          omega
        rw [e1, rowsOf_append]
        exact hown3
      obtain ⟨a3, n3, d3, rfl⟩ : ∃ a n c, v3 = .slice a n c := by
        obtain ⟨a, c, he⟩ := ownsRow_slice hown3
        exact ⟨a, _, c, he⟩
      have hfar : FarL g V (.slice a3 n3 d3) ((W.s k).own.take P ++ (W.s k).own.drop (P + 1)) := fun _ i hi hm => by
        have h1 := H.out.mut_lt hm
        have h2 := (Hown3.out.lt i hi).1
        omega
      have c23 : w3.cell? ⟨g, k * 8 + 2, none⟩ = some (.slice (some ⟨gb, off, none⟩) N oc) := by rw [← hoV]; exact H3.out.cell Hk.out 2 _ rfl
      have f3 := H3.out.box.frozen (k * 8 + 2)
      have HQ := Lib.hid (H3.out.putOwn Hk.out ⟨Hown3.out.reads, hfar⟩)
      clear hown3 hk3 hfar
      go_wp2
      refine wp_world ?_
      intro Y hY
      have HY : Hid (WAt Y g base (V.setS k (.slice a3 n3 d3) (V.u k) (V.i k)) ms (W.setS k ⟨(W.s k).own.take P ++ (W.s k).own.drop (P + 1), (W.s k).outs, (W.s k).ins, (W.s k).nx⟩)) := by
        have h := HQ.out.1
        rw [← hY] at h
        exact h
      have KY : Hid (Keeps (Own g) w3 Y) := by
        have h := HQ.out.2
        rw [← hY] at h
        exact h
      have cBY : cellsAt Y w1.heap.size 0 11 = some (bdC b) := cellsAt_keeps KY.out cB3 (fun e => by have h : w1.heap.size = g := e; have := H.out.glt; omega)
      have cSY := HY.out.st k Hk.out
      simp only [Vs.setS, upd_at, Wd.setS_at] at cSY
      unfold shC at cSY
      rw [hVu, hVi] at cSY
      have HU : Hid (RdOf cOu Y.drew (.slice ua (W.s k).outs.length uc) (W.s k).outs) := by
        have h := (HY.out.outs k Hk.out).1
        simp only [Vs.setS, upd_at, Wd.setS_at] at h
        rw [hVu] at h
        exact h.kept (Keeps.refl (S := No) Y).drew (fun _ _ h => h)
      have Hol := Lib.hid (outs_le HO.out.S Hk.out)
      unfold bdC at cBY
      clear hY HQ c23 f3 cB3
      go_region_with
        (first
          | (go_at_call 24
             refine (leave_any HU.out (by have := Hol.out; omega) rfl rfl rfl rfl b d).mono ?_
             rintro e w4 ⟨v4, rfl, hr4, hk4, hf4⟩
             obtain ⟨va4, vn4, vc4, rfl⟩ : ∃ a n c, v4 = .slice a n c := by
               obtain ⟨a, c, he⟩ := hr4.slice
               exact ⟨a, _, c, he⟩
             have J4 : Hid (Keeps No Y w4) := ((Keeps.refl (S := No) Y).drew).trans hk4 (fun _ _ h => h)
             have R4 := Lib.hid hr4
             have F4 := Lib.hid hf4
             have f4 := (HY.out.no J4.out).box.frozen (k * 8)
             have ob4 := (HY.out.no J4.out).box
             have rs4 := (HY.out.no J4.out).size
             have cS4 := J4.out.cellsAt cSY
             have cB4 := J4.out.cellsAt cBY
             clear hr4 hk4 hf4 cSY cBY
             have cSY := cS4
             have cBY := cB4
             clear cS4 cB4))
      all_goals
        have H4 := Lib.hid (HY.out.no J4.out)
        have l3 := K3.out
        have hX : Hid (∃ V' ms' W', WAt (w4.setRow g (splice (rowD w4 g) (k * 8) [.int .i64 0, .int .i64 0, .slice a3 n3 d3, nilV, .slice va4 vn4 vc4, .slice ia (W.s k).ins.length ic, nilV, .int .i64 (W.s k).nx])) g base V' ms' W' ∧ Ok W' (T + 1) ∧ Keeps (Up g) w1 (w4.setRow g (splice (rowD w4 g) (k * 8) [.int .i64 0, .int .i64 0, .slice a3 n3 d3, nilV, .slice va4 vn4 vc4, .slice ia (W.s k).ins.length ic, nilV, .int .i64 (W.s k).nx]))) := by
          have ho := H4.out.own k Hk.out
          have hi := H4.out.ins k Hk.out
          simp only [Vs.setS, upd_at, Wd.setS_at] at ho hi
          rw [hVi] at hi
          have hu := fresh_far (HY.out.no ((Keeps.refl (S := No) Y).drew)) F4.out ((W.s k).outs ++ [⟨0, d, 1, b⟩])
          obtain ⟨q3, q4⟩ := H4.out.put8 Hk.out ((W.s k).leave ((W.s k).own.take P ++ (W.s k).own.drop (P + 1)) d b) (o := .slice a3 n3 d3) (u := .slice va4 vn4 vc4) (i := .slice ia (W.s k).ins.length ic) ho ⟨R4.out, hu⟩ hi
          rw [Wd.setS_setS] at q3
          have hsplit : (W.s k).own = (W.s k).own.take P ++ b :: (W.s k).own.drop (P + 1) := by
            have hp : P < (W.s k).own.length := by have := HPN.out; have := HN.out; omega
            rw [Hb.out, List.getElem_cons_drop, List.take_append_drop]
          exact ⟨_, ms, _, q3, ok_leave HO.out Hk.out hd3 (fun e => hkd e.symm) hsplit, (((l3.mono (T := Up g) (fun _ _ h => h.elim)).trans (own_up KY.out) (fun _ _ h => h)).trans (J4.out.mono (T := Up g) (fun _ _ h => h.elim)) (fun _ _ h => h)).trans (own_up q4) (fun _ _ h => h)⟩
        clear l3
        go_wp2_with fail
        refine bodyPost_end (results_none rfl _ _ _) rfl ⟨rfl, hX.out⟩
end
end Go.Proofs.Ytggaeihinheojaa
