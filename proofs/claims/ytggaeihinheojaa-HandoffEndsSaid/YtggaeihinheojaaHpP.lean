/-
  hedgerowlaw21: turns, and a world behind them. No conditions of its own.
-/
import Derived.Test.YtggaeihinheojaaHoK
import Derived.Test.YtggaeihinheojaaHpL
import Derived.Test.YtggaeihinheojaaHpM
import Derived.Test.YtggaeihinheojaaHpO
import Derived.Deep.QuietTactic
import Derived.Deep.DeepCutAuto
namespace Go.Proofs.Ytggaeihinheojaa
open Go.ChangeShapes Go.WideShapes Go.ChangeAt Go.RowKit Go.Joins Go.Deep

/-- a turn -/
structure Tu where
  kind : Int
  a : Int
  b : Int
  k : Int
  x : Bd
def tuC (t : Tu) : List Value := [.int .i64 t.kind, .int .i64 t.a, .int .i64 t.b, .int .i64 t.k, .int .i64 t.x.s, .int .i64 t.x.i, .int .i64 t.x.g, .int .i64 t.x.m, .int .i64 t.x.x, .int .i64 t.x.y, .int .i64 t.x.vx, .int .i64 t.x.vy, .int .i64 t.x.hp, .int .i64 t.x.pw, .int .i64 t.x.lf]
def cTu : Codec Tu := ⟨tuC, 15, fun _ => rfl, fun a u h => by simp [tuC] at h; rcases h with rfl | rfl | rfl | rfl | rfl | rfl | rfl | rfl | rfl | rfl | rfl | rfl | rfl | rfl | rfl <;> rfl, by decide⟩
theorem kTu : Try.prog.cellsOf 102 = 15 := by kernel_rfl
section
variable {H : Type} {enc : TypeId × Value → H} {w : World} {base : Nat} {spare : Nat → Bool} {held : Bool} {n : Nat} {cs : List Value} {x : DataW H × List MemPlace}
set_option maxRecDepth 100000 in
theorem trodTu (h : DataW.trod enc Try.prog w base spare held n 102 cs = some x) : ∃ t : Tu, cs = tuC t := by
  obtain ⟨xs, m, _, _, hl, hxl, hf⟩ := DataW.trod_struct Try.underlying102 h
  rw [kTu] at hl
  match cs, hl with
  | [c0, c1, c2, cx, c3, c4, c5, c6, c7, c8, c9, c10, c11, c12, c13], _ =>
    match xs, hxl with
    | [x0, x1, x2, x3, x4], _ =>
      have h0 := hf 0 _ rfl
      have h1 := hf 1 _ rfl
      have h2 := hf 2 _ rfl
      have h3 := hf 3 _ rfl
      have h4 := hf 4 _ rfl
      simp [k1, kBd] at h0 h1 h2 h3 h4
      obtain ⟨b, hb⟩ := trodBd (cs := [c3, c4, c5, c6, c7, c8, c9, c10, c11, c12, c13]) h4
      simp only [bdC, List.cons.injEq, and_true] at hb
      obtain ⟨rfl, rfl, rfl, rfl, rfl, rfl, rfl, rfl, rfl, rfl, rfl⟩ := hb
      obtain ⟨a0, rfl⟩ := one_field (c := c0) h0
      obtain ⟨a1, rfl⟩ := one_field (c := c1) h1
      obtain ⟨a2, rfl⟩ := one_field (c := c2) h2
      obtain ⟨a3, rfl⟩ := one_field (c := cx) h3
      exact ⟨⟨a0, a1, a2, a3, b⟩, rfl⟩
end
theorem open_turns {H : Type} {enc : TypeId × Value → H} {W : World} {v : Value} {d : DataW H} {ps : List MemPlace}
    (h : DataW.Trod enc Try.prog W 0 (fun _ => true) true 66 v d ps) (hv : v.cells.toList = [v]) : ∃ l : List Tu, RdOf cTu W v l := by
  obtain ⟨n, hn⟩ := h
  rw [hv] at hn
  obtain ⟨v', l, he, hr⟩ := trodRows cTu ⟨0, 0, 0, 0, Bd.zero⟩ Try.underlying66 kTu (fun h => trodTu h) hn
  simp at he
  subst he
  exact ⟨l, hr⟩

/-- a number from 0 on, below n -/
def mdN (k : Int) (n : Nat) : Nat := ((k.tmod n + n).tmod n).toNat
theorem mod_fn (k : Int) (n : Nat) (h0 : 0 < n) (h1 : n ≤ 1000) (w : World) : mdN k n < n ∧ Calls Try.prog 52 #[.int .i64 k, .int .i64 n] w fun e w' => e = .returned (.int .i64 (mdN k n)) ∧ w' = w := by
  have g1 := Int.tmod_lt_of_pos k (show (0 : Int) < n by omega)
  have g2 := Int.lt_tmod_of_pos k (show (0 : Int) < n by omega)
  have g3 := Int.tmod_lt_of_pos (k.tmod n + n) (show (0 : Int) < n by omega)
  have g4 := Int.tmod_nonneg (a := k.tmod n + n) n (by omega)
  have hz : ¬ (n : Int) = 0 := by omega
  have hz2 : ¬ n = 0 := by omega
  refine ⟨by unfold mdN; omega, ?_⟩
  have ht : (mdN k n : Int) = (k.tmod n + n).tmod n := by unfold mdN; omega
  rw [ht]
  have e2 : IntKind.i64.wrap (k.tmod n + n) = k.tmod n + n := by rw [IntKind.wrap_i64]; omega
  clear ht g1 g2 g3 g4
  go_enter Try.func52, Try.ntmps52
  go_wp2
  go_ret
  exact ⟨by simp [*], rfl⟩

section
variable {w : World}
/-- behind so many turns -/
def PlayRel (X : World) (g : Nat) (v5 : Value) (wr : World) : Prop :=
  ∃ i : Nat, i ≤ 120 ∧ v5 = .int .i64 i ∧ ∃ V ms W, WAt wr g (g + 1) V ms W ∧ Ok W i ∧ Keeps (Up g) X wr
def TurnRel (X : World) (g i : Nat) (s9 : Value) (wx : World) : Prop := s9 = .bool true ∧ ∃ V' ms' W', WAt wx g (g + 1) V' ms' W' ∧ Ok W' (i + 1) ∧ Keeps (Up g) X wx
def PlayPost (w : World) (e : Ending) (w' : World) : Prop :=
  ∃ g V ms W, e = .returned (.tuple #[gP g, .bool true]) ∧ WAt w' g (g + 1) V ms W ∧ Ok W 120 ∧ Keeps No w w' ∧ w.heap.size ≤ g
theorem Ok.upTo {W : Wd} {T U : Nat} (h : Ok W T) (hu : T ≤ U) : Ok W U := by
  obtain ⟨d, rfl⟩ : ∃ d, U = T + d := ⟨U - T, by omega⟩
  clear hu
  induction d with
  | zero => exact h
  | succ d ih => exact ih.up
/-- a new world -/
theorem wat_new (w : World) : WAt (w.alloc (.cells (Array.mk ((List.flatten (List.replicate 3 [.int .i64 0, .int .i64 0, nilV, nilV, nilV, nilV, nilV, .int .i64 0])) ++ List.replicate 9 nilV ++ [.int .i64 0])) 76)) w.heap.size (w.heap.size + 1) ⟨fun _ => nilV, fun _ => nilV, fun _ => nilV, fun _ _ => nilV⟩ (fun _ _ => []) Wd.nil := by
  refine ⟨open_alloc_at _ _ _ _ rfl, by rw [rowD_alloc_at _ _ _ _ rfl]; rfl, fun k hk => ?_, fun a b ha hb => ?_, ?_, fun _ _ => ⟨rdNil _ _, fun h => absurd rfl h⟩, fun _ _ => ⟨rdNil _ _, fun h => absurd rfl h⟩, fun _ _ => ⟨rdNil _ _, fun h => absurd rfl h⟩, fun _ _ _ _ => World.ownsRow_nil _ _ _ _, fun _ _ _ _ => rfl, (fun _ _ _ _ _ h => by cases h), (fun _ _ _ _ _ _ _ _ _ h => by simp [Value.ownBlock] at h), by omega⟩
  · have e : k = 0 ∨ k = 1 ∨ k = 2 := by omega
    rcases e with rfl | rfl | rfl <;> simp [go_sem, Wd.nil, Sh.nil] <;> rfl
  · have ea : a = 0 ∨ a = 1 ∨ a = 2 := by omega
    have eb : b = 0 ∨ b = 1 ∨ b = 2 := by omega
    rcases ea with rfl | rfl | rfl <;> rcases eb with rfl | rfl | rfl <;> simp [go_sem]
  · simp [go_sem, Wd.nil]

set_option maxRecDepth 100000 in
set_option maxHeartbeats 8000000 in
theorem played_any {v : Value} {l : List Tu} (hv : RdOf cTu w v l) : Calls Try.prog 26 #[v] w fun e w' => PlayPost w e w' := by
  obtain ⟨va, vc, rfl⟩ := hv.slice
  obtain ⟨N, hN⟩ : ∃ N, N = l.length := ⟨_, rfl⟩
  have hmax := RdOf.len cTu hv
  rw [← hN] at hmax hv ⊢
  unfold maxLen at hmax
  have Hv : Hid (RdOf cTu w (.slice va l.length vc) l) := by rw [← hN]; exact hv
  have HN := Lib.hid hN
  have HB := Lib.hid (wat_new w)
  clear hv hN
  go_enter Try.func26, Try.ntmps26
  go_wp2
  refine wp_world ?_
  intro X hX
  have HX : Hid (WAt X w.heap.size (w.heap.size + 1) ⟨fun _ => nilV, fun _ => nilV, fun _ => nilV, fun _ _ => nilV⟩ (fun _ _ => []) Wd.nil) := by rw [hX]; exact HB.out
  have KX : Hid (Keeps No w X) := by rw [hX]; exact (Keeps.refl (S := No) w).alloc _
  have SX : Hid (w.heap.size + 1 ≤ X.heap.size) := by show _ ≤ _; rw [hX]; simp
  clear hX HB
  obtain ⟨g, hg⟩ : ∃ g, g = w.heap.size := ⟨_, rfl⟩
  rw [← hg] at HX SX ⊢
  have Hg := Lib.hid hg
  clear hg
  go_loopw [5] (fun v5 wr => PlayRel X g v5 wr) (fun i _ => 120 - (intOf i).toNat)
  case atStart => exact ⟨0, by omega, rfl, _, _, _, HX.out, ok_nil, Keeps.refl X⟩
  case round =>
    obtain ⟨i, hi, rfl, V, ms, W, h1, hO1, k1⟩ := hrel
    have H1 := Lib.hid h1
    have HO1 := Lib.hid hO1
    have K1 := Lib.hid k1
    have HbsR : Hid (g + 1 ≤ wr.heap.size) := Nat.le_trans SX.out k1.size
    have hi0 : (0 : Int) ≤ (i : Int) := by omega
    have KXr : Hid (Keeps No w wr) := KX.out.trans k1 (fun j hj hu => by have h := Hg.out; have hu : g ≤ j := hu; have hj : j < w.heap.size := hj; omega)
    clear h1 hO1 k1
    by_cases hiN : i < N
    · have hiN' : (i : Int) < (N : Int) := by omega
      by_cases hi120 : i < 120
      · have hi120' : (i : Int) < 120 := by omega
        have hil : i < l.length := by have h := HN.out; omega
        have hru : RdOf cTu wr (.slice va l.length vc) l := Hv.out.kept KXr.out (fun _ _ h => h)
        obtain ⟨gt, off, rfl, hc1, hc2, hgt⟩ := RdOf.addr cTu hru (by omega)
        obtain ⟨tu, htu⟩ : ∃ tu, tu = l[i] := ⟨_, rfl⟩
        have g0 : cellsAt wr gt (off + i * 15) 15 = some (tuC tu) := by rw [htu]; exact RdOf.at cTu hru i hil
        rw [← HN.out] at hc1
        have hcN : (N : Int) ≤ (vc : Int) := by omega
        unfold tuC at g0
        have Hi := Lib.hid hi120
        clear hru hc1 hc2 htu hil
        go_wp2_with fail
        refine wp_world ?_
        intro Y hY
        have KY : Hid (Keeps No wr Y) := by rw [hY]; exact (Keeps.refl (S := No) wr).alloc _
        have cT : cellsAt Y wr.heap.size 0 15 = some (tuC tu) := by rw [hY]; simp [go_sem, tuC]
        have HY := Lib.hid (H1.out.no KY.out)
        have ltY : wr.heap.size < Y.heap.size := by rw [hY]; simp
        have cA : Y.cell? ⟨wr.heap.size, 1, none⟩ = some (.int .i64 tu.a) := cellsAt_cell cT 1 _ rfl
        have cB : Y.cell? ⟨wr.heap.size, 2, none⟩ = some (.int .i64 tu.b) := cellsAt_cell cT 2 _ rfl
        have CT := Lib.hid cT
        clear hY g0 cT
        have ma := mod_fn tu.a 3 (by omega) (by omega)
        have mb := mod_fn tu.b 3 (by omega) (by omega)
        have mk := mod_fn tu.kind 11 (by omega) (by omega)
        obtain ⟨A, hA⟩ : ∃ A, A = mdN tu.a 3 := ⟨_, rfl⟩
        obtain ⟨B, hB⟩ : ∃ B, B = mdN tu.b 3 := ⟨_, rfl⟩
        obtain ⟨K, hK⟩ : ∃ K, K = mdN tu.kind 11 := ⟨_, rfl⟩
        rw [← hA] at ma
        rw [← hB] at mb
        rw [← hK] at mk
        have a3 : A < 3 := (ma wr).1
        have b3 : B < 3 := (mb wr).1
        have k11 : K < 11 := (mk wr).1
        have MA : Hid (∀ w, Calls Try.prog 52 #[.int .i64 tu.a, .int .i64 3] w fun e w' => e = .returned (.int .i64 A) ∧ w' = w) := fun w => (ma w).2
        have MB : Hid (∀ w, Calls Try.prog 52 #[.int .i64 tu.b, .int .i64 3] w fun e w' => e = .returned (.int .i64 B) ∧ w' = w) := fun w => (mb w).2
        have MK : Hid (∀ w, Calls Try.prog 52 #[.int .i64 tu.kind, .int .i64 11] w fun e w' => e = .returned (.int .i64 K) ∧ w' = w) := fun w => (mk w).2
        have HA3 := Lib.hid a3
        have HB3 := Lib.hid b3
        clear ma mb mk hA hB hK
        go_quiet (first | (go_at_call 52; with_reducible exact Calls.quiet_of_same (MA.out _)) | (go_at_call 52; with_reducible exact Calls.quiet_of_same (MB.out _)))
        go_upto_region 8 with fail
        refine wp_world ?_
        intro Z hZ
        have KZ : Hid (Keeps No Y Z) := by rw [hZ]; exact (Keeps.refl (S := No) Y).drewN _
        have HZ := Lib.hid (HY.out.no KZ.out)
        have HbsZ : Hid (g + 1 ≤ Z.heap.size) := Nat.le_trans (Nat.le_trans HbsR.out KY.out.size) KZ.out.size
        have KXZ : Hid (Keeps (Up g) X Z) := K1.out.trans ((KY.out.trans KZ.out (fun _ _ h => h)).mono (T := Up g) (fun _ _ h => h.elim)) (fun _ _ h => h)
        have cTZ := KZ.out.cellsAt CT.out
        unfold tuC at cTZ
        have cK : Z.cell? ⟨wr.heap.size, 0, none⟩ = some (.int .i64 tu.kind) := cellsAt_cell cTZ 0 _ rfl
        clear hZ cA cB
        go_upto_block 2 with (go_at_call 52; refine (MK.out _).mono ?_; rintro e w1 ⟨rfl, rfl⟩)
        go_cut [9] (fun s9 wx => TurnRel X g i s9 wx)
        case first =>
          have hK0 : (0 : Int) ≤ (K : Int) := by omega
          have cX : cellsAt w1 wr.heap.size 4 11 = some (bdC tu.x) := cellsAt_part cTZ 4 (bdC tu.x) rfl (by show 0 < 11; omega)
          have cKk : w1.cell? ⟨wr.heap.size, 3, none⟩ = some (.int .i64 tu.k) := cellsAt_cell cTZ 3 _ rfl
          unfold bdC at cX
          clear cTZ
          by_cases c2 : K < 2
          · have c2' : (K : Int) < 2 := by omega
            go_wp2_with (go_at_call 53; refine (begin_any HZ.out HO1.out HA3.out tu.x).mono ?_; rintro e w2 ⟨rfl, hp⟩; have HP := Lib.hid hp; clear hp)
            go_meet
            obtain ⟨V', ms', W', h1, h2, h3⟩ := HP.out
            exact ⟨rfl, V', ms', W', h1, h2, KXZ.out.trans h3 (fun _ _ h => h)⟩
          · by_cases c4 : K < 4
            · have c4' : (K : Int) < 4 := by omega
              have c2' : ¬ (K : Int) < 2 := by omega
              go_wp2_with (go_at_call 54; refine (wleave_any HZ.out HO1.out HA3.out HB3.out tu.k).mono ?_; rintro e w2 ⟨rfl, hp⟩; have HP := Lib.hid hp; clear hp)
              go_meet
              obtain ⟨V', ms', W', h1, h2, h3⟩ := HP.out
              exact ⟨rfl, V', ms', W', h1, h2, KXZ.out.trans h3 (fun _ _ h => h)⟩
            · by_cases c6 : K < 6
              · have c6' : (K : Int) < 6 := by omega
                have c4' : ¬ (K : Int) < 4 := by omega
                have c2' : ¬ (K : Int) < 2 := by omega
                have HC : Hid (Calls Try.prog 27 #[gP g, .int .i64 A] w1 fun e w' => (∃ b, e = .returned (.bool b)) ∧ StepPost w1 g (g + 1) i w') := by
                  refine (wask_any HZ.out HO1.out HbsZ.out HA3.out).mono ?_
                  rintro e w' (⟨_, rfl, h1, h2⟩ | ⟨rfl, V', ms', W', h1, h2, h3⟩)
                  · exact ⟨⟨_, rfl⟩, V, ms, W, h1, HO1.out.up, h2.mono (fun _ _ h => h.elim)⟩
                  · exact ⟨⟨_, rfl⟩, V', ms', W', h1, h2.ok, h3.1.mono (fun i _ hi => HZ.out.mut_up hi)⟩
                go_wp2_with (go_at_call 27; refine HC.out.mono ?_; rintro e w2 ⟨⟨bb, rfl⟩, hp⟩; have HP := Lib.hid hp; clear hp)
                go_meet
                obtain ⟨V', ms', W', h1, h2, h3⟩ := HP.out
                exact ⟨rfl, V', ms', W', h1, h2, KXZ.out.trans h3 (fun _ _ h => h)⟩
              · by_cases c10 : K < 10
                · have c10' : (K : Int) < 10 := by omega
                  have c6' : ¬ (K : Int) < 6 := by omega
                  have c4' : ¬ (K : Int) < 4 := by omega
                  have c2' : ¬ (K : Int) < 2 := by omega
                  have HC : Hid (Calls Try.prog 28 #[gP g, .int .i64 A, .int .i64 B] w1 fun e w' => e = .returned (.bool true) ∧ StepPost w1 g (g + 1) i w') := by
                    refine (wcomes_any HZ.out HO1.out HbsZ.out HA3.out HB3.out).mono ?_
                    rintro e w' ⟨rfl, ⟨_, h1, h2⟩ | ⟨_, V', ms', W', h1, h2, h3⟩⟩
                    · exact ⟨rfl, V, ms, W, h1, HO1.out.up, h2.mono (fun _ _ h => h.elim)⟩
                    · exact ⟨rfl, V', ms', W', h1, h2.ok, h3.1.mono (fun i _ hi => HZ.out.mut_up hi)⟩
                  go_wp2_with (go_at_call 28; refine HC.out.mono ?_; rintro e w2 ⟨rfl, hp⟩; have HP := Lib.hid hp; clear hp)
                  go_meet
                  obtain ⟨V', ms', W', h1, h2, h3⟩ := HP.out
                  exact ⟨rfl, V', ms', W', h1, h2, KXZ.out.trans h3 (fun _ _ h => h)⟩
                · have c10' : ¬ (K : Int) < 10 := by omega
                  have c6' : ¬ (K : Int) < 6 := by omega
                  have c4' : ¬ (K : Int) < 4 := by omega
                  have c2' : ¬ (K : Int) < 2 := by omega
                  go_wp2_with (go_at_call 55; refine (wanew_any HZ.out HO1.out HbsZ.out HA3.out).mono ?_; rintro e w2 ⟨rfl, hp⟩; have HP := Lib.hid hp; clear hp)
                  go_meet
                  obtain ⟨V', ms', W', h1, h2, h3⟩ := HP.out
                  exact ⟨rfl, V', ms', W', h1, h2, KXZ.out.trans h3 (fun _ _ h => h)⟩
        case rest =>
          obtain ⟨rfl, V', ms', W', h1, h2, h3⟩ := hcut
          have H2 := Lib.hid h1
          have HO2 := Lib.hid h2
          have K2 := Lib.hid h3
          clear h1 h2 h3 cTZ cK
          go_wp2_with (go_at_call 29; refine (sound_any H2.out HO2.out).mono ?_; rintro e w3 ⟨rfl, hk3⟩; have K3 : Hid (Keeps No wc w3) := hk3; clear hk3)
          go_roundw
          case rel => exact ⟨i + 1, by have h := Hi.out; omega, by go_num, V', ms', W', H2.out.no K3.out, HO2.out, K2.out.trans (K3.out.mono (T := Up g) (fun _ _ h => h.elim)) (fun _ _ h => h)⟩
          case measure => simp [intOf]; omega
      · have hlt2 : ¬ (i : Int) < 120 := by omega
        go_wp2_with fail
        go_ret2
        exact ⟨g, V, ms, W, rfl, H1.out, HO1.out.upTo hi, KXr.out, by rw [Hg.out]; exact Nat.le_refl _⟩
    · have hlt2 : ¬ (i : Int) < (N : Int) := by omega
      go_wp2_with fail
      go_ret2
      exact ⟨g, V, ms, W, rfl, H1.out, HO1.out.upTo hi, KXr.out, by rw [Hg.out]; exact Nat.le_refl _⟩
end
end Go.Proofs.Ytggaeihinheojaa
