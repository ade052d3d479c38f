/-
  systems.Move. No conditions of their own.
-/
import Derived.Test.YtcjeocibnfoenaaGreatTiW
import Derived.Test.YtcjeocibnfoenaaGreatLateB
namespace Go.Proofs.YtcjeocibnfoenaaGreat
open Go.RowKit Go.Joins Go.Deep Go.Sort

/-- a step of the speed -/
def stI (v x d : Int) : Int := cl (cl x + max (-v) (min v d))
def velX (v : Int) (b : Bd) : Bd := ⟨b.s, b.i, b.g, b.m, stI v b.x b.vx, b.y, b.vx, b.vy, b.hp, b.pw, b.lf⟩
def velY (v : Int) (b : Bd) : Bd := ⟨b.s, b.i, b.g, b.m, b.x, stI v b.y b.vy, b.vx, b.vy, b.hp, b.pw, b.lf⟩
def velB (v : Int) (b : Bd) : Bd := bif hasB b.m 2 then velY v (velX v b) else b
def inX (X : Int) (b : Bd) : Bd := ⟨b.s, b.i, b.g, b.m, max 0 (min b.x (X - 1)), b.y, b.vx, b.vy, b.hp, b.pw, b.lf⟩
def inY (Y : Int) (b : Bd) : Bd := ⟨b.s, b.i, b.g, b.m, b.x, max 0 (min b.y (Y - 1)), b.vx, b.vy, b.hp, b.pw, b.lf⟩
def moveB (z : Zf) (b : Bd) : Bd := inY (z.r * z.s) (inX (z.c * z.s) (velB z.v b))
/-- a world's form that may be -/
structure Zf.ok (z : Zf) : Prop where
  c1 : 1 ≤ z.c
  c2 : z.c ≤ 4
  r1 : 1 ≤ z.r
  r2 : z.r ≤ 4
  s1 : 256 ≤ z.s
  s2 : z.s ≤ 1048576
  u1 : 0 ≤ z.u
  u2 : z.u ≤ z.s
  v1 : 0 ≤ z.v
  v2 : z.v ≤ z.s
theorem Zf.ok.cs {z : Zf} (h : z.ok) : 1 ≤ z.c * z.s ∧ z.c * z.s ≤ 4194304 := by
  have c1 := h.c1
  have c2 := h.c2
  have s1 := h.s1
  have s2 := h.s2
  have hc : z.c = 1 ∨ z.c = 2 ∨ z.c = 3 ∨ z.c = 4 := by omega
  rcases hc with hc | hc | hc | hc <;> rw [hc] <;> omega
theorem Zf.ok.rs {z : Zf} (h : z.ok) : 1 ≤ z.r * z.s ∧ z.r * z.s ≤ 4194304 := by
  have c1 := h.r1
  have c2 := h.r2
  have s1 := h.s1
  have s2 := h.s2
  have hc : z.r = 1 ∨ z.r = 2 ∨ z.r = 3 ∨ z.r = 4 := by omega
  rcases hc with hc | hc | hc | hc <;> rw [hc] <;> omega
theorem cl_speed {v d : Int} (h1 : 0 ≤ v) (h2 : v ≤ 1048576) : cl (max (-v) (min v d)) = max (-v) (min v d) := cl_in (by omega) (by omega)

set_option maxRecDepth 100000 in
set_option maxHeartbeats 4000000 in
theorem move_any (w : World) (g : Nat) (z : Zf) (h : cellsAt w g 0 11 = some (zmC z)) (hz : z.ok) (b : Bd) :
    Calls Tryz.prog 30 #[.pointer (some ⟨g, 0, none⟩), bdV b] w fun e w' => e = .returned (bdV (moveB z b)) ∧ Keeps No w w' := by
  obtain ⟨x1, x2⟩ := hz.cs
  obtain ⟨y1, y2⟩ := hz.rs
  have v1 := hz.v1
  have v2 : z.v ≤ 1048576 := Int.le_trans hz.v2 hz.s2
  have HIN := Lib.hid (fun W (hW : cellsAt W g 0 11 = some (zmC z)) x y => mapIn_any W g z hW x y x1 (by omega) y1 (by omega))
  have e4 := cellsAt_cell h 4 _ rfl
  simp only [Nat.zero_add] at e4
  obtain ⟨R, hR⟩ : ∃ R, R = moveB z b := ⟨_, rfl⟩
  rw [← hR]
  have HR := Lib.hid hR
  have HH := Lib.hid (fun W => has2 W b)
  have HC := Lib.hid h
  obtain ⟨h2, hh2⟩ : ∃ h, h = hasB b.m 2 := ⟨_, rfl⟩
  have HH2 := Lib.hid hh2
  rw [← hh2] at HH
  obtain ⟨v, hv⟩ : ∃ v, v = z.v := ⟨_, rfl⟩
  rw [← hv] at e4 v1 v2
  have HV := Lib.hid hv
  have lg : g < w.heap.size := block_lt_of_cell e4
  have wN : IntKind.i64.wrap (-v) = -v := by rw [IntKind.wrap_i64]; omega
  have wN2 : wrap64 (-v) = -v := by unfold wrap64; omega
  have V1 := Lib.hid v1
  have V2 := Lib.hid v2
  clear hR hh2 h hv x1 x2 y1 y2 v1 v2 hz
  go_enter Tryz.func30, Tryz.ntmps30
  go_upto_region 1 with fail
  refine wp_world ?_
  intro W hW
  have X0 : Hid (Boxed w W w.heap.size (w.heap.size + 1) b) := Lib.hid (by rw [hW]; exact boxed_new w b _ rfl _)
  obtain ⟨gb, hgb⟩ : ∃ g, g = w.heap.size := ⟨_, rfl⟩
  obtain ⟨gr, hgr⟩ : ∃ g, g = w.heap.size + 1 := ⟨_, rfl⟩
  have LG : Hid (g < gb ∧ g < gr) := Lib.hid ⟨by omega, by omega⟩
  rw [← hgr]
  rw [← hgb]
  rw [← hgr] at X0
  rw [← hgb] at X0
  have c0 := X0.out.b
  clear hW hgb hgr lg
  go_wp2_with fail
  refine (HH.out W).mono ?_
  rintro e w1 ⟨rfl, hg⟩
  have X := Lib.hid (X0.out.next hg.keeps)
  obtain ⟨b2, hb2⟩ : ∃ q, q = velB v b := ⟨_, rfl⟩
  have HB2 := Lib.hid hb2
  clear hg c0 X0 HH hb2
  go_upto_if 9 with fail
  go_cut [4] (fun s4 wx => s4 = .pointer (some ⟨gr, 0, none⟩) ∧ Boxed w wx gb gr b2)
  case first =>
    cases h2 with
    | true =>
      have he : b2 = velY v (velX v b) := by rw [HB2.out]; unfold velB; rw [← HH2.out]; rfl
      go_wp2_with fail
      have k4 := cellsAt_cell X.out.b 4 _ rfl
      have k6 := cellsAt_cell X.out.b 6 _ rfl
      have f4 := X.out.ob.frozen 4
      have kv := X.out.k.cell e4 (fun h => h)
      have p4 := X.out.lb
      simp only [Nat.zero_add] at k4 k6
      obtain ⟨L, hL⟩ : ∃ q, (if b.vx < v then b.vx else v) = q := ⟨_, rfl⟩
      obtain ⟨M, hM⟩ : ∃ q, (if -v < L then L else -v) = q := ⟨_, rfl⟩
      have hMM : M = max (-v) (min v b.vx) := by rw [← hM, ← hL, min_if, max_if]
      have hcM : cl (cl b.x + cl M) = stI v b.x b.vx := by unfold stI; rw [hMM, cl_speed V1.out V2.out]
      have HMM := Lib.hid (And.intro hMM hcM)
      clear hMM hcM
      refine wp_region_late (fun _ => True) (fun w' => w'.cell? ⟨gb, 4, none⟩ = some (.int .i64 b.x) ∧ w'.cell? ⟨gb, 6, none⟩ = some (.int .i64 b.vx) ∧ w'.cell? ⟨g, 4, none⟩ = some (.int .i64 v)) (fun j => j == 20) (by kernel_rfl) ?_
      first
        | (refine takeW (i := 0) (v := ?_) rfl rfl (by kernel_rfl) (by kernel_rfl) (by kernel_rfl) rfl (fun _ _ _ h => h) (Or.inl ⟨by rfl, ?_⟩) trivial (fun _ => ⟨k4,k6,kv⟩) ?_; rotate_left; focus (intro w hSw; (try dsimp only at hSw); go_simp; (try rfl); done))
        | (refine takeL (i := 0) (v := ?_) rfl rfl (by kernel_rfl) (by kernel_rfl) (by kernel_rfl) (by kernel_rfl) (noLate_of (by kernel_rfl)) (fun _ _ _ h => h) (Or.inl ⟨by rfl, ?_⟩) trivial ⟨k4,k6,kv⟩ ?_; rotate_left; focus (intro w hSw; (try dsimp only at hSw); go_simp; (try rfl); done))
      try simp only [List.setIfInBounds_toArray, List.set_cons_zero, List.set_cons_succ]
      first
        | (refine takeW (i := 1) (v := ?_) rfl rfl (by kernel_rfl) (by kernel_rfl) (by kernel_rfl) rfl (fun _ _ _ h => h) (Or.inl ⟨by rfl, ?_⟩) trivial (fun _ => ⟨k4,k6,kv⟩) ?_; rotate_left; focus (intro w hSw; (try dsimp only at hSw); go_simp; (try rfl); done))
        | (refine takeL (i := 1) (v := ?_) rfl rfl (by kernel_rfl) (by kernel_rfl) (by kernel_rfl) (by kernel_rfl) (noLate_of (by kernel_rfl)) (fun _ _ _ h => h) (Or.inl ⟨by rfl, ?_⟩) trivial ⟨k4,k6,kv⟩ ?_; rotate_left; focus (intro w hSw; (try dsimp only at hSw); go_simp; (try rfl); done))
      try simp only [List.setIfInBounds_toArray, List.set_cons_zero, List.set_cons_succ]
      first
        | (refine takeW (i := 2) (v := ?_) rfl rfl (by kernel_rfl) (by kernel_rfl) (by kernel_rfl) rfl (fun _ _ _ h => h) (Or.inl ⟨by rfl, ?_⟩) trivial (fun _ => ⟨k4,k6,kv⟩) ?_; rotate_left; focus (intro w hSw; (try dsimp only at hSw); go_simp; (try rfl); done))
        | (refine takeL (i := 2) (v := ?_) rfl rfl (by kernel_rfl) (by kernel_rfl) (by kernel_rfl) (by kernel_rfl) (noLate_of (by kernel_rfl)) (fun _ _ _ h => h) (Or.inl ⟨by rfl, ?_⟩) trivial ⟨k4,k6,kv⟩ ?_; rotate_left; focus (intro w hSw; (try dsimp only at hSw); go_simp; (try rfl); done))
      try simp only [List.setIfInBounds_toArray, List.set_cons_zero, List.set_cons_succ]
      first
        | (refine takeW (i := 3) (v := ?_) rfl rfl (by kernel_rfl) (by kernel_rfl) (by kernel_rfl) rfl (fun _ _ _ h => h) (Or.inl ⟨by rfl, ?_⟩) trivial (fun _ => ⟨k4,k6,kv⟩) ?_; rotate_left; focus (intro w hSw; (try dsimp only at hSw); go_simp; (try rfl); done))
        | (refine takeL (i := 3) (v := ?_) rfl rfl (by kernel_rfl) (by kernel_rfl) (by kernel_rfl) (by kernel_rfl) (noLate_of (by kernel_rfl)) (fun _ _ _ h => h) (Or.inl ⟨by rfl, ?_⟩) trivial ⟨k4,k6,kv⟩ ?_; rotate_left; focus (intro w hSw; (try dsimp only at hSw); go_simp; (try rfl); done))
      try simp only [List.setIfInBounds_toArray, List.set_cons_zero, List.set_cons_succ]
      first
        | (refine takeW (i := 4) (v := ?_) rfl rfl (by kernel_rfl) (by kernel_rfl) (by kernel_rfl) rfl (fun _ _ _ h => h) (Or.inl ⟨by rfl, ?_⟩) trivial (fun _ => ⟨k4,k6,kv⟩) ?_; rotate_left; focus (intro w hSw; (try dsimp only at hSw); go_simp; (try rfl); done))
        | (refine takeL (i := 4) (v := ?_) rfl rfl (by kernel_rfl) (by kernel_rfl) (by kernel_rfl) (by kernel_rfl) (noLate_of (by kernel_rfl)) (fun _ _ _ h => h) (Or.inl ⟨by rfl, ?_⟩) trivial ⟨k4,k6,kv⟩ ?_; rotate_left; focus (intro w hSw; (try dsimp only at hSw); go_simp; (try rfl); done))
      try simp only [List.setIfInBounds_toArray, List.set_cons_zero, List.set_cons_succ]
      first
        | (refine takeW (i := 5) (v := ?_) rfl rfl (by kernel_rfl) (by kernel_rfl) (by kernel_rfl) rfl (fun _ _ _ h => h) (Or.inl ⟨by rfl, ?_⟩) trivial (fun _ => ⟨k4,k6,kv⟩) ?_; rotate_left; focus (intro w hSw; (try dsimp only at hSw); go_simp; (try rfl); done))
        | (refine takeL (i := 5) (v := ?_) rfl rfl (by kernel_rfl) (by kernel_rfl) (by kernel_rfl) (by kernel_rfl) (noLate_of (by kernel_rfl)) (fun _ _ _ h => h) (Or.inl ⟨by rfl, ?_⟩) trivial ⟨k4,k6,kv⟩ ?_; rotate_left; focus (intro w hSw; (try dsimp only at hSw); go_simp; (try rfl); done))
      try simp only [List.setIfInBounds_toArray, List.set_cons_zero, List.set_cons_succ]
      first
        | (refine takeW (i := 6) (v := ?_) rfl rfl (by kernel_rfl) (by kernel_rfl) (by kernel_rfl) rfl (fun _ _ _ h => h) (Or.inl ⟨by rfl, ?_⟩) trivial (fun _ => ⟨k4,k6,kv⟩) ?_; rotate_left; focus (intro w hSw; (try dsimp only at hSw); go_simp; (try rfl); done))
        | (refine takeL (i := 6) (v := ?_) rfl rfl (by kernel_rfl) (by kernel_rfl) (by kernel_rfl) (by kernel_rfl) (noLate_of (by kernel_rfl)) (fun _ _ _ h => h) (Or.inl ⟨by rfl, ?_⟩) trivial ⟨k4,k6,kv⟩ ?_; rotate_left; focus (intro w hSw; (try dsimp only at hSw); go_simp; (try rfl); done))
      try simp only [List.setIfInBounds_toArray, List.set_cons_zero, List.set_cons_succ]
      first
        | (refine takeW (i := 7) (v := ?_) rfl rfl (by kernel_rfl) (by kernel_rfl) (by kernel_rfl) rfl (fun _ _ _ h => h) (Or.inl ⟨by rfl, ?_⟩) trivial (fun _ => ⟨k4,k6,kv⟩) ?_; rotate_left; focus (intro w hSw; (try dsimp only at hSw); go_simp; (try rfl); done))
        | (refine takeL (i := 7) (v := ?_) rfl rfl (by kernel_rfl) (by kernel_rfl) (by kernel_rfl) (by kernel_rfl) (noLate_of (by kernel_rfl)) (fun _ _ _ h => h) (Or.inl ⟨by rfl, ?_⟩) trivial ⟨k4,k6,kv⟩ ?_; rotate_left; focus (intro w hSw; (try dsimp only at hSw); go_simp; (try rfl); done))
      try simp only [List.setIfInBounds_toArray, List.set_cons_zero, List.set_cons_succ]
      first
        | (refine takeW (i := 8) (v := ?_) rfl rfl (by kernel_rfl) (by kernel_rfl) (by kernel_rfl) rfl (fun _ _ _ h => h) (Or.inl ⟨by rfl, ?_⟩) trivial (fun _ => ⟨k4,k6,kv⟩) ?_; rotate_left; focus (intro w hSw; (try dsimp only at hSw); go_simp; (try rfl); done))
        | (refine takeL (i := 8) (v := ?_) rfl rfl (by kernel_rfl) (by kernel_rfl) (by kernel_rfl) (by kernel_rfl) (noLate_of (by kernel_rfl)) (fun _ _ _ h => h) (Or.inl ⟨by rfl, ?_⟩) trivial ⟨k4,k6,kv⟩ ?_; rotate_left; focus (intro w hSw; (try dsimp only at hSw); go_simp; (try rfl); done))
      try simp only [List.setIfInBounds_toArray, List.set_cons_zero, List.set_cons_succ]
      first
        | (refine takeW (i := 9) (v := ?_) rfl rfl (by kernel_rfl) (by kernel_rfl) (by kernel_rfl) rfl (fun _ _ _ h => h) (Or.inl ⟨by rfl, ?_⟩) trivial (fun _ => ⟨k4,k6,kv⟩) ?_; rotate_left; focus (intro w hSw; (try dsimp only at hSw); go_simp; (try rfl); done))
        | (refine takeL (i := 9) (v := ?_) rfl rfl (by kernel_rfl) (by kernel_rfl) (by kernel_rfl) (by kernel_rfl) (noLate_of (by kernel_rfl)) (fun _ _ _ h => h) (Or.inl ⟨by rfl, ?_⟩) trivial ⟨k4,k6,kv⟩ ?_; rotate_left; focus (intro w hSw; (try dsimp only at hSw); go_simp; (try rfl); done))
      try simp only [List.setIfInBounds_toArray, List.set_cons_zero, List.set_cons_succ]
      first
        | (refine takeW (i := 10) (v := ?_) rfl rfl (by kernel_rfl) (by kernel_rfl) (by kernel_rfl) rfl (fun _ _ _ h => h) (Or.inl ⟨by rfl, ?_⟩) trivial (fun _ => ⟨k4,k6,kv⟩) ?_; rotate_left; focus (intro w hSw; (try dsimp only at hSw); go_simp; (try rfl); done))
        | (refine takeL (i := 10) (v := ?_) rfl rfl (by kernel_rfl) (by kernel_rfl) (by kernel_rfl) (by kernel_rfl) (noLate_of (by kernel_rfl)) (fun _ _ _ h => h) (Or.inl ⟨by rfl, ?_⟩) trivial ⟨k4,k6,kv⟩ ?_; rotate_left; focus (intro w hSw; (try dsimp only at hSw); go_simp; (try rfl); done))
      try simp only [List.setIfInBounds_toArray, List.set_cons_zero, List.set_cons_succ]
      first
        | (refine takeW (i := 11) (v := ?_) rfl rfl (by kernel_rfl) (by kernel_rfl) (by kernel_rfl) rfl (fun _ _ _ h => h) (Or.inl ⟨by rfl, ?_⟩) trivial (fun _ => ⟨k4,k6,kv⟩) ?_; rotate_left; focus (intro w hSw; (try dsimp only at hSw); go_simp; (try rfl); done))
        | (refine takeL (i := 11) (v := ?_) rfl rfl (by kernel_rfl) (by kernel_rfl) (by kernel_rfl) (by kernel_rfl) (noLate_of (by kernel_rfl)) (fun _ _ _ h => h) (Or.inl ⟨by rfl, ?_⟩) trivial ⟨k4,k6,kv⟩ ?_; rotate_left; focus (intro w hSw; (try dsimp only at hSw); go_simp; (try rfl); done))
      try simp only [List.setIfInBounds_toArray, List.set_cons_zero, List.set_cons_succ]
      first
        | (refine takeW (i := 12) (v := ?_) rfl rfl (by kernel_rfl) (by kernel_rfl) (by kernel_rfl) rfl (fun _ _ _ h => h) (Or.inl ⟨by rfl, ?_⟩) trivial (fun _ => ⟨k4,k6,kv⟩) ?_; rotate_left; focus (intro w hSw; (try dsimp only at hSw); go_simp; (try rfl); done))
        | (refine takeL (i := 12) (v := ?_) rfl rfl (by kernel_rfl) (by kernel_rfl) (by kernel_rfl) (by kernel_rfl) (noLate_of (by kernel_rfl)) (fun _ _ _ h => h) (Or.inl ⟨by rfl, ?_⟩) trivial ⟨k4,k6,kv⟩ ?_; rotate_left; focus (intro w hSw; (try dsimp only at hSw); go_simp; (try rfl); done))
      try simp only [List.setIfInBounds_toArray, List.set_cons_zero, List.set_cons_succ]
      first
        | (refine takeW (i := 13) (v := ?_) rfl rfl (by kernel_rfl) (by kernel_rfl) (by kernel_rfl) rfl (fun _ _ _ h => h) (Or.inl ⟨by rfl, ?_⟩) trivial (fun _ => ⟨k4,k6,kv⟩) ?_; rotate_left; focus (intro w hSw; (try dsimp only at hSw); go_simp; (try rfl); done))
        | (refine takeL (i := 13) (v := ?_) rfl rfl (by kernel_rfl) (by kernel_rfl) (by kernel_rfl) (by kernel_rfl) (noLate_of (by kernel_rfl)) (fun _ _ _ h => h) (Or.inl ⟨by rfl, ?_⟩) trivial ⟨k4,k6,kv⟩ ?_; rotate_left; focus (intro w hSw; (try dsimp only at hSw); go_simp; (try rfl); done))
      try simp only [List.setIfInBounds_toArray, List.set_cons_zero, List.set_cons_succ]
      first
        | (refine takeW (i := 14) (v := ?_) rfl rfl (by kernel_rfl) (by kernel_rfl) (by kernel_rfl) rfl (fun _ _ _ h => h) (Or.inl ⟨by rfl, ?_⟩) trivial (fun _ => ⟨k4,k6,kv⟩) ?_; rotate_left; focus (intro w hSw; (try dsimp only at hSw); go_simp; (try rfl); done))
        | (refine takeL (i := 14) (v := ?_) rfl rfl (by kernel_rfl) (by kernel_rfl) (by kernel_rfl) (by kernel_rfl) (noLate_of (by kernel_rfl)) (fun _ _ _ h => h) (Or.inl ⟨by rfl, ?_⟩) trivial ⟨k4,k6,kv⟩ ?_; rotate_left; focus (intro w hSw; (try dsimp only at hSw); go_simp; (try rfl); done))
      try simp only [List.setIfInBounds_toArray, List.set_cons_zero, List.set_cons_succ]
      first
        | (refine takeW (i := 15) (v := ?_) rfl rfl (by kernel_rfl) (by kernel_rfl) (by kernel_rfl) rfl (fun _ _ _ h => h) (Or.inl ⟨by rfl, ?_⟩) trivial (fun _ => ⟨k4,k6,kv⟩) ?_; rotate_left; focus (intro w hSw; (try dsimp only at hSw); go_simp; (try rfl); done))
        | (refine takeL (i := 15) (v := ?_) rfl rfl (by kernel_rfl) (by kernel_rfl) (by kernel_rfl) (by kernel_rfl) (noLate_of (by kernel_rfl)) (fun _ _ _ h => h) (Or.inl ⟨by rfl, ?_⟩) trivial ⟨k4,k6,kv⟩ ?_; rotate_left; focus (intro w hSw; (try dsimp only at hSw); go_simp; (try rfl); done))
      try simp only [List.setIfInBounds_toArray, List.set_cons_zero, List.set_cons_succ]
      first
        | (refine takeW (i := 16) (v := ?_) rfl rfl (by kernel_rfl) (by kernel_rfl) (by kernel_rfl) rfl (fun _ _ _ h => h) (Or.inl ⟨by rfl, ?_⟩) trivial (fun _ => ⟨k4,k6,kv⟩) ?_; rotate_left; focus (intro w hSw; (try dsimp only at hSw); go_simp; (try rfl); done))
        | (refine takeL (i := 16) (v := ?_) rfl rfl (by kernel_rfl) (by kernel_rfl) (by kernel_rfl) (by kernel_rfl) (noLate_of (by kernel_rfl)) (fun _ _ _ h => h) (Or.inl ⟨by rfl, ?_⟩) trivial ⟨k4,k6,kv⟩ ?_; rotate_left; focus (intro w hSw; (try dsimp only at hSw); go_simp; (try rfl); done))
      try simp only [List.setIfInBounds_toArray, List.set_cons_zero, List.set_cons_succ]
      clear hL hM
      have Kn : Hid (Keeps No w1 (w1.alloc (.cells #[.int .i64 b.x, .int .i64 M] 3)).drew) := Lib.hid (((Keeps.refl w1).alloc _).drew)
      have n4 := Kn.out.cell k4 (fun h => h)
      have n6 := Kn.out.cell k6 (fun h => h)
      have nv := Kn.out.cell kv (fun h => h)
      have XN := Lib.hid (X.out.next Kn.out)
      have q0 : (w1.alloc (.cells #[.int .i64 b.x, .int .i64 M] 3)).drew.cell? ⟨w1.heap.size, 0, none⟩ = some (.int .i64 b.x) := by simp [go_sem]
      have q1 : (w1.alloc (.cells #[.int .i64 b.x, .int .i64 M] 3)).drew.cell? ⟨w1.heap.size, 0 + 1, none⟩ = some (.int .i64 M) := by simp [go_sem]
      refine readyL (rs := [17]) (by kernel_rfl) (by simp) ?_
      refine AllReadyL.cons rfl (fun K hK => ?_) AllReadyL.nil
      go_simp
      obtain ⟨W2, hW2⟩ : ∃ x, x = (w1.alloc (.cells #[.int .i64 b.x, .int .i64 M] 3)).drew := ⟨_, rfl⟩
      rw [← hW2] at n4 n6 nv XN q0 q1 ⊢
      clear hW2 Kn
      refine hK.out _ _ trivial (fun _ => ⟨n4, n6, nv⟩) ?_
      clear hK K
      refine readyL (rs := [18]) (by kernel_rfl) (by simp) ?_
      refine AllReadyL.cons rfl (fun K hK => ?_) AllReadyL.nil
      go_simp
      refine (add2_any W2 w1.heap.size 0 2 b.x M q0 q1).mono ?_
      rintro e w3 ⟨rfl, hw⟩
      have hw := hw.symm
      subst hw
      rw [HMM.out.2]
      refine hK.out _ _ trivial (fun _ => ⟨n4, n6, nv⟩) ?_
      clear hK K
      first
        | (refine takeW (i := 19) (v := ?_) rfl rfl (by kernel_rfl) (by kernel_rfl) (by kernel_rfl) rfl (fun _ _ _ h => h) (Or.inl ⟨by rfl, ?_⟩) trivial (fun _ => ⟨n4,n6,nv⟩) ?_; rotate_left; focus (intro w hSw; (try dsimp only at hSw); go_simp; (try rfl); done))
        | (refine takeL (i := 19) (v := ?_) rfl rfl (by kernel_rfl) (by kernel_rfl) (by kernel_rfl) (by kernel_rfl) (noLate_of (by kernel_rfl)) (fun _ _ _ h => h) (Or.inl ⟨by rfl, ?_⟩) trivial ⟨n4,n6,nv⟩ ?_; rotate_left; focus (intro w hSw; (try dsimp only at hSw); go_simp; (try rfl); done))
      try simp only [List.setIfInBounds_toArray, List.set_cons_zero, List.set_cons_succ]
      have g4 := XN.out.ob.frozen 4
      have l4 := XN.out.lb
      refine readyL (rs := [20]) (by kernel_rfl) (by simp) ?_
      refine AllReadyL.cons rfl (fun K hK => ?_) AllReadyL.nil
      go_simp
      refine hK.out _ _ trivial (late_come 20 rfl (by kernel_rfl)) ?_
      clear hK K
      refine doneL (by kernel_rfl) ?_ _
      have X2 : Hid (Boxed w (W2.setCell ⟨gb, 4, none⟩ (.int .i64 (stI v b.x b.vx))) gb gr (velX v b)) := Lib.hid (XN.out.set 4 _ rfl)
      obtain ⟨u1, hu1⟩ : ∃ x, x = W2.setCell ⟨gb, 4, none⟩ (.int .i64 (stI v b.x b.vx)) := ⟨_, rfl⟩
      rw [← hu1] at X2 ⊢
      obtain ⟨b1, hb1⟩ : ∃ q, q = velX v b := ⟨_, rfl⟩
      have HB1 := Lib.hid hb1
      rw [← hb1] at X2 he
      clear hu1 hb1 k4 k6 f4 kv p4 n4 n6 nv q0 q1 g4 l4 XN X HMM
      go_wp2_with fail
      have k5 := cellsAt_cell X2.out.b 5 _ rfl
      have k7 := cellsAt_cell X2.out.b 7 _ rfl
      have f5 := X2.out.ob.frozen 5
      have kv := X2.out.k.cell e4 (fun h => h)
      have p5 := X2.out.lb
      simp only [Nat.zero_add] at k5 k7
      obtain ⟨L, hL⟩ : ∃ q, (if b1.vy < v then b1.vy else v) = q := ⟨_, rfl⟩
      obtain ⟨M, hM⟩ : ∃ q, (if -v < L then L else -v) = q := ⟨_, rfl⟩
      have hMM : M = max (-v) (min v b1.vy) := by rw [← hM, ← hL, min_if, max_if]
      have hcM : cl (cl b1.y + cl M) = stI v b1.y b1.vy := by unfold stI; rw [hMM, cl_speed V1.out V2.out]
      have HMM := Lib.hid (And.intro hMM hcM)
      clear hMM hcM
      refine wp_region_late (fun _ => True) (fun w' => w'.cell? ⟨gb, 5, none⟩ = some (.int .i64 b1.y) ∧ w'.cell? ⟨gb, 7, none⟩ = some (.int .i64 b1.vy) ∧ w'.cell? ⟨g, 4, none⟩ = some (.int .i64 v)) (fun j => j == 20) (by kernel_rfl) ?_
      first
        | (refine takeW (i := 0) (v := ?_) rfl rfl (by kernel_rfl) (by kernel_rfl) (by kernel_rfl) rfl (fun _ _ _ h => h) (Or.inl ⟨by rfl, ?_⟩) trivial (fun _ => ⟨k5,k7,kv⟩) ?_; rotate_left; focus (intro w hSw; (try dsimp only at hSw); go_simp; (try rfl); done))
        | (refine takeL (i := 0) (v := ?_) rfl rfl (by kernel_rfl) (by kernel_rfl) (by kernel_rfl) (by kernel_rfl) (noLate_of (by kernel_rfl)) (fun _ _ _ h => h) (Or.inl ⟨by rfl, ?_⟩) trivial ⟨k5,k7,kv⟩ ?_; rotate_left; focus (intro w hSw; (try dsimp only at hSw); go_simp; (try rfl); done))
      try simp only [List.setIfInBounds_toArray, List.set_cons_zero, List.set_cons_succ]
      first
        | (refine takeW (i := 1) (v := ?_) rfl rfl (by kernel_rfl) (by kernel_rfl) (by kernel_rfl) rfl (fun _ _ _ h => h) (Or.inl ⟨by rfl, ?_⟩) trivial (fun _ => ⟨k5,k7,kv⟩) ?_; rotate_left; focus (intro w hSw; (try dsimp only at hSw); go_simp; (try rfl); done))
        | (refine takeL (i := 1) (v := ?_) rfl rfl (by kernel_rfl) (by kernel_rfl) (by kernel_rfl) (by kernel_rfl) (noLate_of (by kernel_rfl)) (fun _ _ _ h => h) (Or.inl ⟨by rfl, ?_⟩) trivial ⟨k5,k7,kv⟩ ?_; rotate_left; focus (intro w hSw; (try dsimp only at hSw); go_simp; (try rfl); done))
      try simp only [List.setIfInBounds_toArray, List.set_cons_zero, List.set_cons_succ]
      first
        | (refine takeW (i := 2) (v := ?_) rfl rfl (by kernel_rfl) (by kernel_rfl) (by kernel_rfl) rfl (fun _ _ _ h => h) (Or.inl ⟨by rfl, ?_⟩) trivial (fun _ => ⟨k5,k7,kv⟩) ?_; rotate_left; focus (intro w hSw; (try dsimp only at hSw); go_simp; (try rfl); done))
        | (refine takeL (i := 2) (v := ?_) rfl rfl (by kernel_rfl) (by kernel_rfl) (by kernel_rfl) (by kernel_rfl) (noLate_of (by kernel_rfl)) (fun _ _ _ h => h) (Or.inl ⟨by rfl, ?_⟩) trivial ⟨k5,k7,kv⟩ ?_; rotate_left; focus (intro w hSw; (try dsimp only at hSw); go_simp; (try rfl); done))
      try simp only [List.setIfInBounds_toArray, List.set_cons_zero, List.set_cons_succ]
      first
        | (refine takeW (i := 3) (v := ?_) rfl rfl (by kernel_rfl) (by kernel_rfl) (by kernel_rfl) rfl (fun _ _ _ h => h) (Or.inl ⟨by rfl, ?_⟩) trivial (fun _ => ⟨k5,k7,kv⟩) ?_; rotate_left; focus (intro w hSw; (try dsimp only at hSw); go_simp; (try rfl); done))
        | (refine takeL (i := 3) (v := ?_) rfl rfl (by kernel_rfl) (by kernel_rfl) (by kernel_rfl) (by kernel_rfl) (noLate_of (by kernel_rfl)) (fun _ _ _ h => h) (Or.inl ⟨by rfl, ?_⟩) trivial ⟨k5,k7,kv⟩ ?_; rotate_left; focus (intro w hSw; (try dsimp only at hSw); go_simp; (try rfl); done))
      try simp only [List.setIfInBounds_toArray, List.set_cons_zero, List.set_cons_succ]
      first
        | (refine takeW (i := 4) (v := ?_) rfl rfl (by kernel_rfl) (by kernel_rfl) (by kernel_rfl) rfl (fun _ _ _ h => h) (Or.inl ⟨by rfl, ?_⟩) trivial (fun _ => ⟨k5,k7,kv⟩) ?_; rotate_left; focus (intro w hSw; (try dsimp only at hSw); go_simp; (try rfl); done))
        | (refine takeL (i := 4) (v := ?_) rfl rfl (by kernel_rfl) (by kernel_rfl) (by kernel_rfl) (by kernel_rfl) (noLate_of (by kernel_rfl)) (fun _ _ _ h => h) (Or.inl ⟨by rfl, ?_⟩) trivial ⟨k5,k7,kv⟩ ?_; rotate_left; focus (intro w hSw; (try dsimp only at hSw); go_simp; (try rfl); done))
      try simp only [List.setIfInBounds_toArray, List.set_cons_zero, List.set_cons_succ]
      first
        | (refine takeW (i := 5) (v := ?_) rfl rfl (by kernel_rfl) (by kernel_rfl) (by kernel_rfl) rfl (fun _ _ _ h => h) (Or.inl ⟨by rfl, ?_⟩) trivial (fun _ => ⟨k5,k7,kv⟩) ?_; rotate_left; focus (intro w hSw; (try dsimp only at hSw); go_simp; (try rfl); done))
        | (refine takeL (i := 5) (v := ?_) rfl rfl (by kernel_rfl) (by kernel_rfl) (by kernel_rfl) (by kernel_rfl) (noLate_of (by kernel_rfl)) (fun _ _ _ h => h) (Or.inl ⟨by rfl, ?_⟩) trivial ⟨k5,k7,kv⟩ ?_; rotate_left; focus (intro w hSw; (try dsimp only at hSw); go_simp; (try rfl); done))
      try simp only [List.setIfInBounds_toArray, List.set_cons_zero, List.set_cons_succ]
      first
        | (refine takeW (i := 6) (v := ?_) rfl rfl (by kernel_rfl) (by kernel_rfl) (by kernel_rfl) rfl (fun _ _ _ h => h) (Or.inl ⟨by rfl, ?_⟩) trivial (fun _ => ⟨k5,k7,kv⟩) ?_; rotate_left; focus (intro w hSw; (try dsimp only at hSw); go_simp; (try rfl); done))
        | (refine takeL (i := 6) (v := ?_) rfl rfl (by kernel_rfl) (by kernel_rfl) (by kernel_rfl) (by kernel_rfl) (noLate_of (by kernel_rfl)) (fun _ _ _ h => h) (Or.inl ⟨by rfl, ?_⟩) trivial ⟨k5,k7,kv⟩ ?_; rotate_left; focus (intro w hSw; (try dsimp only at hSw); go_simp; (try rfl); done))
      try simp only [List.setIfInBounds_toArray, List.set_cons_zero, List.set_cons_succ]
      first
        | (refine takeW (i := 7) (v := ?_) rfl rfl (by kernel_rfl) (by kernel_rfl) (by kernel_rfl) rfl (fun _ _ _ h => h) (Or.inl ⟨by rfl, ?_⟩) trivial (fun _ => ⟨k5,k7,kv⟩) ?_; rotate_left; focus (intro w hSw; (try dsimp only at hSw); go_simp; (try rfl); done))
        | (refine takeL (i := 7) (v := ?_) rfl rfl (by kernel_rfl) (by kernel_rfl) (by kernel_rfl) (by kernel_rfl) (noLate_of (by kernel_rfl)) (fun _ _ _ h => h) (Or.inl ⟨by rfl, ?_⟩) trivial ⟨k5,k7,kv⟩ ?_; rotate_left; focus (intro w hSw; (try dsimp only at hSw); go_simp; (try rfl); done))
      try simp only [List.setIfInBounds_toArray, List.set_cons_zero, List.set_cons_succ]
      first
        | (refine takeW (i := 8) (v := ?_) rfl rfl (by kernel_rfl) (by kernel_rfl) (by kernel_rfl) rfl (fun _ _ _ h => h) (Or.inl ⟨by rfl, ?_⟩) trivial (fun _ => ⟨k5,k7,kv⟩) ?_; rotate_left; focus (intro w hSw; (try dsimp only at hSw); go_simp; (try rfl); done))
        | (refine takeL (i := 8) (v := ?_) rfl rfl (by kernel_rfl) (by kernel_rfl) (by kernel_rfl) (by kernel_rfl) (noLate_of (by kernel_rfl)) (fun _ _ _ h => h) (Or.inl ⟨by rfl, ?_⟩) trivial ⟨k5,k7,kv⟩ ?_; rotate_left; focus (intro w hSw; (try dsimp only at hSw); go_simp; (try rfl); done))
      try simp only [List.setIfInBounds_toArray, List.set_cons_zero, List.set_cons_succ]
      first
        | (refine takeW (i := 9) (v := ?_) rfl rfl (by kernel_rfl) (by kernel_rfl) (by kernel_rfl) rfl (fun _ _ _ h => h) (Or.inl ⟨by rfl, ?_⟩) trivial (fun _ => ⟨k5,k7,kv⟩) ?_; rotate_left; focus (intro w hSw; (try dsimp only at hSw); go_simp; (try rfl); done))
        | (refine takeL (i := 9) (v := ?_) rfl rfl (by kernel_rfl) (by kernel_rfl) (by kernel_rfl) (by kernel_rfl) (noLate_of (by kernel_rfl)) (fun _ _ _ h => h) (Or.inl ⟨by rfl, ?_⟩) trivial ⟨k5,k7,kv⟩ ?_; rotate_left; focus (intro w hSw; (try dsimp only at hSw); go_simp; (try rfl); done))
      try simp only [List.setIfInBounds_toArray, List.set_cons_zero, List.set_cons_succ]
      first
        | (refine takeW (i := 10) (v := ?_) rfl rfl (by kernel_rfl) (by kernel_rfl) (by kernel_rfl) rfl (fun _ _ _ h => h) (Or.inl ⟨by rfl, ?_⟩) trivial (fun _ => ⟨k5,k7,kv⟩) ?_; rotate_left; focus (intro w hSw; (try dsimp only at hSw); go_simp; (try rfl); done))
        | (refine takeL (i := 10) (v := ?_) rfl rfl (by kernel_rfl) (by kernel_rfl) (by kernel_rfl) (by kernel_rfl) (noLate_of (by kernel_rfl)) (fun _ _ _ h => h) (Or.inl ⟨by rfl, ?_⟩) trivial ⟨k5,k7,kv⟩ ?_; rotate_left; focus (intro w hSw; (try dsimp only at hSw); go_simp; (try rfl); done))
      try simp only [List.setIfInBounds_toArray, List.set_cons_zero, List.set_cons_succ]
      first
        | (refine takeW (i := 11) (v := ?_) rfl rfl (by kernel_rfl) (by kernel_rfl) (by kernel_rfl) rfl (fun _ _ _ h => h) (Or.inl ⟨by rfl, ?_⟩) trivial (fun _ => ⟨k5,k7,kv⟩) ?_; rotate_left; focus (intro w hSw; (try dsimp only at hSw); go_simp; (try rfl); done))
        | (refine takeL (i := 11) (v := ?_) rfl rfl (by kernel_rfl) (by kernel_rfl) (by kernel_rfl) (by kernel_rfl) (noLate_of (by kernel_rfl)) (fun _ _ _ h => h) (Or.inl ⟨by rfl, ?_⟩) trivial ⟨k5,k7,kv⟩ ?_; rotate_left; focus (intro w hSw; (try dsimp only at hSw); go_simp; (try rfl); done))
      try simp only [List.setIfInBounds_toArray, List.set_cons_zero, List.set_cons_succ]
      first
        | (refine takeW (i := 12) (v := ?_) rfl rfl (by kernel_rfl) (by kernel_rfl) (by kernel_rfl) rfl (fun _ _ _ h => h) (Or.inl ⟨by rfl, ?_⟩) trivial (fun _ => ⟨k5,k7,kv⟩) ?_; rotate_left; focus (intro w hSw; (try dsimp only at hSw); go_simp; (try rfl); done))
        | (refine takeL (i := 12) (v := ?_) rfl rfl (by kernel_rfl) (by kernel_rfl) (by kernel_rfl) (by kernel_rfl) (noLate_of (by kernel_rfl)) (fun _ _ _ h => h) (Or.inl ⟨by rfl, ?_⟩) trivial ⟨k5,k7,kv⟩ ?_; rotate_left; focus (intro w hSw; (try dsimp only at hSw); go_simp; (try rfl); done))
      try simp only [List.setIfInBounds_toArray, List.set_cons_zero, List.set_cons_succ]
      first
        | (refine takeW (i := 13) (v := ?_) rfl rfl (by kernel_rfl) (by kernel_rfl) (by kernel_rfl) rfl (fun _ _ _ h => h) (Or.inl ⟨by rfl, ?_⟩) trivial (fun _ => ⟨k5,k7,kv⟩) ?_; rotate_left; focus (intro w hSw; (try dsimp only at hSw); go_simp; (try rfl); done))
        | (refine takeL (i := 13) (v := ?_) rfl rfl (by kernel_rfl) (by kernel_rfl) (by kernel_rfl) (by kernel_rfl) (noLate_of (by kernel_rfl)) (fun _ _ _ h => h) (Or.inl ⟨by rfl, ?_⟩) trivial ⟨k5,k7,kv⟩ ?_; rotate_left; focus (intro w hSw; (try dsimp only at hSw); go_simp; (try rfl); done))
      try simp only [List.setIfInBounds_toArray, List.set_cons_zero, List.set_cons_succ]
      first
        | (refine takeW (i := 14) (v := ?_) rfl rfl (by kernel_rfl) (by kernel_rfl) (by kernel_rfl) rfl (fun _ _ _ h => h) (Or.inl ⟨by rfl, ?_⟩) trivial (fun _ => ⟨k5,k7,kv⟩) ?_; rotate_left; focus (intro w hSw; (try dsimp only at hSw); go_simp; (try rfl); done))
        | (refine takeL (i := 14) (v := ?_) rfl rfl (by kernel_rfl) (by kernel_rfl) (by kernel_rfl) (by kernel_rfl) (noLate_of (by kernel_rfl)) (fun _ _ _ h => h) (Or.inl ⟨by rfl, ?_⟩) trivial ⟨k5,k7,kv⟩ ?_; rotate_left; focus (intro w hSw; (try dsimp only at hSw); go_simp; (try rfl); done))
      try simp only [List.setIfInBounds_toArray, List.set_cons_zero, List.set_cons_succ]
      first
        | (refine takeW (i := 15) (v := ?_) rfl rfl (by kernel_rfl) (by kernel_rfl) (by kernel_rfl) rfl (fun _ _ _ h => h) (Or.inl ⟨by rfl, ?_⟩) trivial (fun _ => ⟨k5,k7,kv⟩) ?_; rotate_left; focus (intro w hSw; (try dsimp only at hSw); go_simp; (try rfl); done))
        | (refine takeL (i := 15) (v := ?_) rfl rfl (by kernel_rfl) (by kernel_rfl) (by kernel_rfl) (by kernel_rfl) (noLate_of (by kernel_rfl)) (fun _ _ _ h => h) (Or.inl ⟨by rfl, ?_⟩) trivial ⟨k5,k7,kv⟩ ?_; rotate_left; focus (intro w hSw; (try dsimp only at hSw); go_simp; (try rfl); done))
      try simp only [List.setIfInBounds_toArray, List.set_cons_zero, List.set_cons_succ]
      first
        | (refine takeW (i := 16) (v := ?_) rfl rfl (by kernel_rfl) (by kernel_rfl) (by kernel_rfl) rfl (fun _ _ _ h => h) (Or.inl ⟨by rfl, ?_⟩) trivial (fun _ => ⟨k5,k7,kv⟩) ?_; rotate_left; focus (intro w hSw; (try dsimp only at hSw); go_simp; (try rfl); done))
        | (refine takeL (i := 16) (v := ?_) rfl rfl (by kernel_rfl) (by kernel_rfl) (by kernel_rfl) (by kernel_rfl) (noLate_of (by kernel_rfl)) (fun _ _ _ h => h) (Or.inl ⟨by rfl, ?_⟩) trivial ⟨k5,k7,kv⟩ ?_; rotate_left; focus (intro w hSw; (try dsimp only at hSw); go_simp; (try rfl); done))
      try simp only [List.setIfInBounds_toArray, List.set_cons_zero, List.set_cons_succ]
      clear hL hM
      have Kn : Hid (Keeps No u1 (u1.alloc (.cells #[.int .i64 b1.y, .int .i64 M] 3)).drew) := Lib.hid (((Keeps.refl u1).alloc _).drew)
      have n5 := Kn.out.cell k5 (fun h => h)
      have n7 := Kn.out.cell k7 (fun h => h)
      have nv := Kn.out.cell kv (fun h => h)
      have XN := Lib.hid (X2.out.next Kn.out)
      have q0 : (u1.alloc (.cells #[.int .i64 b1.y, .int .i64 M] 3)).drew.cell? ⟨u1.heap.size, 0, none⟩ = some (.int .i64 b1.y) := by simp [go_sem]
      have q1 : (u1.alloc (.cells #[.int .i64 b1.y, .int .i64 M] 3)).drew.cell? ⟨u1.heap.size, 0 + 1, none⟩ = some (.int .i64 M) := by simp [go_sem]
      refine readyL (rs := [17]) (by kernel_rfl) (by simp) ?_
      refine AllReadyL.cons rfl (fun K hK => ?_) AllReadyL.nil
      go_simp
      obtain ⟨W4, hW4⟩ : ∃ x, x = (u1.alloc (.cells #[.int .i64 b1.y, .int .i64 M] 3)).drew := ⟨_, rfl⟩
      rw [← hW4] at n5 n7 nv XN q0 q1 ⊢
      clear hW4 Kn
      refine hK.out _ _ trivial (fun _ => ⟨n5, n7, nv⟩) ?_
      clear hK K
      refine readyL (rs := [18]) (by kernel_rfl) (by simp) ?_
      refine AllReadyL.cons rfl (fun K hK => ?_) AllReadyL.nil
      go_simp
      refine (add2_any W4 u1.heap.size 0 2 b1.y M q0 q1).mono ?_
      rintro e w5 ⟨rfl, hw⟩
      have hw := hw.symm
      subst hw
      rw [HMM.out.2]
      refine hK.out _ _ trivial (fun _ => ⟨n5, n7, nv⟩) ?_
      clear hK K
      first
        | (refine takeW (i := 19) (v := ?_) rfl rfl (by kernel_rfl) (by kernel_rfl) (by kernel_rfl) rfl (fun _ _ _ h => h) (Or.inl ⟨by rfl, ?_⟩) trivial (fun _ => ⟨n5,n7,nv⟩) ?_; rotate_left; focus (intro w hSw; (try dsimp only at hSw); go_simp; (try rfl); done))
        | (refine takeL (i := 19) (v := ?_) rfl rfl (by kernel_rfl) (by kernel_rfl) (by kernel_rfl) (by kernel_rfl) (noLate_of (by kernel_rfl)) (fun _ _ _ h => h) (Or.inl ⟨by rfl, ?_⟩) trivial ⟨n5,n7,nv⟩ ?_; rotate_left; focus (intro w hSw; (try dsimp only at hSw); go_simp; (try rfl); done))
      try simp only [List.setIfInBounds_toArray, List.set_cons_zero, List.set_cons_succ]
      have g5 := XN.out.ob.frozen 5
      have l5 := XN.out.lb
      refine readyL (rs := [20]) (by kernel_rfl) (by simp) ?_
      refine AllReadyL.cons rfl (fun K hK => ?_) AllReadyL.nil
      go_simp
      refine hK.out _ _ trivial (late_come 20 rfl (by kernel_rfl)) ?_
      clear hK K
      refine doneL (by kernel_rfl) ?_ _
      have X3 : Hid (Boxed w (W4.setCell ⟨gb, 5, none⟩ (.int .i64 (stI v b1.y b1.vy))) gb gr (velY v b1)) := Lib.hid (XN.out.set 5 _ rfl)
      rw [← he] at X3
      obtain ⟨u2, hu2⟩ : ∃ x, x = W4.setCell ⟨gb, 5, none⟩ (.int .i64 (stI v b1.y b1.vy)) := ⟨_, rfl⟩
      rw [← hu2] at X3 ⊢
      clear hu2 k5 k7 f5 kv p5 n5 n7 nv q0 q1 g5 l5 XN X2 HMM
      go_wp2_with fail
      go_meet
      exact ⟨rfl, X3.out⟩
    | false =>
      have he : b2 = b := by rw [HB2.out]; unfold velB; rw [← HH2.out]; rfl
      go_wp2_with fail
      go_meet
      exact ⟨rfl, by rw [he]; exact X.out⟩
  case rest =>
  obtain ⟨rfl, hX⟩ := hcut
  obtain ⟨u3, hv3⟩ : ∃ x : World, x = wc := ⟨_, rfl⟩
  subst hv3
  have X3 := Lib.hid hX
  have h4 := cellsAt_cell hX.b 4 _ rfl
  have h5 := cellsAt_cell hX.b 5 _ rfl
  simp only [Nat.zero_add] at h4 h5
  have hm : cellsAt u3 g 0 11 = some (zmC z) := hX.k.cellsAt HC.out
  clear hX
  go_wp2_with fail
  refine (HIN.out u3 hm b2.x b2.y).mono ?_
  rintro e w6 ⟨rfl, hg⟩
  obtain ⟨b3, hb3⟩ : ∃ q, q = inX (z.c * z.s) b2 := ⟨_, rfl⟩
  have e3 : max 0 (min b2.x (z.c * z.s - 1)) = b3.x := by rw [hb3]; rfl
  have e3y : b3.y = b2.y := by rw [hb3]; rfl
  have X6 := Lib.hid (X3.out.next hg.keeps)
  have X7 : Hid (Boxed w (w6.setCell ⟨gb, 4, none⟩ (.int .i64 b3.x)) gb gr b3) := Lib.hid (X6.out.set 4 _ (by rw [hb3]; rfl))
  have eR : R = inY (z.r * z.s) b3 := by rw [HR.out, hb3, HB2.out, HV.out]; rfl
  have eY : max 0 (min b2.y (z.r * z.s - 1)) = R.y := by rw [eR, ← e3y]; rfl
  have X8 : Hid (Boxed w ((w6.setCell ⟨gb, 4, none⟩ (.int .i64 b3.x)).setCell ⟨gb, 5, none⟩ (.int .i64 R.y)) gb gr R) := Lib.hid (X7.out.set 5 _ (by rw [eR]; rfl))
  rw [e3, eY]
  have f4 := X6.out.ob.frozen 4
  have f5 := X6.out.ob.frozen 5
  have z4 := cellsAt_cell X6.out.b 4 _ rfl
  have z5 := cellsAt_cell X6.out.b 5 _ rfl
  simp only [Nat.zero_add] at z4 z5
  clear hg e3 e3y eR eY hb3 X7 h4 h5 X3 hm
  have cb8 := X8.out.b
  have or := X8.out.or
  have sr := X8.out.sr
  have lr := X8.out.lr
  have ne := X8.out.ne
  have ne2 := X8.out.ne.symm
  have or6 := X6.out.or
  have sr6 := X6.out.sr
  have lr6 := X6.out.lr
  go_wp2
  exact bodyPost_ret (v := bdV R) (by simp [results, Tryz.results30, go_sem, *]) rfl ⟨rfl, X8.out.k.row X8.out.nr _⟩
end Go.Proofs.YtcjeocibnfoenaaGreat
