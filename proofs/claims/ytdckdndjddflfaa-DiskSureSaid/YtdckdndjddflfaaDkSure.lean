/-
  Whatever the bytes and the number: DiskSure returns true, and its arguments read behind the call as they read before. No conditions.
-/
import Derived.Test.YtdckdndjddflfaaDkI
import Derived.Deep.RegionHeld3
namespace Go.Proofs.Ytdckdndjddflfaa.diskSure
open Go.ChangeShapes Go.WideShapes Go.ChangeAt Go.RowKit Go.Joins Go.Deep

abbrev n1 : ByteArray := ⟨#[111, 110, 101]⟩
abbrev n2 : ByteArray := ⟨#[116, 119, 111]⟩
theorem n1_ok : NmOk n1 := ⟨by decide, by decide⟩
theorem n2_ok : NmOk n2 := ⟨by decide, by decide⟩
theorem with_none (s : ByteArray) : withS Fi.none s = ⟨s, 0⟩ := by
  have : (⟨#[]⟩ : ByteArray) ++ s = s := by apply ByteArray.ext; simp [ByteArray.data_append]
  show (⟨_, 0⟩ : Fi) = _
  rw [this]

/-- where the law's walk stands: its disk, its boxes, the names -/
structure At (w wi : World) (g : Nat) (a0 a1 b0 b1 : ByteArray) (fs : Fs) (room : Int) : Prop where
  k : Keeps No w wi
  d : DiskAt wi (w.heap.size + 1 + 1 + 1) (w.heap.size + 1 + 1) fs room false
  qa : cellsAt wi w.heap.size 0 2 = some [.string a0, .string a1]
  qb : cellsAt wi (w.heap.size + 1) 0 2 = some [.string b0, .string b1]
  qn : cellsAt wi g 0 2 = some [.string n1, .string n2]
  hg : w.heap.size + 1 + 1 + 1 < g
theorem At.two {w wi wj : World} {g : Nat} {a0 a1 b0 b1 : ByteArray} {fs fs' : Fs} {room room' : Int} (h : At w wi g a0 a1 b0 b1 fs room) (hk : Keeps (Two (w.heap.size + 1 + 1 + 1) (w.heap.size + 1 + 1)) wi wj) (hd : DiskAt wj (w.heap.size + 1 + 1 + 1) (w.heap.size + 1 + 1) fs' room' false) : At w wj g a0 a1 b0 b1 fs' room' :=
  ⟨two_new h.k hk (by omega) (by omega), hd, cells_but hk (fun e => by rcases e with e | e <;> omega) h.qa, cells_but hk (fun e => by rcases e with e | e <;> omega) h.qb, cells_but hk (fun e => by have := h.hg; rcases e with e | e <;> omega) h.qn, h.hg⟩
theorem At.no {w wi wj : World} {g : Nat} {a0 a1 b0 b1 : ByteArray} {fs : Fs} {room : Int} (h : At w wi g a0 a1 b0 b1 fs room) (hk : Keeps No wi wj) : At w wj g a0 a1 b0 b1 fs room :=
  ⟨h.k.trans hk (fun _ _ h => h), h.d.kept hk (fun h => h) (fun h => h), hk.cellsAt h.qa, hk.cellsAt h.qb, hk.cellsAt h.qn, h.hg⟩
theorem At.drew {w wi : World} {g : Nat} {a0 a1 b0 b1 : ByteArray} {fs : Fs} {room : Int} (h : At w wi g a0 a1 b0 b1 fs room) : At w wi.drew g a0 a1 b0 b1 fs room := h.no ((Keeps.refl (S := No) wi).drew)

/-- the files behind i rounds -/
def fsS (a0 a1 b0 b1 : ByteArray) : Nat → Fs
  | 0 => []
  | 1 => [([111, 110, 101], ⟨a0 ++ b0, a0.size⟩)]
  | _ => [([111, 110, 101], ⟨a0 ++ b0, a0.size⟩), ([116, 119, 111], ⟨a1 ++ b1, a1.size⟩)]

set_option maxRecDepth 100000 in
set_option maxHeartbeats 8000000 in
theorem walk (a0 a1 b0 b1 : ByteArray) (wa : a0.size ≤ 140737488355328) (wb : a1.size ≤ 140737488355328) (wc : b0.size ≤ 140737488355328) (wd : b1.size ≤ 140737488355328) (keep : Int) (w : World) : Calls Try.prog 3 #[.agg #[.string a0, .string a1], .agg #[.string b0, .string b1], .int .i64 keep] w fun e w' => e = .returned (.bool true) ∧ Keeps No w w' := by
  have hw1 : IntKind.i64.wrap ((a0.size : Int) + (a1.size : Int)) = (a0.size : Int) + (a1.size : Int) := by rw [IntKind.wrap_i64]; omega
  have hw2 : IntKind.i64.wrap ((a0.size : Int) + (a1.size : Int) + (b0.size : Int)) = (a0.size : Int) + (a1.size : Int) + (b0.size : Int) := by rw [IntKind.wrap_i64]; omega
  have hw3 : IntKind.i64.wrap ((a0.size : Int) + (a1.size : Int) + (b0.size : Int) + (b1.size : Int)) = (a0.size : Int) + (a1.size : Int) + (b0.size : Int) + (b1.size : Int) := by rw [IntKind.wrap_i64]; omega
  by_cases hbig : a0.size + a1.size + b0.size + b1.size ≤ 100000
  · have hsm : decide ((100000 : Int) < (a0.size : Int) + (a1.size : Int) + (b0.size : Int) + (b1.size : Int)) = false := decide_eq_false (by omega)
    have Hb := Lib.hid hbig
    clear hbig wa wb wc wd
    go_enter Try.func3, Try.ntmps3
    go_wp2_with fail
    refine (new_any _).mono ?_
    rintro e w1 ⟨rfl, h1, k1⟩
    have hsz := k1.size
    have hlt := h1.lt.1
    simp only [World.size_alloc] at hlt
    have A1 : Hid (At w (w1.alloc (.cells #[.string n1, .string n2] 9)) w1.heap.size a0 a1 b0 b1 [] 4611686018427387904) :=
      ⟨(((Keeps.refl (S := No) w).alloc _).alloc _).trans (k1.alloc _) (fun _ _ h => h), by
        have h := h1.kept (S := No) ((Keeps.refl (S := No) w1).alloc (.cells #[.string n1, .string n2] 9)) (fun h => h) (fun h => h)
        simpa using h, (k1.alloc _).cellsAt (by simp [go_sem]), (k1.alloc _).cellsAt (by simp [go_sem]), by simp [go_sem], by omega⟩
    clear k1 h1 hsz hlt
    go_wp2
    go_loopw [9] (fun q wr => ∃ (i : Nat) (room : Int), i ≤ 2 ∧ 4611686018427387904 - 200000 * (i : Int) ≤ room ∧ q = .int .i64 i ∧ At w wr w1.heap.size a0 a1 b0 b1 (fsS a0 a1 b0 b1 i) room) (fun q _ => 2 - (intOf q).toNat)
    case atStart => exact ⟨0, _, by omega, by omega, rfl, A1.out⟩
    case round =>
      obtain ⟨i, room, hi, hroom, rfl, hA⟩ := hrel
      by_cases hlt : i < 2
      · have HA := Lib.hid hA
        have Hr := Lib.hid hroom
        clear hA hroom hi A1
        rcases (show i = 0 ∨ i = 1 by omega) with rfl | rfl
        · clear hlt
          have p1 := cellsAt_cell HA.out.qn 0 _ rfl
          have p2 := cellsAt_cell HA.out.qa 0 _ rfl
          have p3 := cellsAt_cell HA.out.qb 0 _ rfl
          go_wp2_with fail
          go_region_held3 (fun w' => w'.cell? ⟨w1.heap.size, 0, none⟩ = some (.string n1) ∧ w'.cell? ⟨w.heap.size, 0, none⟩ = some (.string a0) ∧ w'.cell? ⟨w.heap.size + 1, 0, none⟩ = some (.string b0)) (exact ⟨p1, p2, p3⟩)
            (first
              | (go_at_call 14
                 have hc := (append_all HA.out.drew.d n1 a0 Fi.none 6 (open_ok (find_no n1_ok rfl)) (.inr ⟨rfl, by show 0 < 64; omega⟩) n1_ok.2 ⟨by decide, by decide⟩ (by have := Hb.out; have : Fi.none.s.size = 0 := rfl; omega) (by have := Hb.out; have := Hr.out; omega) (by show 1 ≤ 64; omega))
                 with_reducible refine hc.mono ?_
                 clear hc
                 rintro e w2 ⟨rfl, h2, k2⟩
                 rw [with_none] at h2
                 have A2 : Hid (At w w2 w1.heap.size a0 a1 b0 b1 [([111, 110, 101], ⟨a0, 0⟩)] (room - a0.size)) := HA.out.drew.two k2 h2
                 clear h2 k2 p1 p2 p3
                 have p1 := cellsAt_cell A2.out.qn 0 _ rfl
                 have p2 := cellsAt_cell A2.out.qa 0 _ rfl
                 have p3 := cellsAt_cell A2.out.qb 0 _ rfl)
              | (go_at_call 14
                 have hc := (append_all A3.out.d n1 b0 ⟨a0, a0.size⟩ 0 (open_ok (find_ok n1_ok rfl)) (.inl rfl) n1_ok.2 ⟨by have := Hb.out; show a0.size ≤ _; omega, Nat.le_refl _⟩ (by have := Hb.out; show (a0.size : Int) + _ ≤ _; omega) (by have := Hb.out; have := Hr.out; omega) (by show 1 ≤ 64; omega))
                 with_reducible refine hc.mono ?_
                 clear hc
                 rintro e w4 ⟨rfl, h4, k4⟩
                 have A4 : Hid (At w w4 w1.heap.size a0 a1 b0 b1 (fsS a0 a1 b0 b1 1) (room - a0.size - b0.size)) := A3.out.two k4 h4
                 clear h4 k4 p1 p2 p3
                 have p1 := cellsAt_cell A4.out.qn 0 _ rfl
                 have p2 := cellsAt_cell A4.out.qa 0 _ rfl
                 have p3 := cellsAt_cell A4.out.qb 0 _ rfl)
              | (go_at_call 15
                 refine (sync_ok A2.out.d n1 ⟨a0, 0⟩ (open_ok (find_ok n1_ok rfl)) rfl n1_ok.2).mono ?_
                 rintro e w3 ⟨rfl, h3, k3⟩
                 have A3 : Hid (At w w3 w1.heap.size a0 a1 b0 b1 [([111, 110, 101], ⟨a0, a0.size⟩)] (room - a0.size)) := A2.out.two (own_two k3) h3
                 clear h3 k3 p1 p2 p3
                 have p1 := cellsAt_cell A3.out.qn 0 _ rfl
                 have p2 := cellsAt_cell A3.out.qa 0 _ rfl
                 have p3 := cellsAt_cell A3.out.qb 0 _ rfl))
          all_goals
            clear p1 p2 p3
            go_wp2
            go_roundw
            case rel => exact ⟨1, _, by omega, by have := Hb.out; have := Hr.out; omega, by go_num, A4.out⟩
            case measure => simp [intOf]
        · clear hlt
          have p1 := cellsAt_cell HA.out.qn 1 _ rfl
          have p2 := cellsAt_cell HA.out.qa 1 _ rfl
          have p3 := cellsAt_cell HA.out.qb 1 _ rfl
          go_wp2_with fail
          go_region_held3 (fun w' => w'.cell? ⟨w1.heap.size, 1, none⟩ = some (.string n2) ∧ w'.cell? ⟨w.heap.size, 1, none⟩ = some (.string a1) ∧ w'.cell? ⟨w.heap.size + 1, 1, none⟩ = some (.string b1)) (exact ⟨p1, p2, p3⟩)
            (first
              | (go_at_call 14
                 have hc := (append_all HA.out.drew.d n2 a1 Fi.none 6 (open_ok (find_no n2_ok rfl)) (.inr ⟨rfl, by show 1 < 64; omega⟩) n2_ok.2 ⟨by decide, by decide⟩ (by have := Hb.out; have : Fi.none.s.size = 0 := rfl; omega) (by have := Hb.out; have := Hr.out; omega) (by show 2 ≤ 64; omega))
                 with_reducible refine hc.mono ?_
                 clear hc
                 rintro e w2 ⟨rfl, h2, k2⟩
                 rw [with_none] at h2
                 have A2 : Hid (At w w2 w1.heap.size a0 a1 b0 b1 [([111, 110, 101], ⟨a0 ++ b0, a0.size⟩), ([116, 119, 111], ⟨a1, 0⟩)] (room - a1.size)) := HA.out.drew.two k2 h2
                 clear h2 k2 p1 p2 p3
                 have p1 := cellsAt_cell A2.out.qn 1 _ rfl
                 have p2 := cellsAt_cell A2.out.qa 1 _ rfl
                 have p3 := cellsAt_cell A2.out.qb 1 _ rfl)
              | (go_at_call 14
                 have hc := (append_all A3.out.d n2 b1 ⟨a1, a1.size⟩ 0 (open_ok (find_ok n2_ok rfl)) (.inl rfl) n2_ok.2 ⟨by have := Hb.out; show a1.size ≤ _; omega, Nat.le_refl _⟩ (by have := Hb.out; show (a1.size : Int) + _ ≤ _; omega) (by have := Hb.out; have := Hr.out; omega) (by show 2 ≤ 64; omega))
                 with_reducible refine hc.mono ?_
                 clear hc
                 rintro e w4 ⟨rfl, h4, k4⟩
                 have A4 : Hid (At w w4 w1.heap.size a0 a1 b0 b1 (fsS a0 a1 b0 b1 2) (room - a1.size - b1.size)) := A3.out.two k4 h4
                 clear h4 k4 p1 p2 p3
                 have p1 := cellsAt_cell A4.out.qn 1 _ rfl
                 have p2 := cellsAt_cell A4.out.qa 1 _ rfl
                 have p3 := cellsAt_cell A4.out.qb 1 _ rfl)
              | (go_at_call 15
                 refine (sync_ok A2.out.d n2 ⟨a1, 0⟩ (open_ok (find_ok n2_ok rfl)) rfl n2_ok.2).mono ?_
                 rintro e w3 ⟨rfl, h3, k3⟩
                 have A3 : Hid (At w w3 w1.heap.size a0 a1 b0 b1 [([111, 110, 101], ⟨a0 ++ b0, a0.size⟩), ([116, 119, 111], ⟨a1, a1.size⟩)] (room - a1.size)) := A2.out.two (own_two k3) h3
                 clear h3 k3 p1 p2 p3
                 have p1 := cellsAt_cell A3.out.qn 1 _ rfl
                 have p2 := cellsAt_cell A3.out.qa 1 _ rfl
                 have p3 := cellsAt_cell A3.out.qb 1 _ rfl))
          all_goals
            clear p1 p2 p3
            go_wp2
            go_roundw
            case rel => exact ⟨2, _, by omega, by have := Hb.out; have := Hr.out; omega, by go_num, A4.out⟩
            case measure => simp [intOf]
      · obtain rfl : i = 2 := by omega
        have HA := Lib.hid hA
        have Hr := Lib.hid hroom
        clear hA hroom hi A1 hlt
        go_wp2_with fail
        refine (crash_any HA.out.d keep).mono ?_
        rintro e w2 ⟨rfl, h2, k2⟩
        have B2 : Hid (At w w2 w1.heap.size a0 a1 b0 b1 [([111, 110, 101], crashF keep ⟨a0 ++ b0, a0.size⟩), ([116, 119, 111], crashF keep ⟨a1 ++ b1, a1.size⟩)] 4611686018427387904) := HA.out.two k2 h2
        clear h2 k2 HA Hr
        go_wp2
        go_loopw [10] (fun q wr => ∃ (i : Nat), i ≤ 2 ∧ q = .int .i64 i ∧ At w wr w1.heap.size a0 a1 b0 b1 [([111, 110, 101], crashF keep ⟨a0 ++ b0, a0.size⟩), ([116, 119, 111], crashF keep ⟨a1 ++ b1, a1.size⟩)] 4611686018427387904) (fun q _ => 2 - (intOf q).toNat)
        case atStart => exact ⟨0, by omega, rfl, B2.out⟩
        case round =>
          obtain ⟨i, hi, rfl, hB⟩ := hrel
          by_cases hlt : i < 2
          · have HB := Lib.hid hB
            clear hB hi B2
            rcases (show i = 0 ∨ i = 1 by omega) with rfl | rfl
            · clear hlt
              have p1 := cellsAt_cell HB.out.qn 0 _ rfl
              go_wp2_with fail
              refine (read_any HB.out.d n1 (crashF keep ⟨a0 ++ b0, a0.size⟩) 0 (find_ok n1_ok rfl)).mono ?_
              rintro e w3 ⟨rfl, k3⟩
              have A3 := Lib.hid (HB.out.no k3)
              clear k3 p1
              have p1 := cellsAt_cell A3.out.qn 0 _ rfl
              go_wp2_with fail
              refine (size_any A3.out.d n1 (crashF keep ⟨a0 ++ b0, a0.size⟩) 0 (find_ok n1_ok rfl)).mono ?_
              rintro e w4 ⟨rfl, k4⟩
              have A4 := Lib.hid (A3.out.no k4)
              clear k4 p1
              have p2 := cellsAt_cell A4.out.qa 0 _ rfl
              have p3 := cellsAt_cell A4.out.qb 0 _ rfl
              obtain ⟨C, hC⟩ : ∃ C, C = crashK keep ⟨a0 ++ b0, a0.size⟩ := ⟨_, rfl⟩
              have hcf : crashF keep ⟨a0 ++ b0, a0.size⟩ = ⟨(a0 ++ b0).extract 0 C, C⟩ := by rw [hC]; rfl
              rw [hcf]
              have hCv : (C : Int) = (a0.size : Int) + max 0 (min keep (b0.size : Int)) := by
                rw [hC]
                unfold crashK
                show ((a0.size + (max 0 (min keep (((a0 ++ b0).size : Int) - a0.size))).toNat : Nat) : Int) = _
                rw [ByteArray.size_append]
                omega
              have hwn : wrap64 ((a0.size : Int) + max 0 (min keep (b0.size : Int))) = (C : Int) := by
                rw [← hCv]
                exact IntWalk.wrap64_in _ ⟨by omega, by have := Hb.out; omega⟩
              have hwn2 : IntKind.i64.wrap ((a0.size : Int) + max 0 (min keep (b0.size : Int))) = (C : Int) := by
                rw [← hCv, IntKind.wrap_i64]
                have := Hb.out
                omega
              have hCle : (C : Int) ≤ (((a0 ++ b0).size : Nat) : Int) := by rw [ByteArray.size_append]; omega
              have hC0 : (0 : Int) ≤ (C : Int) := by omega
              have hcat : ∀ W : World, (Op.stringOp .add a0 b0).run Try.prog W = .ok (.string (a0 ++ b0)) W := fun W => run_string_add_sum W _ _ (by have := Hb.out; omega)
              have hxs : ((a0 ++ b0).extract 0 C).size = C := by rw [ByteArray.size_extract]; omega
              obtain ⟨t, ht⟩ : ∃ t, t = a0 ++ b0 := ⟨_, rfl⟩
              rw [← ht] at hcat hCle hxs ⊢
              clear ht hC hcf hCv
              go_wp2_with fail
              go_still (by kernel_rfl)
              go_wp2_with fail
              refine wp_world ?_
              intro W hW
              have AW : Hid (At w W w1.heap.size a0 a1 b0 b1 [([111, 110, 101], crashF keep ⟨a0 ++ b0, a0.size⟩), ([116, 119, 111], crashF keep ⟨a1 ++ b1, a1.size⟩)] 4611686018427387904) := by rw [hW]; exact A4.out.drew
              clear p2 p3 hW A4 A3 HB
              have p2 := cellsAt_cell AW.out.qa 0 _ rfl
              have p3 := cellsAt_cell AW.out.qb 0 _ rfl
              go_still (by kernel_rfl)
              go_wp2
              go_roundw
              case rel => exact ⟨1, by omega, by go_num, AW.out.drew⟩
              case measure => simp [intOf]
            · clear hlt
              have p1 := cellsAt_cell HB.out.qn 1 _ rfl
              go_wp2_with fail
              refine (read_any HB.out.d n2 (crashF keep ⟨a1 ++ b1, a1.size⟩) 0 (find_ok n2_ok rfl)).mono ?_
              rintro e w3 ⟨rfl, k3⟩
              have A3 := Lib.hid (HB.out.no k3)
              clear k3 p1
              have p1 := cellsAt_cell A3.out.qn 1 _ rfl
              go_wp2_with fail
              refine (size_any A3.out.d n2 (crashF keep ⟨a1 ++ b1, a1.size⟩) 0 (find_ok n2_ok rfl)).mono ?_
              rintro e w4 ⟨rfl, k4⟩
              have A4 := Lib.hid (A3.out.no k4)
              clear k4 p1
              have p2 := cellsAt_cell A4.out.qa 1 _ rfl
              have p3 := cellsAt_cell A4.out.qb 1 _ rfl
              obtain ⟨C, hC⟩ : ∃ C, C = crashK keep ⟨a1 ++ b1, a1.size⟩ := ⟨_, rfl⟩
              have hcf : crashF keep ⟨a1 ++ b1, a1.size⟩ = ⟨(a1 ++ b1).extract 0 C, C⟩ := by rw [hC]; rfl
              rw [hcf]
              have hCv : (C : Int) = (a1.size : Int) + max 0 (min keep (b1.size : Int)) := by
                rw [hC]
                unfold crashK
                show ((a1.size + (max 0 (min keep (((a1 ++ b1).size : Int) - a1.size))).toNat : Nat) : Int) = _
                rw [ByteArray.size_append]
                omega
              have hwn : wrap64 ((a1.size : Int) + max 0 (min keep (b1.size : Int))) = (C : Int) := by
                rw [← hCv]
                exact IntWalk.wrap64_in _ ⟨by omega, by have := Hb.out; omega⟩
              have hwn2 : IntKind.i64.wrap ((a1.size : Int) + max 0 (min keep (b1.size : Int))) = (C : Int) := by
                rw [← hCv, IntKind.wrap_i64]
                have := Hb.out
                omega
              have hCle : (C : Int) ≤ (((a1 ++ b1).size : Nat) : Int) := by rw [ByteArray.size_append]; omega
              have hC0 : (0 : Int) ≤ (C : Int) := by omega
              have hcat : ∀ W : World, (Op.stringOp .add a1 b1).run Try.prog W = .ok (.string (a1 ++ b1)) W := fun W => run_string_add_sum W _ _ (by have := Hb.out; omega)
              have hxs : ((a1 ++ b1).extract 0 C).size = C := by rw [ByteArray.size_extract]; omega
              obtain ⟨t, ht⟩ : ∃ t, t = a1 ++ b1 := ⟨_, rfl⟩
              rw [← ht] at hcat hCle hxs ⊢
              clear ht hC hcf hCv
              go_wp2_with fail
              go_still (by kernel_rfl)
              go_wp2_with fail
              refine wp_world ?_
              intro W hW
              have AW : Hid (At w W w1.heap.size a0 a1 b0 b1 [([111, 110, 101], crashF keep ⟨a0 ++ b0, a0.size⟩), ([116, 119, 111], crashF keep ⟨a1 ++ b1, a1.size⟩)] 4611686018427387904) := by rw [hW]; exact A4.out.drew
              clear p2 p3 hW A4 A3 HB
              have p2 := cellsAt_cell AW.out.qa 1 _ rfl
              have p3 := cellsAt_cell AW.out.qb 1 _ rfl
              go_still (by kernel_rfl)
              go_wp2
              go_roundw
              case rel => exact ⟨2, by omega, by go_num, AW.out.drew⟩
              case measure => simp [intOf]
          · obtain rfl : i = 2 := by omega
            have HB := Lib.hid hB
            clear hB hi hlt B2
            go_wp2_with fail
            refine (awake_any _).mono ?_
            rintro e w3 ⟨rfl, k3⟩
            have hfin : Hid (Keeps No w w3) := HB.out.k.trans k3 (fun _ _ h => h)
            clear k3
            go_wp2
            go_ret
            exact ⟨rfl, hfin.out⟩
  · have hsm : decide ((100000 : Int) < (a0.size : Int) + (a1.size : Int) + (b0.size : Int) + (b1.size : Int)) = true := decide_eq_true (by omega)
    clear wa wb wc wd hbig
    go_enter Try.func3, Try.ntmps3
    go_wp2_with fail
    refine (awake_any _).mono ?_
    rintro e w1 ⟨rfl, k1⟩
    have hfin : Hid (Keeps No w w1) := (((Keeps.refl (S := No) w).alloc _).alloc _).trans k1 (fun _ _ h => h)
    clear k1
    go_wp2
    go_ret
    exact ⟨rfl, hfin.out⟩

set_option maxRecDepth 100000 in
theorem lifted (os : Os) (started : os.Started) (H : Type) (enc : TypeId × Value → H) :
    ReturnsInHanded {} Try.checked os 3 .any (Rows.diskSureSpec.pre6 enc Try.prog Try.f3 Rows.diskSureRow.domain false) (Rows.diskSureSpec.post enc Try.prog Try.f3 false true false false) := by
  refine law_sized os started H enc (by kernel_rfl) Try.func3
    (ChangeSpec.witness6 (enc := enc) (C := Try.checked) false ⟨#[], #[.agg #[.string ByteArray.empty, .string ByteArray.empty], .agg #[.string ByteArray.empty, .string ByteArray.empty], .int .i64 0], []⟩ 8 (by kernel_rfl) (by kernel_rfl) (by kernel_rfl) (by kernel_rfl))
    (by decide +kernel) rfl Try.underlying4 rfl (fun ds h => by match ds, h with | [d1, d2, d3], _ => rfl) ?_
  intro W base args ds p hval hA hsz
  rw [Try.params3] at hA hval
  obtain ⟨v0, v1, v2, d0, d1, d2, p0, p1, p2, rfl, rfl, rfl, h0, h1, h2⟩ := trodAll_three hA
  obtain ⟨a, b, rfl, rfl⟩ := open_arr2 (hval 0 22 v0 rfl rfl) h0
  obtain ⟨c, d, rfl, rfl⟩ := open_arr2 (hval 1 22 v1 rfl rfl) h1
  obtain ⟨n, rfl, rfl, rfl, _⟩ := open_int Try.underlying3 (hval 2 3 v2 rfl rfl) h2
  obtain ⟨wa, wb⟩ := arr2_sized (hsz 0 22 _ rfl rfl)
  obtain ⟨wc, wd⟩ := arr2_sized (hsz 1 22 _ rfl rfl)
  exact walk a b c d wa wb wc wd n W

theorem holds : Rows.DiskSureSaid :=
  OpenClaim.holds_of_wide 3 Try.f3 rfl rfl rfl rfl rfl rfl rfl ⟨rfl, rfl, rfl, rfl, rfl⟩ rfl rfl rfl rfl rfl (by kernel_rfl) Try.func3 (by kernel_rfl)
    (of_decide_eq_true (by kernel_rfl)) (by unfold Func.isWrapper; first | (rw [if_pos (by decide +kernel)]; kernel_rfl) | (rw [if_neg (by decide +kernel)]; exact ⟨rfl, rfl⟩))
    (fun os started H enc _ => lifted os started H enc)
end Go.Proofs.Ytdckdndjddflfaa.diskSure
