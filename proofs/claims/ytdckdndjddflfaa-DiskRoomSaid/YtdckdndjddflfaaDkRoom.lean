/-
  Whatever the number and the bytes: DiskRoom returns true, and its arguments read behind the call as they read before. No conditions.
-/
import Derived.Test.YtdckdndjddflfaaDkI
import Derived.Laws.BytesArg
namespace Go.Proofs.Ytdckdndjddflfaa.diskRoom
open Go.ChangeShapes Go.WideShapes Go.ChangeAt Go.RowKit Go.Joins Go.Deep

theorem Try.infoU8 : (Try.prog.info? 5).map (fun i => (i.zero, i.size, i.bytes)) = some (some (.int .u8 0), 1, 1) := by kernel_rfl
abbrev nF : ByteArray := ⟨#[102]⟩
theorem nF_ok : NmOk nF := ⟨by decide, by decide⟩
theorem with_none (s : ByteArray) : withS Fi.none s = ⟨s, 0⟩ := by
  have : (⟨#[]⟩ : ByteArray) ++ s = s := by apply ByteArray.ext; simp [ByteArray.data_append]
  show (⟨_, 0⟩ : Fi) = _
  rw [this]

/-- the name of the i-th file -/
def nm (i : Nat) : Nm := [110, UInt8.ofNat (48 + i / 10), UInt8.ofNat (48 + i % 10)]
abbrev nmB (i : Nat) : ByteArray := ⟨(nm i).toArray⟩
/-- f, and i files more -/
def fsR (F : Fi) (i : Nat) : Fs := ([102], F) :: (List.range i).map fun j => (nm (j + 1), (⟨⟨#[]⟩, 0⟩ : Fi))
theorem fsR_length (F : Fi) (i : Nat) : (fsR F i).length = i + 1 := by simp [fsR]
theorem nm_after : ∀ i, i < 63 → bytesBefore [102] (nm (i + 1)) = true ∧ ∀ j, j < i → bytesBefore (nm (j + 1)) (nm (i + 1)) = true := by decide +kernel
theorem fsR_before (F : Fi) (i : Nat) (hi : i < 63) : ∀ a ∈ fsR F i, bytesBefore a.1 (nm (i + 1)) = true := by
  intro a ha
  have h := nm_after i hi
  unfold fsR at ha
  rcases List.mem_cons.1 ha with rfl | ha
  · exact h.1
  · obtain ⟨j, hj, rfl⟩ := List.mem_map.1 ha
    exact h.2 j (List.mem_range.1 hj)
theorem get_last {fs : Fs} {n : Nm} (h : ∀ a ∈ fs, bytesBefore a.1 n = true) : getF fs n = none := by
  unfold getF
  simp
  intro a x hx
  simpa [isNm] using before_ne (h _ hx)
theorem put_last {fs : Fs} {n : Nm} (f : Fi) (h : ∀ a ∈ fs, bytesBefore a.1 n = true) : putF fs n f = fs ++ [(n, f)] := by
  have := putF_new (A := fs) (B := []) (n := n) (f := f) h (by simp)
  rwa [List.append_nil] at this
theorem fsR_put (F : Fi) (i : Nat) (hi : i < 63) : putF (fsR F i) (nm (i + 1)) ⟨⟨#[]⟩, 0⟩ = fsR F (i + 1) := by
  rw [put_last _ (fsR_before F i hi)]
  unfold fsR
  rw [List.range_succ, List.map_append]
  rfl
theorem nm_ok : ∀ i, i < 64 → (nm i).length = 3 := fun _ _ => rfl

structure At (w wi : World) (p b : Nat) (fs : Fs) (room : Int) : Prop where
  k : Keeps No w wi
  d : DiskAt wi p b fs room false
  hp : w.heap.size ≤ p
  hb : w.heap.size ≤ b
  r : 0 ≤ room
theorem At.two {w wi wj : World} {p b : Nat} {fs fs' : Fs} {room room' : Int} (h : At w wi p b fs room) (hk : Keeps (Two p b) wi wj) (hd : DiskAt wj p b fs' room' false) (hr : 0 ≤ room') : At w wj p b fs' room' :=
  ⟨two_new h.k hk h.hp h.hb, hd, h.hp, h.hb, hr⟩
theorem At.no {w wi wj : World} {p b : Nat} {fs : Fs} {room : Int} (h : At w wi p b fs room) (hk : Keeps No wi wj) : At w wj p b fs room :=
  ⟨h.k.trans hk (fun _ _ h => h), h.d.kept hk (fun h => h) (fun h => h), h.hp, h.hb, h.r⟩
theorem zeros_run {w : World} {g base K : Nat} (h : w.ownsRow base 5 1 (.slice (some ⟨g, 0, none⟩) K K) K (madeCells (Value.int .u8 0).cells (K * 1)).toList) : (convert 38 9 (.slice (some ⟨g, 0, none⟩) K K)).run Try.prog w = .ok (.string (strOfNums (List.replicate K 0))) w := by
  refine run_convert_bytes_arg w _ _ Try.underlying38 Try.underlying5 g 0 K K (List.replicate K 0) (by simp) (fun i hi => ?_) _ Try.underlying9
  rw [Nat.zero_add, h.cellAt i (by omega)]
  have : (madeCells (Value.int .u8 0).cells (K * 1)).toList[i]? = some (.int .u8 0) := by
    rw [show (Value.int IntKind.u8 0).cells = #[Value.int .u8 0] from rfl, toList_madeCells_one, Nat.mul_one]
    simp [hi]
  rw [this]
  simp [List.getD, hi]
theorem two_run (w : World) (x y : Int) : (convert 38 9 (.slice (some ⟨w.heap.size, 0, none⟩) 2 2)).run Try.prog (w.alloc (.cells #[.int .u8 x, .int .u8 y] 5)) = .ok (.string (strOfNums [x, y])) (w.alloc (.cells #[.int .u8 x, .int .u8 y] 5)) := by
  refine run_convert_bytes_arg _ _ _ Try.underlying38 Try.underlying5 w.heap.size 0 2 2 [x, y] rfl (fun i hi => ?_) _ Try.underlying9
  have h := heap_alloc_new w (.cells #[.int .u8 x, .int .u8 y] 5)
  match i, hi with
  | 0, _ => simp only [World.cell?]; rw [h]; rfl
  | 1, _ => simp only [World.cell?]; rw [h]; rfl
theorem nm_is (i : Nat) : (⟨#[110]⟩ : ByteArray) ++ strOfNums [48 + (i : Int) / 10, 48 + (i : Int) % 10] = nmB i := by
  have e1 : (48 + (i : Int) / 10).toNat = 48 + i / 10 := by omega
  have e2 : (48 + (i : Int) % 10).toNat = 48 + i % 10 := by omega
  apply bytes_of
  simp [ByteArray.data_append, strOfNums, e1, e2, nm]
theorem get_mem {fs : Fs} {n : Nm} {f : Fi} (hr : Rising fs) (h : (n, f) ∈ fs) : getF fs n = some f := by
  obtain ⟨A, B, rfl⟩ := List.append_of_mem h
  exact getF_mid hr
theorem put_len {fs : Fs} {n : Nm} {f g : Fi} (hr : Rising fs) (h : getF fs n = some f) : (putF fs n g).length = fs.length := by
  obtain ⟨A, B, rfl⟩ := split_at h
  rw [putF_mid hr]
  simp
theorem mem_put_ne {fs : Fs} {n : Nm} {f : Fi} {p : Nm × Fi} (h : p ∈ fs) (hn : p.1 ≠ n) : p ∈ putF fs n f := by
  refine mem_insF.2 (.inr (List.mem_filter.2 ⟨h, ?_⟩))
  simpa [isNm] using hn
theorem fsR_mem (F : Fi) (j : Nat) (hj : j < 63) : (nm (j + 1), (⟨⟨#[]⟩, 0⟩ : Fi)) ∈ fsR F 63 := by
  unfold fsR
  exact List.mem_cons_of_mem _ (List.mem_map.2 ⟨j, List.mem_range.2 hj, rfl⟩)
theorem nm_z : ∀ j, j < 63 → bytesBefore (nm (j + 1)) [122] = true := by decide +kernel
theorem fsR_z (F : Fi) : ∀ a ∈ fsR F 63, bytesBefore a.1 [122] = true := by
  intro a ha
  unfold fsR at ha
  rcases List.mem_cons.1 ha with rfl | ha
  · rfl
  · obtain ⟨j, hj, rfl⟩ := List.mem_map.1 ha
    exact nm_z j (List.mem_range.1 hj)
theorem zeros_str (K : Nat) : (strOfNums (List.replicate K 0)).size = K := by rw [strOfNums_size]; simp

set_option maxRecDepth 100000 in
set_option maxHeartbeats 8000000 in
theorem walk (n : Int) (s : ByteArray) (hs : s.size ≤ maxLen) (w : World) : Calls Try.prog 5 #[.int .i64 n, .string s] w fun e w' => e = .returned (.bool true) ∧ Keeps No w w' := by
  obtain ⟨i0, hi, hz0, hz1, hz2⟩ := info_parts Try.infoU8
  obtain ⟨K, hK, hK2⟩ : ∃ K : Nat, (wrap64 (n.tmod 4194304 + 4194304)).tmod 4194304 = (K : Int) ∧ K < 4194304 := by
    have h1 := Int.tmod_lt_of_pos n (show (0 : Int) < 4194304 by omega)
    have h2 := Int.lt_tmod_of_pos n (show (0 : Int) < 4194304 by omega)
    have e : wrap64 (n.tmod 4194304 + 4194304) = n.tmod 4194304 + 4194304 := IntWalk.wrap64_in _ ⟨by omega, by omega⟩
    rw [e]
    have h3 := Int.tmod_lt_of_pos (n.tmod 4194304 + 4194304) (show (0 : Int) < 4194304 by omega)
    have h4 := Int.tmod_nonneg (a := n.tmod 4194304 + 4194304) 4194304 (by omega)
    exact ⟨((n.tmod 4194304 + 4194304).tmod 4194304).toNat, by omega, by omega⟩
  have Hs := Lib.hid hs
  have HK := Lib.hid hK2
  clear hs hK2
  obtain ⟨Z, hZ⟩ : ∃ Z, Z = strOfNums (List.replicate K 0) := ⟨_, rfl⟩
  have HZ : Hid (Z.size = K) := by rw [hZ]; exact Lib.hid (zeros_str K)
  have HZe := Lib.hid hZ
  clear hZ
  go_enter Try.func5, Try.ntmps5
  go_wp2_with fail
  refine (new_any _).mono ?_
  rintro e w1 ⟨rfl, h1, k1⟩
  have A1 : Hid (At w w1 (w.heap.size + 1) w.heap.size [] 4611686018427387904) := ⟨k1, h1, by omega, by omega, by omega⟩
  clear k1 h1
  go_wp2_with (at_make; refine wpList_make_full _ rfl _ _ 38 rfl w.heap.size 5 i0 (.int .u8 0) 1 Try.underlying38 hi hz0 hz1 _ _ _ _ K rfl rfl rfl rfl (by rw [hz2]; have := HK.out; omega) (by unfold maxLen; have := HK.out; omega) A1.out.k.size ?_; intro w2 hrow2 hg2; have hcv := zeros_run hrow2; rw [← HZe.out] at hcv; have A2 := Lib.hid (A1.out.no ((Keeps.refl (S := No) w1).grown hg2 (fun k hk _ => by cases hk))); clear hrow2 hg2)
  refine (append_all A2.out.d nF Z Fi.none 6 (open_ok (find_no nF_ok rfl)) (.inr ⟨rfl, by decide⟩) nF_ok.2 ⟨by decide, by decide⟩ (by have := HZ.out; have := HK.out; have : Fi.none.s.size = 0 := rfl; omega) (by have := HZ.out; have := HK.out; omega) (by show 1 ≤ 64; omega)).mono ?_
  rintro e w3 ⟨rfl, h3, k3⟩
  rw [with_none] at h3
  have A3 : Hid (At w w3 (w.heap.size + 1) w.heap.size (fsR ⟨Z, 0⟩ 0) (4611686018427387904 - Z.size)) := A2.out.two k3 h3 (by have := HZ.out; have := HK.out; omega)
  clear h3 k3 A1 A2 hcv
  by_cases hbig : 4194304 < s.size
  · have hb1 : decide ((4194304 : Int) < (s.size : Int)) = true := decide_eq_true (by omega)
    clear hbig
    go_wp2_with fail
    refine (awake_any _).mono ?_
    rintro e w4 ⟨rfl, k4⟩
    have hfin : Hid (Keeps No w w4) := A3.out.k.trans k4 (fun _ _ h => h)
    clear k4
    go_wp2
    go_ret
    exact ⟨rfl, hfin.out⟩
  · have hb1 : decide ((4194304 : Int) < (s.size : Int)) = false := decide_eq_false (by omega)
    have Hbig : Hid (s.size ≤ 4194304) := Lib.hid (by omega)
    clear hbig
    have hws : wrap64 ((K : Int) + (s.size : Int)) = (K : Int) + (s.size : Int) := IntWalk.wrap64_in _ ⟨by omega, by have := HK.out; have := Hbig.out; omega⟩
    have hgF : getF (fsR ⟨Z, 0⟩ 0) nF.data.toList = some ⟨Z, 0⟩ := one_get _ _
    by_cases hfit : K + s.size ≤ 4194304
    · have hf1 : decide ((K : Int) + (s.size : Int) ≤ 4194304) = true := decide_eq_true (by omega)
      have Hfit := Lib.hid hfit
      clear hfit
      go_wp2_with fail
      refine (append_all A3.out.d nF s ⟨Z, 0⟩ 0 (open_ok (find_ok nF_ok hgF)) (.inl rfl) nF_ok.2 ⟨by have := HZ.out; have := HK.out; show Z.size ≤ _; omega, Nat.zero_le _⟩ (by have := HZ.out; have := Hfit.out; show (Z.size : Int) + _ ≤ _; omega) (by have := HZ.out; have := HK.out; have := Hbig.out; omega) (by show 1 ≤ 64; omega)).mono ?_
      rintro e w4 ⟨rfl, h4, k4⟩
      have hz4 : (Z ++ s).size = K + s.size := by rw [ByteArray.size_append, HZ.out]
      have A4 : Hid (At w w4 (w.heap.size + 1) w.heap.size (fsR ⟨Z ++ s, 0⟩ 0) (4611686018427387904 - Z.size - s.size)) := A3.out.two k4 h4 (by have := HZ.out; have := HK.out; have := Hbig.out; omega)
      clear h4 k4 A3
      go_wp2_with fail
      refine (size_any A4.out.d nF ⟨Z ++ s, 0⟩ 0 (find_ok nF_ok (one_get _ _))).mono ?_
      rintro e w5 ⟨rfl, k5⟩
      have A5 := Lib.hid (A4.out.no k5)
      clear k5 A4
      go_wp2
      obtain ⟨X, room, hA6⟩ : ∃ X room, At w w5 (w.heap.size + 1) w.heap.size (fsR X 0) room ∧ 10 ≤ room := ⟨_, _, A5.out, by have := HZ.out; have := HK.out; have := Hbig.out; omega⟩
      have A6 := Lib.hid hA6
      clear hA6 A5
      clear hws hf1 hb1
      go_loopw [12] (fun q wr => ∃ (j : Nat) (room : Int), j ≤ 63 ∧ q = .int .i64 ((j + 1 : Nat) : Int) ∧ At w wr (w.heap.size + 1) w.heap.size (fsR X j) room ∧ 10 ≤ room) (fun q _ => 64 - (intOf q).toNat)
      case atStart => exact ⟨0, room, by omega, rfl, A6.out.1, A6.out.2⟩
      case round =>
        obtain ⟨j, rm, hj, rfl, hA, hrm⟩ := hrel
        have Hrm := Lib.hid hrm
        clear hrm
        have HA := Lib.hid hA
        clear hA A6
        by_cases hlt : j < 63
        · obtain ⟨i, hij⟩ : ∃ i, i = j + 1 := ⟨_, rfl⟩
          rw [← hij]
          have hi64 : (i : Int) < 64 := by omega
          have hi0 : (0 : Int) ≤ (i : Int) := by omega
          have hq : Int.tdiv (i : Int) 10 = ((i / 10 : Nat) : Int) := by rfl
          have hr : Int.tmod (i : Int) 10 = ((i % 10 : Nat) : Int) := by rfl
          have Hij := Lib.hid hij
          clear hij hlt hj
          obtain ⟨Y, hY⟩ : ∃ Y, Y = strOfNums [48 + (i : Int) / 10, 48 + (i : Int) % 10] := ⟨_, rfl⟩
          have hcv : (convert 38 9 (.slice (some ⟨wr.heap.size, 0, none⟩) 2 2)).run Try.prog (wr.alloc (.cells #[.int .u8 (48 + (i : Int) / 10), .int .u8 (48 + (i : Int) % 10)] 5)) = .ok (.string Y) (wr.alloc (.cells #[.int .u8 (48 + (i : Int) / 10), .int .u8 (48 + (i : Int) % 10)] 5)) := by rw [hY]; exact two_run wr _ _
          have hnm : (⟨#[110]⟩ : ByteArray) ++ Y = nmB i := by rw [hY]; exact nm_is i
          have hcat : ∀ W : World, (Op.stringOp .add ⟨#[110]⟩ Y).run Try.prog W = .ok (.string (nmB i)) W := fun W => by rw [← hnm]; exact run_string_add_sum W _ _ (by rw [hY, strOfNums_size]; show 1 + 2 ≤ 9223372036854775807; omega)
          have HB := Lib.hid (HA.out.no ((Keeps.refl (S := No) wr).alloc (.cells #[.int .u8 (48 + (i : Int) / 10), .int .u8 (48 + (i : Int) % 10)] 5)))
          have Hj : Hid (j < 63) := Lib.hid (by have := Hij.out; omega)
          have hname : nm i = nm (j + 1) := by rw [← Hij.out]
          have Hname := Lib.hid hname
          clear hY hnm HA hname
          go_wp2_with fail
          refine (append_all HB.out.d (nmB i) ⟨#[]⟩ Fi.none 6 (open_ok (find_no ⟨by show 1 ≤ 3; omega, by show 3 ≤ 32; omega⟩ (by show getF (fsR X j) (nm i) = none; rw [Hname.out]; exact get_last (fsR_before X j Hj.out)))) (.inr ⟨rfl, by rw [fsR_length]; have := Hj.out; omega⟩) (by show 3 ≤ 32; omega) ⟨by decide, by decide⟩ (by decide) (by have := HB.out.r; show (0 : Int) ≤ rm; omega) (by show (putF (fsR X j) (nm i) (withS Fi.none ⟨#[]⟩)).length ≤ 64; rw [Hname.out, show withS Fi.none ⟨#[]⟩ = ⟨⟨#[]⟩, 0⟩ from rfl, fsR_put X j Hj.out, fsR_length]; have := Hj.out; omega)).mono ?_
          rintro e w7 ⟨rfl, h7, k7⟩
          have h7' : DiskAt w7 (w.heap.size + 1) w.heap.size (putF (fsR X j) (nm i) (withS Fi.none ⟨#[]⟩)) (rm - 0) false := h7
          rw [Hname.out, show withS Fi.none ⟨#[]⟩ = ⟨⟨#[]⟩, 0⟩ from rfl, fsR_put X j Hj.out] at h7'
          have A7 := Lib.hid (HB.out.two k7 h7' (by have := HB.out.r; omega))
          clear h7 h7' k7 HB hcv hcat
          go_wp2
          go_roundw
          case rel => exact ⟨j + 1, _, by have := Hj.out; omega, by rw [show ((j + 1 + 1 : Nat) : Int) = (i : Int) + 1 by have := Hij.out; omega], A7.out, by have := Hrm.out; omega⟩
          case measure => simp [intOf]; omega
        · obtain rfl : j = 63 := by omega
          clear hlt hj
          have hrs := HA.out.d.rising
          have g1 : getF (fsR X 63) [110, 48, 49] = some ⟨⟨#[]⟩, 0⟩ := get_mem hrs (fsR_mem X 0 (by omega))
          have HG1 := Lib.hid g1
          have Hrs := Lib.hid hrs
          clear hrs g1
          go_wp2_with fail
          refine (append_full1 HA.out.d ⟨#[122]⟩ ⟨#[]⟩ Fi.none 6 (open_ok (find_no ⟨by decide, by decide⟩ (get_last (fsR_z X)))) rfl (by rw [fsR_length]; omega)).mono ?_
          rintro e w7 ⟨rfl, k7⟩
          have A7 := Lib.hid (HA.out.no k7)
          clear k7 HA
          go_wp2_with fail
          refine (append_all A7.out.d ⟨#[110, 48, 49]⟩ ⟨#[120]⟩ ⟨⟨#[]⟩, 0⟩ 0 (open_ok (find_ok ⟨by decide, by decide⟩ HG1.out)) (.inl rfl) (by decide) ⟨by decide, by decide⟩ (by decide) (by have := Hrm.out; show (1 : Int) ≤ rm; omega) (Nat.le_trans (putF_length_some HG1.out) A7.out.d.few)).mono ?_
          rintro e w8 ⟨rfl, h8, k8⟩
          obtain ⟨G, hG⟩ : ∃ G, G = putF (fsR X 63) [110, 48, 49] (withS ⟨⟨#[]⟩, 0⟩ ⟨#[120]⟩) := ⟨_, rfl⟩
          have h8' : DiskAt w8 (w.heap.size + 1) w.heap.size G (rm - 1) false := by rw [hG]; exact h8
          have hG64 : G.length = 64 := by rw [hG, put_len Hrs.out HG1.out, fsR_length]
          have hG2 : ((([110, 48, 50] : Nm), (⟨⟨#[]⟩, 0⟩ : Fi)) ∈ G) := by rw [hG]; exact mem_put_ne (fsR_mem X 1 (by omega)) (by decide)
          have hGz : ∀ a ∈ G, bytesBefore a.1 [122] = true := by
            intro a ha
            rw [hG] at ha
            rcases mem_putF ha with rfl | ha
            · rfl
            · exact fsR_z X a ha
          have A8 := Lib.hid (A7.out.two k8 h8' (by have := Hrm.out; omega))
          have HG2 := Lib.hid (get_mem A8.out.d.rising hG2)
          have HGz := Lib.hid hGz
          clear h8 h8' k8 A7 hG hG2 hGz HG1 Hrs
          go_wp2_with fail
          refine (files_any A8.out.d).mono ?_
          rintro e w9 ⟨v, rfl, hv, k9⟩
          obtain ⟨va, vc, rfl⟩ := ownsRow_slice hv
          have A9 := Lib.hid (A8.out.no k9)
          clear hv k9 A8
          go_wp2_with fail
          refine (remove_ok A9.out.d ⟨#[110, 48, 50]⟩ ⟨⟨#[]⟩, 0⟩ (open_ok (find_ok ⟨by decide, by decide⟩ HG2.out)) (by decide)).mono ?_
          rintro e w10 ⟨rfl, h10, k10⟩
          have hl10 := delF_lt HG2.out
          have A10 := Lib.hid (A9.out.two (own_two k10) h10 A9.out.r)
          have Hl10 : Hid ((delF G [110, 48, 50]).length < 64) := Lib.hid (by omega)
          clear h10 k10 A9 hl10
          go_wp2_with fail
          refine (append_all A10.out.d ⟨#[122]⟩ ⟨#[]⟩ Fi.none 6 (open_ok (find_no ⟨by decide, by decide⟩ (get_last (fun a ha => HGz.out a (List.mem_filter.1 ha).1)))) (.inr ⟨rfl, Hl10.out⟩) (by decide) ⟨by decide, by decide⟩ (by decide) (by have := A10.out.r; show (0 : Int) ≤ _; omega) (by have := putF_length_le (delF G [110, 48, 50]) [122] (withS Fi.none ⟨#[]⟩); have := Hl10.out; show (putF (delF G [110, 48, 50]) [122] (withS Fi.none ⟨#[]⟩)).length ≤ 64; omega)).mono ?_
          rintro e w11 ⟨rfl, h11, k11⟩
          have K11 : Hid (Keeps No w w11) := two_new A10.out.k k11 A10.out.hp A10.out.hb
          clear h11 k11 A10
          go_wp2_with fail
          refine (awake_any _).mono ?_
          rintro e w12 ⟨rfl, k12⟩
          have hfin : Hid (Keeps No w w12) := K11.out.trans k12 (fun _ _ h => h)
          clear k12
          go_wp2
          go_ret
          exact ⟨rfl, hfin.out⟩
    · have hf1 : decide ((K : Int) + (s.size : Int) ≤ 4194304) = false := decide_eq_false (by omega)
      have Hfit : Hid (4194304 < K + s.size) := Lib.hid (by omega)
      clear hfit
      go_wp2_with fail
      refine (append_full2 A3.out.d nF s ⟨Z, 0⟩ 0 (open_ok (find_ok nF_ok hgF)) (.inl rfl) (by have := HZ.out; have := HK.out; show Z.size ≤ _; omega) (by have := HZ.out; have := Hfit.out; show (4194304 : Int) < (Z.size : Int) + _; omega)).mono ?_
      rintro e w4 ⟨rfl, k4⟩
      have hz4 : Z.size = K := HZ.out
      have A4 := Lib.hid (A3.out.no k4)
      clear k4 A3
      go_wp2_with fail
      refine (size_any A4.out.d nF ⟨Z, 0⟩ 0 (find_ok nF_ok (one_get _ _))).mono ?_
      rintro e w5 ⟨rfl, k5⟩
      have A5 := Lib.hid (A4.out.no k5)
      clear k5 A4
      go_wp2
      obtain ⟨X, room, hA6⟩ : ∃ X room, At w w5 (w.heap.size + 1) w.heap.size (fsR X 0) room ∧ 10 ≤ room := ⟨_, _, A5.out, by have := HZ.out; have := HK.out; have := Hbig.out; omega⟩
      have A6 := Lib.hid hA6
      clear hA6 A5
      clear hws hf1 hb1
      go_loopw [12] (fun q wr => ∃ (j : Nat) (room : Int), j ≤ 63 ∧ q = .int .i64 ((j + 1 : Nat) : Int) ∧ At w wr (w.heap.size + 1) w.heap.size (fsR X j) room ∧ 10 ≤ room) (fun q _ => 64 - (intOf q).toNat)
      case atStart => exact ⟨0, room, by omega, rfl, A6.out.1, A6.out.2⟩
      case round =>
        obtain ⟨j, rm, hj, rfl, hA, hrm⟩ := hrel
        have Hrm := Lib.hid hrm
        clear hrm
        have HA := Lib.hid hA
        clear hA A6
        by_cases hlt : j < 63
        · obtain ⟨i, hij⟩ : ∃ i, i = j + 1 := ⟨_, rfl⟩
          rw [← hij]
          have hi64 : (i : Int) < 64 := by omega
          have hi0 : (0 : Int) ≤ (i : Int) := by omega
          have hq : Int.tdiv (i : Int) 10 = ((i / 10 : Nat) : Int) := by rfl
          have hr : Int.tmod (i : Int) 10 = ((i % 10 : Nat) : Int) := by rfl
          have Hij := Lib.hid hij
          clear hij hlt hj
          obtain ⟨Y, hY⟩ : ∃ Y, Y = strOfNums [48 + (i : Int) / 10, 48 + (i : Int) % 10] := ⟨_, rfl⟩
          have hcv : (convert 38 9 (.slice (some ⟨wr.heap.size, 0, none⟩) 2 2)).run Try.prog (wr.alloc (.cells #[.int .u8 (48 + (i : Int) / 10), .int .u8 (48 + (i : Int) % 10)] 5)) = .ok (.string Y) (wr.alloc (.cells #[.int .u8 (48 + (i : Int) / 10), .int .u8 (48 + (i : Int) % 10)] 5)) := by rw [hY]; exact two_run wr _ _
          have hnm : (⟨#[110]⟩ : ByteArray) ++ Y = nmB i := by rw [hY]; exact nm_is i
          have hcat : ∀ W : World, (Op.stringOp .add ⟨#[110]⟩ Y).run Try.prog W = .ok (.string (nmB i)) W := fun W => by rw [← hnm]; exact run_string_add_sum W _ _ (by rw [hY, strOfNums_size]; show 1 + 2 ≤ 9223372036854775807; omega)
          have HB := Lib.hid (HA.out.no ((Keeps.refl (S := No) wr).alloc (.cells #[.int .u8 (48 + (i : Int) / 10), .int .u8 (48 + (i : Int) % 10)] 5)))
          have Hj : Hid (j < 63) := Lib.hid (by have := Hij.out; omega)
          have hname : nm i = nm (j + 1) := by rw [← Hij.out]
          have Hname := Lib.hid hname
          clear hY hnm HA hname
          go_wp2_with fail
          refine (append_all HB.out.d (nmB i) ⟨#[]⟩ Fi.none 6 (open_ok (find_no ⟨by show 1 ≤ 3; omega, by show 3 ≤ 32; omega⟩ (by show getF (fsR X j) (nm i) = none; rw [Hname.out]; exact get_last (fsR_before X j Hj.out)))) (.inr ⟨rfl, by rw [fsR_length]; have := Hj.out; omega⟩) (by show 3 ≤ 32; omega) ⟨by decide, by decide⟩ (by decide) (by have := HB.out.r; show (0 : Int) ≤ rm; omega) (by show (putF (fsR X j) (nm i) (withS Fi.none ⟨#[]⟩)).length ≤ 64; rw [Hname.out, show withS Fi.none ⟨#[]⟩ = ⟨⟨#[]⟩, 0⟩ from rfl, fsR_put X j Hj.out, fsR_length]; have := Hj.out; omega)).mono ?_
          rintro e w7 ⟨rfl, h7, k7⟩
          have h7' : DiskAt w7 (w.heap.size + 1) w.heap.size (putF (fsR X j) (nm i) (withS Fi.none ⟨#[]⟩)) (rm - 0) false := h7
          rw [Hname.out, show withS Fi.none ⟨#[]⟩ = ⟨⟨#[]⟩, 0⟩ from rfl, fsR_put X j Hj.out] at h7'
          have A7 := Lib.hid (HB.out.two k7 h7' (by have := HB.out.r; omega))
          clear h7 h7' k7 HB hcv hcat
          go_wp2
          go_roundw
          case rel => exact ⟨j + 1, _, by have := Hj.out; omega, by rw [show ((j + 1 + 1 : Nat) : Int) = (i : Int) + 1 by have := Hij.out; omega], A7.out, by have := Hrm.out; omega⟩
          case measure => simp [intOf]; omega
        · obtain rfl : j = 63 := by omega
          clear hlt hj
          have hrs := HA.out.d.rising
          have g1 : getF (fsR X 63) [110, 48, 49] = some ⟨⟨#[]⟩, 0⟩ := get_mem hrs (fsR_mem X 0 (by omega))
          have HG1 := Lib.hid g1
          have Hrs := Lib.hid hrs
          clear hrs g1
          go_wp2_with fail
          refine (append_full1 HA.out.d ⟨#[122]⟩ ⟨#[]⟩ Fi.none 6 (open_ok (find_no ⟨by decide, by decide⟩ (get_last (fsR_z X)))) rfl (by rw [fsR_length]; omega)).mono ?_
          rintro e w7 ⟨rfl, k7⟩
          have A7 := Lib.hid (HA.out.no k7)
          clear k7 HA
          go_wp2_with fail
          refine (append_all A7.out.d ⟨#[110, 48, 49]⟩ ⟨#[120]⟩ ⟨⟨#[]⟩, 0⟩ 0 (open_ok (find_ok ⟨by decide, by decide⟩ HG1.out)) (.inl rfl) (by decide) ⟨by decide, by decide⟩ (by decide) (by have := Hrm.out; show (1 : Int) ≤ rm; omega) (Nat.le_trans (putF_length_some HG1.out) A7.out.d.few)).mono ?_
          rintro e w8 ⟨rfl, h8, k8⟩
          obtain ⟨G, hG⟩ : ∃ G, G = putF (fsR X 63) [110, 48, 49] (withS ⟨⟨#[]⟩, 0⟩ ⟨#[120]⟩) := ⟨_, rfl⟩
          have h8' : DiskAt w8 (w.heap.size + 1) w.heap.size G (rm - 1) false := by rw [hG]; exact h8
          have hG64 : G.length = 64 := by rw [hG, put_len Hrs.out HG1.out, fsR_length]
          have hG2 : ((([110, 48, 50] : Nm), (⟨⟨#[]⟩, 0⟩ : Fi)) ∈ G) := by rw [hG]; exact mem_put_ne (fsR_mem X 1 (by omega)) (by decide)
          have hGz : ∀ a ∈ G, bytesBefore a.1 [122] = true := by
            intro a ha
            rw [hG] at ha
            rcases mem_putF ha with rfl | ha
            · rfl
            · exact fsR_z X a ha
          have A8 := Lib.hid (A7.out.two k8 h8' (by have := Hrm.out; omega))
          have HG2 := Lib.hid (get_mem A8.out.d.rising hG2)
          have HGz := Lib.hid hGz
          clear h8 h8' k8 A7 hG hG2 hGz HG1 Hrs
          go_wp2_with fail
          refine (files_any A8.out.d).mono ?_
          rintro e w9 ⟨v, rfl, hv, k9⟩
          obtain ⟨va, vc, rfl⟩ := ownsRow_slice hv
          have A9 := Lib.hid (A8.out.no k9)
          clear hv k9 A8
          go_wp2_with fail
          refine (remove_ok A9.out.d ⟨#[110, 48, 50]⟩ ⟨⟨#[]⟩, 0⟩ (open_ok (find_ok ⟨by decide, by decide⟩ HG2.out)) (by decide)).mono ?_
          rintro e w10 ⟨rfl, h10, k10⟩
          have hl10 := delF_lt HG2.out
          have A10 := Lib.hid (A9.out.two (own_two k10) h10 A9.out.r)
          have Hl10 : Hid ((delF G [110, 48, 50]).length < 64) := Lib.hid (by omega)
          clear h10 k10 A9 hl10
          go_wp2_with fail
          refine (append_all A10.out.d ⟨#[122]⟩ ⟨#[]⟩ Fi.none 6 (open_ok (find_no ⟨by decide, by decide⟩ (get_last (fun a ha => HGz.out a (List.mem_filter.1 ha).1)))) (.inr ⟨rfl, Hl10.out⟩) (by decide) ⟨by decide, by decide⟩ (by decide) (by have := A10.out.r; show (0 : Int) ≤ _; omega) (by have := putF_length_le (delF G [110, 48, 50]) [122] (withS Fi.none ⟨#[]⟩); have := Hl10.out; show (putF (delF G [110, 48, 50]) [122] (withS Fi.none ⟨#[]⟩)).length ≤ 64; omega)).mono ?_
          rintro e w11 ⟨rfl, h11, k11⟩
          have K11 : Hid (Keeps No w w11) := two_new A10.out.k k11 A10.out.hp A10.out.hb
          clear h11 k11 A10
          go_wp2_with fail
          refine (awake_any _).mono ?_
          rintro e w12 ⟨rfl, k12⟩
          have hfin : Hid (Keeps No w w12) := K11.out.trans k12 (fun _ _ h => h)
          clear k12
          go_wp2
          go_ret
          exact ⟨rfl, hfin.out⟩

set_option maxRecDepth 100000 in
theorem lifted (os : Os) (started : os.Started) (H : Type) (enc : TypeId × Value → H) :
    ReturnsInHanded {} Try.checked os 5 .any (Rows.diskRoomSpec.pre6 enc Try.prog Try.f5 Rows.diskRoomRow.domain false) (Rows.diskRoomSpec.post enc Try.prog Try.f5 false true false false) := by
  refine law_lifted os started H enc (by kernel_rfl) Try.func5
    (ChangeSpec.witness6 (enc := enc) (C := Try.checked) false ⟨#[], #[.int .i64 0, .string ByteArray.empty], []⟩ 8 (by kernel_rfl) (by kernel_rfl) (by kernel_rfl) (by kernel_rfl))
    (by decide +kernel) rfl Try.underlying4 rfl (fun ds h => by match ds, h with | [d1, d2], _ => rfl) ?_
  intro W base args ds p hval hA
  rw [Try.params5] at hA hval
  obtain ⟨v0, v1, d0, d1, p0, p1, rfl, rfl, rfl, h0, h1⟩ := trodAll_two hA
  obtain ⟨n, rfl, rfl, rfl, _⟩ := open_int Try.underlying3 (hval 0 3 v0 rfl rfl) h0
  obtain ⟨s, rfl, _, _, ws⟩ := ChangeMaps.open_string Try.underlying9 (hval 1 9 v1 rfl rfl) h1
  exact walk n s ws W

theorem holds : Rows.DiskRoomSaid :=
  OpenClaim.holds_of_wide 5 Try.f5 rfl rfl rfl rfl rfl rfl rfl ⟨rfl, rfl, rfl, rfl, rfl⟩ rfl rfl rfl rfl rfl (by kernel_rfl) Try.func5 (by kernel_rfl)
    (of_decide_eq_true (by kernel_rfl)) (by unfold Func.isWrapper; first | (rw [if_pos (by decide +kernel)]; kernel_rfl) | (rw [if_neg (by decide +kernel)]; exact ⟨rfl, rfl⟩))
    (fun os started H enc _ => lifted os started H enc)
end Go.Proofs.Ytdckdndjddflfaa.diskRoom
