/-
  Whatever the deeds and the name: DiskAsks returns true, and its arguments read behind the call as they read before. No conditions.
-/
import Derived.Test.YtdckdndjddflfaaDkAC
namespace Go.Proofs.Ytdckdndjddflfaa.diskAsks
open Go.ChangeShapes Go.WideShapes Go.ChangeAt Go.RowKit Go.Joins Go.Deep

/-- of any name: the same bytes, numbers and errors -/
theorem asks {w : World} {p b q base : Nat} {v : Value} {L : List Rf} {is : Bool} {room rr : Int} {dead : Bool} {cnt : Nat} (h : Bo w p b q base v L is room rr dead cnt) (n : ByteArray) :
    ∃ (s : ByteArray) (ec x y : Int), ∀ w1, Keeps No w w1 →
      (Calls Try.prog 17 #[dP p, .string n] w1 fun e w' => e = .returned (.tuple #[.string s, .int .i64 ec]) ∧ Keeps No w1 w') ∧
      (Calls Try.prog 28 #[dP q, .string n] w1 fun e w' => e = .returned (.tuple #[.string s, .int .i64 ec]) ∧ Keeps No w1 w') ∧
      (Calls Try.prog 18 #[dP p, .string n] w1 fun e w' => e = .returned (.tuple #[.int .i64 x, .int .i64 y, .int .i64 ec]) ∧ Keeps No w1 w') ∧
      (Calls Try.prog 29 #[dP q, .string n] w1 fun e w' => e = .returned (.tuple #[.int .i64 x, .int .i64 y, .int .i64 ec]) ∧ Keeps No w1 w') := by
  rcases both_find L n with ⟨h1, h2⟩ | ⟨h1, h2, _⟩ | ⟨A, r, B, hL, _, h1, h2, _⟩
  · exact ⟨⟨#[]⟩, 1, 0, 0, fun w1 hk => ⟨read_any (h.no hk).d n _ _ h1, calls_same (rread_err (h.no hk).r n _ h2 rfl), size_any (h.no hk).d n _ _ h1, calls_same (rsize_err (h.no hk).r n _ h2 rfl)⟩⟩
  · exact ⟨⟨#[]⟩, 6, 0, 0, fun w1 hk => ⟨read_any (h.no hk).d n _ _ h1, calls_same (rread_err (h.no hk).r n _ h2 rfl), size_any (h.no hk).d n _ _ h1, calls_same (rsize_err (h.no hk).r n _ h2 rfl)⟩⟩
  · have hf : FitsR r := h.fits (by rw [hL]; simp)
    exact ⟨r.sure ++ r.loose, 0, ((r.sure ++ r.loose).size : Nat), r.sure.size, fun w1 hk => ⟨read_any (h.no hk).d n _ _ h1, rread_ok (h.no hk).r hL hf n h2, size_any (h.no hk).d n _ _ h1, rsize_ok (h.no hk).r hL hf n h2⟩⟩

set_option maxRecDepth 100000 in
set_option maxHeartbeats 4000000 in
theorem walk (v : Value) (l : List De) (n : ByteArray) (w : World) (hv : RdOf cDe w v l) : Calls Try.prog 9 #[v, .string n] w fun e w' => e = .returned (.bool true) ∧ Keeps No w w' := by
  have Hv := Lib.hid hv
  clear hv
  go_enter Try.func9, Try.ntmps9
  go_wp2_with fail
  refine (new_any w).mono ?_
  rintro e w1 ⟨rfl, hd1, hk1⟩
  have hs1 := hk1.size
  have hlt1 := hd1.lt
  go_wp2_with fail
  refine calls_world ?_
  intro W hW
  have KW : Keeps No w1 W := by rw [hW]; exact (Keeps.refl _).alloc _
  have hsz : W.heap.size = w1.heap.size + 1 := by rw [hW]; simp
  have hqc : W.heap[w1.heap.size]? = some (.cells #[.slice none 0 0, .bool false, .int .i64 0, .bool false] 51 (0, 0)) := by rw [hW]; exact heap_alloc_new _ _
  have K0 := Lib.hid (hk1.trans KW (fun _ _ h => h))
  have DW := hd1.kept KW (fun h => h) (fun h => h)
  clear hW
  refine (few_any W v l (Hv.out.kept K0.out (fun _ _ h => h))).mono ?_
  rintro e w3 ⟨v', rfl, l', ho, h60, hsh, hk3⟩
  have hs3 := hk3.size
  have HB0 : Hid (BoX w3 (w.heap.size + 1) w.heap.size w1.heap.size w3.heap.size 0) := bo_new (DW.kept hk3 (fun h => h) (fun h => h)) (hk3.heap hqc (fun h => h)) (by omega) (by omega) (by omega) (by omega) (Nat.le_refl _)
  have HO := Lib.hid ho
  have HS := Lib.hid hsh
  have K3 := Lib.hid (K0.out.trans hk3 (fun _ _ h => h))
  have Hlt : Hid (w.heap.size + 1 < W.heap.size ∧ w1.heap.size < W.heap.size ∧ w.heap.size ≤ w1.heap.size ∧ w.heap.size ≤ w3.heap.size) := ⟨by omega, by omega, by omega, by have := K3.out.size; omega⟩
  obtain ⟨va, vc, rfl⟩ := ownsRow_slice ho
  clear ho hsh hk1 hk3 hd1 hlt1 hs1 KW hsz hqc DW hs3
  go_wp2
  go_loopw [7] (fun i wr => ∃ k : Nat, k ≤ l'.length ∧ i = .int .i64 k ∧ BoX wr (w.heap.size + 1) w.heap.size w1.heap.size w3.heap.size k ∧ OwnOf cDe 46 wr W.heap.size (.slice va l'.length vc) l' ∧ Keeps No w wr) (fun i _ => l'.length - (intOf i).toNat)
  case atStart => exact ⟨0, Nat.zero_le _, rfl, HB0.out, HO.out, K3.out⟩
  case round =>
    obtain ⟨k, hkl, rfl, ⟨v2, L, is, room, rr, dead, hbo⟩, hrow, hK⟩ := hrel
    have HB := Lib.hid hbo
    have HR := Lib.hid hrow
    have HK := Lib.hid hK
    clear hbo hrow hK
    by_cases hlt : k < l'.length
    · have hki : (k : Int) < (l'.length : Int) := by omega
      have hk0 : (0 : Int) ≤ (k : Int) := by omega
      have hk64 : (k : Int) ≤ 60 := by omega
      obtain ⟨g, off, rfl, _, _, hg⟩ := RdOf.addr cDe HR.out.reads (by omega)
      have c5 : cellsAt wr g (off + k * 5) 5 = some (dC l'[k].1) := RdOf.at cDe HR.out.reads k hlt
      have hwf := l'[k].2
      have hsz5 := HS.out _ (List.getElem_mem hlt)
      obtain ⟨d, hd⟩ : ∃ d, d = l'[k].1 := ⟨_, rfl⟩
      rw [← hd] at c5 hwf hsz5
      unfold dC at c5
      have hkc : k ≤ 1000 := by omega
      have Hlt2 := Lib.hid hlt
      clear hd hlt hkl
      go_wp2_with fail
      refine (step_any HB.out d hwf hsz5 hkc).mono ?_
      rintro e w4 ⟨rfl, v4, L4, is4, room4, rr4, dead4, hb4, hk4⟩
      have B4 := Lib.hid hb4
      have HPQ : Hid (∀ i, i < w.heap.size → ¬ PQ (w.heap.size + 1) w.heap.size w1.heap.size w3.heap.size i) := fun i hi h => by
        have := Hlt.out
        rcases h with h | h | h | h <;> omega
      have K4 : Hid (Keeps No w w4) := HK.out.trans hk4 (fun i hi h => HPQ.out i hi h)
      have R4 : Hid (OwnOf cDe 46 w4 W.heap.size (.slice (some ⟨g, off, none⟩) l'.length vc) l') := hk4.owns HR.out (fun i hi h => by
        have h1 := (HR.out.lt i hi).1
        have h2 := (HO.out.lt i hi).2
        have := Hlt.out
        rcases h with h | h | h | h <;> omega)
      clear hb4 hk4 c5
      have B5 : Hid (BoX w4 (w.heap.size + 1) w.heap.size w1.heap.size w3.heap.size (k + 1)) := ⟨v4, L4, is4, room4, rr4, dead4, B4.out⟩
      go_wp2
      go_roundw
      case rel => exact ⟨k + 1, Hlt2.out, by go_num, B5.out, R4.out, K4.out⟩
      case measure => have := Hlt2.out; simp [intOf]; omega
    · obtain rfl : k = l'.length := by omega
      have hki : ¬ (l'.length : Int) < (l'.length : Int) := by omega
      clear hlt hkl
      obtain ⟨s, ec, x, y, hasks⟩ := asks HB.out n
      have HA := Lib.hid hasks
      clear hasks
      go_wp2_with fail
      refine (HA.out wr (Keeps.refl _)).1.mono ?_
      rintro e w4 ⟨rfl, hk4⟩
      have J4 := Lib.hid hk4
      clear hk4
      go_wp2_with fail
      refine (HA.out w4 J4.out).2.1.mono ?_
      rintro e w5 ⟨rfl, hk5⟩
      have J5 : Hid (Keeps No wr w5) := J4.out.trans hk5 (fun _ _ h => h)
      clear hk5
      go_wp2_with fail
      refine (HA.out w5 J5.out).2.2.1.mono ?_
      rintro e w6 ⟨rfl, hk6⟩
      have J6 : Hid (Keeps No wr w6) := J5.out.trans hk6 (fun _ _ h => h)
      clear hk6
      go_wp2_with fail
      refine (HA.out w6 J6.out).2.2.2.mono ?_
      rintro e w7 ⟨rfl, hk7⟩
      have J7 : Hid (Keeps No wr w7) := J6.out.trans hk7 (fun _ _ h => h)
      clear hk7
      go_wp2_with fail
      refine (awake_any _).mono ?_
      rintro e w8 ⟨rfl, hk8⟩
      have K8 : Hid (Keeps No w w8) := HK.out.trans (J7.out.trans hk8 (fun _ _ h => h)) (fun _ _ h => h)
      clear hk8
      go_wp2
      go_ret
      exact ⟨rfl, K8.out⟩

set_option maxRecDepth 100000 in
theorem lifted (os : Os) (started : os.Started) (H : Type) (enc : TypeId × Value → H) :
    ReturnsInHanded {} Try.checked os 9 .any (Rows.diskAsksSpec.pre6 enc Try.prog Try.f9 Rows.diskAsksRow.domain false) (Rows.diskAsksSpec.post enc Try.prog Try.f9 false true false false) := by
  refine law_lifted os started H enc (by kernel_rfl) Try.func9
    (ChangeSpec.witness6 (enc := enc) (C := Try.checked) false ⟨#[], #[.slice none 0 0, .string ByteArray.empty], []⟩ 8 (by kernel_rfl) (by kernel_rfl) (by kernel_rfl) (by kernel_rfl))
    (by decide +kernel) rfl Try.underlying4 rfl (fun ds h => by match ds, h with | [d1, d2], _ => rfl) ?_
  intro W base args ds p hval hA
  rw [Try.params9] at hA hval
  obtain ⟨v0, v1, d0, d1, p0, p1, rfl, rfl, rfl, h0, h1⟩ := trodAll_two hA
  obtain ⟨l, hl⟩ := open_deeds h0 (by obtain ⟨a, m, c, rfl⟩ := okWide_slice Try.underlying43 (hval 0 43 v0 rfl rfl); rfl)
  obtain ⟨s, rfl, _⟩ := ChangeMaps.open_string Try.underlying9 (hval 1 9 v1 rfl rfl) h1
  exact walk v0 l s W hl

theorem holds : Rows.DiskAsksSaid :=
  OpenClaim.holds_of_wide 9 Try.f9 rfl rfl rfl rfl rfl rfl rfl ⟨rfl, rfl, rfl, rfl, rfl⟩ rfl rfl rfl rfl rfl (by kernel_rfl) Try.func9 (by kernel_rfl)
    (of_decide_eq_true (by kernel_rfl)) (by unfold Func.isWrapper; first | (rw [if_pos (by decide +kernel)]; kernel_rfl) | (rw [if_neg (by decide +kernel)]; exact ⟨rfl, rfl⟩))
    (fun os started H enc _ => lifted os started H enc)
end Go.Proofs.Ytdckdndjddflfaa.diskAsks
