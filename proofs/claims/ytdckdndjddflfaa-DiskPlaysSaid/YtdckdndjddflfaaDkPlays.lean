/-
  Whatever the deeds: DiskPlays returns true, and its argument reads behind the call as it read before. No conditions.
-/
import Derived.Test.YtdckdndjddflfaaDkAC
namespace Go.Proofs.Ytdckdndjddflfaa.diskPlays
open Go.ChangeShapes Go.WideShapes Go.ChangeAt Go.RowKit Go.Joins Go.Deep

set_option maxRecDepth 100000 in
set_option maxHeartbeats 4000000 in
theorem walk (v : Value) (l : List De) (w : World) (hv : RdOf cDe w v l) : Calls Try.prog 8 #[v] w fun e w' => e = .returned (.bool true) ∧ Keeps No w w' := by
  have Hv := Lib.hid hv
  clear hv
  go_enter Try.func8, Try.ntmps8
  go_wp2_with fail
  refine (new_any w).mono ?_
  rintro e w1 ⟨rfl, hd1, hk1⟩
  have hs1 := hk1.size
  have hlt1 := hd1.lt
  go_wp2_with fail
  refine calls_world ?_
  intro W hW
  have KW : Keeps No w1 W := by rw [hW]; exact (Keeps.refl _).alloc _
  have hsz : W.heap.size = w1.heap.size + 1 := by rw [hW]; simp
  have hqc : W.heap[w1.heap.size]? = some (.cells #[.slice none 0 0, .bool false, .int .i64 0, .bool false] 51 (0, 0)) := by rw [hW]; exact heap_alloc_new _ _
  have K0 := Lib.hid (hk1.trans KW (fun _ _ h => h))
  have DW := hd1.kept KW (fun h => h) (fun h => h)
  clear hW
  refine (few_any W v l (Hv.out.kept K0.out (fun _ _ h => h))).mono ?_
  rintro e w3 ⟨v', rfl, l', ho, h60, hsh, hk3⟩
  have hs3 := hk3.size
  have HB0 : Hid (BoX w3 (w.heap.size + 1) w.heap.size w1.heap.size w3.heap.size 0) := bo_new (DW.kept hk3 (fun h => h) (fun h => h)) (hk3.heap hqc (fun h => h)) (by omega) (by omega) (by omega) (by omega) (Nat.le_refl _)
  have HO := Lib.hid ho
  have HS := Lib.hid hsh
  have K3 := Lib.hid (K0.out.trans hk3 (fun _ _ h => h))
  have Hlt : Hid (w.heap.size + 1 < W.heap.size ∧ w1.heap.size < W.heap.size ∧ w.heap.size ≤ w1.heap.size ∧ w.heap.size ≤ w3.heap.size) := ⟨by omega, by omega, by omega, by have := K3.out.size; omega⟩
  obtain ⟨va, vc, rfl⟩ := ownsRow_slice ho
  clear ho hsh hk1 hk3 hd1 hlt1 hs1 KW hsz hqc DW hs3
  go_wp2
  go_loopw [5] (fun i wr => ∃ k : Nat, k ≤ l'.length ∧ i = .int .i64 k ∧ BoX wr (w.heap.size + 1) w.heap.size w1.heap.size w3.heap.size k ∧ OwnOf cDe 46 wr W.heap.size (.slice va l'.length vc) l' ∧ Keeps No w wr) (fun i _ => l'.length - (intOf i).toNat)
  case atStart => exact ⟨0, Nat.zero_le _, rfl, HB0.out, HO.out, K3.out⟩
  case round =>
    obtain ⟨k, hkl, rfl, ⟨v2, L, is, room, rr, dead, hbo⟩, hrow, hK⟩ := hrel
    have HB := Lib.hid hbo
    have HR := Lib.hid hrow
    have HK := Lib.hid hK
    clear hbo hrow hK
    by_cases hlt : k < l'.length
    · have hki : (k : Int) < (l'.length : Int) := by omega
      have hk0 : (0 : Int) ≤ (k : Int) := by omega
      have hk64 : (k : Int) ≤ 60 := by omega
      obtain ⟨g, off, rfl, _, _, hg⟩ := RdOf.addr cDe HR.out.reads (by omega)
      have c5 : cellsAt wr g (off + k * 5) 5 = some (dC l'[k].1) := RdOf.at cDe HR.out.reads k hlt
      have hwf := l'[k].2
      have hsz5 := HS.out _ (List.getElem_mem hlt)
      obtain ⟨d, hd⟩ : ∃ d, d = l'[k].1 := ⟨_, rfl⟩
      rw [← hd] at c5 hwf hsz5
      unfold dC at c5
      have hkc : k ≤ 1000 := by omega
      have Hlt2 := Lib.hid hlt
      clear hd hlt hkl
      go_wp2_with fail
      refine (step_any HB.out d hwf hsz5 hkc).mono ?_
      rintro e w4 ⟨rfl, v4, L4, is4, room4, rr4, dead4, hb4, hk4⟩
      have B4 := Lib.hid hb4
      have HPQ : Hid (∀ i, i < w.heap.size → ¬ PQ (w.heap.size + 1) w.heap.size w1.heap.size w3.heap.size i) := fun i hi h => by
        have := Hlt.out
        rcases h with h | h | h | h <;> omega
      have K4 : Hid (Keeps No w w4) := HK.out.trans hk4 (fun i hi h => HPQ.out i hi h)
      have R4 : Hid (OwnOf cDe 46 w4 W.heap.size (.slice (some ⟨g, off, none⟩) l'.length vc) l') := hk4.owns HR.out (fun i hi h => by
        have h1 := (HR.out.lt i hi).1
        have h2 := (HO.out.lt i hi).2
        have := Hlt.out
        rcases h with h | h | h | h <;> omega)
      clear hb4 hk4 c5
      go_wp2_with fail
      refine (alike_any B4.out).mono ?_
      rintro e w5 ⟨rfl, hk5⟩
      have B5 : Hid (BoX w5 (w.heap.size + 1) w.heap.size w1.heap.size w3.heap.size (k + 1)) := ⟨v4, L4, is4, room4, rr4, dead4, B4.out.no hk5⟩
      have K5 : Hid (Keeps No w w5) := K4.out.trans hk5 (fun _ _ h => h)
      have R5 := Lib.hid (hk5.owns R4.out (fun _ _ h => h))
      clear hk5
      go_wp2
      go_roundw
      case rel => exact ⟨k + 1, Hlt2.out, by go_num, B5.out, R5.out, K5.out⟩
      case measure => have := Hlt2.out; simp [intOf]; omega
    · obtain rfl : k = l'.length := by omega
      have hki : ¬ (l'.length : Int) < (l'.length : Int) := by omega
      clear hlt hkl
      go_wp2_with fail
      refine (awake_any _).mono ?_
      rintro e w5 ⟨rfl, hk5⟩
      have K5 : Hid (Keeps No w w5) := HK.out.trans hk5 (fun _ _ h => h)
      clear hk5
      go_wp2
      go_ret
      exact ⟨rfl, K5.out⟩

set_option maxRecDepth 100000 in
theorem lifted (os : Os) (started : os.Started) (H : Type) (enc : TypeId × Value → H) :
    ReturnsInHanded {} Try.checked os 8 .any (Rows.diskPlaysSpec.pre6 enc Try.prog Try.f8 Rows.diskPlaysRow.domain false) (Rows.diskPlaysSpec.post enc Try.prog Try.f8 false true false false) := by
  refine law_lifted os started H enc (by kernel_rfl) Try.func8
    (ChangeSpec.witness6 (enc := enc) (C := Try.checked) false ⟨#[], #[.slice none 0 0], []⟩ 8 (by kernel_rfl) (by kernel_rfl) (by kernel_rfl) (by kernel_rfl))
    (by decide +kernel) rfl Try.underlying4 rfl (fun ds h => by match ds, h with | [d1], _ => rfl) ?_
  intro W base args ds p hval hA
  rw [Try.params8] at hA hval
  obtain ⟨v0, d0, rfl, rfl, h0⟩ := trodAll_one hA
  obtain ⟨l, hl⟩ := open_deeds h0 (by obtain ⟨a, m, c, rfl⟩ := okWide_slice Try.underlying43 (hval 0 43 v0 rfl rfl); rfl)
  exact walk v0 l W hl

theorem holds : Rows.DiskPlaysSaid :=
  OpenClaim.holds_of_wide 8 Try.f8 rfl rfl rfl rfl rfl rfl rfl ⟨rfl, rfl, rfl, rfl, rfl⟩ rfl rfl rfl rfl rfl (by kernel_rfl) Try.func8 (by kernel_rfl)
    (of_decide_eq_true (by kernel_rfl)) (by unfold Func.isWrapper; first | (rw [if_pos (by decide +kernel)]; kernel_rfl) | (rw [if_neg (by decide +kernel)]; exact ⟨rfl, rfl⟩))
    (fun os started H enc _ => lifted os started H enc)
end Go.Proofs.Ytdckdndjddflfaa.diskPlays
