/-
  Chapter 6's examples: true. No conditions of its own.
-/
import Derived.Test.YtdckdndjddflfaaDkF
namespace Go.Proofs.Ytdckdndjddflfaa
open Go.RowKit

abbrev nA : ByteArray := ⟨#[97]⟩
abbrev nB : ByteArray := ⟨#[98]⟩
/-- .. and nothing that was there is touched: the disk is the call's own -/
theorem two_new {w0 w w' : World} {p b : Nat} (h : Keeps No w0 w) (k : Keeps (Two p b) w w') (hp : w0.heap.size ≤ p) (hb : w0.heap.size ≤ b) : Keeps No w0 w' :=
  h.trans k (fun i hi hS => by rcases hS with rfl | rfl <;> omega)
theorem own_two {w w' : World} {p b : Nat} (k : Keeps (Own b) w w') : Keeps (Two p b) w w' := k.mono (fun _ _ h => .inr h)

set_option maxRecDepth 100000 in
set_option maxHeartbeats 4000000 in
theorem awake_any (w : World) : Calls Try.prog 12 #[] w fun e w' => e = .returned (.bool true) ∧ Keeps No w w' := by
  go_enter Try.func12, Try.ntmps12
  go_wp2_with fail
  refine (new_any w).mono ?_
  rintro e w1 ⟨rfl, h1, k1⟩
  have K1 := Lib.hid k1
  clear k1
  go_wp2_with fail
  refine (append_all h1 nA ⟨#[120, 121]⟩ Fi.none 6 rfl (.inr ⟨rfl, by decide⟩) (by decide) ⟨by decide, by decide⟩ (by decide) (by decide) (by decide)).mono ?_
  rintro e w2 ⟨rfl, h2, k2⟩
  have K2 : Hid (Keeps No w w2) := two_new K1.out k2 (by omega) (by omega)
  have H2 : Hid (DiskAt w2 (w.heap.size + 1) w.heap.size [([97], ⟨⟨#[120, 121]⟩, 0⟩)] (4611686018427387904 - 2) false) := h2
  clear h1 h2 k2 K1
  go_wp2_with fail
  refine (sync_ok H2.out nA ⟨⟨#[120, 121]⟩, 0⟩ rfl rfl (by decide)).mono ?_
  rintro e w3 ⟨rfl, h3, k3⟩
  have K3 : Hid (Keeps No w w3) := two_new K2.out (own_two (p := w.heap.size) k3) (by omega) (by omega)
  have H3 : Hid (DiskAt w3 (w.heap.size + 1) w.heap.size [([97], ⟨⟨#[120, 121]⟩, 2⟩)] (4611686018427387904 - 2) false) := h3
  clear h3 k3 K2 H2
  go_wp2_with fail
  refine (append_all H3.out nA ⟨#[122, 118]⟩ ⟨⟨#[120, 121]⟩, 2⟩ 0 rfl (.inl rfl) (by decide) ⟨by decide, by decide⟩ (by decide) (by decide) (by decide)).mono ?_
  rintro e w4 ⟨rfl, h4, k4⟩
  have K4 : Hid (Keeps No w w4) := two_new K3.out k4 (by omega) (by omega)
  have H4 : Hid (DiskAt w4 (w.heap.size + 1) w.heap.size [([97], ⟨⟨#[120, 121, 122, 118]⟩, 2⟩)] (4611686018427387904 - 2 - 2) false) := h4
  clear h4 k4 K3 H3
  go_wp2_with fail
  refine (append_all H4.out nB ⟨#[119]⟩ Fi.none 6 rfl (.inr ⟨rfl, by decide⟩) (by decide) ⟨by decide, by decide⟩ (by decide) (by decide) (by decide)).mono ?_
  rintro e w5 ⟨rfl, h5, k5⟩
  have K5 : Hid (Keeps No w w5) := two_new K4.out k5 (by omega) (by omega)
  have H5 : Hid (DiskAt w5 (w.heap.size + 1) w.heap.size [([97], ⟨⟨#[120, 121, 122, 118]⟩, 2⟩), ([98], ⟨⟨#[119]⟩, 0⟩)] (4611686018427387904 - 2 - 2 - 1) false) := h5
  clear h5 k5 K4 H4
  go_wp2_with fail
  refine (crash_any H5.out 1).mono ?_
  rintro e w6 ⟨rfl, h6, k6⟩
  have K6 : Hid (Keeps No w w6) := two_new K5.out k6 (by omega) (by omega)
  have H6 : Hid (DiskAt w6 (w.heap.size + 1) w.heap.size [([97], ⟨⟨#[120, 121, 122]⟩, 3⟩), ([98], ⟨⟨#[119]⟩, 1⟩)] 4611686018427387904 false) := h6
  clear h6 k6 K5 H5
  go_wp2_with fail
  refine (read_any H6.out nA ⟨⟨#[120, 121, 122]⟩, 3⟩ 0 rfl).mono ?_
  rintro e w7 ⟨rfl, k7⟩
  have H7 := Lib.hid (H6.out.kept k7 (fun h => h) (fun h => h))
  have K7 : Hid (Keeps No w w7) := K6.out.trans k7 (fun _ _ h => h)
  clear k7 K6 H6
  go_wp2_with fail
  refine (read_any H7.out nB ⟨⟨#[119]⟩, 1⟩ 0 rfl).mono ?_
  rintro e w8 ⟨rfl, k8⟩
  have H8 := Lib.hid (H7.out.kept k8 (fun h => h) (fun h => h))
  have K8 : Hid (Keeps No w w8) := K7.out.trans k8 (fun _ _ h => h)
  clear k8 K7 H7
  go_wp2_with fail
  refine (rename_no H8.out nA nB ⟨⟨#[120, 121, 122]⟩, 3⟩ ⟨⟨#[119]⟩, 1⟩ 0 rfl rfl (.inl rfl)).mono ?_
  rintro e w9 ⟨rfl, k9⟩
  have K9 : Hid (Keeps No w w9) := K8.out.trans k9 (fun _ _ h => h)
  clear k9 K8
  go_wp2
  go_ret
  exact ⟨rfl, K9.out⟩
end Go.Proofs.Ytdckdndjddflfaa
