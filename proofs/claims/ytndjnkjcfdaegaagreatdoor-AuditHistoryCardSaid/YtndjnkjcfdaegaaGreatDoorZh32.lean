/-
  slices.Insert of one record into a row of records that has no room. No conditions of its own.
-/
import Derived.Test.YtndjnkjcfdaegaaGreatDoorZh30
import Derived.Test.YtndjnkjcfdaegaaGreatDoorZh31
set_option linter.all false
namespace Go.Proofs.YtndjnkjcfdaegaaGreatDoor
open Go.RowKit Go.Shelf Go.Sort Go.Joins Go.Deep

abbrev rxC (x : Rc) : List Value := lrC x.r x.v
def Rc.zero : Rc := ⟨Lr.zero, none, 0, 0⟩
theorem Tryz.infoLog : (Tryz.prog.info? 68).map (fun i => (i.zero, i.size, i.bytes)) = some (some (.agg (rxC Rc.zero).toArray), 21, 184) := by kernel_rfl
theorem recs_owns {w' : World} {base g G n p : Nat} {l : List Rc} {b : Rc} {X : List Value} (hn : n = l.length) (hp : p < n) (hb : base ≤ g) (hnG : n + 1 ≤ G) (hG : G ≤ maxLen) (hX : X.length = G * 21) (ht : X.take ((n + 1) * 21) = rowsOf cRec (l.take p) ++ (rxC b ++ rowsOf cRec (l.drop p)))
    (h : w'.heap[g]? = some (.cells X.toArray 68 (0, 0))) : OwnOf cRec 68 w' base (.slice (some ⟨g, 0, none⟩) (n + 1) G) (l.take p ++ b :: l.drop p) := by
  have hl : (l.take p ++ b :: l.drop p).length = n + 1 := by simp; omega
  refine ⟨by rw [rowsOf_length], .inr ⟨g, G, X.toArray, by rw [hl], hb, h, by rw [hl]; exact hnG, hG, by simpa [cRec] using hX, ?_⟩⟩
  rw [hl, rowsOf_append, rowsOf_cons]
  exact ht

set_option maxRecDepth 100000 in
set_option maxHeartbeats 4000000 in
/-- within, without room -/
theorem recs_insert (w : World) (base g cap p : Nat) (l : List Rc) (hown : OwnOf cRec 68 w base (.slice (some ⟨g, 0, none⟩) l.length cap) l) (hl : l.length ≤ 1000) (hp : p < l.length) (hroom : cap < l.length + 1) (vb : Nat) (b : Rc) (hb : w.heap[vb]? = some (.cells (rxC b).toArray 68 (0, 0))) (hbase : base ≤ w.heap.size) :
    Calls Tryz.prog 25 #[.slice (some ⟨g, 0, none⟩) l.length cap, .int .i64 p, .slice (some ⟨vb, 0, none⟩) 1 1] w fun e w' =>
      ∃ G, e = .returned (.slice (some ⟨w.heap.size, 0, none⟩) (l.length + 1) G) ∧ OwnOf cRec 68 w' base (.slice (some ⟨w.heap.size, 0, none⟩) (l.length + 1) G) (l.take p ++ b :: l.drop p) ∧ Keeps No w w' := by
  obtain ⟨i0, hi, hz0, hz1, hz2⟩ := info_parts Tryz.infoLog
  have hr : RdOf cRec w (.slice (some ⟨g, 0, none⟩) l.length cap) l := hown.reads
  have hncap : l.length ≤ cap := by
    obtain ⟨_, ⟨he, _⟩ | ⟨g', cap', cur, he, _, _, h1, _⟩⟩ := hown
    · cases he
    · simp only [Value.slice.injEq] at he; omega
  have hgw : g < w.heap.size := by
    obtain ⟨_, ⟨he, _⟩ | ⟨g', cap', cur, he, _, hg, _⟩⟩ := hown
    · cases he
    · simp only [Value.slice.injEq, Option.some.injEq, Addr.mk.injEq, and_true, true_and] at he
      obtain ⟨rfl, _⟩ := he
      exact (Array.getElem?_eq_some_iff.1 hg).1
  have hvw : vb < w.heap.size := (Array.getElem?_eq_some_iff.1 hb).1
  obtain ⟨n, hn⟩ : ∃ n, n = l.length := ⟨_, rfl⟩
  have hcells : ∀ j v, (rowsOf cRec l)[j]? = some v → w.cell? ⟨g, j, none⟩ = some v := fun j v hj => by
    obtain ⟨b', off, c', he, _, _, _, hx⟩ := Reads.addr hr (by have := (List.getElem?_eq_some_iff.1 hj).1; omega)
    simp only [Value.slice.injEq, Option.some.injEq, Addr.mk.injEq, and_true, true_and] at he
    obtain ⟨⟨rfl, rfl⟩, _⟩ := he
    have := hx j v hj
    rwa [Nat.zero_add] at this
  rw [← hn] at hl hp hroom hncap ⊢
  have hTl : (rowsOf cRec (l.take p)).length = p * 21 := by rw [rowsOf_length, List.length_take, ← hn, Nat.min_eq_left (by omega)]; rfl
  have htk := rowsOf_take cRec l p
  rw [show cRec.size = 21 from rfl] at htk
  have hold : (Builtin.firstCells i0.size p (.slice (some ⟨g, 0, none⟩) p cap)).run Tryz.prog w.drew = .ok (rowsOf cRec (l.take p)).toArray w.drew := by
    rw [hz1]
    exact run_firstCells_some w.drew 21 p ⟨g, 0, none⟩ p cap _ hTl (fun j v hj => by
      rw [Addr.add_lit, Nat.zero_add]
      rw [← htk, List.getElem?_take] at hj
      split at hj
      · exact hcells j v hj
      · cases hj)
  have hkk : (n : Int) + 1 - (p : Int) = ((n + 1 - p : Nat) : Int) := by omega
  have hik : p + (n + 1 - p) = n + 1 := by omega
  have hrz : ∀ ty, (Builtin.append_ #[77, 3] ty #[.slice (some ⟨g, 0, none⟩) p cap, .int .i64 ((n : Int) + 1 - (p : Int))]).run Tryz.prog w =
      .ok (.slice (some ⟨w.heap.size, 0, none⟩) (n + 1) (grownCap w (n + 1) cap 68)) (w.drew.alloc (.cells ((rowsOf cRec (l.take p)).toArray ++ Builtin.zeroCells (Value.agg (rxC Rc.zero).toArray).cells (n + 1 - p) ++ Builtin.zeroCells (Value.agg (rxC Rc.zero).toArray).cells (grownCap w (n + 1) cap 68 - (n + 1))) 68)) := fun ty => by
    have h := Lib.run_append_grow_zeros w 77 3 ty 68 i0 _ .i64 .i64 Tryz.underlying77 Tryz.underlying3 hi hz0 (some ⟨g, 0, none⟩) p cap _ hold (n + 1 - p) (by omega) (by omega) (by omega) (by omega) (by rw [hz2]; omega) (by rw [hz2, hik]; exact growslice_fits hroom (by omega))
    rw [hik] at h
    rw [hkk]
    exact h
  obtain ⟨G, hG⟩ : ∃ G, G = grownCap w (n + 1) cap 68 := ⟨_, rfl⟩
  have hGn : n + 1 ≤ G := by rw [hG]; exact grownCap_ge w _ _ _
  have hGm : G ≤ maxLen := by rw [hG]; exact grownCap_le_maxLen w (n + 1) cap _ (by unfold maxLen; omega)
  rw [← hG] at hrz
  obtain ⟨X, hX⟩ : ∃ X : List Value, X = rowsOf cRec (l.take p) ++ ((Builtin.zeroCells (Value.agg (rxC Rc.zero).toArray).cells (n + 1 - p)).toList ++ (Builtin.zeroCells (Value.agg (rxC Rc.zero).toArray).cells (G - (n + 1))).toList) := ⟨_, rfl⟩
  have hXa : (rowsOf cRec (l.take p)).toArray ++ Builtin.zeroCells (Value.agg (rxC Rc.zero).toArray).cells (n + 1 - p) ++ Builtin.zeroCells (Value.agg (rxC Rc.zero).toArray).cells (G - (n + 1)) = X.toArray := by
    rw [hX]; simp
  have hXl : X.length = G * 21 := by
    have hzc : (Value.agg (rxC Rc.zero).toArray).cells.size = 21 := rfl
    rw [hX]
    simp only [List.length_append, Array.length_toList, size_zeroCells, hTl, hzc]
    omega
  have hXt : X.take (p * 21) = rowsOf cRec (l.take p) := by rw [hX, List.take_left' hTl]
  rw [hXa] at hrz
  obtain ⟨W1, hW1⟩ : ∃ W1, W1 = w.drew.alloc (.cells X.toArray 68) := ⟨_, rfl⟩
  rw [← hW1] at hrz
  have hk1 : Keeps No w W1 := by rw [hW1]; exact ((Keeps.refl w).drew).alloc _
  have hg1 : W1.heap[w.heap.size]? = some (.cells X.toArray 68 (0, 0)) := by rw [hW1]; exact heap_alloc_new w.drew _
  obtain ⟨D, hD⟩ : ∃ D, D = rowsOf cRec (l.drop p) := ⟨_, rfl⟩
  have hDl : D.length = (n - p) * 21 := by rw [hD, rowsOf_length, List.length_drop, ← hn]; rfl
  have hD1 : ∀ v ∈ D, v.oneCell' = true := by rw [hD]; exact rowsOf_ones cRec _
  have hDs : ∀ j v, D[j]? = some v → w.cell? ((⟨g, p * 21, none⟩ : Addr).add j) = some v := fun j v hj => by
    rw [Addr.add_lit]
    refine hcells _ _ ?_
    rw [← List.getElem?_drop]
    have := rowsOf_drop cRec l p
    rw [show cRec.size = 21 from rfl] at this
    rw [this, ← hD]; exact hj
  have hT : (Go.splice (Go.splice X (p * 21) (rxC b)) ((p + 1) * 21) D).take ((n + 1) * 21) = rowsOf cRec (l.take p) ++ (rxC b ++ rowsOf cRec (l.drop p)) := by
    have h := ins_grow X (rxC b) D (p * 21) 21 rfl (by rw [hDl, hXl]; omega)
    rw [hDl, show p * 21 + 21 = (p + 1) * 21 by omega, show (p + 1) * 21 + (n - p) * 21 = (n + 1) * 21 by omega] at h
    rw [h, hD, hXt]
  have hl1 : (Go.splice X (p * 21) (rxC b)).length = G * 21 := by rw [length_splice _ _ _ (by rw [hXl]; simp; omega), hXl]
  have hlen2 : (Go.splice (Go.splice X (p * 21) (rxC b)) ((p + 1) * 21) D).length = G * 21 := by
    rw [length_splice _ _ _ (by rw [hl1, hDl]; omega), hl1]
  have Hfin : Hid (∀ w', w'.heap[w.heap.size]? = some (.cells (Go.splice (Go.splice X (p * 21) (rxC b)) ((p + 1) * 21) D).toArray 68 (0, 0)) → OwnOf cRec 68 w' base (.slice (some ⟨w.heap.size, 0, none⟩) (n + 1) G) (l.take p ++ b :: l.drop p)) := fun w' h => recs_owns hn hp hbase hGn hGm hlen2 hT h
  have Hl1 := Lib.hid hl1
  have HDs := Lib.hid hDs
  have HD1 := Lib.hid hD1
  have HDl := Lib.hid hDl
  have HX := Lib.hid hXl
  have Hg1 := Lib.hid hg1
  have Hk1 := Lib.hid hk1
  have Hh := Lib.hid hb
  have hne2 : ((p : Int) == (n : Int)) = false := by simp; omega
  have hni : (n : Int) ≤ 1000 := by omega
  have hpn : (p : Int) < (n : Int) := by omega
  have hpn1 : (p : Int) ≤ (n : Int) + 1 := by omega
  have hp1 : (p : Int) + 1 ≤ (n : Int) + 1 := by omega
  have hp2 : (p : Int) ≤ (n : Int) := by omega
  have hp3 : (p : Int) ≤ (cap : Int) := by omega
  have hnr : (cap : Int) < (n : Int) + 1 := by omega
  have hw1 : IntKind.i64.wrap ((p : Int) + 1) = (p : Int) + 1 := by rw [IntKind.wrap_i64]; omega
  have hb1 : (0 : Int) ≤ (p : Int) + 1 := by omega
  have htn : ((p : Int) + 1).toNat = p + 1 := by omega
  have hc1 : ¬ (G = p + 1) := by omega
  have hc2 : ¬ (G = p) := by omega
  have hc4 : ¬ (cap = p) := by omega
  have Hpn := Lib.hid hp
  have HGn := Lib.hid hGn
  have Hgw := Lib.hid hgw
  have Hvw := Lib.hid hvw
  clear hT hlen2 hl1 hDs hD1 hDl hXl hg1 hk1 hb hX hXa hXt hD hn hp hl hbase hGm hGn hroom hcells hold hr hown htk hTl hkk hik hncap hW1 hG hgw hvw
  go_enter Tryz.func25, Tryz.ntmps25
  go_wp2_with (first
    | (at_builtin; refine Lib.wpList_append_run _ rfl _ _ _ _ rfl _ _ rfl rfl _ _ (hrz _) ?_)
    | (refine wpList_copy_rowK rfl (.tmp 43) (.tmp 44) 77 77 rfl 68 i0 21 Tryz.underlying77 hi hz1 w.heap.size _ (p * 21) _ _ ⟨vb, 0, none⟩ _ _ rfl rfl rfl X 68 Hg1.out 1 ?d1 (rxC b) rfl ?d2 ?d3 ?d4 ?d5))
  case d1 => have := Hpn.out; simp only [Nat.min_def]; split <;> omega
  case d2 =>
    intro j v hj
    rw [Addr.add_lit, cell_of_row W1 vb _ _ _ _ (Hk1.out.heap Hh.out (fun h => h))]
    simpa using hj
  case d3 => have := Hpn.out; have := HGn.out; rw [HX.out]; simp; omega
  case d4 => exact cRec.one b
  case d5 =>
    intro w2 hg2 hk2
    have HD2 : Hid (∀ j v, D[j]? = some v → w2.drew.cell? ((⟨g, p * 21, none⟩ : Addr).add j) = some v) := fun j v hj => by
      have h1 := HDs.out j v hj
      have h2 := Hk1.out.cell h1 (fun h => h)
      exact hk2.out.cell h2 (fun h => by rw [Addr.add_lit] at h; have : g = w.heap.size := h; have := Hgw.out; omega)
    go_wp2
    go_still_tail 8, (by kernel_rfl)
    change wpList _ _ _ _ _ w2.drew
    refine wpList_copy_rowK rfl (.tmp 50) (.tmp 53) 77 77 rfl 68 i0 21 Tryz.underlying77 hi hz1 w.heap.size _ ((p + 1) * 21) _ _ ⟨g, p * 21, none⟩ _ _ rfl rfl rfl (Go.splice X (p * 21) (rxC b)) 68 hg2.out (n - p) ?e1 D HDl.out HD2.out ?e2 HD1.out ?e3
    case e1 => have := Hpn.out; simp only [Nat.min_def]; split <;> omega
    case e2 => have := Hpn.out; have := HGn.out; rw [HDl.out, Hl1.out]; omega
    case e3 =>
      intro w3 hg3 hk3
      go_wp2
      go_ret
      refine ⟨G, rfl, Hfin.out _ hg3.out, ?_⟩
      have k1 : Keeps (Own w.heap.size) w w3 := ((Hk1.out.mono (fun _ _ h => h.elim)).trans hk2.out (fun _ _ h => h)).drew.trans hk3.out (fun _ _ h => h)
      exact k1.mono (fun i hi h => by have : i = w.heap.size := h; omega)

end Go.Proofs.YtndjnkjcfdaegaaGreatDoor
