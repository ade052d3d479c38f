/-
  hedgerowlaw06.Alike: both have the same files. No conditions of its own.
-/
import Derived.Test.YtdckdndjddflfaaDkAB
namespace Go.Proofs.Ytdckdndjddflfaa
open Go.RowKit Go.WideShapes

/-- the names, of which the first k may be spoilt -/
def Names (wr : World) (base1 : Nat) (lv : Value) (L : List Rf) (k : Nat) : Prop := ∃ ns : List Nm, ns.length = L.length ∧ (∀ j, k ≤ j → (hj : j < L.length) → ns[j]? = some L[j].name.data.toList) ∧ OwnStr wr base1 lv L.length ns
theorem names_of {w : World} {base1 : Nat} {lv : Value} {L : List Rf} (h : OwnStr w base1 lv (fsOf L).length (namesOf (fsOf L))) : Names w base1 lv L 0 := by
  refine ⟨namesOf (fsOf L), by simp [namesOf], fun j _ hj => ?_, by simpa using h⟩
  unfold namesOf fsOf
  rw [List.map_map, List.getElem?_map, List.getElem?_eq_getElem hj]
  rfl
theorem str_mk (s : ByteArray) : encStr s.data.toList = .string s := by
  show Value.string ⟨s.data.toList.toArray⟩ = _
  rfl
theorem Names.kept {w w' : World} {base1 : Nat} {lv : Value} {L : List Rf} {k : Nat} (h : Names w base1 lv L k) (hk : Keeps No w w') : Names w' base1 lv L k := by
  obtain ⟨ns, h1, h2, h3⟩ := h
  exact ⟨ns, h1, h2, hk.owns h3 (fun _ _ h => h)⟩
theorem Names.cell {w : World} {base1 : Nat} {lv : Value} {L : List Rf} {k : Nat} (h : Names w base1 lv L k) (hk : k < L.length) : ∃ g cap, lv = .slice (some ⟨g, 0, none⟩) L.length cap ∧ base1 ≤ g ∧ Open w g ∧ w.cell? ⟨g, k, none⟩ = some (.string L[k].name) := by
  obtain ⟨ns, h1, h2, h3⟩ := h
  rcases h3.2 with ⟨_, h0⟩ | ⟨g, cap, cur, hv, hg, hh, _⟩
  · omega
  · refine ⟨g, cap, hv, hg, ⟨_, _, hh⟩, ?_⟩
    have h4 := h3.cells (g := g) (by rw [hv]; rfl) k (.string L[k].name) (by rw [List.getElem?_map, h2 k (Nat.le_refl _) hk]; exact congrArg some (str_mk _))
    rw [Addr.add_lit, Nat.zero_add] at h4
    exact h4
theorem Names.spoil {w : World} {base1 g cap : Nat} {L : List Rf} {k : Nat} (h : Names w base1 (.slice (some ⟨g, 0, none⟩) L.length cap) L k) (s : ByteArray) : Names (w.setCell ⟨g, k, none⟩ (.string s)) base1 (.slice (some ⟨g, 0, none⟩) L.length cap) L (k + 1) := by
  obtain ⟨ns, h1, h2, h3⟩ := h
  refine ⟨ns.set k s.data.toList, by simpa using h1, fun j hj hl => ?_, ?_⟩
  · rw [List.getElem?_set_ne (by omega)]
    exact h2 j (by omega) hl
  · have h4 := (h3.stored k (.string s)).1
    unfold OwnStr
    rw [List.map_set]
    exact h4

/-- one operation of a region is taken first; the frame behind it is written out -/
theorem takeH {P : Program} {ops : Array Oper} {Q : Exit → Act → World → Prop} {md : Region.Mode} {S : World → Prop} {i d : Nat} {oi : Oper} {v : Value} {fuel : Nat} {listed : Array Bool} {a : Act} {w : World} (hi : ops[i]? = some oi) (hd : oi.dst = some d)
    (hs : Region.noSelect ops = true) (hf : Region.free md ops listed i = true) (hr : (Region.ready md ops listed).contains i = true)
    (hQ : ∀ c a w, Q (.panic c) (a.put oi.dst v) w → Q (.panic c) a w) (hy : YieldsIf P ops S oi v a) (hS : S w)
    (h : wpAnyH P md ops Q S fuel (listed.setIfInBounds i true) ⟨a.tmps.setIfInBounds d v, a.defers⟩ w) : wpAnyH P md ops Q S (fuel + 1) listed a w :=
  wpAnyH_take hi hs hf hr hQ hy hS (by rw [hd]; exact h)

section
variable {w : World} {p b q base : Nat} {v : Value} {L : List Rf} {is : Bool} {room rr : Int} {dead : Bool} {cnt : Nat}

theorem Bo.find (h : Bo w p b q base v L is room rr dead cnt) (k : Nat) (hk : k < L.length) : findE (fsOf L) L[k].name = (fiOf L[k], 0) := by
  have hkf : k < (fsOf L).length := by simpa using hk
  have e : (fsOf L)[k] = nfOf L[k] := by simp
  have hg := get_at h.d.rising k hkf
  rw [e] at hg
  have hm := h.d.nm (nfOf L[k]) (List.mem_map_of_mem (List.getElem_mem hk))
  refine find_ok ⟨?_, ?_⟩ hg
  · exact h.nm _ (List.getElem_mem hk)
  · have : L[k].name.data.toList.length = L[k].name.size := by simp
    rw [← this]
    exact hm

set_option maxRecDepth 100000 in
set_option maxHeartbeats 8000000 in
theorem alike_any (h : Bo w p b q base v L is room rr dead cnt) : Calls Try.prog 27 #[dP p, dP q] w fun e w' => e = .returned (.bool true) ∧ Keeps No w w' := by
  obtain ⟨va, vc, rfl⟩ := ownsRow_slice h.r.own
  have H := Lib.hid h
  have hfew := h.r.few
  clear h
  go_enter Try.func27, Try.ntmps27
  go_wp2_with fail
  refine (files_any H.out.d).mono ?_
  rintro e w1 ⟨lv, rfl, ho1, hk1⟩
  have N1 := Lib.hid (names_of ho1)
  have K1 := Lib.hid hk1
  obtain ⟨la, lc, hlv⟩ := ownsRow_slice ho1
  rw [List.length_map] at hlv
  subst hlv
  have B1 := Lib.hid (H.out.no hk1)
  have c0 : w1.cell? ⟨q, 0, none⟩ = some (.slice va L.length vc) := by simp [World.cell?, B1.out.r.cells]
  clear ho1 hk1
  go_wp2
  clear c0
  go_loopw [6] (fun i wr => ∃ k : Nat, k ≤ L.length ∧ i = .int .i64 k ∧ Names wr w.heap.size (.slice la L.length lc) L k ∧ Keeps No w wr) (fun i _ => L.length - (intOf i).toNat)
  case atStart => exact ⟨0, Nat.zero_le _, rfl, N1.out, K1.out⟩
  case round =>
    obtain ⟨k, hkL, rfl, hN, hK⟩ := hrel
    have HN := Lib.hid hN
    have HK := Lib.hid hK
    have BR := Lib.hid (H.out.no hK)
    have c0 : wr.cell? ⟨q, 0, none⟩ = some (.slice va L.length vc) := by simp [World.cell?, BR.out.r.cells]
    clear hN hK N1 K1 B1
    by_cases hlt : k < L.length
    · obtain ⟨g, cap, he, hg, hog, d0⟩ := HN.out.cell hlt
      simp only [Value.slice.injEq, true_and] at he
      obtain ⟨rfl, rfl⟩ := he
      have hfind := H.out.find k hlt
      have hr : RdOf cRf wr (.slice va L.length vc) L := BR.out.r.own.reads
      obtain ⟨gr, off, rfl, _, _, hgr⟩ := RdOf.addr cRf hr (by omega)
      have c3 : cellsAt wr gr (off + k * 3) 3 = some (rfC L[k]) := RdOf.at cRf hr k hlt
      have hfit := H.out.fits (List.getElem_mem hlt)
      obtain ⟨r, hrr⟩ : ∃ r, r = L[k] := ⟨_, rfl⟩
      rw [← hrr] at c3 hfind d0 hfit
      have hki : (k : Int) < (L.length : Int) := by omega
      have hk0 : (0 : Int) ≤ (k : Int) := by omega
      have hk64 : (k : Int) ≤ 64 := by omega
      have hcat : ∀ W : World, (Op.stringOp .add r.sure r.loose).run Try.prog W = .ok (.string (r.sure ++ r.loose)) W := fun W => run_string_add_sum W _ _ (by unfold FitsR at hfit; omega)
      have Hfind := Lib.hid hfind
      have Hlt := Lib.hid hlt
      unfold rfC at c3
      have C3 := Lib.hid c3
      have Hg := Lib.hid hg
      clear hrr hr hfit hfind hkL hlt hg
      go_wp2_with fail
      refine (read_any BR.out.d r.name _ _ Hfind.out).mono ?_
      rintro e w2 ⟨rfl, hk2⟩
      have K2 := Lib.hid hk2
      have d02 := hk2.cell d0 (fun h => h)
      clear hk2
      go_wp2_with fail
      refine (size_any (BR.out.no K2.out).d r.name _ _ Hfind.out).mono ?_
      rintro e w3 ⟨rfl, hk3⟩
      have K3 : Hid (Keeps No wr w3) := K2.out.trans hk3 (fun _ _ h => h)
      have d03 := hk3.cell d02 (fun h => h)
      have c03 : w3.cell? ⟨q, 0, none⟩ = some (.slice (some ⟨gr, off, none⟩) L.length vc) := K3.out.cell c0 (fun h => h)
      have c33 := K3.out.cellsAt C3.out
      have hgr3 : gr < w3.heap.size := by have := K3.out.size; omega
      have hog3 := K3.out.opened hog
      clear hk3 c0 c3 d0 d02 hgr hog
      have hs1 : (fiOf r).s = r.sure ++ r.loose := rfl
      have hs2 : (fiOf r).k = r.sure.size := rfl
      rw [hs1, hs2]
      clear hs1 hs2
      go_wp2
      refine wp_world ?_
      intro W hW
      have KW : Hid (Keeps No w3 W) := by rw [hW]; exact (Keeps.refl (S := No) w3).alloc _
      have cB : cellsAt W w3.heap.size 0 3 = some [.string r.name, .string r.sure, .string r.loose] := by rw [hW]; simp [go_sem]
      have b0 : W.cell? ⟨w3.heap.size, 0, none⟩ = some (.string r.name) := cellsAt_cell cB 0 _ rfl
      have b1 : W.cell? ⟨w3.heap.size, 1, none⟩ = some (.string r.sure) := cellsAt_cell cB 1 _ rfl
      have b2 : W.cell? ⟨w3.heap.size, 2, none⟩ = some (.string r.loose) := cellsAt_cell cB 2 _ rfl
      have d0 : W.cell? ⟨g, k, none⟩ = some (.string r.name) := KW.out.cell d03 (fun h => h)
      have fg := (KW.out.opened hog3).frozen k
      have NW : Hid (Names W w.heap.size (.slice (some ⟨g, 0, none⟩) L.length lc) L k) := HN.out.kept (K3.out.trans KW.out (fun _ _ h => h))
      have KF : Hid (Keeps No w W) := HK.out.trans (K3.out.trans KW.out (fun _ _ h => h)) (fun _ _ h => h)
      clear hW d03 c03 hog3 cB C3 c33
      go_quiet (fail)
      rename_i nq
      go_wp2
      go_roundw
      case rel =>
        refine ⟨k + 1, Hlt.out, by go_num, ((NW.out.spoil _)).kept ((Keeps.refl (S := No) _).drewN nq), ?_⟩
        exact (KF.out.setCell (p := ⟨g, k, none⟩) (fun h => absurd h (Nat.not_lt.2 Hg.out)) _).drewN nq
      case measure => have := Hlt.out; simp [intOf]; omega
    · obtain rfl : k = L.length := by omega
      have hki : ¬ (L.length : Int) < (L.length : Int) := by omega
      clear hlt hkL
      have B2 := Lib.hid (BR.out.no (Keeps.refl (S := No) wr).drew)
      by_cases hz : L.length = 0
      · obtain ⟨N, hN⟩ : ∃ N, N = L.length := ⟨_, rfl⟩
        rw [← hN] at c0 hki hfew ⊢
        have hz2 : N = 0 := by omega
        clear hN hz
        subst hz2
        go_wp2
        go_quiet (fail)
        rename_i nq
        go_wp2
        go_ret
        exact ⟨rfl, HK.out.drewN nq⟩
      · have hl0 : 0 < L.length := by omega
        have hr : RdOf cRf wr (.slice va L.length vc) L := BR.out.r.own.reads
        obtain ⟨gr, off, rfl, _, _, hgr⟩ := RdOf.addr cRf hr hl0
        have c3 : cellsAt wr gr (off + 0 * 3) 3 = some (rfC L[0]) := RdOf.at cRf hr 0 hl0
        obtain ⟨x, hx⟩ : ∃ x, x = L[0] := ⟨_, rfl⟩
        rw [← hx] at c3
        have d0 : wr.cell? ⟨gr, off, none⟩ = some (.string x.name) := by simpa using cellsAt_cell c3 0 _ rfl
        have Hcell : Hid (∀ w5 (v5 : Value), OwnStr w5 wr.drew.heap.size v5 (fsOf L).length (namesOf (fsOf L)) → ∃ g5 cap5, v5 = .slice (some ⟨g5, 0, none⟩) L.length cap5 ∧ w5.cell? ⟨g5, 0, none⟩ = some (.string x.name)) := by
          intro w5 v5 ho
          obtain ⟨g5, cap5, h1, _, _, h2⟩ := (names_of ho).cell hl0
          exact ⟨g5, cap5, h1, by rw [hx]; exact h2⟩
        obtain ⟨N, hN⟩ : ∃ N, N = L.length := ⟨_, rfl⟩
        rw [← hN] at Hcell c0 hki hfew ⊢
        have hz2 : 0 < N := by omega
        have hz3 : (N == 0) = false := beq_false_of_ne (by omega)
        have hz4 : ((N : Int) == 0) = false := beq_false_of_ne (by omega)
        have hz5 : decide (N = 0) = false := decide_eq_false (by omega)
        have hz6 : (0 : Int) < (N : Int) := by omega
        clear hN hz hl0 hx c3 hr
        go_wp2_with fail
        refine wp_region_held_drew (S := fun w' => w'.cell? ⟨q, 0, none⟩ = some (.slice (some ⟨gr, off, none⟩) N vc) ∧ w'.cell? ⟨gr, off, none⟩ = some (.string x.name)) (by kernel_rfl) ⟨c0, d0⟩ (fun hHeld => ?_)
        refine takeH (i := 0) (d := 95) (v := .slice la N lc) rfl rfl (by kernel_rfl) (by kernel_rfl) (by kernel_rfl) (fun _ _ _ h => h) (Or.inl ⟨by rfl, fun w hSw => by (try dsimp only at hSw); go_simp⟩) (by assumption) ?_
        simp only [List.setIfInBounds_toArray, List.set_cons_zero, List.set_cons_succ]
        refine takeH (i := 1) (d := 96) (v := .int .i64 N) rfl rfl (by kernel_rfl) (by kernel_rfl) (by kernel_rfl) (fun _ _ _ h => h) (Or.inl ⟨by rfl, fun w hSw => by (try dsimp only at hSw); go_simp⟩) (by assumption) ?_
        simp only [List.setIfInBounds_toArray, List.set_cons_zero, List.set_cons_succ]
        refine takeH (i := 2) (d := 97) (v := .bool false) rfl rfl (by kernel_rfl) (by kernel_rfl) (by kernel_rfl) (fun _ _ _ h => h) (Or.inl ⟨by rfl, fun w hSw => by (try dsimp only at hSw); go_simp⟩) (by assumption) ?_
        simp only [List.setIfInBounds_toArray, List.set_cons_zero, List.set_cons_succ]
        refine takeH (i := 3) (d := 98) (v := .bool false) rfl rfl (by kernel_rfl) (by kernel_rfl) (by kernel_rfl) (fun _ _ _ h => h) (Or.inl ⟨by rfl, fun w hSw => by (try dsimp only at hSw); go_simp⟩) (by assumption) ?_
        simp only [List.setIfInBounds_toArray, List.set_cons_zero, List.set_cons_succ]
        refine takeH (i := 4) (d := 99) (v := dP p) rfl rfl (by kernel_rfl) (by kernel_rfl) (by kernel_rfl) (fun _ _ _ h => h) (Or.inl ⟨by rfl, fun w hSw => by (try dsimp only at hSw); go_simp⟩) (by assumption) ?_
        simp only [List.setIfInBounds_toArray, List.set_cons_zero, List.set_cons_succ]
        refine takeH (i := 8) (d := 103) (v := dP q) rfl rfl (by kernel_rfl) (by kernel_rfl) (by kernel_rfl) (fun _ _ _ h => h) (Or.inl ⟨by rfl, fun w hSw => by (try dsimp only at hSw); go_simp⟩) (by assumption) ?_
        simp only [List.setIfInBounds_toArray, List.set_cons_zero, List.set_cons_succ]
        refine takeH (i := 9) (d := 104) (v := .pointer (some ⟨q, 0, none⟩)) rfl rfl (by kernel_rfl) (by kernel_rfl) (by kernel_rfl) (fun _ _ _ h => h) (Or.inl ⟨by rfl, fun w hSw => by (try dsimp only at hSw); go_simp⟩) (by assumption) ?_
        simp only [List.setIfInBounds_toArray, List.set_cons_zero, List.set_cons_succ]
        refine takeH (i := 10) (d := 105) (v := .pointer (some ⟨q, 0, none⟩)) rfl rfl (by kernel_rfl) (by kernel_rfl) (by kernel_rfl) (fun _ _ _ h => h) (Or.inl ⟨by rfl, fun w hSw => by (try dsimp only at hSw); go_simp⟩) (by assumption) ?_
        simp only [List.setIfInBounds_toArray, List.set_cons_zero, List.set_cons_succ]
        refine takeH (i := 11) (d := 106) (v := .slice (some ⟨gr, off, none⟩) N vc) rfl rfl (by kernel_rfl) (by kernel_rfl) (by kernel_rfl) (fun _ _ _ h => h) (Or.inl ⟨by rfl, fun w hSw => by (try dsimp only at hSw); go_simp⟩) (by assumption) ?_
        simp only [List.setIfInBounds_toArray, List.set_cons_zero, List.set_cons_succ]
        refine takeH (i := 12) (d := 107) (v := .pointer (some ⟨gr, off, none⟩)) rfl rfl (by kernel_rfl) (by kernel_rfl) (by kernel_rfl) (fun _ _ _ h => h) (Or.inl ⟨by rfl, fun w hSw => by (try dsimp only at hSw); go_simp⟩) (by assumption) ?_
        simp only [List.setIfInBounds_toArray, List.set_cons_zero, List.set_cons_succ]
        refine takeH (i := 13) (d := 108) (v := .pointer (some ⟨gr, off, none⟩)) rfl rfl (by kernel_rfl) (by kernel_rfl) (by kernel_rfl) (fun _ _ _ h => h) (Or.inl ⟨by rfl, fun w hSw => by (try dsimp only at hSw); go_simp⟩) (by assumption) ?_
        simp only [List.setIfInBounds_toArray, List.set_cons_zero, List.set_cons_succ]
        refine takeH (i := 14) (d := 109) (v := .string x.name) rfl rfl (by kernel_rfl) (by kernel_rfl) (by kernel_rfl) (fun _ _ _ h => h) (Or.inl ⟨by rfl, fun w hSw => by (try dsimp only at hSw); go_simp⟩) (by assumption) ?_
        simp only [List.setIfInBounds_toArray, List.set_cons_zero, List.set_cons_succ]
        refine wpAnyH_ready (rs := [5]) (by kernel_rfl) (by simp) ?_
        refine AllReadyH.cons rfl (fun K hK => ?_) AllReadyH.nil
        go_simp
        go_at_call 19
        refine (files_any B2.out.d).mono ?_
        rintro e w5 ⟨v5, rfl, ho5, hk5⟩
        obtain ⟨g5, cap5, he5, d5⟩ := Hcell.out w5 v5 ho5
        subst he5
        have K5 : Hid (Keeps No w w5) := (HK.out.drew).trans hk5 (fun _ _ h => h)
        have hk6 : Keeps No wr w5 := ((Keeps.refl (S := No) wr).drew).trans hk5 (fun _ _ h => h)
        have c05 := hk6.cell c0 (fun h => h)
        have d05 := hk6.cell d0 (fun h => h)
        clear c0 d0 ho5 hk5 hk6 hHeld
        refine hK.out _ _ ⟨c05, d05⟩ (fun hHeld => ?_)
        clear hK K
        try simp only [Act.put, List.setIfInBounds_toArray, List.set_cons_zero, List.set_cons_succ]
        refine takeH (i := 6) (d := 101) (v := .pointer (some ⟨g5, 0, none⟩)) rfl rfl (by kernel_rfl) (by kernel_rfl) (by kernel_rfl) (fun _ _ _ h => h) (Or.inl ⟨by rfl, fun w hSw => by (try dsimp only at hSw); go_simp⟩) (by assumption) ?_
        simp only [List.setIfInBounds_toArray, List.set_cons_zero, List.set_cons_succ]
        refine wpAnyH_ready (rs := [7]) (by kernel_rfl) (by simp) ?_
        refine AllReadyH.cons rfl (fun K hK => ?_) AllReadyH.nil
        go_simp
        refine hK.out _ _ ⟨c05, d05⟩ (fun hHeld => ?_)
        clear hK K
        try simp only [Act.put, List.setIfInBounds_toArray, List.set_cons_zero, List.set_cons_succ]
        refine takeH (i := 15) (d := 110) (v := .bool true) rfl rfl (by kernel_rfl) (by kernel_rfl) (by kernel_rfl) (fun _ _ _ h => h) (Or.inl ⟨by rfl, fun w hSw => by (try dsimp only at hSw); go_simp⟩) (by assumption) ?_
        simp only [List.setIfInBounds_toArray, List.set_cons_zero, List.set_cons_succ]
        refine takeH (i := 16) (d := 111) (v := .bool true) rfl rfl (by kernel_rfl) (by kernel_rfl) (by kernel_rfl) (fun _ _ _ h => h) (Or.inl ⟨by rfl, fun w hSw => by (try dsimp only at hSw); go_simp⟩) (by assumption) ?_
        simp only [List.setIfInBounds_toArray, List.set_cons_zero, List.set_cons_succ]
        refine takeH (i := 17) (d := 4) (v := .bool true) rfl rfl (by kernel_rfl) (by kernel_rfl) (by kernel_rfl) (fun _ _ _ h => h) (Or.inl ⟨by rfl, fun w hSw => by (try dsimp only at hSw); go_simp⟩) (by assumption) ?_
        simp only [List.setIfInBounds_toArray, List.set_cons_zero, List.set_cons_succ]
        refine wpAnyH_done (by kernel_rfl) ?_ _
        all_goals
          go_wp2
          go_ret
          exact ⟨rfl, K5.out⟩
end

def BoX (wr : World) (p b q base cnt : Nat) : Prop := ∃ (v : Value) (L : List Rf) (is : Bool) (room rr : Int) (dead : Bool), Bo wr p b q base v L is room rr dead cnt
theorem bo_new {w : World} {p b q base : Nat} (hd : DiskAt w p b [] 4611686018427387904 false) (hq : w.heap[q]? = some (.cells #[.slice none 0 0, .bool false, .int .i64 0, .bool false] 51 (0, 0))) (hp : p < base) (hb : b < base) (pq : p ≠ q) (bq : b ≠ q) (hl : base ≤ w.heap.size) : BoX w p b q base 0 :=
  ⟨.slice none 0 0, [], false, 4611686018427387904, 0, false, ⟨hd, ⟨hq, World.ownsRow_nil _ _ _ _, (fun _ h => by cases h), (by simp), hl⟩, hp, hb, pq, bq, .inl ⟨rfl, by omega⟩, fun _ h => absurd h (List.not_mem_nil)⟩⟩
end Go.Proofs.Ytdckdndjddflfaa
