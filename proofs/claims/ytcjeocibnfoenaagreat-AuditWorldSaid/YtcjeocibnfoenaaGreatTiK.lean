/-
  copy of structs, and slices.Insert of one Bundle into a row of the call's own. No conditions of its own.
-/
import Derived.Test.YtcjeocibnfoenaaGreatTiI
import Derived.Laws.CopyOwn
import Derived.Lib.AppendZerosOnto
import Derived.Lib.Overlaps
namespace Go.Proofs.YtcjeocibnfoenaaGreat
open Go.RowKit

theorem run_copy_rowK {P : Program} (w : World) (dT sT ty elem : TypeId) (i : TypeInfo) (size : Nat) (g o dLen dCap : Nat) (a : Addr) (sLen sCap : Nat) (cur : Array Value) (t : TypeId) (cs : List Value)
    (hu : P.underlying dT = some (.slice elem)) (hi : P.info? elem = some i) (hs : i.size = size)
    (hg : w.heap[g]? = some (.cells cur t (0, 0))) (m : Nat) (hm : m = Nat.min sLen dLen) (hn : cs.length = m * size)
    (hsrc : ∀ j v, cs[j]? = some v → w.cell? (a.add j) = some v) (hfit : o + cs.length ≤ cur.size) (h1 : ∀ v ∈ cs, v.oneCell' = true) :
    (Builtin.copy_ #[dT, sT] ty #[.slice (some ⟨g, o, none⟩) dLen dCap, .slice (some a) sLen sCap]).run P w =
      .ok (goInt m) (w.setRow g (Go.splice cur.toList o cs).toArray) := by
  have hl := run_loadCells_list (P := P) w a cs hsrc
  have hst := run_storeCells_at P g o t cs 0 cur w hg (by simpa using hfit) h1
  rw [hn] at hl
  unfold Go.splice
  simp [Builtin.copy_, run_underlying hu, Builtin.lenOf, Builtin.firstCells, sizeOf, typeInfo, hi, hs, ← hm, hl, hst]

theorem wp_copy_rowK {P : Program} {w : World} {o : Oper} {a : Act} {K : Act → World → Prop} {Q : Exit → Act → World → Prop} (d s : Operand) (dT sT : TypeId)
    (ho : o.op = .call { callee := .builtin .copy, args := #[d, s], argTypes := #[dT, sT] }) (elem : TypeId) (i : TypeInfo) (size : Nat) (hu : P.underlying dT = some (.slice elem)) (hi : P.info? elem = some i) (hs : i.size = size)
    (g off OFF dLen dCap : Nat) (ad : Addr) (sLen sCap : Nat) (hd : a.eval d = .slice (some ⟨g, off, none⟩) dLen dCap) (hsv : a.eval s = .slice (some ad) sLen sCap) (hoff : off = OFF)
    (cur : List Value) (t : TypeId) (hg : w.heap[g]? = some (.cells cur.toArray t (0, 0))) (m : Nat) (hm : m = Nat.min sLen dLen) (cs : List Value) (hn : cs.length = m * size)
    (hsrc : ∀ j v, cs[j]? = some v → w.cell? (ad.add j) = some v) (hfit : OFF + cs.length ≤ cur.length) (h1 : ∀ v ∈ cs, v.oneCell' = true)
    (h : ∀ w', Hid (w'.heap[g]? = some (.cells (Go.splice cur OFF cs).toArray t (0, 0))) → Hid (Keeps (Own g) w w') → K (a.put o.dst (goInt m)) w') : o.wp P a w K Q := by
  subst hoff
  have hrun := run_copy_rowK (P := P) w dT sT o.type elem i size g off dLen dCap ad sLen sCap cur.toArray t cs hu hi hs hg m hm hn hsrc (by simpa using hfit) h1
  unfold Oper.wp
  simp [execOp, ho, resolve, invoke, builtin, hd, hsv, hrun, Result.andThen]
  exact h _ (show _ = _ from setRow_heap w g _ _ t _ hg) (show Keeps _ _ _ from Keeps.setRow (S := Own g) (Keeps.refl w) (fun _ => rfl) _)

theorem wpList_copy_rowK {P : Program} {w : World} {ops : Array Oper} {rest : List Oper} {o : Oper} {a : Act} {Q : Exit → Act → World → Prop} (hgd : o.guard = none) (d s : Operand) (dT sT : TypeId)
    (ho : o.op = .call { callee := .builtin .copy, args := #[d, s], argTypes := #[dT, sT] }) (elem : TypeId) (i : TypeInfo) (size : Nat) (hu : P.underlying dT = some (.slice elem)) (hi : P.info? elem = some i) (hs : i.size = size)
    (g off OFF dLen dCap : Nat) (ad : Addr) (sLen sCap : Nat) (hd : a.eval d = .slice (some ⟨g, off, none⟩) dLen dCap) (hsv : a.eval s = .slice (some ad) sLen sCap) (hoff : off = OFF)
    (cur : List Value) (t : TypeId) (hg : w.heap[g]? = some (.cells cur.toArray t (0, 0))) (m : Nat) (hm : m = Nat.min sLen dLen) (cs : List Value) (hn : cs.length = m * size)
    (hsrc : ∀ j v, cs[j]? = some v → w.cell? (ad.add j) = some v) (hfit : OFF + cs.length ≤ cur.length) (h1 : ∀ v ∈ cs, v.oneCell' = true)
    (h : ∀ w', Hid (w'.heap[g]? = some (.cells (Go.splice cur OFF cs).toArray t (0, 0))) → Hid (Keeps (Own g) w w') → wpList P ops Q rest (a.put o.dst (goInt m)) w') : wpList P ops Q (o :: rest) a w :=
  wpList_plain hgd fun _ hK => wp_copy_rowK d s dT sT ho elem i size hu hi hs g off OFF dLen dCap ad sLen sCap hd hsv hoff cur t hg m hm cs hn hsrc hfit h1 fun w' h2 h3 => hK _ _ (h w' h2 h3)

/-- one struct laid in behind the others are shifted -/
theorem ins_room (X B D : List Value) (p q : Nat) (hB : B.length = q) (hX : p + q + D.length ≤ X.length) : (Go.splice (Go.splice X (p + q) D) p B).take (p + q + D.length) = X.take p ++ (B ++ D) := by
  unfold Go.splice
  have e1 : (X.take (p + q) ++ (D ++ X.drop (p + q + D.length))).take p = X.take p := by
    rw [List.take_append_of_le_length (by rw [List.length_take]; omega), List.take_take, Nat.min_eq_left (by omega)]
  have e2 : (X.take (p + q) ++ (D ++ X.drop (p + q + D.length))).drop (p + B.length) = D ++ X.drop (p + q + D.length) := by
    rw [hB, List.drop_left' (by rw [List.length_take]; omega)]
  rw [e1, e2]
  have e3 : X.take p ++ (B ++ (D ++ X.drop (p + q + D.length))) = (X.take p ++ (B ++ D)) ++ X.drop (p + q + D.length) := by simp
  rw [e3, List.take_left' (by simp only [List.length_append, List.length_take, hB]; omega)]
theorem ins_grow (X B D : List Value) (p q : Nat) (hB : B.length = q) (hX : p + q + D.length ≤ X.length) : (Go.splice (Go.splice X p B) (p + q) D).take (p + q + D.length) = X.take p ++ (B ++ D) := by
  unfold Go.splice
  have e1 : X.take p ++ (B ++ X.drop (p + B.length)) = (X.take p ++ B) ++ X.drop (p + q) := by rw [hB]; simp
  have hl : (X.take p ++ B).length = p + q := by simp only [List.length_append, List.length_take, hB]; omega
  rw [e1, List.take_left' hl, List.append_assoc (X.take p), ← List.append_assoc, ← List.append_assoc]
  rw [List.take_left' (by simp only [List.length_append, List.length_take, hB]; omega)]
  simp

set_option maxRecDepth 100000 in
set_option maxHeartbeats 4000000 in
/-- at the end -/
theorem insert_end (w : World) (base : Nat) (v : Value) (l : List Bd) (hown : OwnOf cBd 38 w base v l) (hl : l.length ≤ 1000) (vb : Nat) (b : Bd) (hb : w.heap[vb]? = some (.cells (bdC b).toArray 38 (0, 0))) (hbase : base ≤ w.heap.size) :
    Calls Tryz.prog 58 #[v, .int .i64 l.length, .slice (some ⟨vb, 0, none⟩) 1 1] w fun e w' =>
      ∃ v', e = .returned v' ∧ OwnOf cBd 38 w' base v' (l ++ [b]) ∧ Keeps (Of v) w w' ∧ ∀ k, v'.ownBlock = some k → v.ownBlock = some k ∨ w.heap.size ≤ k := by
  obtain ⟨i0, hi, hz0, hz1, hz2⟩ := info_parts Tryz.infoBd
  obtain ⟨a, c, rfl⟩ := ownsRow_slice hown
  have hr : Reads w 11 (.slice (some ⟨vb, 0, none⟩) 1 1) 1 (rowsOf cBd [b]) := by
    refine ⟨by simp [rowsOf, cBd], rowsOf_ones cBd [b], .inr ⟨_, _, rfl, Nat.le_refl _, by unfold maxLen; omega, fun j u hj => ?_⟩⟩
    rw [rowsOf_one] at hj
    rw [Addr.add_lit, cell_of_row w vb _ _ _ _ hb]
    simpa [cBd] using hj
  have Hl := Lib.hid hl
  have hlen : (l ++ [b]).length = l.length + 1 := by simp
  have HO : Hid (∀ v' w', w'.ownsRow base 38 11 v' (l.length + 1) (rowsOf cBd l ++ rowsOf cBd [b]) → OwnOf cBd 38 w' base v' (l ++ [b])) := fun v' w' h => by
    unfold OwnOf
    rw [hlen, rowsOf_append]
    exact h
  clear hlen
  have hcap : l.length ≤ c := by
    rcases hown.2 with ⟨he, h0⟩ | ⟨g, cap, cur, he, _, _, h1, _⟩
    · omega
    · simp only [Value.slice.injEq] at he; omega
  have hcapi : (l.length : Int) ≤ (c : Int) := by omega
  have hli : (l.length : Int) ≤ 1000 := by omega
  obtain ⟨n, hn⟩ : ∃ n, n = l.length := ⟨_, rfl⟩
  unfold OwnOf at hown
  rw [← hn] at hown hcapi hcap hli HO
  rw [← hn]
  have Hn := Lib.hid hn; clear hn hl
  go_enter Tryz.func58, Tryz.ntmps58
  have HOf : Hid (∀ c', (Value.slice a n c').ownBlock = (Value.slice a n c).ownBlock) := fun _ => by cases a <;> rfl
  go_wp2_with (at_builtin; refine wpList_append_reads rfl (.tmp 23) (.tmp 24) 27 rfl base 38 i0 _ 11 88 Tryz.underlying27 hi hz0 hz1 hz2 rfl (by decide) _ n _ rfl hown _ _ _ rfl hr ?c1 ?c2 hbase ?c4)
  case c1 => have := Hl.out; have := Hn.out; unfold maxLen; omega
  case c2 => have := Hl.out; have := Hn.out; omega
  all_goals
    intro v' w1 hown1 hk1 hk2 _
    go_wp2
    go_ret
    refine ⟨_, rfl, HO.out _ _ hown1, ?_, ?_⟩
    · first | exact hk1 | exact hk1.mono (fun i _ h => (HOf.out _).symm.trans h)
    · first | exact hk2 | exact fun k hk => (hk2 k hk).imp (fun h => (HOf.out _).symm.trans h) id

theorem ins_owns {w' : World} {base g G n p : Nat} {l : List Bd} {b : Bd} {X : List Value} (hn : n = l.length) (hp : p < n) (hb : base ≤ g) (hnG : n + 1 ≤ G) (hG : G ≤ maxLen) (hX : X.length = G * 11) (ht : X.take ((n + 1) * 11) = rowsOf cBd (l.take p) ++ (bdC b ++ rowsOf cBd (l.drop p)))
    (h : w'.heap[g]? = some (.cells X.toArray 38 (0, 0))) : OwnOf cBd 38 w' base (.slice (some ⟨g, 0, none⟩) (n + 1) G) (l.take p ++ b :: l.drop p) := by
  have hl : (l.take p ++ b :: l.drop p).length = n + 1 := by simp; omega
  refine ⟨by rw [rowsOf_length], .inr ⟨g, G, X.toArray, by rw [hl], hb, h, by rw [hl]; exact hnG, hG, by simpa [cBd] using hX, ?_⟩⟩
  rw [hl, rowsOf_append, rowsOf_cons]
  exact ht

set_option maxRecDepth 100000 in
set_option maxHeartbeats 4000000 in
/-- within, with room -/
theorem insert_room (w : World) (base g cap p : Nat) (l : List Bd) (hown : OwnOf cBd 38 w base (.slice (some ⟨g, 0, none⟩) l.length cap) l) (hl : l.length ≤ 1000) (hp : p < l.length) (hroom : l.length + 1 ≤ cap) (vb : Nat) (b : Bd) (hb : w.heap[vb]? = some (.cells (bdC b).toArray 38 (0, 0))) (hne : vb ≠ g) :
    Calls Tryz.prog 58 #[.slice (some ⟨g, 0, none⟩) l.length cap, .int .i64 p, .slice (some ⟨vb, 0, none⟩) 1 1] w fun e w' =>
      e = .returned (.slice (some ⟨g, 0, none⟩) (l.length + 1) cap) ∧ OwnOf cBd 38 w' base (.slice (some ⟨g, 0, none⟩) (l.length + 1) cap) (l.take p ++ b :: l.drop p) ∧ Keeps (Own g) w w' := by
  obtain ⟨i0, hi, hz0, hz1, hz2⟩ := info_parts Tryz.infoBd
  obtain ⟨_, ⟨he, _⟩ | ⟨g', cap', cur, he, hbg, hg, hnc, hcm, hcs, htake⟩⟩ := hown
  · cases he
  simp only [Value.slice.injEq, Option.some.injEq, Addr.mk.injEq, and_true, true_and] at he
  obtain ⟨rfl, rfl⟩ := he
  obtain ⟨n, hn⟩ : ∃ n, n = l.length := ⟨_, rfl⟩
  obtain ⟨X, hX⟩ : ∃ X, X = cur.toList := ⟨_, rfl⟩
  have hgX : w.heap[g]? = some (.cells X.toArray 38 (0, 0)) := by rw [hX, Array.toArray_toList]; exact hg
  have hXl : X.length = cap * 11 := by rw [hX, Array.length_toList, hcs]; rfl
  rw [← hX] at htake
  rw [← hn] at hl hp hroom hnc htake ⊢
  obtain ⟨D, hD⟩ : ∃ D, D = rowsOf cBd (l.drop p) := ⟨_, rfl⟩
  have hDl : D.length = (n - p) * 11 := by rw [hD, rowsOf_length, List.length_drop, hn]; rfl
  have hD1 : ∀ v ∈ D, v.oneCell' = true := by rw [hD]; exact rowsOf_ones cBd _
  have hcell : ∀ j, w.cell? ⟨g, j, none⟩ = X[j]? := fun j => by rw [cell_of_row w g _ _ _ _ hgX]; simp
  have hDs : ∀ j v, D[j]? = some v → w.cell? ((⟨g, p * 11, none⟩ : Addr).add j) = some v := fun j v hj => by
    rw [Addr.add_lit, hcell]
    have hjl : j < (n - p) * 11 := by rw [← hDl]; exact (List.getElem?_eq_some_iff.1 hj).1
    have e : (rowsOf cBd l)[p * 11 + j]? = some v := by
      rw [← List.getElem?_drop]
      have := rowsOf_drop cBd l p
      rw [show cBd.size = 11 from rfl] at this
      rw [this, ← hD]; exact hj
    rw [← htake, List.getElem?_take] at e
    split at e
    · exact e
    · cases e
  have hT : (Go.splice (Go.splice X ((p + 1) * 11) D) (p * 11) (bdC b)).take ((n + 1) * 11) = rowsOf cBd (l.take p) ++ (bdC b ++ rowsOf cBd (l.drop p)) := by
    have h := ins_room X (bdC b) D (p * 11) 11 rfl (by rw [hDl, hXl]; omega)
    rw [hDl, show p * 11 + 11 = (p + 1) * 11 by omega, show (p + 1) * 11 + (n - p) * 11 = (n + 1) * 11 by omega] at h
    rw [h, hD]
    congr 1
    have e := rowsOf_take cBd l p
    rw [show cBd.size = 11 from rfl] at e
    rw [← e, ← htake, List.take_take, Nat.min_eq_left (by show p * 11 ≤ n * 11; omega)]
  have hlen2 : (Go.splice (Go.splice X ((p + 1) * 11) D) (p * 11) (bdC b)).length = cap * 11 := by
    have h1 : (Go.splice X ((p + 1) * 11) D).length = X.length := length_splice _ _ _ (by rw [hDl, hXl]; omega)
    rw [length_splice _ _ _ (by rw [h1, hXl]; simp; omega), h1, hXl]
  have hov : ∀ lb cb, (callFunc 87 #[.slice (some ⟨vb, 0, none⟩) 1 1, .slice (some ⟨g, (p + 1) * 11, none⟩) lb cb]).run Tryz.prog w = .ok (.value (.bool false)) w := fun lb cb => by
    rw [run_callFunc_extern Tryz.func87 (by kernel_rfl) (by kernel_rfl) (by kernel_rfl) (e := Extern.SlicesOverlaps.overlaps #[27, 27] #[4]) (by kernel_rfl),
      Lib.run_overlaps_apart w 27 4 38 Tryz.underlying27 11 (fun w => by rw [show (Go.sizeOf 38).run Tryz.prog w = .ok i0.size w by simp [sizeOf, typeInfo, hi], hz1]) ⟨vb, 0, none⟩ ⟨g, (p + 1) * 11, none⟩ 1 1 lb cb hne 38 38 11 (cap * 11) (by simp [World.shape?, hb]) (by simp [World.shape?, hgX, hXl]) (by omega) (by simp [World.frozen?, hb]) (by simp [World.frozen?, hb])]
    rfl
  have HT := Lib.hid hT
  have Hlen2 := Lib.hid hlen2
  have HDs := Lib.hid hDs
  have HD1 := Lib.hid hD1
  have HDl := Lib.hid hDl
  have HX := Lib.hid hXl
  have Hhg := Lib.hid hgX
  have Hh := Lib.hid hb
  have Hfin : Hid (∀ w', w'.heap[g]? = some (.cells (Go.splice (Go.splice X ((p + 1) * 11) D) (p * 11) (bdC b)).toArray 38 (0, 0)) → OwnOf cBd 38 w' base (.slice (some ⟨g, 0, none⟩) (n + 1) cap) (l.take p ++ b :: l.drop p)) := fun w' h => ins_owns hn hp hbg hroom hcm hlen2 hT h
  have hne2 : ((p : Int) == (n : Int)) = false := by simp; omega
  have hni : (n : Int) ≤ 1000 := by omega
  have hpn : (p : Int) < (n : Int) := by omega
  have hpn1 : (p : Int) ≤ (n : Int) + 1 := by omega
  have hp1 : (p : Int) + 1 ≤ (n : Int) + 1 := by omega
  have hp2 : (p : Int) ≤ (n : Int) := by omega
  have hp3 : (p : Int) ≤ (cap : Int) := by omega
  have hnr : (n : Int) + 1 ≤ (cap : Int) := by omega
  have hw1 : IntKind.i64.wrap ((p : Int) + 1) = (p : Int) + 1 := by rw [IntKind.wrap_i64]; omega
  have hb1 : (0 : Int) ≤ (p : Int) + 1 := by omega
  have htn : ((p : Int) + 1).toNat = p + 1 := by omega
  have htn2 : ((n : Int) + 1).toNat = n + 1 := by omega
  have hc1 : ¬ (cap = p + 1) := by omega
  have hc2 : ¬ (cap = p) := by omega
  have hc3 : (0 : Int) ≤ (n : Int) + 1 := by omega
  have Hn := Lib.hid hn
  have Hpn := Lib.hid hp
  have Hcm := Lib.hid hcm
  have Hroom := Lib.hid hroom
  clear hT hlen2 hDs hD1 hDl hXl hgX hb hcell hg hX hcs hD htake hn hp hl hbg hcm hnc hroom
  go_enter Tryz.func58, Tryz.ntmps58
  go_wp2_with (simp only [hov])
  go_still_tail 8, (by kernel_rfl)
  change wpList _ _ _ _ _ w.drew
  refine wpList_copy_rowK rfl (.tmp 73) (.tmp 76) 27 27 rfl 38 i0 11 Tryz.underlying27 hi hz1 g _ ((p + 1) * 11) _ _ ⟨g, p * 11, none⟩ _ _ rfl rfl rfl X 38 Hhg.out (n - p) ?c1 D HDl.out HDs.out ?c2 HD1.out ?c3
  case c1 => have := Hpn.out; simp only [Nat.min_def]; split <;> omega
  case c2 => have := Hpn.out; have := Hroom.out; rw [HDl.out, HX.out]; omega
  case c3 =>
    intro w1 hg1 hk1
    have Hh1 : Hid (w1.heap[vb]? = some (.cells (bdC b).toArray 38 (0, 0))) := hk1.out.heap (a := w.drew) Hh.out (fun h => hne h)
    go_wp2_with (refine wpList_copy_rowK rfl (.tmp 80) (.tmp 81) 27 27 rfl 38 i0 11 Tryz.underlying27 hi hz1 g _ (p * 11) _ _ ⟨vb, 0, none⟩ _ _ rfl rfl rfl (Go.splice X ((p + 1) * 11) D) 38 hg1.out 1 ?d1 (bdC b) rfl ?d2 ?d3 ?d4 ?d5)
    case d1 => have := Hpn.out; simp only [Nat.min_def]; split <;> omega
    case d2 => intro j v hj; rw [Addr.add_lit, cell_of_row w1 vb _ _ _ _ Hh1.out]; simpa using hj
    case d3 => have := Hpn.out; have := Hroom.out; rw [length_splice _ _ _ (by rw [HDl.out, HX.out]; omega), HX.out]; simp; omega
    case d4 => exact cBd.one b
    case d5 =>
      intro w2 hg2 hk2
      go_wp2
      go_ret
      exact ⟨rfl, Hfin.out _ hg2.out, (((Keeps.refl w).drew).trans hk1.out (fun _ _ h => h)).trans hk2.out (fun _ _ h => h)⟩

set_option maxRecDepth 100000 in
set_option maxHeartbeats 4000000 in
/-- within, without room -/
theorem insert_grow (w : World) (base g cap p : Nat) (l : List Bd) (hown : OwnOf cBd 38 w base (.slice (some ⟨g, 0, none⟩) l.length cap) l) (hl : l.length ≤ 1000) (hp : p < l.length) (hroom : cap < l.length + 1) (vb : Nat) (b : Bd) (hb : w.heap[vb]? = some (.cells (bdC b).toArray 38 (0, 0))) (hbase : base ≤ w.heap.size) :
    Calls Tryz.prog 58 #[.slice (some ⟨g, 0, none⟩) l.length cap, .int .i64 p, .slice (some ⟨vb, 0, none⟩) 1 1] w fun e w' =>
      ∃ G, e = .returned (.slice (some ⟨w.heap.size, 0, none⟩) (l.length + 1) G) ∧ OwnOf cBd 38 w' base (.slice (some ⟨w.heap.size, 0, none⟩) (l.length + 1) G) (l.take p ++ b :: l.drop p) ∧ Keeps No w w' := by
  obtain ⟨i0, hi, hz0, hz1, hz2⟩ := info_parts Tryz.infoBd
  have hr : RdOf cBd w (.slice (some ⟨g, 0, none⟩) l.length cap) l := hown.reads
  have hncap : l.length ≤ cap := by
    obtain ⟨_, ⟨he, _⟩ | ⟨g', cap', cur, he, _, _, h1, _⟩⟩ := hown
    · cases he
    · simp only [Value.slice.injEq] at he; omega
  have hgw : g < w.heap.size := by
    obtain ⟨_, ⟨he, _⟩ | ⟨g', cap', cur, he, _, hg, _⟩⟩ := hown
    · cases he
    · simp only [Value.slice.injEq, Option.some.injEq, Addr.mk.injEq, and_true, true_and] at he
      obtain ⟨rfl, _⟩ := he
      exact (Array.getElem?_eq_some_iff.1 hg).1
  have hvw : vb < w.heap.size := (Array.getElem?_eq_some_iff.1 hb).1
  obtain ⟨n, hn⟩ : ∃ n, n = l.length := ⟨_, rfl⟩
  have hcells : ∀ j v, (rowsOf cBd l)[j]? = some v → w.cell? ⟨g, j, none⟩ = some v := fun j v hj => by
    obtain ⟨b', off, c', he, _, _, _, hx⟩ := Reads.addr hr (by have := (List.getElem?_eq_some_iff.1 hj).1; omega)
    simp only [Value.slice.injEq, Option.some.injEq, Addr.mk.injEq, and_true, true_and] at he
    obtain ⟨⟨rfl, rfl⟩, _⟩ := he
    have := hx j v hj
    rwa [Nat.zero_add] at this
  rw [← hn] at hl hp hroom hncap ⊢
  have hTl : (rowsOf cBd (l.take p)).length = p * 11 := by rw [rowsOf_length, List.length_take, ← hn, Nat.min_eq_left (by omega)]; rfl
  have htk := rowsOf_take cBd l p
  rw [show cBd.size = 11 from rfl] at htk
  have hold : (Builtin.firstCells i0.size p (.slice (some ⟨g, 0, none⟩) p cap)).run Tryz.prog w.drew = .ok (rowsOf cBd (l.take p)).toArray w.drew := by
    rw [hz1]
    exact run_firstCells_some w.drew 11 p ⟨g, 0, none⟩ p cap _ hTl (fun j v hj => by
      rw [Addr.add_lit, Nat.zero_add]
      rw [← htk, List.getElem?_take] at hj
      split at hj
      · exact hcells j v hj
      · cases hj)
  have hkk : (n : Int) + 1 - (p : Int) = ((n + 1 - p : Nat) : Int) := by omega
  have hik : p + (n + 1 - p) = n + 1 := by omega
  have hrz : ∀ ty, (Builtin.append_ #[27, 3] ty #[.slice (some ⟨g, 0, none⟩) p cap, .int .i64 ((n : Int) + 1 - (p : Int))]).run Tryz.prog w =
      .ok (.slice (some ⟨w.heap.size, 0, none⟩) (n + 1) (grownCap w (n + 1) cap 38)) (w.drew.alloc (.cells ((rowsOf cBd (l.take p)).toArray ++ Builtin.zeroCells (Value.agg (bdC Bd.zero).toArray).cells (n + 1 - p) ++ Builtin.zeroCells (Value.agg (bdC Bd.zero).toArray).cells (grownCap w (n + 1) cap 38 - (n + 1))) 38)) := fun ty => by
    have h := Lib.run_append_grow_zeros w 27 3 ty 38 i0 _ .i64 .i64 Tryz.underlying27 Tryz.underlying3 hi hz0 (some ⟨g, 0, none⟩) p cap _ hold (n + 1 - p) (by omega) (by omega) (by omega) (by omega) (by rw [hz2]; omega) (by rw [hz2, hik]; exact growslice_fits hroom (by omega))
    rw [hik] at h
    rw [hkk]
    exact h
  obtain ⟨G, hG⟩ : ∃ G, G = grownCap w (n + 1) cap 38 := ⟨_, rfl⟩
  have hGn : n + 1 ≤ G := by rw [hG]; exact grownCap_ge w _ _ _
  have hGm : G ≤ maxLen := by rw [hG]; exact grownCap_le_maxLen w (n + 1) cap _ (by unfold maxLen; omega)
  rw [← hG] at hrz
  obtain ⟨X, hX⟩ : ∃ X : List Value, X = rowsOf cBd (l.take p) ++ ((Builtin.zeroCells (Value.agg (bdC Bd.zero).toArray).cells (n + 1 - p)).toList ++ (Builtin.zeroCells (Value.agg (bdC Bd.zero).toArray).cells (G - (n + 1))).toList) := ⟨_, rfl⟩
  have hXa : (rowsOf cBd (l.take p)).toArray ++ Builtin.zeroCells (Value.agg (bdC Bd.zero).toArray).cells (n + 1 - p) ++ Builtin.zeroCells (Value.agg (bdC Bd.zero).toArray).cells (G - (n + 1)) = X.toArray := by
    rw [hX]; simp
  have hXl : X.length = G * 11 := by
    have hzc : (Value.agg (bdC Bd.zero).toArray).cells.size = 11 := rfl
    rw [hX]
    simp only [List.length_append, Array.length_toList, size_zeroCells, hTl, hzc]
    omega
  have hXt : X.take (p * 11) = rowsOf cBd (l.take p) := by rw [hX, List.take_left' hTl]
  rw [hXa] at hrz
  obtain ⟨W1, hW1⟩ : ∃ W1, W1 = w.drew.alloc (.cells X.toArray 38) := ⟨_, rfl⟩
  rw [← hW1] at hrz
  have hk1 : Keeps No w W1 := by rw [hW1]; exact ((Keeps.refl w).drew).alloc _
  have hg1 : W1.heap[w.heap.size]? = some (.cells X.toArray 38 (0, 0)) := by rw [hW1]; exact heap_alloc_new w.drew _
  obtain ⟨D, hD⟩ : ∃ D, D = rowsOf cBd (l.drop p) := ⟨_, rfl⟩
  have hDl : D.length = (n - p) * 11 := by rw [hD, rowsOf_length, List.length_drop, ← hn]; rfl
  have hD1 : ∀ v ∈ D, v.oneCell' = true := by rw [hD]; exact rowsOf_ones cBd _
  have hDs : ∀ j v, D[j]? = some v → w.cell? ((⟨g, p * 11, none⟩ : Addr).add j) = some v := fun j v hj => by
    rw [Addr.add_lit]
    refine hcells _ _ ?_
    rw [← List.getElem?_drop]
    have := rowsOf_drop cBd l p
    rw [show cBd.size = 11 from rfl] at this
    rw [this, ← hD]; exact hj
  have hT : (Go.splice (Go.splice X (p * 11) (bdC b)) ((p + 1) * 11) D).take ((n + 1) * 11) = rowsOf cBd (l.take p) ++ (bdC b ++ rowsOf cBd (l.drop p)) := by
    have h := ins_grow X (bdC b) D (p * 11) 11 rfl (by rw [hDl, hXl]; omega)
    rw [hDl, show p * 11 + 11 = (p + 1) * 11 by omega, show (p + 1) * 11 + (n - p) * 11 = (n + 1) * 11 by omega] at h
    rw [h, hD, hXt]
  have hl1 : (Go.splice X (p * 11) (bdC b)).length = G * 11 := by rw [length_splice _ _ _ (by rw [hXl]; simp; omega), hXl]
  have hlen2 : (Go.splice (Go.splice X (p * 11) (bdC b)) ((p + 1) * 11) D).length = G * 11 := by
    rw [length_splice _ _ _ (by rw [hl1, hDl]; omega), hl1]
  have Hfin : Hid (∀ w', w'.heap[w.heap.size]? = some (.cells (Go.splice (Go.splice X (p * 11) (bdC b)) ((p + 1) * 11) D).toArray 38 (0, 0)) → OwnOf cBd 38 w' base (.slice (some ⟨w.heap.size, 0, none⟩) (n + 1) G) (l.take p ++ b :: l.drop p)) := fun w' h => ins_owns hn hp hbase hGn hGm hlen2 hT h
  have Hl1 := Lib.hid hl1
  have HDs := Lib.hid hDs
  have HD1 := Lib.hid hD1
  have HDl := Lib.hid hDl
  have HX := Lib.hid hXl
  have Hg1 := Lib.hid hg1
  have Hk1 := Lib.hid hk1
  have Hh := Lib.hid hb
  have hne2 : ((p : Int) == (n : Int)) = false := by simp; omega
  have hni : (n : Int) ≤ 1000 := by omega
  have hpn : (p : Int) < (n : Int) := by omega
  have hpn1 : (p : Int) ≤ (n : Int) + 1 := by omega
  have hp1 : (p : Int) + 1 ≤ (n : Int) + 1 := by omega
  have hp2 : (p : Int) ≤ (n : Int) := by omega
  have hp3 : (p : Int) ≤ (cap : Int) := by omega
  have hnr : (cap : Int) < (n : Int) + 1 := by omega
  have hw1 : IntKind.i64.wrap ((p : Int) + 1) = (p : Int) + 1 := by rw [IntKind.wrap_i64]; omega
  have hb1 : (0 : Int) ≤ (p : Int) + 1 := by omega
  have htn : ((p : Int) + 1).toNat = p + 1 := by omega
  have hc1 : ¬ (G = p + 1) := by omega
  have hc2 : ¬ (G = p) := by omega
  have hc4 : ¬ (cap = p) := by omega
  have Hpn := Lib.hid hp
  have HGn := Lib.hid hGn
  have Hgw := Lib.hid hgw
  have Hvw := Lib.hid hvw
  clear hT hlen2 hl1 hDs hD1 hDl hXl hg1 hk1 hb hX hXa hXt hD hn hp hl hbase hGm hGn hroom hcells hold hr hown htk hTl hkk hik hncap hW1 hG hgw hvw
  go_enter Tryz.func58, Tryz.ntmps58
  go_wp2_with (first
    | (at_builtin; refine Lib.wpList_append_run _ rfl _ _ _ _ rfl _ _ rfl rfl _ _ (hrz _) ?_)
    | (refine wpList_copy_rowK rfl (.tmp 43) (.tmp 44) 27 27 rfl 38 i0 11 Tryz.underlying27 hi hz1 w.heap.size _ (p * 11) _ _ ⟨vb, 0, none⟩ _ _ rfl rfl rfl X 38 Hg1.out 1 ?d1 (bdC b) rfl ?d2 ?d3 ?d4 ?d5))
  case d1 => have := Hpn.out; simp only [Nat.min_def]; split <;> omega
  case d2 =>
    intro j v hj
    rw [Addr.add_lit, cell_of_row W1 vb _ _ _ _ (Hk1.out.heap Hh.out (fun h => h))]
    simpa using hj
  case d3 => have := Hpn.out; have := HGn.out; rw [HX.out]; simp; omega
  case d4 => exact cBd.one b
  case d5 =>
    intro w2 hg2 hk2
    have HD2 : Hid (∀ j v, D[j]? = some v → w2.drew.cell? ((⟨g, p * 11, none⟩ : Addr).add j) = some v) := fun j v hj => by
      have h1 := HDs.out j v hj
      have h2 := Hk1.out.cell h1 (fun h => h)
      exact hk2.out.cell h2 (fun h => by rw [Addr.add_lit] at h; have : g = w.heap.size := h; have := Hgw.out; omega)
    go_wp2
    go_still_tail 8, (by kernel_rfl)
    change wpList _ _ _ _ _ w2.drew
    refine wpList_copy_rowK rfl (.tmp 50) (.tmp 53) 27 27 rfl 38 i0 11 Tryz.underlying27 hi hz1 w.heap.size _ ((p + 1) * 11) _ _ ⟨g, p * 11, none⟩ _ _ rfl rfl rfl (Go.splice X (p * 11) (bdC b)) 38 hg2.out (n - p) ?e1 D HDl.out HD2.out ?e2 HD1.out ?e3
    case e1 => have := Hpn.out; simp only [Nat.min_def]; split <;> omega
    case e2 => have := Hpn.out; have := HGn.out; rw [HDl.out, Hl1.out]; omega
    case e3 =>
      intro w3 hg3 hk3
      go_wp2
      go_ret
      refine ⟨G, rfl, Hfin.out _ hg3.out, ?_⟩
      have k1 : Keeps (Own w.heap.size) w w3 := ((Hk1.out.mono (fun _ _ h => h.elim)).trans hk2.out (fun _ _ h => h)).drew.trans hk3.out (fun _ _ h => h)
      exact k1.mono (fun i hi h => by have : i = w.heap.size := h; omega)

/-- slices.Insert of one Bundle, wherever, room or none -/
theorem insert_bd (w : World) (base : Nat) (v : Value) (l : List Bd) (hown : OwnOf cBd 38 w base v l) (hl : l.length ≤ 1000) (p : Nat) (hp : p ≤ l.length) (vb : Nat) (b : Bd) (hb : w.heap[vb]? = some (.cells (bdC b).toArray 38 (0, 0))) (hne : v.ownBlock ≠ some vb) (hbase : base ≤ w.heap.size) :
    Calls Tryz.prog 58 #[v, .int .i64 p, .slice (some ⟨vb, 0, none⟩) 1 1] w fun e w' =>
      ∃ v', e = .returned v' ∧ OwnOf cBd 38 w' base v' (l.take p ++ b :: l.drop p) ∧ Keeps (Of v) w w' ∧ ∀ k, v'.ownBlock = some k → v.ownBlock = some k ∨ w.heap.size ≤ k := by
  by_cases hpe : p = l.length
  · subst hpe
    rw [List.take_length, List.drop_length]
    exact insert_end w base v l hown hl vb b hb hbase
  · rcases hown.2 with ⟨_, h0⟩ | ⟨g, cap, cur, hv, hbg, _⟩
    · omega
    · subst hv
      by_cases hroom : l.length + 1 ≤ cap
      · refine (insert_room w base g cap p l hown hl (by omega) hroom vb b hb (fun h => hne (by rw [h]; rfl))).mono ?_
        rintro e w' ⟨he, ho, hk⟩
        exact ⟨_, he, ho, hk.mono (fun i _ h => by have : i = g := h; rw [this]; rfl), fun k hk => .inl hk⟩
      · refine (insert_grow w base g cap p l hown hl (by omega) (by omega) vb b hb hbase).mono ?_
        rintro e w' ⟨G, he, ho, hk⟩
        exact ⟨_, he, ho, hk.mono (fun _ _ h => h.elim), fun k hk => .inr (by have : w.heap.size = k := Option.some.inj hk; omega)⟩

end Go.Proofs.YtcjeocibnfoenaaGreat
