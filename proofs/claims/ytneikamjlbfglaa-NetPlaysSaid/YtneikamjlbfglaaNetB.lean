/-
  slices.Delete, slices.DeleteFunc and slices.Clone over packets in a row of the call's own.
-/
import Derived.Test.YtneikamjlbfglaaNetA
namespace Go.Proofs.Ytneikamjlbfglaa
open Go.RowKit

theorem pkCells_cut (l : List Pk) (k : Nat) : pkCells (l.take k) ++ pkCells (l.drop (k + 1)) = pkCells (l.eraseIdx k) := by
  rw [← pkCells_append, List.eraseIdx_eq_take_drop_succ]

set_option maxHeartbeats 1000000 in
theorem delete_one (w : World) (base g cap k : Nat) (K1 : Int) (HK1 : K1 = (k : Int) + 1) (l : List Pk) (hown : PkOwn w base (.slice (some ⟨g, 0, none⟩) l.length cap) l) (hk : k < l.length) (hc : l.length ≤ cap) (hcm : cap ≤ maxLen) :
    Calls Try.prog 28 #[.slice (some ⟨g, 0, none⟩) l.length cap, .int .i64 k, .int .i64 K1] w fun e w' =>
      e = .returned (.slice (some ⟨g, 0, none⟩) (l.length - 1) cap) ∧ PkOwn w' base (.slice (some ⟨g, 0, none⟩) (l.length - 1) cap) (l.eraseIdx k) ∧ Keeps (Own g) w w' := by
  obtain ⟨i0, hi, hz0, hz1, hz2⟩ := info_parts Try.infoPk
  have hr : PkReads w (.slice (some ⟨g, 0, none⟩) l.length cap) l := Reads.ofOwn hown (pkCells_one' l)
  unfold maxLen at hcm
  have hne : ((k : Int) == K1) = false := by simp; omega
  have e1 : K1.toNat = k + 1 := by omega
  have hel : (l.eraseIdx k).length = l.length - 1 := by rw [List.length_eraseIdx]; simp [hk]
  have h1 : (0 : Int) ≤ K1 := by omega
  have h2 : K1 ≤ l.length := by omega
  have h3 : ((k : Nat) : Int) ≤ K1 := by omega
  have h4 : ((k : Nat) : Int) ≤ (cap : Int) := by omega
  have h5 : 0 ≤ ((k : Nat) : Int) := by omega
  clear HK1
  obtain ⟨ao, hao⟩ : ∃ ao : Option Addr, (if cap = k + 1 then some (⟨g, 0, none⟩ : Addr) else some ⟨g, (k + 1) * 3, none⟩) = ao := ⟨_, rfl⟩
  have hsrc : Reads w 3 (.slice ao (l.length - (k + 1)) (cap - (k + 1))) (l.length - (k + 1)) (pkCells (l.drop (k + 1))) := by
    have := hr.drop (m := k + 1) (by omega) ao (fun h => by rw [← hao, if_neg (by omega)]; simp) (fun h => by rw [← hao] at h; split at h <;> cases h)
    rwa [pkCells_drop] at this
  have hsub : w.ownsRow base 34 3 (.slice (some ⟨g, 0, none⟩) k cap) k (pkCells (l.take k)) := by
    have := ownsRow_shrink hown (k := k) (by omega)
    rwa [pkCells_take] at this
  have hlen1 : (k + (l.length - (k + 1))) = l.length - 1 := by omega
  have H5 := Lib.hid hlen1
  have Hao := Lib.hid hao; clear hao hlen1
  have Hel := Lib.hid hel; clear hel
  go_enter Try.func28, Try.ntmps28
  go_wp2
  go_still_tail 6, (by kernel_rfl)
  rw [Hao.out]
  change wpList _ _ _ _ _ w.drew
  refine wpList_append_inplace rfl (.tmp 22) (.tmp 25) 28 rfl base 34 i0 3 Try.underlying28 hi hz1 g k cap (pkCells (l.take k)) rfl hsub _ _ _ rfl (hsrc.kept ((Keeps.refl (S := No) w).drew) (fun _ _ h => h)) (by omega) ?_
  intro w1 hown1 hk1
  rw [H5.out] at hown1 ⊢
  have hx : (k + (l.length - (k + 1))) * 3 = (l.length - 1) * 3 := by omega
  rw [pkCells_cut] at hown1
  have h6 : ((l.length - 1 : Nat) : Int) ≤ (cap : Int) := by omega
  have h7 : ((l.length - 1 : Nat) : Int) ≤ (l.length : Int) := by omega
  have h8 : ((l.length : Nat) : Int) ≤ (cap : Int) := by omega
  have h9 : ¬ cap = l.length - 1 := by omega
  generalize hL1 : l.length - 1 = L1 at *
  have HL1 := Lib.hid hL1; clear hL1
  go_wp2_with (refine wpList_clear_row rfl (.tmp 31) 28 rfl 34 i0 _ Try.underlying28 hi hz0 3 rfl (by decide) base g L1 cap _ hown1 _ (L1 * 3) _ _ rfl ?c1 (Nat.le_refl _) ?c2 ?c3)
  case c2 => intro _; omega
  case c3 =>
    intro w2 hown2 hk2
    go_wp2
    go_ret
    refine ⟨by rw [HL1.out]; rfl, ?_, ?_⟩
    · show World.ownsRow _ _ _ _ (.slice (some ⟨g, 0, none⟩) (l.length - 1) cap) (l.eraseIdx k).length _
      rw [HL1.out, Hel.out]
      exact hown2
    exact (((Keeps.refl (S := Own g) w).drew).trans hk1 (fun _ _ h => h)).trans hk2 (fun _ _ h => h)

theorem pkCells_set (l : List Pk) (k : Nat) (hk : k < l.length) (p : Pk) : (((pkCells l).set (k * 3) (.int .i64 p.f)).set (k * 3 + 1) (.int .i64 p.t)).set (k * 3 + 2) (.string p.s) = pkCells (l.set k p) := by
  induction l generalizing k with
  | nil => simp at hk
  | cons q l ih =>
    have e : ∀ x r, pkCells (x :: r) = .int .i64 x.f :: .int .i64 x.t :: .string x.s :: pkCells r := fun x r => by simp [pkCells, Pk.cells]
    cases k with
    | zero => simp [e]
    | succ k =>
      have := ih k (by simpa using hk)
      rw [List.set_cons_succ, e, e, ← this, show (k + 1) * 3 = k * 3 + 1 + 1 + 1 by omega, show k * 3 + 1 + 1 + 1 + 1 = (k * 3 + 1) + 1 + 1 + 1 by omega, show k * 3 + 1 + 1 + 1 + 2 = (k * 3 + 2) + 1 + 1 + 1 by omega]
      simp only [List.set_cons_succ]
theorem PkOwn.stored {w : World} {base g n cap : Nat} {l : List Pk} (h : w.ownsRow base 34 3 (.slice (some ⟨g, 0, none⟩) n cap) n (pkCells l)) (k : Nat) (hk : k < l.length) (p : Pk) :
    (((w.setCell ⟨g, k * 3, none⟩ (.int .i64 p.f)).setCell ⟨g, k * 3 + 1, none⟩ (.int .i64 p.t)).setCell ⟨g, k * 3 + 2, none⟩ (.string p.s)).ownsRow base 34 3 (.slice (some ⟨g, 0, none⟩) n cap) n (pkCells (l.set k p)) := by
  rw [← pkCells_set l k hk p]
  exact (((h.stored _ _).1.stored _ _).1.stored _ _).1

theorem Keeps.set3 {g : Nat} {a w : World} (h : Keeps (Own g) a w) (i j k : Nat) (x y z : Value) : Keeps (Own g) a (((w.setCell ⟨g, i, none⟩ x).setCell ⟨g, j, none⟩ y).setCell ⟨g, k, none⟩ z) :=
  ((h.setCell (p := ⟨g, i, none⟩) (fun _ => rfl) _).setCell (p := ⟨g, j, none⟩) (fun _ => rfl) _).setCell (p := ⟨g, k, none⟩) (fun _ => rfl) _
theorem idxOf_neg {pr : Pk → Bool} {l : List Pk} (h : idxOf pr l = -1) : l.filter (fun p => !pr p) = l := by
  cases hf : l.findIdx? pr with
  | some k => simp [idxOf, hf] at h
  | none =>
    rw [List.findIdx?_eq_none_iff] at hf
    rw [List.filter_eq_self]
    intro p hp
    simp [hf p hp]
theorem idxOf_pos {pr : Pk → Bool} {l : List Pk} (h : ¬ idxOf pr l = -1) : ∃ k : Nat, idxOf pr l = k ∧ ∃ hk : k < l.length, pr l[k] = true ∧ ∀ j, (hj : j < k) → pr (l[j]'(by omega)) = false := by
  cases hf : l.findIdx? pr with
  | none => simp [idxOf, hf] at h
  | some k =>
    have h2 := hf
    rw [List.findIdx?_eq_some_iff_getElem] at hf
    obtain ⟨hk, hp, hno⟩ := hf
    exact ⟨k, by simp [idxOf, h2], hk, hp, fun j hj => by simpa using hno j hj⟩

/-- the loop of DeleteFunc: j are looked at, m are kept -/
structure Sieve (pr : Pk → Bool) (l M : List Pk) (m j : Nat) : Prop where
  len : M.length = l.length
  lt : m < j
  le : j ≤ l.length
  kept : M.take m = (l.take j).filter fun p => !pr p
  rest : M.drop j = l.drop j
theorem Sieve.at {pr : Pk → Bool} {l M : List Pk} {m j : Nat} (h : Sieve pr l M m j) (hj : j < l.length) : ∃ hM : j < M.length, M[j] = l[j] := by
  have hM : j < M.length := by rw [h.len]; exact hj
  refine ⟨hM, ?_⟩
  have e := h.rest
  rw [List.drop_eq_getElem_cons hM, List.drop_eq_getElem_cons hj] at e
  exact (List.cons.inj e).1
theorem Sieve.start {pr : Pk → Bool} {l : List Pk} {k : Nat} (hk : k < l.length) (hp : pr l[k] = true) (hno : ∀ j, (hj : j < k) → pr (l[j]'(by omega)) = false) : Sieve pr l l k (k + 1) := by
  refine ⟨rfl, by omega, by omega, ?_, rfl⟩
  rw [List.take_succ_eq_append_getElem hk, List.filter_append]
  have h1 : (l.take k).filter (fun p => !pr p) = l.take k := by
    rw [List.filter_eq_self]
    intro p hpm
    obtain ⟨j, hj, rfl⟩ := List.getElem_of_mem hpm
    have hjk : j < k := by simpa using Nat.lt_of_lt_of_le hj (by simp [List.length_take]; omega)
    simp [hno j hjk]
  rw [h1]
  simp [hp]
theorem Sieve.pass {pr : Pk → Bool} {l M : List Pk} {m j : Nat} (h : Sieve pr l M m j) (hj : j < l.length) (hp : pr l[j] = true) : Sieve pr l M m (j + 1) := by
  refine ⟨h.len, by have := h.lt; omega, by omega, ?_, ?_⟩
  · rw [h.kept, List.take_succ_eq_append_getElem hj, List.filter_append]; simp [hp]
  · have e := congrArg (List.drop 1) h.rest
    simpa [List.drop_drop] using e
theorem Sieve.keep {pr : Pk → Bool} {l M : List Pk} {m j : Nat} (h : Sieve pr l M m j) (hj : j < l.length) (hp : pr l[j] = false) : Sieve pr l (M.set m l[j]) (m + 1) (j + 1) := by
  have hm := h.lt
  have hl := h.len
  refine ⟨by simpa using h.len, by omega, by omega, ?_, ?_⟩
  · rw [List.take_succ_eq_append_getElem (by simp; omega), List.take_set_of_le (Nat.le_refl _), h.kept, List.take_succ_eq_append_getElem hj, List.filter_append]
    simp [hp]
  · rw [List.drop_set_of_lt (by omega)]
    have e := congrArg (List.drop 1) h.rest
    simpa [List.drop_drop] using e

set_option maxHeartbeats 2000000 in
/-- of those that are left, in order -/
theorem deleteFunc (w : World) (base : Nat) (v : Value) (l : List Pk) (hown : PkOwn w base v l) (fid : Nat) (first captured : Array Value) (pr : Pk → Bool) (hf : Answers (Of v) w fid first captured pr) :
    Calls Try.prog 29 #[v, .func (.func fid) first captured] w fun e w' => ∃ v', e = .returned v' ∧ PkOwn w' base v' (l.filter fun p => !pr p) ∧ Keeps (Of v) w w' ∧ v'.ownBlock = v.ownBlock := by
  obtain ⟨i0, hi, hz0, hz1, hz2⟩ := info_parts Try.infoPk
  have hr : PkReads w v l := Reads.ofOwn hown (pkCells_one' l)
  by_cases hneg : idxOf pr l = -1
  · obtain ⟨a, c, rfl⟩ := hr.slice
    have Hall := Lib.hid (idxOf_neg hneg)
    have Hneg := Lib.hid hneg; clear hneg
    go_enter Try.func29, Try.ntmps29
    go_wp2_with fail
    refine (indexFunc (Of (.slice a l.length c)) w _ l hr fid first captured pr hf).mono ?_
    rintro e w1 ⟨rfl, hk1⟩
    rw [Hneg.out]
    go_wp2
    go_ret
    exact ⟨_, rfl, by rw [Hall.out]; exact hk1.owns hown (fun _ _ h => h), hk1.mono (fun _ _ h => h.elim), rfl⟩
  · obtain ⟨k0, hk0, hkl, hp0, hno⟩ := idxOf_pos hneg
    have hsv := Sieve.start hkl hp0 hno
    clear hno hneg
    obtain ⟨g, cap, rfl, hgb, hglt, hnc, hcm⟩ : ∃ g cap, v = .slice (some ⟨g, 0, none⟩) l.length cap ∧ base ≤ g ∧ g < w.heap.size ∧ l.length ≤ cap ∧ cap ≤ maxLen := by
      rcases hown.2 with ⟨_, h0⟩ | ⟨g, cap, cur, h, hb, hg, hnc, hcm, _⟩
      · omega
      · exact ⟨g, cap, h, hb, (Array.getElem?_eq_some_iff.1 hg).1, hnc, hcm⟩
    unfold maxLen at hcm
    have hk0' : ((k0 : Int) == -1) = false := by simp
    have Hk0 := Lib.hid hk0; clear hk0
    go_enter Try.func29, Try.ntmps29
    go_wp2_with fail
    refine (indexFunc (Of (.slice (some ⟨g, 0, none⟩) l.length cap)) w _ l hr fid first captured pr hf).mono ?_
    rintro e w1 ⟨rfl, hk1⟩
    rw [Hk0.out]
    have hown1 := hk1.owns hown (fun _ _ h => h)
    go_wp2
    go_loopw [5, 6] (fun i j wr => ∃ (m jn : Nat) (M : List Pk), i = .int .i64 m ∧ j = .int .i64 jn ∧ Sieve pr l M m jn ∧ wr.ownsRow base 34 3 (.slice (some ⟨g, 0, none⟩) l.length cap) l.length (pkCells M) ∧ Keeps (Own g) w wr) (fun _ j _ => l.length - (intOf j).toNat)
    case atStart => exact ⟨k0, k0 + 1, l, rfl, by go_num, hsv, hown1, hk1.mono (fun _ _ h => h.elim)⟩
    case round =>
      obtain ⟨m, j, M, rfl, rfl, hsv', hownr, hkr⟩ := hrel
      have hmj := hsv'.lt
      have hjl := hsv'.le
      have hMl := hsv'.len
      have HMl := Lib.hid hMl; clear hMl
      by_cases hlt : j < l.length
      · obtain ⟨hM, hMj⟩ := hsv'.at hlt
        have hrr : Reads wr 3 (.slice (some ⟨g, 0, none⟩) l.length cap) l.length (pkCells M) := Reads.ofOwn hownr (pkCells_one' M)
        obtain ⟨g0, g1, g2⟩ := hrr.pk j hM
        rw [hMj] at g0 g1 g2
        simp only [Nat.zero_add] at g0 g1 g2
        clear hMj
        have hcall := hf.call
        go_wp2_with fail
        refine (hf.ans _ l[j] ((hkr.alloc _).mono (fun _ _ h => by cases h; rfl))).mono ?_
        rintro e w2 ⟨rfl, hk2⟩
        have hg2 : w2.heap.size = w2.heap.size := rfl
        have q0 : w2.cell? ⟨wr.heap.size, 0, none⟩ = some (.int .i64 l[j].f) := hk2.cell (by simp) (fun h => h)
        have q1 : w2.cell? ⟨wr.heap.size, 1, none⟩ = some (.int .i64 l[j].t) := hk2.cell (by simp) (fun h => h)
        have q2 : w2.cell? ⟨wr.heap.size, 2, none⟩ = some (.string l[j].s) := hk2.cell (by simp) (fun h => h)
        have hown2 : w2.ownsRow base 34 3 (.slice (some ⟨g, 0, none⟩) l.length cap) l.length (pkCells M) := hk2.owns (hownr.alloc _) (fun _ _ h => h)
        have hkw2 : Keeps (Own g) w w2 := (hkr.alloc _).trans hk2 (fun _ _ h => h.elim)
        by_cases hp : pr l[j] = true
        · have hsk := hsv'.pass hlt hp
          go_wp2
          go_roundw
          case rel => exact ⟨m, j + 1, M, rfl, by go_num, hsk, hown2, hkw2⟩
          case measure => simp [intOf]; omega
        · have hp' : pr l[j] = false := by simpa using hp
          have hkp := hsv'.keep hlt hp'
          have hst := PkOwn.stored hown2 m (by rw [HMl.out]; omega) l[j]
          have hm3 : m * 3 + 2 < l.length * 3 := by omega
          have hx0 := hown2.cellAt (m * 3) (by omega)
          have hx1 := hown2.cellAt (m * 3 + 1) (by omega)
          have hx2 := hown2.cellAt (m * 3 + 2) (by omega)
          obtain ⟨y0, y1, y2⟩ := pkCells_at M m (by rw [HMl.out]; omega)
          rw [y0] at hx0; rw [y1] at hx1; rw [y2] at hx2
          clear y0 y1 y2
          have hz0 := hown2.frozenAt (m * 3)
          have hz1 := hown2.frozenAt (m * 3 + 1)
          have hz2 := hown2.frozenAt (m * 3 + 2)
          clear hp
          go_wp2
          go_roundw
          case rel => exact ⟨m + 1, j + 1, _, by go_num, by go_num, hkp, hst, hkw2.set3 _ _ _ _ _ _⟩
          case measure => simp [intOf]; omega
      · obtain rfl : j = l.length := by omega
        have hkept := hsv'.kept
        rw [List.take_length] at hkept
        have hsub := ownsRow_shrink hownr (k := m) (by omega)
        rw [pkCells_take, hkept] at hsub
        have hflen : (l.filter fun p => !pr p).length = m := by rw [← hkept, List.length_take, HMl.out]; omega
        have Hfl := Lib.hid hflen; clear hflen
        clear hkept hsv'
        have h9 : ¬ cap = m := by omega
        have h6 : ((m : Nat) : Int) ≤ (cap : Int) := by omega
        go_wp2_with (refine wpList_clear_row rfl (.tmp 38) 28 rfl 34 i0 _ Try.underlying28 hi hz0 3 rfl (by decide) base g m cap _ hsub _ (m * 3) _ _ rfl ?c1 (Nat.le_refl _) ?c2 ?c3)
        case c2 => intro _; omega
        case c3 =>
          intro w2 hown2 hk2
          go_wp2
          go_ret
          refine ⟨_, rfl, ?_, hkr.trans hk2 (fun _ _ h => by cases h; rfl) |>.mono (fun _ _ h => by cases h; rfl), rfl⟩
          show World.ownsRow _ _ _ _ _ (l.filter fun p => !pr p).length _
          rw [Hfl.out]
          exact hown2
end Go.Proofs.Ytneikamjlbfglaa
