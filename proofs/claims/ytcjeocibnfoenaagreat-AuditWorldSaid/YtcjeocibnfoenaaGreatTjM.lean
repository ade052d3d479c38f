/-
  slices.Compact over names: what it leaves alone. No conditions of its own.
-/
import Derived.Test.YtcjeocibnfoenaaGreatTjL
import Derived.BigQuiet
namespace Go.Proofs.YtcjeocibnfoenaaGreat
open Go.RowKit Go.Joins Go.Deep Go.Sort

/-- an element of a row of the call's own is another one -/
theorem own_splice {α : Type} {C : Codec α} {e : TypeId} {w : World} {base g cap : Nat} {l : List α} (h : OwnOf C e w base (.slice (some ⟨g, 0, none⟩) l.length cap) l) (k : Nat) (hk : k < l.length) (a : α) :
    OwnOf C e (w.setRow g (splice (rowD w g) (k * C.size) (C.cells a))) base (.slice (some ⟨g, 0, none⟩) l.length cap) (l.set k a) := by
  obtain ⟨h1, h2⟩ := h
  rcases h2 with ⟨h2, _⟩ | ⟨g', cap', cur, hv, hg, hh, hc, hm, hs, ht⟩
  · cases h2
  · simp only [Value.slice.injEq, Option.some.injEq, Addr.mk.injEq, and_true, true_and] at hv
    obtain ⟨rfl, rfl⟩ := hv
    have hr : rowD w g = cur := by unfold rowD; rw [hh]
    have hlc := C.len a
    have hkc : k * C.size + C.size ≤ l.length * C.size := by rw [← Nat.succ_mul]; exact Nat.mul_le_mul_right _ hk
    have hlcap : l.length * C.size ≤ cap * C.size := Nat.mul_le_mul_right _ hc
    have hcl : cur.toList.length = cap * C.size := by rw [Array.length_toList, hs]
    refine ⟨by rw [rowsOf_length], .inr ⟨g, cap, _, by rw [List.length_set], hg, setRow_heap w g cur _ e _ hh, by rw [List.length_set]; exact hc, hm, ?_, ?_⟩⟩
    · rw [hr]
      unfold splice
      simp only [List.size_toArray, List.length_append, List.length_take, List.length_drop, hcl, hlc]
      omega
    · rw [hr, List.length_set, rowsOf_set C l k hk a, ← ht]
      unfold splice
      have ho : k * C.size + C.size = (k + 1) * C.size := by rw [Nat.succ_mul]
      have h3 : (cur.toList.take (k * C.size) ++ C.cells a).length = (k + 1) * C.size := by rw [List.length_append, List.length_take, hcl, hlc]; omega
      rw [hlc, ho, List.take_append, h3, List.take_of_length_le (by rw [h3]; omega), List.take_take, Nat.min_eq_left (by omega), List.drop_take]

theorem own_fits {α : Type} {C : Codec α} {e : TypeId} {w : World} {base g cap : Nat} {l : List α} (h : OwnOf C e w base (.slice (some ⟨g, 0, none⟩) l.length cap) l) : Open w g ∧ (rowD w g).size = cap * C.size ∧ l.length ≤ cap ∧ cap ≤ maxLen ∧ base ≤ g := by
  rcases h.2 with ⟨h2, _⟩ | ⟨g', cap', cur, hv, hg, hh, hc, hm, hs, ht⟩
  · cases h2
  · simp only [Value.slice.injEq, Option.some.injEq, Addr.mk.injEq, and_true, true_and] at hv
    obtain ⟨rfl, rfl⟩ := hv
    exact ⟨⟨_, _, hh⟩, by unfold rowD; rw [hh]; exact hs, hc, hm, hg⟩
theorem own_drewN {α : Type} {C : Codec α} {e : TypeId} {w : World} {base : Nat} {v : Value} {l : List α} (h : OwnOf C e w base v l) (n : Nat) : OwnOf C e (w.drewN n) base v l := h
/-- a row of so many names -/
def NamRow (w : World) (base g n cap : Nat) (l : List Nam) : Prop := l.length = n ∧ w.ownsRow base 36 3 (.slice (some ⟨g, 0, none⟩) n cap) n (rowsOf cNam l)
theorem NamRow.own {w : World} {base g n cap : Nat} {l : List Nam} (h : NamRow w base g n cap l) : OwnOf cNam 36 w base (.slice (some ⟨g, 0, none⟩) l.length cap) l := by
  obtain ⟨rfl, h2⟩ := h
  exact h2
theorem NamRow.at {w : World} {base g n cap : Nat} {l : List Nam} (h : NamRow w base g n cap l) (k : Nat) (hk : k < n) : ∃ x : Nam, cellsAt w g (k * 3) 3 = some [.int .i64 x.s, .int .i64 x.i, .int .i64 x.g] := by
  obtain ⟨rfl, h2⟩ := h
  have h3 := RdOf.at cNam (OwnOf.reads h2) k hk
  rw [Nat.zero_add] at h3
  exact ⟨l[k], h3⟩
theorem NamRow.set {w : World} {base g n cap : Nat} {l : List Nam} (h : NamRow w base g n cap l) (k : Nat) (hk : k < n) (x : Nam) : ∃ l', NamRow (w.setRow g (splice (rowD w g) (k * 3) [.int .i64 x.s, .int .i64 x.i, .int .i64 x.g])) base g n cap l' := by
  obtain ⟨rfl, h2⟩ := h
  refine ⟨l.set k x, List.length_set, ?_⟩
  have h3 := own_splice (C := cNam) h2 k hk x
  unfold OwnOf at h3
  rw [List.length_set] at h3
  exact h3

/-- what Compact leaves -/
def CoPost (w : World) (base g cap : Nat) (e : Ending) (w' : World) : Prop := ∃ (m : Nat) (l' : List Nam), m ≤ 1000000 ∧ e = .returned (.slice (some ⟨g, 0, none⟩) m cap) ∧ NamRow w' base g m cap l' ∧ Keeps (Own g) w w'
set_option maxRecDepth 100000 in
set_option maxHeartbeats 8000000 in
theorem compact_some (w : World) (base g n cap : Nat) (l : List Nam) (h : NamRow w base g n cap l) (hn : n ≤ 1000000) :
    Calls Tryz.prog 33 #[.slice (some ⟨g, 0, none⟩) n cap] w (CoPost w base g cap) := by
  obtain ⟨i0, hi, hz0, hz1, hz2⟩ := info_parts Tryz.infoID
  have H := Lib.hid h
  obtain ⟨_, _, hc1, hc2, _⟩ := own_fits h.own
  rw [h.1] at hc1
  unfold maxLen at hc2
  have HN := Lib.hid hn
  have HC := Lib.hid (And.intro hc1 hc2)
  have mx := mixed
  have hni : (n : Int) ≤ 1000000 := by omega
  clear h hn hc1 hc2
  by_cases h2 : n < 2
  · have h2i : (n : Int) < 2 := by omega
    go_enter Tryz.func33, Tryz.ntmps33
    go_wp2
    go_ret
    exact ⟨n, l, HN.out, rfl, H.out, Keeps.refl _⟩
  · have h2i : ¬ (n : Int) < 2 := by omega
    go_enter Tryz.func33, Tryz.ntmps33
    go_wp2_with fail
    go_loopw [3] (fun q wr => ∃ k m : Nat, 1 ≤ k ∧ k ≤ n ∧ q = .int .i64 k ∧ wr = w.drewN m) (fun q _ => n - (intOf q).toNat)
    case atStart => exact ⟨1, 0, by omega, by omega, rfl, rfl⟩
    case round =>
      obtain ⟨k, m, hk1, hkn, rfl, rfl⟩ := hrel
      have hk0 : (0 : Int) ≤ (k : Int) := by omega
      by_cases hlt : k < n
      · have hlti : (k : Int) < (n : Int) := by omega
        obtain ⟨kp, rfl⟩ : ∃ kp, k = kp + 1 := ⟨k - 1, by omega⟩
        obtain ⟨x, cx⟩ := H.out.at (kp + 1) hlt
        obtain ⟨y, cy⟩ := H.out.at kp (by omega)
        obtain ⟨T, hT⟩ : ∃ T, T = neq x y := ⟨_, rfl⟩
        have heq : ∀ W, (binOp .eql 36 (.agg #[.int .i64 x.s, .int .i64 x.i, .int .i64 x.g]) (.agg #[.int .i64 y.s, .int .i64 y.i, .int .i64 y.g])).run Tryz.prog W = .ok (.bool T) W := fun W => by rw [hT]; exact run_eqlID _ _ _ _ _ _ W
        have cx' : ∀ j, cellsAt ((w.drewN m).drewN j) g ((kp + 1) * 3) 3 = some [.int .i64 x.s, .int .i64 x.i, .int .i64 x.g] := fun _ => cx
        have cy' : ∀ j, cellsAt ((w.drewN m).drewN j) g (kp * 3) 3 = some [.int .i64 y.s, .int .i64 y.i, .int .i64 y.g] := fun _ => cy
        have hw1 : IntKind.i64.wrap ((kp : Int) + 1 - 1) = (kp : Int) := by rw [IntKind.wrap_i64]; omega
        have hp00 : (0 : Int) ≤ (kp : Int) := by omega
        have hp01 : (kp : Int) < (n : Int) := by omega
        have hp02 : (kp : Int) + 1 < (n : Int) := by omega
        have hp03 : (0 : Int) ≤ (kp : Int) + 1 := by omega
        have ht1 : ((kp : Int) + 1).toNat = kp + 1 := by omega
        clear hT cx' cy'
        go_wp2_with fail
        go_quiet (fail)
        cases T with
        | false =>
          go_wp2
          go_roundw
          case rel => exact ⟨kp + 1 + 1, m + nq, by omega, by omega, by go_num, by first | rfl | rw [World.drewN_drewN]⟩
          case measure => simp [intOf]; omega
        | true =>
          obtain ⟨k, hk⟩ : ∃ k, k = kp + 1 := ⟨_, rfl⟩
          have hck : ¬ cap = k := by have := HC.out.1; omega
          have hkn2 : (k : Int) ≤ (n : Int) := by omega
          have hk02 : (0 : Int) ≤ (k : Int) := by omega
          have hnc : (n : Int) ≤ (cap : Int) := by have := HC.out.1; omega
          rw [← hk]
          have HK := Lib.hid (And.intro hk (And.intro hlt hk1))
          have KQ : Hid (NamRow ((w.drewN m).drewN nq) base g n cap l ∧ Keeps (Own g) w ((w.drewN m).drewN nq)) := Lib.hid ⟨H.out, ((Keeps.refl w).drewN m).drewN nq⟩
          obtain ⟨w2, hw2⟩ : ∃ x, x = (w.drewN m).drewN nq := ⟨_, rfl⟩
          show Exit.then _ _ Exit.normal _ ((w.drewN m).drewN nq)
          rw [← hw2] at KQ ⊢
          clear hk hk1 hkn hk0 hlt hlti cx cy heq hw1 hp00 hp01 hp02 hp03 ht1 hw2
          go_wp2_with fail
          go_loopw [3, 5] (fun q p wr => ∃ (a j : Nat) (cur : List Nam), q = .int .i64 a ∧ p = .int .i64 j ∧ 1 ≤ j ∧ j ≤ n - k ∧ a + 1 ≤ k + j ∧ NamRow wr base g n cap cur ∧ Keeps (Own g) w wr) (fun _ p _ => n - k - (intOf p).toNat)
          case atStart => exact ⟨k, 1, l, rfl, rfl, by omega, by have := HK.out; omega, by omega, KQ.out.1, KQ.out.2⟩
          case round =>
            obtain ⟨a, j, cur, rfl, rfl, hj1, hjn, haj, hR, hKK⟩ := hrel
            obtain ⟨wo, hwo⟩ : ∃ z : World, z = wr := ⟨_, rfl⟩
            subst hwo
            have R := Lib.hid hR
            have K := Lib.hid hKK
            have hj0 : (0 : Int) ≤ (j : Int) := by omega
            have ha0 : (0 : Int) ≤ (a : Int) := by omega
            have hkn : Hid (k < n) := Lib.hid (by have := HK.out; omega)
            have hcs : ((n - k : Nat) : Int) = (n : Int) - (k : Int) := by have := hkn.out; omega
            clear hR hKK
            by_cases hlt : j < n - k
            · have hlti : (j : Int) < ((n - k : Nat) : Int) := by omega
              obtain ⟨jp, rfl⟩ : ∃ jp, j = jp + 1 := ⟨j - 1, by omega⟩
              obtain ⟨x, cx0⟩ := R.out.at (k + (jp + 1)) (by omega)
              obtain ⟨y, cy0⟩ := R.out.at (k + jp) (by omega)
              have cx : cellsAt wo g (k * 3 + (jp + 1) * 3) 3 = some [.int .i64 x.s, .int .i64 x.i, .int .i64 x.g] := by rw [← Nat.add_mul]; exact cx0
              have cy : cellsAt wo g (k * 3 + jp * 3) 3 = some [.int .i64 y.s, .int .i64 y.i, .int .i64 y.g] := by rw [← Nat.add_mul]; exact cy0
              obtain ⟨T, hT⟩ : ∃ T, T = neq x y := ⟨_, rfl⟩
              have heq : ∀ W, (binOp .neq 36 (.agg #[.int .i64 x.s, .int .i64 x.i, .int .i64 x.g]) (.agg #[.int .i64 y.s, .int .i64 y.i, .int .i64 y.g])).run Tryz.prog W = .ok (.bool (!T)) W := fun W => by rw [hT]; exact run_neqID _ _ _ _ _ _ W
              have hw1 : IntKind.i64.wrap ((jp : Int) + 1 - 1) = (jp : Int) := by rw [IntKind.wrap_i64]; omega
              have hp00 : (0 : Int) ≤ (jp : Int) := by omega
              have hp01 : (jp : Int) < ((n - k : Nat) : Int) := by omega
              have hp02 : (jp : Int) + 1 < ((n - k : Nat) : Int) := by omega
              have hp03 : (0 : Int) ≤ (jp : Int) + 1 := by omega
              have hq01 : (jp : Int) < (n : Int) - (k : Int) := by omega
              have hq02 : (jp : Int) + 1 < (n : Int) - (k : Int) := by omega
              have ht1 : ((jp : Int) + 1).toNat = jp + 1 := by omega
              have han : (a : Int) < (n : Int) := by omega
              have HA := Lib.hid (And.intro haj hjn)
              clear hT cx0 cy0 haj hjn hj1
              go_wp2_with fail
              go_quiet (fail)
              have KR : Hid (NamRow (wo.drewN nq) base g n cap cur ∧ Keeps (Own g) w (wo.drewN nq)) := Lib.hid ⟨R.out, K.out.drewN nq⟩
              obtain ⟨w3, hw3⟩ : ∃ z, z = wo.drewN nq := ⟨_, rfl⟩
              show Exit.then _ _ Exit.normal _ (wo.drewN nq)
              have cx3 : cellsAt w3 g (k * 3 + (jp + 1) * 3) 3 = some [.int .i64 x.s, .int .i64 x.i, .int .i64 x.g] := by rw [hw3]; exact cx
              rw [← hw3] at KR ⊢
              clear hw3 cx cy heq
              cases T with
              | true =>
                clear cx3
                go_wp2
                go_roundw
                case rel => exact ⟨a, jp + 1 + 1, cur, rfl, by go_num, by omega, by omega, by have := HA.out; omega, KR.out.1, KR.out.2⟩
                case measure => simp [intOf]; omega
              | false =>
                obtain ⟨hOp, hSz, _, _, _⟩ := own_fits KR.out.1.own
                have hfit : a * 3 + 3 ≤ cap * 3 := by have := HC.out.1; omega
                obtain ⟨cur', hcur'⟩ := KR.out.1.set a (by omega) x
                have KR2 : Hid (NamRow (w3.setRow g (splice (rowD w3 g) (a * 3) [.int .i64 x.s, .int .i64 x.i, .int .i64 x.g])) base g n cap cur' ∧ Keeps (Own g) w (w3.setRow g (splice (rowD w3 g) (a * 3) [.int .i64 x.s, .int .i64 x.i, .int .i64 x.g]))) := Lib.hid ⟨hcur', KR.out.2.setRow (fun _ => rfl) _⟩
                have hSz2 : (rowD w3 g).size = cap * 3 := hSz
                clear hcur' hSz
                go_wp2
                go_roundw
                case rel => exact ⟨a + 1, jp + 1 + 1, cur', by go_num, by go_num, by omega, by omega, by have := HA.out; omega, KR2.out.1, KR2.out.2⟩
                case measure => simp [intOf]; omega
            · have hlti : ¬ ((j : Int) < ((n - k : Nat) : Int)) := by omega
              have han : (a : Int) ≤ (n : Int) := by omega
              have hacap : (a : Int) ≤ (cap : Int) := by have := HC.out.1; omega
              have han2 : a ≤ n := by omega
              have hca : ¬ cap = a := by have := HC.out.1; have := hkn.out; omega
              have hsub : wo.ownsRow base 36 3 (.slice (some ⟨g, 0, none⟩) a cap) a (rowsOf cNam (cur.take a)) := by
                have h3 := ownsRow_shrink R.out.2 (k := a) han2
                have h4 := rowsOf_take cNam cur a
                have h5 : cNam.size = 3 := rfl
                rw [h5] at h4
                rwa [h4] at h3
              have CL := Lib.hid R.out.1
              have hc2 : a * 3 + (n - a) * 3 ≤ cap * 3 := by have := HC.out.1; omega
              go_wp2_with (refine wpList_clear_row rfl (.tmp 56) 42 rfl 36 i0 _ Tryz.underlying42 hi hz0 3 rfl (by decide) base g a cap _ hsub _ (a * 3) _ _ rfl ?c1 (Nat.le_refl _) ?c2 ?c3)
              case c3 =>
                intro w9 hown2 hk2
                have FIN : Hid (NamRow w9 base g a cap (cur.take a) ∧ Keeps (Own g) w w9) := Lib.hid ⟨⟨by rw [List.length_take, CL.out]; omega, hown2⟩, K.out.trans hk2 (fun _ _ h => h)⟩
                have HNA := Lib.hid (Nat.le_trans han2 HN.out)
                clear hown2 hk2 hsub
                go_wp2
                go_ret
                exact ⟨a, _, HNA.out, rfl, FIN.out.1, FIN.out.2⟩
      · have hlti : ¬ ((k : Int) < (n : Int)) := by omega
        go_wp2
        go_ret
        exact ⟨n, l, HN.out, rfl, H.out, (Keeps.refl w).drewN m⟩
/-- names, each once: what is left is a row of names -/
theorem compact_any (w : World) (base : Nat) (v : Value) (l : List Nam) (h : OwnOf cNam 36 w base v l) (hl : l.length ≤ 1000000) :
    Calls Tryz.prog 33 #[v] w fun e w' => ∃ (v' : Value) (l' : List Nam), e = .returned v' ∧ OwnOf cNam 36 w' base v' l' ∧ Keeps (Of v) w w' ∧ (∀ i, v'.ownBlock = some i → v.ownBlock = some i) := by
  rcases h.2 with ⟨rfl, hn⟩ | ⟨g, cap, cur, rfl, _⟩
  · have hnil : l = [] := List.eq_nil_of_length_eq_zero hn
    subst hnil
    go_enter Tryz.func33, Tryz.ntmps33
    go_wp2
    go_ret
    exact ⟨_, [], rfl, World.ownsRow_nil _ _ _ _, Keeps.refl _, fun i hi => by cases hi⟩
  · refine (compact_some w base g l.length cap l ⟨rfl, h⟩ hl).mono ?_
    rintro e w' ⟨m, l', _, rfl, h1, h2⟩
    refine ⟨_, l', rfl, ?_, h2.mono (fun i _ e => by
      have e : i = g := e
      rw [e]
      rfl), fun i hi => hi⟩
    have h3 := h1.own
    unfold OwnOf at h3 ⊢
    rw [h1.1] at h3 ⊢
    exact h3
end Go.Proofs.YtcjeocibnfoenaaGreat
