/-
  Texts in one: WaG, WaH, WaI. No conditions of their own.
-/
import Derived.Test.YtndjnkjcfdaegaaGreatDoorZh18
set_option linter.all false

/-
  wal's Append, Drop, All. No conditions of their own, but that the tables are laid.
-/
namespace Go.Proofs.YtndjnkjcfdaegaaGreatDoor
open Go.RowKit Go.Shelf Go.Sort Go.Joins

/-- strings in a row -/
abbrev RdStr (w : World) (v : Value) (l : List ByteArray) : Prop := Reads w 1 v l.length (l.map .string)
theorem RdStr.cell {w : World} {v : Value} {l : List ByteArray} (h : RdStr w v l) (hl : 0 < l.length) : ∃ b off c, v = .slice (some ⟨b, off, none⟩) l.length c ∧ l.length ≤ c ∧ c ≤ maxLen ∧ b < w.heap.size ∧ ∀ (j : Nat) (s : ByteArray), l[j]? = some s → w.cell? ⟨b, off + j, none⟩ = some (.string s) := by
  obtain ⟨b, off, c, hv, h1, h2, h3, h4⟩ := h.addr (by simpa using hl)
  exact ⟨b, off, c, hv, h1, h2, h3, fun j n hj => h4 j _ (by rw [List.getElem?_map, hj]; rfl)⟩
theorem RdStr.len {w : World} {v : Value} {l : List ByteArray} (h : RdStr w v l) : l.length ≤ maxLen := by
  rcases h.shape with ⟨_, h0⟩ | ⟨_, c', he, h1, h2, _⟩
  · simp [h0]
  · omega
/-- is a text too long? -/
def longB (s : ByteArray) : Bool := decide ((65536 : Int) < (s.size : Int))

theorem long_any (w : World) (s : ByteArray) : Calls Tryz.prog 107 #[.string s] w fun e w' => e = .returned (.bool (longB s)) ∧ w = w' := by
  go_enter Tryz.func107, Tryz.ntmps107
  go_wp2
  go_ret
  exact ⟨rfl, rfl⟩
abbrev longF : Value := .func (.func 107) #[] #[]
set_option maxRecDepth 100000 in
set_option maxHeartbeats 1000000 in
theorem indexLong_any (w : World) (v : Value) (l : List ByteArray) (hv : RdStr w v l) : Calls Tryz.prog 155 #[v, longF] w fun e w' => e = .returned (.int .i64 (firstOf longB l)) ∧ w = w' := by
  have hlen := hv.len
  unfold maxLen at hlen
  obtain ⟨va, vc, rfl⟩ := hv.slice
  have Hv := Lib.hid hv
  have hl1 : (l.length : Int) ≤ 9223372036854775807 := by omega
  clear hv hlen
  go_enter Tryz.func155, Tryz.ntmps155
  go_wp2
  go_loop [8] (fun q => ∃ k : Nat, k ≤ l.length ∧ q = .int .i64 k ∧ ∀ j, (h : j < k) → (h2 : j < l.length) → longB l[j] = false) (fun q => l.length - (intOf q).toNat)
  case atStart => exact ⟨0, Nat.zero_le _, rfl, fun j h => absurd h (Nat.not_lt_zero _)⟩
  case round =>
    obtain ⟨k, hk, rfl, hno⟩ := hrel
    by_cases hlt : k < l.length
    · obtain ⟨b, off, c, he, _, _, _, hx⟩ := RdStr.cell Hv.out (by omega)
      simp only [Value.slice.injEq, true_and] at he
      obtain ⟨rfl, rfl⟩ := he
      have hc := hx k _ (List.getElem?_eq_getElem hlt)
      have hk0 : (0 : Int) ≤ (k : Int) := by omega
      have hki : (k : Int) < (l.length : Int) := by omega
      have Hno := Lib.hid hno
      obtain ⟨s, hs⟩ : ∃ s, s = l[k] := ⟨_, rfl⟩
      rw [← hs] at hc
      have Hs := Lib.hid hs
      clear hx hno hs
      cases hb : longB s with
      | true =>
        go_wp2_with fail
        refine (long_any w s).mono ?_
        rintro e w1 ⟨rfl, rfl⟩
        go_wp2
        go_ret
        exact ⟨by rw [firstOf_at longB l k hlt Hno.out (by rw [← Hs.out]; exact hb)]; rfl, rfl⟩
      | false =>
        have Hb := Lib.hid hb
        go_wp2_with fail
        refine (long_any w s).mono ?_
        rintro e w1 ⟨rfl, rfl⟩
        go_wp2
        go_round
        case rel =>
          refine ⟨k + 1, by omega, by go_num, fun j h h2 => ?_⟩
          by_cases hj : j < k
          · exact Hno.out j hj h2
          · obtain rfl : j = k := by omega
            rw [← Hs.out]
            exact Hb.out
        case measure => simp [intOf]; omega
    · have hkk : k = l.length := by omega
      subst hkk
      have Hno := Lib.hid hno
      clear hno
      go_wp2
      go_ret
      exact ⟨by rw [firstOf_none longB l (fun j h2 => Hno.out j h2 h2)]; rfl, rfl⟩
theorem anyLong_any (w : World) (v : Value) (l : List ByteArray) (hv : RdStr w v l) : Calls Tryz.prog 106 #[v, longF] w fun e w' => e = .returned (.bool (l.any longB)) ∧ w = w' := by
  have Hv := Lib.hid hv
  have hfc : (firstOf longB l = -1 ∧ l.any longB = false) ∨ ∃ k : Nat, firstOf longB l = k ∧ l.any longB = true := by
    rcases firstOf_cases longB l with ⟨h, ha⟩ | ⟨k, h, hk, hp, _⟩
    · exact .inl ⟨h, by rw [List.any_eq_false]; intro x hx; simp [ha x hx]⟩
    · exact .inr ⟨k, h, by rw [List.any_eq_true]; exact ⟨_, List.getElem_mem hk, hp⟩⟩
  clear hv
  rcases hfc with ⟨h1, h2⟩ | ⟨k, h1, h2⟩
  · have H1 := Lib.hid h1
    have H2 := Lib.hid h2
    clear h1 h2
    go_enter Tryz.func106, Tryz.ntmps106
    go_wp2_with fail
    refine (indexLong_any w v l Hv.out).mono ?_
    rintro e w1 ⟨rfl, rfl⟩
    rw [H1.out]
    go_wp2
    go_ret
    exact ⟨by rw [H2.out]; rfl, rfl⟩
  · have H1 := Lib.hid h1
    have H2 := Lib.hid h2
    have hk0 : (0 : Int) ≤ (k : Int) := by omega
    clear h1 h2
    go_enter Tryz.func106, Tryz.ntmps106
    go_wp2_with fail
    refine (indexLong_any w v l Hv.out).mono ?_
    rintro e w1 ⟨rfl, rfl⟩
    rw [H1.out]
    go_wp2
    go_ret
    exact ⟨by rw [H2.out]; rfl, rfl⟩

def layAll : List ByteArray → Lg → Ds → Int × Lg × Ds
  | [], g, d => (0, g, d)
  | s :: r, g, d => bif (g.lay d s).1 == 0 then layAll r (g.lay d s).2.1 (g.lay d s).2.2 else g.lay d s
def Lg.append (g : Lg) (d : Ds) (l : List ByteArray) : Int × Lg × Ds := bif l.any longB then (1, g, d) else layAll l g d
theorem lay_grows (g : Lg) (d : Ds) (s : ByteArray) : (g.lay d s).2.1.firsts.length ≤ g.firsts.length + 1 ∧ (g.lay d s).2.1.next ≤ g.next + 1 := by
  unfold Lg.lay
  cases decide ((d.look g.last).s.size < 4096)
  · rw [cond_false]
    cases decide (99999999 < g.next)
    · rw [cond_false]
      generalize ((d.sync g.last).2.append (g.file g.next) (frameB s)) = x
      cases x.1 == 0
      · exact ⟨Nat.le_succ _, Nat.le_succ _⟩
      · exact ⟨by simp, Nat.le_refl _⟩
    · exact ⟨Nat.le_succ _, Nat.le_succ _⟩
  · rw [cond_true]
    generalize d.append g.last (frameB s) = x
    cases x.1 == 0
    · exact ⟨Nat.le_succ _, Nat.le_succ _⟩
    · exact ⟨Nat.le_succ _, Nat.le_refl _⟩
theorem layAll_snoc (s : ByteArray) : ∀ (l : List ByteArray) (g : Lg) (d : Ds) (g' : Lg) (d' : Ds), layAll l g d = (0, g', d') → layAll (l ++ [s]) g d = g'.lay d' s
  | [], g, d, g', d', h => by
    obtain ⟨_, h2⟩ := Prod.mk.inj h
    obtain ⟨rfl, rfl⟩ := Prod.mk.inj h2
    rw [List.nil_append, layAll]
    cases hb : (g.lay d s).1 == 0
    · rfl
    · rw [cond_true, layAll]
      have := eq_of_beq hb
      exact (Prod.ext this.symm rfl)
  | x :: l, g, d, g', d', h => by
    rw [layAll] at h
    rw [List.cons_append, layAll]
    cases hb : (g.lay d x).1 == 0
    · rw [hb, cond_false] at h
      rw [h] at hb
      cases hb
    · rw [hb, cond_true] at h
      rw [cond_true]
      exact layAll_snoc s l _ _ g' d' h
/-- where one record is refused, so are all behind it -/
theorem layAll_stop (r : List ByteArray) : ∀ (l : List ByteArray) (g : Lg) (d : Ds) (e : Int) (x : Lg × Ds), layAll l g d = (e, x) → (e == 0) = false → layAll (l ++ r) g d = (e, x)
  | [], g, d, e, x, h, he => by
    obtain ⟨rfl, _⟩ := Prod.mk.inj h
    cases he
  | y :: l, g, d, e, x, h, he => by
    rw [layAll] at h
    rw [List.cons_append, layAll]
    cases hb : (g.lay d y).1 == 0
    · rw [hb, cond_false] at h
      rw [cond_false]
      exact h
    · rw [hb, cond_true] at h
      rw [cond_true]
      exact layAll_stop r l _ _ e x h he
theorem layAll_grows : ∀ (l : List ByteArray) (g : Lg) (d : Ds), (layAll l g d).2.1.firsts.length ≤ g.firsts.length + l.length ∧ (layAll l g d).2.1.next ≤ g.next + l.length
  | [], g, d => ⟨Nat.le_refl _, Nat.le_refl _⟩
  | s :: l, g, d => by
    rw [layAll]
    have h := lay_grows g d s
    cases (g.lay d s).1 == 0
    · rw [cond_false, List.length_cons]
      omega
    · rw [cond_true, List.length_cons]
      have := layAll_grows l (g.lay d s).2.1 (g.lay d s).2.2
      omega

section
variable {w : World} {base l p b : Nat} {v : Value} {g : Lg} {d : Ds}
set_option maxRecDepth 100000 in
set_option maxHeartbeats 4000000 in
theorem appendLog_any (hL : Laid w base) (hb : base ≤ w.heap.size) (h : WLog w base l p b v g d) (ho : OwnInts w base v g.firsts) (av : Value) (xs : List ByteArray) (hav : RdStr w av xs) (hap : ∀ i, av.ownBlock = some i → ¬ LogS l p b v i)
    (hnx : g.next + xs.length ≤ 1000000000000) (hfl : g.firsts.length + xs.length ≤ 1000000)
    (ec : Int) (g' : Lg) (d' : Ds) (hE : g.append d xs = (ec, g', d')) : Calls Tryz.prog 59 #[dP l, av] w (LayPost w base l p b v ec g' d') := by
  obtain ⟨va, vc, rfl⟩ := hav.slice
  unfold Lg.append at hE
  have hlen : Hid ((xs.length : Int) ≤ 1000000) := Lib.hid (by omega)
  have Hb := Lib.hid hb
  have H := Lib.hid h
  have HL := Lib.hid hL
  have Ho := Lib.hid ho
  have Hnx := Lib.hid hnx
  have Hfl := Lib.hid hfl
  have Hav := Lib.hid hav
  have Hap := Lib.hid hap
  cases hany : xs.any longB with
  | true =>
    rw [hany, cond_true] at hE
    have HE := Lib.hid hE
    have Hany := Lib.hid hany
    clear hb hE h hL ho hnx hfl hav hap hany
    go_enter Tryz.func59, Tryz.ntmps59
    go_wp2_with fail
    refine (anyLong_any w _ xs Hav.out).mono ?_
    rintro e w1 ⟨rfl, rfl⟩
    rw [Hany.out]
    go_wp2
    go_ret
    have hE := HE.out
    simp only [Prod.mk.injEq] at hE
    obtain ⟨rfl, rfl, rfl⟩ := hE
    exact ⟨rfl, _, H.out, Ho.out, fun k hk => .inl hk, Keeps.refl _⟩
  | false =>
    rw [hany, cond_false] at hE
    have HE := Lib.hid hE
    have Hany := Lib.hid hany
    clear hb hE h hL ho hnx hfl hav hap hany
    go_enter Tryz.func59, Tryz.ntmps59
    go_wp2_with fail
    refine (anyLong_any w _ xs Hav.out).mono ?_
    rintro e w1 ⟨rfl, rfl⟩
    rw [Hany.out]
    go_wp2
    go_loopw [16] (fun q wr => ∃ (k : Nat) (gk : Lg) (dk : Ds) (vk : Value), k ≤ xs.length ∧ q = .int .i64 k ∧ layAll (xs.take k) g d = (0, gk, dk) ∧ WLog wr base l p b vk gk dk ∧ OwnInts wr base vk gk.firsts ∧ Newer w v vk ∧ Keeps (LogS l p b v) w wr) (fun q _ => xs.length - (intOf q).toNat)
    case atStart => exact ⟨0, g, d, v, Nat.zero_le _, rfl, rfl, H.out, Ho.out, fun k hk => .inl hk, Keeps.refl _⟩
    case round =>
      obtain ⟨k, gk, dk, vk, hk, rfl, hlay, hW, hO, hN, hK⟩ := hrel
      by_cases hlt : k < xs.length
      · have hRd := Hav.out.kept hK (fun i hi hs => Hap.out i hi hs)
        obtain ⟨q, off, c, he, _, _, _, hx⟩ := RdStr.cell hRd (by omega)
        simp only [Value.slice.injEq, true_and] at he
        obtain ⟨rfl, rfl⟩ := he
        have hc := hx k _ (List.getElem?_eq_getElem hlt)
        have hk0 : (0 : Int) ≤ (k : Int) := by omega
        have hki : (k : Int) < (xs.length : Int) := by omega
        have hk9 : (k : Int) + 1 ≤ 1000001 := by have := hlen.out; omega
        have hsz : ¬ longB xs[k] = true := by
          have := Hany.out
          rw [List.any_eq_false] at this
          exact this _ (List.getElem_mem hlt)
        have htk : xs.take (k + 1) = xs.take k ++ [xs[k]] := List.take_succ_eq_append_getElem hlt
        have hdr : xs = xs.take (k + 1) ++ xs.drop (k + 1) := (List.take_append_drop _ _).symm
        have hgr := layAll_grows (xs.take k) g d
        rw [hlay, List.length_take] at hgr
        dsimp only at hgr
        obtain ⟨s, hs⟩ : ∃ s, s = xs[k] := ⟨_, rfl⟩
        rw [← hs] at hc hsz htk
        have hs6 : (s.size : Int) ≤ 65536 := by unfold longB at hsz; simp at hsz; omega
        have hstep := layAll_snoc s (xs.take k) g d gk dk hlay
        rw [← htk] at hstep
        obtain ⟨⟨e1, g1, d1⟩, hl1⟩ : ∃ x, gk.lay dk s = x := ⟨_, rfl⟩
        rw [hl1] at hstep
        have Hl1 := Lib.hid hl1
        have Hstep := Lib.hid hstep
        have Hgr := Lib.hid hgr
        have HW := Lib.hid hW
        have HO := Lib.hid hO
        have HN := Lib.hid hN
        have HK := Lib.hid hK
        have Lr := Lib.hid (H.out.laid HL.out hK)
        have Hdr := Lib.hid hdr
        clear hx hRd hs htk hdr hgr hlay hl1 hstep hW hO hN hK hsz
        go_wp2_with fail
        refine (lay_any Lr.out (by have := Hb.out; have := HK.out.size; omega) HW.out HO.out s hs6 (by have := Hgr.out; have := Hnx.out; omega) (by have := Hgr.out; have := Hfl.out; omega) e1 g1 d1 Hl1.out).mono ?_
        rintro e w2 ⟨rfl, v2, hW2, hO2, hN2, hK2⟩
        have HW2 := Lib.hid hW2
        have HO2 := Lib.hid hO2
        have HN2 : Hid (Newer w v v2) := Lib.hid (fun i hi => by
          rcases hN2 i hi with e | e
          · exact HN.out i e
          · exact .inr (Nat.le_trans HK.out.size e))
        have HK2 : Hid (Keeps (LogS l p b v) w w2) := Lib.hid (HK.out.trans hK2 (fun i hi hs => by
          rcases hs with e | e | e | e
          · exact .inl e
          · exact .inr (.inl e)
          · exact .inr (.inr (.inl e))
          · rcases HN.out i e with e | e
            · exact .inr (.inr (.inr e))
            · omega))
        clear hW2 hO2 hN2 hK2
        by_cases he : e1 = 0
        · subst he
          have h0 : ((0 : Int) != 0) = false := rfl
          go_wp2
          go_roundw
          case rel => exact ⟨k + 1, g1, d1, v2, by omega, by go_num, Hstep.out, HW2.out, HO2.out, HN2.out, HK2.out⟩
          case measure => simp [intOf]; omega
        · have h0 : (e1 != 0) = true := by simpa using he
          have h1 : (e1 == 0) = false := by simpa using he
          go_wp2
          go_ret
          have hE := HE.out
          rw [Hdr.out, layAll_stop _ _ g d e1 _ Hstep.out h1] at hE
          simp only [Prod.mk.injEq] at hE
          obtain ⟨rfl, rfl, rfl⟩ := hE
          exact ⟨rfl, v2, HW2.out, HO2.out, HN2.out, HK2.out⟩
      · have hkk : k = xs.length := by omega
        subst hkk
        rw [List.take_length] at hlay
        have Hlay := Lib.hid hlay
        have HW := Lib.hid hW
        have HO := Lib.hid hO
        have HN := Lib.hid hN
        have HK := Lib.hid hK
        clear hlay hW hO hN hK
        go_wp2
        go_ret
        have hE := HE.out
        rw [Hlay.out] at hE
        simp only [Prod.mk.injEq] at hE
        obtain ⟨rfl, rfl, rfl⟩ := hE
        exact ⟨rfl, vk, HW.out, HO.out, HN.out, HK.out⟩
end
end Go.Proofs.YtndjnkjcfdaegaaGreatDoor

/-
  wal's All, Drop. No conditions of their own, but that the tables are laid.
-/
namespace Go.Proofs.YtndjnkjcfdaegaaGreatDoor
open Go.RowKit Go.Shelf Go.Sort Go.Joins

/-- the records of a log's segment -/
def Lg.recs (g : Lg) (d : Ds) (n : Nat) : List Nm := parse (d.look (g.file n)).s.data.toList
/-- all records of a log -/
def Lg.all (g : Lg) (d : Ds) : List Nm := g.firsts.flatMap (g.recs d)
theorem look_ok {w : World} {p b : Nat} {d : Ds} (h : DAt w p b d) (n : ByteArray) : FileOk (d.look n) := by
  unfold Ds.look
  rcases findE_cases d.fs n with hc | ⟨hc, _⟩ | ⟨f, hc, hg, _⟩
  · rw [hc]; exact ⟨by decide, by decide⟩
  · rw [hc]; exact ⟨by decide, by decide⟩
  · rw [hc]; exact h.get_ok hg
theorem parse_length (s : Nm) : (parse s).length * 7 ≤ s.length := Nat.le_trans (flen_len _) (parse_flen s)

section
variable {w : World} {base l p b : Nat} {v : Value} {g : Lg} {d : Ds}
end
end Go.Proofs.YtndjnkjcfdaegaaGreatDoor

/-
  wal's Drop. No conditions of its own, but that the tables are laid.
-/
namespace Go.Proofs.YtndjnkjcfdaegaaGreatDoor
open Go.RowKit Go.Shelf Go.Sort Go.Joins

/-- files are taken away, one after the other -/
def rmAll (name : ByteArray) (L : List Nat) (d : Ds) : Ds := L.foldl (fun d n => (d.remove (fileNm name n)).2) d
theorem rmAll_snoc (name : ByteArray) (L : List Nat) (n : Nat) (d : Ds) : rmAll name (L ++ [n]) d = ((rmAll name L d).remove (fileNm name n)).2 := by simp [rmAll]
/-- the log's block, and its disk's -/
def Core (l p b : Nat) : Nat → Prop := fun i => i = l ∨ i = p ∨ i = b
theorem two_core {w w' : World} {l p b : Nat} (k : Keeps (Two p b) w w') : Keeps (Core l p b) w w' := k.mono (fun _ _ h => by rcases h with h | h; exact .inr (.inl h); exact .inr (.inr h))
section
variable {w : World} {base l p b : Nat} {v : Value} {g : Lg} {d : Ds}
end
end Go.Proofs.YtndjnkjcfdaegaaGreatDoor

