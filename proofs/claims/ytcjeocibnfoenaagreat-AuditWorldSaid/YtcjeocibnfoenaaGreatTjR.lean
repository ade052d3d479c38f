/-
  The document's tick: command. No conditions of its own.
-/
import Derived.Test.YtcjeocibnfoenaaGreatTjQ
namespace Go.Proofs.YtcjeocibnfoenaaGreat
open Go.RowKit Go.Joins Go.Deep Go.Sort

/-- a row of names that nobody appends to: an old one, or one of the call's own -/
structure DeadRow (w : World) (B : Nat) (v : Value) (l : List Nam) : Prop where
  r : RdOf cNam w v l
  p : (∀ i, v.ownBlock = some i → i < B) ∨ ∃ base, OwnOf cNam 36 w base v l
theorem DeadRow.no {w w' : World} {B : Nat} {v : Value} {l : List Nam} (h : DeadRow w B v l) (k : Keeps No w w') : DeadRow w' B v l :=
  ⟨h.r.kept k (fun _ _ h => h), h.p.imp id (fun ⟨b, h⟩ => ⟨b, k.owns h (fun _ _ h => h)⟩)⟩
/-- beside a row of entities that has been appended to -/
theorem DeadRow.beside {w w' : World} {B b : Nat} {v o : Value} {l : List Nam} {L : List Bd} (h : DeadRow w B v l) (ho : OwnOf cBd 38 w b o L) (hb : B ≤ b) (k : Keeps (Of o) w w') : DeadRow w' B v l := by
  rcases h.p with h1 | ⟨b2, h2⟩
  · have hn : ∀ i, v.ownBlock = some i → ¬ Of o i := fun i hi e => by have := h1 i hi; have := (ho.lt i e).1; omega
    exact ⟨h.r.kept k hn, .inl h1⟩
  · have hn := rows_apart h2 ho (by decide)
    exact ⟨h.r.kept k hn, .inr ⟨b2, k.owns h2 hn⟩⟩
theorem DeadRow.next {w w' : World} {B : Nat} {v v' : Value} {l l' : List Nam} (h : DeadRow w B v l) (k : Keeps No w w') (hr : RdOf cNam w' v' l') (hp : (v' = v ∧ l' = l) ∨ OwnOf cNam 36 w' w.heap.size v' l') : DeadRow w' B v' l' := by
  rcases hp with ⟨rfl, rfl⟩ | hp
  · exact h.no k
  · exact ⟨hr, .inr ⟨_, hp⟩⟩
theorem DeadRow.mono {w : World} {B B' : Nat} {v : Value} {l : List Nam} (h : DeadRow w B v l) (hB : B ≤ B') : DeadRow w B' v l := ⟨h.r, h.p.imp (fun h i hi => Nat.lt_of_lt_of_le (h i hi) hB) id⟩
/-- a block of a type, none of its cells frozen -/
def OpenT (w : World) (b : Nat) (t : TypeId) : Prop := ∃ C : Array Value, w.heap[b]? = some (.cells C t (0, 0))
theorem OpenT.open {w : World} {b : Nat} {t : TypeId} (h : OpenT w b t) : Open w b := let ⟨C, hc⟩ := h; ⟨C, t, hc⟩
theorem OpenT.no {w w' : World} {b : Nat} {t : TypeId} (h : OpenT w b t) (k : Keeps No w w') : OpenT w' b t := let ⟨C, hc⟩ := h; ⟨C, k.heap hc (fun h => h)⟩
theorem OpenT.set {w : World} {b : Nat} {t : TypeId} (h : OpenT w b t) (g i : Nat) (v : Value) : OpenT (w.setCell ⟨g, i, none⟩ v) b t := by
  obtain ⟨C, hc⟩ := h
  unfold OpenT World.setCell
  simp only [Array.getElem?_modify]
  by_cases hb : g = b
  · subst hb
    rw [if_pos rfl, hc]
    exact ⟨_, rfl⟩
  · rw [if_neg hb, hc]
    exact ⟨_, rfl⟩
theorem DeadRow.ne {w : World} {B b : Nat} {v : Value} {l : List Nam} {t : TypeId} (h : DeadRow w B v l) (ho : OpenT w b t) (hB : B ≤ b) (ht : 36 ≠ t) : v.ownBlock ≠ some b := fun e => by
  rcases h.p with h1 | ⟨b2, h2⟩
  · have := h1 b e; omega
  · obtain ⟨C, hc⟩ := ho
    rcases h2.2 with ⟨rfl, _⟩ | ⟨g, cap, cur, rfl, _, hh, _⟩
    · cases e
    · cases e
      rw [hc] at hh
      injection hh with hh
      injection hh with _ e2
      exact ht e2.symm
theorem DeadRow.keep {w w' : World} {S : Nat → Prop} {B : Nat} {v : Value} {l : List Nam} (h : DeadRow w B v l) (k : Keeps S w w') (hn : ∀ i, v.ownBlock = some i → ¬ S i) : DeadRow w' B v l :=
  ⟨h.r.kept k hn, h.p.imp id (fun ⟨b, h⟩ => ⟨b, k.owns h hn⟩)⟩
/-- what a command leaves -/
def CmdPost (w : World) (B : Nat) (l : List Bd) (n : Nat) (e : Ending) (w' : World) : Prop := ∃ (lv dv : Value) (dead : List Nam), e = .returned (.tuple #[lv, dv]) ∧ RdOf cBd w' lv l ∧ DeadRow w' B dv dead ∧ dead.length ≤ n ∧ Keeps No w w'
/-- an entity's box, and whether it is still there -/
def GotAt (w : World) (x : Bd) (ok : Bool) (s17 s18 : Value) (wx : World) : Prop := ∃ gx, s17 = .pointer (some ⟨gx, 0, none⟩) ∧ s18 = .bool ok ∧ cellsAt wx gx 0 11 = some (bdC x) ∧ Keeps No w wx
set_option maxRecDepth 100000 in
set_option maxHeartbeats 16000000 in
theorem rcommand_any (w : World) (z : Zf) (hz : z.ok) (lv dv : Value) (l : List Bd) (dead : List Nam) (hlv : RdOf cBd w lv l) (B : Nat) (hB : B ≤ w.heap.size) (hdv : DeadRow w B dv dead) (hl : l.length ≤ 1000) (hd : dead.length ≤ 50000) (c : Cm) (hc : c.ok) :
    Calls Tryz.prog 39 #[zfV z, .int .i64 (-1), lv, dv, cmV c] w (CmdPost w B (cmdL z l c) (dead.length + (cmdD l c).length)) := by
  obtain ⟨i0, hi, hz0, hz1, hz2⟩ := info_parts Tryz.infoBd
  obtain ⟨la, lc, rfl⟩ := hlv.slice
  obtain ⟨da, dc, rfl⟩ := hdv.r.slice
  have HLV := Lib.hid hlv
  have HDV := Lib.hid hdv
  have HL := Lib.hid hl
  have HD := Lib.hid hd
  have HC := Lib.hid hc
  have HOF := Lib.hid (fun W x y => rof_any W z hz x y)
  have HOB := Lib.hid (fun W b => robey_any W b c hc.b.m hc.m)
  have hni : (l.length : Int) ≤ 1000 := by omega
  have mx := mixed
  clear hlv hdv hl hd hc hz
  go_enter Tryz.func39, Tryz.ntmps39
  go_upto_region 2 with fail
  refine wp_world ?_
  intro W hW
  have KW : Hid (Keeps No w W) := Lib.hid (by rw [hW]; exact ((Keeps.refl w).alloc _).alloc _)
  have CZ : Hid (cellsAt W w.heap.size 0 7 = some (zfC z)) := Lib.hid (by rw [hW]; simp [go_sem])
  have CC : Hid (cellsAt W (w.heap.size + 1) 0 16 = some (cmC c)) := Lib.hid (by rw [hW]; simp [go_sem])
  obtain ⟨gz, hgz⟩ : ∃ g, g = w.heap.size := ⟨_, rfl⟩
  obtain ⟨gc, hgc⟩ : ∃ g, g = w.heap.size + 1 := ⟨_, rfl⟩
  rw [← hgc] at CC ⊢
  rw [← hgz] at CZ ⊢
  clear hW hgz hgc
  have k0 := cellsAt_cell CC.out 0 _ rfl
  simp only [Nat.zero_add] at k0
  by_cases hk : c.k = 1
  · have eL : Hid (cmdL z l c = bif !findIs c.b.s c.b.i c.b.g l && decide (0 ≤ zoneI z c.b.x c.b.y) then l.take (findAt c.b.s c.b.i c.b.g l) ++ c.b :: l.drop (findAt c.b.s c.b.i c.b.g l) else l) := Lib.hid (by unfold cmdL; rw [hk]; rfl)
    rw [hk] at k0
    have cz := CZ.out
    have cx := cellsAt_cell CC.out 8 _ rfl
    have cy := cellsAt_cell CC.out 9 _ rfl
    simp only [Nat.zero_add] at cx cy
    go_wp2_with fail
    refine (HOF.out _ _ _).mono ?_
    rintro e w1 ⟨rfl, hk1⟩
    have K1 := Lib.hid hk1
    have ci : cellsAt w1 gc 4 3 = some [.int .i64 c.b.s, .int .i64 c.b.i, .int .i64 c.b.g] := by
      have h := cellsAt_part (hk1.cellsAt CC.out) 4 [.int .i64 c.b.s, .int .i64 c.b.i, .int .i64 c.b.g] rfl (by simp)
      rwa [Nat.zero_add] at h
    clear hk1 cz cx cy k0
    go_wp2_with fail
    refine (rfind_any w1 _ l (HLV.out.kept (KW.out.trans K1.out (fun _ _ h => h)) (fun _ _ h => h)) HL.out c.b.s c.b.i c.b.g).mono ?_
    rintro e w2 ⟨rfl, hk2⟩
    have K2 := Lib.hid (K1.out.trans hk2 (fun _ _ h => h))
    have KF := Lib.hid (KW.out.trans K2.out (fun _ _ h => h))
    clear hk2 ci
    have FN : Hid (cmdL z l c = l → CmdPost w B (cmdL z l c) (dead.length + (cmdD l c).length) (.returned (.tuple #[.slice la l.length lc, .slice da dead.length dc])) w2) := Lib.hid (fun h => by
      rw [h]
      exact ⟨_, _, dead, rfl, HLV.out.kept KF.out (fun _ _ h => h), HDV.out.no KF.out, by omega, KF.out⟩)
    obtain ⟨T, hT⟩ : ∃ T, T = findIs c.b.s c.b.i c.b.g l := ⟨_, rfl⟩
    obtain ⟨Z, hZ⟩ : ∃ Z, Z = zoneI z c.b.x c.b.y := ⟨_, rfl⟩
    have HP := Lib.hid (findAt_le c.b.s c.b.i c.b.g l)
    obtain ⟨P, hP⟩ : ∃ P, P = findAt c.b.s c.b.i c.b.g l := ⟨_, rfl⟩
    rw [← hT, ← hZ, ← hP] at eL
    rw [← hP] at HP
    rw [← hT, ← hZ, ← hP]
    clear hT hZ hP
    cases T with
    | true =>
      have FN := Lib.hid (FN.out (by rw [eL.out]; rfl))
      go_wp2
      exact bodyPost_ret (v := .tuple #[.slice la l.length lc, .slice da dead.length dc]) (by simp [results, Tryz.results39, go_sem]) rfl FN.out
    | false =>
      by_cases hzz : Z < 0
      · have FN := Lib.hid (FN.out (by rw [eL.out, decide_eq_false (by omega)]; rfl))
        go_wp2
        exact bodyPost_ret (v := .tuple #[.slice la l.length lc, .slice da dead.length dc]) (by simp [results, Tryz.results39, go_sem]) rfl FN.out
      · rw [decide_eq_true (show (0 : Int) ≤ Z by omega)] at eL
        have hp1 : (P : Int) ≤ (l.length : Int) := by have := HP.out; omega
        have hp0 : (0 : Int) ≤ (P : Int) := by omega
        have hp2 : P ≤ l.length := HP.out
        have hlc : Hid (l.length ≤ lc) := Lib.hid (by
          rcases HLV.out.shape with ⟨h1, h2⟩ | ⟨_, c', h1, h2, _⟩
          · simp only [Value.slice.injEq] at h1
            omega
          · simp only [Value.slice.injEq] at h1
            omega)
        have hp3 : (P : Int) ≤ (lc : Int) := by have := hlc.out; omega
        have hp4 : (l.length : Int) ≤ (lc : Int) := by have := hlc.out; omega
        have cb : Hid (cellsAt w2 gc 4 11 = some (bdC c.b)) := Lib.hid (by
          have h := cellsAt_part (K2.out.cellsAt CC.out) 4 (bdC c.b) rfl (by simp)
          rwa [Nat.zero_add] at h)
        have RL : Hid (RdOf cBd w2 (.slice la l.length lc) l) := Lib.hid (HLV.out.kept KF.out (fun _ _ h => h))
        have R1 : Hid (Reads w2 11 (.slice la P lc) P (rowsOf cBd (l.take P))) := Lib.hid (by
          have h := RL.out.take (m := P) hp2
          rwa [rowsOf_take] at h)
        have hnil : w2.ownsRow w.heap.size 38 11 (.slice none 0 0) 0 [] := World.ownsRow_nil _ _ _ _
        have R1o := R1.out
        have HBK := Lib.hid (And.intro HL.out HP.out)
        go_wp2_with (at_builtin; refine wpList_append_reads rfl (.tmp 54) (.tmp 57) 27 rfl w.heap.size 38 i0 _ 11 88 Tryz.underlying27 hi hz0 hz1 hz2 rfl (by decide) _ 0 _ rfl hnil _ P (rowsOf cBd (l.take P)) rfl R1o ?d1 ?d2 ?d3 ?d4)
        case d1 => have := HBK.out; unfold maxLen; omega
        case d2 => have := HBK.out; omega
        case d3 => exact KF.out.size
        case d4 =>
          intro v3 w3 hown3 hk3 hf3 _
          have K3 : Hid (Keeps No w2 w3) := Lib.hid (hk3.mono (fun i _ e => by cases e))
          have O3 := Lib.hid hown3
          obtain ⟨a3, c3, rfl⟩ := ownsRow_slice hown3
          have cb3 := K3.out.cellsAt cb.out
          have hO4 : (w3.alloc (.cells (bdC c.b).toArray 38)).ownsRow w.heap.size 38 11 (.slice a3 P c3) P (rowsOf cBd (l.take P)) := O3.out.alloc _
          have hlit : Reads (w3.alloc (.cells (bdC c.b).toArray 38)) 11 (.slice (some ⟨w3.heap.size, 0, none⟩) 1 1) 1 (bdC c.b) := Reads.ofOwn (World.ownsRow_lit (base := 0) w3 (bdC c.b).toArray 1 (Nat.zero_le _) (by unfold maxLen; omega) rfl) (cBd.one c.b)
          clear hown3 hk3 hf3 R1o hnil
          go_wp2_with (at_builtin; refine wpList_append_reads rfl (.tmp 59) (.tmp 62) 27 rfl w.heap.size 38 i0 _ 11 88 Tryz.underlying27 hi hz0 hz1 hz2 rfl (by decide) _ P _ rfl hO4 _ 1 (bdC c.b) rfl hlit ?f1 ?f2 ?f3 ?f4)
          case f1 => have := HBK.out; unfold maxLen; omega
          case f2 => have := HBK.out; omega
          case f3 => have := KF.out.size; have := K3.out.size; simp; omega
          case f4 =>
            intro v4 w4 hown4 hk4 hf4 _
            have K4 : Hid (Keeps No w w4) := Lib.hid (((KF.out.trans K3.out (fun _ _ h => h)).alloc _).trans hk4 (fun j hj hof => by
              have := (hO4.lt j hof).1
              omega))
            have O4 : Hid (w4.ownsRow w.heap.size 38 11 v4 (P + 1) (rowsOf cBd (l.take P ++ [c.b]))) := Lib.hid (by
              rw [rowsOf_append, rowsOf_one]
              exact hown4)
            obtain ⟨a4, c4, rfl⟩ := ownsRow_slice hown4
            obtain ⟨ao, hao⟩ : ∃ ao : Option Addr, (if lc = P then la else la.map (·.add (P * 11))) = ao := ⟨_, rfl⟩
            have R4 : Reads w4 11 (.slice ao (l.length - P) (lc - P)) (l.length - P) (rowsOf cBd (l.drop P)) := by
              have hr4 : RdOf cBd w4 (.slice la l.length lc) l := HLV.out.kept K4.out (fun _ _ h => h)
              have h := Reads.dropAny hr4 (m := P) hp2 ao (by rw [← hao]; rfl)
              rwa [rowsOf_drop] at h
            have DD := Lib.hid (HDV.out.no K4.out)
            clear hown4 hk4 hf4 hlit hO4 cb3
            go_wp2_with (at_builtin; refine wpList_append_reads rfl (.tmp 64) (.tmp 67) 27 rfl w.heap.size 38 i0 _ 11 88 Tryz.underlying27 hi hz0 hz1 hz2 rfl (by decide) _ (P + 1) _ rfl O4.out _ (l.length - P) (rowsOf cBd (l.drop P)) rfl R4 ?g1 ?g2 ?g3 ?g4)
            case g1 => have := HBK.out; unfold maxLen; omega
            case g2 => have := HBK.out; omega
            case g3 => exact K4.out.size
            case g4 =>
              intro v5 w5 hown5 hk5 hf5 _
              have K5 : Hid (Keeps No w w5) := Lib.hid (K4.out.trans hk5 (fun j hj hof => by
                have := (O4.out.lt j hof).1
                omega))
              obtain ⟨l2, hl2⟩ : ∃ x, x = l.take P ++ c.b :: l.drop P := ⟨_, rfl⟩
              have eL2 : Hid (cmdL z l c = l2) := Lib.hid (by rw [eL.out, hl2]; rfl)
              have hlen : P + 1 + (l.length - P) = l2.length := by
                rw [hl2, List.length_append, List.length_cons, List.length_take, List.length_drop]
                omega
              have hrows : rowsOf cBd (l.take P ++ [c.b]) ++ rowsOf cBd (l.drop P) = rowsOf cBd l2 := by
                rw [← rowsOf_append, hl2, List.append_assoc]
                rfl
              rw [hlen, hrows] at hown5
              have O5 : Hid (OwnOf cBd 38 w5 w.heap.size v5 l2) := Lib.hid hown5
              obtain ⟨a5, c5, rfl⟩ := ownsRow_slice hown5
              have D5 : Hid (DeadRow w5 B (.slice da dead.length dc) dead) := Lib.hid (by
                have ho : OwnOf cBd 38 w4 w.heap.size (.slice a4 (P + 1) c4) (l.take P ++ [c.b]) := by
                  have e : (l.take P ++ [c.b]).length = P + 1 := by
                    rw [List.length_append, List.length_take, List.length_cons, List.length_nil]
                    omega
                  unfold OwnOf
                  rw [e]
                  exact O4.out
                exact DD.out.beside ho hB hk5)
              have FN5 : Hid (CmdPost w B (cmdL z l c) (dead.length + (cmdD l c).length) (.returned (.tuple #[.slice a5 l2.length c5, .slice da dead.length dc])) w5) := Lib.hid (by
                rw [eL2.out]
                exact ⟨_, _, dead, rfl, OwnOf.reads O5.out, D5.out, by omega, K5.out⟩)
              clear hown5 hk5 hf5 hl2 hlen hrows hao R4
              go_wp2
              exact bodyPost_ret (v := .tuple #[.slice a5 l2.length c5, .slice da dead.length dc]) (by simp [results, Tryz.results39, go_sem]) rfl FN5.out
  · have hkb : (c.k == 1) = false := by rw [beq_eq_false_iff_ne]; exact hk
    have eL : Hid (cmdL z l c = leftOf (fun b => obeyB b c) l) := Lib.hid (by unfold cmdL; rw [hkb]; rfl)
    have eD : Hid (cmdD l c = goneOf (fun b => obeyB b c) l) := Lib.hid (by unfold cmdD; rw [hkb]; rfl)
    go_wp2_with fail
    go_loopw [3, 12, 16] (fun d o q wr => ∃ (k : Nat) (dd : List Nam), k ≤ l.length ∧ q = .int .i64 k ∧ OwnOf cBd 38 wr W.heap.size o (leftOf (fun b => obeyB b c) (l.take k)) ∧ DeadRow wr B d dd ∧ dd.length ≤ dead.length + (goneOf (fun b => obeyB b c) (l.take k)).length ∧ Keeps No W wr) (fun _ _ q _ => l.length - (intOf q).toNat)
    case atStart => exact ⟨0, dead, Nat.zero_le _, rfl, World.ownsRow_nil _ _ _ _, HDV.out.no KW.out, Nat.le_refl _, Keeps.refl _⟩
    case round =>
      obtain ⟨k, dd, hkl, rfl, hO, hD, hN, hK⟩ := hrel
      obtain ⟨wo, hwo⟩ : ∃ x : World, x = wr := ⟨_, rfl⟩
      subst hwo
      have K := Lib.hid hK
      have O := Lib.hid hO
      have D := Lib.hid hD
      have N := Lib.hid hN
      have hk0' : (0 : Int) ≤ (k : Int) := by omega
      obtain ⟨oa, oc, rfl⟩ := ownsRow_slice hO
      obtain ⟨ea, ec, rfl⟩ := hD.r.slice
      clear hO hD hN
      by_cases hlt : k < l.length
      · have hlti : (k : Int) < (l.length : Int) := by omega
        have hrr : RdOf cBd wo (.slice la l.length lc) l := HLV.out.kept (KW.out.trans hK (fun _ _ h => h)) (fun _ _ h => h)
        obtain ⟨gl, off, rfl, _, _, _⟩ := RdOf.addr cBd hrr (by omega)
        have c11 := RdOf.at cBd hrr k hlt
        obtain ⟨b, hb⟩ : ∃ b, b = l[k] := ⟨_, rfl⟩
        have HS1 := Lib.hid (leftOf_succ (fun b => obeyB b c) l k hlt)
        have HS2 := Lib.hid (goneOf_succ (fun b => obeyB b c) l k hlt)
        rw [← hb] at HS1 HS2
        have c12 : cellsAt wo gl (off + k * 11) 11 = some (bdC b) := by rw [hb]; exact c11
        have cc := hK.cellsAt CC.out
        have C12 := Lib.hid c12
        have LC1 : ∀ w', Keeps No wo w' → cellsAt w' gl (off + k * 11) 11 = some (bdC b) := fun w' h => h.cellsAt c12
        have LC2 : ∀ w', Keeps No wo w' → cellsAt w' gc 0 16 = some (cmC c) := fun w' h => h.cellsAt cc
        obtain ⟨x, hx⟩ : ∃ x, x = (obeyB b c).1 := ⟨_, rfl⟩
        obtain ⟨ok, hok⟩ : ∃ x, x = (obeyB b c).2 := ⟨_, rfl⟩
        have HOBb := Lib.hid (fun W => HOB.out W b)
        rw [← hx, ← hok] at HOBb
        rw [← hx, ← hok] at HS1
        rw [← hok] at HS2
        clear c11 hb hrr hK c12 cc hx hok
        have LB : Hid (∀ z : Array Value, z.size = 11 → Open (wo.alloc (.cells z 38)) wo.heap.size ∧ (rowD (wo.alloc (.cells z 38)) wo.heap.size).size = 11) := Lib.hid (fun z hz => ⟨by simp [go_sem], by simp [go_sem, hz]⟩)
        go_upto_region 13 with fail
        go_cut [17, 18] (GotAt wo x ok)
        case first =>
          go_region_held3 (fun w' => Keeps No wo w')
            (first | assumption | exact (Keeps.refl wo).drew | exact ((Keeps.refl wo).alloc _).drew | exact ((Keeps.refl wo).drew).alloc _ | (refine Keeps.alloc ?_ _; assumption) | (refine Keeps.row ?_ (Nat.le_refl _) _; assumption))
            (first
              | (go_at_call 66
                 refine (HOBb.out _).mono ?_
                 rintro e w1 ⟨rfl, hk1⟩
                 have K1 : Hid (Keeps No wo w1) := Lib.hid (by first | exact ((Keeps.refl wo).drew).trans hk1 (fun _ _ h => h) | exact (((Keeps.refl wo).alloc _).drew).trans hk1 (fun _ _ h => h))
                 have hS1 := K1.out
                 try (have lb1 : wo.heap.size < w1.heap.size := (hk1.opened (LB.out _ rfl).1).lt)
                 try (have ob1 : Open w1 wo.heap.size := hk1.opened (LB.out _ rfl).1)
                 try (have sb1 : (rowD w1 wo.heap.size).size = 11 := hk1.rowSize (LB.out _ rfl).1 (LB.out _ rfl).2)))
          all_goals go_wp2_with fail
          all_goals go_meet
          · exact ⟨_, rfl, rfl, by simp [go_sem], K1.out.alloc _⟩
          · exact ⟨_, rfl, rfl, by rw [cellsAt_setRow_at _ _ _ _ _ ob1]; rfl, K1.out.row (Nat.le_refl _) _⟩
        case rest =>
          obtain ⟨gx, rfl, rfl, hcx, hkx⟩ := hcut
          obtain ⟨wb, hwb⟩ : ∃ x : World, x = wc := ⟨_, rfl⟩
          subst hwb
          have KB := Lib.hid (K.out.trans hkx (fun _ _ h => h))
          have OB : Hid (OwnOf cBd 38 wb W.heap.size (.slice oa (leftOf (fun b => obeyB b c) (l.take k)).length oc) (leftOf (fun b => obeyB b c) (l.take k))) := Lib.hid (hkx.owns O.out (fun _ _ h => h))
          have DB := Lib.hid (D.out.no hkx)
          have b3 : cellsAt wb gl (off + k * 11) 3 = some [.int .i64 b.s, .int .i64 b.i, .int .i64 b.g] := cellsAt_part (hkx.cellsAt C12.out) 0 [.int .i64 b.s, .int .i64 b.i, .int .i64 b.g] rfl (by simp)
          have HLN := Lib.hid (left_len (fun b => obeyB b c) (l.take k))
          obtain ⟨L, hL⟩ : ∃ L, L = leftOf (fun b => obeyB b c) (l.take k) := ⟨_, rfl⟩
          rw [← hL] at OB HS1 HLN ⊢
          have HLL : Hid (L.length ≤ 1000) := Lib.hid (by have h1 := HLN.out; have h2 := HL.out; rw [List.length_take] at h1; omega)
          clear hkx hL HLN LC1 LC2 LB HOBb O D K C12
          cases ok with
          | true =>
            have hO' : (wb.alloc (.cells (bdC x).toArray 38)).ownsRow W.heap.size 38 11 (.slice oa L.length oc) L.length (rowsOf cBd L) := OB.out.alloc _
            have hlit : Reads (wb.alloc (.cells (bdC x).toArray 38)) 11 (.slice (some ⟨wb.heap.size, 0, none⟩) 1 1) 1 (bdC x) := Reads.ofOwn (World.ownsRow_lit (base := 0) wb (bdC x).toArray 1 (Nat.zero_le _) (by unfold maxLen; omega) rfl) (cBd.one x)
            go_wp2_with (at_builtin; refine wpList_append_reads rfl (.tmp 86) (.tmp 88) 27 rfl W.heap.size 38 i0 _ 11 88 Tryz.underlying27 hi hz0 hz1 hz2 rfl (by decide) _ L.length _ rfl hO' _ 1 (bdC x) rfl hlit ?c1 ?c2 ?c3 ?c4)
            case c1 => have := HLL.out; unfold maxLen; omega
            case c2 => have := HLL.out; omega
            case c3 => have := KB.out.size; simp; omega
            case c4 =>
              intro v' w5 hown1 hk1 _ _
              have K5 : Hid (Keeps No W w5) := Lib.hid ((KB.out.alloc _).trans hk1 (fun j hj hof => by
                have := (OB.out.lt j hof).1
                omega))
              have O5 : Hid (OwnOf cBd 38 w5 W.heap.size v' (L ++ [x])) := Lib.hid (by
                unfold OwnOf
                rw [List.length_append, rowsOf_append, rowsOf_one]
                exact hown1)
              have D5 := Lib.hid ((DB.out.no ((Keeps.refl wb).alloc (.cells (bdC x).toArray 38))).beside hO' (Nat.le_trans hB KW.out.size) hk1)
              clear hown1 hk1 hO' hlit
              go_wp2
              go_roundw
              case rel => exact ⟨k + 1, dd, by omega, by go_num, by rw [HS1.out]; exact O5.out, D5.out, by rw [HS2.out]; have := N.out; simpa using this, K5.out⟩
              case measure => simp [intOf]; omega
          | false =>
            go_wp2_with fail
            refine (rdead_any wb _ dd DB.out.r (by have h1 := N.out; have h2 := HD.out; have h3 := HL.out; have h4 := left_len (fun b => obeyB b c) (l.take k); rw [List.length_take] at h4; omega) b.id).mono ?_
            rintro e w5 ⟨v', l', rfl, hl', hr', hk5, hp'⟩
            obtain ⟨fa, fc, rfl⟩ := hr'.slice
            have O5 : Hid (OwnOf cBd 38 w5 W.heap.size (.slice oa L.length oc) L) := Lib.hid (hk5.owns OB.out (fun _ _ h => h))
            have K5 := Lib.hid (KB.out.trans hk5 (fun _ _ h => h))
            have D5 := Lib.hid (DB.out.next hk5 hr' hp')
            have N5 := Lib.hid hl'
            clear hk5 hr' hl' hp' b3 hcx
            go_wp2
            go_roundw
            case rel => exact ⟨k + 1, l', by omega, by go_num, by rw [HS1.out]; simpa using O5.out, D5.out, by rw [HS2.out, List.length_append]; have := N.out; have := N5.out; simp only [cond_false, List.length_cons, List.length_nil]; omega, K5.out⟩
            case measure => simp [intOf]; omega
      · have hlti : ¬ ((k : Int) < (l.length : Int)) := by omega
        have hT : l.take k = l := List.take_of_length_le (by omega)
        rw [hT] at O N ⊢
        have FN : Hid (CmdPost w B (cmdL z l c) (dead.length + (cmdD l c).length) (.returned (.tuple #[.slice oa (leftOf (fun b => obeyB b c) l).length oc, .slice ea dd.length ec])) wo) := Lib.hid (by
          rw [eL.out, eD.out]
          exact ⟨_, _, dd, rfl, OwnOf.reads O.out, D.out, N.out, KW.out.trans K.out (fun _ _ h => h)⟩)
        clear hK
        go_wp2
        exact bodyPost_ret (v := .tuple #[.slice oa (leftOf (fun b => obeyB b c) l).length oc, .slice ea dd.length ec]) (by simp [results, Tryz.results39, go_sem]) rfl FN.out
end Go.Proofs.YtcjeocibnfoenaaGreat
