/-
  parts.Find, hedgerowref09.Before, Find. No conditions of their own.
-/
import Derived.Test.YtcjeocibnfoenaaGreatTiI
namespace Go.Proofs.YtcjeocibnfoenaaGreat
open Go.RowKit Go.Joins Go.Deep Go.Sort

def cmpN (a : Bd) (s i g : Int) : Int := ncmp a.id ⟨s, i, g⟩
theorem cmpN_lt (a : Bd) (s i g : Int) : cmpN a s i g < 0 ↔ a.s < s ∨ (a.s = s ∧ (a.i < i ∨ (a.i = i ∧ a.g < g))) := by
  have h := ncmp_lt a.id ⟨s, i, g⟩
  have h2 := nlt_iff a.id ⟨s, i, g⟩
  rw [← h, decide_eq_true_iff] at h2
  exact h2
theorem cmpN_eq (a : Bd) (s i g : Int) : cmpN a s i g = 0 ↔ a.s = s ∧ a.i = i ∧ a.g = g := by
  have h := ncmp_eq a.id ⟨s, i, g⟩
  have h2 := neq_iff a.id ⟨s, i, g⟩
  rw [← h, decide_eq_true_iff] at h2
  unfold cmpN
  rw [h2]
  simp [Bd.id]
theorem compareN_any (a : Bd) (s i g : Int) (w : World) : Calls Tryz.prog 18 #[.agg #[.int .i64 a.s, .int .i64 a.i, .int .i64 a.g], .agg #[.int .i64 s, .int .i64 i, .int .i64 g]] w fun e w' => e = .returned (.int .i64 (cmpN a s i g)) ∧ Keeps No w w' :=
  (compare_any w a.id ⟨s, i, g⟩).mono fun _ _ ⟨he, hg⟩ => ⟨he, hg.keeps⟩
theorem cellsAt_part {w : World} {b o n : Nat} {l : List Value} (h : cellsAt w b o n = some l) (a : Nat) (m : List Value) (hm : m = (l.drop a).take m.length) (h0 : 0 < m.length) : cellsAt w b (o + a) m.length = some m := by
  refine cellsAt_of (fun j v hv => ?_) h0
  have hj := (List.getElem?_eq_some_iff.1 hv).1
  rw [Nat.add_assoc]
  refine cellsAt_cell h (a + j) v ?_
  rw [hm, List.getElem?_take_of_lt hj, List.getElem?_drop] at hv
  exact hv

theorem run_eqlID' (x1 x2 x3 y1 y2 y3 : Int) (w : World) : (binOp .eql 36 (.agg #[.int .i64 x1, .int .i64 x2, .int .i64 x3]) (.agg #[.int .i64 y1, .int .i64 y2, .int .i64 y3])).run Tryz.prog w = .ok (.bool (x1 == y1 && (x2 == y2 && x3 == y3))) w := run_eqlID x1 x2 x3 y1 y2 y3 w
/-- is a name not ahead of this one? -/
def geN (s i g : Int) (b : Bd) : Bool := decide (0 ≤ cmpN b s i g)
/-- where a name is, or would be -/
def findAt (s i g : Int) (l : List Bd) : Nat := l.findIdx (geN s i g)
def findIs (s i g : Int) (l : List Bd) : Bool := match l[findAt s i g l]? with | some b => cmpN b s i g == 0 | none => false
theorem findAt_le (s i g : Int) (l : List Bd) : findAt s i g l ≤ l.length := List.findIdx_le_length
theorem find_at (s i g : Int) (l : List Bd) (k : Nat) (hk : k < l.length) (hno : ∀ j, (h : j < k) → (h2 : j < l.length) → geN s i g l[j] = false) (hp : geN s i g l[k] = true) : findAt s i g l = k ∧ findIs s i g l = (cmpN l[k] s i g == 0) := by
  have h1 : findAt s i g l = k := by
    unfold findAt
    rw [List.findIdx_eq hk]
    exact ⟨hp, fun j hj => by simpa using hno j hj (by omega)⟩
  refine ⟨h1, ?_⟩
  unfold findIs
  rw [h1, List.getElem?_eq_getElem hk]
theorem find_none (s i g : Int) (l : List Bd) (hno : ∀ j, (h2 : j < l.length) → geN s i g l[j] = false) : findAt s i g l = l.length ∧ findIs s i g l = false := by
  have h1 : findAt s i g l = l.length := by
    unfold findAt
    rw [List.findIdx_eq_length]
    intro x hx
    obtain ⟨j, hj, rfl⟩ := List.getElem_of_mem hx
    exact hno j hj
  refine ⟨h1, ?_⟩
  unfold findIs
  rw [h1, List.getElem?_eq_none (Nat.le_refl _)]

set_option maxRecDepth 100000 in
set_option maxHeartbeats 4000000 in
theorem find_any (w : World) (v : Value) (l : List Bd) (hv : RdOf cBd w v l) (hlen : l.length ≤ 1000) (s i g : Int) :
    Calls Tryz.prog 57 #[v, .agg #[.int .i64 s, .int .i64 i, .int .i64 g]] w fun e w' => e = .returned (.tuple #[.int .i64 (findAt s i g l), .bool (findIs s i g l)]) ∧ Keeps No w w' := by
  obtain ⟨va, vc, rfl⟩ := hv.slice
  have Hlen := Lib.hid hlen; clear hlen
  go_enter Tryz.func57, Tryz.ntmps57
  go_wp2
  go_loopw [11] (fun q wr => ∃ k : Nat, k ≤ l.length ∧ q = .int .i64 k ∧ (∀ j, (h : j < k) → (h2 : j < l.length) → geN s i g l[j] = false) ∧ Keeps No (w.alloc (.cells #[.int .i64 s, .int .i64 i, .int .i64 g] 36)) wr) (fun q _ => l.length - (intOf q).toNat)
  case atStart => exact ⟨0, Nat.zero_le _, rfl, fun j h => absurd h (Nat.not_lt_zero _), Keeps.refl _⟩
  case round =>
    obtain ⟨k, hk, rfl, hno, hkeep⟩ := hrel
    have Hno := Lib.hid hno; clear hno
    have Hw0 := Lib.hid (((Keeps.refl w).alloc _).trans hkeep (fun _ _ h => h))
    have cid : cellsAt wr w.heap.size 0 3 = some [.int .i64 s, .int .i64 i, .int .i64 g] := hkeep.cellsAt (by simp [go_sem])
    by_cases hlt : k < l.length
    · have hv' := hv.kept Hw0.out (fun _ _ h => h)
      obtain ⟨b, off, rfl, hc1, hc2, hb⟩ := RdOf.addr cBd hv' (by omega)
      have g0 : cellsAt wr b (off + k * 11) 11 = some (bdC l[k]) := RdOf.at cBd hv' k hlt
      clear hc1 hc2 hv'
      have HC : Hid (∀ o1, cellsAt (wr.alloc o1) w.heap.size 0 3 = some [.int .i64 s, .int .i64 i, .int .i64 g]) := fun o1 => ((Keeps.refl (S := No) wr).alloc o1).cellsAt cid
      have hkb : (k : Int) ≤ 999 := by have := Hlen.out; omega
      have hbx : w.heap.size < wr.heap.size := by have := hkeep.size; simp at this; omega
      have hfnd : Hid (geN s i g l[k] = true → findAt s i g l = k ∧ findIs s i g l = (cmpN l[k] s i g == 0)) := fun hp => find_at s i g l k hlt Hno.out hp
      have hnxt : Hid (geN s i g l[k] = false → ∀ j, (h : j < k + 1) → (h2 : j < l.length) → geN s i g l[j] = false) := fun hp j h h2 => by
        by_cases hj : j < k
        · exact Hno.out j hj h2
        · obtain rfl : j = k := by omega
          exact hp
      have hge : Hid (geN s i g l[k] = decide (0 ≤ cmpN l[k] s i g)) := rfl
      obtain ⟨o, ho⟩ : ∃ o, o = l[k] := ⟨_, rfl⟩
      rw [← ho] at g0 hfnd hnxt hge
      have Hkk := Lib.hid hkeep
      clear ho Hno hkeep
      go_wp2_with fail
      refine (compareN_any _ _ _ _ _).mono ?_
      rintro e w1 ⟨rfl, hk1⟩
      have Hk1 := Lib.hid (show Keeps No w w1 from (Hw0.out.alloc _).trans hk1 (fun _ _ h => h))
      have Hk2 := Lib.hid (show Keeps No wr w1 from ((Keeps.refl wr).alloc _).trans hk1 (fun _ _ h => h))
      have Hk3 := Lib.hid ((Hkk.out.alloc _).trans hk1 (fun _ _ h => h))
      clear hk1 HC cid Hkk
      generalize cmpN o s i g = C at *
      by_cases hC : 0 ≤ C
      · have E := Lib.hid (hfnd.out (by rw [hge.out]; exact decide_eq_true hC))
        clear hfnd hnxt hge
        go_wp2
        exact bodyPost_ret (v := .tuple #[.int .i64 k, .bool (C == 0)]) (by simp [results, Tryz.results57, go_sem]) rfl ⟨by rw [E.out.1, E.out.2], Hk1.out⟩
      · have E := Lib.hid (hnxt.out (by rw [hge.out]; exact decide_eq_false hC))
        clear hfnd hnxt hge
        go_wp2
        go_roundw
        case rel => exact ⟨k + 1, by omega, by go_num, E.out, Hk3.out⟩
        case measure => simp [intOf]; omega
    · have E := Lib.hid (find_none s i g l (fun j hj => Hno.out j (by omega) hj))
      clear cid hkeep
      go_wp2
      exact bodyPost_ret (v := .tuple #[.int .i64 l.length, .bool false]) (by simp [results, Tryz.results57, go_sem]) rfl ⟨by rw [E.out.1, E.out.2], Hw0.out⟩

theorem cmp_id (a : Bd) (s i g : Int) : (cmpN a s i g == 0) = (a.s == s && (a.i == i && a.g == g)) := by
  rw [Bool.eq_iff_iff]
  simp [cmpN_eq]

set_option maxHeartbeats 1000000 in
theorem before_any (a : Bd) (s i g : Int) (w : World) : Calls Tryz.prog 64 #[.agg #[.int .i64 a.s, .int .i64 a.i, .int .i64 a.g], .agg #[.int .i64 s, .int .i64 i, .int .i64 g]] w fun e w' => e = .returned (.bool (decide (cmpN a s i g < 0))) ∧ Keeps No w w' := by
  have key : decide (cmpN a s i g < 0) = if (a.s != s) = true then decide (a.s < s) else if (a.i != i) = true then decide (a.i < i) else decide (a.g < g) := by
    rw [Bool.eq_iff_iff]
    by_cases h1 : a.s = s
    · by_cases h2 : a.i = i
      · simp [cmpN_lt, h1, h2]
      · simp [cmpN_lt, h1, h2]
    · simp [cmpN_lt, h1]
  rw [key]
  clear key
  cases h1 : (a.s != s)
  · cases h2 : (a.i != i)
    · go_enter Tryz.func64, Tryz.ntmps64
      go_wp2
      go_ret
      exact ⟨by simp, ((Keeps.refl w).alloc _).alloc _⟩
    · go_enter Tryz.func64, Tryz.ntmps64
      go_wp2
      go_ret
      exact ⟨by simp, ((Keeps.refl w).alloc _).alloc _⟩
  · go_enter Tryz.func64, Tryz.ntmps64
    go_wp2
    go_ret
    exact ⟨by simp, ((Keeps.refl w).alloc _).alloc _⟩

set_option maxRecDepth 100000 in
set_option maxHeartbeats 4000000 in
theorem rfind_any (w : World) (v : Value) (l : List Bd) (hv : RdOf cBd w v l) (hlen : l.length ≤ 1000) (s i g : Int) :
    Calls Tryz.prog 65 #[v, .agg #[.int .i64 s, .int .i64 i, .int .i64 g]] w fun e w' => e = .returned (.tuple #[.int .i64 (findAt s i g l), .bool (findIs s i g l)]) ∧ Keeps No w w' := by
  obtain ⟨va, vc, rfl⟩ := hv.slice
  have Hl := Lib.hid hlen
  have Hv := Lib.hid hv
  obtain ⟨P, hP⟩ : ∃ P, findAt s i g l = P := ⟨_, rfl⟩
  obtain ⟨T, hT⟩ : ∃ T, findIs s i g l = T := ⟨_, rfl⟩
  rw [hP, hT]
  have HP := Lib.hid hP
  have HT := Lib.hid hT
  clear hlen hv hP hT
  go_enter Tryz.func65, Tryz.ntmps65
  go_wp2
  refine wp_world ?_
  intro W hW
  have KW : Hid (Keeps No w W) := by rw [hW]; exact (Keeps.refl (S := No) w).alloc _
  have CB : Hid (cellsAt W w.heap.size 0 3 = some [.int .i64 s, .int .i64 i, .int .i64 g]) := by show cellsAt _ _ _ _ = _; rw [hW]; simp [go_sem]
  clear hW
  go_loopw [6] (fun x wr => ∃ k : Nat, k ≤ l.length ∧ x = .int .i64 k ∧ (∀ j, (h : j < k) → (h2 : j < l.length) → geN s i g l[j] = false) ∧ Keeps No W wr) (fun x _ => l.length - (intOf x).toNat)
  case atStart => exact ⟨0, Nat.zero_le _, rfl, fun j h => absurd h (Nat.not_lt_zero _), Keeps.refl _⟩
  case round =>
    obtain ⟨k, hk, rfl, hno, hK⟩ := hrel
    have Hno := Lib.hid hno
    have HK := Lib.hid hK
    have b0 : cellsAt wr w.heap.size 0 3 = some [.int .i64 s, .int .i64 i, .int .i64 g] := hK.cellsAt CB.out
    clear hno
    by_cases hlt : k < l.length
    · have hki : (k : Int) < (l.length : Int) := by omega
      have hk0 : (0 : Int) ≤ (k : Int) := by omega
      have hkb : (k : Int) ≤ 1000 := by have := Hl.out; omega
      have hr : RdOf cBd wr (.slice va l.length vc) l := Hv.out.kept (KW.out.trans hK (fun _ _ h => h)) (fun _ _ h => h)
      obtain ⟨gr, off, rfl, _, _, hg⟩ := RdOf.addr cBd hr (by omega)
      obtain ⟨a, ha⟩ : ∃ a, a = l[k] := ⟨_, rfl⟩
      have c11 : cellsAt wr gr (off + k * 11) 11 = some (bdC a) := by rw [ha]; exact RdOf.at cBd hr k hlt
      have c3 : cellsAt wr gr (off + k * 11) 3 = some [.int .i64 a.s, .int .i64 a.i, .int .i64 a.g] := cellsAt_part c11 0 [.int .i64 a.s, .int .i64 a.i, .int .i64 a.g] rfl (by simp)
      have Hlt := Lib.hid hlt
      have Ha : Hid (∃ h : k < l.length, a = l[k]'h) := ⟨hlt, ha⟩
      clear c11 hr hk hK
      clear ha
      clear hlt
      have hdk : decide (k < l.length) = true := decide_eq_true Hlt.out
      obtain ⟨bb, hbb⟩ : ∃ bb, decide (cmpN a s i g < 0) = bb := ⟨_, rfl⟩
      have Hbb := Lib.hid hbb
      clear hbb
      cases bb
      all_goals
        go_wp2_with fail
        go_region_held3 (fun w' => cellsAt w' gr (off + k * 11) 3 = some [.int .i64 a.s, .int .i64 a.i, .int .i64 a.g] ∧ cellsAt w' w.heap.size 0 3 = some [.int .i64 s, .int .i64 i, .int .i64 g]) (exact ⟨c3, b0⟩)
          (first
            | (go_at_call 64
               refine (before_any a s i g _).mono ?_
               rw [Hbb.out]
               rintro e w1 ⟨rfl, hk1⟩
               have hk2 : Keeps No wr w1 := ((Keeps.refl (S := No) wr).drew).trans hk1 (fun _ _ h => h)
               have K1 := Lib.hid hk2
               have c31 := hk2.cellsAt c3
               have b01 := hk2.cellsAt b0
               clear c3 b0 hk1 hk2
               have c3 := c31
               have b0 := b01
               clear c31 b01))
      · -- the place is found
        have hge : geN s i g a = true := by
          have := of_decide_eq_false Hbb.out
          unfold geN
          exact decide_eq_true (by omega)
        obtain ⟨hkl, hal⟩ := Ha.out
        obtain ⟨h1, h2⟩ := find_at s i g l k hkl Hno.out (by rw [← hal]; exact hge)
        rw [← hal, cmp_id] at h2
        obtain rfl : P = k := HP.out.symm.trans h1
        have h3 : T = (a.s == s && (a.i == i && a.g == g)) := HT.out.symm.trans h2
        obtain ⟨z, hz⟩ : ∃ z, z = (a.s == s && (a.i == i && a.g == g)) := ⟨_, rfl⟩
        rw [← hz] at h3
        obtain rfl : T = z := h3
        have heq : ∀ W, (binOp .eql 36 (.agg #[.int .i64 a.s, .int .i64 a.i, .int .i64 a.g]) (.agg #[.int .i64 s, .int .i64 i, .int .i64 g])).run Tryz.prog W = .ok (.bool T) W := fun W => by rw [hz]; exact run_eqlID' _ _ _ _ _ _ W
        have KF : Hid (Keeps No w w1) := KW.out.trans (HK.out.trans K1.out (fun _ _ h => h)) (fun _ _ h => h)
        clear h1 h2 hal hge hkl hz
        go_wp2
        go_quiet (fail)
        go_wp2
        refine bodyPost_ret (v := .tuple #[.int .i64 P, .bool T]) ?_ rfl ⟨rfl, KF.out.drewN _⟩
        simp [results, Tryz.results65, go_sem, *]
      · have hno2 : Hid (∀ j, (h : j < k + 1) → (h2 : j < l.length) → geN s i g l[j] = false) := Lib.hid (fun j h h2 => by
          by_cases hj : j < k
          · exact Hno.out j hj h2
          · obtain rfl : j = k := by omega
            obtain ⟨_, hal⟩ := Ha.out
            rw [← hal]
            have := of_decide_eq_true Hbb.out
            unfold geN
            exact decide_eq_false (by omega))
        go_wp2
        go_roundw
        case rel => exact ⟨k + 1, Hlt.out, by go_num, hno2.out, HK.out.trans K1.out (fun _ _ h => h)⟩
        case measure => have := Hlt.out; simp [intOf]; omega
    · obtain rfl : k = l.length := by omega
      have hdk : decide (l.length < l.length) = false := decide_eq_false (by omega)
      obtain ⟨h1, h2⟩ := find_none s i g l (fun j h2 => Hno.out j h2 h2)
      obtain rfl : P = l.length := HP.out.symm.trans h1
      obtain rfl : T = false := HT.out.symm.trans h2
      clear h1 h2 hlt hk hK
      go_wp2
      go_quiet (fail)
      go_wp2
      go_quiet (fail)
      go_wp2
      refine bodyPost_ret (v := .tuple #[.int .i64 l.length, .bool false]) ?_ rfl ⟨rfl, ?_⟩
      · simp [results, Tryz.results65, go_sem, *]
      · exact ((KW.out.trans HK.out (fun _ _ h => h)).drewN _).drewN _
end Go.Proofs.YtcjeocibnfoenaaGreat
