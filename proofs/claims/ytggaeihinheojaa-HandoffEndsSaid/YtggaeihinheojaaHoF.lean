/-
  handoff: Clone of Outs and Ins, Leave, Next. No conditions of its own.
-/
import Derived.Test.YtggaeihinheojaaHoE
namespace Go.Proofs.Ytggaeihinheojaa
open Go.RowKit

theorem Try.infoOu : (Try.prog.info? 78).map (fun i => (i.zero, i.size, i.bytes)) = some (some (.agg (ouC ⟨0, 0, 0, Bd.zero⟩).toArray), 14, 112) := by kernel_rfl
theorem Try.infoIn : (Try.prog.info? 89).map (fun i => (i.zero, i.size, i.bytes)) = some (some (.agg (inC ⟨0, 0, Bd.zero⟩).toArray), 13, 104) := by kernel_rfl
theorem Try.infoBd : (Try.prog.info? 37).map (fun i => (i.zero, i.size, i.bytes)) = some (some (.agg (bdC Bd.zero).toArray), 11, 88) := by kernel_rfl

/-- A row of structs of the call's own. -/
abbrev OwnOf {α : Type} (C : Codec α) (e : TypeId) (w : World) (base : Nat) (v : Value) (l : List α) : Prop := w.ownsRow base e C.size v l.length (rowsOf C l)
/-- of no block that was there -/
def Fresh (w : World) (v : Value) : Prop := ∀ i, v.ownBlock = some i → w.heap.size ≤ i
theorem fresh_of {α : Type} {C : Codec α} {e : TypeId} {w W w0 : World} {v : Value} {l : List α} {n : Nat} (h : OwnOf C e w W.heap.size v l) (hs : W.heap.size = w0.heap.size + n) : Fresh w0 v := fun i hi => by have := (h.lt i hi).1; omega
theorem OwnOf.reads {α : Type} {C : Codec α} {e : TypeId} {w : World} {base : Nat} {v : Value} {l : List α} (h : OwnOf C e w base v l) : RdOf C w v l := Reads.ofOwn h (rowsOf_ones C l)

set_option maxHeartbeats 1000000 in
theorem cloneOut (w : World) (v : Value) (l : List Ou) (hr : RdOf cOu w v l) (hl : l.length ≤ 1000) :
    Calls Try.prog 38 #[v] w fun e w' => ∃ v', e = .returned v' ∧ OwnOf cOu 78 w' w.heap.size v' l ∧ Keeps No w w' := by
  obtain ⟨i0, hi, hz0, hz1, hz2⟩ := info_parts Try.infoOu
  rcases hr.shape with ⟨rfl, hn⟩ | ⟨a, c, rfl, hc, hcm, hcell⟩
  · have hnil : l = [] := List.eq_nil_of_length_eq_zero hn
    subst hnil
    go_enter Try.func38, Try.ntmps38
    have hnil : ∀ w, (binOp .eql 24 (.slice none 0 0) (.slice none 0 0)).run Try.prog w = .ok (.bool true) w := fun w => by kernel_rfl
    go_wp2
    go_ret
    exact ⟨_, rfl, World.ownsRow_nil _ _ _ _, Keeps.refl _⟩
  · clear hcell
    have hnn : ∀ w, (binOp .eql 24 (.slice (some a) l.length c) (.slice none 0 0)).run Try.prog w = .ok (.bool false) w := fun w => Lib.run_eql_slice_nil w _ 78 _ _ _ _ _ Try.underlying24
    have hr' : Reads (w.alloc (.cells #[] 78)) 14 (.slice (some a) l.length c) l.length (rowsOf cOu l) := hr.kept ((Keeps.refl (S := No) w).alloc _) (fun _ _ h => h)
    have hlit : (w.alloc (.cells #[] 78)).ownsRow w.heap.size 78 14 (.slice (some ⟨w.heap.size, 0, none⟩) 0 0) 0 [] := World.ownsRow_lit w #[] 0 (Nat.le_refl _) (Nat.zero_le _) rfl
    have Hl := Lib.hid hl; clear hl
    go_enter Try.func38, Try.ntmps38
    go_wp2_with (at_builtin; refine wpList_append_reads rfl (.tmp 5) (.tmp 6) 24 rfl w.heap.size 78 i0 _ 14 112 Try.underlying24 hi hz0 hz1 hz2 rfl (by decide) _ 0 [] rfl hlit _ _ _ rfl hr' ?c1 ?c2 ?c3 ?c4)
    case c1 => have := Hl.out; unfold maxLen; omega
    case c2 => have := Hl.out; omega
    case c3 => simp
    case c4 =>
      intro v' w1 hown hk _ _
      go_wp2
      go_ret
      refine ⟨_, rfl, hown, ((Keeps.refl (S := No) w).alloc _).trans hk (fun i hi h => ?_)⟩
      simp [Of, Value.ownBlock] at h
      omega

set_option maxHeartbeats 1000000 in
theorem cloneIn (w : World) (v : Value) (l : List Inn) (hr : RdOf cIn w v l) (hl : l.length ≤ 1000) :
    Calls Try.prog 39 #[v] w fun e w' => ∃ v', e = .returned v' ∧ OwnOf cIn 89 w' w.heap.size v' l ∧ Keeps No w w' := by
  obtain ⟨i0, hi, hz0, hz1, hz2⟩ := info_parts Try.infoIn
  rcases hr.shape with ⟨rfl, hn⟩ | ⟨a, c, rfl, hc, hcm, hcell⟩
  · have hnil : l = [] := List.eq_nil_of_length_eq_zero hn
    subst hnil
    go_enter Try.func39, Try.ntmps39
    have hnil : ∀ w, (binOp .eql 25 (.slice none 0 0) (.slice none 0 0)).run Try.prog w = .ok (.bool true) w := fun w => by kernel_rfl
    go_wp2
    go_ret
    exact ⟨_, rfl, World.ownsRow_nil _ _ _ _, Keeps.refl _⟩
  · clear hcell
    have hnn : ∀ w, (binOp .eql 25 (.slice (some a) l.length c) (.slice none 0 0)).run Try.prog w = .ok (.bool false) w := fun w => Lib.run_eql_slice_nil w _ 89 _ _ _ _ _ Try.underlying25
    have hr' : Reads (w.alloc (.cells #[] 89)) 13 (.slice (some a) l.length c) l.length (rowsOf cIn l) := hr.kept ((Keeps.refl (S := No) w).alloc _) (fun _ _ h => h)
    have hlit : (w.alloc (.cells #[] 89)).ownsRow w.heap.size 89 13 (.slice (some ⟨w.heap.size, 0, none⟩) 0 0) 0 [] := World.ownsRow_lit w #[] 0 (Nat.le_refl _) (Nat.zero_le _) rfl
    have Hl := Lib.hid hl; clear hl
    go_enter Try.func39, Try.ntmps39
    go_wp2_with (at_builtin; refine wpList_append_reads rfl (.tmp 5) (.tmp 6) 25 rfl w.heap.size 89 i0 _ 13 104 Try.underlying25 hi hz0 hz1 hz2 rfl (by decide) _ 0 [] rfl hlit _ _ _ rfl hr' ?c1 ?c2 ?c3 ?c4)
    case c1 => have := Hl.out; unfold maxLen; omega
    case c2 => have := Hl.out; omega
    case c3 => simp
    case c4 =>
      intro v' w1 hown hk _ _
      go_wp2
      go_ret
      refine ⟨_, rfl, hown, ((Keeps.refl (S := No) w).alloc _).trans hk (fun i hi h => ?_)⟩
      simp [Of, Value.ownBlock] at h
      omega

set_option maxHeartbeats 1000000 in
theorem cloneBd (w : World) (v : Value) (l : List Bd) (hr : RdOf cBd w v l) (hl : l.length ≤ 1000) :
    Calls Try.prog 45 #[v] w fun e w' => ∃ v', e = .returned v' ∧ OwnOf cBd 37 w' w.heap.size v' l ∧ Keeps No w w' := by
  obtain ⟨i0, hi, hz0, hz1, hz2⟩ := info_parts Try.infoBd
  rcases hr.shape with ⟨rfl, hn⟩ | ⟨a, c, rfl, hc, hcm, hcell⟩
  · have hnil : l = [] := List.eq_nil_of_length_eq_zero hn
    subst hnil
    go_enter Try.func45, Try.ntmps45
    have hnil : ∀ w, (binOp .eql 22 (.slice none 0 0) (.slice none 0 0)).run Try.prog w = .ok (.bool true) w := fun w => by kernel_rfl
    go_wp2
    go_ret
    exact ⟨_, rfl, World.ownsRow_nil _ _ _ _, Keeps.refl _⟩
  · clear hcell
    have hnn : ∀ w, (binOp .eql 22 (.slice (some a) l.length c) (.slice none 0 0)).run Try.prog w = .ok (.bool false) w := fun w => Lib.run_eql_slice_nil w _ 37 _ _ _ _ _ Try.underlying22
    have hr' : Reads (w.alloc (.cells #[] 37)) 11 (.slice (some a) l.length c) l.length (rowsOf cBd l) := hr.kept ((Keeps.refl (S := No) w).alloc _) (fun _ _ h => h)
    have hlit : (w.alloc (.cells #[] 37)).ownsRow w.heap.size 37 11 (.slice (some ⟨w.heap.size, 0, none⟩) 0 0) 0 [] := World.ownsRow_lit w #[] 0 (Nat.le_refl _) (Nat.zero_le _) rfl
    have Hl := Lib.hid hl; clear hl
    go_enter Try.func45, Try.ntmps45
    go_wp2_with (at_builtin; refine wpList_append_reads rfl (.tmp 5) (.tmp 6) 22 rfl w.heap.size 37 i0 _ 11 88 Try.underlying22 hi hz0 hz1 hz2 rfl (by decide) _ 0 [] rfl hlit _ _ _ rfl hr' ?c1 ?c2 ?c3 ?c4)
    case c1 => have := Hl.out; unfold maxLen; omega
    case c2 => have := Hl.out; omega
    case c3 => simp
    case c4 =>
      intro v' w1 hown hk _ _
      go_wp2
      go_ret
      refine ⟨_, rfl, hown, ((Keeps.refl (S := No) w).alloc _).trans hk (fun i hi h => ?_)⟩
      simp [Of, Value.ownBlock] at h
      omega

/-- how many Outs are under way, and whether one is kept -/
def underOf (l : List Ou) : Nat := (l.filter fun o => !isKept o).length
def keptOf (l : List Ou) : Bool := l.any isKept
/-- does one more leave? -/
def mayNext (l : List Ou) (nx : Int) : Bool := keptOf l && (decide ((underOf l : Int) < 4) && decide (nx < 1099511627776))
theorem underOf_next (l : List Ou) (k : Nat) (hk : k < l.length) : underOf (l.take (k + 1)) = underOf (l.take k) + (if isKept l[k] = true then 0 else 1) := by
  unfold underOf
  rw [List.take_succ_eq_append_getElem hk, List.filter_append, List.length_append]
  cases h : isKept l[k] <;> simp [h]
theorem keptOf_next (l : List Ou) (k : Nat) (hk : k < l.length) : keptOf (l.take (k + 1)) = (keptOf (l.take k) || isKept l[k]) := by
  unfold keptOf
  rw [List.take_succ_eq_append_getElem hk, List.any_append]
  simp
theorem underOf_le (l : List Ou) (k : Nat) : underOf (l.take k) ≤ k := Nat.le_trans (List.length_filter_le _ _) (by rw [List.length_take]; omega)

section
variable {w : World} {ep t nx : Int} {own dead outs ins gh : Value}

set_option maxRecDepth 100000 in
set_option maxHeartbeats 4000000 in
theorem next_any {l : List Ou} (hv : RdOf cOu w outs l) (hl : l.length ≤ 1000) (hn : Hid (nx < 1099511627776 → wrap64 (nx + 1) = nx + 1)) :
    Calls Try.prog 17 #[stV ep t own dead outs ins gh nx] w fun e w' => e = .returned (.tuple #[bif mayNext l nx then recV 3 (nx + 1) 0 Bd.zero else recV 0 0 0 Bd.zero, .bool (mayNext l nx)]) ∧ Keeps No w w' := by
  obtain ⟨va, vc, rfl⟩ := hv.slice
  have Hl := Lib.hid hl; clear hl
  have hu0 : Hid (underOf (l.take 0) = 0 ∧ keptOf (l.take 0) = false) := ⟨rfl, rfl⟩
  go_enter Try.func17, Try.ntmps17
  go_wp2
  go_loopw [4, 5, 11] (fun u kp i wr => ∃ k : Nat, k ≤ l.length ∧ i = .int .i64 k ∧ u = .int .i64 (underOf (l.take k)) ∧ kp = .bool (keptOf (l.take k)) ∧ Keeps No (((w.alloc (.cells #[.int .i64 ep, .int .i64 t, own, dead, .slice va l.length vc, ins, gh, .int .i64 nx] 28))).alloc (.cells #[.int .i64 0, .int .i64 0, .int .i64 0, .slice none 0 0, .int .i64 0, .int .i64 0, .int .i64 0, .int .i64 0, .int .i64 0, .int .i64 0, .int .i64 0, .int .i64 0, .int .i64 0, .int .i64 0, .int .i64 0, .slice none 0 0, .int .i64 0, .int .i64 0, .slice none 0 0, .slice none 0 0, .slice none 0 0, .slice none 0 0, .slice none 0 0, .int .i64 0] 39)) wr) (fun _ _ i _ => l.length - (intOf i).toNat)
  case atStart => exact ⟨0, Nat.zero_le _, rfl, by rw [hu0.out.1]; rfl, by rw [hu0.out.2], Keeps.refl _⟩
  case round =>
    clear hu0
    obtain ⟨k, hk, rfl, rfl, rfl, hkw⟩ := hrel
    have hw0 : Keeps No w wr := (((Keeps.refl _).alloc _).alloc _).trans hkw (fun _ _ h => h)
    have hle := underOf_le l k
    generalize hU : underOf (l.take k) = U at *
    generalize hK : keptOf (l.take k) = K at *
    by_cases hlt : k < l.length
    · have hv' := hv.kept hw0 (fun _ _ h => h)
      obtain ⟨g, off, rfl, hc1, hc2, hg⟩ := RdOf.addr cOu hv' (by omega)
      have g0 : cellsAt wr g (off + k * 14) 14 = some (ouC l[k]) := RdOf.at cOu hv' k hlt
      clear hc1 hc2 hv'
      have hu := underOf_next l k hlt
      have hkk := keptOf_next l k hlt
      rw [hU] at hu
      rw [hK] at hkk
      have Hu := Lib.hid hu; have Hkk := Lib.hid hkk; have Hw0 := Lib.hid hw0; have Hkw := Lib.hid hkw
      have HU := Lib.hid hU; have HK := Lib.hid hK
      clear hu hkk hw0 hkw hU hK
      have hkb : (k : Int) ≤ 999 := by have := Hl.out; omega
      have hUb : (U : Int) ≤ 999 := by omega
      obtain ⟨o, ho⟩ : ∃ o, o = l[k] := ⟨_, rfl⟩
      rw [← ho] at g0
      have Ho := Lib.hid ho; clear ho
      rw [← Ho.out] at Hu Hkk
      have hik : Hid (isKept o = (o.st == 1)) := rfl
      cases h1 : (o.st == 1)
      · go_wp2
        go_roundw
        case rel => exact ⟨k + 1, by omega, by go_num, by rw [Hu.out, hik.out, h1]; go_num, by rw [Hkk.out, hik.out, h1, Bool.or_false], Hkw.out.alloc _⟩
        case measure => simp [intOf]; omega
      · go_wp2
        go_roundw
        case rel => exact ⟨k + 1, by omega, by go_num, by rw [Hu.out, hik.out, h1]; go_num, by rw [Hkk.out, hik.out, h1, Bool.or_true], Hkw.out.alloc _⟩
        case measure => simp [intOf]; omega
    · obtain rfl : k = l.length := by omega
      rw [List.take_length] at hU hK
      have q1 : wr.cell? ⟨w.heap.size, 7, none⟩ = some (.int .i64 nx) := hkw.cell (by simp [go_sem]) (fun h => h)
      have o2 : Open wr (w.heap.size + 1) := hkw.opened (by simp [go_sem])
      have n2 : (rowD wr (w.heap.size + 1)).size = 24 := hkw.rowSize (by simp [go_sem]) (by simp [go_sem])
      have Hk := Lib.hid hw0
      have HM : Hid (mayNext l nx = (K && (decide ((U : Int) < 4) && decide (nx < 1099511627776)))) := by show _ = _; unfold mayNext; rw [hU, hK]
      clear hU hK hkw hw0
      cases K
      · go_wp2
        exact bodyPost_ret (v := .tuple #[recV 0 0 0 Bd.zero, .bool false]) (by simp [results, Try.results17, go_sem, *, Bd.zero]) rfl ⟨by rw [HM.out]; rfl, Hk.out.row (by omega) _⟩
      · cases h2 : decide ((U : Int) < 4)
        · have h2' : decide ((4 : Int) ≤ (U : Int)) = true := by simp at h2 ⊢; omega
          go_wp2
          exact bodyPost_ret (v := .tuple #[recV 0 0 0 Bd.zero, .bool false]) (by simp [results, Try.results17, go_sem, *, Bd.zero]) rfl ⟨by rw [HM.out, h2]; rfl, Hk.out.row (by omega) _⟩
        · have h2' : decide ((4 : Int) ≤ (U : Int)) = false := by simp at h2 ⊢; omega
          cases h3 : decide (nx < 1099511627776)
          · have h3' : decide ((1099511627776 : Int) ≤ nx) = true := by simp at h3 ⊢; omega
            go_wp2
            exact bodyPost_ret (v := .tuple #[recV 0 0 0 Bd.zero, .bool false]) (by simp [results, Try.results17, go_sem, *, Bd.zero]) rfl ⟨by rw [HM.out, h2, h3]; rfl, Hk.out.row (by omega) _⟩
          · have h3' : decide ((1099511627776 : Int) ≤ nx) = false := by simp at h3 ⊢; omega
            have hwr : wrap64 (nx + 1) = nx + 1 := hn.out (of_decide_eq_true h3)
            go_wp2
            exact bodyPost_ret (v := .tuple #[recV 3 (nx + 1) 0 Bd.zero, .bool true]) (by simp [results, Try.results17, go_sem, *, Bd.zero]) rfl ⟨by rw [HM.out, h2, h3]; rfl, Hk.out.row (by omega) _⟩

end
end Go.Proofs.Ytggaeihinheojaa
