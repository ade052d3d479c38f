/-
  handoff.Tell. No conditions of its own.
-/
import Derived.Test.YtggaeihinheojaaHoG
import Derived.Deep.CutBlock
namespace Go.Proofs.Ytggaeihinheojaa
open Go.RowKit

/-- what is said, and to whom, by value -/
abbrev toV (tg k n : Int) (bv : Value) : Value := .agg #[.int .i64 tg, .int .i64 k, .int .i64 0, .int .i64 n, .slice none 0 0, bv, .slice none 0 0]
/-- an Out under way with a number -/
def tellPr (n : Int) (o : Ou) : Bool := o.n == n && !(o.st == 1)
def TellPost (low : Nat) (l : List Ou) (n : Int) (e : Ending) (w' : World) : Prop :=
  (firstOf (tellPr n) l = -1 ∧ e = .returned (.tuple #[toV 0 0 0 (.slice none 0 0), .bool false])) ∨
  (∃ (j : Nat) (hj : j < l.length), firstOf (tellPr n) l = j ∧ (l[j].st == 2) = true ∧ ∃ v, e = .returned (.tuple #[toV l[j].to 7 n v, .bool true]) ∧ RdOf cBd w' v [l[j].b] ∧ ∀ k, v.ownBlock = some k → low ≤ k) ∨
  (∃ (j : Nat) (hj : j < l.length), firstOf (tellPr n) l = j ∧ (l[j].st == 2) = false ∧ e = .returned (.tuple #[toV l[j].to 9 n (.slice none 0 0), .bool true]))

theorem rdOne {α : Type} (C : Codec α) (w : World) (e : TypeId) (a : α) : RdOf C (w.alloc (.cells (C.cells a).toArray e)) (.slice (some ⟨w.heap.size, 0, none⟩) 1 1) [a] := by
  have h := World.ownsRow_lit (e := e) (size := C.size) w (C.cells a).toArray 1 (Nat.zero_le _) (by unfold maxLen; omega) (by simp [C.len])
  have h2 : Reads (w.alloc (.cells (C.cells a).toArray e)) C.size (.slice (some ⟨w.heap.size, 0, none⟩) 1 1) 1 (C.cells a) := Reads.ofOwn h (C.one a)
  unfold RdOf
  rw [rowsOf_one]
  exact h2

section
variable {w : World} {ep t nx : Int} {own dead outs ins gh : Value}

set_option maxRecDepth 100000 in
set_option maxHeartbeats 2000000 in
theorem tell_any {l : List Ou} (hv : RdOf cOu w outs l) (n : Int) :
    Calls Try.prog 19 #[stV ep t own dead outs ins gh nx, .int .i64 n] w fun e w' => TellPost w.heap.size l n e w' ∧ Keeps No w w' := by
  obtain ⟨va, vc, rfl⟩ := hv.slice
  have hlen := RdOf.len cOu hv
  unfold maxLen at hlen
  go_enter Try.func19, Try.ntmps19
  go_wp2
  go_loopw [11] (fun i wr => ∃ k : Nat, k ≤ l.length ∧ i = .int .i64 k ∧ (∀ j, (h : j < k) → (h2 : j < l.length) → tellPr n l[j] = false) ∧ Keeps No w wr ∧ Open wr (w.heap.size + 1) ∧ (rowD wr (w.heap.size + 1)).size = 7) (fun i _ => l.length - (intOf i).toNat)
  case atStart => exact ⟨0, Nat.zero_le _, rfl, fun j h => absurd h (Nat.not_lt_zero _), ((Keeps.refl _).alloc _).alloc _, by simp [go_sem], by simp [go_sem]⟩
  case round =>
    obtain ⟨k, hk, rfl, hno, hkw, hop, hsz⟩ := hrel
    have hbx : w.heap.size + 1 < wr.heap.size := by
      obtain ⟨C, t, hc⟩ := hop
      exact (Array.getElem?_eq_some_iff.1 hc).1
    have Hno := Lib.hid hno; clear hno
    have Hkw := Lib.hid hkw
    by_cases hlt : k < l.length
    · have hv' := hv.kept hkw (fun _ _ h => h)
      obtain ⟨g, off, rfl, hc1, hc2, hg⟩ := RdOf.addr cOu hv' (by omega)
      have g0 : cellsAt wr g (off + k * 14) 14 = some (ouC l[k]) := RdOf.at cOu hv' k hlt
      clear hc1 hc2 hv' hkw
      have HO : Hid (∀ o1, Open (wr.alloc o1) (w.heap.size + 1) ∧ (rowD (wr.alloc o1) (w.heap.size + 1)).size = 7) := fun o1 => ⟨(((Keeps.refl (S := No) wr).alloc o1).opened hop), (((Keeps.refl (S := No) wr).alloc o1).rowSize hop hsz)⟩
      have hfst : Hid (tellPr n l[k] = true → firstOf (tellPr n) l = k) := fun hp => firstOf_at _ l k hlt Hno.out hp
      have hnxt : Hid (tellPr n l[k] = false → ∀ j, (h : j < k + 1) → (h2 : j < l.length) → tellPr n l[j] = false) := fun hp j h h2 => by
        by_cases hj : j < k
        · exact Hno.out j hj h2
        · obtain rfl : j = k := by omega
          exact hp
      have hpd : Hid (tellPr n l[k] = (l[k].n == n && !(l[k].st == 1))) := rfl
      have hpo : Hid (∀ e w', (tellPr n l[k] = true → (l[k].st == 2) = true → ∀ v, e = .returned (.tuple #[toV l[k].to 7 n v, .bool true]) → RdOf cBd w' v [l[k].b] → (∀ k, v.ownBlock = some k → w.heap.size ≤ k) → TellPost w.heap.size l n e w') ∧ (tellPr n l[k] = true → (l[k].st == 2) = false → e = .returned (.tuple #[toV l[k].to 9 n (.slice none 0 0), .bool true]) → TellPost w.heap.size l n e w')) := fun e w' =>
        ⟨fun hp hs v he hr hlo => .inr (.inl ⟨k, hlt, hfst.out hp, hs, v, he, hr, hlo⟩), fun hp hs he => .inr (.inr ⟨k, hlt, hfst.out hp, hs, he⟩)⟩
      have hkb : (k : Int) + 1 ≤ (l.length : Int) := by omega
      obtain ⟨o, ho⟩ : ∃ o, o = l[k] := ⟨_, rfl⟩
      rw [← ho] at g0 hpd hpo hnxt
      clear ho hfst
      cases h1 : (o.n == n)
      · have h1' : (o.n != n) = true := by unfold bne; rw [h1]; rfl
        have hp := hnxt.out (by rw [hpd.out, h1]; rfl)
        have Hp := Lib.hid hp; clear hp
        go_wp2
        go_roundw
        case rel => exact ⟨k + 1, by omega, by go_num, Hp.out, Hkw.out.alloc _, (HO.out _).1, (HO.out _).2⟩
        case measure => simp [intOf]; omega
      · have h1' : (o.n != n) = false := by unfold bne; rw [h1]; rfl
        cases h2 : (o.st == 1)
        · have hp : Hid (tellPr n o = true) := by show _ = _; rw [hpd.out, h1, h2]; rfl
          cases h3 : (o.st == 2)
          · have hq : Hid (∀ w', TellPost w.heap.size l n (.returned (.tuple #[toV o.to 9 n (.slice none 0 0), .bool true])) w') := fun w' => (hpo.out (.returned (.tuple #[toV o.to 9 n (.slice none 0 0), .bool true])) w').2 hp.out h3 rfl
            clear HO hnxt hpd hpo hp Hno
            go_wp2
            refine bodyPost_ret (v := .tuple #[toV o.to 9 n (.slice none 0 0), .bool true]) ?_ rfl ?_
            · have hc : ∀ o1, cellsAt ((wr.setRow (w.heap.size + 1) #[.int .i64 o.to, .int .i64 9, .int .i64 0, .int .i64 n, .slice none 0 0, .slice none 0 0, .slice none 0 0]).alloc o1) (w.heap.size + 1) 0 7 = some [.int .i64 o.to, .int .i64 9, .int .i64 0, .int .i64 n, .slice none 0 0, .slice none 0 0, .slice none 0 0] := fun o1 => by
                rw [cellsAt_alloc_past _ _ _ _ _ (by simpa using hbx), cellsAt_setRow_at _ _ _ _ _ hop]
                rfl
              clear hop hsz hq Hkw hbx h1 h1' h2 h3 g0 hg hkb hk hlt hlen hv
              simp [results, Try.results19, go_sem, hc]
            · exact ⟨hq.out _, (Hkw.out.row (by omega) _).alloc _⟩
          · have hq : Hid (∀ w' v, RdOf cBd w' v [o.b] → (∀ k, v.ownBlock = some k → w.heap.size ≤ k) → TellPost w.heap.size l n (.returned (.tuple #[toV o.to 7 n v, .bool true])) w') := fun w' v hr hlo => (hpo.out (.returned (.tuple #[toV o.to 7 n v, .bool true])) w').1 hp.out h3 v rfl hr hlo
            clear HO hnxt hpd hpo hp Hno
            go_upto_region 6 with fail
            refine wp_world ?_
            intro W hW
            have p1 : W.cell? ⟨wr.heap.size, 1, none⟩ = some (.int .i64 o.to) := by rw [hW]; simp [go_sem]
            have p2 : cellsAt W wr.heap.size 3 11 = some (bdC o.b) := by rw [hW]; simp [go_sem]
            have p3 : Open W (w.heap.size + 1) := by rw [hW]; exact ((Keeps.refl (S := No) wr).alloc _).opened hop
            have p4 : (rowD W (w.heap.size + 1)).size = 7 := by rw [hW]; exact ((Keeps.refl (S := No) wr).alloc _).rowSize hop hsz
            have p5 : w.heap.size + 1 < W.heap.size := by rw [hW]; simp; omega
            have hK2 := Lib.hid (show Keeps No w W by rw [hW]; exact Hkw.out.alloc _)
            clear hW hop hsz hbx h1 h1' h2 h3 g0 hg hkb hk hlt hlen hv Hkw
            go_wp2
            refine bodyPost_ret (v := .tuple #[toV o.to 7 n (.slice (some ⟨W.heap.size, 0, none⟩) 1 1), .bool true]) ?_ rfl ?_
            · have hc : ∀ o1, cellsAt ((W.setRow (w.heap.size + 1) #[.int .i64 o.to, .int .i64 7, .int .i64 0, .int .i64 n, .slice none 0 0, .slice (some ⟨W.heap.size, 0, none⟩) 1 1, .slice none 0 0]).alloc o1) (w.heap.size + 1) 0 7 = some [.int .i64 o.to, .int .i64 7, .int .i64 0, .int .i64 n, .slice none 0 0, .slice (some ⟨W.heap.size, 0, none⟩) 1 1, .slice none 0 0] := fun o1 => by
                rw [cellsAt_alloc_past _ _ _ _ _ (by simpa using p5), cellsAt_setRow_at _ _ _ _ _ p3]
                rfl
              clear p1 p2 p3 p4 p5 hq hK2
              simp [results, Try.results19, go_sem, hc]
            · refine ⟨hq.out _ _ ?_ (fun k hk => by have hkg : W.heap.size = k := Option.some.inj hk; omega), (hK2.out.row (by omega) _).alloc _⟩
              have hr := rdOne cBd (W.setRow (w.heap.size + 1) #[.int .i64 o.to, .int .i64 7, .int .i64 0, .int .i64 n, .slice none 0 0, .slice (some ⟨W.heap.size, 0, none⟩) 1 1, .slice none 0 0]) 37 o.b
              rw [setRow_size] at hr
              exact hr
        · have hp := hnxt.out (by rw [hpd.out, h1, h2]; rfl)
          have Hp := Lib.hid hp; clear hp
          go_wp2
          go_roundw
          case rel => exact ⟨k + 1, by omega, by go_num, Hp.out, Hkw.out.alloc _, (HO.out _).1, (HO.out _).2⟩
          case measure => simp [intOf]; omega
    · have hpost : Hid (∀ w', TellPost w.heap.size l n (.returned (.tuple #[toV 0 0 0 (.slice none 0 0), .bool false])) w') := fun w' => .inl ⟨firstOf_none _ l (fun j hj => Hno.out j (by omega) hj), rfl⟩
      clear hkw
      go_wp2
      exact bodyPost_ret (v := .tuple #[toV 0 0 0 (.slice none 0 0), .bool false]) (by simp [results, Try.results19, go_sem, *]) rfl ⟨hpost.out _, Hkw.out.row (by omega) _⟩

end
end Go.Proofs.Ytggaeihinheojaa
