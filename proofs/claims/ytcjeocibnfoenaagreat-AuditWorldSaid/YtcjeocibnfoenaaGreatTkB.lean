/-
  awake: the chapter's example. No conditions of its own. AuditWorld: any ticks' commands make of a world what the document says. No conditions of its own.
-/
import Derived.Test.YtcjeocibnfoenaaGreatTjZ
import Derived.Deep.DeepCutAuto
import Derived.Deep.RegionHeld3
import Derived.BigQuiet
import Derived.Deep.CutBlock
namespace Go.Proofs.YtcjeocibnfoenaaGreat
open Go.RowKit Go.Joins Go.Deep Go.Sort Go.Shelf

def bA : Bd := ⟨0, 0, 0, 1, 0, 0, 0, 0, 0, 0, 0⟩
def bB : Bd := ⟨0, 1, 0, 1, 0, 0, 0, 0, 0, 0, 0⟩
def bC : Bd := ⟨0, 2, 0, 1, 0, 0, 0, 0, 0, 0, 0⟩
def oS : Ou := ⟨5, 0, 3, bC⟩
def iS : Inn := ⟨1, 5, bC⟩
abbrev adr (g : Nat) : Option Addr := some ⟨g, 0, none⟩
def sS (rb ru : Nat) : Sd := ⟨adr rb, 1, [bB], adr ru, 1, [oS], none, 0, []⟩
def sX (ga : Nat) : Sd := ⟨adr ga, 1, [bA], none, 0, [], none, 0, []⟩
def sY (ga gi : Nat) : Sd := ⟨adr ga, 1, [bA], none, 0, [], adr gi, 1, [iS]⟩
def dX : List Cl := [⟨0, 0, 0, 0⟩, ⟨0, 1, 0, 1⟩]
def dY : List Cl := [⟨0, 0, 0, 0⟩, ⟨0, 1, 0, 1⟩, ⟨0, 2, 0, 0⟩]
theorem owned_x (ga rb ru : Nat) : (ownedOf [sX ga, sS rb ru] 2).map clOf = dX := by rfl
theorem owned_y (ga gi rb ru : Nat) : (ownedOf [sY ga gi, sS rb ru] 2).map clOf = dY := by rfl
theorem order_x : ∀ j, j + 1 < dX.toArray.size → ltOf ccmp dX.toArray[j + 1]! dX.toArray[j]! = false := fun j hj => by
  have h2 : dX.toArray.size = 2 := rfl
  obtain rfl : j = 0 := by omega
  rfl
theorem order_y : ∀ j, j + 1 < dY.toArray.size → ltOf ccmp dY.toArray[j + 1]! dY.toArray[j]! = false := fun j hj => by
  have h2 : dY.toArray.size = 3 := rfl
  rcases (show j = 0 ∨ j = 1 by omega) with rfl | rfl <;> rfl
theorem rdOne {α : Type} (C : Codec α) {w : World} {g : Nat} {x : α} (h : cellsAt w g 0 C.size = some (C.cells x)) : RdOf C w (.slice (adr g) 1 1) [x] :=
  rdOf_of C (l := [x]) (a := ⟨g, 0, none⟩) (c := 1) (Nat.le_refl _) (by unfold maxLen; omega) (fun i hi j u hu => by
    obtain rfl : i = 0 := by simpa using hi
    have := cellsAt_cell h j u hu
    simpa only [Nat.zero_mul, Nat.zero_add, Addr.add_lit] using this)
theorem rdTwo {α : Type} (C : Codec α) {w : World} {g : Nat} {x y : α} (h : cellsAt w g 0 (2 * C.size) = some (C.cells x ++ C.cells y)) : RdOf C w (.slice (adr g) 2 2) [x, y] :=
  rdOf_of C (l := [x, y]) (a := ⟨g, 0, none⟩) (c := 2) (Nat.le_refl _) (by unfold maxLen; omega) (fun i hi j u hu => by
    have hj : j < C.size := by have := (List.getElem?_eq_some_iff.1 hu).1; rw [C.len] at this; exact this
    rcases (show i = 0 ∨ i = 1 by simp at hi; omega) with rfl | rfl
    · have := cellsAt_cell h j u (by rw [List.getElem?_append_left (by rw [C.len]; exact hj)]; exact hu)
      simpa only [Nat.zero_mul, Nat.zero_add, Addr.add_lit] using this
    · have := cellsAt_cell h (C.size + j) u (by rw [List.getElem?_append_right (by rw [C.len]; omega), C.len, Nat.add_sub_cancel_left]; exact hu)
      simpa only [Nat.one_mul, Nat.zero_add, Addr.add_lit] using this)
/-- what a call of Claims leaves -/
def ClPost (D : List Cl) (w : World) (e : Ending) (w' : World) : Prop := ∃ v, e = .returned v ∧ RdOf cCl w' v D ∧ Keeps No w w'
/-- what the two states of the example need -/
structure ExAt (w : World) (rb ru : Nat) : Prop where
  b : cellsAt w rb 0 11 = some (bdC bB)
  u : cellsAt w ru 0 14 = some (ouC oS)
theorem ExAt.no {w w' : World} {rb ru : Nat} (h : ExAt w rb ru) (k : Keeps No w w') : ExAt w' rb ru := ⟨k.cellsAt h.b, k.cellsAt h.u⟩
theorem ExAt.reads {w : World} {rb ru : Nat} (h : ExAt w rb ru) : SdReads w (sS rb ru) := ⟨rdOne cBd h.b, rdOne cOu h.u, Reads.nil _ _⟩
theorem claims_x (w : World) (ga gl rb ru : Nat) (h : ExAt w rb ru) (ha : cellsAt w ga 0 11 = some [.int .i64 0, .int .i64 0, .int .i64 0, .int .i64 1, .int .i64 0, .int .i64 0, .int .i64 0, .int .i64 0, .int .i64 0, .int .i64 0, .int .i64 0]) (hl : cellsAt w gl 0 16 = some [.int .i64 0, .int .i64 0, .slice (some ⟨ga, 0, none⟩) 1 1, .slice none 0 0, .slice none 0 0, .slice none 0 0, .slice none 0 0, .int .i64 0, .int .i64 0, .int .i64 0, .slice (some ⟨rb, 0, none⟩) 1 1, .slice none 0 0, .slice (some ⟨ru, 0, none⟩) 1 1, .slice none 0 0, .slice none 0 0, .int .i64 0]) :
    Calls Tryz.prog 9 #[.slice (some ⟨gl, 0, none⟩) 2 2] w (ClPost dX w) :=
  claims_any w (adr gl) 2 [sX ga, sS rb ru] (rdTwo cSd hl) (fun s hs => by
    rcases List.mem_cons.1 hs with rfl | hs
    · exact ⟨rdOne cBd ha, Reads.nil _ _, Reads.nil _ _⟩
    · rcases List.mem_cons.1 hs with rfl | hs
      · exact h.reads
      · cases hs) dX (owned_x ga rb ru) (by decide +kernel) (by decide +kernel) order_x
theorem claims_y (w : World) (ga gi gl rb ru : Nat) (h : ExAt w rb ru) (ha : cellsAt w ga 0 11 = some [.int .i64 0, .int .i64 0, .int .i64 0, .int .i64 1, .int .i64 0, .int .i64 0, .int .i64 0, .int .i64 0, .int .i64 0, .int .i64 0, .int .i64 0]) (hi : cellsAt w gi 0 13 = some [.int .i64 1, .int .i64 5, .int .i64 0, .int .i64 2, .int .i64 0, .int .i64 1, .int .i64 0, .int .i64 0, .int .i64 0, .int .i64 0, .int .i64 0, .int .i64 0, .int .i64 0]) (hl : cellsAt w gl 0 16 = some [.int .i64 0, .int .i64 0, .slice (some ⟨ga, 0, none⟩) 1 1, .slice none 0 0, .slice none 0 0, .slice (some ⟨gi, 0, none⟩) 1 1, .slice none 0 0, .int .i64 0, .int .i64 0, .int .i64 0, .slice (some ⟨rb, 0, none⟩) 1 1, .slice none 0 0, .slice (some ⟨ru, 0, none⟩) 1 1, .slice none 0 0, .slice none 0 0, .int .i64 0]) :
    Calls Tryz.prog 9 #[.slice (some ⟨gl, 0, none⟩) 2 2] w (ClPost dY w) :=
  claims_any w (adr gl) 2 [sY ga gi, sS rb ru] (rdTwo cSd hl) (fun s hs => by
    rcases List.mem_cons.1 hs with rfl | hs
    · exact ⟨rdOne cBd ha, Reads.nil _ _, rdOne cIn hi⟩
    · rcases List.mem_cons.1 hs with rfl | hs
      · exact h.reads
      · cases hs) dY (owned_y ga gi rb ru) (by decide +kernel) (by decide +kernel) order_y

theorem claims_x_mono {w : World} {ga gl rb ru : Nat} {R : Ending → World → Prop} (hl : cellsAt w gl 0 16 = some [.int .i64 0, .int .i64 0, .slice (some ⟨ga, 0, none⟩) 1 1, .slice none 0 0, .slice none 0 0, .slice none 0 0, .slice none 0 0, .int .i64 0, .int .i64 0, .int .i64 0, .slice (some ⟨rb, 0, none⟩) 1 1, .slice none 0 0, .slice (some ⟨ru, 0, none⟩) 1 1, .slice none 0 0, .slice none 0 0, .int .i64 0]) (ha : cellsAt w ga 0 11 = some [.int .i64 0, .int .i64 0, .int .i64 0, .int .i64 1, .int .i64 0, .int .i64 0, .int .i64 0, .int .i64 0, .int .i64 0, .int .i64 0, .int .i64 0]) (h : ExAt w rb ru) (hm : ∀ e w', ClPost dX w e w' → R e w') : Calls Tryz.prog 9 #[.slice (some ⟨gl, 0, none⟩) 2 2] w R :=
  Calls.mono (claims_x w ga gl rb ru h ha hl) hm
theorem claims_y_mono {w : World} {ga gi gl rb ru : Nat} {R : Ending → World → Prop} (hl : cellsAt w gl 0 16 = some [.int .i64 0, .int .i64 0, .slice (some ⟨ga, 0, none⟩) 1 1, .slice none 0 0, .slice none 0 0, .slice (some ⟨gi, 0, none⟩) 1 1, .slice none 0 0, .int .i64 0, .int .i64 0, .int .i64 0, .slice (some ⟨rb, 0, none⟩) 1 1, .slice none 0 0, .slice (some ⟨ru, 0, none⟩) 1 1, .slice none 0 0, .slice none 0 0, .int .i64 0]) (ha : cellsAt w ga 0 11 = some [.int .i64 0, .int .i64 0, .int .i64 0, .int .i64 1, .int .i64 0, .int .i64 0, .int .i64 0, .int .i64 0, .int .i64 0, .int .i64 0, .int .i64 0]) (hi : cellsAt w gi 0 13 = some [.int .i64 1, .int .i64 5, .int .i64 0, .int .i64 2, .int .i64 0, .int .i64 1, .int .i64 0, .int .i64 0, .int .i64 0, .int .i64 0, .int .i64 0, .int .i64 0, .int .i64 0]) (h : ExAt w rb ru) (hm : ∀ e w', ClPost dY w e w' → R e w') : Calls Tryz.prog 9 #[.slice (some ⟨gl, 0, none⟩) 2 2] w R :=
  Calls.mono (claims_y w ga gi gl rb ru h ha hi hl) hm
theorem cells_new {w : World} {c : Array Value} {t : TypeId} {g n : Nat} {l : List Value} (hg : g = w.heap.size) (hl : c.toList = l) (hn : c.size = n := by rfl) : cellsAt (w.alloc (.cells c t)) g 0 n = some l := by
  subst hg hl hn
  rw [cellsAt_alloc_at _ _ _ _ _ _ rfl, if_pos (by omega), List.drop_zero, List.take_of_length_le (by simp)]
theorem cells_drew {w : World} {g n : Nat} {l : List Value} (h : cellsAt w g 0 n = some l) : cellsAt w.drew g 0 n = some l := h
theorem cells_past {w : World} {o : Obj} {g n : Nat} {l : List Value} (hg : g < w.heap.size) (h : cellsAt w g 0 n = some l) : cellsAt (w.alloc o) g 0 n = some l := (cellsAt_alloc_past w o g 0 n hg).trans h
/-- both are told -/
def ExCut (w0 : World) (x y : Value) (w' : World) : Prop := RdOf cCl w' x dX ∧ RdOf cCl w' y dY ∧ Keeps No w0 w'
set_option maxRecDepth 100000 in
set_option maxHeartbeats 8000000 in
theorem awake_any (w : World) : Calls Tryz.prog 4 #[] w fun e w' => e = .returned (.bool true) ∧ Keeps No w w' := by
  go_enter Tryz.func4, Tryz.ntmps4
  go_upto_region 3 with fail
  refine wp_world ?_
  intro w2 hw2
  have K2 : Hid (Keeps No w w2) := Lib.hid (by rw [hw2]; (repeat (first | exact Keeps.refl w | refine Keeps.alloc ?_ _)))
  have c1 : cellsAt w2 w.heap.size 0 11 = some (bdC bA) := by rw [hw2]; simp [go_sem, bA]
  have c2 : cellsAt w2 (w.heap.size + 1) 0 11 = some (bdC bB) := by rw [hw2]; simp [go_sem, bB]
  have c3 : cellsAt w2 (w.heap.size + 1 + 1) 0 11 = some (bdC bC) := by rw [hw2]; simp [go_sem, bC]
  have c4 : cellsAt w2 (w.heap.size + 1 + 1 + 1 + 1 + 1) 0 8 = some (sdC (sS (w.heap.size + 1 + 1 + 1) (w.heap.size + 1 + 1 + 1 + 1))) := by rw [hw2]; simp [go_sem, sS]
  have cr : cellsAt w2 (w.heap.size + 1 + 1 + 1) 0 11 = some (bdC bB) := by rw [hw2]; simp [go_sem, bB]
  have cu : cellsAt w2 (w.heap.size + 1 + 1 + 1 + 1) 0 14 = some (ouC oS) := by rw [hw2]; simp [go_sem, oS, bC]
  have HX : Hid (ExAt w2 (w.heap.size + 1 + 1 + 1) (w.heap.size + 1 + 1 + 1 + 1)) := Lib.hid ⟨cr, cu⟩
  clear hw2 cr cu
  obtain ⟨rb, hrb⟩ : ∃ g, g = w.heap.size + 1 + 1 + 1 := ⟨_, rfl⟩
  obtain ⟨ru, hru⟩ : ∃ g, g = w.heap.size + 1 + 1 + 1 + 1 := ⟨_, rfl⟩
  obtain ⟨g4, hg4⟩ : ∃ g, g = w.heap.size + 1 + 1 + 1 + 1 + 1 := ⟨_, rfl⟩
  obtain ⟨g3, hg3⟩ : ∃ g, g = w.heap.size + 1 + 1 := ⟨_, rfl⟩
  obtain ⟨g2, hg2⟩ : ∃ g, g = w.heap.size + 1 := ⟨_, rfl⟩
  obtain ⟨g1, hg1⟩ : ∃ g, g = w.heap.size := ⟨_, rfl⟩
  rw [← hg4] at c4 ⊢
  rw [← hru] at c4 HX ⊢
  rw [← hrb] at c4 HX ⊢
  rw [← hg3] at c3 ⊢
  rw [← hg2] at c2 ⊢
  rw [← hg1] at c1 ⊢
  clear hrb hru hg4 hg3 hg2 hg1
  have C2 := Lib.hid c2
  have C3 := Lib.hid c3
  dsimp only [bdC, bA, bC, sdC, sS, adr, List.length] at c1 c3 c4
  have LA : ∀ w', Keeps No w2 w' → cellsAt w' g1 0 11 = some _ := fun w' h => h.cellsAt c1
  have LC : ∀ w', Keeps No w2 w' → cellsAt w' g3 0 11 = some _ := fun w' h => h.cellsAt c3
  have LS : ∀ w', Keeps No w2 w' → cellsAt w' g4 0 8 = some _ := fun w' h => h.cellsAt c4
  have HEX : Hid (∀ w', Keeps No w2 w' → ExAt w' rb ru) := Lib.hid (fun w' h => HX.out.no h)
  clear c1 c2 c3 c4 HX
  go_cut [5, 6] (ExCut w2)
  case first =>
    go_region_held3 (fun w' => Keeps No w2 w')
      (repeat (first | assumption | exact Keeps.refl w2 | with_reducible refine Keeps.drew ?_ | with_reducible refine Keeps.alloc ?_ _))
      (first
        | (go_at_call 9
           with_reducible apply claims_x_mono
           (repeat (first | ((with_reducible refine cells_new ?_ ?_ ?_); (focus simp); (focus rfl); (focus rfl)) | with_reducible refine cells_past (by first | omega | (simp; done) | (simp; omega)) ?_ | with_reducible refine cells_drew ?_ | with_reducible refine hk5.cellsAt ?_))
           (repeat (first | ((with_reducible refine cells_new ?_ ?_ ?_); (focus simp); (focus rfl); (focus rfl)) | with_reducible refine cells_past (by first | omega | (simp; done) | (simp; omega)) ?_ | with_reducible refine cells_drew ?_ | with_reducible refine hk5.cellsAt ?_))
           exact HEX.out _ (by (repeat (first | assumption | exact Keeps.refl w2 | with_reducible refine Keeps.drew ?_ | with_reducible refine Keeps.alloc ?_ _)))
           rintro e w5 ⟨vx, rfl, hrx, hk5⟩
           have hz5 := hk5.size
           simp at hz5
           have hS5 : Keeps No w2 w5 := Keeps.trans (b := _) (by (repeat (first | assumption | exact Keeps.refl w2 | with_reducible refine Keeps.drew ?_ | with_reducible refine Keeps.alloc ?_ _))) hk5 (fun _ _ h => h))
        | (go_at_call 9
           with_reducible apply claims_y_mono
           (repeat (first | ((with_reducible refine cells_new ?_ ?_ ?_); (focus simp); (focus rfl); (focus rfl)) | with_reducible refine cells_past (by first | omega | (simp; done) | (simp; omega)) ?_ | with_reducible refine cells_drew ?_ | with_reducible refine hk5.cellsAt ?_))
           (repeat (first | ((with_reducible refine cells_new ?_ ?_ ?_); (focus simp); (focus rfl); (focus rfl)) | with_reducible refine cells_past (by first | omega | (simp; done) | (simp; omega)) ?_ | with_reducible refine cells_drew ?_ | with_reducible refine hk5.cellsAt ?_))
           (repeat (first | ((with_reducible refine cells_new ?_ ?_ ?_); (focus simp); (focus rfl); (focus rfl)) | with_reducible refine cells_past (by first | omega | (simp; done) | (simp; omega)) ?_ | with_reducible refine cells_drew ?_ | with_reducible refine hk5.cellsAt ?_))
           exact HEX.out _ (by (repeat (first | assumption | exact Keeps.refl w2 | with_reducible refine Keeps.drew ?_ | with_reducible refine Keeps.alloc ?_ _)))
           rintro e w6 ⟨vy, rfl, hry, hk6⟩
           have hS6 : Keeps No w5 w6 := Keeps.trans (b := _) (by (repeat (first | assumption | exact Keeps.refl w5 | with_reducible refine Keeps.drew ?_ | with_reducible refine Keeps.alloc ?_ _))) hk6 (fun _ _ h => h)
           have hS7 : Keeps No w2 w6 := hS5.trans hS6 (fun _ _ h => h)))
    all_goals go_wp2_with fail
    all_goals go_meet
    all_goals exact ⟨hrx.kept hS6 (fun _ _ h => h), hry, hS5.trans hS6 (fun _ _ h => h)⟩
  case rest =>
    obtain ⟨hx, hy, hk⟩ := hcut
    obtain ⟨wb, hwb⟩ : ∃ x : World, x = wc := ⟨_, rfl⟩
    subst hwb
    obtain ⟨xa, xc, rfl⟩ := hx.slice
    obtain ⟨ya, yc, rfl⟩ := hy.slice
    obtain ⟨gx, ox, rfl, _, _, _⟩ := RdOf.addr cCl hx (by decide)
    obtain ⟨gy, oy, rfl, _, _, _⟩ := RdOf.addr cCl hy (by decide)
    have x0 : cellsAt wb gx (ox + 0 * 4) 4 = some [.int .i64 0, .int .i64 0, .int .i64 0, .int .i64 0] := RdOf.at cCl hx 0 (by decide)
    have x1 : cellsAt wb gx (ox + 1 * 4) 4 = some [.int .i64 0, .int .i64 1, .int .i64 0, .int .i64 1] := RdOf.at cCl hx 1 (by decide)
    have y2 : cellsAt wb gy (oy + 2 * 4) 4 = some [.int .i64 0, .int .i64 2, .int .i64 0, .int .i64 0] := RdOf.at cCl hy 2 (by decide)
    have b3 : cellsAt wb g2 0 3 = some [.int .i64 0, .int .i64 1, .int .i64 0] := cellsAt_part (hk.cellsAt C2.out) 0 [.int .i64 0, .int .i64 1, .int .i64 0] rfl (by simp)
    have c3 : cellsAt wb g3 0 3 = some [.int .i64 0, .int .i64 2, .int .i64 0] := cellsAt_part (hk.cellsAt C3.out) 0 [.int .i64 0, .int .i64 2, .int .i64 0] rfl (by simp)
    have KF : Hid (Keeps No w wb) := Lib.hid (K2.out.trans hk (fun _ _ h => h))
    have ex : (dX.length : Int) = 2 := rfl
    have ey : (dY.length : Int) = 3 := rfl
    have ex' : dX.length = 2 := rfl
    have ey' : dY.length = 3 := rfl
    rw [ex', ey']
    simp only [Nat.zero_mul, Nat.add_zero, Nat.one_mul, Nat.reduceMul] at x0 x1 y2
    clear hx hy hk LA LC LS HEX ex ey ex' ey'
    go_wp2_with fail
    go_quiet (fail)
    go_wp2
    go_ret
    exact ⟨rfl, KF.out.drewN nq⟩
end Go.Proofs.YtcjeocibnfoenaaGreat

namespace Go.Proofs.YtcjeocibnfoenaaGreat.auditWorld
open Go.ChangeShapes Go.WideShapes Go.ChangeAt Go.RowKit Go.Joins Go.Deep

theorem rd_take {w : World} {a : Option Addr} {c : Nat} {T : List Tk} (h : RdOf cTk w (.slice a T.length c) T) (m : Nat) (hm : m ≤ T.length) : RdOf cTk w (.slice a (T.take m).length c) (T.take m) := by
  have h1 := Reads.take h hm
  have h2 : rowsOf cTk (T.take m) = (rowsOf cTk T).take (m * cTk.size) := by
    have h3 : rowsOf cTk T = rowsOf cTk (T.take m) ++ rowsOf cTk (T.drop m) := by rw [← rowsOf_append, List.take_append_drop]
    have h4 : (rowsOf cTk (T.take m)).length = m * cTk.size := by rw [rowsOf_length, List.length_take, Nat.min_eq_left hm]
    rw [h3]
    exact (List.take_left' h4).symm
  unfold RdOf
  rw [h2, List.length_take, Nat.min_eq_left hm]
  exact h1
/-- at most thirty ticks are left -/
def TkCut (w0 : World) (z : Zf) (g : Nat) (a : Option Addr) (c : Nat) (v : Value) (w' : World) : Prop :=
  ∃ T : List Tk, v = .slice a T.length c ∧ T.length ≤ 30 ∧ RdOf cTk w' (.slice a T.length c) T ∧ TksRead w' T ∧ Keeps No w0 w' ∧ cellsAt w' g 0 7 = some (zfC z)

set_option maxRecDepth 100000 in
set_option maxHeartbeats 8000000 in
theorem walk (w : World) (z : Zf) (ta : Option Addr) (tc : Nat) (T : List Tk) (hT : RdOf cTk w (.slice ta T.length tc) T) (hr : TksRead w T) :
    Calls Tryz.prog 3 #[zfV z, .slice ta T.length tc] w fun e w' => e = .returned (.bool true) ∧ Keeps No w w' := by
  have HT := Lib.hid hT
  have HR := Lib.hid hr
  have HAW := Lib.hid (fun W => awake_any W)
  have HCH := Lib.hid (fun W => rcheck_any W z)
  have hmax : (T.length : Int) ≤ 9223372036854775807 := by have := hT.len; unfold maxLen at this; omega
  clear hT hr
  go_enter Tryz.func3, Tryz.ntmps3
  go_upto_if 10 with fail
  have K1 : Hid (Keeps No w (w.alloc (.cells #[.int .i64 z.c, .int .i64 z.r, .int .i64 z.s, .int .i64 z.u, .int .i64 z.v, .int .i64 z.i, .int .i64 z.q] 23))) := Lib.hid ((Keeps.refl w).alloc _)
  have M1 : Hid (cellsAt (w.alloc (.cells #[.int .i64 z.c, .int .i64 z.r, .int .i64 z.s, .int .i64 z.u, .int .i64 z.v, .int .i64 z.i, .int .i64 z.q] 23)) w.heap.size 0 7 = some (zfC z)) := Lib.hid (by simp [go_sem, zfC])
  obtain ⟨gz, hgz⟩ : ∃ g, g = w.heap.size := ⟨_, rfl⟩
  obtain ⟨w1, hw1⟩ : ∃ x, x = (w.alloc (.cells #[.int .i64 z.c, .int .i64 z.r, .int .i64 z.s, .int .i64 z.u, .int .i64 z.v, .int .i64 z.i, .int .i64 z.q] 23)) := ⟨_, rfl⟩
  rw [← hgz] at M1 ⊢
  rw [← hw1] at M1 K1 ⊢
  clear hgz hw1
  go_cut [1, 11, 12] (fun v _ _ w' => TkCut w z gz ta tc v w')
  case first =>
    by_cases h30 : 30 < T.length
    · have h30i : (30 : Int) < (T.length : Int) := by omega
      have hrr : RdOf cTk w1 (.slice ta T.length tc) T := HT.out.kept K1.out (fun _ _ h => h)
      obtain ⟨gt, off, rfl, hc1, hc2, _⟩ := RdOf.addr cTk hrr (by omega)
      have h30c : (30 : Int) ≤ (tc : Int) := by omega
      have FIN : Hid (TkCut w z gz (some ⟨gt, off, none⟩) tc (.slice (some ⟨gt, off, none⟩) 30 tc) w1) := Lib.hid ⟨T.take 30, by rw [List.length_take, Nat.min_eq_left (by omega)], by rw [List.length_take]; omega, rd_take hrr 30 (by omega), ⟨fun t ht => (HR.out.no K1.out).r t (List.mem_of_mem_take ht), fun t ht => HR.out.ok t (List.mem_of_mem_take ht)⟩, K1.out, M1.out⟩
      clear hrr
      go_wp2
      go_meet
      exact FIN.out
    · have h30i : ¬ ((30 : Int) < (T.length : Int)) := by omega
      have FIN : Hid (TkCut w z gz ta tc (.slice ta T.length tc) w1) := Lib.hid ⟨T, rfl, by omega, HT.out.kept K1.out (fun _ _ h => h), HR.out.no K1.out, K1.out, M1.out⟩
      go_wp2
      go_meet
      exact FIN.out
  case rest =>
    obtain ⟨T', rfl, hn, hT', hr', hk', hz'⟩ := hcut
    obtain ⟨wb, hwb⟩ : ∃ x : World, x = wc := ⟨_, rfl⟩
    subst hwb
    have HN := Lib.hid hn
    have RT := Lib.hid hT'
    have RR := Lib.hid hr'
    have KB := Lib.hid hk'
    have MZ := Lib.hid hz'
    have hni : (T'.length : Int) ≤ 30 := by omega
    clear hn hT' hr' hk' hz' HT HR K1 M1 hmax
    go_wp2_with fail
    go_loopw [5] (fun q wr => ∃ k : Nat, k ≤ T'.length ∧ q = .int .i64 k ∧ (∀ t ∈ T'.take k, t.cs.length ≤ 30) ∧ Keeps No wb wr) (fun q _ => T'.length - (intOf q).toNat)
    case atStart => exact ⟨0, Nat.zero_le _, rfl, fun t ht => by simp at ht, Keeps.refl _⟩
    case round =>
      obtain ⟨k, hkl, rfl, hall, hK⟩ := hrel
      obtain ⟨wo, hwo⟩ : ∃ x : World, x = wr := ⟨_, rfl⟩
      subst hwo
      have K := Lib.hid hK
      have HA := Lib.hid hall
      have KF := Lib.hid (KB.out.trans hK (fun _ _ h => h))
      have hk0 : (0 : Int) ≤ (k : Int) := by omega
      clear hK hall
      by_cases hlt : k < T'.length
      · have hlti : (k : Int) < (T'.length : Int) := by omega
        have hrr : RdOf cTk wo (.slice ta T'.length tc) T' := RT.out.kept K.out (fun _ _ h => h)
        obtain ⟨gt, off, rfl, _, _, _⟩ := RdOf.addr cTk hrr (by omega)
        have c1 := RdOf.at cTk hrr k hlt
        have HTK := Lib.hid (List.take_succ_eq_append_getElem hlt)
        obtain ⟨t, ht⟩ : ∃ t, t = T'[k] := ⟨_, rfl⟩
        rw [← ht] at c1 HTK
        have t0 := cellsAt_cell c1 0 _ rfl
        have t1 : wo.cell? ⟨gt, off + k, none⟩ = some (.slice t.a t.cs.length t.c) := by
          have e : off + k * cTk.size + 0 = off + k := by show off + k * 1 + 0 = _; omega
          rw [e] at t0
          exact t0
        clear c1 t0 ht hrr
        by_cases h30 : 30 < t.cs.length
        · have h30i : (30 : Int) < (t.cs.length : Int) := by omega
          go_wp2_with fail
          refine (HAW.out _).mono ?_
          rintro e w5 ⟨rfl, hk5⟩
          have KE : Hid (Keeps No w w5) := Lib.hid (KF.out.trans hk5 (fun _ _ h => h))
          clear hk5 t1
          go_wp2
          exact bodyPost_ret (v := .bool true) (by simp [results, Tryz.results3, go_sem]) rfl ⟨rfl, KE.out⟩
        · have h30i : ¬ ((30 : Int) < (t.cs.length : Int)) := by omega
          have HA2 : Hid (∀ t ∈ T'.take (k + 1), t.cs.length ≤ 30) := Lib.hid (by
            rw [HTK.out]
            intro u hu
            rcases List.mem_append.1 hu with h | h
            · exact HA.out u h
            · obtain rfl : u = t := by simpa using h
              omega)
          go_wp2
          go_roundw
          case rel => exact ⟨k + 1, by omega, by go_num, HA2.out, K.out⟩
          case measure => simp [intOf]; omega
      · have hlti : ¬ ((k : Int) < (T'.length : Int)) := by omega
        have HA2 : Hid (∀ t ∈ T', t.cs.length ≤ 30) := Lib.hid (by have h := HA.out; rwa [List.take_of_length_le (by omega)] at h)
        have cz := K.out.cellsAt MZ.out
        have RTo := Lib.hid (RT.out.kept K.out (fun _ _ h => h))
        have RRo := Lib.hid (RR.out.no K.out)
        clear RT RR K KB MZ HA
        cases hz : zfOk z
        · have HNO := Lib.hid (fun W => aworld_no W z hz (.slice ta T'.length tc) ta T'.length tc rfl)
          rw [hz] at HCH
          clear hz
          go_wp2_with fail
          refine (HNO.out _).mono ?_
          rintro e w5 ⟨rfl, hk5⟩
          have c5 := hk5.cellsAt cz
          have K5 := Lib.hid (KF.out.trans hk5 (fun _ _ h => h))
          clear hk5 cz
          go_wp2_with fail
          refine (HCH.out _).mono ?_
          rintro e w6 ⟨rfl, hg6⟩
          have K6 := Lib.hid (K5.out.trans hg6.keeps (fun _ _ h => h))
          clear hg6 c5
          simp only [cond_false]
          go_wp2_with fail
          refine (HAW.out _).mono ?_
          rintro e w7 ⟨rfl, hk7⟩
          have K7 := Lib.hid (K6.out.trans hk7 (fun _ _ h => h))
          clear hk7
          go_wp2
          exact bodyPost_ret (v := .bool true) (by simp [results, Tryz.results3, go_sem]) rfl ⟨rfl, K7.out⟩
        · have HW1 := Lib.hid (aworld_any wo z hz ta tc T' RTo.out RRo.out HN.out HA2.out)
          have HW2 : Hid (∀ W, Keeps No wo W → Calls Tryz.prog 8 #[zfV z, .slice ta T'.length tc] W (RWorldPost W (worldL z T'))) := Lib.hid (fun W k => rworld_any W z (zfOk_ok hz) ta tc T' (RTo.out.kept k (fun _ _ h => h)) (RRo.out.no k) HN.out HA2.out)
          have HLW : Hid ((worldL z T').length ≤ 1000) := Lib.hid (by
            have h := (worldL_good (zfOk_ok hz) RRo.out.ok HA2.out T'.length (Nat.le_refl _)).1
            rw [List.take_of_length_le (Nat.le_refl _)] at h
            have := HN.out
            omega)
          rw [hz] at HCH
          obtain ⟨lw, hlw⟩ : ∃ l, l = worldL z T' := ⟨_, rfl⟩
          rw [← hlw] at HW1 HW2 HLW
          clear hz hlw
          go_wp2_with fail
          refine HW1.out.mono ?_
          rintro e w5 ⟨ov, rfl, hov, hk5⟩
          obtain ⟨oa, oc, rfl⟩ := hov.slice
          have O5 := Lib.hid hov
          have c5 := hk5.cellsAt cz
          have KO5 := Lib.hid hk5
          have K5 := Lib.hid (KF.out.trans hk5 (fun _ _ h => h))
          clear hk5 cz hov HW1
          go_wp2_with fail
          refine (HCH.out _).mono ?_
          rintro e w6 ⟨rfl, hg6⟩
          have c6 := hg6.keeps.cellsAt c5
          have O6 := Lib.hid (O5.out.kept hg6.keeps (fun _ _ h => h))
          have KO6 := Lib.hid (KO5.out.trans hg6.keeps (fun _ _ h => h))
          have K6 := Lib.hid (K5.out.trans hg6.keeps (fun _ _ h => h))
          clear hg6 c5
          simp only [cond_true]
          go_wp2_with fail
          refine (HW2.out _ KO6.out).mono ?_
          rintro e w7 ⟨rv, rfl, hrv, hk7⟩
          obtain ⟨ra, rc, rfl⟩ := hrv.slice
          have O7 := Lib.hid (O6.out.kept hk7 (fun _ _ h => h))
          have R7 := Lib.hid hrv
          have K7 := Lib.hid (K6.out.trans hk7 (fun _ _ h => h))
          clear hk7 hrv c6 HW2
          go_wp2_with fail
          refine (rsame_any _ _ _ lw O7.out R7.out HLW.out).mono ?_
          rintro e w8 ⟨rfl, hg8⟩
          have K8 := Lib.hid (K7.out.trans hg8.keeps (fun _ _ h => h))
          clear hg8
          go_wp2_with fail
          refine (HAW.out _).mono ?_
          rintro e w9 ⟨rfl, hk9⟩
          have K9 := Lib.hid (K8.out.trans hk9 (fun _ _ h => h))
          clear hk9
          go_wp2
          exact bodyPost_ret (v := .bool true) (by simp [results, Tryz.results3, go_sem]) rfl ⟨rfl, K9.out⟩

set_option maxRecDepth 100000 in
theorem lifted (os : Os) (started : os.Started) (H : Type) (enc : TypeId × Value → H) :
    ReturnsInHanded {} Tryz.checked os 3 .any (Rows.auditWorldSpec.pre6 enc Tryz.prog Tryz.f3 Rows.auditWorldRow.domain false) (Rows.auditWorldSpec.post enc Tryz.prog Tryz.f3 false true false false) := by
  refine law_lifted os started H enc (by kernel_rfl) Tryz.func3
    (ChangeSpec.witness6 (enc := enc) (C := Tryz.checked) false ⟨#[], #[.agg #[.int .i64 0, .int .i64 0, .int .i64 0, .int .i64 0, .int .i64 0, .int .i64 0, .int .i64 0], .slice none 0 0], []⟩ 8 (by kernel_rfl) (by kernel_rfl) (by kernel_rfl) (by kernel_rfl))
    (by decide +kernel) rfl Tryz.underlying4 rfl (fun ds h => by match ds, h with | [d1, d2], _ => rfl) ?_
  intro W base args ds p hval hA
  rw [Tryz.params3] at hA hval
  obtain ⟨v0, v1, d0, d1, p0, p1, rfl, rfl, rfl, h0, h1⟩ := trodAll_two hA
  obtain ⟨z, rfl⟩ := open_zf (hval 0 23 v0 rfl rfl) h0
  obtain ⟨T, hT, hr⟩ := open_tks (hval 1 24 v1 rfl rfl) h1
  obtain ⟨ta, tc, rfl⟩ := hT.slice
  exact walk W z ta tc T hT hr

theorem holds : Rows.AuditWorldSaid :=
  OpenClaim.holds_of_wide 3 Tryz.f3 rfl rfl rfl rfl rfl rfl rfl ⟨rfl, rfl, rfl, rfl, rfl⟩ rfl rfl rfl rfl rfl (by kernel_rfl) Tryz.func3 (by kernel_rfl)
    (of_decide_eq_true (by kernel_rfl)) (by unfold Func.isWrapper; first | (rw [if_pos (by decide +kernel)]; kernel_rfl) | (rw [if_neg (by decide +kernel)]; exact ⟨rfl, rfl⟩))
    (fun os started H enc _ => lifted os started H enc)
end Go.Proofs.YtcjeocibnfoenaaGreat.auditWorld
