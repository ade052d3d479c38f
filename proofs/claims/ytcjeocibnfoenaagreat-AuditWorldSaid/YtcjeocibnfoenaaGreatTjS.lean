/-
  The document's tick: Run over a whole world. No conditions of its own.
-/
import Derived.Test.YtcjeocibnfoenaaGreatTjR
namespace Go.Proofs.YtcjeocibnfoenaaGreat
open Go.RowKit Go.Joins Go.Deep Go.Sort

theorem OpenT.row {w : World} {b : Nat} {t : TypeId} (h : OpenT w b t) (g : Nat) (C : Array Value) : OpenT (w.setRow g C) b t := by
  obtain ⟨D, hc⟩ := h
  by_cases hb : b = g
  · subst hb
    exact ⟨_, setRow_heap w b D C t (0, 0) hc⟩
  · exact ⟨D, by rw [setRow_other w g b C hb]; exact hc⟩
theorem openT_new (w : World) (C : Array Value) (t : TypeId) (n : Nat) (hn : n = w.heap.size) : OpenT (w.alloc (.cells C t)) n t := by
  subst hn
  exact ⟨C, by unfold World.alloc; simp⟩
theorem rd_keep {α : Type} {C : Codec α} {w w' : World} {S : Nat → Prop} {v : Value} {l : List α} (h : RdOf C w v l) (k : Keeps S w w') (hn : l ≠ [] → ∀ i, v.ownBlock = some i → ¬ S i) : RdOf C w' v l := by
  cases l with
  | nil =>
    refine ⟨by simp [rowsOf], (fun u hu => by simp [rowsOf] at hu), ?_⟩
    rcases h.shape with h1 | ⟨a, c, h1, h2, h3, _⟩
    · exact .inl h1
    · exact .inr ⟨a, c, h1, h2, h3, fun j u hu => by simp [rowsOf] at hu⟩
  | cons a l => exact h.kept k (hn (by simp))
/-- a row of entities is no block of slices -/
theorem rd_ne {w : World} {v : Value} {l : List Bd} {g : Nat} {a1 a2 a3 : Option Addr} {n1 n2 n3 c1 c2 c3 : Nat} (h : RdOf cBd w v l) (hl : l ≠ []) (hc : cellsAt w g 0 3 = some [.slice a1 n1 c1, .slice a2 n2 c2, .slice a3 n3 c3]) (hs : (rowD w g).size = 3) : ∀ i, v.ownBlock = some i → ¬ Own g i := by
  intro i hi e
  have e : i = g := e
  subst e
  have h0 : 0 < l.length := List.length_pos_iff.2 hl
  obtain ⟨va, vc, rfl⟩ := h.slice
  obtain ⟨b, off, rfl, _, _, _⟩ := RdOf.addr cBd h h0
  cases hi
  have c := RdOf.at cBd h 0 h0
  have x0 := cellsAt_cell c 0 _ rfl
  try simp only [Nat.zero_mul, Nat.add_zero] at x0
  unfold rowD at hs
  unfold World.cell? at x0
  split at x0
  · rename_i C ty fr hh
    rw [hh] at hs
    simp only at hs
    have hoff : off < 3 := by
      have := (Array.getElem?_eq_some_iff.1 (by simpa using x0)).1
      omega
    have y0 := cellsAt_cell hc 0 _ rfl
    have y1 := cellsAt_cell hc 1 _ rfl
    have y2 := cellsAt_cell hc 2 _ rfl
    unfold World.cell? at y0 y1 y2
    rw [hh] at y0 y1 y2
    have ho : off = 0 ∨ off = 1 ∨ off = 2 := by omega
    rcases ho with rfl | rfl | rfl
    · simp at x0 y0; rw [x0] at y0; cases y0
    · simp at x0 y1; rw [x0] at y1; cases y1
    · simp at x0 y2; rw [x0] at y2; cases y2
  · cases x0
/-- within the document's tick -/
structure RR (w wr : World) (gz gr gd : Nat) (z : Zf) (ov dv : Value) (dead : List Nam) : Prop where
  cz : cellsAt wr gz 0 7 = some (zfC z)
  cd : cellsAt wr gd 0 3 = some [ov, .slice none 0 0, dv]
  td : OpenT wr gd 60
  sd : (rowD wr gd).size = 3
  op : Open wr gr
  sr : (rowD wr gr).size = 3
  k : Keeps No w wr
  d : DeadRow wr w.heap.size dv dead
  n1 : w.heap.size ≤ gz
  n2 : gz < gr
  n3 : gr < gd
theorem RR.no {w wr w' : World} {gz gr gd : Nat} {z : Zf} {ov dv : Value} {dead : List Nam} (h : RR w wr gz gr gd z ov dv dead) (k : Keeps No wr w') : RR w w' gz gr gd z ov dv dead :=
  ⟨k.cellsAt h.cz, k.cellsAt h.cd, h.td.no k, k.rowSize h.td.open h.sd, k.opened h.op, k.rowSize h.op h.sr, h.k.trans k (fun _ _ h => h), h.d.no k, h.n1, h.n2, h.n3⟩
theorem RR.lt {w wr : World} {gz gr gd : Nat} {z : Zf} {ov dv : Value} {dead : List Nam} (h : RR w wr gz gr gd z ov dv dead) : gd < wr.heap.size := h.td.open.lt
/-- other names are no more -/
theorem RR.die {w wr : World} {gz gr gd : Nat} {z : Zf} {ov dv dv' : Value} {dead dead' : List Nam} (h : RR w wr gz gr gd z ov dv dead) (hd : DeadRow wr w.heap.size dv' dead') : RR w (wr.setCell ⟨gd, 2, none⟩ dv') gz gr gd z ov dv' dead' := by
  have h1 := h.n1
  have h2 := h.n2
  have h3 := h.n3
  have hne := hd.ne h.td (by omega) (by decide)
  have ks := keeps_set (W := wr) gd 2 dv'
  have og : ∀ i, dv'.ownBlock = some i → ¬ Own gd i := fun i hi e => by
    have e : i = gd := e
    rw [e] at hi
    exact hne hi
  exact ⟨keepsS_cells ks (fun e => by have e : gz = gd := e; omega) h.cz, cells_setN 2 _ h.cd rfl, h.td.set _ _ _, by rw [rowD_setCell_at]; simpa using h.sd, keepsS_open ks (fun e => by have e : gr = gd := e; omega) h.op,
    keepsS_row ks (fun e => by have e : gr = gd := e; omega) h.op h.sr, h.k.cellNew (by omega) _, hd.keep ks og, h1, h2, h3⟩
/-- beside a row of entities that has been appended to -/
theorem RR.beside {w wr w' : World} {gz gr gd b : Nat} {z : Zf} {ov dv o : Value} {dead : List Nam} {L : List Bd} (h : RR w wr gz gr gd z ov dv dead) (ho : OwnOf cBd 38 wr b o L) (hb : gd < b ∧ w.heap.size ≤ b) (k : Keeps (Of o) wr w') : RR w w' gz gr gd z ov dv dead := by
  have h1 := h.n1
  have h2 := h.n2
  have h3 := h.n3
  have hn : ∀ i, i ≤ gd → ¬ Of o i := fun i hi e => by have := (ho.lt i e).1; omega
  refine ⟨keepsS_cells k (hn _ (by omega)) h.cz, keepsS_cells k (hn _ (Nat.le_refl _)) h.cd, ?_, keepsS_row k (hn _ (Nat.le_refl _)) h.td.open h.sd, keepsS_open k (hn _ (by omega)) h.op, keepsS_row k (hn _ (by omega)) h.op h.sr, h.k.trans k (fun i hi e => hn i (by omega) e), h.d.beside ho hb.2 k, h1, h2, h3⟩
  obtain ⟨C, hc⟩ := h.td
  exact ⟨C, k.heap hc (hn _ (Nat.le_refl _))⟩
/-- those who stay, in their place -/
theorem RR.put {w wr w' : World} {gz gr gd b : Nat} {z : Zf} {ov dv v' : Value} {dead : List Nam} {L L' : List Bd} (h : RR w wr gz gr gd z ov dv dead) (ho : OwnOf cBd 38 wr b ov L) (hb : gd < b ∧ w.heap.size ≤ b) (k : Keeps (Of ov) wr w') (ho' : OwnOf cBd 38 w' b v' L') :
    RR w (w'.setCell ⟨gd, 0, none⟩ v') gz gr gd z v' dv dead ∧ OwnOf cBd 38 (w'.setCell ⟨gd, 0, none⟩ v') b v' L' ∧ Keeps (fun i => i = gd ∨ Of ov i) wr (w'.setCell ⟨gd, 0, none⟩ v') := by
  have hs := h.beside ho hb k
  have h1 := h.n1
  have h2 := h.n2
  have h3 := h.n3
  have ks := keeps_set (W := w') gd 0 v'
  have dn := hs.d.ne hs.td (by omega) (by decide)
  have dgi : ∀ i, dv.ownBlock = some i → ¬ Own gd i := fun i hi e => by
    have e : i = gd := e
    rw [e] at hi
    exact dn hi
  have og : ∀ i, v'.ownBlock = some i → ¬ Own gd i := fun i hi e => by
    have e : i = gd := e
    have := (ho'.lt i hi).1
    omega
  exact ⟨⟨keepsS_cells ks (fun e => by have e : gz = gd := e; omega) hs.cz, cells_setN 0 _ hs.cd rfl, hs.td.set _ _ _, by rw [rowD_setCell_at]; simpa using hs.sd, keepsS_open ks (fun e => by have e : gr = gd := e; omega) hs.op,
    keepsS_row ks (fun e => by have e : gr = gd := e; omega) hs.op hs.sr, hs.k.cellNew (by omega) _, hs.d.keep ks dgi, h1, h2, h3⟩, ks.owns ho' og, (k.mono (fun _ _ e => .inr e)).trans ks (fun _ _ e => .inl e)⟩
/-- what the document's tick leaves -/
def RRunPost (w : World) (l : List Bd) (e : Ending) (w' : World) : Prop := ∃ (ov : Value) (da : Option Addr) (dn dc : Nat), e = .returned (.agg #[ov, .slice none 0 0, .slice da dn dc]) ∧ RdOf cBd w' ov l ∧ Keeps No w w'

set_option maxRecDepth 100000 in
set_option maxHeartbeats 16000000 in
theorem rrun_any (w : World) (z : Zf) (hz : z.ok) (v cv : Value) (l : List Bd) (cs : List Cm) (hv : RdOf cBd w v l) (hcv : RdOf cCm w cv cs) (hs : SortedB l) (hl : l.length + cs.length ≤ 1000) (hok : ∀ b ∈ l, b.ok) (hco : ∀ c ∈ cs, c.ok) :
    Calls Tryz.prog 13 #[zfV z, .int .i64 (-1), v, .slice none 0 0, cv] w (RRunPost w (runL z l cs)) := by
  obtain ⟨i0, hi, hz0, hz1, hz2⟩ := info_parts Tryz.infoBd
  obtain ⟨ca, cc, rfl⟩ := hcv.slice
  obtain ⟨va, vc, rfl⟩ := hv.slice
  have NN : 1 ≤ z.c * z.r ∧ z.c * z.r ≤ 16 := by
    have c1 := hz.c1
    have c2 := hz.c2
    have r1 := hz.r1
    have r2 := hz.r2
    have hc : z.c = 1 ∨ z.c = 2 ∨ z.c = 3 ∨ z.c = 4 := by omega
    rcases hc with hc | hc | hc | hc <;> rw [hc] <;> omega
  obtain ⟨N, hN⟩ : ∃ N, z.c * z.r = N := ⟨_, rfl⟩
  rw [hN] at NN
  have wN : IntKind.i64.wrap (z.c * z.r) = N := by rw [hN, IntKind.wrap_i64]; omega
  have hN1 : ¬ ((-1 : Int) ≥ N) := by omega
  have hN2 : (-1 : Int) < N := by omega
  have HZ := Lib.hid hz
  have HV := Lib.hid hv
  have HCV := Lib.hid hcv
  have HSS := Lib.hid hs
  have HL := Lib.hid hl
  have HOK := Lib.hid hok
  have HCO := Lib.hid hco
  have hni : (cs.length : Int) ≤ 1000 := by omega
  have hnl : (l.length : Int) ≤ 1000 := by omega
  have mx := mixed
  clear NN hN hz hv hcv hs hl hok hco
  go_enter Tryz.func13, Tryz.ntmps13
  go_upto_region 2 with fail
  refine wp_world ?_
  intro W hW
  have R0 : Hid (RR w W w.heap.size (w.heap.size + 1) (w.heap.size + 2) z (.slice none 0 0) (.slice none 0 0) []) := Lib.hid (by
    rw [hW]
    refine ⟨by simp [go_sem], by simp [go_sem], openT_new _ _ _ _ (by simp), by simp [go_sem], by simp [go_sem], by simp [go_sem], (((Keeps.refl w).alloc _).alloc _).alloc _, ⟨Reads.nil _ _, .inl (fun i hi => by cases hi)⟩, Nat.le_refl _, by omega, by omega⟩)
  obtain ⟨gz, hgz⟩ : ∃ g, g = w.heap.size := ⟨_, rfl⟩
  obtain ⟨gr, hgr⟩ : ∃ g, g = w.heap.size + 1 := ⟨_, rfl⟩
  obtain ⟨gd, hgd⟩ : ∃ g, g = w.heap.size + 2 := ⟨_, rfl⟩
  have hgd' : w.heap.size + 1 + 1 = gd := hgd.symm
  rw [← hgd, ← hgr, ← hgz] at R0
  try rw [hgd']
  try rw [← hgd]
  rw [← hgr]
  rw [← hgz]
  clear hW hgz hgr hgd hgd'
  have z0 := cellsAt_cell R0.out.cz 0 _ rfl
  have z1 := cellsAt_cell R0.out.cz 1 _ rfl
  have z3 := cellsAt_cell R0.out.cz 3 _ rfl
  simp only [Nat.zero_add] at z0 z1 z3
  go_wp2_with fail
  refine (rhits_any W _ l (HV.out.kept R0.out.k (fun _ _ h => h)) HSS.out (by have := HL.out; omega) HOK.out z.u).mono ?_
  rintro e w1 ⟨hv, rfl, ho, hk⟩
  have R1 := Lib.hid (R0.out.no hk)
  have HHL := Lib.hid (hitsOf_len z.u l l)
  obtain ⟨hs, hhs⟩ : ∃ x, x = hitsOf z.u l l := ⟨_, rfl⟩
  rw [← hhs] at ho HHL
  have HH := Lib.hid hhs
  have HO1 := Lib.hid ho
  obtain ⟨ha, hc, rfl⟩ := ownsRow_slice ho
  clear ho hk z0 z1 z3 hhs hN1 hN2 wN
  go_wp2_with fail
  refine (rsorted_any w1 _ l (HV.out.kept R1.out.k (fun _ _ h => h)) HSS.out (by have := HL.out; omega)).mono ?_
  rintro e w2 ⟨sv, rfl, ho, hk⟩
  have R2 := Lib.hid (R1.out.no hk)
  have SO := Lib.hid ho
  obtain ⟨sa, sc, rfl⟩ := ownsRow_slice ho
  have HO2 : Hid (OwnOf cHt 84 w2 W.heap.size (.slice ha hs.length hc) hs) := Lib.hid (hk.owns HO1.out (fun _ _ h => h))
  have NH : Hid (∀ i, (Value.slice ha hs.length hc).ownBlock = some i → ¬ Own gd i) := Lib.hid (fun i hi e => by
    have e : i = gd := e
    have := (HO1.out.lt i hi).1
    have := R0.out.lt
    omega)
  have NS : Hid (∀ i, (Value.slice sa l.length sc).ownBlock = some i → ¬ Own gd i) := Lib.hid (fun i hi e => by
    have e : i = gd := e
    have := (SO.out.lt i hi).1
    have := R1.out.lt
    omega)
  have LE2 : Hid (gd < w2.heap.size ∧ w.heap.size ≤ w2.heap.size) := Lib.hid ⟨R2.out.lt, R2.out.k.size⟩
  have NGO : Hid (∀ {wq : World} {v : Value} {L : List Bd}, OwnOf cBd 38 wq w2.heap.size v L → ∀ i, v.ownBlock = some i → ¬ Own gd i) := Lib.hid (fun h i hi e => by
    have e : i = gd := e
    have := (h.lt i hi).1
    have := LE2.out.1
    omega)
  clear ho hk
  go_wp2_with fail
  go_loopw [14, 15] (fun o q wr => ∃ (k : Nat) (dv : Value) (dead : List Nam), k ≤ l.length ∧ q = .int .i64 k ∧ OwnOf cBd 38 wr w2.heap.size o (leftOf (hitF hs) (l.take k)) ∧ RR w wr gz gr gd z (.slice none 0 0) dv dead ∧ dead.length ≤ (goneOf (hitF hs) (l.take k)).length ∧ Keeps (Own gd) w2 wr) (fun _ q _ => l.length - (intOf q).toNat)
  case atStart => exact ⟨0, _, [], Nat.zero_le _, rfl, World.ownsRow_nil _ _ _ _, R2.out, Nat.zero_le _, Keeps.refl _⟩
  case round =>
    obtain ⟨k, dv, dead, hkl, rfl, hO, hR, hN, hK⟩ := hrel
    obtain ⟨wo, hwo⟩ : ∃ x : World, x = wr := ⟨_, rfl⟩
    subst hwo
    have K := Lib.hid hK
    have O := Lib.hid hO
    have R := Lib.hid hR
    have N := Lib.hid hN
    have hk0' : (0 : Int) ≤ (k : Int) := by omega
    obtain ⟨oa, oc, rfl⟩ := ownsRow_slice hO
    obtain ⟨ea, ec, rfl⟩ := hR.d.r.slice
    clear hO hR hN
    by_cases hlt : k < l.length
    · have hlti : (k : Int) < (l.length : Int) := by omega
      have hrr : RdOf cBd wo (.slice sa l.length sc) l := (OwnOf.reads SO.out).kept hK NS.out
      obtain ⟨gl, off, rfl, _, _, _⟩ := RdOf.addr cBd hrr (by omega)
      have c11 := RdOf.at cBd hrr k hlt
      have HBK : Hid (l[k].ok) := Lib.hid (HOK.out _ (List.getElem_mem hlt))
      have HS1 := Lib.hid (leftOf_succ (hitF hs) l k hlt)
      have HS2 := Lib.hid (goneOf_succ (hitF hs) l k hlt)
      obtain ⟨b, hb⟩ : ∃ b, b = l[k] := ⟨_, rfl⟩
      rw [← hb] at HS1 HS2 HBK
      have c12 : cellsAt wo gl (off + k * 11) 11 = some (bdC b) := by rw [hb]; exact c11
      have c13 : cellsAt wo gl (off + k * 11) 3 = some [.int .i64 b.s, .int .i64 b.i, .int .i64 b.g] := cellsAt_part c12 0 [.int .i64 b.s, .int .i64 b.i, .int .i64 b.g] rfl (by simp)
      have C13 := Lib.hid c13
      have LC1 : ∀ w', Keeps No wo w' → cellsAt w' gl (off + k * 11) 11 = some (bdC b) := fun w' h => h.cellsAt c12
      have LC2 : ∀ w', Keeps No wo w' → cellsAt w' gl (off + k * 11) 3 = some [.int .i64 b.s, .int .i64 b.i, .int .i64 b.g] := fun w' h => h.cellsAt c13
      have HH3 : Hid (∀ w', Keeps No wo w' → Calls Tryz.prog 37 #[.slice ha hs.length hc, namV b.id] w' fun e w'' => e = .returned (.int .i64 (hitN hs b.id)) ∧ Grown w' w'') := Lib.hid (fun w' h => rhit_any w' _ hs (((OwnOf.reads HO2.out).kept K.out NH.out).kept h (fun _ _ h => h)) (by have := HHL.out; have := HL.out; omega) b.id)
      obtain ⟨n, hn⟩ : ∃ n, n = hitN hs b.id := ⟨_, rfl⟩
      have HU := Lib.hid (fun W => rhurt_any W b HBK.out.m HBK.out.hp n)
      have eF : hurtB b n = hitF hs b := by rw [hitF_is, hn]
      rw [eF] at HU
      rw [← hn] at HH3
      obtain ⟨x, hx⟩ : ∃ x, x = (hitF hs b).1 := ⟨_, rfl⟩
      obtain ⟨ok, hok⟩ : ∃ x, x = (hitF hs b).2 := ⟨_, rfl⟩
      rw [← hx, ← hok] at HU HS1
      rw [← hok] at HS2
      have LB : Hid (∀ (u : World) (z : Array Value), z.size = 11 → Open (u.alloc (.cells z 38)) u.heap.size ∧ (rowD (u.alloc (.cells z 38)) u.heap.size).size = 11) := Lib.hid (fun u z hz => ⟨by simp [go_sem], by simp [go_sem, hz]⟩)
      clear c11 hb hrr hK c12 c13 hx hok hn eF
      go_upto_region 10 with fail
      go_cut [16, 17] (GotAt wo x ok)
      case first =>
        go_region_held3 (fun w' => Keeps No wo w')
          (first | assumption | exact (Keeps.refl wo).drew | exact ((Keeps.refl wo).alloc _).drew | exact ((Keeps.refl wo).drew).alloc _ | (refine Keeps.alloc ?_ _; assumption) | (refine Keeps.row ?_ (Nat.le_refl _) _; assumption) | (refine Keeps.row ?_ K1.out.size _; assumption))
          (first
            | (go_at_call 37
               refine (HH3.out _ (by first | assumption | exact (Keeps.refl wo).drew | exact ((Keeps.refl wo).alloc _).drew | exact ((Keeps.refl wo).drew).alloc _)).mono ?_
               rintro e w1 ⟨rfl, hg⟩
               have K1 : Hid (Keeps No wo w1) := Lib.hid (by first | exact ((Keeps.refl wo).drew).trans hg.keeps (fun _ _ h => h) | exact (((Keeps.refl wo).alloc _).drew).trans hg.keeps (fun _ _ h => h))
               have hS1 := K1.out
               try (have ob1 : Hid (Open w1 wo.heap.size ∧ (rowD w1 wo.heap.size).size = 11) := Lib.hid ⟨hg.keeps.opened (LB.out wo _ rfl).1, hg.keeps.rowSize (LB.out wo _ rfl).1 (LB.out wo _ rfl).2⟩))
            | (go_at_call 36
               refine (HU.out _).mono ?_
               rintro e w3 ⟨rfl, hk3⟩
               have K3 : Hid (Keeps No wo w3) := Lib.hid (by first | exact K1.out.trans hk3 (fun _ _ h => h) | exact (K1.out.alloc _).trans hk3 (fun _ _ h => h))
               have hS3 := K3.out
               try (have lb3 : wo.heap.size < w3.heap.size := (hk3.opened ob1.out.1).lt)
               try (have ob3 : Open w3 wo.heap.size := hk3.opened ob1.out.1)
               try (have sb3 : (rowD w3 wo.heap.size).size = 11 := hk3.rowSize ob1.out.1 ob1.out.2)
               try (have lc3 : w1.heap.size < w3.heap.size := (hk3.opened (LB.out w1 _ rfl).1).lt)
               try (have oc3 : Open w3 w1.heap.size := hk3.opened (LB.out w1 _ rfl).1)
               try (have sc3 : (rowD w3 w1.heap.size).size = 11 := hk3.rowSize (LB.out w1 _ rfl).1 (LB.out w1 _ rfl).2)))
        all_goals go_wp2_with fail
        all_goals go_meet
        · exact ⟨_, rfl, rfl, by simp [go_sem], K3.out.alloc _⟩
        · exact ⟨_, rfl, rfl, by rw [cellsAt_setRow_at _ _ _ _ _ oc3]; rfl, K3.out.row K1.out.size _⟩
        · exact ⟨_, rfl, rfl, by rw [cellsAt_setRow_at _ _ _ _ _ ob3]; rfl, K3.out.row (Nat.le_refl _) _⟩
      case rest =>
        obtain ⟨gx, rfl, rfl, hcx, hkx⟩ := hcut
        obtain ⟨wb, hwb⟩ : ∃ x : World, x = wc := ⟨_, rfl⟩
        subst hwb
        have KB : Hid (Keeps (Own gd) w2 wb) := Lib.hid (K.out.trans (hkx.mono (fun _ _ h => h.elim)) (fun _ _ h => h))
        have OB : Hid (OwnOf cBd 38 wb w2.heap.size (.slice oa (leftOf (hitF hs) (l.take k)).length oc) (leftOf (hitF hs) (l.take k))) := Lib.hid (hkx.owns O.out (fun _ _ h => h))
        have RB := Lib.hid (R.out.no hkx)
        have b3 := hkx.cellsAt C13.out
        have HLN := Lib.hid (left_len (hitF hs) (l.take k))
        have HGO := Lib.hid (NGO.out OB.out)
        obtain ⟨L, hL⟩ : ∃ L, L = leftOf (hitF hs) (l.take k) := ⟨_, rfl⟩
        rw [← hL] at OB HS1 HLN HGO ⊢
        have HLL : Hid (L.length ≤ 1000 ∧ dead.length ≤ 1000) := Lib.hid (by have h1 := HLN.out; have h2 := HL.out; have h3 := N.out; rw [List.length_take] at h1; omega)
        clear hkx hL HLN LC1 LC2 LB HU HH3 O R K C13
        cases ok with
        | true =>
          have hO' : (wb.alloc (.cells (bdC x).toArray 38)).ownsRow w2.heap.size 38 11 (.slice oa L.length oc) L.length (rowsOf cBd L) := OB.out.alloc _
          have hlit : Reads (wb.alloc (.cells (bdC x).toArray 38)) 11 (.slice (some ⟨wb.heap.size, 0, none⟩) 1 1) 1 (bdC x) := Reads.ofOwn (World.ownsRow_lit (base := 0) wb (bdC x).toArray 1 (Nat.zero_le _) (by unfold maxLen; omega) rfl) (cBd.one x)
          go_wp2_with (at_builtin; refine wpList_append_reads rfl (.tmp 65) (.tmp 67) 27 rfl w2.heap.size 38 i0 _ 11 88 Tryz.underlying27 hi hz0 hz1 hz2 rfl (by decide) _ L.length _ rfl hO' _ 1 (bdC x) rfl hlit ?c1 ?c2 ?c3 ?c4)
          case c1 => have := HLL.out; unfold maxLen; omega
          case c2 => have := HLL.out; omega
          case c3 => have := KB.out.size; simp; omega
          case c4 =>
            intro v' w5 hown1 hk1 _ _
            have K5 : Hid (Keeps (Own gd) w2 w5) := Lib.hid ((KB.out.alloc _).trans hk1 (fun j hj hof => by
              have := (OB.out.lt j hof).1
              omega))
            have O5 : Hid (OwnOf cBd 38 w5 w2.heap.size v' (L ++ [x])) := Lib.hid (by
              unfold OwnOf
              rw [List.length_append, rowsOf_append, rowsOf_one]
              exact hown1)
            have R5 := Lib.hid ((RB.out.no ((Keeps.refl wb).alloc (.cells (bdC x).toArray 38))).beside hO' (LE2.out) hk1)
            clear hown1 hk1 hO' hlit
            go_wp2
            go_roundw
            case rel => exact ⟨k + 1, _, dead, by omega, by go_num, by rw [HS1.out]; exact O5.out, R5.out, by rw [HS2.out]; have := N.out; simpa using this, K5.out⟩
            case measure => simp [intOf]; omega
        | false =>
          have y2 := cellsAt_cell RB.out.cd 2 _ rfl
          simp only [Nat.zero_add] at y2
          have td := RB.out.td
          go_wp2_with fail
          refine wp_region_late (fun _ => True) (fun w' => w'.cell? ⟨gd, 2, none⟩ = some (.slice ea dead.length ec) ∧ cellsAt w' gl (off + k * 11) 3 = some [.int .i64 b.s, .int .i64 b.i, .int .i64 b.g]) (fun j => j == 9) (by kernel_rfl) ?_
          first
            | (refine takeW (i := 0) (v := ?_) rfl rfl (by kernel_rfl) (by kernel_rfl) (by kernel_rfl) rfl (fun _ _ _ h => h) (Or.inl ⟨by rfl, ?_⟩) trivial (fun _ => ⟨y2,b3⟩) ?_; rotate_left; focus (intro w hSw; (try dsimp only at hSw); go_simp; (try rfl); done))
            | (refine takeL (i := 0) (v := ?_) rfl rfl (by kernel_rfl) (by kernel_rfl) (by kernel_rfl) (by kernel_rfl) (noLate_of (by kernel_rfl)) (fun _ _ _ h => h) (Or.inl ⟨by rfl, ?_⟩) trivial ⟨y2,b3⟩ ?_; rotate_left; focus (intro w hSw; (try dsimp only at hSw); go_simp; (try rfl); done))
          try simp only [List.setIfInBounds_toArray, List.set_cons_zero, List.set_cons_succ]
          first
            | (refine takeW (i := 1) (v := ?_) rfl rfl (by kernel_rfl) (by kernel_rfl) (by kernel_rfl) rfl (fun _ _ _ h => h) (Or.inl ⟨by rfl, ?_⟩) trivial (fun _ => ⟨y2,b3⟩) ?_; rotate_left; focus (intro w hSw; (try dsimp only at hSw); go_simp; (try rfl); done))
            | (refine takeL (i := 1) (v := ?_) rfl rfl (by kernel_rfl) (by kernel_rfl) (by kernel_rfl) (by kernel_rfl) (noLate_of (by kernel_rfl)) (fun _ _ _ h => h) (Or.inl ⟨by rfl, ?_⟩) trivial ⟨y2,b3⟩ ?_; rotate_left; focus (intro w hSw; (try dsimp only at hSw); go_simp; (try rfl); done))
          try simp only [List.setIfInBounds_toArray, List.set_cons_zero, List.set_cons_succ]
          first
            | (refine takeW (i := 2) (v := ?_) rfl rfl (by kernel_rfl) (by kernel_rfl) (by kernel_rfl) rfl (fun _ _ _ h => h) (Or.inl ⟨by rfl, ?_⟩) trivial (fun _ => ⟨y2,b3⟩) ?_; rotate_left; focus (intro w hSw; (try dsimp only at hSw); go_simp; (try rfl); done))
            | (refine takeL (i := 2) (v := ?_) rfl rfl (by kernel_rfl) (by kernel_rfl) (by kernel_rfl) (by kernel_rfl) (noLate_of (by kernel_rfl)) (fun _ _ _ h => h) (Or.inl ⟨by rfl, ?_⟩) trivial ⟨y2,b3⟩ ?_; rotate_left; focus (intro w hSw; (try dsimp only at hSw); go_simp; (try rfl); done))
          try simp only [List.setIfInBounds_toArray, List.set_cons_zero, List.set_cons_succ]
          first
            | (refine takeW (i := 3) (v := ?_) rfl rfl (by kernel_rfl) (by kernel_rfl) (by kernel_rfl) rfl (fun _ _ _ h => h) (Or.inl ⟨by rfl, ?_⟩) trivial (fun _ => ⟨y2,b3⟩) ?_; rotate_left; focus (intro w hSw; (try dsimp only at hSw); go_simp; (try rfl); done))
            | (refine takeL (i := 3) (v := ?_) rfl rfl (by kernel_rfl) (by kernel_rfl) (by kernel_rfl) (by kernel_rfl) (noLate_of (by kernel_rfl)) (fun _ _ _ h => h) (Or.inl ⟨by rfl, ?_⟩) trivial ⟨y2,b3⟩ ?_; rotate_left; focus (intro w hSw; (try dsimp only at hSw); go_simp; (try rfl); done))
          try simp only [List.setIfInBounds_toArray, List.set_cons_zero, List.set_cons_succ]
          first
            | (refine takeW (i := 4) (v := ?_) rfl rfl (by kernel_rfl) (by kernel_rfl) (by kernel_rfl) rfl (fun _ _ _ h => h) (Or.inl ⟨by rfl, ?_⟩) trivial (fun _ => ⟨y2,b3⟩) ?_; rotate_left; focus (intro w hSw; (try dsimp only at hSw); go_simp; (try rfl); done))
            | (refine takeL (i := 4) (v := ?_) rfl rfl (by kernel_rfl) (by kernel_rfl) (by kernel_rfl) (by kernel_rfl) (noLate_of (by kernel_rfl)) (fun _ _ _ h => h) (Or.inl ⟨by rfl, ?_⟩) trivial ⟨y2,b3⟩ ?_; rotate_left; focus (intro w hSw; (try dsimp only at hSw); go_simp; (try rfl); done))
          try simp only [List.setIfInBounds_toArray, List.set_cons_zero, List.set_cons_succ]
          first
            | (refine takeW (i := 5) (v := ?_) rfl rfl (by kernel_rfl) (by kernel_rfl) (by kernel_rfl) rfl (fun _ _ _ h => h) (Or.inl ⟨by rfl, ?_⟩) trivial (fun _ => ⟨y2,b3⟩) ?_; rotate_left; focus (intro w hSw; (try dsimp only at hSw); go_simp; (try rfl); done))
            | (refine takeL (i := 5) (v := ?_) rfl rfl (by kernel_rfl) (by kernel_rfl) (by kernel_rfl) (by kernel_rfl) (noLate_of (by kernel_rfl)) (fun _ _ _ h => h) (Or.inl ⟨by rfl, ?_⟩) trivial ⟨y2,b3⟩ ?_; rotate_left; focus (intro w hSw; (try dsimp only at hSw); go_simp; (try rfl); done))
          try simp only [List.setIfInBounds_toArray, List.set_cons_zero, List.set_cons_succ]
          first
            | (refine takeW (i := 6) (v := ?_) rfl rfl (by kernel_rfl) (by kernel_rfl) (by kernel_rfl) rfl (fun _ _ _ h => h) (Or.inl ⟨by rfl, ?_⟩) trivial (fun _ => ⟨y2,b3⟩) ?_; rotate_left; focus (intro w hSw; (try dsimp only at hSw); go_simp; (try rfl); done))
            | (refine takeL (i := 6) (v := ?_) rfl rfl (by kernel_rfl) (by kernel_rfl) (by kernel_rfl) (by kernel_rfl) (noLate_of (by kernel_rfl)) (fun _ _ _ h => h) (Or.inl ⟨by rfl, ?_⟩) trivial ⟨y2,b3⟩ ?_; rotate_left; focus (intro w hSw; (try dsimp only at hSw); go_simp; (try rfl); done))
          try simp only [List.setIfInBounds_toArray, List.set_cons_zero, List.set_cons_succ]
          refine readyL (rs := [7]) (by kernel_rfl) (by simp) ?_
          refine AllReadyL.cons rfl (fun K hK => ?_) AllReadyL.nil
          go_simp
          refine (rdead_any wb.drew _ dead (RB.out.no ((Keeps.refl wb).drew)).d.r (by have := HLL.out; omega) b.id).mono ?_
          rintro e w5 ⟨v', l', rfl, hl', hr', hk5, hp'⟩
          obtain ⟨fa, fc, rfl⟩ := hr'.slice
          have K5 : Hid (Keeps No wb w5) := Lib.hid (((Keeps.refl wb).drew).trans hk5 (fun _ _ h => h))
          have R5 := Lib.hid (RB.out.no K5.out)
          have D5 : Hid (DeadRow w5 w.heap.size (.slice fa l'.length fc) l') := Lib.hid ((RB.out.no ((Keeps.refl wb).drew)).d.next hk5 hr' hp')
          have N5 := Lib.hid hl'
          have z2 := K5.out.cell y2 (fun h => h)
          have zb := K5.out.cellsAt b3
          refine hK.out _ _ trivial (fun _ => ⟨z2, zb⟩) ?_
          clear hK K hk5 hr' hl' hp' y2
          first
            | (refine takeW (i := 8) (v := ?_) rfl rfl (by kernel_rfl) (by kernel_rfl) (by kernel_rfl) rfl (fun _ _ _ h => h) (Or.inl ⟨by rfl, ?_⟩) trivial (fun _ => ⟨z2,zb⟩) ?_; rotate_left; focus (intro w hSw; (try dsimp only at hSw); go_simp; (try rfl); done))
            | (refine takeL (i := 8) (v := ?_) rfl rfl (by kernel_rfl) (by kernel_rfl) (by kernel_rfl) (by kernel_rfl) (noLate_of (by kernel_rfl)) (fun _ _ _ h => h) (Or.inl ⟨by rfl, ?_⟩) trivial ⟨z2,zb⟩ ?_; rotate_left; focus (intro w hSw; (try dsimp only at hSw); go_simp; (try rfl); done))
          try simp only [List.setIfInBounds_toArray, List.set_cons_zero, List.set_cons_succ]
          have f2 := R5.out.td.open.frozen 2
          refine readyL (rs := [9]) (by kernel_rfl) (by simp) ?_
          refine AllReadyL.cons rfl (fun K hK => ?_) AllReadyL.nil
          go_simp
          have R6 := Lib.hid (R5.out.die D5.out)
          have K6 : Hid (Keeps (Own gd) wb (w5.setCell ⟨gd, 2, none⟩ (.slice fa l'.length fc))) := Lib.hid ((K5.out.mono (fun _ _ h => h.elim)).trans (keeps_set gd 2 _) (fun _ _ h => h))
          refine hK.out _ _ trivial (late_come 9 rfl (by kernel_rfl)) ?_
          clear hK K
          refine doneL (by kernel_rfl) ?_ _
          clear z2 zb f2 td
          have O6 : Hid (OwnOf cBd 38 (w5.setCell ⟨gd, 2, none⟩ (.slice fa l'.length fc)) w2.heap.size (.slice oa L.length oc) L) := Lib.hid (K6.out.owns OB.out HGO.out)
          have K7 := Lib.hid (KB.out.trans K6.out (fun _ _ h => h))
          go_wp2
          go_roundw
          case rel => exact ⟨k + 1, _, l', by omega, by go_num, by rw [HS1.out]; simpa using O6.out, R6.out, by rw [HS2.out, List.length_append]; have := N.out; have := N5.out; simp only [cond_false, List.length_cons, List.length_nil]; omega, K7.out⟩
          case measure => simp [intOf]; omega
    · have hT : l.take k = l := List.take_of_length_le (by omega)
      rw [hT] at O N
      have hlti : ¬ ((k : Int) < (l.length : Int)) := by omega
      have HLN := Lib.hid (left_len (hitF hs) l)
      obtain ⟨l1, hl1⟩ : ∃ x, x = leftOf (hitF hs) l := ⟨_, rfl⟩
      have HOK1 : Hid (∀ b ∈ l1, b.ok) := Lib.hid (by rw [hl1]; exact leftOf_ok (fun b hb h => hitF_ok hb _ h) HOK.out)
      have HR1 : Hid (runL z l cs = leftOf (fun b => ageB (moveB z b)) (cmdsL z l1 cs)) := Lib.hid (by rw [hl1, HH.out]; rfl)
      have HN1 : Hid (l1.length + dead.length ≤ l.length) := Lib.hid (by have h1 := HLN.out; have h2 := N.out; rw [hl1]; omega)
      rw [hT, ← hl1]
      rw [← hl1] at O
      have RL1 : Hid (RdOf cBd wo (.slice oa l1.length oc) l1) := Lib.hid (OwnOf.reads O.out)
      clear hT hl1 hK HLN N O K
      go_wp2_with fail
      go_loopw [14, 18] (fun o q wr => ∃ (k : Nat) (dv : Value) (dead : List Nam), k ≤ cs.length ∧ q = .int .i64 k ∧ RdOf cBd wr o (cmdsL z l1 (cs.take k)) ∧ RR w wr gz gr gd z (.slice none 0 0) dv dead ∧ (cmdsL z l1 (cs.take k)).length + dead.length ≤ l.length + k) (fun _ q _ => cs.length - (intOf q).toNat)
      case atStart => exact ⟨0, _, dead, Nat.zero_le _, rfl, RL1.out, R.out, HN1.out⟩
      case round =>
        obtain ⟨k2, dv2, dead2, hkc, rfl, hL2, hR2, hN2⟩ := hrel
        obtain ⟨wp, hwp⟩ : ∃ x : World, x = wr := ⟨_, rfl⟩
        subst hwp
        have RL2 := Lib.hid hL2
        have R2c := Lib.hid hR2
        have N2 := Lib.hid hN2
        have hk0c : (0 : Int) ≤ (k2 : Int) := by omega
        obtain ⟨pa, pc, rfl⟩ := hL2.slice
        obtain ⟨ea2, ec2, rfl⟩ := hR2.d.r.slice
        clear hL2 hR2 hN2
        by_cases hltc : k2 < cs.length
        · have hltci : (k2 : Int) < (cs.length : Int) := by omega
          have hrr : RdOf cCm wp (.slice ca cs.length cc) cs := HCV.out.kept R2c.out.k (fun _ _ h => h)
          obtain ⟨gc, off, rfl, _, _, _⟩ := RdOf.addr cCm hrr (by omega)
          have c16 := RdOf.at cCm hrr k2 hltc
          have HS1 := Lib.hid (cmdsL_succ z l1 cs k2 hltc)
          have HCK : Hid (cs[k2].ok) := Lib.hid (HCO.out _ (List.getElem_mem hltc))
          obtain ⟨c, hc⟩ : ∃ c, c = cs[k2] := ⟨_, rfl⟩
          rw [← hc] at HS1 HCK
          have c17 : cellsAt wp gc (off + k2 * 16) 16 = some (cmC c) := by rw [hc]; exact c16
          have y2 := cellsAt_cell R2c.out.cd 2 _ rfl
          simp only [Nat.zero_add] at y2
          have cz := R2c.out.cz
          obtain ⟨lk, hlk⟩ : ∃ x, x = cmdsL z l1 (cs.take k2) := ⟨_, rfl⟩
          rw [← hlk] at RL2 N2 HS1 ⊢
          have HCM : Hid (∀ w', Keeps No wp w' → Calls Tryz.prog 39 #[zfV z, .int .i64 (-1), .slice pa lk.length pc, .slice ea2 dead2.length ec2, cmV c] w' (CmdPost w' w.heap.size (cmdL z lk c) (dead2.length + (cmdD lk c).length))) := Lib.hid (fun w' h => rcommand_any w' z HZ.out _ _ lk dead2 (RL2.out.kept h (fun _ _ h => h)) w.heap.size (Nat.le_trans R2c.out.k.size h.size) (R2c.out.d.no h) (by have := N2.out; have := HL.out; omega) (by have := N2.out; have := HL.out; omega) c HCK.out)
          have LC1 : ∀ w', Keeps No wp w' → cellsAt w' gc (off + k2 * 16) 16 = some (cmC c) := fun w' h => h.cellsAt c17
          have LC2 : ∀ w', Keeps No wp w' → cellsAt w' gz 0 7 = some (zfC z) := fun w' h => h.cellsAt cz
          have LC3 : ∀ w', Keeps No wp w' → w'.cell? ⟨gd, 2, none⟩ = some (.slice ea2 dead2.length ec2) := fun w' h => h.cell y2 (fun h => h)
          clear c16 hc hrr c17 y2 cz hlk
          go_wp2_with fail
          go_region_held3 (fun w' => Keeps No wp w')
            (first | assumption | exact (Keeps.refl wp).drew)
            (first
              | (go_at_call 39
                 refine (HCM.out _ (by first | assumption | exact (Keeps.refl wp).drew)).mono ?_
                 rintro e w1 ⟨lv', dv', dd', rfl, hl', hd', hn', hk'⟩
                 have K1 : Hid (Keeps No wp w1) := Lib.hid (((Keeps.refl wp).drew).trans hk' (fun _ _ h => h))
                 have hS1 := K1.out))
          obtain ⟨fa, fc, rfl⟩ := hl'.slice
          obtain ⟨ga, gcap, rfl⟩ := hd'.r.slice
          have R5 := Lib.hid (R2c.out.no K1.out)
          have D5 := Lib.hid hd'
          have hf2 := R5.out.td.open.frozen 2
          have R6 := Lib.hid (R5.out.die D5.out)
          have L6 : Hid (RdOf cBd (w1.setCell ⟨gd, 2, none⟩ (.slice ga dd'.length gcap)) (.slice fa (cmdL z lk c).length fc) (cmdL z lk c)) := Lib.hid (rd_keep hl' (keeps_set gd 2 _) (fun hne => rd_ne hl' hne R5.out.cd R5.out.sd))
          have HCL := Lib.hid (cmd_len z lk c)
          have N6 := Lib.hid hn'
          have y2 := cellsAt_cell R5.out.cd 2 _ rfl
          simp only [Nat.zero_add] at y2
          clear hl' hd' hn' hk' hS1 LC1 LC2 LC3 HCM
          go_wp2
          go_roundw
          case rel => exact ⟨k2 + 1, _, dd', by omega, by go_num, by rw [HS1.out]; exact L6.out, R6.out, by rw [HS1.out]; have := HCL.out; have := N2.out; have := N6.out; omega⟩
          case measure => simp [intOf]; omega
        · have hT : cs.take k2 = cs := List.take_of_length_le (by omega)
          rw [hT] at RL2 N2
          have hltci : ¬ ((k2 : Int) < (cs.length : Int)) := by omega
          have HOK2 : Hid (∀ b ∈ cmdsL z l1 cs, b.ok) := Lib.hid (cmdsL_ok HCO.out HOK1.out)
          have NL : Hid (cmdsL z l1 cs ≠ [] → ∀ i, (Value.slice pa (cmdsL z l1 cs).length pc).ownBlock = some i → ¬ Own gd i) := Lib.hid (fun hne => rd_ne RL2.out hne R2c.out.cd R2c.out.sd)
          rw [hT]
          obtain ⟨l2, hl2⟩ : ∃ x, x = cmdsL z l1 cs := ⟨_, rfl⟩
          rw [← hl2] at RL2 N2 HR1 HOK2 NL ⊢
          have HN2 : Hid (l2.length ≤ 1000 ∧ dead2.length ≤ 1000) := Lib.hid (by have := N2.out; have := HL.out; omega)
          have LE7 : Hid (gd < wp.heap.size ∧ w.heap.size ≤ wp.heap.size) := Lib.hid ⟨R2c.out.lt, R2c.out.k.size⟩
          have hn2 : (l2.length : Int) ≤ 1000 := by have := HN2.out.1; omega
          have HRL := Lib.hid HR1.out
          clear hT hl2 R HN1 HOK1 RL1 N2 HR1
          go_wp2_with fail
          go_loopw [21] (fun q wr => ∃ (k : Nat) (ov dv : Value) (dead : List Nam), k ≤ l2.length ∧ q = .int .i64 k ∧ RR w wr gz gr gd z ov dv dead ∧ OwnOf cBd 38 wr wp.heap.size ov (leftOf (fun b => ageB (moveB z b)) (l2.take k)) ∧ dead.length ≤ 1000 + k ∧ Keeps (Own gd) wp wr) (fun q _ => l2.length - (intOf q).toNat)
          case atStart => exact ⟨0, _, _, dead2, Nat.zero_le _, rfl, R2c.out, World.ownsRow_nil _ _ _ _, by have := HN2.out.2; omega, Keeps.refl _⟩
          case round =>
            obtain ⟨k3, ov, dv3, dead3, hkl3, rfl, hR, hO, hN, hK⟩ := hrel
            obtain ⟨wq, hwq⟩ : ∃ x : World, x = wr := ⟨_, rfl⟩
            subst hwq
            have K3q := Lib.hid hK
            have O3 := Lib.hid hO
            have R3 := Lib.hid hR
            have N3 := Lib.hid hN
            have hk03 : (0 : Int) ≤ (k3 : Int) := by omega
            obtain ⟨qa, qc, rfl⟩ := ownsRow_slice hO
            obtain ⟨ea3, ec3, rfl⟩ := hR.d.r.slice
            clear hO hR hN
            by_cases hlt3 : k3 < l2.length
            · have hlti3 : (k3 : Int) < (l2.length : Int) := by omega
              have hrr : RdOf cBd wq (.slice pa l2.length pc) l2 := rd_keep RL2.out hK NL.out
              obtain ⟨gl, off, rfl, _, _, _⟩ := RdOf.addr cBd hrr (by omega)
              have c11 := RdOf.at cBd hrr k3 hlt3
              have HBK : Hid (l2[k3].ok) := Lib.hid (HOK2.out _ (List.getElem_mem hlt3))
              have HS1 := Lib.hid (leftOf_succ (fun b => ageB (moveB z b)) l2 k3 hlt3)
              obtain ⟨b, hb⟩ : ∃ b, b = l2[k3] := ⟨_, rfl⟩
              rw [← hb] at HS1 HBK
              have c12 : cellsAt wq gl (off + k3 * 11) 11 = some (bdC b) := by rw [hb]; exact c11
              have C13 : Hid (cellsAt wq gl (off + k3 * 11) 3 = some [.int .i64 b.s, .int .i64 b.i, .int .i64 b.g]) := Lib.hid (cellsAt_part c12 0 [.int .i64 b.s, .int .i64 b.i, .int .i64 b.g] rfl (by simp))
              have cz := R3.out.cz
              have LC1 : ∀ w', Keeps No wq w' → cellsAt w' gl (off + k3 * 11) 11 = some (bdC b) := fun w' h => h.cellsAt c12
              have LC2 : ∀ w', Keeps No wq w' → cellsAt w' gz 0 7 = some (zfC z) := fun w' h => h.cellsAt cz
              have HMV := Lib.hid (fun W => rmove_any W z HZ.out b HBK.out.m)
              have HAG := Lib.hid (fun W => rage_any W (moveB z b) (moveB_ok HZ.out HBK.out).m (moveB_ok HZ.out HBK.out).lf)
              obtain ⟨b2, hb2⟩ : ∃ x, x = moveB z b := ⟨_, rfl⟩
              obtain ⟨x, hx⟩ : ∃ x, x = (ageB (moveB z b)).1 := ⟨_, rfl⟩
              obtain ⟨ok, hok⟩ : ∃ x, x = (ageB (moveB z b)).2 := ⟨_, rfl⟩
              rw [← hx, ← hok, ← hb2] at HAG
              rw [← hx, ← hok] at HS1
              rw [← hb2] at HMV
              have LB : Hid (∀ (u : World) (z : Array Value), z.size = 11 → Open (u.alloc (.cells z 38)) u.heap.size ∧ (rowD (u.alloc (.cells z 38)) u.heap.size).size = 11) := Lib.hid (fun u z hz => ⟨by simp [go_sem], by simp [go_sem, hz]⟩)
              clear c11 hb hrr hK c12 cz hx hok hb2
              go_upto_region 23 with fail
              go_cut [22, 23] (GotAt wq x ok)
              case first =>
                go_region_held3 (fun w' => Keeps No wq w')
                  (first | assumption | exact (Keeps.refl wq).drew | exact ((Keeps.refl wq).alloc _).drew | exact ((Keeps.refl wq).drew).alloc _ | (refine Keeps.alloc ?_ _; assumption) | (refine Keeps.row ?_ (Nat.le_refl _) _; assumption) | (refine Keeps.row ?_ K1.out.size _; assumption))
                  (first
                    | (go_at_call 41
                       refine (HMV.out _).mono ?_
                       rintro e w1 ⟨rfl, hg⟩
                       have K1 : Hid (Keeps No wq w1) := Lib.hid (by first | exact ((Keeps.refl wq).drew).trans hg (fun _ _ h => h) | exact (((Keeps.refl wq).alloc _).drew).trans hg (fun _ _ h => h))
                       have hS1 := K1.out
                       try (have ob1 : Hid (Open w1 wq.heap.size ∧ (rowD w1 wq.heap.size).size = 11) := Lib.hid ⟨hg.opened (LB.out wq _ rfl).1, hg.rowSize (LB.out wq _ rfl).1 (LB.out wq _ rfl).2⟩))
                    | (go_at_call 40
                       refine (HAG.out _).mono ?_
                       rintro e w3 ⟨rfl, hk3⟩
                       have K3 : Hid (Keeps No wq w3) := Lib.hid (by first | exact K1.out.trans hk3 (fun _ _ h => h) | exact (K1.out.alloc _).trans hk3 (fun _ _ h => h))
                       have hS3 := K3.out
                       try (have lb3 : wq.heap.size < w3.heap.size := (hk3.opened ob1.out.1).lt)
                       try (have ob3 : Open w3 wq.heap.size := hk3.opened ob1.out.1)
                       try (have sb3 : (rowD w3 wq.heap.size).size = 11 := hk3.rowSize ob1.out.1 ob1.out.2)
                       try (have lc3 : w1.heap.size < w3.heap.size := (hk3.opened (LB.out w1 _ rfl).1).lt)
                       try (have oc3 : Open w3 w1.heap.size := hk3.opened (LB.out w1 _ rfl).1)
                       try (have sc3 : (rowD w3 w1.heap.size).size = 11 := hk3.rowSize (LB.out w1 _ rfl).1 (LB.out w1 _ rfl).2)))
                all_goals go_wp2_with fail
                all_goals go_meet
                · exact ⟨_, rfl, rfl, by simp [go_sem], K3.out.alloc _⟩
                · exact ⟨_, rfl, rfl, by rw [cellsAt_setRow_at _ _ _ _ _ oc3]; rfl, K3.out.row K1.out.size _⟩
                · exact ⟨_, rfl, rfl, by rw [cellsAt_setRow_at _ _ _ _ _ ob3]; rfl, K3.out.row (Nat.le_refl _) _⟩
              case rest =>
                obtain ⟨gx, rfl, rfl, hcx, hkx⟩ := hcut
                obtain ⟨wb, hwb⟩ : ∃ x : World, x = wc := ⟨_, rfl⟩
                subst hwb
                have KB : Hid (Keeps (Own gd) wp wb) := Lib.hid (K3q.out.trans (hkx.mono (fun _ _ h => h.elim)) (fun _ _ h => h))
                have OB : Hid (OwnOf cBd 38 wb wp.heap.size (.slice qa (leftOf (fun b => ageB (moveB z b)) (l2.take k3)).length qc) (leftOf (fun b => ageB (moveB z b)) (l2.take k3))) := Lib.hid (hkx.owns O3.out (fun _ _ h => h))
                have RB := Lib.hid (R3.out.no hkx)
                have b3 := hkx.cellsAt C13.out
                have HLN := Lib.hid (left_len (fun b => ageB (moveB z b)) (l2.take k3))
                have HGO : Hid (∀ i, (Value.slice qa (leftOf (fun b => ageB (moveB z b)) (l2.take k3)).length qc).ownBlock = some i → ¬ Own gd i) := Lib.hid (fun i hi e => by
                  have e : i = gd := e
                  have := (OB.out.lt i hi).1
                  have := LE7.out.1
                  omega)
                obtain ⟨L, hL⟩ : ∃ L, L = leftOf (fun b => ageB (moveB z b)) (l2.take k3) := ⟨_, rfl⟩
                rw [← hL] at OB HS1 HLN HGO RB
                have HLL : Hid (L.length ≤ 1000 ∧ dead3.length ≤ 2000) := Lib.hid (by have h1 := HLN.out; have h2 := HN2.out; have h3 := N3.out; rw [List.length_take] at h1; omega)
                clear hkx hL HLN LC1 LC2 LB HMV HAG O3 R3 C13
                cases ok with
                | true =>
                  have y0 := cellsAt_cell RB.out.cd 0 _ rfl
                  simp only [Nat.zero_add] at y0
                  have hO' : (wb.alloc (.cells (bdC x).toArray 38)).ownsRow wp.heap.size 38 11 (.slice qa L.length qc) L.length (rowsOf cBd L) := OB.out.alloc _
                  have hlit : Reads (wb.alloc (.cells (bdC x).toArray 38)) 11 (.slice (some ⟨wb.heap.size, 0, none⟩) 1 1) 1 (bdC x) := Reads.ofOwn (World.ownsRow_lit (base := 0) wb (bdC x).toArray 1 (Nat.zero_le _) (by unfold maxLen; omega) rfl) (cBd.one x)
                  go_wp2_with (at_builtin; refine wpList_append_reads rfl (.tmp 140) (.tmp 142) 27 rfl wp.heap.size 38 i0 _ 11 88 Tryz.underlying27 hi hz0 hz1 hz2 rfl (by decide) _ L.length _ rfl hO' _ 1 (bdC x) rfl hlit ?d1 ?d2 ?d3 ?d4)
                  case d1 => have := HLL.out; unfold maxLen; omega
                  case d2 => have := HLL.out; omega
                  case d3 => have := KB.out.size; simp; omega
                  case d4 =>
                    intro v' w5 hown1 hk1 _ _
                    have O5 : OwnOf cBd 38 w5 wp.heap.size v' (L ++ [x]) := by
                      unfold OwnOf
                      rw [List.length_append, rowsOf_append, rowsOf_one]
                      exact hown1
                    have RA := Lib.hid (RB.out.no ((Keeps.refl wb).alloc (.cells (bdC x).toArray 38)))
                    have PU := Lib.hid (RA.out.put hO' LE7.out hk1 O5)
                    have K7 : Hid (Keeps (Own gd) wp (w5.setCell ⟨gd, 0, none⟩ v')) := Lib.hid ((KB.out.alloc _).trans PU.out.2.2 (fun i hi e => by
                      rcases e with e | e
                      · exact e
                      · have := (OB.out.lt i e).1
                        omega))
                    have f0 : w5.frozen? ⟨gd, 0, none⟩ = false := (keepsS_open hk1 (fun e => HGO.out _ e rfl) RA.out.td.open).frozen 0
                    have hy5 := cellsAt_cell (keepsS_cells hk1 (fun e => HGO.out _ e rfl) RA.out.cd) 0 _ rfl
                    simp only [Nat.zero_add] at hy5
                    obtain ⟨ra, rc, rfl⟩ := ownsRow_slice hown1
                    clear hown1 hk1 hO' hlit y0 O5 hcx b3
                    go_wp2
                    go_roundw
                    case rel => exact ⟨k3 + 1, _, _, dead3, by omega, by go_num, PU.out.1, by rw [HS1.out]; exact PU.out.2.1, by have := N3.out; omega, K7.out⟩
                    case measure => simp [intOf]; omega
                | false =>
                  have y2 := cellsAt_cell RB.out.cd 2 _ rfl
                  simp only [Nat.zero_add] at y2
                  have td := RB.out.td
                  go_wp2_with fail
                  refine wp_region_late (fun _ => True) (fun w' => w'.cell? ⟨gd, 2, none⟩ = some (.slice ea3 dead3.length ec3) ∧ cellsAt w' gl (off + k3 * 11) 3 = some [.int .i64 b.s, .int .i64 b.i, .int .i64 b.g]) (fun j => j == 9) (by kernel_rfl) ?_
                  first
                    | (refine takeW (i := 0) (v := ?_) rfl rfl (by kernel_rfl) (by kernel_rfl) (by kernel_rfl) rfl (fun _ _ _ h => h) (Or.inl ⟨by rfl, ?_⟩) trivial (fun _ => ⟨y2,b3⟩) ?_; rotate_left; focus (intro w hSw; (try dsimp only at hSw); go_simp; (try rfl); done))
                    | (refine takeL (i := 0) (v := ?_) rfl rfl (by kernel_rfl) (by kernel_rfl) (by kernel_rfl) (by kernel_rfl) (noLate_of (by kernel_rfl)) (fun _ _ _ h => h) (Or.inl ⟨by rfl, ?_⟩) trivial ⟨y2,b3⟩ ?_; rotate_left; focus (intro w hSw; (try dsimp only at hSw); go_simp; (try rfl); done))
                  try simp only [List.setIfInBounds_toArray, List.set_cons_zero, List.set_cons_succ]
                  first
                    | (refine takeW (i := 1) (v := ?_) rfl rfl (by kernel_rfl) (by kernel_rfl) (by kernel_rfl) rfl (fun _ _ _ h => h) (Or.inl ⟨by rfl, ?_⟩) trivial (fun _ => ⟨y2,b3⟩) ?_; rotate_left; focus (intro w hSw; (try dsimp only at hSw); go_simp; (try rfl); done))
                    | (refine takeL (i := 1) (v := ?_) rfl rfl (by kernel_rfl) (by kernel_rfl) (by kernel_rfl) (by kernel_rfl) (noLate_of (by kernel_rfl)) (fun _ _ _ h => h) (Or.inl ⟨by rfl, ?_⟩) trivial ⟨y2,b3⟩ ?_; rotate_left; focus (intro w hSw; (try dsimp only at hSw); go_simp; (try rfl); done))
                  try simp only [List.setIfInBounds_toArray, List.set_cons_zero, List.set_cons_succ]
                  first
                    | (refine takeW (i := 2) (v := ?_) rfl rfl (by kernel_rfl) (by kernel_rfl) (by kernel_rfl) rfl (fun _ _ _ h => h) (Or.inl ⟨by rfl, ?_⟩) trivial (fun _ => ⟨y2,b3⟩) ?_; rotate_left; focus (intro w hSw; (try dsimp only at hSw); go_simp; (try rfl); done))
                    | (refine takeL (i := 2) (v := ?_) rfl rfl (by kernel_rfl) (by kernel_rfl) (by kernel_rfl) (by kernel_rfl) (noLate_of (by kernel_rfl)) (fun _ _ _ h => h) (Or.inl ⟨by rfl, ?_⟩) trivial ⟨y2,b3⟩ ?_; rotate_left; focus (intro w hSw; (try dsimp only at hSw); go_simp; (try rfl); done))
                  try simp only [List.setIfInBounds_toArray, List.set_cons_zero, List.set_cons_succ]
                  first
                    | (refine takeW (i := 3) (v := ?_) rfl rfl (by kernel_rfl) (by kernel_rfl) (by kernel_rfl) rfl (fun _ _ _ h => h) (Or.inl ⟨by rfl, ?_⟩) trivial (fun _ => ⟨y2,b3⟩) ?_; rotate_left; focus (intro w hSw; (try dsimp only at hSw); go_simp; (try rfl); done))
                    | (refine takeL (i := 3) (v := ?_) rfl rfl (by kernel_rfl) (by kernel_rfl) (by kernel_rfl) (by kernel_rfl) (noLate_of (by kernel_rfl)) (fun _ _ _ h => h) (Or.inl ⟨by rfl, ?_⟩) trivial ⟨y2,b3⟩ ?_; rotate_left; focus (intro w hSw; (try dsimp only at hSw); go_simp; (try rfl); done))
                  try simp only [List.setIfInBounds_toArray, List.set_cons_zero, List.set_cons_succ]
                  first
                    | (refine takeW (i := 4) (v := ?_) rfl rfl (by kernel_rfl) (by kernel_rfl) (by kernel_rfl) rfl (fun _ _ _ h => h) (Or.inl ⟨by rfl, ?_⟩) trivial (fun _ => ⟨y2,b3⟩) ?_; rotate_left; focus (intro w hSw; (try dsimp only at hSw); go_simp; (try rfl); done))
                    | (refine takeL (i := 4) (v := ?_) rfl rfl (by kernel_rfl) (by kernel_rfl) (by kernel_rfl) (by kernel_rfl) (noLate_of (by kernel_rfl)) (fun _ _ _ h => h) (Or.inl ⟨by rfl, ?_⟩) trivial ⟨y2,b3⟩ ?_; rotate_left; focus (intro w hSw; (try dsimp only at hSw); go_simp; (try rfl); done))
                  try simp only [List.setIfInBounds_toArray, List.set_cons_zero, List.set_cons_succ]
                  first
                    | (refine takeW (i := 5) (v := ?_) rfl rfl (by kernel_rfl) (by kernel_rfl) (by kernel_rfl) rfl (fun _ _ _ h => h) (Or.inl ⟨by rfl, ?_⟩) trivial (fun _ => ⟨y2,b3⟩) ?_; rotate_left; focus (intro w hSw; (try dsimp only at hSw); go_simp; (try rfl); done))
                    | (refine takeL (i := 5) (v := ?_) rfl rfl (by kernel_rfl) (by kernel_rfl) (by kernel_rfl) (by kernel_rfl) (noLate_of (by kernel_rfl)) (fun _ _ _ h => h) (Or.inl ⟨by rfl, ?_⟩) trivial ⟨y2,b3⟩ ?_; rotate_left; focus (intro w hSw; (try dsimp only at hSw); go_simp; (try rfl); done))
                  try simp only [List.setIfInBounds_toArray, List.set_cons_zero, List.set_cons_succ]
                  first
                    | (refine takeW (i := 6) (v := ?_) rfl rfl (by kernel_rfl) (by kernel_rfl) (by kernel_rfl) rfl (fun _ _ _ h => h) (Or.inl ⟨by rfl, ?_⟩) trivial (fun _ => ⟨y2,b3⟩) ?_; rotate_left; focus (intro w hSw; (try dsimp only at hSw); go_simp; (try rfl); done))
                    | (refine takeL (i := 6) (v := ?_) rfl rfl (by kernel_rfl) (by kernel_rfl) (by kernel_rfl) (by kernel_rfl) (noLate_of (by kernel_rfl)) (fun _ _ _ h => h) (Or.inl ⟨by rfl, ?_⟩) trivial ⟨y2,b3⟩ ?_; rotate_left; focus (intro w hSw; (try dsimp only at hSw); go_simp; (try rfl); done))
                  try simp only [List.setIfInBounds_toArray, List.set_cons_zero, List.set_cons_succ]
                  refine readyL (rs := [7]) (by kernel_rfl) (by simp) ?_
                  refine AllReadyL.cons rfl (fun K hK => ?_) AllReadyL.nil
                  go_simp
                  refine (rdead_any wb.drew _ dead3 (RB.out.no ((Keeps.refl wb).drew)).d.r (by have := HLL.out; omega) b.id).mono ?_
                  rintro e w5 ⟨v', l', rfl, hl', hr', hk5, hp'⟩
                  obtain ⟨fa, fc, rfl⟩ := hr'.slice
                  have K5 : Hid (Keeps No wb w5) := Lib.hid (((Keeps.refl wb).drew).trans hk5 (fun _ _ h => h))
                  have R5 := Lib.hid (RB.out.no K5.out)
                  have D5 : Hid (DeadRow w5 w.heap.size (.slice fa l'.length fc) l') := Lib.hid ((RB.out.no ((Keeps.refl wb).drew)).d.next hk5 hr' hp')
                  have N5 := Lib.hid hl'
                  have z2 := K5.out.cell y2 (fun h => h)
                  have zb := K5.out.cellsAt b3
                  refine hK.out _ _ trivial (fun _ => ⟨z2, zb⟩) ?_
                  clear hK K hk5 hr' hl' hp' y2
                  first
                    | (refine takeW (i := 8) (v := ?_) rfl rfl (by kernel_rfl) (by kernel_rfl) (by kernel_rfl) rfl (fun _ _ _ h => h) (Or.inl ⟨by rfl, ?_⟩) trivial (fun _ => ⟨z2,zb⟩) ?_; rotate_left; focus (intro w hSw; (try dsimp only at hSw); go_simp; (try rfl); done))
                    | (refine takeL (i := 8) (v := ?_) rfl rfl (by kernel_rfl) (by kernel_rfl) (by kernel_rfl) (by kernel_rfl) (noLate_of (by kernel_rfl)) (fun _ _ _ h => h) (Or.inl ⟨by rfl, ?_⟩) trivial ⟨z2,zb⟩ ?_; rotate_left; focus (intro w hSw; (try dsimp only at hSw); go_simp; (try rfl); done))
                  try simp only [List.setIfInBounds_toArray, List.set_cons_zero, List.set_cons_succ]
                  have f2 := R5.out.td.open.frozen 2
                  refine readyL (rs := [9]) (by kernel_rfl) (by simp) ?_
                  refine AllReadyL.cons rfl (fun K hK => ?_) AllReadyL.nil
                  go_simp
                  have R6 := Lib.hid (R5.out.die D5.out)
                  have K6 : Hid (Keeps (Own gd) wb (w5.setCell ⟨gd, 2, none⟩ (.slice fa l'.length fc))) := Lib.hid ((K5.out.mono (fun _ _ h => h.elim)).trans (keeps_set gd 2 _) (fun _ _ h => h))
                  refine hK.out _ _ trivial (late_come 9 rfl (by kernel_rfl)) ?_
                  clear hK K
                  refine doneL (by kernel_rfl) ?_ _
                  clear z2 zb f2 td
                  have O6 : Hid (OwnOf cBd 38 (w5.setCell ⟨gd, 2, none⟩ (.slice fa l'.length fc)) wp.heap.size (.slice qa L.length qc) L) := Lib.hid (K6.out.owns OB.out HGO.out)
                  have K7 := Lib.hid (KB.out.trans K6.out (fun _ _ h => h))
                  go_wp2
                  go_roundw
                  case rel => exact ⟨k3 + 1, _, _, l', by omega, by go_num, R6.out, by rw [HS1.out]; simpa using O6.out, by have := N3.out; have := N5.out; omega, K7.out⟩
                  case measure => simp [intOf]; omega
            · have hT3 : l2.take k3 = l2 := List.take_of_length_le (by omega)
              rw [hT3] at O3
              rw [hT3] at R3
              have hlti3 : ¬ ((k3 : Int) < (l2.length : Int)) := by omega
              have HF : Hid (runL z l cs = leftOf (fun b => ageB (moveB z b)) l2) := Lib.hid HRL.out
              obtain ⟨l3, hl3⟩ : ∃ x, x = leftOf (fun b => ageB (moveB z b)) l2 := ⟨_, rfl⟩
              rw [← hl3] at O3 R3 HF
              have c3 := R3.out.cd
              have or := R3.out.op
              have sr := R3.out.sr
              have lr := R3.out.op.lt
              have hne : gr ≠ gd := by have := R3.out.n3; omega
              have FIN : Hid (RRunPost w (runL z l cs) (.returned (.agg #[.slice qa l3.length qc, .slice none 0 0, .slice ea3 dead3.length ec3])) (wq.setRow gr #[.slice qa l3.length qc, .slice none 0 0, .slice ea3 dead3.length ec3])) := Lib.hid (by
                have hgr : w.heap.size ≤ gr := by have h2 := R3.out.n1; have h3 := R3.out.n2; omega
                have hlt : gr < wp.heap.size := by have h2 := R3.out.n3; have h3 := LE7.out.1; omega
                have ks := (Keeps.refl (S := Own gr) wq).setRow (g := gr) (fun _ => (rfl : gr = gr)) #[.slice qa l3.length qc, .slice none 0 0, .slice ea3 dead3.length ec3]
                rw [HF.out]
                refine ⟨_, _, _, _, rfl, OwnOf.reads (ks.owns O3.out (fun i hi e => ?_)), R3.out.k.row hgr _⟩
                have e : i = gr := e
                have := (O3.out.lt i hi).1
                omega)
              clear hK hl3
              go_wp2
              exact bodyPost_ret (v := .agg #[.slice qa l3.length qc, .slice none 0 0, .slice ea3 dead3.length ec3]) (by simp [results, Tryz.results13, go_sem, *]) rfl FIN.out
end Go.Proofs.YtcjeocibnfoenaaGreat
