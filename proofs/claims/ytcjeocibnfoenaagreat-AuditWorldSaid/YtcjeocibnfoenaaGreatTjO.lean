/-
  tick.Run over a whole world. No conditions of its own.
-/
import Derived.Test.YtcjeocibnfoenaaGreatTjN
namespace Go.Proofs.YtcjeocibnfoenaaGreat
open Go.RowKit Go.Joins Go.Deep Go.Sort

/-- within a tick -/
structure RunAt (w0 wr : World) (gm gr g : Nat) (mp lv ov gv dv : Value) (l : List Bd) (dead : List Nam) : Prop where
  st : StgAt wr g w0.heap.size mp lv ov gv dv l dead
  k : Keeps No w0 wr
  m : wr.cell? ⟨gm, 0, none⟩ = some mp
  o : Open wr gr
  s : (rowD wr gr).size = 3
  ll : ∀ i, lv.ownBlock = some i → gr < i
  dl : ∀ i, dv.ownBlock = some i → gr < i
  mr : gm < gr
  rg : gr < g
  b : w0.heap.size ≤ gm
theorem RunAt.step {w0 wr w' : World} {gm gr g : Nat} {mp lv ov gv dv lv' dv' : Value} {l l' : List Bd} {dead dead' : List Nam} (h : RunAt w0 wr gm gr g mp lv ov gv dv l dead) (k : Keeps (SO g lv dv) wr w')
    (hs : StgAt w' g w0.heap.size mp lv' ov gv dv' l' dead') (hl : ∀ i, lv'.ownBlock = some i → lv.ownBlock = some i ∨ wr.heap.size ≤ i) (hd : ∀ i, dv'.ownBlock = some i → dv.ownBlock = some i ∨ wr.heap.size ≤ i) : RunAt w0 w' gm gr g mp lv' ov gv dv' l' dead' := by
  have hr := h.o.lt
  have mr := h.mr
  have rg := h.rg
  have hb := h.b
  have nm : ∀ i, i ≤ gr → ¬ SO g lv dv i := fun i hi e => by
    rcases e with e | e | e
    · omega
    · have := h.ll i e; omega
    · have := h.dl i e; omega
  refine ⟨hs, h.k.trans k (fun i hi e => nm i (by omega) e), k.cell h.m (nm gm (by omega)), keepsS_open k (nm gr (by omega)) h.o, keepsS_row k (nm gr (by omega)) h.o h.s, fun i hi => ?_, fun i hi => ?_, mr, rg, hb⟩
  · rcases hl i hi with h1 | h1
    · exact h.ll i h1
    · omega
  · rcases hd i hi with h1 | h1
    · exact h.dl i h1
    · omega
theorem RunAt.no {w0 wr w' : World} {gm gr g : Nat} {mp lv ov gv dv : Value} {l : List Bd} {dead : List Nam} (h : RunAt w0 wr gm gr g mp lv ov gv dv l dead) (k : Keeps No wr w') : RunAt w0 w' gm gr g mp lv ov gv dv l dead :=
  h.step (k.mono (fun _ _ h => h.elim)) (h.st.no k) (fun _ hi => .inl hi) (fun _ hi => .inl hi)
theorem SD_SO {g : Nat} {lv dv : Value} {i : Nat} (h : SD g dv i) : SO g lv dv i := h.imp id .inr
/-- those who stay, gathered -/
structure OwnRel (w9 wr : World) (g : Nat) (a : List Value) (ov : Value) (b : List Value) (l : List Bd) : Prop where
  c : cellsAt wr g 0 5 = some (a ++ ov :: b)
  o : OwnOf cBd 38 wr w9.heap.size ov l
  k : Keeps (Own g) w9 wr
  op : Open wr g
  sz : (rowD wr g).size = 5
theorem OwnRel.no {w9 wr w' : World} {g : Nat} {a : List Value} {ov : Value} {b : List Value} {l : List Bd} (h : OwnRel w9 wr g a ov b l) (k : Keeps No wr w') : OwnRel w9 w' g a ov b l :=
  ⟨k.cellsAt h.c, k.owns h.o (fun _ _ h => h), h.k.trans (k.mono (fun _ _ h => h.elim)) (fun _ _ h => h), k.opened h.op, k.rowSize h.op h.sz⟩
theorem OwnRel.put {w9 wr w' : World} {g n : Nat} {a : List Value} {ov v' : Value} {b : List Value} {l l' : List Bd} (h : OwnRel w9 wr g a ov b l) (ha : a.length = n) (hg : g < w9.heap.size) (k : Keeps (Of ov) wr w') (ho : OwnOf cBd 38 w' w9.heap.size v' l') : OwnRel w9 (w'.setCell ⟨g, n, none⟩ v') g a v' b l' := by
  have ks := keeps_set (W := w') g n v'
  have hlt : ∀ i, Of ov i → w9.heap.size ≤ i := fun i hi => (h.o.lt i hi).1
  have ng : ¬ Of ov g := fun e => by have := hlt g e; omega
  have og : ∀ i, v'.ownBlock = some i → ¬ Own g i := fun i hi e => by
    have e : i = g := e
    have := (ho.lt i hi).1
    omega
  subst ha
  exact ⟨cells_setN _ _ (keepsS_cells k ng h.c) (by simp), ks.owns ho og, (h.k.trans k (fun i hi e => by have := hlt i e; omega)).trans ks (fun i _ e => e), by rw [open_setCell]; exact keepsS_open k ng h.op, by rw [rowD_setCell_at]; simpa using keepsS_row k ng h.op h.sz⟩
/-- what a tick leaves -/
def RunPost (w : World) (l : List Bd) (e : Ending) (w' : World) : Prop := ∃ (ov gv dv : Value), e = .returned (.agg #[ov, gv, dv]) ∧ OwnOf cBd 38 w' w.heap.size ov l ∧ Keeps No w w'

set_option maxRecDepth 100000 in
set_option maxHeartbeats 16000000 in
theorem run_any (w : World) (m : Nat) (z : Zf) (hz : z.ok) (hm : cellsAt w m 0 11 = some (zmC z)) (v cv : Value) (l : List Bd) (cs : List Cm) (hv : RdOf cBd w v l) (hcv : RdOf cCm w cv cs) (hs : SortedB l) (hl : l.length + cs.length ≤ 1000) (hok : ∀ b ∈ l, b.ok) (hco : ∀ c ∈ cs, c.ok) :
    Calls Tryz.prog 11 #[.pointer (some ⟨m, 0, none⟩), .int .i64 (-1), v, .slice none 0 0, cv] w (RunPost w (runL z l cs)) := by
  obtain ⟨ca, cc, rfl⟩ := hcv.slice
  obtain ⟨va, vc, rfl⟩ := hv.slice
  have NN : 1 ≤ z.c * z.r ∧ z.c * z.r ≤ 16 := by
    have c1 := hz.c1
    have c2 := hz.c2
    have r1 := hz.r1
    have r2 := hz.r2
    have hc : z.c = 1 ∨ z.c = 2 ∨ z.c = 3 ∨ z.c = 4 := by omega
    rcases hc with hc | hc | hc | hc <;> rw [hc] <;> omega
  have HCT := Lib.hid (fun W (hW : cellsAt W m 0 11 = some (zmC z)) => mapCount_any W m z hW (by omega) (by omega))
  obtain ⟨N, hN⟩ : ∃ N, N = z.c * z.r := ⟨_, rfl⟩
  rw [← hN] at HCT NN
  have hN1 : ¬ ((-1 : Int) ≥ N) := by omega
  have hN2 : (-1 : Int) < N := by omega
  have HZ := Lib.hid hz
  have HM := Lib.hid hm
  have HV := Lib.hid hv
  have HCV := Lib.hid hcv
  have HSS := Lib.hid hs
  have HL := Lib.hid hl
  have HOK := Lib.hid hok
  have HCO := Lib.hid hco
  have lm : m < w.heap.size := block_lt_of_cell (cellsAt_cell hm 0 _ rfl)
  have LM := Lib.hid lm
  have hni : (cs.length : Int) ≤ 1000 := by omega
  have mx := mixed
  clear NN hN hz hm hv hcv hs hl hok hco lm
  go_enter Tryz.func11, Tryz.ntmps11
  go_upto_region 1 with fail
  refine wp_world ?_
  intro W hW
  have KW : Hid (Keeps No w W) := Lib.hid (by rw [hW]; exact ((Keeps.refl w).alloc _).alloc _)
  have c0 : W.cell? ⟨w.heap.size, 0, none⟩ = some (.pointer (some ⟨m, 0, none⟩)) := by rw [hW]; simp [go_sem]
  have or : Hid (Open W (w.heap.size + 1) ∧ (rowD W (w.heap.size + 1)).size = 3 ∧ W.heap.size = w.heap.size + 2) := Lib.hid (by rw [hW]; exact ⟨by simp [go_sem], by simp [go_sem], by simp⟩)
  clear hW
  go_wp2_with (first | (go_at_call 21; have hc := HCT.out; with_reducible refine (hc _ (KW.out.cellsAt HM.out)).mono ?_; rintro e w1 ⟨rfl, hg⟩; clear hc))
  have K1 : Hid (Keeps No w w1) := Lib.hid (KW.out.trans hg.keeps (fun _ _ h => h))
  have o1 : Hid (Open w1 (w.heap.size + 1) ∧ (rowD w1 (w.heap.size + 1)).size = 3 ∧ w.heap.size + 2 ≤ w1.heap.size) := Lib.hid ⟨hg.keeps.opened or.out.1, hg.keeps.rowSize or.out.1 or.out.2.1, by have := hg.keeps.size; have := or.out.2.2; omega⟩
  have c1 := hg.keeps.cell c0 (fun h => h)
  obtain ⟨gm, hgm⟩ : ∃ g, g = w.heap.size := ⟨_, rfl⟩
  obtain ⟨gr, hgr⟩ : ∃ g, g = w.heap.size + 1 := ⟨_, rfl⟩
  have HG := Lib.hid (And.intro hgm hgr)
  rw [← hgr] at o1 ⊢
  rw [← hgm] at c1 ⊢
  clear hg c0 or KW hgm hgr HCT hN1 hN2
  go_region_held3 (fun w' => w'.cell? ⟨gm, 0, none⟩ = some (.pointer (some ⟨m, 0, none⟩))) (first | exact c1 | exact ((Keeps.refl (S := No) _).alloc _).cell c1 (fun h => h))
    (first
      | (go_at_call 22
         refine (sorted_any (HV.out.kept (K1.out.drew) (fun _ _ h => h)) HSS.out (by have := HL.out; omega)).mono ?_
         rintro e w2 ⟨lv, rfl, ho, hk⟩
         obtain ⟨la, lc, rfl⟩ := ownsRow_slice ho
         have O2 := Lib.hid ho
         have K2 : Hid (Keeps No w1 w2) := Lib.hid (((Keeps.refl w1).drew).trans hk (fun _ _ h => h))
         have c2 := K2.out.cell c1 (fun h => h)
         clear ho hk c1
         have c1 := c2
         clear c2))
  have R3 : Hid (RunAt w (w2.alloc (.cells #[.pointer (some ⟨m, 0, none⟩), .slice la l.length lc, .slice none 0 0, .slice none 0 0, .slice none 0 0] 79)) gm gr w2.heap.size (.pointer (some ⟨m, 0, none⟩)) (.slice la l.length lc) (.slice none 0 0) (.slice none 0 0) (.slice none 0 0) l []) := Lib.hid (by
    have hs2 := K2.out.size
    have hs1 := o1.out.2.2
    have hgm := HG.out.1
    have hgr := HG.out.2
    have hb1 : ∀ i, (Value.slice la l.length lc).ownBlock = some i → w1.heap.size ≤ i ∧ i < w2.heap.size := fun i hi => ⟨(O2.out.lt i hi).1, (O2.out.lt i hi).2⟩
    have ka := (Keeps.refl (S := No) w2).alloc (.cells #[.pointer (some ⟨m, 0, none⟩), .slice la l.length lc, .slice none 0 0, .slice none 0 0, .slice none 0 0] 79)
    refine ⟨⟨by simp [go_sem], by simp [go_sem], by simp [go_sem], ka.owns (ownsRow_base O2.out (by show w.heap.size ≤ w1.heap.size; omega)) (fun _ _ h => h), World.ownsRow_nil _ _ _ _, (fun e => by have := (hb1 _ e).2; omega), (fun e => by cases e)⟩, (K1.out.trans K2.out (fun _ _ h => h)).trans ka (fun _ _ h => h), ka.cell c1 (fun h => h), ka.opened (K2.out.opened o1.out.1), ka.rowSize (K2.out.opened o1.out.1) (K2.out.rowSize o1.out.1 o1.out.2.1), (fun i hi => by have := (hb1 i hi).1; omega), (fun i hi => by cases hi), by omega, by omega, by omega⟩)
  obtain ⟨g, hg⟩ : ∃ g, g = w2.heap.size := ⟨_, rfl⟩
  obtain ⟨w3, hw3⟩ : ∃ x, x = (w2.alloc (.cells #[.pointer (some ⟨m, 0, none⟩), .slice la l.length lc, .slice none 0 0, .slice none 0 0, .slice none 0 0] 79)) := ⟨_, rfl⟩
  rw [← hg] at R3 ⊢
  rw [← hw3] at R3 ⊢
  clear hg hw3 c1 O2 K2 K1 o1
  have c1 := R3.out.m
  have m3 := R3.out.k.cell (cellsAt_cell HM.out 3 _ rfl) (fun h => h)
  simp only [Nat.zero_add] at m3
  go_wp2_with fail
  refine (hits_any w3 _ l (HV.out.kept R3.out.k (fun _ _ h => h)) HSS.out (by have := HL.out; omega) z.u).mono ?_
  rintro e w4 ⟨hv, rfl, ho, hk⟩
  have O4 := Lib.hid ho
  have K4 := Lib.hid hk
  have HHL := Lib.hid (hitsOf_len z.u l l)
  obtain ⟨hs, hhs⟩ : ∃ x, x = hitsOf z.u l l := ⟨_, rfl⟩
  rw [← hhs] at O4 HHL
  have HH := Lib.hid hhs
  have ho2 := O4.out
  obtain ⟨ha, hc, rfl⟩ := ownsRow_slice ho2
  clear ho ho2 hk c1 m3 hhs
  go_wp2_with fail
  have R4 := Lib.hid (R3.out.no K4.out)
  have R5 : Hid (RunAt w (w4.alloc (.cells #[.slice ha hs.length hc] 80)) gm gr g (.pointer (some ⟨m, 0, none⟩)) (.slice la l.length lc) (.slice none 0 0) (.slice none 0 0) (.slice none 0 0) l []) := Lib.hid (R4.out.no ((Keeps.refl w4).alloc _))
  have q5 : Hid ((w4.alloc (.cells #[.slice ha hs.length hc] 80)).cell? ⟨w4.heap.size, 0, none⟩ = some (.slice ha hs.length hc)) := Lib.hid (by simp [go_sem])
  have H5 : Hid (RdOf cHt (w4.alloc (.cells #[.slice ha hs.length hc] 80)) (.slice ha hs.length hc) hs) := Lib.hid ((OwnOf.reads O4.out).kept ((Keeps.refl (S := No) w4).alloc _) (fun _ _ h => h))
  have NG : Hid (¬ SD g (.slice none 0 0) w4.heap.size ∧ ∀ i, (Value.slice ha hs.length hc).ownBlock = some i → ¬ SD g (.slice none 0 0) i) := Lib.hid (by
    have hg := R3.out.st.o.lt
    have hs4 := K4.out.size
    refine ⟨fun e => ?_, fun i hi e => ?_⟩
    · rcases e with e | e
      · omega
      · cases e
    · have := (O4.out.lt i hi).1
      rcases e with e | e
      · omega
      · cases e)
  obtain ⟨gh, hgh⟩ : ∃ g, g = w4.heap.size := ⟨_, rfl⟩
  obtain ⟨w5, hw5⟩ : ∃ x, x = (w4.alloc (.cells #[.slice ha hs.length hc] 80)) := ⟨_, rfl⟩
  rw [← hgh] at q5 NG ⊢
  rw [← hw5] at q5 R5 H5 ⊢
  clear hgh hw5 R4 R3 K4 O4
  have HA5 : Hid (AnswersB Tryz.prog (SD g (.slice none 0 0)) w5 25 #[.pointer (some ⟨gh, 0, none⟩)] (hitF hs)) := Lib.hid ⟨fun _ _ => by kernel_rfl, fun W2 b hk2 hb2 => run1_any W2 gh _ hs (hk2.cell q5.out NG.out.1) (H5.out.kept hk2 NG.out.2) (by have := HHL.out; have := HL.out; omega) b hb2.hp⟩
  refine (each_any w5 g w.heap.size _ _ _ _ _ l [] R5.out.st R5.out.k.size (by have := HL.out; omega) (by simp) HOK.out _ _ _ HA5.out).mono ?_
  rintro e w6 ⟨rfl, lv6, dv6, hst, hk6, hf1, hf2⟩
  have R6 := Lib.hid (R5.out.step (hk6.mono (fun _ _ h => SD_SO h)) hst (fun i hi => .inr (hf1 i hi)) hf2)
  have HLN := Lib.hid (left_len (hitF hs) l)
  obtain ⟨l1, hl1⟩ : ∃ x, x = leftOf (hitF hs) l := ⟨_, rfl⟩
  obtain ⟨d1, hd1⟩ : ∃ x, x = [] ++ goneOf (hitF hs) l := ⟨_, rfl⟩
  have HOK1 : Hid (∀ b ∈ l1, b.ok) := Lib.hid (by rw [hl1]; exact leftOf_ok (fun b hb h => hitF_ok hb _ h) HOK.out)
  have HN1 : Hid (l1.length + d1.length = l.length) := Lib.hid (by rw [hl1, hd1, List.nil_append]; exact HLN.out)
  have HR1 : Hid (runL z l cs = leftOf (fun b => ageB (moveB z b)) (cmdsL z l1 cs)) := Lib.hid (by rw [hl1, HH.out]; rfl)
  rw [← hl1, ← hd1] at R6
  clear hst hk6 hf1 hf2 HA5 NG q5 H5 R5 hl1 hd1 HLN
  go_wp2_with fail
  go_loopw [48] (fun q wr => ∃ k : Nat, k ≤ cs.length ∧ q = .int .i64 k ∧ ∃ (lv dv : Value) (dead : List Nam), RunAt w wr gm gr g (.pointer (some ⟨m, 0, none⟩)) lv (.slice none 0 0) (.slice none 0 0) dv (cmdsL z l1 (cs.take k)) dead ∧ (cmdsL z l1 (cs.take k)).length + dead.length ≤ l.length + k) (fun q _ => cs.length - (intOf q).toNat)
  case atStart => exact ⟨0, Nat.zero_le _, rfl, lv6, dv6, d1, R6.out, by have := HN1.out; show l1.length + d1.length ≤ _; omega⟩
  case round =>
    obtain ⟨k, hkc, rfl, lv, dv, dead, hR, hN⟩ := hrel
    obtain ⟨wo, hwo⟩ : ∃ z : World, z = wr := ⟨_, rfl⟩
    subst hwo
    have R := Lib.hid hR
    have HND := Lib.hid hN
    have hk0 : (0 : Int) ≤ (k : Int) := by omega
    clear hR hN
    by_cases hlt : k < cs.length
    · have hlti : (k : Int) < (cs.length : Int) := by omega
      have hrr : RdOf cCm wo (.slice ca cs.length cc) cs := HCV.out.kept R.out.k (fun _ _ h => h)
      obtain ⟨gc, off, rfl, _, _, _⟩ := RdOf.addr cCm hrr (by omega)
      have c16 := RdOf.at cCm hrr k hlt
      have HS1 := Lib.hid (cmdsL_succ z l1 cs k hlt)
      have HCK : Hid (cs[k].ok) := Lib.hid (HCO.out _ (List.getElem_mem hlt))
      have HOKk : Hid (∀ b ∈ cmdsL z l1 (cs.take k), b.ok) := Lib.hid (cmdsL_ok (fun c hc => HCO.out c (List.mem_of_mem_take hc)) HOK1.out)
      obtain ⟨c, hc⟩ : ∃ c, c = cs[k] := ⟨_, rfl⟩
      rw [← hc] at HS1 HCK
      have c17 : cellsAt wo gc (off + k * 16) 16 = some (cmC c) := by rw [hc]; exact c16
      obtain ⟨lk, hlk⟩ : ∃ x, x = cmdsL z l1 (cs.take k) := ⟨_, rfl⟩
      rw [← hlk] at R HND HS1 HOKk
      clear c16 hc hrr hlk
      go_wp2_with fail
      have RA : Hid (RunAt w (wo.alloc (.cells (cmC c).toArray 89)) gm gr g (.pointer (some ⟨m, 0, none⟩)) lv (.slice none 0 0) (.slice none 0 0) dv lk dead) := Lib.hid (R.out.no ((Keeps.refl wo).alloc _))
      refine (obeyS_any _ g w.heap.size m z HZ.out (RA.out.k.cellsAt HM.out) lv _ _ dv lk dead RA.out.st RA.out.k.size (by have := HND.out; have := HL.out; omega) (by have := HND.out; have := HL.out; omega) HOKk.out c).mono ?_
      rintro e w8 ⟨rfl, lv8, dv8, hst, hk8, hf1, hf2⟩
      have R8 := Lib.hid (RA.out.step hk8 hst hf1 hf2)
      have HCL := Lib.hid (cmd_len z lk c)
      clear hst hk8 hf1 hf2 c17
      go_wp2
      go_roundw
      case rel => exact ⟨k + 1, by omega, by go_num, lv8, dv8, dead ++ cmdD lk c, by rw [HS1.out]; exact R8.out, by rw [HS1.out, List.length_append]; have := HCL.out; have := HND.out; omega⟩
      case measure => simp [intOf]; omega
    · have hke : k = cs.length := by omega
      subst hke
      have hT : cs.take cs.length = cs := List.take_of_length_le (Nat.le_refl _)
      rw [hT] at R HND
      have hlti : ¬ ((cs.length : Int) < (cs.length : Int)) := by omega
      have HOK2 : Hid (∀ b ∈ cmdsL z l1 cs, b.ok) := Lib.hid (cmdsL_ok HCO.out HOK1.out)
      obtain ⟨l2, hl2⟩ : ∃ x, x = cmdsL z l1 cs := ⟨_, rfl⟩
      rw [← hl2] at R HND HOK2 HR1
      clear hl2 R6 HOK1 HN1
      go_wp2_with fail
      have NG2 : Hid (¬ SD g dv gm ∧ ¬ SD g dv m) := Lib.hid (by
        have h1 := R.out.mr
        have h2 := R.out.rg
        have h3 := R.out.b
        have h4 := LM.out
        refine ⟨fun e => ?_, fun e => ?_⟩ <;> rcases e with e | e
        · omega
        · have := R.out.dl _ e; omega
        · omega
        · have := R.out.dl _ e; omega)
      have HA9 : Hid (AnswersB Tryz.prog (SD g dv) wo 28 #[.pointer (some ⟨gm, 0, none⟩)] (fun b => ageB (moveB z b))) := Lib.hid ⟨fun _ _ => by kernel_rfl, fun W2 b hk2 hb2 => run2_any W2 gm m z HZ.out (hk2.cell R.out.m NG2.out.1) (keepsS_cells hk2 NG2.out.2 (R.out.k.cellsAt HM.out)) b hb2.lf⟩
      refine (each_any wo g w.heap.size _ _ _ _ _ l2 dead R.out.st R.out.k.size (by have := HL.out; have := HND.out; omega) (by have := HL.out; have := HND.out; omega) HOK2.out _ _ _ HA9.out).mono ?_
      rintro e w9 ⟨rfl, lv9, dv9, hst, hk9, hf1, hf2⟩
      have R9 := Lib.hid (R.out.step (hk9.mono (fun _ _ h => SD_SO h)) hst (fun i hi => .inr (hf1 i hi)) hf2)
      have HLN := Lib.hid (left_len (fun b => ageB (moveB z b)) l2)
      obtain ⟨l3, hl3⟩ : ∃ x, x = leftOf (fun b => ageB (moveB z b)) l2 := ⟨_, rfl⟩
      obtain ⟨d3, hd3⟩ : ∃ x, x = dead ++ goneOf (fun b => ageB (moveB z b)) l2 := ⟨_, rfl⟩
      have HN3 : Hid (l3.length ≤ 1000 ∧ d3.length ≤ 1000) := Lib.hid (by
        have h1 := HLN.out
        have h2 := HND.out
        have h3 := HL.out
        rw [hl3, hd3, List.length_append]
        omega)
      have HRL : Hid (runL z l cs = l3) := Lib.hid (by rw [HR1.out, hl3])
      rw [← hl3, ← hd3] at R9
      obtain ⟨xa, xc, rfl⟩ := ownsRow_slice R9.out.st.l
      clear hst hk9 hf1 hf2 HA9 NG2 hl3 hd3 HLN R HND HR1 HOK2
      have y1 := cellsAt_cell R9.out.st.c 1 _ rfl
      simp only [Nat.zero_add] at y1
      have hn3 : (l3.length : Int) ≤ 1000 := by have := HN3.out.1; omega
      go_wp2_with fail
      have e0 : OwnRel w9 w9 g [.pointer (some ⟨m, 0, none⟩), .slice xa l3.length xc] (.slice none 0 0) [.slice none 0 0, dv9] [] := ⟨R9.out.st.c, World.ownsRow_nil _ _ _ _, Keeps.refl _, R9.out.st.o, R9.out.st.s⟩
      have E0 := Lib.hid e0
      clear e0 y1
      go_loopw [65] (fun q wr => ∃ k : Nat, k ≤ l3.length ∧ q = .int .i64 k ∧ ∃ ov : Value, OwnRel w9 wr g [.pointer (some ⟨m, 0, none⟩), .slice xa l3.length xc] ov [.slice none 0 0, dv9] (l3.take k)) (fun q _ => l3.length - (intOf q).toNat)
      case atStart => exact ⟨0, Nat.zero_le _, rfl, _, E0.out⟩
      case round =>
        obtain ⟨k, hkl, rfl, ov, hE⟩ := hrel
        obtain ⟨wo2, hwo2⟩ : ∃ z : World, z = wr := ⟨_, rfl⟩
        subst hwo2
        have E := Lib.hid hE
        have hk0 : (0 : Int) ≤ (k : Int) := by omega
        have hti : (l3.take k).length = k := by rw [List.length_take]; omega
        clear hE
        by_cases hlt3 : k < l3.length
        · have hlti : (k : Int) < (l3.length : Int) := by omega
          have hrr : RdOf cBd wo2 (.slice xa l3.length xc) l3 := (OwnOf.reads R9.out.st.l).kept E.out.k (fun i hi e => by
            have e : i = g := e
            rw [e] at hi
            exact R9.out.st.lg hi)
          obtain ⟨gl, off, rfl, _, _, _⟩ := RdOf.addr cBd hrr (by omega)
          have c11 := RdOf.at cBd hrr k hlt3
          have HS1 := Lib.hid (List.take_succ_eq_append_getElem hlt3)
          obtain ⟨b, hb⟩ : ∃ b, b = l3[k] := ⟨_, rfl⟩
          rw [← hb] at HS1
          have c12 : cellsAt wo2 gl (off + k * 11) 11 = some (bdC b) := by rw [hb]; exact c11
          obtain ⟨oa, oc, rfl⟩ := ownsRow_slice E.out.o
          clear c11 hb hrr
          go_wp2_with fail
          have hg9 := R9.out.st.o.lt
          have HG9 := Lib.hid hg9
          have HTL : Hid ((l3.take k).length ≤ 1000) := Lib.hid (by have := HN3.out.1; omega)
          obtain ⟨L, hL⟩ : ∃ x, x = l3.take k := ⟨_, rfl⟩
          rw [← hL] at E HS1 HTL
          clear hL hti
          have EA : Hid (OwnRel w9 (wo2.alloc (.cells (bdC b).toArray 38)) g [.pointer (some ⟨m, 0, none⟩), .slice (some ⟨gl, off, none⟩) l3.length xc] (.slice oa L.length oc) [.slice none 0 0, dv9] L) := Lib.hid (E.out.no ((Keeps.refl wo2).alloc _))
          have cbx : cellsAt (wo2.alloc (.cells (bdC b).toArray 38)) wo2.heap.size 0 11 = some (bdC b) := by simp [go_sem]
          have y2 := cellsAt_cell EA.out.c 2 _ rfl
          simp only [Nat.zero_add] at y2
          have NX0 : ∀ i, Of (.slice oa L.length oc) i → i < wo2.heap.size := fun i hi => (E.out.o.lt i hi).2
          obtain ⟨gx, hgx⟩ : ∃ z, z = wo2.heap.size := ⟨_, rfl⟩
          rw [← hgx] at NX0
          have NX : Hid (¬ Of (.slice oa L.length oc) gx) := Lib.hid (fun e => by have := NX0 _ e; omega)
          clear NX0
          obtain ⟨wa, hwa⟩ : ∃ z, z = wo2.alloc (.cells (bdC b).toArray 38) := ⟨_, rfl⟩
          rw [← hwa] at EA cbx y2
          rw [← hgx] at cbx ⊢
          show Code.wp _ _ _ _ (wo2.alloc (.cells (bdC b).toArray 38))
          rw [← hwa]
          clear hwa hgx
          refine wp_region_late (fun _ => True) (fun w' => w'.cell? ⟨g, 2, none⟩ = some (.slice oa L.length oc) ∧ cellsAt w' gx 0 11 = some (bdC b)) (fun j => j == 12) (by kernel_rfl) ?_
          first
            | (refine takeW (i := 0) (v := ?_) rfl rfl (by kernel_rfl) (by kernel_rfl) (by kernel_rfl) rfl (fun _ _ _ h => h) (Or.inl ⟨by rfl, ?_⟩) trivial (fun _ => ⟨y2,cbx⟩) ?_; rotate_left; focus (intro w hSw; (try dsimp only at hSw); go_simp; (try rfl); done))
            | (refine takeL (i := 0) (v := ?_) rfl rfl (by kernel_rfl) (by kernel_rfl) (by kernel_rfl) (by kernel_rfl) (noLate_of (by kernel_rfl)) (fun _ _ _ h => h) (Or.inl ⟨by rfl, ?_⟩) trivial ⟨y2,cbx⟩ ?_; rotate_left; focus (intro w hSw; (try dsimp only at hSw); go_simp; (try rfl); done))
          try simp only [List.setIfInBounds_toArray, List.set_cons_zero, List.set_cons_succ]
          first
            | (refine takeW (i := 1) (v := ?_) rfl rfl (by kernel_rfl) (by kernel_rfl) (by kernel_rfl) rfl (fun _ _ _ h => h) (Or.inl ⟨by rfl, ?_⟩) trivial (fun _ => ⟨y2,cbx⟩) ?_; rotate_left; focus (intro w hSw; (try dsimp only at hSw); go_simp; (try rfl); done))
            | (refine takeL (i := 1) (v := ?_) rfl rfl (by kernel_rfl) (by kernel_rfl) (by kernel_rfl) (by kernel_rfl) (noLate_of (by kernel_rfl)) (fun _ _ _ h => h) (Or.inl ⟨by rfl, ?_⟩) trivial ⟨y2,cbx⟩ ?_; rotate_left; focus (intro w hSw; (try dsimp only at hSw); go_simp; (try rfl); done))
          try simp only [List.setIfInBounds_toArray, List.set_cons_zero, List.set_cons_succ]
          first
            | (refine takeW (i := 2) (v := ?_) rfl rfl (by kernel_rfl) (by kernel_rfl) (by kernel_rfl) rfl (fun _ _ _ h => h) (Or.inl ⟨by rfl, ?_⟩) trivial (fun _ => ⟨y2,cbx⟩) ?_; rotate_left; focus (intro w hSw; (try dsimp only at hSw); go_simp; (try rfl); done))
            | (refine takeL (i := 2) (v := ?_) rfl rfl (by kernel_rfl) (by kernel_rfl) (by kernel_rfl) (by kernel_rfl) (noLate_of (by kernel_rfl)) (fun _ _ _ h => h) (Or.inl ⟨by rfl, ?_⟩) trivial ⟨y2,cbx⟩ ?_; rotate_left; focus (intro w hSw; (try dsimp only at hSw); go_simp; (try rfl); done))
          try simp only [List.setIfInBounds_toArray, List.set_cons_zero, List.set_cons_succ]
          first
            | (refine takeW (i := 3) (v := ?_) rfl rfl (by kernel_rfl) (by kernel_rfl) (by kernel_rfl) rfl (fun _ _ _ h => h) (Or.inl ⟨by rfl, ?_⟩) trivial (fun _ => ⟨y2,cbx⟩) ?_; rotate_left; focus (intro w hSw; (try dsimp only at hSw); go_simp; (try rfl); done))
            | (refine takeL (i := 3) (v := ?_) rfl rfl (by kernel_rfl) (by kernel_rfl) (by kernel_rfl) (by kernel_rfl) (noLate_of (by kernel_rfl)) (fun _ _ _ h => h) (Or.inl ⟨by rfl, ?_⟩) trivial ⟨y2,cbx⟩ ?_; rotate_left; focus (intro w hSw; (try dsimp only at hSw); go_simp; (try rfl); done))
          try simp only [List.setIfInBounds_toArray, List.set_cons_zero, List.set_cons_succ]
          first
            | (refine takeW (i := 4) (v := ?_) rfl rfl (by kernel_rfl) (by kernel_rfl) (by kernel_rfl) rfl (fun _ _ _ h => h) (Or.inl ⟨by rfl, ?_⟩) trivial (fun _ => ⟨y2,cbx⟩) ?_; rotate_left; focus (intro w hSw; (try dsimp only at hSw); go_simp; (try rfl); done))
            | (refine takeL (i := 4) (v := ?_) rfl rfl (by kernel_rfl) (by kernel_rfl) (by kernel_rfl) (by kernel_rfl) (noLate_of (by kernel_rfl)) (fun _ _ _ h => h) (Or.inl ⟨by rfl, ?_⟩) trivial ⟨y2,cbx⟩ ?_; rotate_left; focus (intro w hSw; (try dsimp only at hSw); go_simp; (try rfl); done))
          try simp only [List.setIfInBounds_toArray, List.set_cons_zero, List.set_cons_succ]
          first
            | (refine takeW (i := 5) (v := ?_) rfl rfl (by kernel_rfl) (by kernel_rfl) (by kernel_rfl) rfl (fun _ _ _ h => h) (Or.inl ⟨by rfl, ?_⟩) trivial (fun _ => ⟨y2,cbx⟩) ?_; rotate_left; focus (intro w hSw; (try dsimp only at hSw); go_simp; (try rfl); done))
            | (refine takeL (i := 5) (v := ?_) rfl rfl (by kernel_rfl) (by kernel_rfl) (by kernel_rfl) (by kernel_rfl) (noLate_of (by kernel_rfl)) (fun _ _ _ h => h) (Or.inl ⟨by rfl, ?_⟩) trivial ⟨y2,cbx⟩ ?_; rotate_left; focus (intro w hSw; (try dsimp only at hSw); go_simp; (try rfl); done))
          try simp only [List.setIfInBounds_toArray, List.set_cons_zero, List.set_cons_succ]
          first
            | (refine takeW (i := 6) (v := ?_) rfl rfl (by kernel_rfl) (by kernel_rfl) (by kernel_rfl) rfl (fun _ _ _ h => h) (Or.inl ⟨by rfl, ?_⟩) trivial (fun _ => ⟨y2,cbx⟩) ?_; rotate_left; focus (intro w hSw; (try dsimp only at hSw); go_simp; (try rfl); done))
            | (refine takeL (i := 6) (v := ?_) rfl rfl (by kernel_rfl) (by kernel_rfl) (by kernel_rfl) (by kernel_rfl) (noLate_of (by kernel_rfl)) (fun _ _ _ h => h) (Or.inl ⟨by rfl, ?_⟩) trivial ⟨y2,cbx⟩ ?_; rotate_left; focus (intro w hSw; (try dsimp only at hSw); go_simp; (try rfl); done))
          try simp only [List.setIfInBounds_toArray, List.set_cons_zero, List.set_cons_succ]
          have EB : Hid (OwnRel w9 (wa.alloc (.cells (bdC b).toArray 38)).drew g [.pointer (some ⟨m, 0, none⟩), .slice (some ⟨gl, off, none⟩) l3.length xc] (.slice oa L.length oc) [.slice none 0 0, dv9] L) := Lib.hid (EA.out.no (((Keeps.refl wa).alloc _).drew))
          have hlit : Hid (Reads (wa.alloc (.cells (bdC b).toArray 38)).drew 11 (.slice (some ⟨wa.heap.size, 0, none⟩) 1 1) 1 (bdC b)) := Lib.hid (Reads.kept (S := No) ((Keeps.refl _).drew) (Reads.ofOwn (World.ownsRow_lit (base := 0) (e := 38) (size := 11) wa (bdC b).toArray 1 (Nat.zero_le _) (by unfold maxLen; omega) rfl) (cBd.one b)) (fun _ _ h => h))
          have y3 := cellsAt_cell EB.out.c 2 _ rfl
          have cb3 : cellsAt (wa.alloc (.cells (bdC b).toArray 38)).drew gx 0 11 = some (bdC b) := (((Keeps.refl (S := No) wa).alloc _).drew).cellsAt cbx
          simp only [Nat.zero_add] at y3
          refine readyL (rs := [7]) (by kernel_rfl) (by simp) ?_
          refine AllReadyL.cons rfl (fun K hK => ?_) AllReadyL.nil
          go_simp
          obtain ⟨wb, hwb⟩ : ∃ x, x = (wa.alloc (.cells (bdC b).toArray 38)).drew := ⟨_, rfl⟩
          rw [← hwb] at EB hlit y3 cb3 ⊢
          refine hK.out _ _ trivial (fun _ => ⟨y3, cb3⟩) ?_
          clear hK K hwb
          obtain ⟨i0, hi, hz0, hz1, hz2⟩ := info_parts Tryz.infoBd
          have B1 : Hid (L.length + 1 ≤ maxLen) := Lib.hid (by have := HTL.out; unfold maxLen; omega)
          have B2 : Hid ((L.length + 1) * 88 ≤ 140737488355328) := Lib.hid (by have := HTL.out; omega)
          have B3 : Hid (w9.heap.size ≤ wb.heap.size) := Lib.hid EB.out.k.size
          refine readyL (rs := [8]) (by kernel_rfl) (by simp) ?_
          refine AllReadyL.cons rfl (fun K hK => ?_) AllReadyL.nil
          refine step_append_reads (by rfl) (.tmp 86) (.tmp 88) 27 (by rfl) w9.heap.size 38 i0 _ 11 88 Tryz.underlying27 hi hz0 hz1 hz2 (by rfl) (by decide) (.slice oa L.length oc) L.length (rowsOf cBd L) (by rfl) EB.out.o _ 1 (bdC b) (by rfl) hlit.out B1.out B2.out B3.out ?_
          intro v' wc ho8 hk8 hb8 _
          have O8 : Hid (OwnOf cBd 38 wc w9.heap.size v' (L ++ [b])) := Lib.hid (by
            unfold OwnOf
            rw [List.length_append, rowsOf_append, rowsOf_one]
            exact ho8)
          have K8 := Lib.hid hk8
          obtain ⟨ea, ec, rfl⟩ := ownsRow_slice ho8
          have nO : Hid (∀ i, i < w9.heap.size → ¬ Of (.slice oa L.length oc) i) := Lib.hid (fun i hi e => by have := (EB.out.o.lt i e).1; omega)
          have z4 := hk8.cell y3 (nO.out _ HG9.out)
          have zb := keepsS_cells hk8 NX.out cb3
          refine put_of (d := 89) rfl ?_
          simp only [List.setIfInBounds_toArray, List.set_cons_zero, List.set_cons_succ]
          refine hK.out _ _ trivial (fun _ => ⟨z4, zb⟩) ?_
          clear hK K ho8 hk8 hb8
          first
            | (refine takeW (i := 9) (v := ?_) rfl rfl (by kernel_rfl) (by kernel_rfl) (by kernel_rfl) rfl (fun _ _ _ h => h) (Or.inl ⟨by rfl, ?_⟩) trivial (fun _ => ⟨z4,zb⟩) ?_; rotate_left; focus (intro w hSw; (try dsimp only at hSw); go_simp; (try rfl); done))
            | (refine takeL (i := 9) (v := ?_) rfl rfl (by kernel_rfl) (by kernel_rfl) (by kernel_rfl) (by kernel_rfl) (noLate_of (by kernel_rfl)) (fun _ _ _ h => h) (Or.inl ⟨by rfl, ?_⟩) trivial ⟨z4,zb⟩ ?_; rotate_left; focus (intro w hSw; (try dsimp only at hSw); go_simp; (try rfl); done))
          try simp only [List.setIfInBounds_toArray, List.set_cons_zero, List.set_cons_succ]
          first
            | (refine takeW (i := 10) (v := ?_) rfl rfl (by kernel_rfl) (by kernel_rfl) (by kernel_rfl) rfl (fun _ _ _ h => h) (Or.inl ⟨by rfl, ?_⟩) trivial (fun _ => ⟨z4,zb⟩) ?_; rotate_left; focus (intro w hSw; (try dsimp only at hSw); go_simp; (try rfl); done))
            | (refine takeL (i := 10) (v := ?_) rfl rfl (by kernel_rfl) (by kernel_rfl) (by kernel_rfl) (by kernel_rfl) (noLate_of (by kernel_rfl)) (fun _ _ _ h => h) (Or.inl ⟨by rfl, ?_⟩) trivial ⟨z4,zb⟩ ?_; rotate_left; focus (intro w hSw; (try dsimp only at hSw); go_simp; (try rfl); done))
          try simp only [List.setIfInBounds_toArray, List.set_cons_zero, List.set_cons_succ]
          first
            | (refine takeW (i := 11) (v := ?_) rfl rfl (by kernel_rfl) (by kernel_rfl) (by kernel_rfl) rfl (fun _ _ _ h => h) (Or.inl ⟨by rfl, ?_⟩) trivial (fun _ => ⟨z4,zb⟩) ?_; rotate_left; focus (intro w hSw; (try dsimp only at hSw); go_simp; (try rfl); done))
            | (refine takeL (i := 11) (v := ?_) rfl rfl (by kernel_rfl) (by kernel_rfl) (by kernel_rfl) (by kernel_rfl) (noLate_of (by kernel_rfl)) (fun _ _ _ h => h) (Or.inl ⟨by rfl, ?_⟩) trivial ⟨z4,zb⟩ ?_; rotate_left; focus (intro w hSw; (try dsimp only at hSw); go_simp; (try rfl); done))
          try simp only [List.setIfInBounds_toArray, List.set_cons_zero, List.set_cons_succ]
          have f4 := (keepsS_open K8.out (nO.out _ HG9.out) EB.out.op).frozen 2
          refine readyL (rs := [12]) (by kernel_rfl) (by simp) ?_
          refine AllReadyL.cons rfl (fun K hK => ?_) AllReadyL.nil
          go_simp
          have E9 := Lib.hid (EB.out.put (n := 2) rfl HG9.out K8.out O8.out)
          refine hK.out _ _ trivial (late_come 12 rfl (by kernel_rfl)) ?_
          clear hK K
          refine doneL (by kernel_rfl) ?_ _
          clear z4 zb f4 y3 cb3 y2 cbx hi hz0 hz1 hz2
          go_wp2
          go_roundw
          case rel => exact ⟨k + 1, by omega, by go_num, _, by rw [HS1.out]; simpa using E9.out⟩
          case measure => simp [intOf]; omega
        · have hke : k = l3.length := by omega
          subst hke
          have hT3 : l3.take l3.length = l3 := List.take_of_length_le (Nat.le_refl _)
          rw [hT3] at E
          have hlti : ¬ ((l3.length : Int) < (l3.length : Int)) := by omega
          obtain ⟨oa, oc, rfl⟩ := ownsRow_slice E.out.o
          have D0 : Hid (OwnOf cNam 36 wo2 w.heap.size dv9 d3) := Lib.hid (E.out.k.owns R9.out.st.d (fun i hi e => by
            have e : i = g := e
            rw [e] at hi
            exact R9.out.st.dg hi))
          have y4 := cellsAt_cell E.out.c 4 _ rfl
          simp only [Nat.zero_add] at y4
          clear hti
          go_wp2_with fail
          refine (sortID_any wo2 w.heap.size dv9 d3 D0.out (by have := HN3.out.2; omega)).mono ?_
          rintro e wA ⟨rfl, d4, hd4, hoA, hkA⟩
          have DA := Lib.hid hoA
          have KA := Lib.hid hkA
          have HD4 : Hid (d4.length ≤ 1000) := Lib.hid (by rw [hd4]; exact HN3.out.2)
          have nG : Hid (¬ Of dv9 g) := Lib.hid (fun e => R9.out.st.dg e)
          have EA : Hid (OwnRel w9 wA g [.pointer (some ⟨m, 0, none⟩), .slice xa l3.length xc] (.slice oa l3.length oc) [.slice none 0 0, dv9] l3 ∨ True) := Lib.hid (.inr trivial)
          have CA : Hid (cellsAt wA g 0 5 = some [.pointer (some ⟨m, 0, none⟩), .slice xa l3.length xc, .slice oa l3.length oc, .slice none 0 0, dv9]) := Lib.hid (keepsS_cells hkA nG.out E.out.c)
          have OA : Hid (OwnOf cBd 38 wA w9.heap.size (.slice oa l3.length oc) l3) := Lib.hid (hkA.owns E.out.o (rows_apart E.out.o D0.out (by decide)))
          have PA : Hid (Open wA g) := Lib.hid (keepsS_open hkA nG.out E.out.op)
          have y4 := cellsAt_cell CA.out 4 _ rfl
          simp only [Nat.zero_add] at y4
          clear hd4 hoA hkA EA
          go_wp2_with fail
          refine (compact_any wA w.heap.size dv9 d4 DA.out (by have := HD4.out; omega)).mono ?_
          rintro e wB ⟨v', d5, rfl, hoB, hkB, hvB⟩
          have OB : Hid (OwnOf cBd 38 wB w9.heap.size (.slice oa l3.length oc) l3) := Lib.hid (hkB.owns OA.out (rows_apart OA.out DA.out (by decide)))
          have CB : Hid (cellsAt wB g 0 5 = some [.pointer (some ⟨m, 0, none⟩), .slice xa l3.length xc, .slice oa l3.length oc, .slice none 0 0, dv9]) := Lib.hid (keepsS_cells hkB nG.out CA.out)
          have PB : Hid (Open wB g) := Lib.hid (keepsS_open hkB nG.out PA.out)
          have KB : Hid (Keeps No w wB) := Lib.hid (by
            have hgw : w.heap.size ≤ g := by have h1 := R9.out.rg; have h2 := R9.out.mr; have h3 := R9.out.b; omega
            have nd : ∀ i, i < w.heap.size → ¬ Of dv9 i := fun i hi e => by have := (R9.out.st.d.lt i e).1; omega
            exact ((R9.out.k.trans E.out.k (fun i hi e => by have e : i = g := e; omega)).trans KA.out (fun i hi e => nd i hi e)).trans hkB (fun i hi e => nd i hi e))
          have GRR : Hid (Open wB gr ∧ (rowD wB gr).size = 3) := Lib.hid (by
            have n1 : ¬ Own g gr := fun e => by have e : gr = g := e; have := R9.out.rg; omega
            have n2 : ¬ Of dv9 gr := fun e => by have := R9.out.dl gr e; omega
            have o1 := keepsS_open E.out.k n1 R9.out.o
            have o2 := keepsS_open KA.out n2 o1
            exact ⟨keepsS_open hkB n2 o2, keepsS_row hkB n2 o2 (keepsS_row KA.out n2 o1 (keepsS_row E.out.k n1 R9.out.o R9.out.s))⟩)
          obtain ⟨fa, fc, rfl⟩ := ownsRow_slice hoB
          have f4 := PB.out.frozen 4
          have z4 := cellsAt_cell CB.out 4 _ rfl
          simp only [Nat.zero_add] at z4
          have CC : Hid (cellsAt (wB.setCell ⟨g, 4, none⟩ (.slice fa d5.length fc)) g 0 5 = some [.pointer (some ⟨m, 0, none⟩), .slice xa l3.length xc, .slice oa l3.length oc, .slice none 0 0, .slice fa d5.length fc]) := Lib.hid (cells_setN 4 _ CB.out rfl)
          have hne : gr ≠ g := by have := R9.out.rg; omega
          have hne2 : g ≠ gr := by omega
          have KC : Hid (Keeps No w (wB.setCell ⟨g, 4, none⟩ (.slice fa d5.length fc)) ∧ OwnOf cBd 38 (wB.setCell ⟨g, 4, none⟩ (.slice fa d5.length fc)) w9.heap.size (.slice oa l3.length oc) l3 ∧ Open (wB.setCell ⟨g, 4, none⟩ (.slice fa d5.length fc)) gr ∧ (rowD (wB.setCell ⟨g, 4, none⟩ (.slice fa d5.length fc)) gr).size = 3) := Lib.hid (by
            have hgw : w.heap.size ≤ g := by have h1 := R9.out.rg; have h2 := R9.out.mr; have h3 := R9.out.b; omega
            have ks := keeps_set (W := wB) g 4 (.slice fa d5.length fc)
            exact ⟨KB.out.cellNew hgw _, ks.owns OB.out (fun i hi e => by
              have e : i = g := e
              have := (OB.out.lt i hi).1
              have := R9.out.st.o.lt
              omega), keepsS_open ks (fun e => hne e) GRR.out.1, keepsS_row ks (fun e => hne e) GRR.out.1 GRR.out.2⟩)
          have z3 : cellsAt wB g 2 3 = some [.slice oa l3.length oc, .slice none 0 0, dv9] := by
            have h := cellsAt_part CB.out 2 [.slice oa l3.length oc, .slice none 0 0, dv9] rfl (by simp)
            rwa [Nat.zero_add] at h
          have or := GRR.out.1
          have sr := GRR.out.2
          have lr := GRR.out.1.lt
          have FIN : Hid (RunPost w (runL z l cs) (.returned (.agg #[.slice oa l3.length oc, .slice none 0 0, .slice fa d5.length fc])) ((wB.setCell ⟨g, 4, none⟩ (.slice fa d5.length fc)).setRow gr #[.slice oa l3.length oc, .slice none 0 0, .slice fa d5.length fc])) := Lib.hid (by
            have hgr : w.heap.size ≤ gr := by have h2 := R9.out.mr; have h3 := R9.out.b; omega
            have hw9 : w.heap.size ≤ w9.heap.size := R9.out.k.size
            have h9 : gr < w9.heap.size := R9.out.o.lt
            have ks := (Keeps.refl (S := Own gr) (wB.setCell ⟨g, 4, none⟩ (.slice fa d5.length fc))).setRow (g := gr) (fun _ => (rfl : gr = gr)) #[.slice oa l3.length oc, .slice none 0 0, .slice fa d5.length fc]
            rw [HRL.out]
            refine ⟨_, _, _, rfl, ownsRow_base (ks.owns KC.out.2.1 (fun i hi e => ?_)) hw9, KC.out.1.row hgr _⟩
            have e : i = gr := e
            have := (KC.out.2.1.lt i hi).1
            omega)
          clear hoB hkB hvB y4
          go_wp2
          exact bodyPost_ret (v := .agg #[.slice oa l3.length oc, .slice none 0 0, .slice fa d5.length fc]) (by simp [results, Tryz.results11, go_sem, *]) rfl FIN.out
end Go.Proofs.YtcjeocibnfoenaaGreat
