/-
  Texts in one: LhL, LhM. No conditions of their own.
-/
import Derived.Test.YtndjnkjcfdaegaaGreatDoorZh33
set_option linter.all false

/-
  A ledger's records fit, one behind another: what is written can be read again. Plain. No conditions of its own.
-/
namespace Go.Proofs.YtndjnkjcfdaegaaGreatDoor

/-- both stand the same, but for their logs and their errors -/
def Ld.like (l m : Ld) : Prop := l.dk = m.dk ∧ l.ep = m.ep ∧ l.cmds = m.cmds
theorem Ld.like.rfl' (l : Ld) : l.like l := ⟨rfl, rfl, rfl⟩
theorem Ld.fold_like {l m : Ld} (h : l.like m) (r : Lr) : (l.fold r).1 = (m.fold r).1 ∧ (l.fold r).2.like (m.fold r).2 := by
  obtain ⟨ldk, llg, lep, lcm, le⟩ := l
  obtain ⟨mdk, mlg, mep, mcm, me⟩ := m
  obtain ⟨h1, h2, h3⟩ := h
  simp only at h1 h2 h3
  subst h1 h2 h3
  unfold Ld.fold
  simp only
  cases decide (r.k = 1)
  · cases decide (r.k = 2)
    · cases decide (r.k = 3)
      · cases decide (r.k = 4) <;> exact ⟨rfl, rfl, rfl, rfl⟩
      · exact ⟨rfl, rfl, rfl, rfl⟩
    · exact ⟨rfl, rfl, rfl, rfl⟩
  · cases decide (r.n = lep + 1) <;> exact ⟨rfl, rfl, rfl, rfl⟩
/-- the records may be, and fit -/
def Ld.fits : Ld → List Lr → Prop
  | _, [] => True
  | l, r :: rs => mayL r = true ∧ (l.fold r).1 = 0 ∧ Ld.fits (l.fold r).2 rs
theorem Ld.fits_like : ∀ (rs : List Lr) {l m : Ld}, l.like m → l.fits rs → m.fits rs
  | [], _, _, _, _ => trivial
  | r :: rs, l, m, h, hf => by
    obtain ⟨h1, h2⟩ := Ld.fold_like h r
    exact ⟨hf.1, h1 ▸ hf.2.1, Ld.fits_like rs h2 hf.2.2⟩
theorem Ld.run_like : ∀ (rs : List Lr) {l m : Ld}, l.like m → (l.run rs).like (m.run rs)
  | [], _, _, h => h
  | r :: rs, _, _, h => Ld.run_like rs (Ld.fold_like h r).2
theorem Ld.run_append (l : Ld) (a b : List Lr) : l.run (a ++ b) = (l.run a).run b := by
  unfold Ld.run
  rw [List.foldl_append]
theorem Ld.fits_append : ∀ (a b : List Lr) (l : Ld), l.fits (a ++ b) ↔ l.fits a ∧ (l.run a).fits b
  | [], _, _ => ⟨fun h => ⟨trivial, h⟩, fun h => h.2⟩
  | r :: a, b, l => by
    show (mayL r = true ∧ (l.fold r).1 = 0 ∧ (l.fold r).2.fits (a ++ b)) ↔ (mayL r = true ∧ (l.fold r).1 = 0 ∧ (l.fold r).2.fits a) ∧ ((l.fold r).2.run a).fits b
    rw [Ld.fits_append a b]
    constructor
    · rintro ⟨h1, h2, h3, h4⟩
      exact ⟨⟨h1, h2, h3⟩, h4⟩
    · rintro ⟨⟨h1, h2, h3⟩, h4⟩
      exact ⟨h1, h2, h3, h4⟩
theorem Ld.fits_take {l : Ld} {rs : List Lr} (h : l.fits rs) (k : Nat) : l.fits (rs.take k) := by
  rw [← List.take_append_drop k rs, Ld.fits_append] at h
  exact h.1
/-- their texts are read again -/
theorem Ld.replay_fits : ∀ (rs : List Lr) (l : Ld), l.fits rs → l.replay (rs.map encT) = some (l.run rs)
  | [], _, _ => rfl
  | r :: rs, l, h => by
    obtain ⟨h1, h2, h3⟩ := h
    show (bif decide ((decL (encT r)).2 = 0) && decide ((l.fold (decL (encT r)).1).1 = 0) then Ld.replay (l.fold (decL (encT r)).1).2 (rs.map encT) else none) = _
    rw [decL_enc h1]
    simp only
    rw [decide_eq_true h2]
    exact Ld.replay_fits rs _ h3
theorem textsOf_fits : ∀ (rs : List Lr), (∀ r ∈ rs, mayL r = true) → textsOf rs = (rs.map encT).map toB
  | [], _ => rfl
  | r :: rs, h => by
    have h1 : encL r = (encT r, 0) := by unfold encL; rw [h r (List.mem_cons_self ..)]; rfl
    show toB (encL r).1 :: textsOf rs = toB (encT r) :: (rs.map encT).map toB
    rw [h1, textsOf_fits rs (fun x hx => h x (List.mem_cons_of_mem _ hx))]
theorem Ld.fits_may : ∀ (rs : List Lr) {l : Ld}, l.fits rs → ∀ r ∈ rs, mayL r = true
  | [], _, _, _, hr => by cases hr
  | r :: rs, _, h, x, hx => by
    rcases List.mem_cons.1 hx with rfl | hx
    · exact h.1
    · exact Ld.fits_may rs h.2.2 x hx
/-! ### a pool's indices: what is set aside is ahead -/
def Ix.gb (x : Ix) : Prop := x.g ≤ x.b ∧ (x.a = true → x.g < x.b)
def plGb (p : Pl) : Prop := ∀ s ∈ p, ∀ x ∈ s.all, x.gb
theorem plGb.at' {p : Pl} (h : plGb p) {k n : Nat} {s : Sh} {x : Ix} (hs : p[k]? = some s) (hx : s.all[n]? = some x) : x.gb := h s (List.mem_of_getElem? hs) x (List.mem_of_getElem? hx)
theorem plGb.put {p : Pl} (h : plGb p) (k : Nat) {t : Sh} (ht : ∀ x ∈ t.all, x.gb) : plGb (plPut p k t) := by
  intro s hs
  rcases List.mem_or_eq_of_mem_set hs with e | e
  · exact h s e
  · subst e; exact ht
theorem gb_set {A : List Ix} {i : Nat} {y : Ix} (hA : ∀ x ∈ A, x.gb) (hy : y.gb) : ∀ x ∈ A.set i y, x.gb := by
  intro x hx
  rcases List.mem_or_eq_of_mem_set hx with e | e
  · exact hA x e
  · subst e; exact hy
theorem plGb_new (n ids : Nat) : plGb (plNew n ids) := by
  intro s hs x hx
  unfold plNew at hs
  rw [List.eq_of_mem_replicate hs] at hx
  rw [List.eq_of_mem_replicate hx]
  exact ⟨Int.le_refl _, fun h => by cases h⟩
theorem reserveP_gb {p : Pl} (hp : plOk p) (h : plGb p) (k i : Int) : plGb (reserveP p k i).2 := by
  unfold reserveP
  cases hs : shAt p k with
  | none => exact h
  | some s =>
    obtain ⟨n, rfl, hn⟩ := shAt_some hs
    simp only
    cases hx : ixIn s i with
    | none => exact h
    | some x =>
      obtain ⟨m, rfl, hm⟩ := ixIn_some hx
      simp only
      cases decide (x.b = 1048576)
      · have hok := (hp.sh hn).at hm
        have hgb := h.at' hn hm
        refine h.put _ (gb_set (fun y hy => h s (List.mem_of_getElem? hn) y hy) ⟨?_, fun ha => ?_⟩)
        · have := hgb.1; have := hok.b1; simp only; omega
        · have := hgb.2 ha; have := hok.b1; simp only; omega
      · exact h
theorem takeP_gb {p : Pl} (h : plGb p) (a : Nam) : plGb (takeP p a).2 := by
  unfold takeP
  cases hs : shAt p a.s with
  | none => exact h
  | some s =>
    obtain ⟨n, hn0, hn⟩ := shAt_some hs
    simp only
    cases hx : ixIn s a.i with
    | none => exact h
    | some x =>
      obtain ⟨m, hm0, hm⟩ := ixIn_some hx
      simp only
      have hsx : ∀ y ∈ s.all, y.gb := fun y hy => h s (List.mem_of_getElem? hn) y hy
      refine h.put _ ?_
      unfold takeS'
      cases h1 : decide (a.g < 0)
      · cases h2 : (!freeHas s a.i)
        · cases h3 : decide (a.g < x.g) || decide (x.b ≤ a.g)
          · rw [Bool.or_eq_false_iff, decide_eq_false_iff_not, decide_eq_false_iff_not] at h3
            exact gb_set hsx ⟨by simp only; omega, fun _ => by simp only; omega⟩
          · exact hsx
        · exact hsx
      · exact hsx
theorem freeP_gb {p : Pl} (h : plGb p) (a : Nam) : plGb (freeP p a).2 := by
  unfold freeP
  cases hs : shAt p a.s with
  | none => exact h
  | some s =>
    obtain ⟨n, hn0, hn⟩ := shAt_some hs
    simp only
    cases hx : ixIn s a.i with
    | none => exact h
    | some x =>
      obtain ⟨m, hm0, hm⟩ := ixIn_some hx
      simp only
      have hsx : ∀ y ∈ s.all, y.gb := fun y hy => h s (List.mem_of_getElem? hn) y hy
      refine h.put _ ?_
      unfold freeS
      cases h1 : decide (a.g < 0)
      · cases h2 : aliveI x a.g
        · exact hsx
        · unfold aliveI at h2
          rw [Bool.and_eq_true, decide_eq_true_eq] at h2
          have := (h.at' hn hm).2 h2.1
          exact gb_set hsx ⟨by simp only; omega, fun e => by cases e⟩
      · exact hsx
theorem freeAll_gb (l : List Nam) : ∀ p : Pl, plGb p → plGb (freeAll p l) := by
  induction l with
  | nil => exact fun _ h => h
  | cons a l ih => exact fun p h => ih _ (freeP_gb h a)
theorem lapseP_gb {p : Pl} (hp : plOk p) (h : plGb p) : plGb (lapseP p) := by
  intro t ht x hx
  obtain ⟨s, hs, rfl⟩ := List.mem_map.1 ht
  obtain ⟨i, hi⟩ := List.getElem?_of_mem hx
  have hok := hp.2 s hs
  change (lapseAll s.all s.free)[i]? = some x at hi
  rw [lapseAll_at s.free s.all i hok.nd] at hi
  cases hA : s.all[i]? with
  | none => rw [hA] at hi; cases hi
  | some y =>
    rw [hA] at hi
    have hy := h s hs y (List.mem_of_getElem? hA)
    by_cases hif : i ∈ s.free
    · rw [decide_eq_true hif] at hi
      have e : ixUp y = x := Option.some.inj hi
      obtain ⟨y2, hy2, ha, _⟩ := hok.fr i hif
      rw [hA] at hy2
      cases hy2
      rw [← e]
      unfold ixUp
      cases decide (y.g < y.b)
      · exact hy
      · exact ⟨Int.le_refl _, fun e2 => by simp only [cond_true] at e2; rw [ha] at e2; cases e2⟩
    · rw [decide_eq_false hif] at hi
      have e : y = x := Option.some.inj hi
      exact e ▸ hy
/-- a ledger that may be -/
structure Ld.core (l : Ld) : Prop where
  ok : l.dk.ok
  gb : plGb l.dk.pl
theorem Ld.core.lapse {l : Ld} (h : l.core) : (⟨l.dk.z, lapseP l.dk.pl, l.dk.q, l.dk.t, l.dk.o⟩ : Dk).ok := ⟨h.ok.z, h.ok.pl.lapse, by simp only [lapseP, List.length_map]; exact h.ok.pn, h.ok.q, h.ok.t0, h.ok.t1⟩
theorem reserveP_length (p : Pl) (k i : Int) : (reserveP p k i).2.length = p.length := by
  unfold reserveP
  split
  · rfl
  · split
    · rfl
    · rename_i x _
      cases decide (x.b = 1048576) <;> simp [plPut]
theorem admitD_core {d : Dk} (hd : d.ok) (hg : plGb d.pl) (c : Cm) : (admitD d c).2.ok ∧ plGb (admitD d c).2.pl := by
  unfold admitD
  cases !cmdOk c
  · by_cases hq : d.z.q ≤ (d.q.length : Int)
    · rw [decide_eq_true hq]; exact ⟨hd, hg⟩
    · rw [decide_eq_false hq]
      have hq2 : (((d.q ++ [c]).length : Nat) : Int) ≤ d.z.q := by rw [List.length_append, List.length_singleton]; omega
      cases decide (c.k = 1)
      · cases !aliveP d.pl c.id
        · exact ⟨⟨hd.z, hd.pl, hd.pn, hq2, hd.t0, hd.t1⟩, hg⟩
        · exact ⟨hd, hg⟩
      · cases !decide (c.zone d.z = c.b.s)
        · cases decide ((takeP d.pl c.b.id).1 = 0)
          · exact ⟨hd, hg⟩
          · exact ⟨⟨hd.z, hd.pl.take _, by simp only [cond_true, cond_false]; rw [takeP_length]; exact hd.pn, hq2, hd.t0, hd.t1⟩, takeP_gb hg _⟩
        · exact ⟨hd, hg⟩
  · exact ⟨hd, hg⟩
theorem openD_core {d : Dk} (hd : d.ok) (hg : plGb d.pl) : (openD d).2.2.2.ok ∧ plGb (openD d).2.2.2.pl := by
  unfold openD
  cases ho : d.o || decide (1099511627776 ≤ d.t)
  · rw [Bool.or_eq_false_iff, decide_eq_false_iff_not] at ho
    have h1 := (zfOk_parts hd.z).2.2.2.2.2.2.1
    exact ⟨⟨hd.z, hd.pl, hd.pn, by simp only [cond_false, List.length_nil]; omega, by have := hd.t0; simp only [cond_false]; omega, by simp only [cond_false]; omega⟩, hg⟩
  · exact ⟨hd, hg⟩
theorem closeD_core {d : Dk} (hd : d.ok) (hg : plGb d.pl) (l : List Nam) : (closeD d l).2.2.ok ∧ plGb (closeD d l).2.2.pl := by
  unfold closeD
  cases d.o
  · exact ⟨hd, hg⟩
  · exact ⟨⟨hd.z, freeAll_ok l _ hd.pl, by simp only [cond_true]; rw [freeAll_length]; exact hd.pn, hd.q, hd.t0, hd.t1⟩, freeAll_gb l _ hg⟩
theorem Ld.core.fold {l : Ld} (h : l.core) (r : Lr) : (l.fold r).2.core := by
  unfold Ld.fold
  cases decide (r.k = 1)
  · cases decide (r.k = 2)
    · cases decide (r.k = 3)
      · cases decide (r.k = 4)
        · exact ⟨(closeD_core h.ok h.gb r.ids).1, (closeD_core h.ok h.gb r.ids).2⟩
        · exact ⟨(openD_core h.ok h.gb).1, (openD_core h.ok h.gb).2⟩
      · exact ⟨(admitD_core h.ok h.gb r.c).1, (admitD_core h.ok h.gb r.c).2⟩
    · exact ⟨⟨h.ok.z, h.ok.pl.reserve _ _, by simp only [cond_true, cond_false]; rw [reserveP_length]; exact h.ok.pn, h.ok.q, h.ok.t0, h.ok.t1⟩, reserveP_gb h.ok.pl h.gb _ _⟩
  · cases decide (r.n = l.ep + 1)
    · exact h
    · exact ⟨h.lapse, lapseP_gb h.ok.pl h.gb⟩
theorem Ld.core.run : ∀ (rs : List Lr) {l : Ld}, l.core → (l.run rs).core
  | [], _, h => h
  | r :: rs, _, h => Ld.core.run rs (h.fold r)
theorem Ld.core.like {l m : Ld} (h : l.core) (k : l.like m) : m.core := ⟨k.1 ▸ h.ok, k.1 ▸ h.gb⟩
/-- what a record does to the pool: its indices rise -/
theorem Ld.fold_up (l : Ld) (r : Lr) : PlUp l.dk.pl (l.fold r).2.dk.pl := by
  unfold Ld.fold
  cases decide (r.k = 1)
  · cases decide (r.k = 2)
    · cases decide (r.k = 3)
      · cases decide (r.k = 4)
        · show PlUp l.dk.pl (closeD l.dk r.ids).2.2.pl
          unfold closeD
          cases l.dk.o
          · exact PlUp.rfl' _
          · exact freeAll_up _ _
        · show PlUp l.dk.pl (openD l.dk).2.2.2.pl
          unfold openD
          cases l.dk.o || decide (1099511627776 ≤ l.dk.t) <;> exact PlUp.rfl' _
      · show PlUp l.dk.pl (admitD l.dk r.c).2.pl
        unfold admitD
        cases !cmdOk r.c
        · cases decide (l.dk.z.q ≤ (l.dk.q.length : Int))
          · cases decide (r.c.k = 1)
            · cases !aliveP l.dk.pl r.c.id <;> exact PlUp.rfl' _
            · cases !decide (r.c.zone l.dk.z = r.c.b.s)
              · cases decide ((takeP l.dk.pl r.c.b.id).1 = 0)
                · exact PlUp.rfl' _
                · exact takeP_up _ _
              · exact PlUp.rfl' _
          · exact PlUp.rfl' _
        · exact PlUp.rfl' _
    · exact reserveP_up _ _ _
  · cases decide (r.n = l.ep + 1)
    · exact PlUp.rfl' _
    · exact lapseP_up _
theorem Ld.run_up : ∀ (rs : List Lr) (l : Ld), PlUp l.dk.pl (l.run rs).dk.pl
  | [], _ => PlUp.rfl' _
  | r :: rs, l => (l.fold_up r).trans (Ld.run_up rs (l.fold r).2)
end Go.Proofs.YtndjnkjcfdaegaaGreatDoor

/-
  What a ledger writes fits; a name that is told was never told. Plain. No conditions of its own.
-/
namespace Go.Proofs.YtndjnkjcfdaegaaGreatDoor

theorem take_zero {p : Pl} {n i : Nat} {s : Sh} {y : Ix} (hs : p[n]? = some s) (hy : s.all[i]? = some y) (hf : i ∈ s.free) (h0 : 0 ≤ y.g) (hb : y.g < y.b) : (takeP p ⟨n, i, y.g⟩).1 = 0 := by
  unfold takeP
  simp only
  rw [shAt_nat hs]
  simp only
  rw [ixIn_nat hy]
  simp only
  unfold takeS'
  have h1 : freeHas s (i : Int) = true := by
    unfold freeHas
    rw [List.any_eq_true]
    exact ⟨i, hf, by simp⟩
  rw [decide_eq_false (by omega), h1, decide_eq_false (by omega), decide_eq_false (by omega)]
  rfl
theorem admit_spawn {d : Dk} {x : Cm} (hk : x.k = 1) (h : (admitD d x).1 = 0) : Past (admitD d x).2.pl x.b.id := by
  unfold admitD at h ⊢
  cases h1 : !cmdOk x
  · rw [h1] at h
    cases h2 : decide (d.z.q ≤ (d.q.length : Int))
    · rw [h2] at h
      rw [decide_eq_true hk] at h ⊢
      cases h3 : !decide (x.zone d.z = x.b.s)
      · rw [h3] at h
        by_cases h4 : (takeP d.pl x.b.id).1 = 0
        · rw [decide_eq_true h4]
          exact takeP_past h4
        · rw [decide_eq_false h4] at h
          exact absurd h h4
      · rw [h3] at h; cases h
    · rw [h2] at h; cases h
  · rw [h1] at h; cases h
theorem Ld.fold_adm (l : Ld) (x : Cm) : l.fold (admRec x) = ((admitD l.dk x).1, ⟨(admitD l.dk x).2, l.lg, l.ep, l.cmds, l.e⟩) := rfl
theorem Ld.fold_res (l : Ld) (s i : Int) : l.fold (resRec s i) = ((reserveP l.dk.pl s i).1, ⟨⟨l.dk.z, (reserveP l.dk.pl s i).2, l.dk.q, l.dk.t, l.dk.o⟩, l.lg, l.ep, l.cmds, l.e⟩) := rfl
theorem Ld.fold_epoch (l : Ld) : l.fold (epochRec (l.ep + 1)) = (0, ⟨⟨l.dk.z, lapseP l.dk.pl, l.dk.q, l.dk.t, l.dk.o⟩, l.lg, l.ep + 1, l.cmds, l.e⟩) := by
  show (bif decide (l.ep + 1 = l.ep + 1) then (0, ⟨⟨l.dk.z, lapseP l.dk.pl, l.dk.q, l.dk.t, l.dk.o⟩, l.lg, l.ep + 1, l.cmds, l.e⟩) else (14, l)) = _
  rw [decide_eq_true rfl]
  rfl
/-- the records of a call -/
def callRecs (x : Cm × Bool × Int) : List Lr := bif x.2.1 then [resRec x.1.b.s x.1.b.i, admRec x.1] else [admRec x.1]
/-- the head of a shard -/
theorem head_parts {p : Pl} (hp : plOk p) {k : Int} (he : (headP p k).2.2 = 0) :
    ∃ (n i : Nat) (s : Sh) (y : Ix), k = n ∧ p[n]? = some s ∧ i ∈ s.free ∧ s.all[i]? = some y ∧ y.a = false ∧ y.g < 1048576 ∧ (headP p k).1 = i ∧ (headP p k).2.1 = decide (y.g < y.b) ∧ genP p k i = y.g := by
  unfold headP at he ⊢
  cases hs : shAt p k with
  | none => rw [hs] at he; cases he
  | some s =>
    rw [hs] at he
    obtain ⟨n, rfl, hn⟩ := shAt_some hs
    cases hf : s.free with
    | nil => simp only [headS, hf] at he; cases he
    | cons i l =>
      obtain ⟨y, hy, ha, hg⟩ := (hp.sh hn).fr i (by rw [hf]; exact List.mem_cons_self ..)
      refine ⟨n, i, s, y, rfl, hn, by rw [hf]; exact List.mem_cons_self .., hy, ha, hg, by simp only [headS, hf], by simp only [headS, hf, hy], ?_⟩
      unfold genP ixAt
      rw [hs]
      simp only
      rw [ixIn_nat hy]
/-- A CALL'S RECORDS FIT; what it spawns was never told, and is told now. -/
theorem call_fits {l : Ld} (h : l.core) {c : Cm} (he : (lookD l.dk c).2.2 = 0) :
    l.fits (callRecs (lookD l.dk c)) ∧ ((lookD l.dk c).1.k = 1 → ¬ Past l.dk.pl (lookD l.dk c).1.b.id ∧ Past (l.run (callRecs (lookD l.dk c))).dk.pl (lookD l.dk c).1.b.id) := by
  have hok := lookD_ok h.ok.pl he
  unfold lookD at he hok ⊢
  cases h1 : (!cmdOk c || (decide (c.k = 1) && !neq c.b.id Nam.zero)) with
  | true => rw [h1] at he; cases he
  | false =>
    rw [h1, cond_false] at he hok
    rw [cond_false]
    by_cases hk : c.k = 1
    · rw [decide_eq_true hk, cond_true] at he hok ⊢
      cases h2 : decide (c.zone l.dk.z < 0) with
      | true => rw [h2] at he; cases he
      | false =>
        rw [h2, cond_false] at he hok
        rw [cond_false]
        cases h3 : decide (l.dk.z.q ≤ (l.dk.q.length : Int)) with
        | true => rw [h3] at he; cases he
        | false =>
          rw [h3, cond_false] at he hok
          rw [cond_false]
          by_cases h4 : (headP l.dk.pl (c.zone l.dk.z)).2.2 = 0
          · rw [decide_eq_true h4] at hok ⊢
            simp only [Bool.not_true, cond_false] at hok ⊢
            have hfresh := headP_fresh h.ok.pl h4
            obtain ⟨n, i, s, y, hn, hs, hf, hy, ha, hg, e1, e2, e3⟩ := head_parts h.ok.pl h4
            rw [e1] at hfresh hok ⊢
            rw [e3] at hfresh hok ⊢
            rw [e2] at hok ⊢
            obtain ⟨x, hx⟩ : ∃ x, x = c.named ⟨c.zone l.dk.z, (i : Int), y.g⟩ := ⟨_, rfl⟩
            have xk : x.k = 1 := by rw [hx]; exact hk
            have xb : x.b.id = ⟨c.zone l.dk.z, (i : Int), y.g⟩ := by rw [hx]; rfl
            have xz : ∀ z, x.zone z = c.zone z := fun z => by rw [hx]; rfl
            rw [← hx] at hok ⊢
            rw [← xb] at hfresh
            have hyo := (h.ok.pl.sh hs).at hy
            have hgb := (h.gb.at' hs hy).1
            have xs : x.b.s = c.zone l.dk.z := congrArg Nam.s xb
            have xi : x.b.i = (i : Int) := congrArg Nam.i xb
            have adm : ∀ d : Dk, d.z = l.dk.z → d.q = l.dk.q → (takeP d.pl x.b.id).1 = 0 → (admitD d x).1 = 0 := by
              intro d hz hq ht
              unfold admitD
              rw [hok.1, hz, hq, h3, decide_eq_true xk, xz, xs, decide_eq_true rfl, decide_eq_true ht]
              rfl
            by_cases hb : y.g < y.b
            · rw [decide_eq_true hb]
              have ht : (takeP l.dk.pl x.b.id).1 = 0 := by rw [xb, hn]; exact take_zero hs hy hf hyo.g0 hb
              have ha0 := adm l.dk rfl rfl ht
              refine ⟨⟨mayL_adm hok.1, by rw [Ld.fold_adm]; exact ha0, trivial⟩, fun _ => ⟨hfresh, ?_⟩⟩
              show Past (l.fold (admRec x)).2.dk.pl x.b.id
              rw [Ld.fold_adm]
              exact admit_spawn xk ha0
            · rw [decide_eq_false hb] at hok ⊢
              obtain ⟨o1, o2⟩ := hok.2 rfl
              have hbb : ¬ y.b = 1048576 := by omega
              have hr : reserveP l.dk.pl x.b.s x.b.i = (0, plPut l.dk.pl n (s.put i ⟨y.g, min (y.b + 8) 1048576, y.a⟩)) := by
                rw [xs, xi, hn]
                unfold reserveP
                rw [shAt_nat hs]
                simp only
                rw [ixIn_nat hy]
                simp only
                rw [decide_eq_false hbb]
                rfl
              have ht : (takeP (reserveP l.dk.pl x.b.s x.b.i).2 x.b.id).1 = 0 := by
                rw [hr, xb, hn]
                exact take_zero (s := s.put i ⟨y.g, min (y.b + 8) 1048576, y.a⟩) (y := ⟨y.g, min (y.b + 8) 1048576, y.a⟩) (show (l.dk.pl.set n _)[n]? = some _ from List.getElem?_set_self (List.getElem?_eq_some_iff.1 hs).1) (show (s.all.set i _)[i]? = some _ from List.getElem?_set_self (List.getElem?_eq_some_iff.1 hy).1) hf hyo.g0 (by simp only; omega)
              have ha0 := adm ⟨l.dk.z, (reserveP l.dk.pl x.b.s x.b.i).2, l.dk.q, l.dk.t, l.dk.o⟩ rfl rfl ht
              refine ⟨⟨mayL_res o1 o2, by rw [Ld.fold_res, hr], mayL_adm hok.1, by rw [Ld.fold_adm, Ld.fold_res]; exact ha0, trivial⟩, fun _ => ⟨hfresh, ?_⟩⟩
              show Past ((l.fold (resRec x.b.s x.b.i)).2.fold (admRec x)).2.dk.pl x.b.id
              rw [Ld.fold_adm, Ld.fold_res]
              exact admit_spawn xk ha0
          · rw [decide_eq_false h4] at he
            exact absurd (show (13 : Int) = 0 from he) (by decide)
    · rw [decide_eq_false hk, cond_false] at he hok ⊢
      cases h2 : (!aliveP l.dk.pl c.id) with
      | true => rw [h2] at he; cases he
      | false =>
        rw [h2, cond_false] at he hok
        rw [cond_false]
        cases h3 : waitsQ l.dk.q c.id with
        | true => rw [h3] at he; cases he
        | false =>
          rw [h3, cond_false] at he hok
          rw [cond_false]
          cases h4 : decide (l.dk.z.q ≤ (l.dk.q.length : Int)) with
          | true => rw [h4] at he; cases he
          | false =>
            rw [h4, cond_false] at hok
            rw [cond_false]
            refine ⟨⟨mayL_adm hok.1, ?_, trivial⟩, fun e => absurd e hk⟩
            rw [Ld.fold_adm]
            show (admitD l.dk c).1 = 0
            unfold admitD
            rw [hok.1, h4, decide_eq_false hk, h2]
            rfl
end Go.Proofs.YtndjnkjcfdaegaaGreatDoor

