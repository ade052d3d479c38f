/-
  Texts in one: LhN, LhO, LhP, LlA. No conditions of their own.
-/
import Derived.Test.YtndjnkjcfdaegaaGreatDoorZh34
import Derived.Test.YtndjnkjcfdaegaaGreatDoorZh36
set_option linter.all false

/-
  A ledger on its disk: what is written stands, or the disk has died with its beginning. Plain. No conditions of its own.
-/
namespace Go.Proofs.YtndjnkjcfdaegaaGreatDoor

/-- a ledger ahead of its first record -/
abbrev iniL (zf : Zf) (g : Lg) : Ld := ⟨Dk.new zf, g, 0, [], 0⟩
theorem iniL_like (zf : Zf) (g g' : Lg) : (iniL zf g).like (iniL zf g') := ⟨rfl, rfl, rfl⟩
theorem iniL_core {zf : Zf} (hz : zfOk zf = true) (g : Lg) : (iniL zf g).core := ⟨Dk.new_ok hz, plGb_new _ _⟩
/-- all that was written stands on the disk, and is sure -/
structure Sits (zf : Zf) (l : Ld) (d : Ds) (rs : List Lr) (A : List Sg) (z : Sg) : Prop where
  live : Live ledName A z l.lg d
  recs : recsOf (A ++ [z]) = rs.map encT
  sure : z.k = flen z.recs
  head : ((A ++ [z]).head?.map Sg.first) = some 0
  nx : z.next = rs.length
  fits : (iniL zf l.lg).fits rs
  like : ((iniL zf l.lg).run rs).like l
  e : l.e = 0
  sz : ∀ r ∈ rs, (encT r).length ≤ 1300
/-- the ledger is broken; the disk has died with the beginning of a record -/
structure Torn (zf : Zf) (l : Ld) (d : Ds) (rs ex : List Lr) (A : List Sg) (z : Sg) (t : Nm) (m : Nat) : Prop where
  half : Half ledName A z t m d
  recs : recsOf (A ++ [z]) = (rs ++ ex).map encT
  sure : ∃ i, i ≤ z.recs.length ∧ flen (z.recs.take i) ≤ z.k ∧ rs.length ≤ (recsOf A).length + i
  head : ((A ++ [z]).head?.map Sg.first) = some 0
  nx : z.next = rs.length + ex.length
  fits : (iniL zf l.lg).fits (rs ++ ex)
  like : ((iniL zf l.lg).run rs).like l
  ep : ∀ k, ((iniL zf l.lg).run (rs ++ ex.take k)).ep = l.ep
  e : ¬ l.e = 0
  sz : ∀ r ∈ rs ++ ex, (encT r).length ≤ 1300
  few : ex.length ≤ 1
  lgn : l.lg.next ≤ 200 ∧ l.lg.firsts.length ≤ 200
theorem flen_few {L : List Nm} {M : Nat} (h : ∀ t ∈ L, t.length ≤ M) : flen L ≤ (M + 7) * L.length := by
  induction L with
  | nil => simp [flen]
  | cons a L ih =>
    have h1 := h a (List.mem_cons_self ..)
    have h2 := ih (fun t ht => h t (List.mem_cons_of_mem _ ht))
    have e : flen (a :: L) = (a.length + 7) + flen L := by simp [flen]
    rw [e, List.length_cons, Nat.mul_succ]
    omega
theorem segs_short {A : List Sg} (h : ∀ a ∈ A, 4096 ≤ flen a.recs) : 4096 * A.length ≤ flen (recsOf A) := by
  induction A with
  | nil => exact Nat.zero_le _
  | cons a A ih =>
    have h1 := h a (List.mem_cons_self ..)
    have h2 := ih (fun t ht => h t (List.mem_cons_of_mem _ ht))
    have e : recsOf (a :: A) = a.recs ++ recsOf A := by simp [recsOf]
    rw [e, flen_append, List.length_cons, Nat.mul_succ]
    omega
/-- there are few segments -/
theorem segs_bound {A : List Sg} {z : Sg} {rs : List Lr} (hf : ∀ a ∈ A, 4096 ≤ flen a.recs) (hr : recsOf (A ++ [z]) = rs.map encT) (hs : ∀ r ∈ rs, (encT r).length ≤ 1300) : 4096 * A.length ≤ 1307 * rs.length := by
  have h1 := segs_short hf
  have h2 : flen (recsOf (A ++ [z])) = flen (recsOf A) + flen z.recs := by rw [recsOf_snoc, flen_append]
  have h3 : flen (rs.map encT) ≤ (1300 + 7) * (rs.map encT).length := flen_few (fun t ht => by obtain ⟨r, hr, rfl⟩ := List.mem_map.1 ht; exact hs r hr)
  rw [List.length_map] at h3
  rw [hr] at h2
  omega
/-- all that is on the log's disk is made sure -/
theorem sync_live {nm : ByteArray} {A : List Sg} {z : Sg} {g : Lg} {d : Ds} (h : Live nm A z g d) : (g.sync d).1 = 0 ∧ Live nm A ⟨z.first, z.recs, flen z.recs⟩ g (g.sync d).2 := by
  have h1 := sync_last h
  have h2 := Good.synced h
  obtain ⟨w1, w2, _⟩ := sync_wide (d := d) g.last
  unfold Lg.sync
  refine ⟨by rw [← w1, h1], ?_⟩
  unfold Live
  rw [← w2]
  exact h2
theorem append_texts {g : Lg} {d : Ds} {L : List Nm} (h : ∀ t ∈ L, t.length ≤ 65536) : g.append d (L.map toB) = layAll (L.map toB) g d := by
  unfold Lg.append
  have : (L.map toB).any longB = false := by
    rw [List.any_eq_false]
    intro x hx
    obtain ⟨t, ht, rfl⟩ := List.mem_map.1 hx
    have := h t ht
    simp [longB, toB_size]
    omega
  rw [this]
  rfl
/-- the first n records are sure -/
def Sure (n : Nat) (A : List Sg) (z : Sg) : Prop := ∃ i, i ≤ z.recs.length ∧ flen (z.recs.take i) ≤ z.k ∧ n ≤ (recsOf A).length + i
theorem Sure.all {A : List Sg} {z : Sg} (h : z.k = flen z.recs) : Sure (recsOf (A ++ [z])).length A z :=
  ⟨z.recs.length, Nat.le_refl _, by rw [List.take_length, h]; exact Nat.le_refl _, by rw [recsOf_snoc, List.length_append]; exact Nat.le_refl _⟩
theorem Sure.layS {n : Nat} {A : List Sg} {z : Sg} (h : Sure n A z) (t : Nm) : Sure n (layS A z t).1 (layS A z t).2 := by
  obtain ⟨i, h1, h2, h3⟩ := h
  unfold Go.Proofs.YtndjnkjcfdaegaaGreatDoor.layS
  cases decide (flen z.recs < 4096)
  · refine ⟨0, Nat.zero_le _, by simp [flen], ?_⟩
    simp only [cond_false]
    rw [recsOf_snoc, List.length_append]
    simp only
    omega
  · refine ⟨i, ?_, ?_, h3⟩
    · simp only [cond_true, List.length_append]; omega
    · simp only [cond_true]
      rw [List.take_append_of_le_length h1]
      exact h2
theorem Sure.toS {n : Nat} {A : List Sg} {z : Sg} (h : Sure n A z) : Sure n (toS A z).1 (toS A z).2 := by
  obtain ⟨i, h1, h2, h3⟩ := h
  unfold Go.Proofs.YtndjnkjcfdaegaaGreatDoor.toS
  cases decide (flen z.recs < 4096)
  · refine ⟨0, Nat.zero_le _, by simp [flen], ?_⟩
    simp only [cond_false]
    rw [recsOf_snoc, List.length_append]
    simp only
    omega
  · exact ⟨i, h1, h2, h3⟩
theorem next_toS (A : List Sg) (z : Sg) : (toS A z).2.next = z.next := by
  unfold toS
  cases decide (flen z.recs < 4096)
  · show z.next + 0 = z.next
    rfl
  · rfl
theorem first_toS (A : List Sg) (z : Sg) : ((toS A z).1 ++ [(toS A z).2]).head?.map Sg.first = (A ++ [z]).head?.map Sg.first := by
  unfold toS
  cases decide (flen z.recs < 4096)
  · cases A <;> rfl
  · rfl
/-- records are laid, or the disk dies with the beginning of one -/
theorem layAll_live {nm : ByteArray} : ∀ (L : List Nm) {A : List Sg} {z : Sg} {g : Lg} {d : Ds} {n : Nat}, Live nm A z g d → Sure n A z → (∀ t ∈ L, t.length ≤ 65536) → z.next + L.length ≤ 1000000 → A.length + L.length ≤ 62 →
    (∃ A' z' g' d', layAll (L.map toB) g d = (0, g', d') ∧ Live nm A' z' g' d' ∧ Sure n A' z' ∧ recsOf (A' ++ [z']) = recsOf (A ++ [z]) ++ L ∧ z'.next = z.next + L.length ∧ (A' ++ [z']).head?.map Sg.first = (A ++ [z]).head?.map Sg.first) ∨
    (∃ A' z' g' d' t m k, k < L.length ∧ layAll (L.map toB) g d = (12, g', d') ∧ d'.dead = true ∧ Half nm A' z' t m d' ∧ Sure n A' z' ∧ recsOf (A' ++ [z']) = recsOf (A ++ [z]) ++ L.take k ∧ z'.next = z.next + k ∧ (A' ++ [z']).head?.map Sg.first = (A ++ [z]).head?.map Sg.first ∧ g'.next ≤ z.next + L.length ∧ g'.firsts.length ≤ A.length + 1 + L.length)
  | [], A, z, g, d, n, h, hs, _, _, _ => .inl ⟨A, z, g, d, rfl, h, hs, by simp, by simp, rfl⟩
  | t :: L, A, z, g, d, n, h, hs, hl, hn, ha => by
    simp only [List.length_cons] at hn ha
    rcases lay_live h t (hl t (List.mem_cons_self ..)) (by omega) (by omega) with ⟨g1, d1, e1, h1⟩ | ⟨m, d1, e1, h1, h2⟩
    · have e2 : layAll ((t :: L).map toB) g d = layAll (L.map toB) g1 d1 := by
        show (bif (g.lay d (toB t)).1 == 0 then layAll (L.map toB) (g.lay d (toB t)).2.1 (g.lay d (toB t)).2.2 else g.lay d (toB t)) = _
        rw [e1]
        rfl
      rw [e2]
      have hlen := len_layS A z t
      rcases layAll_live L h1 (hs.layS t) (fun x hx => hl x (List.mem_cons_of_mem _ hx)) (by rw [next_layS]; omega) (by omega) with ⟨A', z', g', d', a1, a2, a3, a4, a5, a6⟩ | ⟨A', z', g', d', t', m', k, a0, a1, a2, a3, a4, a5, a6, a7, a8, a9⟩
      · exact .inl ⟨A', z', g', d', a1, a2, a3, by rw [a4, recs_layS, List.append_assoc]; rfl, by rw [a5, next_layS, List.length_cons]; omega, by rw [a6, first_layS]⟩
      · exact .inr ⟨A', z', g', d', t', m', k + 1, by rw [List.length_cons]; omega, a1, a2, a3, a4, by rw [a5, recs_layS, List.append_assoc]; rfl, by rw [a6, next_layS]; omega, by rw [a7, first_layS], by rw [next_layS] at a8; rw [List.length_cons]; omega, by rw [List.length_cons]; omega⟩
    · refine .inr ⟨_, _, g, d1, t, m, 0, by rw [List.length_cons]; omega, ?_, h1, h2, hs.toS, by rw [recs_toS]; simp, by rw [next_toS]; rfl, first_toS A z, by rw [h.g]; show z.next ≤ _; omega, by rw [h.g]; show ((A ++ [z]).map Sg.first).length ≤ _; rw [List.length_map, List.length_append, List.length_singleton, List.length_cons]; omega⟩
      show (bif (g.lay d (toB t)).1 == 0 then layAll (L.map toB) (g.lay d (toB t)).2.1 (g.lay d (toB t)).2.2 else g.lay d (toB t)) = _
      rw [e1]
      rfl
theorem Ld.fold_e (l : Ld) (r : Lr) : (l.fold r).2.e = l.e := by
  unfold Ld.fold
  cases decide (r.k = 1)
  · cases decide (r.k = 2)
    · cases decide (r.k = 3)
      · cases decide (r.k = 4) <;> rfl
      · rfl
    · rfl
  · cases decide (r.n = l.ep + 1) <;> rfl
theorem Ld.run_lg : ∀ (rs : List Lr) (l : Ld), (l.run rs).lg = l.lg ∧ (l.run rs).e = l.e
  | [], _ => ⟨rfl, rfl⟩
  | r :: rs, l => by
    obtain ⟨h1, h2⟩ := Ld.run_lg rs (l.fold r).2
    exact ⟨h1.trans (l.fold_lg r), h2.trans (l.fold_e r)⟩
/-- WHAT IS WRITTEN STANDS, OR THE LEDGER IS BROKEN. -/
theorem write_sits {zf : Zf} {l : Ld} {d : Ds} {rs : List Lr} {A : List Sg} {z : Sg} (h : Sits zf l d rs A z) (ns : List Lr) (hf : l.fits ns) (hs : ∀ r ∈ ns, (encT r).length ≤ 1300) (hn : rs.length + ns.length ≤ 150) (h2 : ns.length ≤ 2)
    (hep : ∀ k, k < ns.length → (l.run (ns.take k)).ep = l.ep) :
    (∃ A' z', (l.write d ns).1 = 0 ∧ Sits zf (l.write d ns).2.1 (l.write d ns).2.2 (rs ++ ns) A' z') ∨
    (∃ k A' z' t m, k < ns.length ∧ (l.write d ns).2.2.dead = true ∧ ¬ (l.write d ns).1 = 0 ∧ Torn zf (l.write d ns).2.1 (l.write d ns).2.2 rs (ns.take k) A' z' t m) := by
  have hA := segs_bound (fun a ha => (h.live.full a ha).1) h.recs h.sz
  have hsure : Sure rs.length A z := by
    have := Sure.all (A := A) h.sure
    rw [h.recs, List.length_map] at this
    exact this
  have hsz : ∀ t ∈ ns.map encT, t.length ≤ 65536 := fun t ht => by obtain ⟨r, hr, rfl⟩ := List.mem_map.1 ht; have := hs r hr; omega
  have hap : l.lg.append d (textsOf ns) = layAll ((ns.map encT).map toB) l.lg d := by
    rw [textsOf_fits ns (Ld.fits_may ns hf)]
    exact append_texts hsz
  have hfits : (iniL zf l.lg).fits (rs ++ ns) := (Ld.fits_append rs ns _).2 ⟨h.fits, Ld.fits_like ns (l := l) ⟨h.like.1.symm, h.like.2.1.symm, h.like.2.2.symm⟩ hf⟩
  have hszs : ∀ r ∈ rs ++ ns, (encT r).length ≤ 1300 := fun r hr => by rcases List.mem_append.1 hr with e | e; exact h.sz r e; exact hs r e
  rcases layAll_live (ns.map encT) h.live hsure hsz (by rw [h.nx, List.length_map]; omega) (by rw [List.length_map]; omega) with ⟨A', z', g', d', a1, a2, a3, a4, a5, a6⟩ | ⟨A', z', g', d', t, m, k, a0, a1, a2, a3, a4, a5, a6, a7, a8, a9⟩
  · refine .inl ⟨A', ⟨z'.first, z'.recs, flen z'.recs⟩, ?_⟩
    obtain ⟨s1, s2⟩ := sync_live a2
    have hw : l.write d ns = (0, Ld.run ⟨l.dk, g', l.ep, l.cmds, 0⟩ ns, (g'.sync d').2) := Ld.write_ok (by rw [Ld.lay_on (by rw [hap, a1]), s1])
    rw [hw]
    obtain ⟨q1, q2⟩ := Ld.run_lg ns (⟨l.dk, g', l.ep, l.cmds, 0⟩ : Ld)
    refine ⟨rfl, ?_, ?_, rfl, ?_, ?_, ?_, ?_, q2, hszs⟩
    · rw [q1]; exact s2
    · rw [recsOf_snoc, List.map_append, ← h.recs, ← a4, recsOf_snoc]
    · rw [← h.head, ← a6]
      cases A' <;> rfl
    · show z'.first + z'.recs.length = _
      have e : z'.first + z'.recs.length = z.next + (ns.map encT).length := a5
      rw [e, h.nx, List.length_append, List.length_map]
    · exact Ld.fits_like _ (iniL_like zf l.lg _) hfits
    · rw [Ld.run_append]
      refine Ld.run_like ns ?_
      have hl := Ld.run_like rs (iniL_like zf (Ld.run ⟨l.dk, g', l.ep, l.cmds, 0⟩ ns).lg l.lg)
      exact ⟨hl.1.trans h.like.1, hl.2.1.trans h.like.2.1, hl.2.2.trans h.like.2.2⟩
  · refine .inr ⟨k, A', z', t, m, ?_⟩
    rw [List.length_map] at a0
    have hw : l.write d ns = (12, ⟨l.dk, g', l.ep, l.cmds, 12⟩, d') := Ld.write_no (Ld.lay_no (by rw [hap, a1]) (by decide)) (by decide)
    rw [hw]
    refine ⟨a0, a2, show ¬ (12 : Int) = 0 by decide, a3, ?_, ?_, ?_, ?_, ?_, ?_, ?_, show ¬ (12 : Int) = 0 by decide, ?_, ?_, ?_⟩
    · rw [a5, h.recs, List.map_append, List.map_take]
    · exact a4
    · rw [← h.head, ← a7]
    · rw [a6, h.nx, List.length_take, Nat.min_eq_left (by omega)]
    · refine (Ld.fits_append rs _ _).2 ⟨Ld.fits_like _ (iniL_like zf l.lg _) h.fits, ?_⟩
      have hl := Ld.run_like rs (iniL_like zf l.lg g')
      refine Ld.fits_like _ (l := l) ?_ (Ld.fits_take hf k)
      exact ⟨h.like.1.symm.trans hl.1, h.like.2.1.symm.trans hl.2.1, h.like.2.2.symm.trans hl.2.2⟩
    · have hl := Ld.run_like rs (iniL_like zf g' l.lg)
      exact ⟨hl.1.trans h.like.1, hl.2.1.trans h.like.2.1, hl.2.2.trans h.like.2.2⟩
    · intro j
      rw [Ld.run_append, List.take_take]
      have hl := Ld.run_like rs (iniL_like zf g' l.lg)
      have hll : ((iniL zf g').run rs).like l := ⟨hl.1.trans h.like.1, hl.2.1.trans h.like.2.1, hl.2.2.trans h.like.2.2⟩
      rw [(Ld.run_like (ns.take (min j k)) hll).2.1]
      exact hep _ (by omega)
    · exact fun r hr => hszs r (by rcases List.mem_append.1 hr with e | e; exact List.mem_append.2 (.inl e); exact List.mem_append.2 (.inr (List.mem_of_mem_take e)))
    · rw [List.length_take]; omega
    · rw [List.length_map] at a8 a9
      rw [h.nx] at a8
      exact ⟨show g'.next ≤ 200 by omega, show g'.firsts.length ≤ 200 by omega⟩
/-- a log whose records fit is opened: all of them are done, and its epoch is one more -/
theorem open_sits {zf : Zf} {d' : Ds} {rs : List Lr} {A : List Sg} {z' : Sg} {g' : Lg} {ep : Int} (hgood : Good ledName A z' g' d') (hout : recsOf (A ++ [z']) = rs.map encT) (hzk : z'.k = flen z'.recs)
    (hh2 : (A ++ [z']).head?.map Sg.first = some 0) (hnx2 : z'.next = rs.length) (hf2 : (iniL zf g').fits rs) (hszk : ∀ r ∈ rs, (encT r).length ≤ 1300) (hnum : rs.length ≤ 148)
    (hep : ((iniL zf g').run rs).ep = ep) (h0 : 0 ≤ ep) (h1 : ep ≤ 1000) (hes : ∀ n : Int, (encT (epochRec n)).length ≤ 1300) :
    ∃ (l' : Ld) (d'' : Ds) (A' : List Sg) (z' : Sg), openAll zf g' (rs.map encT) d' = (0, some l', d'') ∧ Sits zf l' d'' (rs ++ [epochRec (ep + 1)]) A' z' ∧ l'.ep = ep + 1 ∧ g'.next ≤ 148 ∧ g'.firsts.length ≤ 64 := by
  have hg0 : g'.firsts.headD 0 = 0 := by
    rw [hgood.g]
    simp only
    cases hA : A ++ [z'] with
    | nil => rfl
    | cons a r => rw [hA] at hh2; exact Option.some.inj hh2
  obtain ⟨l0, hl0⟩ : ∃ l, l = (iniL zf g').run rs := ⟨_, rfl⟩
  obtain ⟨q1, q2⟩ := Ld.run_lg rs (iniL zf g')
  rw [← hl0] at q1 q2
  have hl0e : l0.ep = ep := by rw [hl0]; exact hep
  have hopen : openLd zf g' (rs.map encT) = some l0 := by
    rw [openLd_some (x := l0) hg0 (show Ld.replay (iniL zf g') _ = some l0 from by rw [hl0]; exact Ld.replay_fits _ _ hf2), hl0e, decide_eq_false (by omega)]
    rfl
  have hsit : Sits zf l0 d' rs A z' := ⟨by rw [q1]; exact hgood.wide, hout, hzk, hh2, hnx2, by rw [q1]; exact hf2, by rw [q1, hl0]; exact Ld.like.rfl' _, q2, hszk⟩
  have hAb := segs_bound (fun a ha => (hgood.full a ha).1) hout hszk
  have hfe : l0.fits [epochRec (l0.ep + 1)] := ⟨mayL_epoch (by omega) (by omega), by rw [Ld.fold_epoch], trivial⟩
  have hw0 : (l0.write d' [epochRec (l0.ep + 1)]).1 = 0 := by
    obtain ⟨A2, z2, g2, d2, b1, b2, _⟩ := append_good hgood [encT (epochRec (l0.ep + 1))] (fun t ht => by rw [List.mem_singleton.1 ht]; have := hes (l0.ep + 1); omega) (by rw [hnx2, List.length_singleton]; omega) (by rw [List.length_singleton]; omega)
    have b3 : l0.lg.append d' (textsOf [epochRec (l0.ep + 1)]) = (0, g2, d2) := by
      rw [textsOf_fits _ (Ld.fits_may _ hfe), q1]
      exact b1
    rw [Ld.write_ok (d1 := (g2.sync d2).2) (g := g2) (by rw [Ld.lay_on b3, (sync_live b2.wide).1])]
  rcases write_sits hsit [epochRec (l0.ep + 1)] hfe (fun r hr2 => by rw [List.mem_singleton.1 hr2]; exact hes _) (by rw [List.length_singleton]; omega) (by simp) (fun k2 hk2 => by
      have : k2 = 0 := by simpa using hk2
      rw [this]
      rfl) with ⟨A2, z2, w1, w2⟩ | ⟨_, _, _, _, _, _, _, w1, _⟩
  · refine ⟨(l0.write d' [epochRec (l0.ep + 1)]).2.1, (l0.write d' [epochRec (l0.ep + 1)]).2.2, A2, z2, ?_, by rw [show epochRec (ep + 1) = epochRec (l0.ep + 1) by rw [hl0e]]; exact w2, ?_, ?_, ?_⟩
    · unfold openAll
      rw [hopen]
      simp only
      rw [decide_eq_true hw0]
      rfl
    · have hlk : ((iniL zf (l0.write d' [epochRec (l0.ep + 1)]).2.1.lg).run rs).like l0 := by rw [hl0]; exact Ld.run_like _ (iniL_like zf _ _)
      rw [← w2.like.2.1, Ld.run_append, (Ld.run_like [epochRec (l0.ep + 1)] hlk).2.1]
      show (l0.fold (epochRec (l0.ep + 1))).2.ep = ep + 1
      rw [Ld.fold_epoch]
      show l0.ep + 1 = ep + 1
      rw [hl0e]
    · rw [hgood.g]; show z'.next ≤ 148; omega
    · rw [hgood.g]; show ((A ++ [z']).map Sg.first).length ≤ 64
      rw [List.length_map, List.length_append, List.length_singleton]
      have := hgood.few
      omega
  · exact absurd hw0 w1
/-- a ledger on its disk is opened again behind a crash: no less than was sure is there, and its epoch is one more -/
theorem reopen {zf : Zf} {d : Ds} {rs ex : List Lr} {A : List Sg} {z : Sg} {t : Nm} {m : Nat} {g0 : Lg} {ep : Int} (hh : Half ledName A z t m d) (hr : recsOf (A ++ [z]) = (rs ++ ex).map encT) (hsure : Sure rs.length A z)
    (hhead : (A ++ [z]).head?.map Sg.first = some 0) (hnx : z.next = rs.length + ex.length) (hfits : (iniL zf g0).fits (rs ++ ex)) (hsz : ∀ r ∈ rs ++ ex, (encT r).length ≤ 1300) (hlen : rs.length + ex.length ≤ 148)
    (hep : ∀ k, ((iniL zf g0).run (rs ++ ex.take k)).ep = ep) (h0 : 0 ≤ ep) (h1 : ep ≤ 1000) (keep : Int) (hes : ∀ n : Int, (encT (epochRec n)).length ≤ 1300) :
    ∃ (k : Nat) (there : List Nat) (g' : Lg) (d' : Ds) (l' : Ld) (d'' : Ds) (A' : List Sg) (z' : Sg), opThere (d.crash keep) ledName = (0, there, d.crash keep) ∧ opEnd ledName there (opRun ledName there (d.crash keep)) = (g', (rs ++ ex.take k).map encT, d') ∧
      openAll zf g' ((rs ++ ex.take k).map encT) d' = (0, some l', d'') ∧ Sits zf l' d'' (rs ++ ex.take k ++ [epochRec (ep + 1)]) A' z' ∧ l'.ep = ep + 1 ∧ g'.next ≤ 148 ∧ g'.firsts.length ≤ 64 := by
  obtain ⟨j, z', g', d', hz', hj, hall, hth, hend, hgood⟩ := open_half hh keep
  obtain ⟨i, i1, i2, i3⟩ := hsure
  have hij := hall i i1 i2
  obtain ⟨N, hN⟩ : ∃ N, N = (recsOf A).length + j := ⟨_, rfl⟩
  have hout : recsOf (A ++ [z']) = (rs ++ ex.take (N - rs.length)).map encT := by
    have e1 : recsOf (A ++ [z']) = ((rs ++ ex).map encT).take N := by
      rw [← hr, recsOf_snoc, recsOf_snoc, hz', hN, List.take_append, List.take_of_length_le (Nat.le_add_right _ _), Nat.add_sub_cancel_left]
    rw [e1, ← List.map_take, List.take_append, List.take_of_length_le (by omega)]
  obtain ⟨k, hk⟩ : ∃ k, k = N - rs.length := ⟨_, rfl⟩
  rw [← hk] at hout
  have hf2 : (iniL zf g').fits (rs ++ ex.take k) := by
    have := Ld.fits_like _ (iniL_like zf g0 g') hfits
    obtain ⟨f1, f2⟩ := (Ld.fits_append rs ex _).1 this
    exact (Ld.fits_append rs _ _).2 ⟨f1, Ld.fits_take f2 k⟩
  have hh2 : (A ++ [z']).head?.map Sg.first = some 0 := by
    rw [← hhead, hz']
    cases A <;> rfl
  have hnum : (rs ++ ex.take k).length ≤ 148 := by rw [List.length_append, List.length_take]; omega
  have hnx2 : z'.next = (rs ++ ex.take k).length := by
    have e1 : z'.next = (recsOf (A ++ [z'])).length := by
      have e2 : (recsOf (A ++ [z])).length = rs.length + ex.length := by rw [hr, List.length_map, List.length_append]
      rw [recsOf_snoc, List.length_append] at e2 ⊢
      unfold Sg.next at hnx
      rw [hz']
      show z.first + (z.recs.take j).length = _
      simp only
      omega
    rw [e1, hout, List.length_map]
  have hszk : ∀ r ∈ rs ++ ex.take k, (encT r).length ≤ 1300 := fun r hr2 => hsz r (by
    rcases List.mem_append.1 hr2 with e | e
    · exact List.mem_append.2 (.inl e)
    · exact List.mem_append.2 (.inr (List.mem_of_mem_take e)))
  obtain ⟨l', d'', A2, z2, e1, e2, e3, e4, e5⟩ := open_sits hgood hout (by rw [hz']) hh2 hnx2 hf2 hszk hnum (ep := ep) (by rw [(Ld.run_like _ (iniL_like zf g' g0)).2.1]; exact hep k) h0 h1 hes
  exact ⟨k, _, g', d', l', d'', A2, z2, hth, by rw [hend, hout], e1, e2, e3, e4, e5⟩
end Go.Proofs.YtndjnkjcfdaegaaGreatDoor

/-
  A deed's records fit; their sizes. Plain. No conditions of its own.
-/
namespace Go.Proofs.YtndjnkjcfdaegaaGreatDoor

theorem begin_fits {l : Ld} (ho : l.dk.o = false) (ht : l.dk.t < 1099511627776) : l.fits [openRec] := by
  refine ⟨mayL_open, ?_, trivial⟩
  show (openD l.dk).2.2.1 = 0
  unfold openD
  rw [ho, decide_eq_false (by omega)]
  rfl
theorem end_fits {l : Ld} {ids : List Nam} (h : mayL (closeRec ids) = true) (ho : l.dk.o = true) : l.fits [closeRec ids] := by
  refine ⟨h, ?_, trivial⟩
  show (closeD l.dk ids).2.1 = 0
  unfold closeD
  rw [ho]
  rfl
theorem enc_epoch (n : Int) : (encT (epochRec n)).length ≤ 1300 := by
  show (layI 1 ++ layI n).length ≤ 1300
  have h1 := layI_le 1
  have h2 := layI_le n
  rw [List.length_append]
  omega
theorem enc_open : (encT openRec).length ≤ 1300 := by
  show (layI 4 ++ []).length ≤ 1300
  have h1 := layI_le 4
  rw [List.append_nil]
  omega
theorem enc_adm (c : Cm) : (encT (admRec c)).length ≤ 1300 := by
  show (layI 3 ++ putCm c).length ≤ 1300
  have h1 := layI_le 3
  have h2 := putCm_le c
  rw [List.length_append]
  omega
theorem enc_res (s i : Int) : (encT (resRec s i)).length ≤ 1300 := by
  show (layI 2 ++ (layI s ++ layI i)).length ≤ 1300
  have h1 := layI_le 2
  have h2 := layI_le s
  have h3 := layI_le i
  rw [List.length_append, List.length_append]
  omega
theorem putNams_le : ∀ l : List Nam, (l.flatMap putNam).length ≤ 27 * l.length
  | [] => by simp
  | a :: l => by
    have h1 := putNam_le a
    have h2 := putNams_le l
    rw [List.flatMap_cons, List.length_append, List.length_cons]
    omega
theorem enc_close {ids : List Nam} (h : ids.length ≤ 40) : (encT (closeRec ids)).length ≤ 1300 := by
  show (layI 5 ++ (layI ids.length ++ ids.flatMap putNam)).length ≤ 1300
  have h1 := layI_le 5
  have h2 := layI_le ids.length
  have h3 := putNams_le ids
  rw [List.length_append, List.length_append]
  omega
end Go.Proofs.YtndjnkjcfdaegaaGreatDoor

/-
  A ledger and its disk, deed by deed: whole or broken; what rises, what is told. Plain. No conditions of its own.
-/
namespace Go.Proofs.YtndjnkjcfdaegaaGreatDoor

/-- how a ledger stands on its disk: all that was written is there, or it is broken -/
def Stand (zf : Zf) (l : Ld) (d : Ds) (rs : List Lr) : Prop := (∃ A z, Sits zf l d rs A z) ∨ ∃ ex A z t m, Torn zf l d rs ex A z t m
section
variable {zf : Zf} {l : Ld} {d : Ds} {rs : List Lr}
theorem Stand.like (h : Stand zf l d rs) : ((iniL zf l.lg).run rs).like l := by
  rcases h with ⟨A, z, h⟩ | ⟨ex, A, z, t, m, h⟩
  · exact h.like
  · exact h.like
theorem Stand.core (h : Stand zf l d rs) (hz : zfOk zf = true) : l.core := ((iniL_core hz l.lg).run rs).like h.like
theorem Stand.lgs (h : Stand zf l d rs) (hn : rs.length ≤ 140) : l.lg.next ≤ 200 ∧ l.lg.firsts.length ≤ 200 := by
  rcases h with ⟨A, z, h⟩ | ⟨ex, A, z, t, m, h⟩
  · have h1 := h.live.g
    have h2 := segs_bound (fun a ha => (h.live.full a ha).1) h.recs h.sz
    have h3 := h.nx
    rw [h1]
    exact ⟨show z.next ≤ 200 by omega, show ((A ++ [z]).map Sg.first).length ≤ 200 by rw [List.length_map, List.length_append, List.length_singleton]; omega⟩
  · exact h.lgn
/-- the names that were told stay past -/
theorem Stand.up {l' : Ld} {d' : Ds} {ns : List Lr} (h : Stand zf l d rs) (k : Stand zf l' d' (rs ++ ns)) : PlUp l.dk.pl l'.dk.pl := by
  have h1 := h.like
  have h2 := k.like
  rw [Ld.run_append] at h2
  have h3 := Ld.run_up ns ((iniL zf l'.lg).run rs)
  have h4 := (Ld.run_like rs (iniL_like zf l'.lg l.lg)).1
  rw [h4, h1.1, h2.1] at h3
  exact h3
/-- records that fit are written -/
theorem Stand.write (h : Stand zf l d rs) (he : l.e = 0) (ns : List Lr) (hf : l.fits ns) (hs : ∀ r ∈ ns, (encT r).length ≤ 1300) (hn : rs.length + ns.length ≤ 140) (h2 : ns.length ≤ 2) (hep : ∀ k, (l.run (ns.take k)).ep = l.ep) :
    ∃ rs', Stand zf (l.write d ns).2.1 (l.write d ns).2.2 rs' ∧ rs'.length ≤ rs.length + ns.length ∧ (l.write d ns).2.1.ep = l.ep ∧ PlUp l.dk.pl (l.write d ns).2.1.dk.pl ∧ ((l.write d ns).1 = 0 → (l.write d ns).2.1.dk.pl = (l.run ns).dk.pl) := by
  rcases h with ⟨A, z, h⟩ | ⟨ex, A, z, t, m, h⟩
  · rcases write_sits h ns hf hs (by omega) h2 (fun k _ => hep k) with ⟨A', z', w1, w2⟩ | ⟨k, A', z', t, m, _, _, w1, w2⟩
    · have hl : ((l.write d ns).2.1).like (l.run ns) := by
        have h1 := w2.like
        rw [Ld.run_append] at h1
        have h3 : ((iniL zf (l.write d ns).2.1.lg).run rs).like l := by
          have := Ld.run_like rs (iniL_like zf (l.write d ns).2.1.lg l.lg)
          exact ⟨this.1.trans h.like.1, this.2.1.trans h.like.2.1, this.2.2.trans h.like.2.2⟩
        have h4 := Ld.run_like ns h3
        exact ⟨h1.1.symm.trans h4.1, h1.2.1.symm.trans h4.2.1, h1.2.2.symm.trans h4.2.2⟩
      refine ⟨rs ++ ns, .inl ⟨A', z', w2⟩, by rw [List.length_append]; exact Nat.le_refl _, ?_, ?_, fun _ => by rw [hl.1]⟩
      · have := hep ns.length
        rw [List.take_length] at this
        rw [hl.2.1, this]
      · exact Stand.up (.inl ⟨A, z, h⟩) (.inl ⟨A', z', w2⟩)
    · have hS : Stand zf (l.write d ns).2.1 (l.write d ns).2.2 rs := .inr ⟨_, A', z', t, m, w2⟩
      refine ⟨rs, hS, Nat.le_add_right _ _, ?_, ?_, fun h0 => absurd h0 w1⟩
      · have h3 := (Ld.run_like rs (iniL_like zf (l.write d ns).2.1.lg l.lg)).2.1
        rw [← w2.like.2.1, h3, h.like.2.1]
      · have hS' : Stand zf (l.write d ns).2.1 (l.write d ns).2.2 (rs ++ []) := by rw [List.append_nil]; exact hS
        exact Stand.up (.inl ⟨A, z, h⟩) hS'
  · exact absurd he h.e
theorem run_res_adm (s i : Int) (c : Cm) (k : Nat) : (l.run ([resRec s i, admRec c].take k)).ep = l.ep := by
  match k with
  | 0 => rfl
  | 1 => show (l.fold (resRec s i)).2.ep = l.ep; rw [Ld.fold_res]
  | k + 2 =>
    rw [List.take_of_length_le (by simp)]
    show ((l.fold (resRec s i)).2.fold (admRec c)).2.ep = l.ep
    rw [Ld.fold_adm, Ld.fold_res]
theorem run_adm (c : Cm) (k : Nat) : (l.run ([admRec c].take k)).ep = l.ep := by
  match k with
  | 0 => rfl
  | k + 1 => rw [List.take_of_length_le (by simp)]; show (l.fold (admRec c)).2.ep = l.ep; rw [Ld.fold_adm]
theorem run_open (k : Nat) : (l.run ([openRec].take k)).ep = l.ep := by
  match k with
  | 0 => rfl
  | k + 1 => rw [List.take_of_length_le (by simp)]; rfl
theorem run_close (ids : List Nam) (k : Nat) : (l.run ([closeRec ids].take k)).ep = l.ep := by
  match k with
  | 0 => rfl
  | k + 1 => rw [List.take_of_length_le (by simp)]; rfl
theorem callRecs_le (x : Cm × Bool × Int) : (callRecs x).length ≤ 2 ∧ ∀ r ∈ callRecs x, (encT r).length ≤ 1300 := by
  unfold callRecs
  cases x.2.1
  · exact ⟨by simp, fun r hr => by
      rw [cond_false, List.mem_singleton] at hr
      rw [hr]
      exact enc_adm _⟩
  · refine ⟨by simp, fun r hr => ?_⟩
    rw [cond_true] at hr
    rcases List.mem_cons.1 hr with e | e
    · rw [e]; exact enc_res _ _
    · rw [List.mem_singleton.1 e]; exact enc_adm _
theorem callRecs_ep (x : Cm × Bool × Int) (k : Nat) : (l.run ((callRecs x).take k)).ep = l.ep := by
  unfold callRecs
  cases x.2.1
  · exact run_adm _ k
  · exact run_res_adm _ _ _ k
/-- what a deed leaves -/
structure Steps (zf : Zf) (l : Ld) (n : Nat) (l' : Ld) (d' : Ds) : Prop where
  st : ∃ rs', Stand zf l' d' rs' ∧ rs'.length ≤ n
  ep : l'.ep = l.ep
  up : PlUp l.dk.pl l'.dk.pl
theorem Stand.same (h : Stand zf l d rs) {n : Nat} (hn : rs.length ≤ n) : Steps zf l n l d := ⟨⟨rs, h, hn⟩, rfl, PlUp.rfl' _⟩
/-- A COMMAND IS CALLED: a name that is told was never told, and is told now. -/
theorem Stand.call (h : Stand zf l d rs) (hz : zfOk zf = true) (hn : rs.length + 2 ≤ 140) (c : Cm) :
    Steps zf l (rs.length + 2) (l.call d c).2.2.1 (l.call d c).2.2.2 ∧ ((l.call d c).2.1 = 0 → (l.call d c).1.k = 1 → ¬ Past l.dk.pl (l.call d c).1.b.id ∧ Past (l.call d c).2.2.1.dk.pl (l.call d c).1.b.id) := by
  unfold Ld.call
  by_cases he : l.e = 0
  · rw [decide_eq_true he]
    simp only [Bool.not_true, cond_false]
    by_cases hl : (lookD l.dk c).2.2 = 0
    · rw [decide_eq_true hl]
      simp only [Bool.not_true, cond_false]
      obtain ⟨c1, c2⟩ := call_fits (h.core hz) hl
      obtain ⟨r1, r2⟩ := callRecs_le (lookD l.dk c)
      obtain ⟨rs', w1, w2, w3, w4, w5⟩ := h.write he (callRecs (lookD l.dk c)) c1 r2 (by omega) r1 (callRecs_ep _)
      have hr : (bif (lookD l.dk c).2.1 then [resRec (lookD l.dk c).1.b.s (lookD l.dk c).1.b.i, admRec (lookD l.dk c).1] else [admRec (lookD l.dk c).1]) = callRecs (lookD l.dk c) := rfl
      rw [hr]
      by_cases hw : (l.write d (callRecs (lookD l.dk c))).1 = 0
      · rw [decide_eq_true hw]
        refine ⟨⟨⟨rs', w1, by omega⟩, w3, w4⟩, fun _ hk => ?_⟩
        obtain ⟨p1, p2⟩ := c2 hk
        exact ⟨p1, (w5 hw).symm ▸ p2⟩
      · rw [decide_eq_false hw]
        refine ⟨⟨⟨rs', w1, by omega⟩, w3, w4⟩, fun h0 => absurd h0 hw⟩
    · rw [decide_eq_false hl]
      exact ⟨h.same (by omega), fun h0 => absurd h0 hl⟩
  · rw [decide_eq_false he]
    exact ⟨h.same (by omega), fun h0 => absurd h0 he⟩
/-- a tick is opened -/
theorem Stand.begin (h : Stand zf l d rs) (hn : rs.length + 2 ≤ 140) : Steps zf l (rs.length + 2) (l.begin d).2.2.2.1 (l.begin d).2.2.2.2 := by
  unfold Ld.begin
  by_cases he : l.e = 0
  · rw [decide_eq_true he]
    simp only [Bool.not_true, cond_false]
    cases ho : l.dk.o
    · by_cases ht : 1099511627776 ≤ l.dk.t
      · rw [decide_eq_true ht]
        exact h.same (by omega)
      · rw [decide_eq_false ht]
        simp only [Bool.or_false, cond_false]
        obtain ⟨rs', w1, w2, w3, w4, _⟩ := h.write he [openRec] (begin_fits ho (by omega)) (fun r hr => by rw [List.mem_singleton.1 hr]; exact enc_open) (by rw [List.length_singleton]; omega) (by simp) run_open
        rw [List.length_singleton] at w2
        by_cases hw : (l.write d [openRec]).1 = 0
        · rw [decide_eq_true hw]
          exact ⟨⟨rs', w1, by omega⟩, w3, w4⟩
        · rw [decide_eq_false hw]
          exact ⟨⟨rs', w1, by omega⟩, w3, w4⟩
    · exact h.same (by omega)
  · rw [decide_eq_false he]
    exact h.same (by omega)
/-- a tick is closed -/
theorem Stand.finish (h : Stand zf l d rs) (hn : rs.length + 2 ≤ 140) {ids : List Nam} (hi : ids.length ≤ 40) : Steps zf l (rs.length + 2) (l.finish d ids).2.1 (l.finish d ids).2.2 := by
  unfold Ld.finish
  by_cases he : l.e = 0
  · rw [decide_eq_true he]
    simp only [Bool.not_true, cond_false]
    cases hm : mayL (closeRec ids)
    · exact h.same (by omega)
    · cases ho : l.dk.o
      · exact h.same (by omega)
      · obtain ⟨rs', w1, w2, w3, w4, _⟩ := h.write he [closeRec ids] (end_fits hm ho) (fun r hr => by rw [List.mem_singleton.1 hr]; exact enc_close hi) (by rw [List.length_singleton]; omega) (by simp) (run_close ids)
        rw [List.length_singleton] at w2
        exact ⟨⟨rs', w1, by omega⟩, w3, w4⟩
  · rw [decide_eq_false he]
    exact h.same (by omega)
def Ds.cut (d : Ds) (k : Int) : Ds := ⟨d.fs, bif d.dead then d.room else max 0 k, d.dead⟩
/-- the disk is to die -/
theorem Stand.cut (h : Stand zf l d rs) (k : Int) : Stand zf l (d.cut k) rs := by
  rcases h with ⟨A, z, h⟩ | ⟨ex, A, z, t, m, h⟩
  · exact .inl ⟨A, z, h.live, h.recs, h.sure, h.head, h.nx, h.fits, h.like, h.e, h.sz⟩
  · exact .inr ⟨ex, A, z, t, m, ⟨h.half.good, h.half.fs, h.half.lt, h.half.tl⟩, h.recs, h.sure, h.head, h.nx, h.fits, h.like, h.ep, h.e, h.sz, h.few, h.lgn⟩
/-- what opens a ledger again behind a crash -/
structure Opens (zf : Zf) (d0 : Ds) (there : List Nat) (g' : Lg) (out : List Nm) (d' : Ds) (l' : Ld) (d'' : Ds) : Prop where
  th : opThere d0 ledName = (0, there, d0)
  en : opEnd ledName there (opRun ledName there d0) = (g', out, d')
  all : openAll zf g' out d' = (0, some l', d'')
  nx : g'.next ≤ 148
  fl : g'.firsts.length ≤ 64
  ol : out.length ≤ 1000
  os : ∀ t ∈ out, t.length ≤ 1300
/-- THE LEDGER IS OPENED AGAIN. -/
theorem Stand.reopen (h : Stand zf l d rs) (hn : rs.length + 2 ≤ 140) (h0 : 0 ≤ l.ep) (h1 : l.ep ≤ 1000) (keep : Int) :
    ∃ there g' out d' l' d'' rs', Opens zf (d.crash keep) there g' out d' l' d'' ∧ Stand zf l' d'' rs' ∧ rs'.length ≤ rs.length + 2 ∧ l'.ep = l.ep + 1 ∧ PlUp l.dk.pl l'.dk.pl := by
  have key : ∀ {ex : List Lr} {A : List Sg} {z : Sg} {t : Nm} {m : Nat}, Half ledName A z t m d → recsOf (A ++ [z]) = (rs ++ ex).map encT → Sure rs.length A z → (A ++ [z]).head?.map Sg.first = some 0 → z.next = rs.length + ex.length →
      (iniL zf l.lg).fits (rs ++ ex) → (∀ r ∈ rs ++ ex, (encT r).length ≤ 1300) → ex.length ≤ 1 → (∀ k, ((iniL zf l.lg).run (rs ++ ex.take k)).ep = l.ep) →
      ∃ there g' out d' l' d'' rs', Opens zf (d.crash keep) there g' out d' l' d'' ∧ Stand zf l' d'' rs' ∧ rs'.length ≤ rs.length + 2 ∧ l'.ep = l.ep + 1 ∧ PlUp l.dk.pl l'.dk.pl := by
    intro ex A z t m a1 a2 a3 a4 a5 a6 a7 a8 a9
    obtain ⟨k, there, g', d', l', d'', A', z', b1, b2, b3, b4, b5, b6, b7⟩ := Go.Proofs.YtndjnkjcfdaegaaGreatDoor.reopen a1 a2 a3 a4 a5 a6 a7 (by omega) a9 h0 h1 keep enc_epoch
    have hk : (ex.take k).length ≤ 1 := by rw [List.length_take]; omega
    refine ⟨there, g', (rs ++ ex.take k).map encT, d', l', d'', rs ++ ex.take k ++ [epochRec (l.ep + 1)], ⟨b1, b2, b3, b6, b7, ?_, ?_⟩, .inl ⟨A', z', b4⟩, ?_, b5, ?_⟩
    · rw [List.length_map, List.length_append]; omega
    · intro t ht
      obtain ⟨r, hr, rfl⟩ := List.mem_map.1 ht
      refine a7 r ?_
      rcases List.mem_append.1 hr with e | e
      · exact List.mem_append.2 (.inl e)
      · exact List.mem_append.2 (.inr (List.mem_of_mem_take e))
    · rw [List.length_append, List.length_append, List.length_singleton]; omega
    · have hS : Stand zf l' d'' (rs ++ (ex.take k ++ [epochRec (l.ep + 1)])) := by rw [← List.append_assoc]; exact .inl ⟨A', z', b4⟩
      exact h.up hS
  rcases h with ⟨A, z, h⟩ | ⟨ex, A, z, t, m, h⟩
  · refine key (ex := []) h.live.half (by rw [List.append_nil]; exact h.recs) ?_ h.head h.nx (by rw [List.append_nil]; exact h.fits) (by rw [List.append_nil]; exact h.sz) (by simp) (fun k => ?_)
    · have := Sure.all (A := A) h.sure
      rw [h.recs, List.length_map] at this
      exact this
    · rw [List.take_nil, List.append_nil]
      exact h.like.2.1
  · exact key h.half h.recs h.sure h.head h.nx h.fits h.sz h.few h.ep
end
/-! ### the first ledger of a new disk -/
def nwA : Ds := (opThere Ds.new ledName).2.2
theorem nw_1 : opThere Ds.new ledName = (0, [0], nwA) := by kernel_rfl
def nwB : Lg × List Nm × Ds := opEnd ledName [0] (opRun ledName [0] nwA)
theorem nw_2 : opEnd ledName [0] (opRun ledName [0] nwA) = (⟨ledName, [0], 0⟩, [], nwB.2.2) := by kernel_rfl
theorem nw_good : Good ledName [] ⟨0, [], 0⟩ ⟨ledName, [0], 0⟩ nwB.2.2 where
  g := rfl
  fs := by kernel_rfl
  dead := by kernel_rfl
  room := by
    rw [show nwB.2.2.room = 4611686018427387904 by kernel_rfl]
    decide
  up := by simp
  lim := by decide
  nm1 := by decide
  nm2 := by decide
  few := by decide
  full := fun a ha => by cases ha
  zs := by decide
  short := fun s hs X t h => by
    have : s = ⟨0, [], 0⟩ := by simpa using hs
    rw [this] at h
    cases X <;> cases h
  link := trivial
  rl := fun s hs t ht => by
    have : s = ⟨0, [], 0⟩ := by simpa using hs
    rw [this] at ht
    cases ht
  zk := by decide
end Go.Proofs.YtndjnkjcfdaegaaGreatDoor

/-
  AuditHistory as data: what a ledger's records tell of ticks and of what waits; what each deed adds to it. Plain. No conditions of its own.
-/
namespace Go.Proofs.YtndjnkjcfdaegaaGreatDoor

/-- the commands of each tick that was opened, and those that wait -/
abbrev His := List (List Cm) × List Cm
def histS (s : His) (r : Lr) : His := bif decide (r.k = 3) then (s.1, s.2 ++ [r.c]) else bif decide (r.k = 4) then (s.1 ++ [s.2], []) else s
def hist (rs : List Lr) : His := rs.foldl histS ([], [])
theorem hist_append (a b : List Lr) : hist (a ++ b) = b.foldl histS (hist a) := by unfold hist; rw [List.foldl_append]
theorem hist_snoc (a : List Lr) (r : Lr) : hist (a ++ [r]) = histS (hist a) r := by rw [hist_append]; rfl
theorem hist_epoch (a : List Lr) (n : Int) : hist (a ++ [epochRec n]) = hist a := by rw [hist_snoc]; rfl
theorem hist_close (a : List Lr) (ids : List Nam) : hist (a ++ [closeRec ids]) = hist a := by rw [hist_snoc]; rfl
theorem hist_open (a : List Lr) : hist (a ++ [openRec]) = ((hist a).1 ++ [(hist a).2], []) := by rw [hist_snoc]; rfl
theorem hist_call (a : List Lr) (x : Cm × Bool × Int) : hist (a ++ callRecs x) = ((hist a).1, (hist a).2 ++ [x.1]) := by
  rw [hist_append]
  unfold callRecs
  cases x.2.1 <;> rfl
/-- what stands on a disk that died tells no less, and no more -/
def Dull (ex : List Lr) : Prop := ex = [] ∨ ∃ s i, ex = [resRec s i]
theorem Dull.take {ex : List Lr} (h : Dull ex) (k : Nat) : Dull (ex.take k) := by
  rcases h with rfl | ⟨s, i, rfl⟩
  · exact .inl List.take_nil
  · match k with
    | 0 => exact .inl rfl
    | k + 1 => exact .inr ⟨s, i, by simp⟩
theorem hist_dull (a : List Lr) {ex : List Lr} (h : Dull ex) : hist (a ++ ex) = hist a := by
  rcases h with rfl | ⟨s, i, rfl⟩
  · rw [List.append_nil]
  · rw [hist_snoc]; rfl
theorem dull_call (x : Cm × Bool × Int) {k : Nat} (hk : k < (callRecs x).length) : Dull ((callRecs x).take k) := by
  unfold callRecs at hk ⊢
  cases hx : x.2.1 with
  | false =>
    rw [hx, cond_false, List.length_singleton] at hk
    have : k = 0 := by omega
    subst this
    exact .inl rfl
  | true =>
    rw [hx, cond_true] at hk
    rw [cond_true]
    match k, hk with
    | 0, _ => exact .inl rfl
    | 1, _ => exact .inr ⟨_, _, rfl⟩
    | k + 2, hk => exact absurd hk (by show ¬ (k + 2 < 2); omega)
theorem dull_one (r : Lr) {k : Nat} (hk : k < [r].length) : Dull ([r].take k) := by
  rw [List.length_singleton] at hk
  have : k = 0 := by omega
  subst this
  exact .inl rfl
/-- how a ledger stands on its disk, and what its records tell -/
def Tells (zf : Zf) (l : Ld) (d : Ds) (rs : List Lr) : Prop := (d.dead = false ∧ ∃ A z, Sits zf l d rs A z) ∨ (d.dead = true ∧ ∃ ex A z t m, Torn zf l d rs ex A z t m ∧ Dull ex)
section
variable {zf : Zf} {l : Ld} {d : Ds} {rs : List Lr}
theorem Sits.alive {A : List Sg} {z : Sg} (h : Sits zf l d rs A z) : d.dead = false := h.live.dead
theorem Tells.stand (h : Tells zf l d rs) : Stand zf l d rs := by
  rcases h with ⟨_, A, z, s⟩ | ⟨_, ex, A, z, t, m, s, _⟩
  · exact .inl ⟨A, z, s⟩
  · exact .inr ⟨ex, A, z, t, m, s⟩
/-- records are written: all, or the disk has died -/
theorem Tells.write (h : Tells zf l d rs) (hd : d.dead = false) (ns : List Lr) (hf : l.fits ns) (hs : ∀ r ∈ ns, (encT r).length ≤ 1300) (hn : rs.length + ns.length ≤ 140) (h2 : ns.length ≤ 2) (hep : ∀ k, (l.run (ns.take k)).ep = l.ep) (hx : ∀ k, k < ns.length → Dull (ns.take k)) :
    ((l.write d ns).1 = 0 ∧ Tells zf (l.write d ns).2.1 (l.write d ns).2.2 (rs ++ ns)) ∨ (¬ (l.write d ns).1 = 0 ∧ Tells zf (l.write d ns).2.1 (l.write d ns).2.2 rs) := by
  rcases h with ⟨_, A, z, s⟩ | ⟨h0, _⟩
  · rcases write_sits s ns hf hs (by omega) h2 (fun k _ => hep k) with ⟨A', z', w1, w2⟩ | ⟨k, A', z', t, m, hk, w0, w1, w2⟩
    · exact .inl ⟨w1, .inl ⟨w2.alive, A', z', w2⟩⟩
    · exact .inr ⟨w1, .inr ⟨w0, _, A', z', t, m, w2, hx k hk⟩⟩
  · rw [hd] at h0
    cases h0
theorem Tells.e0 (h : Tells zf l d rs) (hd : d.dead = false) : l.e = 0 := by
  rcases h with ⟨_, A, z, s⟩ | ⟨h0, _⟩
  · exact s.e
  · rw [hd] at h0
    cases h0
/-- A COMMAND IS CALLED: with OK it waits; else nothing is told. -/
theorem Tells.call (h : Tells zf l d rs) (hz : zfOk zf = true) (hd : d.dead = false) (hn : rs.length + 2 ≤ 140) (c : Cm) :
    ∃ rs', Tells zf (l.call d c).2.2.1 (l.call d c).2.2.2 rs' ∧ rs'.length ≤ rs.length + 2 ∧ hist rs' = bif decide ((l.call d c).2.1 = 0) then ((hist rs).1, (hist rs).2 ++ [(l.call d c).1]) else hist rs := by
  have he := h.e0 hd
  unfold Ld.call
  rw [decide_eq_true he]
  simp only [Bool.not_true, cond_false]
  by_cases hl : (lookD l.dk c).2.2 = 0
  · rw [decide_eq_true hl]
    simp only [Bool.not_true, cond_false]
    obtain ⟨c1, _⟩ := call_fits (h.stand.core hz) hl
    obtain ⟨r1, r2⟩ := callRecs_le (lookD l.dk c)
    have hr : (bif (lookD l.dk c).2.1 then [resRec (lookD l.dk c).1.b.s (lookD l.dk c).1.b.i, admRec (lookD l.dk c).1] else [admRec (lookD l.dk c).1]) = callRecs (lookD l.dk c) := rfl
    rw [hr]
    rcases h.write hd (callRecs (lookD l.dk c)) c1 r2 (by omega) r1 (callRecs_ep _) (fun k hk => dull_call _ hk) with ⟨w1, w2⟩ | ⟨w1, w2⟩
    · rw [decide_eq_true w1]
      exact ⟨_, w2, by rw [List.length_append]; omega, hist_call rs _⟩
    · rw [decide_eq_false w1]
      refine ⟨rs, w2, by omega, ?_⟩
      simp only [cond_false]
      rw [decide_eq_false w1]
      rfl
  · rw [decide_eq_false hl]
    simp only [Bool.not_false, cond_true]
    refine ⟨rs, h, by omega, ?_⟩
    rw [decide_eq_false hl]
    rfl
/-- A TICK IS OPENED: what waited is its commands. -/
theorem Tells.begin (h : Tells zf l d rs) (hd : d.dead = false) (hn : rs.length + 2 ≤ 140) :
    ∃ rs', Tells zf (l.begin d).2.2.2.1 (l.begin d).2.2.2.2 rs' ∧ rs'.length ≤ rs.length + 2 ∧ hist rs' = bif decide ((l.begin d).2.2.1 = 0) then ((hist rs).1 ++ [(hist rs).2], []) else hist rs := by
  have he := h.e0 hd
  cases hg : l.dk.o || decide (1099511627776 ≤ l.dk.t) with
  | true =>
    have hb : l.begin d = (0, [], 14, l, d) := by
      unfold Ld.begin
      rw [decide_eq_true he, hg]
      rfl
    rw [hb]
    exact ⟨rs, h, by omega, rfl⟩
  | false =>
    obtain ⟨ho, ht⟩ := Bool.or_eq_false_iff.1 hg
    have ht2 := of_decide_eq_false ht
    have hb : ∀ X, X = l.write d [openRec] → l.begin d = bif decide (X.1 = 0) then (X.2.1.dk.t, X.2.1.cmds, (0 : Int), X.2.1, X.2.2) else (0, [], X.1, X.2.1, X.2.2) := fun X hX => by
      unfold Ld.begin
      rw [decide_eq_true he, hg, hX]
      rfl
    have hw := h.write hd [openRec] (begin_fits ho (by omega)) (fun r hr => by rw [List.mem_singleton.1 hr]; exact enc_open) (by rw [List.length_singleton]; omega) (by simp) run_open (fun k hk => dull_one _ hk)
    obtain ⟨X, hX⟩ : ∃ X, X = l.write d [openRec] := ⟨_, rfl⟩
    rw [← hX] at hw
    rw [hb X hX]
    rcases hw with ⟨w1, w2⟩ | ⟨w1, w2⟩
    · rw [decide_eq_true w1]
      exact ⟨_, w2, by rw [List.length_append, List.length_singleton]; omega, hist_open rs⟩
    · rw [decide_eq_false w1]
      refine ⟨rs, w2, by omega, ?_⟩
      simp only [cond_false]
      rw [decide_eq_false w1]
      rfl
/-- a tick is closed -/
theorem Tells.finish (h : Tells zf l d rs) (hd : d.dead = false) (hn : rs.length + 2 ≤ 140) : ∃ rs', Tells zf (l.finish d []).2.1 (l.finish d []).2.2 rs' ∧ rs'.length ≤ rs.length + 2 ∧ hist rs' = hist rs := by
  have he := h.e0 hd
  unfold Ld.finish
  rw [decide_eq_true he]
  simp only [Bool.not_true, cond_false]
  cases hm : mayL (closeRec [])
  · exact ⟨rs, h, by omega, rfl⟩
  · cases ho : l.dk.o
    · exact ⟨rs, h, by omega, rfl⟩
    · rcases h.write hd [closeRec []] (end_fits hm ho) (fun r hr => by rw [List.mem_singleton.1 hr]; exact enc_close (by simp)) (by rw [List.length_singleton]; omega) (by simp) (run_close []) (fun k hk => dull_one _ hk) with ⟨w1, w2⟩ | ⟨w1, w2⟩
      · exact ⟨_, w2, by rw [List.length_append, List.length_singleton]; omega, hist_close rs []⟩
      · exact ⟨rs, w2, by omega, rfl⟩
/-- the disk is to die -/
theorem Tells.cut (h : Tells zf l d rs) (k : Int) : Tells zf l (d.cut k) rs := by
  rcases h with ⟨h0, A, z, h⟩ | ⟨h0, ex, A, z, t, m, h, hx⟩
  · exact .inl ⟨h0, A, z, h.live, h.recs, h.sure, h.head, h.nx, h.fits, h.like, h.e, h.sz⟩
  · exact .inr ⟨h0, ex, A, z, t, m, ⟨⟨h.half.good, h.half.fs, h.half.lt, h.half.tl⟩, h.recs, h.sure, h.head, h.nx, h.fits, h.like, h.ep, h.e, h.sz, h.few, h.lgn⟩, hx⟩
/-- what a copy of the disk tells behind a crash -/
structure Read (zf : Zf) (d0 : Ds) (there : List Nat) (g' : Lg) (d' : Ds) (rs' : List Lr) : Prop where
  th : opThere d0 ledName = (0, there, d0)
  en : opEnd ledName there (opRun ledName there d0) = (g', rs'.map encT, d')
  may : ∀ r ∈ rs', mayL r = true
  sz : ∀ r ∈ rs', (encT r).length ≤ 1300
  few : rs'.length ≤ 150
theorem Tells.read (h : Tells zf l d rs) (hn : rs.length + 2 ≤ 140) (h0 : 0 ≤ l.ep) (h1 : l.ep ≤ 1000) (keep : Int) : ∃ there g' d' rs', Read zf (d.crash keep) there g' d' rs' ∧ hist rs' = hist rs := by
  have key : ∀ {ex : List Lr} {A : List Sg} {z : Sg} {t : Nm} {m : Nat}, Half ledName A z t m d → recsOf (A ++ [z]) = (rs ++ ex).map encT → Sure rs.length A z → (A ++ [z]).head?.map Sg.first = some 0 → z.next = rs.length + ex.length →
      (iniL zf l.lg).fits (rs ++ ex) → (∀ r ∈ rs ++ ex, (encT r).length ≤ 1300) → ex.length ≤ 1 → (∀ k, ((iniL zf l.lg).run (rs ++ ex.take k)).ep = l.ep) → Dull ex →
      ∃ there g' d' rs', Read zf (d.crash keep) there g' d' rs' ∧ hist rs' = hist rs := by
    intro ex A z t m a1 a2 a3 a4 a5 a6 a7 a8 a9 hx
    obtain ⟨k, there, g', d', l', d'', A', z', b1, b2, _⟩ := Go.Proofs.YtndjnkjcfdaegaaGreatDoor.reopen a1 a2 a3 a4 a5 a6 a7 (by omega) a9 h0 h1 keep enc_epoch
    have hin : ∀ r ∈ rs ++ ex.take k, r ∈ rs ++ ex := fun r hr => by
      rcases List.mem_append.1 hr with e | e
      · exact List.mem_append.2 (.inl e)
      · exact List.mem_append.2 (.inr (List.mem_of_mem_take e))
    exact ⟨there, g', d', rs ++ ex.take k, ⟨b1, b2, fun r hr => Ld.fits_may _ a6 r (hin r hr), fun r hr => a7 r (hin r hr), by rw [List.length_append, List.length_take]; omega⟩, hist_dull rs (hx.take k)⟩
  rcases h with ⟨_, A, z, h⟩ | ⟨_, ex, A, z, t, m, h, hx⟩
  · refine key (ex := []) h.live.half (by rw [List.append_nil]; exact h.recs) ?_ h.head h.nx (by rw [List.append_nil]; exact h.fits) (by rw [List.append_nil]; exact h.sz) (by simp) (fun k => ?_) (.inl rfl)
    · have := Sure.all (A := A) h.sure
      rw [h.recs, List.length_map] at this
      exact this
    · rw [List.take_nil, List.append_nil]
      exact h.like.2.1
  · exact key h.half h.recs h.sure h.head h.nx h.fits h.sz h.few h.ep hx
/-- IT CRASHES, AND IS OPENED AGAIN: all that was told is there. -/
theorem Tells.reopen (h : Tells zf l d rs) (hd : d.dead = false) (hn : rs.length + 2 ≤ 140) (h0 : 0 ≤ l.ep) (h1 : l.ep ≤ 1000) (keep : Int) :
    ∃ there g' out d' l' d'' rs', Opens zf (d.crash keep) there g' out d' l' d'' ∧ Tells zf l' d'' rs' ∧ rs'.length ≤ rs.length + 2 ∧ l'.ep = l.ep + 1 ∧ hist rs' = hist rs := by
  rcases h with ⟨_, A, z, h⟩ | ⟨h9, _⟩
  · obtain ⟨k, there, g', d', l', d'', A', z', b1, b2, b3, b4, b5, b6, b7⟩ := Go.Proofs.YtndjnkjcfdaegaaGreatDoor.reopen (ex := []) h.live.half (by rw [List.append_nil]; exact h.recs) (by
      have := Sure.all (A := A) h.sure
      rw [h.recs, List.length_map] at this
      exact this) h.head h.nx (by rw [List.append_nil]; exact h.fits) (by rw [List.append_nil]; exact h.sz) (by simp only [List.length_nil]; omega) (fun k => by
      rw [List.take_nil, List.append_nil]
      exact h.like.2.1) h0 h1 keep enc_epoch
    rw [List.take_nil, List.append_nil] at b2 b3 b4
    refine ⟨there, g', rs.map encT, d', l', d'', _, ⟨b1, b2, b3, b6, b7, by rw [List.length_map]; omega, fun t ht => ?_⟩, .inl ⟨b4.alive, A', z', b4⟩, by rw [List.length_append, List.length_singleton]; omega, b5, hist_epoch rs _⟩
    obtain ⟨r, hr, rfl⟩ := List.mem_map.1 ht
    exact h.sz r hr
  · rw [hd] at h9
    cases h9
end
end Go.Proofs.YtndjnkjcfdaegaaGreatDoor

