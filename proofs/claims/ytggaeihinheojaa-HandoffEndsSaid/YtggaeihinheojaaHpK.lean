/-
  A world of three shards: what a message that comes is heard as, and what is written. No conditions of its own.
-/
import Derived.Test.YtggaeihinheojaaHpD
import Derived.Test.YtggaeihinheojaaHpJ
namespace Go.Proofs.Ytggaeihinheojaa
open Go.RowKit

/-- what the shard that hears does -/
structure Come where
  wr : Bool
  rk : Int
  rn : Int
  rf : Int
  rb : Bd
  ans : Bool
  ak : Int
  an : Int
  x : Sh
def Wd.wrote (W : Wd) (a b : Nat) (l : List Mc) (c : Come) : Wd := bif c.wr then (W.setW a b l).setS b c.x else W.setW a b l
def Wd.came (W : Wd) (a b : Nat) (l : List Mc) (c : Come) : Wd := bif c.ans then (W.wrote a b l c).push b a (c.ak, c.an, []) else W.wrote a b l c

/-- WHAT IS HEARD AND WRITTEN -/
structure CmOk (W : Wd) (T a b : Nat) (m : Mc) (l : List Mc) (c : Come) : Prop where
  rest : Rest W (W.came a b l c) T 1
  nx : c.x.nx = (W.s b).nx
  hear : ∀ (w : World) (own dead outs ins gh cm bv ids : Value) (tt : Int), RdOf cOu w outs (W.s b).outs → RdOf cIn w ins (W.s b).ins → RdOf cBd w bv m.2.2 →
    Calls Try.prog 11 #[stV 0 0 own dead outs ins gh (W.s b).nx, .int .i64 a, msgIn m.1 tt m.2.1 cm bv ids] w fun e w' => e = .returned (.tuple #[recV c.rk c.rn c.rf c.rb, .bool c.wr, msgV c.ak c.an, .bool c.ans]) ∧ Keeps No w w'
  fold : c.wr = true → ∀ (w : World) (own outs ins : Value), own.oneCell' = true → RdOf cBd w own (W.s b).own → RdOf cOu w outs (W.s b).outs → RdOf cIn w ins (W.s b).ins →
    Calls Try.prog 15 #[stV 0 0 own nilV outs ins nilV (W.s b).nx, recV c.rk c.rn c.rf c.rb] w fun e w' => ∃ vo vu vi, e = .returned (.tuple #[stV 0 0 vo nilV vu vi nilV (W.s b).nx, .int .i64 0]) ∧ RdOf cBd w' vo c.x.own ∧ RdOf cOu w' vu c.x.outs ∧ RdOf cIn w' vi c.x.ins ∧ Keeps No w w' ∧ ((vo = own ∧ c.x.own = (W.s b).own) ∨ Fresh w vo) ∧ Fresh w vu ∧ Fresh w vi

theorem first_in {li : List Inn} {a : Nat} {n : Int} (h : ∃ x ∈ li, x.f = a ∧ x.n = n) : ∃ (j : Nat) (hj : j < li.length), firstOf (isIn a n) li = j ∧ li[j].f = a ∧ li[j].n = n := by
  rcases firstOf_cases (isIn (a : Int) n) li with ⟨_, hno⟩ | ⟨j, hf, hj, hp, _⟩
  · obtain ⟨x, hx, h1, h2⟩ := h
    have := hno x hx
    simp [isIn, h1, h2] at this
  · simp [isIn] at hp
    exact ⟨j, hj, hf, hp.1, hp.2⟩
theorem first_no {li : List Inn} {a : Nat} {n : Int} (h : ¬ ∃ x ∈ li, x.f = a ∧ x.n = n) : firstOf (isIn a n) li = -1 := by
  rcases firstOf_cases (isIn (a : Int) n) li with ⟨h0, _⟩ | ⟨j, hf, hj, hp, _⟩
  · exact h0
  · simp [isIn] at hp
    exact absurd ⟨li[j], List.getElem_mem hj, hp.1, hp.2⟩ h
theorem first_out {lo : List Ou} {n st : Int} (h : ∃ o ∈ lo, o.n = n ∧ o.st = st) : ∃ (j : Nat) (hj : j < lo.length), firstOf (isOut n st) lo = j ∧ lo[j].n = n ∧ lo[j].st = st := by
  rcases firstOf_cases (isOut n st) lo with ⟨_, hno⟩ | ⟨j, hf, hj, hp, _⟩
  · obtain ⟨x, hx, h1, h2⟩ := h
    have := hno x hx
    simp [isOut, h1, h2] at this
  · simp [isOut] at hp
    exact ⟨j, hj, hf, hp.1, hp.2⟩
theorem at_split {α : Type} (l : List α) (j : Nat) (hj : j < l.length) : l = l.take j ++ l[j] :: l.drop (j + 1) := by
  rw [List.getElem_cons_drop, List.take_append_drop]

theorem comes_data {W : Wd} {T a b : Nat} {m : Mc} {l : List Mc} (hO : Ok W T) (ha : a < 3) (hb : b < 3) (hab : a ≠ b) (hl : W.way a b = m :: l) : ∃ c, CmOk W T a b m l c := by
  have hlo : (W.s b).outs.length ≤ 1000 := by have := outs_le hO.S hb; omega
  have hli : (W.s b).ins.length ≤ 1000 := by have := ins_le hO.S hb; omega
  have hlw : (W.s b).own.length ≤ 1000 := by have := own_le hO.S hb; omega
  have hM := hO.M.msg a b ha hb m (by rw [hl]; simp)
  obtain ⟨mk, mn, mb⟩ := m
  rcases msg_kind hM with hk | hk | hk | hk
  · obtain ⟨x, hx, ht⟩ := msg7 hM hk
    by_cases hh : Has W b a mn
    · obtain ⟨j, hj, hf, _, _⟩ := first_in hh
      refine ⟨⟨false, 0, 0, 0, Bd.zero, true, 8, mn, W.s b⟩, rest_7_again hO ha hb hab hl hk hh, rfl, ?_, fun h => by cases h⟩
      intro w own dead outs ins gh cm bv ids tt h1 h2 h3
      change mk = 7 at hk
      change mb = [x] at hx
      subst hk hx
      exact hear_2 h2 h3 a mn j hf
    · refine ⟨⟨true, 6, mn, a, x, true, 8, mn, (W.s b).stage ⟨a, mn, x⟩⟩, rest_7_first hO ha hb hab hl hk hx hh, rfl, ?_, ?_⟩
      · intro w own dead outs ins gh cm bv ids tt h1 h2 h3
        change mk = 7 at hk
        change mb = [x] at hx
        subst hk hx
        exact hear_3 h2 h3 a mn (first_no hh)
      · intro _ w own outs ins hw h0 h1 h2
        refine (fold_stage (own := own) (dead := nilV) (gh := nilV) h1 h2 hlo hli hw rfl rfl mn a x (first_no hh)).mono ?_
        rintro e w' ⟨vu, vi, h3, h4, h5, h6, h7, h8⟩
        exact ⟨own, vu, vi, h3, h0.kept h6 (fun _ _ h => h), h4, h5, h6, .inl ⟨rfl, rfl⟩, h7, h8⟩
  · obtain ⟨_, ⟨x, ht⟩, hh⟩ := msg8 hM hk
    obtain ⟨o, ho, e1, e2, e3, _⟩ := ht
    obtain ⟨j, hj, hf, hn, hst⟩ := first_out (n := mn) (st := 2) ⟨o, ho, e1, e3⟩
    have hsp := at_split _ j hj
    obtain ⟨hto, hr⟩ := rest_8 hO ha hb hab hl hk hsp hn hst
    have hset : (W.s b).outs.set j ⟨(W.s b).outs[j].n, (W.s b).outs[j].to, 3, (W.s b).outs[j].b⟩ = (W.s b).outs.take j ++ (⟨(W.s b).outs[j].n, (W.s b).outs[j].to, 3, (W.s b).outs[j].b⟩ : Ou) :: (W.s b).outs.drop (j + 1) := by
      rw [List.set_eq_take_append_cons_drop, if_pos hj]
    refine ⟨⟨true, 4, mn, 0, Bd.zero, true, 9, mn, (W.s b).outs' ((W.s b).outs.take j ++ ⟨(W.s b).outs[j].n, (W.s b).outs[j].to, 3, (W.s b).outs[j].b⟩ :: (W.s b).outs.drop (j + 1))⟩, hr, rfl, ?_, ?_⟩
    · intro w own dead outs ins gh cm bv ids tt h1 h2 h3
      change mk = 8 at hk
      subst hk
      exact hear_6 h1 a mn j hj hf (by simp [hto])
    · intro _ w own outs ins hw h0 h1 h2
      refine (fold_commit (own := own) (dead := nilV) (gh := nilV) h1 h2 hlo hli hw rfl rfl mn 0 Bd.zero j hj hf).mono ?_
      rintro e w' ⟨vu, vi, h3, h4, h5, h6, h7, h8⟩
      rw [hset] at h4
      exact ⟨own, vu, vi, h3, h0.kept h6 (fun _ _ h => h), h4, h5, h6, .inl ⟨rfl, rfl⟩, h7, h8⟩
  · by_cases hh : Has W b a mn
    · obtain ⟨j, hj, hf, hfa, hn⟩ := first_in hh
      obtain ⟨hfree, hr⟩ := rest_9 hO ha hb hab hl hk (at_split _ j hj) hfa hn
      have her : (W.s b).ins.eraseIdx j = (W.s b).ins.take j ++ (W.s b).ins.drop (j + 1) := List.eraseIdx_eq_take_drop_succ ..
      refine ⟨⟨true, 7, mn, a, Bd.zero, true, 10, mn, (W.s b).adopt (W.s b).ins[j].b ((W.s b).ins.take j ++ (W.s b).ins.drop (j + 1))⟩, hr, rfl, ?_, ?_⟩
      · intro w own dead outs ins gh cm bv ids tt h1 h2 h3
        change mk = 9 at hk
        subst hk
        exact hear_8 h2 a mn j hf
      · intro _ w own outs ins hw h0 h1 h2
        refine (fold_adopt (own := own) (dead := nilV) (gh := nilV) h1 h2 hlo hli rfl rfl mn a Bd.zero h0 hlw j hj hf _ rfl _ rfl _ hfree).mono ?_
        rintro e w' ⟨h6, ⟨h3, _⟩ | ⟨vo, vu, vi, _, h3, h4, h5, h9, h10, h7, h8⟩⟩
        · cases h3
        · rw [her] at h9
          exact ⟨vo, vu, vi, h3, h4, h5, h9, h6, .inr h10, h7, h8⟩
    · refine ⟨⟨false, 0, 0, 0, Bd.zero, true, 10, mn, W.s b⟩, rest_9_gone hO ha hb hab hl hk hh, rfl, ?_, fun h => by cases h⟩
      intro w own dead outs ins gh cm bv ids tt h1 h2 h3
      change mk = 9 at hk
      subst hk
      exact hear_7 h2 a mn (first_no hh)
  · obtain ⟨_, ⟨x, ht⟩, hh⟩ := msg10 hM hk
    obtain ⟨o, ho, e1, e2, e3, _⟩ := ht
    obtain ⟨j, hj, hf, hn, hst⟩ := first_out (n := mn) (st := 3) ⟨o, ho, e1, e3⟩
    have hsp := at_split _ j hj
    obtain ⟨hto, hr⟩ := rest_10 hO ha hb hab hl hk hsp hn hst
    have her : (W.s b).outs.eraseIdx j = (W.s b).outs.take j ++ (W.s b).outs.drop (j + 1) := List.eraseIdx_eq_take_drop_succ ..
    refine ⟨⟨true, 5, mn, 0, Bd.zero, false, 0, 0, (W.s b).outs' ((W.s b).outs.take j ++ (W.s b).outs.drop (j + 1))⟩, hr, rfl, ?_, ?_⟩
    · intro w own dead outs ins gh cm bv ids tt h1 h2 h3
      change mk = 10 at hk
      subst hk
      exact hear_11 h1 a mn j hj hf (by simp [hto])
    · intro _ w own outs ins hw h0 h1 h2
      refine (fold_done (own := own) (dead := nilV) (gh := nilV) h1 h2 hlo hli hw rfl rfl mn 0 Bd.zero j hj hf).mono ?_
      rintro e w' ⟨vu, vi, h3, h4, h5, h6, h7, h8⟩
      rw [her] at h4
      exact ⟨own, vu, vi, h3, h0.kept h6 (fun _ _ h => h), h4, h5, h6, .inl ⟨rfl, rfl⟩, h7, h8⟩
end Go.Proofs.Ytggaeihinheojaa
