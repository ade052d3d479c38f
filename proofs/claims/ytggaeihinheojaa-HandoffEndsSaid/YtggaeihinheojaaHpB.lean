/-
  A world of three shards, as data: each message that comes, each that is asked for, and a shard that begins anew, leave it right. Plain lemmas. No conditions of its own.
-/
import Derived.Test.YtggaeihinheojaaHpA
namespace Go.Proofs.Ytggaeihinheojaa

def Wd.push (W : Wd) (a b : Nat) (m : Mc) : Wd := W.setW a b (W.way a b ++ [m])
theorem OkS.push {W : Wd} {T : Nat} (h : OkS W T) (a b : Nat) (m : Mc) : OkS (W.push a b m) T := h.setW a b _
theorem frame_refl {W W' : Wd} (h : W'.s = W.s) (c d : Nat) (n : Int) : Frame W W' c d n := by
  refine ⟨fun _ _ _ _ _ _ _ _ => ?_, fun _ _ _ _ _ => ?_⟩
  · unfold Tr; rw [h]
  · unfold Has; rw [h]
/-- an answer speaks of its question's Out -/
theorem of3_says {a b : Nat} {m : Mc} (h : m.1 = 7 ∨ m.1 = 9) : Of3 a b m a b m.2.1 ∧ ∀ c d n, Of3 a b m c d n → c = a ∧ d = b ∧ n = m.2.1 := by
  refine ⟨.inl ⟨rfl, rfl, by simp [saysM, h]⟩, ?_⟩
  rintro c d n (⟨rfl, rfl, h1⟩ | ⟨rfl, rfl, h1⟩)
  · simp [saysM] at h1
    exact ⟨rfl, rfl, h1.2.symm⟩
  · simp [repsM] at h1
    omega
theorem of3_reps {a b : Nat} {m : Mc} (h : m.1 = 8 ∨ m.1 = 10) : Of3 a b m b a m.2.1 ∧ ∀ c d n, Of3 a b m c d n → c = b ∧ d = a ∧ n = m.2.1 := by
  refine ⟨.inr ⟨rfl, rfl, by simp [repsM, h]⟩, ?_⟩
  rintro c d n (⟨rfl, rfl, h1⟩ | ⟨rfl, rfl, h1⟩)
  · simp [saysM] at h1
    omega
  · simp [repsM] at h1
    exact ⟨rfl, rfl, h1.2.symm⟩
theorem says_at {a b : Nat} {k n : Int} {bs : List Bd} (h : k = 7 ∨ k = 9) : Of3 a b (k, n, bs) a b n ∧ ∀ c d n', Of3 a b (k, n, bs) c d n' → c = a ∧ d = b ∧ n' = n := of3_says (m := (k, n, bs)) h
theorem reps_at {a b : Nat} {k n : Int} {bs : List Bd} (h : k = 8 ∨ k = 10) : Of3 a b (k, n, bs) b a n ∧ ∀ c d n', Of3 a b (k, n, bs) c d n' → c = b ∧ d = a ∧ n' = n := of3_reps (m := (k, n, bs)) h
/-- the kind tells what is known -/
theorem msg7 {W : Wd} {a b : Nat} {m : Mc} (h : MsgOk W a b m) (hk : m.1 = 7) : ∃ x, m.2.2 = [x] ∧ Tr W a b m.2.1 2 x := by
  rcases h with h | h | h | h
  · exact h.2
  all_goals (have := h.1; omega)
theorem msg9 {W : Wd} {a b : Nat} {m : Mc} (h : MsgOk W a b m) (hk : m.1 = 9) : m.2.2 = [] ∧ ∃ x, Tr W a b m.2.1 3 x := by
  rcases h with h | h | h | h
  · have := h.1; omega
  · exact h.2
  all_goals (have := h.1; omega)
theorem msg8 {W : Wd} {a b : Nat} {m : Mc} (h : MsgOk W a b m) (hk : m.1 = 8) : m.2.2 = [] ∧ (∃ x, Tr W b a m.2.1 2 x) ∧ Has W a b m.2.1 := by
  rcases h with h | h | h | h
  · have := h.1; omega
  · have := h.1; omega
  · exact h.2
  · have := h.1; omega
theorem msg10 {W : Wd} {a b : Nat} {m : Mc} (h : MsgOk W a b m) (hk : m.1 = 10) : m.2.2 = [] ∧ (∃ x, Tr W b a m.2.1 3 x) ∧ ¬ Has W a b m.2.1 := by
  rcases h with h | h | h | h
  · have := h.1; omega
  · have := h.1; omega
  · have := h.1; omega
  · exact h.2
theorem msg_kind {W : Wd} {a b : Nat} {m : Mc} (h : MsgOk W a b m) : m.1 = 7 ∨ m.1 = 8 ∨ m.1 = 9 ∨ m.1 = 10 := by
  rcases h with h | h | h | h
  all_goals (have := h.1; omega)

/-- the state that a shard has behind a stage -/
def Sh.stage (s : Sh) (x : Inn) : Sh := ⟨s.own, s.outs, s.ins ++ [x], s.nx⟩
def Sh.outs' (s : Sh) (l : List Ou) : Sh := ⟨s.own, l, s.ins, s.nx⟩
def Sh.adopt (s : Sh) (b : Bd) (l : List Inn) : Sh := ⟨s.own.take (findAt b.s b.i b.g s.own) ++ b :: s.own.drop (findAt b.s b.i b.g s.own), s.outs, l, s.nx⟩

section
variable {W : Wd} {T a b : Nat} {m : Mc} {l : List Mc}

theorem come_7_again (h : Ok W T) (ha : a < 3) (hb : b < 3) (hab : a ≠ b) (hl : W.way a b = m :: l) (hk : m.1 = 7) (hh : Has W b a m.2.1) : Ok ((W.setW a b l).push b a (8, m.2.1, [])) (T + 1) := by
  obtain ⟨x, _, ht⟩ := msg7 (h.M.msg a b ha hb m (by rw [hl]; simp)) hk
  have hS2 := (h.S.setW a b l).up
  refine ⟨hS2.push _ _ _, comes_M (W2 := W.setW a b l) h.S h.M ha hb hab hl ha hb hab (of3_says (.inl hk)).1 rfl hS2 (frame_refl (W := W) (W' := W.setW a b l) rfl _ _ _) (.inl ⟨(8, m.2.1, []), rfl, (reps_at (.inl rfl)).1, fun c' d' n' _ _ _ h0 => (reps_at (.inl rfl)).2 _ _ _ h0, .inr (.inr (.inl ⟨rfl, rfl, ⟨x, ht⟩, hh⟩)), ⟨2, x, by decide, ht⟩⟩)⟩
theorem come_7_first (h : Ok W T) (ha : a < 3) (hb : b < 3) (hab : a ≠ b) (hl : W.way a b = m :: l) (hk : m.1 = 7) {x : Bd} (hx : m.2.2 = [x]) (hh : ¬ Has W b a m.2.1) : Ok (((W.setW a b l).setS b ((W.s b).stage ⟨a, m.2.1, x⟩)).push b a (8, m.2.1, [])) (T + 1) := by
  obtain ⟨x', hx', ht⟩ := msg7 (h.M.msg a b ha hb m (by rw [hl]; simp)) hk
  obtain rfl : x' = x := by rw [hx] at hx'; simpa using hx'.symm
  have hS2 : OkS ((W.setW a b l).setS b ((W.s b).stage ⟨a, m.2.1, x'⟩)) (T + 1) := stage_S (h.S.setW a b l) ha hb hab ht hh
  have htr : ∀ c d n st y, Tr ((W.setW a b l).setS b ((W.s b).stage ⟨a, m.2.1, x'⟩)) c d n st y ↔ Tr W c d n st y := by
    intro c d n st y
    by_cases e : c = b
    · subst e; exact tr_at
    · exact tr_ne e
  refine ⟨hS2.push _ _ _, comes_M (W2 := (W.setW a b l).setS b ((W.s b).stage ⟨a, m.2.1, x'⟩)) h.S h.M ha hb hab hl ha hb hab (of3_says (.inl hk)).1 rfl hS2 ⟨fun c d n st y _ _ _ => htr c d n st y, ?_⟩ (.inl ⟨(8, m.2.1, []), rfl, (reps_at (.inl rfl)).1, fun c' d' n' _ _ _ h0 => (reps_at (.inl rfl)).2 _ _ _ h0, .inr (.inr (.inl ⟨rfl, rfl, ⟨x', (htr _ _ _ _ _).2 ht⟩, ?_⟩)), ⟨2, x', by decide, (htr _ _ _ _ _).2 ht⟩⟩)⟩
  · intro c d n hd hne
    by_cases e : d = b
    · subst e
      rw [has_at]
      show (∃ y ∈ (W.s d).ins ++ [_], _) ↔ _
      constructor
      · rintro ⟨y, hy, h1, h2⟩
        simp only [List.mem_append, List.mem_cons, List.not_mem_nil, or_false] at hy
        rcases hy with hy | rfl
        · exact ⟨y, hy, h1, h2⟩
        · exact absurd ⟨by have : (a : Int) = c := h1; omega, rfl, h2.symm⟩ hne
      · rintro ⟨y, hy, h1⟩
        exact ⟨y, by simp [hy], h1⟩
    · exact has_ne e
  · rw [has_at]
    exact ⟨⟨a, m.2.1, x'⟩, by simp [Sh.stage], rfl, rfl⟩
/-- the Out of which an answer speaks -/
theorem out_of {W : Wd} {T b c : Nat} (hS : OkS W T) (hb : b < 3) {n st : Int} {x : Bd} (ht : Tr W b c n st x) (hst : st ≠ 1) {o : Ou} (ho : o ∈ (W.s b).outs) (hn : o.n = n) (hos : o.st = st) : o.to = c ∧ o.b = x := by
  obtain ⟨p, hp, h1, h2, h3, h4⟩ := ht
  obtain rfl := out_uniq hS hb ho hp (by omega) (by omega) (by omega)
  exact ⟨h2, h4⟩
theorem frame_out {W : Wd} {k : Nat} {A B : List Ou} {o : Ou} (hl : (W.s k).outs = A ++ o :: B) {c : Nat} (hc : o.to = c) (L : List Ou) (hL : ∀ p, p ∈ L → p.st ≠ 1 → (p ∈ A ++ B ∨ (p.n = o.n ∧ p.to = o.to))) (hL2 : ∀ p, p ∈ A ++ B → p ∈ L) :
    Frame W (W.setS k ((W.s k).outs' L)) k c o.n := by
  refine ⟨fun c' d' n' st x _ hne hst => ?_, fun c' d' n' _ _ => ?_⟩
  · by_cases e : c' = k
    · subst e
      rw [tr_at]
      unfold Tr
      constructor
      · rintro ⟨p, hp, h1, h2, h3, h4⟩
        rcases hL p hp (by omega) with hm | ⟨h5, h6⟩
        · refine ⟨p, ?_, h1, h2, h3, h4⟩
          rw [hl]
          simp only [List.mem_append, List.mem_cons] at hm ⊢
          rcases hm with hm | hm
          · exact .inl hm
          · exact .inr (.inr hm)
        · exact absurd ⟨rfl, by omega, by omega⟩ hne
      · rintro ⟨p, hp, h1, h2, h3, h4⟩
        rw [hl] at hp
        simp only [List.mem_append, List.mem_cons] at hp
        rcases hp with hp | rfl | hp
        · exact ⟨p, hL2 p (by simp [hp]), h1, h2, h3, h4⟩
        · exact absurd ⟨rfl, by omega, by omega⟩ hne
        · exact ⟨p, hL2 p (by simp [hp]), h1, h2, h3, h4⟩
    · exact tr_ne e
  · by_cases e : d' = k
    · subst e
      exact has_at
    · exact has_ne e
theorem come_8 (h : Ok W T) (ha : a < 3) (hb : b < 3) (hab : a ≠ b) (hl : W.way a b = m :: l) (hk : m.1 = 8) {A B : List Ou} {o : Ou} (hO : (W.s b).outs = A ++ o :: B) (hn : o.n = m.2.1) (hst : o.st = 2) :
    o.to = a ∧ Ok (((W.setW a b l).setS b ((W.s b).outs' (A ++ ⟨o.n, o.to, 3, o.b⟩ :: B))).push b a (9, m.2.1, [])) (T + 1) := by
  obtain ⟨_, ⟨x, ht⟩, hh⟩ := msg8 (h.M.msg a b ha hb m (by rw [hl]; simp)) hk
  have hmem : o ∈ (W.s b).outs := by rw [hO]; simp
  obtain ⟨hto, rfl⟩ := out_of h.S hb ht (by decide) hmem hn hst
  refine ⟨hto, ?_⟩
  have hS2 : OkS ((W.setW a b l).setS b ((W.s b).outs' (A ++ ⟨o.n, o.to, 3, o.b⟩ :: B))) (T + 1) := commit_S (h.S.setW a b l) hb hO hst ((staged_iff hto).2 (by rw [hn]; exact hh))
  have hF : Frame W ((W.setW a b l).setS b ((W.s b).outs' (A ++ ⟨o.n, o.to, 3, o.b⟩ :: B))) b a m.2.1 := by
    have := frame_out hO hto (A ++ ⟨o.n, o.to, 3, o.b⟩ :: B) (fun p hp _ => by
      simp only [List.mem_append, List.mem_cons] at hp ⊢
      rcases hp with hp | rfl | hp
      · exact .inl (.inl hp)
      · exact .inr ⟨rfl, rfl⟩
      · exact .inl (.inr hp)) (fun p hp => by
      simp only [List.mem_append, List.mem_cons] at hp ⊢
      rcases hp with hp | hp
      · exact .inl hp
      · exact .inr (.inr hp))
    rw [← hn]
    exact ⟨this.tr, this.has⟩
  have ht3 : Tr ((W.setW a b l).setS b ((W.s b).outs' (A ++ ⟨o.n, o.to, 3, o.b⟩ :: B))) b a m.2.1 3 o.b := tr_at.2 ⟨⟨o.n, o.to, 3, o.b⟩, by simp [Sh.outs'], hn, hto, rfl, rfl⟩
  exact ⟨hS2.push _ _ _, comes_M (W2 := (W.setW a b l).setS b ((W.s b).outs' (A ++ ⟨o.n, o.to, 3, o.b⟩ :: B))) h.S h.M ha hb hab hl hb ha hab.symm (of3_reps (.inl hk)).1 rfl hS2 hF (.inl ⟨(9, m.2.1, []), rfl, (says_at (.inr rfl)).1, fun c' d' n' _ _ _ h0 => (says_at (.inr rfl)).2 _ _ _ h0, .inr (.inl ⟨rfl, rfl, _, ht3⟩), ⟨3, _, by decide, ht3⟩⟩)⟩
theorem come_9_gone (h : Ok W T) (ha : a < 3) (hb : b < 3) (hab : a ≠ b) (hl : W.way a b = m :: l) (hk : m.1 = 9) (hh : ¬ Has W b a m.2.1) : Ok ((W.setW a b l).push b a (10, m.2.1, [])) (T + 1) := by
  obtain ⟨_, x, ht⟩ := msg9 (h.M.msg a b ha hb m (by rw [hl]; simp)) hk
  have hS2 := (h.S.setW a b l).up
  refine ⟨hS2.push _ _ _, comes_M (W2 := W.setW a b l) h.S h.M ha hb hab hl ha hb hab (of3_says (.inr hk)).1 rfl hS2 (frame_refl (W := W) (W' := W.setW a b l) rfl _ _ _) (.inl ⟨(10, m.2.1, []), rfl, (reps_at (.inr rfl)).1, fun c' d' n' _ _ _ h0 => (reps_at (.inr rfl)).2 _ _ _ h0, .inr (.inr (.inr ⟨rfl, rfl, ⟨x, ht⟩, hh⟩)), ⟨3, x, by decide, ht⟩⟩)⟩
theorem come_9 (h : Ok W T) (ha : a < 3) (hb : b < 3) (hab : a ≠ b) (hl : W.way a b = m :: l) (hk : m.1 = 9) {A B : List Inn} {y : Inn} (hI : (W.s b).ins = A ++ y :: B) (hf : y.f = a) (hn : y.n = m.2.1) :
    findIs y.b.s y.b.i y.b.g (W.s b).own = false ∧ Ok (((W.setW a b l).setS b ((W.s b).adopt y.b (A ++ B))).push b a (10, m.2.1, [])) (T + 1) := by
  obtain ⟨_, x, ht⟩ := msg9 (h.M.msg a b ha hb m (by rw [hl]; simp)) hk
  have hx : y.b = x := by
    obtain ⟨c, hc, _, hcf, st, hst, hct⟩ := h.S.ins b hb y (by rw [hI]; simp)
    obtain rfl : c = a := by omega
    rw [hn] at hct
    exact (tr_uniq h.S ha hct ht hst (by decide)).2.2
  have ht' : Tr W a b y.n 3 y.b := by rw [hn, hx]; exact ht
  refine ⟨adopt_free h.S ha hb hab hI hf ht', ?_⟩
  have hS2 : OkS ((W.setW a b l).setS b ((W.s b).adopt y.b (A ++ B))) (T + 1) := adopt_S (h.S.setW a b l) ha hb hab hI hf ht'
  have hd := h.S.insd b hb
  rw [hI, List.pairwise_append, List.pairwise_cons] at hd
  have hother : ∀ z ∈ A ++ B, ¬ (z.f = y.f ∧ z.n = y.n) := by
    intro z hz hc
    rcases List.mem_append.1 hz with hz | hz
    · exact hd.2.2 z hz y (by simp) hc
    · exact hd.2.1.1 z hz ⟨hc.1.symm, hc.2.symm⟩
  have htr : ∀ c d n st y', Tr ((W.setW a b l).setS b ((W.s b).adopt y.b (A ++ B))) c d n st y' ↔ Tr W c d n st y' := by
    intro c d n st y'
    by_cases e : c = b
    · subst e; exact tr_at
    · exact tr_ne e
  refine ⟨hS2.push _ _ _, comes_M (W2 := (W.setW a b l).setS b ((W.s b).adopt y.b (A ++ B))) h.S h.M ha hb hab hl ha hb hab (of3_says (.inr hk)).1 rfl hS2 ⟨fun c d n st y' _ _ _ => htr c d n st y', ?_⟩ (.inl ⟨(10, m.2.1, []), rfl, (reps_at (.inr rfl)).1, fun c' d' n' _ _ _ h0 => (reps_at (.inr rfl)).2 _ _ _ h0, .inr (.inr (.inr ⟨rfl, rfl, ⟨x, (htr _ _ _ _ _).2 ht⟩, ?_⟩)), ⟨3, x, by decide, (htr _ _ _ _ _).2 ht⟩⟩)⟩
  · intro c d n hd3 hne
    by_cases e : d = b
    · subst e
      rw [has_at]
      show (∃ z ∈ A ++ B, _) ↔ _
      unfold Has
      rw [hI]
      constructor
      · rintro ⟨z, hz, h1⟩
        refine ⟨z, ?_, h1⟩
        simp only [List.mem_append, List.mem_cons] at hz ⊢
        rcases hz with hz | hz
        · exact .inl hz
        · exact .inr (.inr hz)
      · rintro ⟨z, hz, h1, h2⟩
        simp only [List.mem_append, List.mem_cons] at hz
        rcases hz with hz | rfl | hz
        · exact ⟨z, by simp [hz], h1, h2⟩
        · exact absurd ⟨by omega, rfl, by omega⟩ hne
        · exact ⟨z, by simp [hz], h1, h2⟩
    · exact has_ne e
  · rw [has_at]
    rintro ⟨z, hz, h1, h2⟩
    exact hother z hz ⟨by omega, by show z.n = y.n; rw [hn]; exact h2⟩
theorem come_10 (h : Ok W T) (ha : a < 3) (hb : b < 3) (hab : a ≠ b) (hl : W.way a b = m :: l) (hk : m.1 = 10) {A B : List Ou} {o : Ou} (hO : (W.s b).outs = A ++ o :: B) (hn : o.n = m.2.1) (hst : o.st = 3) :
    o.to = a ∧ Ok ((W.setW a b l).setS b ((W.s b).outs' (A ++ B))) (T + 1) := by
  obtain ⟨_, ⟨x, ht⟩, hh⟩ := msg10 (h.M.msg a b ha hb m (by rw [hl]; simp)) hk
  have hmem : o ∈ (W.s b).outs := by rw [hO]; simp
  obtain ⟨hto, rfl⟩ := out_of h.S hb ht (by decide) hmem hn hst
  refine ⟨hto, ?_⟩
  have hstag : staged W b o = false := by
    cases hq : staged W b o
    · rfl
    · exact absurd (by rw [← hn]; exact (staged_iff hto).1 hq) hh
  have hS2 : OkS ((W.setW a b l).setS b ((W.s b).outs' (A ++ B))) (T + 1) := done_S (h.S.setW a b l) hb hO hst hstag
  have hF : Frame W ((W.setW a b l).setS b ((W.s b).outs' (A ++ B))) b a m.2.1 := by
    have := frame_out hO hto (A ++ B) (fun p hp _ => .inl hp) (fun p hp => hp)
    rw [← hn]
    exact ⟨this.tr, this.has⟩
  refine ⟨hS2, comes_M (W2 := (W.setW a b l).setS b ((W.s b).outs' (A ++ B))) h.S h.M ha hb hab hl hb ha hab.symm (of3_reps (.inr hk)).1 rfl hS2 hF (.inr ⟨rfl, ?_⟩)⟩
  rintro ⟨st, y, hs1, h0⟩
  obtain ⟨p, hp, h1, h2, h3, h4⟩ := tr_at.1 h0
  have hnum := num_ne (by have := h.S.order b hb; rw [hO] at this; exact this) (show o.st ≠ 1 by omega)
  exact hnum p hp (by omega) (by omega)
end

/-- where no transfer is another one, the messages stay right -/
theorem still_M {W W' : Wd} {T T' : Nat} (hS : OkS W T) (hS' : OkS W' T') (hM : OkM W) (hw : W'.way = W.way) (ht : ∀ c d n st x, c < 3 → st ≠ 1 → (Tr W' c d n st x ↔ Tr W c d n st x)) (hh : ∀ c d n, d < 3 → (Has W' d c n ↔ Has W d c n)) : OkM W' := by
  have hF : Frame W W' 3 3 0 := ⟨fun c d n st x hc _ hst => ht c d n st x hc hst, fun c d n hd _ => hh c d n hd⟩
  refine ⟨fun a b ha hb m hm => ?_, fun a b ha hb hab n => ?_, fun a ha => by rw [hw]; exact hM.diag a ha⟩
  · rw [hw] at hm
    refine (hM.msg a b ha hb m hm).frame hF ha hb ?_
    rintro (⟨h, _⟩ | ⟨h, _⟩) <;> omega
  · have e : cM W' a b n = cM W a b n := by unfold cM; rw [hw]
    rw [e, hM.one a b ha hb hab n]
    refine (cT_eq hS hS' ha ?_).symm
    constructor
    · rintro ⟨st, x, h1, h2⟩
      exact ⟨st, x, h1, (ht a b n st x ha h1).1 h2⟩
    · rintro ⟨st, x, h1, h2⟩
      exact ⟨st, x, h1, (ht a b n st x ha h1).2 h2⟩

def Sh.leave (s : Sh) (l : List Bd) (d : Nat) (b : Bd) : Sh := ⟨l, s.outs ++ [⟨0, d, 1, b⟩], s.ins, s.nx⟩
theorem ok_leave {W : Wd} {T k d : Nat} (h : Ok W T) (hk : k < 3) (hd : d < 3) (hne : d ≠ k) {A B : List Bd} {b : Bd} (hl : (W.s k).own = A ++ b :: B) : Ok (W.setS k ((W.s k).leave (A ++ B) d b)) (T + 1) := by
  have hS2 : OkS (W.setS k ((W.s k).leave (A ++ B) d b)) (T + 1) := leave_S h.S hk hd hne hl
  refine ⟨hS2, still_M h.S hS2 h.M rfl (fun c d' n st x _ hst => ?_) (fun c d' n _ => ?_)⟩
  · by_cases e : c = k
    · subst e
      rw [tr_at]
      show (∃ o ∈ (W.s c).outs ++ [_], _) ↔ _
      constructor
      · rintro ⟨p, hp, h1, h2, h3, h4⟩
        simp only [List.mem_append, List.mem_cons, List.not_mem_nil, or_false] at hp
        rcases hp with hp | rfl
        · exact ⟨p, hp, h1, h2, h3, h4⟩
        · exact absurd h3.symm hst
      · rintro ⟨p, hp, h1⟩
        exact ⟨p, by simp [hp], h1⟩
    · exact tr_ne e
  · by_cases e : d' = k
    · subst e; exact has_at
    · exact has_ne e
def Wd.beg (W : Wd) (k : Nat) (b : Bd) : Wd := { W.setS k ⟨(W.s k).own.take (findAt b.s b.i b.g (W.s k).own) ++ b :: (W.s k).own.drop (findAt b.s b.i b.g (W.s k).own), (W.s k).outs, (W.s k).ins, (W.s k).nx⟩ with n := W.n + 1 }
theorem ok_beg {W : Wd} {T k : Nat} (h : Ok W T) (hk : k < 3) (hn : W.n < 40) {b : Bd} (hs : b.s = k) (hi : b.i = (W.n : Int) % 16) (hg : b.g = W.n) (hf : findIs b.s b.i b.g (W.s k).own = false) : Ok (W.beg k b) (T + 1) := by
  have hS2 : OkS (W.beg k b) (T + 1) := begin_S h.S hk hn hs hi hg hf
  refine ⟨hS2, still_M h.S hS2 h.M rfl (fun c d' n st x _ _ => ?_) (fun c d' n _ => ?_)⟩
  · by_cases e : c = k
    · subst e; exact tr_at
    · exact tr_ne e
  · by_cases e : d' = k
    · subst e; exact has_at
    · exact has_ne e

def Sh.ask (s : Sh) (l : List Ou) : Sh := ⟨s.own, l, s.ins, s.nx + 1⟩
theorem ok_ask {W : Wd} {T k d : Nat} (h : Ok W T) (hk : k < 3) {A B : List Ou} {o : Ou} (hl : (W.s k).outs = A ++ o :: B) (ho : o.st = 1) (hA : ∀ p ∈ A, p.st ≠ 1) (hu : underOf (W.s k).outs < 4) (hd : o.to = d) :
    d < 3 ∧ d ≠ k ∧ Ok ((W.setS k ((W.s k).ask (A ++ ⟨((W.s k).nx : Int) + 1, o.to, 2, o.b⟩ :: B))).push k d (7, ((W.s k).nx : Int) + 1, [o.b])) (T + 1) := by
  have hS2 : OkS (W.setS k ((W.s k).ask (A ++ ⟨((W.s k).nx : Int) + 1, o.to, 2, o.b⟩ :: B))) (T + 1) := ask_S h.S hk hl ho hA hu
  have hout := h.S.outs k hk
  rw [hl] at hout
  obtain ⟨d', hd3, hdk, hd'⟩ := (hout o (by simp)).tgt
  obtain rfl : d' = d := by omega
  have htr : ∀ c' e' n' st x, c' < 3 → ¬ (c' = k ∧ e' = d' ∧ n' = ((W.s k).nx : Int) + 1) → st ≠ 1 → (Tr (W.setS k ((W.s k).ask (A ++ ⟨((W.s k).nx : Int) + 1, o.to, 2, o.b⟩ :: B))) c' e' n' st x ↔ Tr W c' e' n' st x) := by
    intro c' e' n' st x _ hne hst
    by_cases e : c' = k
    · subst e
      rw [tr_at]
      unfold Tr
      rw [hl]
      show (∃ p ∈ A ++ _ :: B, _) ↔ _
      refine (mid_tr ?_ ?_).symm
      · rintro ⟨_, _, h3, _⟩
        omega
      · rintro ⟨h1, h2, _⟩
        exact hne ⟨rfl, by have : o.to = (e' : Int) := h2; omega, h1.symm⟩
    · exact tr_ne e
  have hhas : ∀ c' e' n', Has (W.setS k ((W.s k).ask (A ++ ⟨((W.s k).nx : Int) + 1, o.to, 2, o.b⟩ :: B))) e' c' n' ↔ Has W e' c' n' := by
    intro c' e' n'
    by_cases e : e' = k
    · subst e; exact has_at
    · exact has_ne e
  have hF : Frame W (W.setS k ((W.s k).ask (A ++ ⟨((W.s k).nx : Int) + 1, o.to, 2, o.b⟩ :: B))) k d' (((W.s k).nx : Int) + 1) := ⟨htr, fun c' e' n' _ _ => hhas c' e' n'⟩
  have hnew : Tr (W.setS k ((W.s k).ask (A ++ ⟨((W.s k).nx : Int) + 1, o.to, 2, o.b⟩ :: B))) k d' (((W.s k).nx : Int) + 1) 2 o.b := tr_at.2 ⟨⟨((W.s k).nx : Int) + 1, o.to, 2, o.b⟩, by simp [Sh.ask], rfl, hd', rfl, rfl⟩
  have hnone : ¬ ∃ st x, st ≠ 1 ∧ Tr W k d' (((W.s k).nx : Int) + 1) st x := by
    rintro ⟨st, x, hst, p, hp, h1, _, h3, _⟩
    have := (h.S.outs k hk p hp).st
    omega
  have hcT0 : cT W k d' (((W.s k).nx : Int) + 1) = 0 := by
    have := cT_pos (W := W) (c := k) (d := d') (n := ((W.s k).nx : Int) + 1)
    have : ¬ 0 < cT W k d' (((W.s k).nx : Int) + 1) := fun h => hnone (this.1 h)
    omega
  have hcM0 := h.M.one k d' hk hd3 hdk.symm (((W.s k).nx : Int) + 1)
  refine ⟨hd3, hdk, hS2.push _ _ _, ?_, ?_, ?_⟩
  · intro a' b' ha' hb' m' hm'
    show MsgOk (W.setS k ((W.s k).ask _)) a' b' m'
    have hold : ∀ m' ∈ W.way a' b', MsgOk (W.setS k ((W.s k).ask (A ++ ⟨((W.s k).nx : Int) + 1, o.to, 2, o.b⟩ :: B))) a' b' m' := fun m' hm' => (h.M.msg a' b' ha' hb' m' hm').frame hF ha' hb' (none_of (by omega) hm')
    unfold Wd.push Wd.setW upd2 at hm'
    dsimp only at hm'
    split at hm'
    · rename_i e
      obtain ⟨rfl, rfl⟩ := e
      rcases List.mem_append.1 hm' with hm' | hm'
      · exact hold m' hm'
      · simp at hm'
        subst hm'
        exact .inl ⟨rfl, o.b, rfl, hnew⟩
    · exact hold m' hm'
  · intro c' e' hc' he' hce n'
    show cM _ c' e' n' = cT (W.setS k ((W.s k).ask (A ++ ⟨((W.s k).nx : Int) + 1, o.to, 2, o.b⟩ :: B))) c' e' n'
    have hpush := cM_push (W := W.setS k ((W.s k).ask (A ++ ⟨((W.s k).nx : Int) + 1, o.to, 2, o.b⟩ :: B))) hdk.symm (7, ((W.s k).nx : Int) + 1, [o.b]) c' e' n'
    by_cases he : c' = k ∧ e' = d' ∧ n' = ((W.s k).nx : Int) + 1
    · obtain ⟨rfl, rfl, rfl⟩ := he
      have h1 := hpush.1 (says_at (.inl rfl)).1
      have h2 : cM (W.setS c' ((W.s c').ask (A ++ ⟨((W.s c').nx : Int) + 1, o.to, 2, o.b⟩ :: B))) c' e' (((W.s c').nx : Int) + 1) = cM W c' e' (((W.s c').nx : Int) + 1) := rfl
      have h3 := cT_le hS2 hk e' (((W.s c').nx : Int) + 1)
      have h4 := cT_pos.2 ⟨2, o.b, by decide, hnew⟩
      unfold Wd.push
      omega
    · have h1 := hpush.2 (fun h0 => he ((says_at (.inl rfl)).2 _ _ _ h0))
      unfold Wd.push
      rw [h1]
      show cM W c' e' n' = _
      rw [h.M.one c' e' hc' he' hce n']
      refine (cT_eq h.S hS2 hc' ?_).symm
      constructor
      · rintro ⟨st, x, h1, h2⟩
        exact ⟨st, x, h1, (htr _ _ _ _ _ hc' he h1).1 h2⟩
      · rintro ⟨st, x, h1, h2⟩
        exact ⟨st, x, h1, (htr _ _ _ _ _ hc' he h1).2 h2⟩
  · intro i hi
    unfold Wd.push Wd.setW upd2
    dsimp only
    rw [if_neg (fun h0 => hdk (h0.2.symm.trans h0.1))]
    exact h.M.diag i hi

/-! ### a shard begins anew -/
theorem found_self {W : Wd} {T k : Nat} (h : OkS W T) (hk : k < 3) {o : Ou} (ho : o ∈ (W.s k).outs) (hst : o.st ≠ 1) : foundOf (W.s k).outs o = o := by
  unfold foundOf
  cases hf : (W.s k).outs.find? (tellPr o.n) with
  | none =>
    have := List.find?_eq_none.1 hf o ho
    simp [tellPr, hst] at this
  | some p =>
    have h1 := List.find?_some hf
    have h2 := List.mem_of_find?_eq_some hf
    simp [tellPr] at h1
    exact out_uniq h hk h2 ho h1.2 hst h1.1
theorem mem_said {W : Wd} {T k d : Nat} (h : OkS W T) (hk : k < 3) {m : Mc} (hm : m ∈ saidC (W.s k).outs (W.s k).outs (d : Int)) : ∃ o ∈ (W.s k).outs, o.st ≠ 1 ∧ o.to = d ∧ m = mcO o := by
  unfold saidC at hm
  obtain ⟨o, ho, rfl⟩ := List.mem_map.1 hm
  obtain ⟨ho, hs⟩ := List.mem_filter.1 ho
  simp [saysTo] at hs
  exact ⟨o, ho, hs.1, hs.2, by rw [found_self h hk ho hs.1]⟩
theorem mcO_kind (o : Ou) : ((mcO o).1 = 7 ∧ o.st = 2 ∧ (mcO o).2.2 = [o.b]) ∨ ((mcO o).1 = 9 ∧ o.st ≠ 2 ∧ (mcO o).2.2 = []) := by
  unfold mcO
  by_cases h : o.st = 2
  · simp [h]
  · have : (o.st == 2) = false := by simpa using h
    rw [this]
    simp [h]
theorem mcO_n (o : Ou) : (mcO o).2.1 = o.n := by
  unfold mcO
  cases (o.st == 2) <;> rfl
theorem count_said {W : Wd} {T k d : Nat} (h : OkS W T) (hk : k < 3) (n : Int) : (saidC (W.s k).outs (W.s k).outs (d : Int)).countP (saysM n) = cT W k d n ∧ (saidC (W.s k).outs (W.s k).outs (d : Int)).countP (repsM n) = 0 := by
  constructor
  · unfold saidC cT
    rw [List.countP_map, List.countP_filter]
    refine List.countP_congr fun o ho => ?_
    simp only [Function.comp, Bool.and_eq_true]
    constructor
    · rintro ⟨h1, h2⟩
      simp [saysTo] at h2
      rw [found_self h hk ho h2.1] at h1
      have h3 : (mcO o).2.1 = n := by simp [saysM] at h1; exact h1.2
      rw [mcO_n] at h3
      simp [trO, h2, h3]
    · intro h1
      simp [trO] at h1
      rw [found_self h hk ho h1.1]
      refine ⟨?_, by simp [saysTo, h1]⟩
      have h3 := mcO_n o
      rcases mcO_kind o with ⟨h4, _⟩ | ⟨h4, _⟩ <;> simp [saysM, h3, h4, h1]
  · rw [List.countP_eq_zero]
    intro m hm
    obtain ⟨o, _, _, _, rfl⟩ := mem_said h hk hm
    rcases mcO_kind o with ⟨h4, _⟩ | ⟨h4, _⟩ <;> simp [repsM, h4]
/-- all that two shards say to one another, said anew -/
def Wd.anew1 (W : Wd) (k i : Nat) : Wd := (W.setW k i (saidC (W.s k).outs (W.s k).outs (i : Int))).setW i k (saidC (W.s i).outs (W.s i).outs (k : Int))
theorem ok_anew1 {W : Wd} {T k i : Nat} (h : Ok W T) (hk : k < 3) (hi : i < 3) (hne : k ≠ i) : Ok (W.anew1 k i) T := by
  have hS2 : OkS (W.anew1 k i) T := (h.S.setW _ _ _).setW _ _ _
  have hw : ∀ a b, (W.anew1 k i).way a b = if a = i ∧ b = k then saidC (W.s i).outs (W.s i).outs (k : Int) else if a = k ∧ b = i then saidC (W.s k).outs (W.s k).outs (i : Int) else W.way a b := fun a b => rfl
  have hsaid : ∀ a b : Nat, a < 3 → b < 3 → ∀ m ∈ saidC (W.s a).outs (W.s a).outs (b : Int), MsgOk W a b m := by
    intro a b ha hb m hm
    obtain ⟨o, ho, hst, hto, rfl⟩ := mem_said h.S ha hm
    have hn := mcO_n o
    rcases mcO_kind o with ⟨h1, h2, h3⟩ | ⟨h1, h2, h3⟩
    · exact .inl ⟨h1, o.b, h3, o, ho, hn.symm, hto, h2, rfl⟩
    · have hs3 : o.st = 3 := by have := (h.S.outs a ha o ho).st; omega
      exact .inr (.inl ⟨h1, h3, o.b, o, ho, hn.symm, hto, hs3, rfl⟩)
  refine ⟨hS2, ?_, ?_, ?_⟩
  · intro a b ha hb m hm
    show MsgOk W a b m
    rw [hw] at hm
    split at hm
    · rename_i e
      obtain ⟨rfl, rfl⟩ := e
      exact hsaid _ _ ha hb m hm
    · split at hm
      · rename_i e
        obtain ⟨rfl, rfl⟩ := e
        exact hsaid _ _ ha hb m hm
      · exact h.M.msg a b ha hb m hm
  · intro a b ha hb hab n
    show cM _ a b n = cT W a b n
    unfold cM
    rw [hw, hw]
    by_cases e1 : a = k ∧ b = i
    · obtain ⟨rfl, rfl⟩ := e1
      rw [if_neg (fun e => hab e.1), if_pos ⟨rfl, rfl⟩, if_pos ⟨rfl, rfl⟩, (count_said h.S ha n).1, (count_said h.S hb n).2]
      omega
    · by_cases e2 : a = i ∧ b = k
      · obtain ⟨rfl, rfl⟩ := e2
        rw [if_pos ⟨rfl, rfl⟩, if_neg (fun e => hab e.2), if_pos ⟨rfl, rfl⟩, (count_said h.S ha n).1, (count_said h.S hb n).2]
        omega
      · rw [if_neg e2, if_neg e1, if_neg (fun e => e1 ⟨e.2, e.1⟩), if_neg (fun e => e2 ⟨e.2, e.1⟩)]
        exact h.M.one a b ha hb hab n
  · intro a ha
    rw [hw, if_neg (fun e => hne (e.2.symm.trans e.1)), if_neg (fun e => hne (e.1.symm.trans e.2))]
    exact h.M.diag a ha
theorem Ok.up {W : Wd} {T : Nat} (h : Ok W T) : Ok W (T + 1) := ⟨h.S.up, h.M⟩
end Go.Proofs.Ytggaeihinheojaa
