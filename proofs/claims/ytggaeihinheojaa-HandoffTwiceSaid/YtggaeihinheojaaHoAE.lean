/-
  handoff.Hear, Fold, Hear: what is heard twice, as data. No conditions of its own.
-/
import Derived.Test.YtggaeihinheojaaHoAB
import Derived.Test.YtggaeihinheojaaHoAC
import Derived.Test.YtggaeihinheojaaHoAD
import Derived.Test.YtggaeihinheojaaHoL
namespace Go.Proofs.Ytggaeihinheojaa
open Go.RowKit

/-- what one Hear answers, of a state that reads so, now and later -/
def Hears (w : World) (st : Value) (fr : Int) (m : Value) (k n f : Int) (b : Bd) (ak an : Int) : Prop :=
  ∀ w2, Keeps No w w2 → Calls Try.prog 11 #[st, .int .i64 fr, m] w2 (fun e w' => e = .returned (.tuple #[recV k n f b, .bool (decide (0 < k)), msgV ak an, .bool (decide (0 < ak))]) ∧ Keeps No w2 w')

theorem hear_some {w : World} {ep t nx tt : Int} {own dead outs ins gh cm bv ids : Value} {lo : List Ou} {li : List Inn} {lb : List Bd} (hvo : RdOf cOu w outs lo) (hvi : RdOf cIn w ins li) (hb : RdOf cBd w bv lb) (fr mk mn : Int) :
    ∃ k n f b ak an, Hears w (stV ep t own dead outs ins gh nx) fr (msgIn mk tt mn cm bv ids) k n f b ak an := by
  by_cases h7 : mk = 7
  · subst h7
    by_cases hl : lb.length = 1
    · obtain ⟨b0, rfl⟩ := List.length_eq_one_iff.1 hl
      rcases firstOf_cases (isIn fr mn) li with ⟨hi, _⟩ | ⟨j, hi, hj, _⟩
      · exact ⟨_, _, _, _, _, _, fun w2 hk => hear_3 (hvi.kept hk (fun _ _ h => h)) (hb.kept hk (fun _ _ h => h)) fr mn hi⟩
      · exact ⟨_, _, _, _, _, _, fun w2 hk => hear_2 (hvi.kept hk (fun _ _ h => h)) (hb.kept hk (fun _ _ h => h)) fr mn j hi⟩
    · have hl' : ((lb.length : Int) != 1) = true := by simp; omega
      exact ⟨_, _, _, _, _, _, fun w2 hk => hear_1 (hb.kept hk (fun _ _ h => h)) hl' fr mn⟩
  by_cases h8 : mk = 8
  · subst h8
    rcases firstOf_cases (isOut mn 2) lo with ⟨hi, _⟩ | ⟨j, hi, hj, _⟩
    · exact ⟨_, _, _, _, _, _, fun w2 hk => hear_4 (hvo.kept hk (fun _ _ h => h)) fr mn hi⟩
    · cases ht : (lo[j].to == fr)
      · exact ⟨_, _, _, _, _, _, fun w2 hk => hear_5 (hvo.kept hk (fun _ _ h => h)) fr mn j hj hi ht⟩
      · exact ⟨_, _, _, _, _, _, fun w2 hk => hear_6 (hvo.kept hk (fun _ _ h => h)) fr mn j hj hi ht⟩
  by_cases h9 : mk = 9
  · subst h9
    rcases firstOf_cases (isIn fr mn) li with ⟨hi, _⟩ | ⟨j, hi, hj, _⟩
    · exact ⟨_, _, _, _, _, _, fun w2 hk => hear_7 (hvi.kept hk (fun _ _ h => h)) fr mn hi⟩
    · exact ⟨_, _, _, _, _, _, fun w2 hk => hear_8 (hvi.kept hk (fun _ _ h => h)) fr mn j hi⟩
  by_cases h10 : mk = 10
  · subst h10
    rcases firstOf_cases (isOut mn 3) lo with ⟨hi, _⟩ | ⟨j, hi, hj, _⟩
    · exact ⟨_, _, _, _, _, _, fun w2 hk => hear_9 (hvo.kept hk (fun _ _ h => h)) fr mn hi⟩
    · cases ht : (lo[j].to == fr)
      · exact ⟨_, _, _, _, _, _, fun w2 hk => hear_10 (hvo.kept hk (fun _ _ h => h)) fr mn j hj hi ht⟩
      · exact ⟨_, _, _, _, _, _, fun w2 hk => hear_11 (hvo.kept hk (fun _ _ h => h)) fr mn j hj hi ht⟩
  have e7 : (mk == 7) = false := by simpa using h7
  have e8 : (mk == 8) = false := by simpa using h8
  have e9 : (mk == 9) = false := by simpa using h9
  have e10 : (mk == 10) = false := by simpa using h10
  exact ⟨_, _, _, _, _, _, fun w2 hk => hear_12 mk fr mn e7 e8 e9 e10⟩

/-- what the state behind the record answers, to the same message -/
def Again (w : World) (st : Value) (fr : Int) (m : Value) (mk mn ak an : Int) (li : List Inn) : Prop :=
  ∃ k n f b a2 n2, Hears w st fr m k n f b a2 n2 ∧ (mk = 7 → decide (0 < k) = false ∧ a2 = ak ∧ n2 = an ∧ decide (0 < ak) = true) ∧ (mk = 9 → a2 = ak ∧ n2 = an ∧ decide (0 < ak) = true ∧ decide (0 < k) = decide (0 ≤ firstOf (isIn fr mn) li))

/-- what a state is behind the record that was heard -/
def FoldsTo (w0 : World) (ep t : Int) (dead gh : Value) (nx fr : Int) (m : Value) (mk mn k ak an : Int) (e : Ending) (w' : World) : Prop :=
  Keeps No w0 w' ∧ ((k = 7 ∧ e = .returned (.tuple #[stV 0 0 (.slice none 0 0) (.slice none 0 0) (.slice none 0 0) (.slice none 0 0) (.slice none 0 0) 0, .int .i64 14])) ∨
    ∃ (ow vo vi : Value) (lw : List Bd) (lo : List Ou) (li : List Inn), e = .returned (.tuple #[stV ep t ow dead vo vi gh nx, .int .i64 0]) ∧ RdOf cBd w' ow lw ∧ RdOf cOu w' vo lo ∧ RdOf cIn w' vi li ∧ Again w' (stV ep t ow dead vo vi gh nx) fr m mk mn ak an li)

theorem twice_any {w : World} {ep t nx tt : Int} {own dead outs ins gh cm bv ids : Value} {lw : List Bd} {lo : List Ou} {li : List Inn} {lb : List Bd} (hw : RdOf cBd w own lw) (hvo : RdOf cOu w outs lo) (hvi : RdOf cIn w ins li) (hb : RdOf cBd w bv lb) (hlw : lw.length ≤ 1000) (hlo : lo.length ≤ 1000) (hli : li.length ≤ 1000)
    (h1 : own.oneCell' = true) (h2 : dead.oneCell' = true) (h4 : gh.oneCell' = true) (fr mk mn : Int) :
    ∃ k n f b ak an, Hears w (stV ep t own dead outs ins gh nx) fr (msgIn mk tt mn cm bv ids) k n f b ak an ∧ (decide (0 < k) = false ∨ (decide (0 < k) = true ∧ ∀ w2, Keeps No w w2 → Calls Try.prog 15 #[stV ep t own dead outs ins gh nx, recV k n f b] w2 (FoldsTo w2 ep t dead gh nx fr (msgIn mk tt mn cm bv ids) mk mn k ak an))) := by
  by_cases h7 : mk = 7
  · subst h7
    by_cases hl : lb.length = 1
    · obtain ⟨b0, rfl⟩ := List.length_eq_one_iff.1 hl
      rcases firstOf_cases (isIn fr mn) li with ⟨hi, _⟩ | ⟨j, hi, hj, _⟩
      · refine ⟨_, _, _, _, _, _, fun w2 hk => hear_3 (hvi.kept hk (fun _ _ h => h)) (hb.kept hk (fun _ _ h => h)) fr mn hi, .inr ⟨rfl, fun w2 hk => ?_⟩⟩
        refine (fold_stage (hvo.kept hk (fun _ _ h => h)) (hvi.kept hk (fun _ _ h => h)) hlo hli h1 h2 h4 mn fr b0 hi).mono ?_
        rintro e w3 ⟨vo, vi, rfl, ho3, hi3, hk3⟩
        refine ⟨hk3, .inr ⟨own, vo, vi, lw, _, _, rfl, hw.kept (hk.trans hk3 (fun _ _ h => h)) (fun _ _ h => h), ho3, hi3, ?_⟩⟩
        rcases firstOf_cases (isIn fr mn) (li ++ [⟨fr, mn, b0⟩]) with ⟨hn, hall⟩ | ⟨j, hj, _, _⟩
        · exact absurd (hall ⟨fr, mn, b0⟩ (by simp)) (by simp [isIn])
        · exact ⟨_, _, _, _, _, _, fun w4 hk4 => hear_2 (hi3.kept hk4 (fun _ _ h => h)) ((hb.kept (hk.trans hk3 (fun _ _ h => h)) (fun _ _ h => h)).kept hk4 (fun _ _ h => h)) fr mn j hj, fun _ => ⟨rfl, rfl, rfl, rfl⟩, fun h => absurd h (by decide)⟩
      · exact ⟨_, _, _, _, _, _, fun w2 hk => hear_2 (hvi.kept hk (fun _ _ h => h)) (hb.kept hk (fun _ _ h => h)) fr mn j hi, .inl rfl⟩
    · have hl' : ((lb.length : Int) != 1) = true := by simp; omega
      exact ⟨_, _, _, _, _, _, fun w2 hk => hear_1 (hb.kept hk (fun _ _ h => h)) hl' fr mn, .inl rfl⟩
  by_cases h8 : mk = 8
  · subst h8
    rcases firstOf_cases (isOut mn 2) lo with ⟨hi, _⟩ | ⟨j, hi, hj, _⟩
    · exact ⟨_, _, _, _, _, _, fun w2 hk => hear_4 (hvo.kept hk (fun _ _ h => h)) fr mn hi, .inl rfl⟩
    · cases ht : (lo[j].to == fr)
      · exact ⟨_, _, _, _, _, _, fun w2 hk => hear_5 (hvo.kept hk (fun _ _ h => h)) fr mn j hj hi ht, .inl rfl⟩
      · refine ⟨_, _, _, _, _, _, fun w2 hk => hear_6 (hvo.kept hk (fun _ _ h => h)) fr mn j hj hi ht, .inr ⟨rfl, fun w2 hk => ?_⟩⟩
        refine (fold_commit (hvo.kept hk (fun _ _ h => h)) (hvi.kept hk (fun _ _ h => h)) hlo hli h1 h2 h4 mn 0 Bd.zero j hj hi).mono ?_
        rintro e w3 ⟨vo, vi, rfl, ho3, hi3, hk3⟩
        have k3 := hk.trans hk3 (fun _ _ h => h)
        refine ⟨hk3, .inr ⟨own, vo, vi, lw, _, _, rfl, hw.kept k3 (fun _ _ h => h), ho3, hi3, ?_⟩⟩
        obtain ⟨k, n, f, b, ak, an, hh⟩ := hear_some (ep := ep) (t := t) (nx := nx) (tt := tt) (own := own) (dead := dead) (gh := gh) (cm := cm) (ids := ids) ho3 hi3 (hb.kept k3 (fun _ _ h => h)) fr 8 mn
        exact ⟨_, _, _, _, _, _, hh, fun h => absurd h (by decide), fun h => absurd h (by decide)⟩
  by_cases h9 : mk = 9
  · subst h9
    rcases firstOf_cases (isIn fr mn) li with ⟨hi, _⟩ | ⟨j, hi, hj, _⟩
    · exact ⟨_, _, _, _, _, _, fun w2 hk => hear_7 (hvi.kept hk (fun _ _ h => h)) fr mn hi, .inl rfl⟩
    · refine ⟨_, _, _, _, _, _, fun w2 hk => hear_8 (hvi.kept hk (fun _ _ h => h)) fr mn j hi, .inr ⟨rfl, fun w2 hk => ?_⟩⟩
      refine (fold_adopt (hvo.kept hk (fun _ _ h => h)) (hvi.kept hk (fun _ _ h => h)) hlo hli h2 h4 mn fr Bd.zero (hw.kept hk (fun _ _ h => h)) hlw j hj hi _ rfl _ rfl _ rfl).mono ?_
      rintro e w3 ⟨hk3, ⟨_, rfl⟩ | ⟨ow, vo, vi, _, rfl, hw3, ho3, hi3⟩⟩
      · exact ⟨hk3, .inl ⟨rfl, rfl⟩⟩
      refine ⟨hk3, .inr ⟨ow, vo, vi, _, _, _, rfl, hw3, ho3, hi3, ?_⟩⟩
      rcases firstOf_cases (isIn fr mn) (li.eraseIdx j) with ⟨hn, _⟩ | ⟨j2, hj2, _, _⟩
      · exact ⟨_, _, _, _, _, _, fun w4 hk4 => hear_7 (hi3.kept hk4 (fun _ _ h => h)) fr mn hn, fun h => absurd h (by decide), fun _ => ⟨rfl, rfl, rfl, by rw [hn]; rfl⟩⟩
      · exact ⟨_, _, _, _, _, _, fun w4 hk4 => hear_8 (hi3.kept hk4 (fun _ _ h => h)) fr mn j2 hj2, fun h => absurd h (by decide), fun _ => ⟨rfl, rfl, rfl, by rw [hj2]; simp⟩⟩
  by_cases h10 : mk = 10
  · subst h10
    rcases firstOf_cases (isOut mn 3) lo with ⟨hi, _⟩ | ⟨j, hi, hj, _⟩
    · exact ⟨_, _, _, _, _, _, fun w2 hk => hear_9 (hvo.kept hk (fun _ _ h => h)) fr mn hi, .inl rfl⟩
    · cases ht : (lo[j].to == fr)
      · exact ⟨_, _, _, _, _, _, fun w2 hk => hear_10 (hvo.kept hk (fun _ _ h => h)) fr mn j hj hi ht, .inl rfl⟩
      · refine ⟨_, _, _, _, _, _, fun w2 hk => hear_11 (hvo.kept hk (fun _ _ h => h)) fr mn j hj hi ht, .inr ⟨rfl, fun w2 hk => ?_⟩⟩
        refine (fold_done (hvo.kept hk (fun _ _ h => h)) (hvi.kept hk (fun _ _ h => h)) hlo hli h1 h2 h4 mn 0 Bd.zero j hj hi).mono ?_
        rintro e w3 ⟨vo, vi, rfl, ho3, hi3, hk3⟩
        have k3 := hk.trans hk3 (fun _ _ h => h)
        refine ⟨hk3, .inr ⟨own, vo, vi, lw, _, _, rfl, hw.kept k3 (fun _ _ h => h), ho3, hi3, ?_⟩⟩
        obtain ⟨k, n, f, b, ak, an, hh⟩ := hear_some (ep := ep) (t := t) (nx := nx) (tt := tt) (own := own) (dead := dead) (gh := gh) (cm := cm) (ids := ids) ho3 hi3 (hb.kept k3 (fun _ _ h => h)) fr 10 mn
        exact ⟨_, _, _, _, _, _, hh, fun h => absurd h (by decide), fun h => absurd h (by decide)⟩
  have e7 : (mk == 7) = false := by simpa using h7
  have e8 : (mk == 8) = false := by simpa using h8
  have e9 : (mk == 9) = false := by simpa using h9
  have e10 : (mk == 10) = false := by simpa using h10
  exact ⟨_, _, _, _, _, _, fun w2 hk => hear_12 mk fr mn e7 e8 e9 e10, .inl rfl⟩

end Go.Proofs.Ytggaeihinheojaa
