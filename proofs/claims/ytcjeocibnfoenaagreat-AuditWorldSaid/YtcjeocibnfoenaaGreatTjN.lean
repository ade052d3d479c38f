/-
  tick: Run over a whole world: as data. Plain Lean but for the frame. No conditions of its own.
-/
import Derived.Test.YtcjeocibnfoenaaGreatTjM
namespace Go.Proofs.YtcjeocibnfoenaaGreat
open Go.RowKit Go.Joins Go.Deep Go.Sort

/-- who is there behind commands -/
def cmdsL (z : Zf) (l : List Bd) (cs : List Cm) : List Bd := cs.foldl (cmdL z) l
/-- who is there behind a tick -/
def runL (z : Zf) (l : List Bd) (cs : List Cm) : List Bd := leftOf (fun b => ageB (moveB z b)) (cmdsL z (leftOf (hitF (hitsOf z.u l l)) l) cs)
theorem cmdsL_succ (z : Zf) (l : List Bd) (cs : List Cm) (k : Nat) (h : k < cs.length) : cmdsL z l (cs.take (k + 1)) = cmdL z (cmdsL z l (cs.take k)) cs[k] := by
  unfold cmdsL
  rw [List.take_succ_eq_append_getElem h, List.foldl_append]
  rfl
theorem cmd_len (z : Zf) (l : List Bd) (c : Cm) : (cmdL z l c).length + (cmdD l c).length ≤ l.length + 1 := by
  unfold cmdL cmdD
  cases c.k == 1
  · have := left_len (fun b => obeyB b c) l
    simp only [cond_false]
    omega
  · simp only [cond_true]
    cases !findIs c.b.s c.b.i c.b.g l && decide (0 ≤ zoneI z c.b.x c.b.y)
    · simp
    · simp only [cond_true, List.length_append, List.length_cons, List.length_take, List.length_drop, List.length_nil]
      have := findAt_le c.b.s c.b.i c.b.g l
      omega

/-! ### what is done leaves what may be -/
theorem cl_i64 (n : Int) : i64 (cl n) := by have := cl_bnd n; unfold i64; omega
theorem hurtB_ok {b : Bd} (h : b.ok) (n : Int) (h2 : (hurtB b n).2 = true) : (hurtB b n).1.ok := by
  unfold hurtB at *
  cases h1 : (!hasB b.m 4 || decide (n ≤ 0)) with
  | true => exact h
  | false =>
    rw [h1] at h2
    simp only [cond_false] at h2 ⊢
    by_cases h3 : b.hp ≤ n
    · rw [decide_eq_true h3] at h2
      cases h2
    · rw [decide_eq_false h3, cond_false]
      simp only [Bool.or_eq_false_iff, decide_eq_false_iff_not] at h1
      have hp := h.hp
      have h4 := h1.2
      exact ⟨h.s, h.i, h.g, h.m, h.x, h.y, h.vx, h.vy, by unfold i64 at *; simp only; omega, h.pw, h.lf⟩
theorem hitF_ok {b : Bd} (h : b.ok) (hs : List Ht) (h2 : (hitF hs b).2 = true) : (hitF hs b).1.ok := by
  unfold hitF at *
  split at h2
  · exact hurtB_ok h _ h2
  · exact h
theorem moveB_ok {z : Zf} (hz : z.ok) {b : Bd} (h : b.ok) : (moveB z b).ok := by
  have x1 := hz.cs
  have y1 := hz.rs
  unfold moveB inY inX
  have hv : (velB z.v b).ok := by
    unfold velB
    cases hasB b.m 2
    · exact h
    · exact ⟨h.s, h.i, h.g, h.m, cl_i64 _, cl_i64 _, h.vx, h.vy, h.hp, h.pw, h.lf⟩
  exact ⟨hv.s, hv.i, hv.g, hv.m, by unfold i64; simp only; omega, by unfold i64; simp only; omega, hv.vx, hv.vy, hv.hp, hv.pw, hv.lf⟩
theorem ageB_ok {b : Bd} (h : b.ok) (h2 : (ageB b).2 = true) : (ageB b).1.ok := by
  unfold ageB at *
  cases h1 : (!hasB b.m 16) with
  | true => exact h
  | false =>
    rw [h1] at h2
    simp only [cond_false] at h2 ⊢
    by_cases h3 : b.lf ≤ 1
    · rw [decide_eq_true h3] at h2
      cases h2
    · rw [decide_eq_false h3, cond_false]
      have hp := h.lf
      exact ⟨h.s, h.i, h.g, h.m, h.x, h.y, h.vx, h.vy, h.hp, h.pw, by unfold i64 at *; simp only; omega⟩
theorem wrap_i64_i64 (n : Int) : i64 (IntKind.i64.wrap n) := by rw [IntKind.wrap_i64]; unfold i64; omega
theorem or_i64 (a b : Int) : i64 (bits .or .i64 a b) := wrap_i64_i64 ((BitVec.ofInt 64 a ||| BitVec.ofInt 64 b).toNat : Int)
theorem andNot_i64 (a b : Int) : i64 (bits .andNot .i64 a b) := wrap_i64_i64 ((BitVec.ofInt 64 a &&& ~~~(BitVec.ofInt 64 b)).toNat : Int)
theorem withB_ok {b c : Bd} (h : b.ok) (hc : c.ok) : (withB b c).ok := by
  have hM : (wM b c).ok := ⟨h.s, h.i, h.g, or_i64 _ _, h.x, h.y, h.vx, h.vy, h.hp, h.pw, h.lf⟩
  have hX : ∀ {q : Bd}, q.ok → (wX c q).ok := fun h => by
    unfold wX; cases hasB c.m 1
    · exact h
    · exact ⟨h.s, h.i, h.g, h.m, hc.x, hc.y, h.vx, h.vy, h.hp, h.pw, h.lf⟩
  have hV : ∀ {q : Bd}, q.ok → (wV c q).ok := fun h => by
    unfold wV; cases hasB c.m 2
    · exact h
    · exact ⟨h.s, h.i, h.g, h.m, h.x, h.y, hc.vx, hc.vy, h.hp, h.pw, h.lf⟩
  have hH : ∀ {q : Bd}, q.ok → (wH c q).ok := fun h => by
    unfold wH; cases hasB c.m 4
    · exact h
    · exact ⟨h.s, h.i, h.g, h.m, h.x, h.y, h.vx, h.vy, hc.hp, h.pw, h.lf⟩
  have hP : ∀ {q : Bd}, q.ok → (wP c q).ok := fun h => by
    unfold wP; cases hasB c.m 8
    · exact h
    · exact ⟨h.s, h.i, h.g, h.m, h.x, h.y, h.vx, h.vy, h.hp, hc.pw, h.lf⟩
  have hL : ∀ {q : Bd}, q.ok → (wL c q).ok := fun h => by
    unfold wL; cases hasB c.m 16
    · exact h
    · exact ⟨h.s, h.i, h.g, h.m, h.x, h.y, h.vx, h.vy, h.hp, h.pw, hc.lf⟩
  exact hL (hP (hH (hV (hX hM))))
theorem zero_ok : i64 0 := by unfold i64; omega
theorem withoutB_ok {b : Bd} (h : b.ok) {k : Int} (hk : i64 k) : (withoutB b k).ok := by
  have ho : (onlyM k).ok := ⟨zero_ok, zero_ok, zero_ok, hk, zero_ok, zero_ok, zero_ok, zero_ok, zero_ok, zero_ok, zero_ok⟩
  have hw := withB_ok h ho
  exact ⟨hw.s, hw.i, hw.g, andNot_i64 _ _, hw.x, hw.y, hw.vx, hw.vy, hw.hp, hw.pw, hw.lf⟩
theorem obeyB_ok {b : Bd} (h : b.ok) {c : Cm} (hc : c.ok) (h2 : (obeyB b c).2 = true) : (obeyB b c).1.ok := by
  unfold obeyB at *
  cases h1 : !neq c.id b.id with
  | true => exact h
  | false =>
    rw [h1] at h2
    simp only [cond_false] at h2 ⊢
    cases h3 : c.k == 2 with
    | true => rw [h3] at h2; cases h2
    | false =>
      simp only [cond_false]
      cases h4 : c.k == 3 with
      | true => exact withB_ok h hc.b
      | false =>
        simp only [cond_false]
        cases h5 : c.k == 4 with
        | true => exact withoutB_ok h hc.m
        | false => exact h
theorem leftOf_ok {f : Bd → Bd × Bool} {l : List Bd} (hf : ∀ b : Bd, b.ok → (f b).2 = true → (f b).1.ok) (hl : ∀ b ∈ l, b.ok) : ∀ b ∈ leftOf f l, b.ok := by
  intro b hb
  unfold leftOf at hb
  rw [List.mem_filterMap] at hb
  obtain ⟨x, hx, he⟩ := hb
  cases h : (f x).2 with
  | true =>
    rw [h, cond_true] at he
    cases he
    exact hf x (hl x hx) h
  | false => rw [h, cond_false] at he; cases he
theorem cmdL_ok {z : Zf} {l : List Bd} {c : Cm} (hc : c.ok) (hl : ∀ b ∈ l, b.ok) : ∀ b ∈ cmdL z l c, b.ok := by
  unfold cmdL
  cases c.k == 1
  · simp only [cond_false]
    exact leftOf_ok (fun b hb h => obeyB_ok hb hc h) hl
  · simp only [cond_true]
    cases !findIs c.b.s c.b.i c.b.g l && decide (0 ≤ zoneI z c.b.x c.b.y)
    · exact hl
    · simp only [cond_true]
      intro b hb
      rw [List.mem_append, List.mem_cons] at hb
      rcases hb with hb | rfl | hb
      · exact hl b (List.mem_of_mem_take hb)
      · exact hc.b
      · exact hl b (List.mem_of_mem_drop hb)
theorem cmdsL_ok {z : Zf} {cs : List Cm} (hc : ∀ c ∈ cs, c.ok) : ∀ {l : List Bd}, (∀ b ∈ l, b.ok) → ∀ b ∈ cmdsL z l cs, b.ok := by
  induction cs with
  | nil => exact fun h => h
  | cons c cs ih => exact fun h => ih (fun c hc' => hc c (List.mem_cons_of_mem _ hc')) (cmdL_ok (hc c List.mem_cons_self) h)
theorem runL_ok {z : Zf} (hz : z.ok) {l : List Bd} {cs : List Cm} (hc : ∀ c ∈ cs, c.ok) (hl : ∀ b ∈ l, b.ok) : ∀ b ∈ runL z l cs, b.ok :=
  leftOf_ok (fun _ hb h => ageB_ok (moveB_ok hz hb) h) (cmdsL_ok hc (leftOf_ok (fun _ hb h => hitF_ok hb _ h) hl))

/-! ### .. and it stays sorted -/
theorem sorted_iff (l : List Bd) : SortedB l ↔ l.Pairwise (fun a b => nlt b.id a.id = false) := by
  unfold SortedB SortedN
  exact List.pairwise_map
theorem leftOf_sorted {f : Bd → Bd × Bool} {l : List Bd} (hf : ∀ b : Bd, (f b).2 = true → (f b).1.id = b.id) (hl : SortedB l) : SortedB (leftOf f l) := by
  rw [sorted_iff] at *
  unfold leftOf
  refine List.Pairwise.filterMap _ (fun a a' h b hb b' hb' => ?_) hl
  have key : ∀ {x y : Bd}, (bif (f x).2 then some (f x).1 else none) = some y → y.id = x.id := fun {x y} h => by
    cases h2 : (f x).2 with
    | true => rw [h2, cond_true] at h; cases h; exact hf x h2
    | false => rw [h2, cond_false] at h; cases h
  rw [key hb, key hb']
  exact h
theorem hurtB_id (b : Bd) (n : Int) (h2 : (hurtB b n).2 = true) : (hurtB b n).1.id = b.id := by
  unfold hurtB at *
  cases h1 : (!hasB b.m 4 || decide (n ≤ 0)) with
  | true => rfl
  | false =>
    rw [h1] at h2
    simp only [cond_false] at h2 ⊢
    by_cases h3 : b.hp ≤ n
    · rw [decide_eq_true h3] at h2; cases h2
    · rw [decide_eq_false h3, cond_false]; rfl
theorem hitF_id (hs : List Ht) (b : Bd) (h2 : (hitF hs b).2 = true) : (hitF hs b).1.id = b.id := by
  unfold hitF at *
  split at h2
  · exact hurtB_id _ _ h2
  · rfl
theorem moveB_id (z : Zf) (b : Bd) : (moveB z b).id = b.id := by
  unfold moveB velB
  cases hasB b.m 2 <;> rfl
theorem ageB_id (b : Bd) (h2 : (ageB b).2 = true) : (ageB b).1.id = b.id := by
  unfold ageB at *
  cases h1 : (!hasB b.m 16) with
  | true => rfl
  | false =>
    rw [h1] at h2
    simp only [cond_false] at h2 ⊢
    by_cases h3 : b.lf ≤ 1
    · rw [decide_eq_true h3] at h2; cases h2
    · rw [decide_eq_false h3, cond_false]; rfl
theorem withB_id (b c : Bd) : (withB b c).id = b.id := by
  have hX : ∀ q : Bd, (wX c q).id = q.id := fun q => by unfold wX; cases hasB c.m 1 <;> rfl
  have hV : ∀ q : Bd, (wV c q).id = q.id := fun q => by unfold wV; cases hasB c.m 2 <;> rfl
  have hH : ∀ q : Bd, (wH c q).id = q.id := fun q => by unfold wH; cases hasB c.m 4 <;> rfl
  have hP : ∀ q : Bd, (wP c q).id = q.id := fun q => by unfold wP; cases hasB c.m 8 <;> rfl
  have hL : ∀ q : Bd, (wL c q).id = q.id := fun q => by unfold wL; cases hasB c.m 16 <;> rfl
  unfold withB
  rw [hL, hP, hH, hV, hX]
  rfl
theorem obeyB_id (b : Bd) (c : Cm) (h2 : (obeyB b c).2 = true) : (obeyB b c).1.id = b.id := by
  unfold obeyB at *
  cases h1 : !neq c.id b.id with
  | true => rfl
  | false =>
    rw [h1] at h2
    simp only [cond_false] at h2 ⊢
    cases h3 : c.k == 2 with
    | true => rw [h3] at h2; cases h2
    | false =>
      simp only [cond_false]
      cases h4 : c.k == 3 with
      | true => exact withB_id b c.b
      | false =>
        simp only [cond_false]
        cases h5 : c.k == 4 with
        | true => exact withB_id b (onlyM c.m)
        | false => rfl
theorem geN_is (s i g : Int) (b : Bd) : geN s i g b = !nlt b.id ⟨s, i, g⟩ := by
  unfold geN
  rw [← ncmp_lt]
  show decide (0 ≤ cmpN b s i g) = !decide (cmpN b s i g < 0)
  by_cases h : cmpN b s i g < 0
  · rw [decide_eq_true h, decide_eq_false (by omega)]; rfl
  · rw [decide_eq_false h, decide_eq_true (by omega)]; rfl
theorem insert_sorted {l : List Bd} (hl : SortedB l) (b : Bd) : SortedB (l.take (findAt b.s b.i b.g l) ++ b :: l.drop (findAt b.s b.i b.g l)) := by
  rw [sorted_iff] at *
  obtain ⟨p, hp⟩ : ∃ p, p = findAt b.s b.i b.g l := ⟨_, rfl⟩
  have hbef : ∀ a ∈ l.take p, nlt a.id b.id = true := fun a ha => by
    obtain ⟨j, hj, rfl⟩ := List.getElem_of_mem ha
    rw [List.length_take] at hj
    rw [List.getElem_take]
    have h1 := List.not_of_lt_findIdx (p := geN b.s b.i b.g) (xs := l) (i := j) (by unfold findAt at hp; omega)
    rw [geN_is] at h1
    have h2 : b.id = ⟨b.s, b.i, b.g⟩ := rfl
    rw [h2]
    simpa using h1
  have haft : ∀ a ∈ l.drop p, nlt a.id b.id = false := fun a ha => by
    obtain ⟨j, hj, rfl⟩ := List.getElem_of_mem ha
    rw [List.length_drop] at hj
    rw [List.getElem_drop]
    have h1 : geN b.s b.i b.g (l[p]'(by omega)) = true := by
      have h3 := List.findIdx_getElem (p := geN b.s b.i b.g) (xs := l) (w := by unfold findAt at hp; omega)
      have h4 : List.findIdx (geN b.s b.i b.g) l = p := hp.symm
      simpa [h4] using h3
    rw [geN_is] at h1
    have h2 : nlt (l[p]'(by omega)).id b.id = false := by
      have h7 : nlt (l[p]'(by omega)).id ⟨b.s, b.i, b.g⟩ = false := by simpa using h1
      exact h7
    rcases Nat.eq_zero_or_pos j with h0 | h0
    · subst h0; exact h2
    · have h5 := List.pairwise_iff_getElem.1 hl p (p + j) (by omega) (by omega) (by omega)
      have h6 := nam_swo.ntrans (l[p + j]'(by omega)).id (l[p]'(by omega)).id b.id
      unfold ltOf at h6
      rw [ncmp_lt, ncmp_lt, ncmp_lt] at h6
      exact h6 h5 h2
  rw [← hp, List.pairwise_append]
  refine ⟨List.Pairwise.sublist (List.take_sublist _ _) hl, List.pairwise_cons.2 ⟨fun a ha => haft a ha, List.Pairwise.sublist (List.drop_sublist _ _) hl⟩, fun a ha c hc => ?_⟩
  rcases List.mem_cons.1 hc with rfl | hc
  · exact nlt_asymm (hbef a ha)
  · rw [Bool.eq_false_iff]
    intro h
    have h1 := nlt_trans h (hbef a ha)
    rw [haft c hc] at h1
    cases h1
theorem cmdL_sorted {z : Zf} {l : List Bd} {c : Cm} (hl : SortedB l) : SortedB (cmdL z l c) := by
  unfold cmdL
  cases c.k == 1
  · exact leftOf_sorted (fun b h => obeyB_id b c h) hl
  · simp only [cond_true]
    cases !findIs c.b.s c.b.i c.b.g l && decide (0 ≤ zoneI z c.b.x c.b.y)
    · exact hl
    · exact insert_sorted hl c.b
theorem cmdsL_sorted {z : Zf} {cs : List Cm} : ∀ {l : List Bd}, SortedB l → SortedB (cmdsL z l cs) := by
  induction cs with
  | nil => exact fun h => h
  | cons c cs ih => exact fun h => ih (cmdL_sorted h)
theorem runL_sorted {z : Zf} {l : List Bd} {cs : List Cm} (hl : SortedB l) : SortedB (runL z l cs) :=
  leftOf_sorted (fun b h => by rw [ageB_id _ h, moveB_id]) (cmdsL_sorted (leftOf_sorted (fun b h => hitF_id _ b h) hl))
/-! ### how many -/
theorem cmdsL_len (z : Zf) (cs : List Cm) : ∀ l : List Bd, (cmdsL z l cs).length ≤ l.length + cs.length := by
  induction cs with
  | nil => intro l; exact Nat.le_refl _
  | cons c cs ih =>
    intro l
    have h1 := ih (cmdL z l c)
    have h2 := cmd_len z l c
    show (cmdsL z (cmdL z l c) cs).length ≤ _
    rw [List.length_cons]
    omega
theorem runL_len (z : Zf) (l : List Bd) (cs : List Cm) : (runL z l cs).length ≤ l.length + cs.length := by
  have h1 := left_len (fun b => ageB (moveB z b)) (cmdsL z (leftOf (hitF (hitsOf z.u l l)) l) cs)
  have h2 := cmdsL_len z cs (leftOf (hitF (hitsOf z.u l l)) l)
  have h3 := left_len (hitF (hitsOf z.u l l)) l
  unfold runL
  omega
end Go.Proofs.YtcjeocibnfoenaaGreat
