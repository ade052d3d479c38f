/-
  Things of a call's own, side by side in memory: plain lemmas on worlds, over any program.
-/
import Derived.Test.YtneikamjlbfglaaBase
namespace Go.Proofs.Ytneikamjlbfglaa
open Go.RowKit

/-- A thing in memory: what it says of a world, lying in the blocks F. -/
abbrev Thing := World → (Nat → Prop) → Prop
/-- It hangs on its own blocks alone. -/
structure Lies (A : Thing) : Prop where
  lt : ∀ {w F}, A w F → ∀ k, F k → k < w.heap.size
  keep : ∀ {w w' F S}, A w F → Keeps S w w' → (∀ k, F k → ¬ S k) → A w' F
/-- One thing has become another one: it has written to its own blocks and to new ones. -/
def Step (F : Nat → Prop) (w w' : World) (A' : Thing) : Prop := ∃ F', A' w' F' ∧ Keeps F w w' ∧ ∀ k, F' k → F k ∨ w.heap.size ≤ k

/-- Nothing. -/
def Nix : Thing := fun _ F => ∀ k, ¬ F k
theorem nix_lies : Lies Nix := ⟨fun h k hk => (h k hk).elim, fun h _ _ => h⟩

/-- Things side by side; all that was there in w0 is as it was. -/
structure Mem (w0 w : World) (L : List Thing) : Prop where
  keeps : Keeps No w0 w
  lies : ∀ A ∈ L, Lies A
  feet : ∃ F : Nat → Nat → Prop, (∀ (i : Nat) (A : Thing), L[i]? = some A → A w (F i)) ∧ (∀ i k, i < L.length → F i k → w0.heap.size ≤ k) ∧ (∀ i j k, i < L.length → j < L.length → F i k → F j k → i = j)

theorem Mem.start (w : World) : Mem w w [] := ⟨Keeps.refl w, by simp, ⟨fun _ _ => False, by simp, by simp, by simp⟩⟩
theorem Mem.begin {w0 w : World} (k : Keeps No w0 w) : Mem w0 w [] := ⟨k, by simp, ⟨fun _ _ => False, by simp, by simp, by simp⟩⟩
/-- what turns no old block turns nothing -/
theorem Mem.later {w0 w w' : World} {L : List Thing} (h : Mem w0 w L) (k : Keeps No w w') : Mem w0 w' L := by
  obtain ⟨hk, hl, ⟨F, h1, h2, h3⟩⟩ := h
  exact ⟨hk.trans k (fun _ _ h => h), hl, ⟨F, fun i A hA => (hl A (List.mem_of_getElem? hA)).keep (h1 i A hA) k (fun _ _ h => h), h2, h3⟩⟩
/-- ONE OF THEM, and what to do with what has become of it -/
theorem Mem.at {w0 w : World} {L : List Thing} (h : Mem w0 w L) (i : Nat) {A : Thing} (hA : L[i]? = some A) : ∃ F, A w F ∧ ∀ w' A', Lies A' → Step F w w' A' → Mem w0 w' (L.set i A') := by
  obtain ⟨hk, hl, ⟨F, h1, h2, h3⟩⟩ := h
  have hi : i < L.length := (List.getElem?_eq_some_iff.1 hA).1
  refine ⟨F i, h1 i A hA, fun w' A' hl' ⟨F', ha, hkk, hn⟩ => ?_⟩
  refine ⟨hk.trans hkk (fun k hk hf => by have := h2 i k hi hf; omega), ?_, ⟨fun j => if j = i then F' else F j, ?_, ?_, ?_⟩⟩
  · intro B hB
    rcases List.mem_or_eq_of_mem_set hB with hB | rfl
    · exact hl B hB
    · exact hl'
  · intro j B hB
    by_cases hj : j = i
    · subst hj
      rw [List.getElem?_set_self hi] at hB
      cases hB
      simpa using ha
    · rw [List.getElem?_set_ne (Ne.symm hj)] at hB
      simp only [hj, if_false]
      have hjl : j < L.length := (List.getElem?_eq_some_iff.1 hB).1
      exact (hl B (List.mem_of_getElem? hB)).keep (h1 j B hB) hkk (fun k hf hf' => hj (h3 j i k hjl hi hf hf'))
  · intro j k hj hf
    rw [List.length_set] at hj
    by_cases hji : j = i
    · subst hji
      simp only [if_true] at hf
      rcases hn k hf with hf | hf
      · exact h2 j k hj hf
      · exact Nat.le_trans hk.size hf
    · simp only [hji, if_false] at hf
      exact h2 j k hj hf
  · have hlt : ∀ j k, j < L.length → F j k → k < w.heap.size := fun j k hj hf => (hl _ (List.mem_of_getElem? (List.getElem?_eq_getElem hj))).lt (h1 j _ (List.getElem?_eq_getElem hj)) k hf
    intro j j' k hj hj' hf hf'
    rw [List.length_set] at hj hj'
    by_cases hji : j = i <;> by_cases hji' : j' = i
    · omega
    · subst hji
      simp only [if_true, hji', if_false] at hf hf'
      rcases hn k hf with hf | hf
      · exact h3 j j' k hj hj' hf hf'
      · have := hlt j' k hj' hf'; omega
    · subst hji'
      simp only [if_true, hji, if_false] at hf hf'
      rcases hn k hf' with hf' | hf'
      · exact h3 j j' k hj hj' hf hf'
      · have := hlt j k hj hf; omega
    · simp only [hji, hji', if_false] at hf hf'
      exact h3 j j' k hj hj' hf hf'
/-- a new one -/
theorem Mem.push {w0 w w' : World} {L : List Thing} (h : Mem w0 w L) {A : Thing} (hl' : Lies A) (hs : Step No w w' A) : Mem w0 w' (L ++ [A]) := by
  obtain ⟨F', ha, hkk, hn⟩ := hs
  have h' := h.later hkk
  obtain ⟨hk, hl, ⟨F, h1, h2, h3⟩⟩ := h
  have hlt : ∀ j k, j < L.length → F j k → k < w.heap.size := fun j k hj hf => (hl _ (List.mem_of_getElem? (List.getElem?_eq_getElem hj))).lt (h1 j _ (List.getElem?_eq_getElem hj)) k hf
  have hnew : ∀ k, F' k → w.heap.size ≤ k := fun k hf => by rcases hn k hf with h | h; exact h.elim; exact h
  refine ⟨h'.keeps, ?_, ⟨fun j => if j = L.length then F' else F j, ?_, ?_, ?_⟩⟩
  · intro B hB
    simp only [List.mem_append, List.mem_singleton] at hB
    rcases hB with hB | rfl
    · exact hl B hB
    · exact hl'
  · intro j B hB
    by_cases hj : j = L.length
    · subst hj
      simp at hB
      subst hB
      simpa using ha
    · simp only [hj, if_false]
      have hjl : j < L.length := by
        have := (List.getElem?_eq_some_iff.1 hB).1
        simp at this
        omega
      rw [List.getElem?_append_left hjl] at hB
      exact (hl B (List.mem_of_getElem? hB)).keep (h1 j B hB) hkk (fun _ _ h => h)
  · intro j k hj hf
    by_cases hjl : j = L.length
    · simp only [hjl, if_true] at hf
      exact Nat.le_trans hk.size (hnew k hf)
    · simp only [hjl, if_false] at hf
      simp at hj
      exact h2 j k (by omega) hf
  · intro j j' k hj hj' hf hf'
    simp at hj hj'
    by_cases hji : j = L.length <;> by_cases hji' : j' = L.length
    · omega
    · simp only [hji, if_true, hji', if_false] at hf hf'
      have := hlt j' k (by omega) hf'; have := hnew k hf; omega
    · simp only [hji', if_true, hji, if_false] at hf hf'
      have := hlt j k (by omega) hf; have := hnew k hf'; omega
    · simp only [hji, hji', if_false] at hf hf'
      exact h3 j j' k (by omega) (by omega) hf hf'
/-- without one of them -/
theorem Mem.erase {w0 w : World} {L : List Thing} (h : Mem w0 w L) (i : Nat) (hi : i < L.length) : Mem w0 w (L.eraseIdx i) := by
  obtain ⟨hk, hl, ⟨F, h1, h2, h3⟩⟩ := h
  refine ⟨hk, fun A hA => hl A (List.mem_of_mem_eraseIdx hA), ⟨fun j => if j < i then F j else F (j + 1), ?_, ?_, ?_⟩⟩
  · intro j A hA
    rw [List.getElem?_eraseIdx] at hA
    by_cases hj : j < i
    · simp only [hj, if_true] at hA ⊢; exact h1 j A hA
    · simp only [hj, if_false] at hA ⊢; exact h1 (j + 1) A hA
  · intro j k hj hf
    rw [List.length_eraseIdx_of_lt hi] at hj
    by_cases hji : j < i
    · simp only [hji, if_true] at hf; exact h2 j k (by omega) hf
    · simp only [hji, if_false] at hf; exact h2 (j + 1) k (by omega) hf
  · intro j j' k hj hj' hf hf'
    rw [List.length_eraseIdx_of_lt hi] at hj hj'
    by_cases hji : j < i <;> by_cases hji' : j' < i
    · simp only [hji, hji', if_true] at hf hf'; exact h3 j j' k (by omega) (by omega) hf hf'
    · simp only [hji, hji', if_true, if_false] at hf hf'; have := h3 j (j' + 1) k (by omega) (by omega) hf hf'; omega
    · simp only [hji, hji', if_true, if_false] at hf hf'; have := h3 (j + 1) j' k (by omega) (by omega) hf hf'; omega
    · simp only [hji, hji', if_false] at hf hf'; have := h3 (j + 1) (j' + 1) k (by omega) (by omega) hf hf'; omega
/-- only to look at -/
theorem Mem.see {w0 w : World} {L : List Thing} (h : Mem w0 w L) (i : Nat) {A : Thing} (hA : L[i]? = some A) : ∃ F, A w F :=
  let ⟨F, hF, _⟩ := h.at i hA; ⟨F, hF⟩
/-- two to look at: they lie apart -/
theorem Mem.see2 {w0 w : World} {L : List Thing} (h : Mem w0 w L) (i j : Nat) (hij : i ≠ j) {A B : Thing} (hA : L[i]? = some A) (hB : L[j]? = some B) : ∃ F G, A w F ∧ B w G ∧ ∀ k, F k → ¬ G k := by
  obtain ⟨hk, hl, ⟨F, h1, h2, h3⟩⟩ := h
  exact ⟨F i, F j, h1 i A hA, h1 j B hB, fun k hf hg => hij (h3 i j k (List.getElem?_eq_some_iff.1 hA).1 (List.getElem?_eq_some_iff.1 hB).1 hf hg)⟩

/-- A row, as a thing. -/
def RowT (e : TypeId) (size : Nat) (v : Value) (n : Nat) (xs : List Value) : Thing := fun w F => w.ownsRow 0 e size v n xs ∧ F = Of v
theorem rowT_lies (e : TypeId) (size : Nat) (v : Value) (n : Nat) (xs : List Value) : Lies (RowT e size v n xs) :=
  ⟨fun ⟨h, hF⟩ k hk => by subst hF; exact (h.lt k hk).2, fun ⟨h, hF⟩ hk hd => by subst hF; exact ⟨hk.owns h (fun k he => hd k he), rfl⟩⟩
theorem ownsRow_base0 {w : World} {base : Nat} {e : TypeId} {size : Nat} {v : Value} {n : Nat} {xs : List Value} (h : w.ownsRow base e size v n xs) : w.ownsRow 0 e size v n xs := by
  refine ⟨h.1, ?_⟩
  rcases h.2 with h2 | ⟨g, cap, cur, hv, hg, r⟩
  · exact .inl h2
  · exact .inr ⟨g, cap, cur, hv, Nat.zero_le _, r⟩

/-- a store into a row -/
theorem Mem.stored {w0 w : World} {L : List Thing} (h : Mem w0 w L) (i : Nat) {e : TypeId} {size g n cap : Nat} {xs : List Value} (hA : L[i]? = some (RowT e size (.slice (some ⟨g, 0, none⟩) n cap) n xs)) (j : Nat) (u : Value) :
    Mem w0 (w.setCell ⟨g, j, none⟩ u) (L.set i (RowT e size (.slice (some ⟨g, 0, none⟩) n cap) n (xs.set j u))) := by
  obtain ⟨F, ⟨hrow, rfl⟩, close⟩ := h.at i hA
  refine close _ _ (rowT_lies _ _ _ _ _) ⟨Of (.slice (some ⟨g, 0, none⟩) n cap), ⟨(hrow.stored j u).1, rfl⟩, (Keeps.refl (S := Of (.slice (some ⟨g, 0, none⟩) n cap)) w).setCell (p := ⟨g, j, none⟩) (fun _ => rfl) u, fun k hk => .inl hk⟩
theorem Mem.cellAt {w0 w : World} {L : List Thing} (h : Mem w0 w L) (i : Nat) {e : TypeId} {size g n cap : Nat} {xs : List Value} (hA : L[i]? = some (RowT e size (.slice (some ⟨g, 0, none⟩) n cap) n xs)) (j : Nat) (hj : j < n * size) :
    w.cell? ⟨g, j, none⟩ = xs[j]? ∧ w.frozen? ⟨g, j, none⟩ = false := by
  obtain ⟨F, ⟨hrow, _⟩, _⟩ := h.at i hA
  exact ⟨hrow.cellAt j hj, hrow.frozenAt j⟩

/-- append onto a row that lies beside other things -/
theorem wpList_append_mem {P : Program} {w : World} {ops : Array Oper} {rest : List Oper} {o : Oper} {a : Act} {Q : Exit → Act → World → Prop} (hgd : o.guard = none) (s x : Operand) (t : TypeId)
    (ho : o.op = .call { callee := .builtin .append, args := #[s, x], argTypes := #[t, t] })
    (e : TypeId) (i : TypeInfo) (z : Value) (size bytes : Nat) (ht : P.underlying t = some (.slice e)) (hi : P.info? e = some i) (hz : i.zero = some z)
    (hsize : i.size = size) (hby : i.bytes = bytes) (hzs : z.cells.size = size) (hsz : 0 < size)
    {w0 : World} {L : List Thing} (hm : Mem w0 w L) (k : Nat) (v : Value) (n : Nat) (xs : List Value) (hs : a.eval s = v) (hL : L[k]? = some (RowT e size v n xs))
    (xv : Value) (m : Nat) (news : List Value) (hx : a.eval x = xv) (hr : Reads w size xv m news)
    (h63 : n + m ≤ maxLen) (hbytes : (n + m) * bytes ≤ 140737488355328)
    (h : ∀ v' w', Hid (Mem w0 w' (L.set k (RowT e size v' (n + m) (xs ++ news)))) → Hid (v' = .slice none 0 0 ↔ v = .slice none 0 0 ∧ m = 0) → Hid (Keeps (Of v) w w') → wpList P ops Q rest (a.put o.dst v') w') : wpList P ops Q (o :: rest) a w := by
  obtain ⟨F, ⟨hrow, rfl⟩, close⟩ := hm.at k hL
  refine wpList_append_reads hgd s x t ho 0 e i z size bytes ht hi hz hsize hby hzs hsz v n xs hs hrow xv m news hx hr h63 hbytes (Nat.zero_le _) ?_
  intro v' w' ho' hk hn hnil
  exact h v' w' (close w' _ (rowT_lies _ _ _ _ _) ⟨Of v', ⟨ho', rfl⟩, hk, fun i hi => hn i hi⟩) hnil hk

/-- the same, as one step of a region that draws its order -/
theorem step_append_mem {P : Program} {w : World} {ops : Array Oper} {o : Oper} {a : Act} {K : Act → World → Prop} {Q : Exit → Act → World → Prop} {E : Prop} (hgd : o.guard = none) (s x : Operand) (t : TypeId)
    (ho : o.op = .call { callee := .builtin .append, args := #[s, x], argTypes := #[t, t] })
    (e : TypeId) (i : TypeInfo) (z : Value) (size bytes : Nat) (ht : P.underlying t = some (.slice e)) (hi : P.info? e = some i) (hz : i.zero = some z)
    (hsize : i.size = size) (hby : i.bytes = bytes) (hzs : z.cells.size = size) (hsz : 0 < size)
    {w0 : World} {L : List Thing} (hm : Mem w0 w L) (k : Nat) (v : Value) (n : Nat) (xs : List Value) (hs : a.eval s = v) (hL : L[k]? = some (RowT e size v n xs))
    (xv : Value) (m : Nat) (news : List Value) (hx : a.eval x = xv) (hr : Reads w size xv m news)
    (h63 : n + m ≤ maxLen) (hbytes : (n + m) * bytes ≤ 140737488355328)
    (h : ∀ v' w', Hid (Mem w0 w' (L.set k (RowT e size v' (n + m) (xs ++ news)))) → Hid (v' = .slice none 0 0 ↔ v = .slice none 0 0 ∧ m = 0) → Hid (Keeps (Of v) w w') → K (a.put o.dst v') w') : if Region.wanted o (yielded ops a.tmps) = true then Oper.wp P o a w K Q else E := by
  obtain ⟨F, ⟨hrow, rfl⟩, close⟩ := hm.at k hL
  refine step_append_reads hgd s x t ho 0 e i z size bytes ht hi hz hsize hby hzs hsz v n xs hs hrow xv m news hx hr h63 hbytes (Nat.zero_le _) ?_
  intro v' w' ho' hk hn hnil
  exact h v' w' (close w' _ (rowT_lies _ _ _ _ _) ⟨Of v', ⟨ho', rfl⟩, hk, fun i hi => hn i hi⟩) hnil hk
/-- a literal of a slice, as a thing -/
theorem lit_mem {w0 w : World} {L : List Thing} (h : Mem w0 w L) (e : TypeId) (size : Nat) (cs : Array Value) (n : Nat) (hm : n ≤ maxLen) (hs : cs.size = n * size) :
    Mem w0 (w.alloc (.cells cs e)) (L ++ [RowT e size (.slice (some ⟨w.heap.size, 0, none⟩) n n) n cs.toList]) :=
  h.push (rowT_lies _ _ _ _ _) ⟨_, ⟨World.ownsRow_lit w cs n (Nat.zero_le _) hm hs, rfl⟩, (Keeps.refl _).alloc _, fun k hk => .inr (by simp [Of, Value.ownBlock] at hk; omega)⟩

end Go.Proofs.Ytneikamjlbfglaa
