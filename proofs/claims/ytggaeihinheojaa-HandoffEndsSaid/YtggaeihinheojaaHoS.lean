/-
  handoff.Says: all that is said to a shard. No conditions of its own.
-/
import Derived.Test.YtggaeihinheojaaHoR
namespace Go.Proofs.Ytggaeihinheojaa
open Go.RowKit

/-- What a message says: its kind, its number, its entities. -/
def mcOf (m : Ms) : Int × Int × List Bd := (m.k, m.n, m.bs)
/-- What is said of an Out under way. -/
def mcO (o : Ou) : Int × Int × List Bd := bif o.st == 2 then (7, o.n, [o.b]) else (9, o.n, [])
/-- The first Out under way with the number of this one. -/
def foundOf (l : List Ou) (o : Ou) : Ou := match l.find? (tellPr o.n) with | some x => x | none => o
def saysTo (tg : Int) (o : Ou) : Bool := !(o.st == 1) && o.to == tg
/-- What is said to a shard of the Outs p, among the Outs l. -/
def saidC (l p : List Ou) (tg : Int) : List (Int × Int × List Bd) := (p.filter (saysTo tg)).map fun o => mcO (foundOf l o)

theorem saidC_skip (l : List Ou) (tg : Int) (k : Nat) (hk : k < l.length) (h : saysTo tg l[k] = false) : saidC l (l.take (k + 1)) tg = saidC l (l.take k) tg := by
  unfold saidC
  rw [List.take_succ_eq_append_getElem hk, List.filter_append]
  simp [h]
theorem saidC_more (l : List Ou) (tg : Int) (k : Nat) (hk : k < l.length) (h : saysTo tg l[k] = true) : saidC l (l.take (k + 1)) tg = saidC l (l.take k) tg ++ [mcO (foundOf l l[k])] := by
  unfold saidC
  rw [List.take_succ_eq_append_getElem hk, List.filter_append]
  simp [h]
theorem saidC_le (l : List Ou) (tg : Int) (k : Nat) : (saidC l (l.take k) tg).length ≤ k := by
  unfold saidC
  rw [List.length_map]
  exact Nat.le_trans (List.length_filter_le _ _) (by rw [List.length_take]; omega)

theorem keeps_cellsAt {S : Nat → Prop} {a w : World} (h : Keeps S a w) {b o n : Nat} {l : List Value} (hn : ¬ S b) (hc : cellsAt a b o n = some l) : cellsAt w b o n = some l := by
  have hb : b < a.heap.size := by
    unfold cellsAt at hc
    split at hc
    · rename_i hh
      exact (Array.getElem?_eq_some_iff.1 hh).1
    · cases hc
  unfold cellsAt at hc ⊢
  rw [h.block b hb hn]
  exact hc
/-- a row of messages of the call's own, and their lists, each in another block than the row -/
structure Said (w : World) (base : Nat) (v : Value) (ms : List Ms) : Prop where
  row : OwnOf cMs 31 w base v ms
  lists : ∀ m ∈ ms, RdOf cBd w (.slice m.a m.bs.length m.c) m.bs
  apart : ∀ m ∈ ms, ∀ k, (Value.slice m.a m.bs.length m.c).ownBlock = some k → v.ownBlock = some k → False
theorem Said.reads {w : World} {base : Nat} {v : Value} {ms : List Ms} (h : Said w base v ms) : MsReads w v ms := ⟨h.row.reads, h.lists⟩
theorem Said.kept {w w' : World} {base : Nat} {v : Value} {ms : List Ms} (h : Said w base v ms) (k : Keeps No w w') : Said w' base v ms :=
  ⟨k.owns h.row (fun _ _ h => h), fun m hm => (h.lists m hm).kept k (fun _ _ h => h), h.apart⟩
theorem Said.nil (w : World) (base : Nat) : Said w base (.slice none 0 0) [] := ⟨World.ownsRow_nil _ _ _ _, (fun _ h => by cases h), (fun _ h => by cases h)⟩
theorem reads_lt {w : World} {size : Nat} {v : Value} {n : Nat} {xs : List Value} (h : Reads w size v n xs) (hx : 0 < xs.length) {k : Nat} (hk : v.ownBlock = some k) : k < w.heap.size := by
  obtain ⟨b, off, c, rfl, _, _, hb, _⟩ := h.addr hx
  have : b = k := Option.some.inj hk
  omega
theorem Said.more {w w' : World} {base : Nat} {v v' : Value} {ms : List Ms} {m : Ms} (h : Said w base v ms) (hm : RdOf cBd w (.slice m.a m.bs.length m.c) m.bs)
    (ha : ∀ k, (Value.slice m.a m.bs.length m.c).ownBlock = some k → k < w.heap.size ∧ v.ownBlock ≠ some k)
    (hlt : ∀ m ∈ ms, ∀ k, (Value.slice m.a m.bs.length m.c).ownBlock = some k → k < w.heap.size)
    (hrow : w'.ownsRow base 31 6 v' (ms.length + 1) (rowsOf cMs ms ++ msC m)) (hk : Keeps (Of v) w w') (hb : ∀ k, v'.ownBlock = some k → v.ownBlock = some k ∨ w.heap.size ≤ k) : Said w' base v' (ms ++ [m]) := by
  refine ⟨?_, ?_, ?_⟩
  · show w'.ownsRow _ _ _ _ _ _
    rw [rowsOf_append, rowsOf_one, List.length_append]
    exact hrow
  · intro x hx
    rcases List.mem_append.1 hx with hx | hx
    · exact (h.lists x hx).kept hk (fun k h1 h2 => h.apart x hx k h1 h2)
    · obtain rfl := List.mem_singleton.1 hx
      exact hm.kept hk (fun k h1 h2 => (ha k h1).2 h2)
  · intro x hx k h1 h2
    rcases List.mem_append.1 hx with hx | hx
    · rcases hb k h2 with h3 | h3
      · exact h.apart x hx k h1 h3
      · have := hlt x hx k h1; omega
    · obtain rfl := List.mem_singleton.1 hx
      rcases hb k h2 with h3 | h3
      · exact (ha k h1).2 h3
      · have := (ha k h1).1; omega

/-- the message that Tell makes, where it is asked for -/
theorem tell_cases {low : Nat} {l : List Ou} {n : Int} {e : Ending} {w' : World} (h : TellPost low l n e w') :
    ∃ (a kk nn : Int) (v : Value) (ok : Bool), e = .returned (.tuple #[toV a kk nn v, .bool ok]) ∧ v.oneCell' = true ∧
      (∀ o ∈ l, o.n = n → (o.st == 1) = false → ok = true ∧ ∃ m : Ms, m.k = kk ∧ m.n = nn ∧ v = .slice m.a m.bs.length m.c ∧ mcOf m = mcO (foundOf l o) ∧ RdOf cBd w' v m.bs ∧ ∀ k, v.ownBlock = some k → low ≤ k ∧ k < w'.heap.size) := by
  have hfound : ∀ (j : Nat) (hj : j < l.length), firstOf (tellPr n) l = j → ∀ o ∈ l, o.n = n → foundOf l o = l[j] := by
    intro j hj hf o ho hn
    rcases firstOf_cases (tellPr n) l with ⟨h1, _⟩ | ⟨j', h1, hj', hp, hno⟩
    · rw [hf] at h1; omega
    · rw [hf] at h1
      obtain rfl : j = j' := by omega
      have : l.find? (tellPr n) = some l[j] := by
        rw [List.find?_eq_some_iff_getElem]
        exact ⟨hp, j, hj, rfl, fun i hi => by simpa using hno i hi (by omega)⟩
      unfold foundOf
      rw [hn, this]
  rcases h with ⟨hf, rfl⟩ | ⟨j, hj, hf, hs, v, rfl, hr, hlo⟩ | ⟨j, hj, hf, hs, rfl⟩
  · refine ⟨_, _, _, _, _, rfl, rfl, fun o ho hn hst => ?_⟩
    rcases firstOf_cases (tellPr n) l with ⟨_, h1⟩ | ⟨j', h1, _⟩
    · have := h1 o ho
      simp [tellPr, hn] at this
      simp [this] at hst
    · rw [hf] at h1; omega
  · obtain ⟨a, c, rfl⟩ := hr.slice
    refine ⟨_, _, _, _, _, rfl, rfl, fun o ho hn hst => ⟨rfl, ?_⟩⟩
    have hfo := hfound j hj hf o ho hn
    have hpn : l[j].n = n := by
      rcases firstOf_cases (tellPr n) l with ⟨h1, _⟩ | ⟨j', h1, hj', hp, hno⟩
      · rw [hf] at h1; omega
      · rw [hf] at h1
        obtain rfl : j = j' := by omega
        simp [tellPr] at hp
        exact hp.1
    refine ⟨⟨7, n, a, c, [l[j].b]⟩, rfl, rfl, rfl, ?_, hr, fun k hk => ⟨hlo k hk, reads_lt hr (by simp [rowsOf_length, cBd]) hk⟩⟩
    rw [hfo]
    unfold mcO mcOf
    rw [hs, hpn]
    rfl
  · refine ⟨_, _, _, _, _, rfl, rfl, fun o ho hn hst => ⟨rfl, ?_⟩⟩
    have hfo := hfound j hj hf o ho hn
    have hpn : l[j].n = n := by
      rcases firstOf_cases (tellPr n) l with ⟨h1, _⟩ | ⟨j', h1, hj', hp, hno⟩
      · rw [hf] at h1; omega
      · rw [hf] at h1
        obtain rfl : j = j' := by omega
        simp [tellPr] at hp
        exact hp.1
    refine ⟨⟨9, n, none, 0, []⟩, rfl, rfl, rfl, ?_, rdNil cBd _, fun k hk => by cases hk⟩
    rw [hfo]
    unfold mcO mcOf
    rw [hs, hpn]
    rfl

end Go.Proofs.Ytggaeihinheojaa
