/-
  A world of three shards, as data: who owns whom, how much there is, and a rest. Plain lemmas. No conditions of its own.
-/
import Derived.Test.YtggaeihinheojaaHpB
namespace Go.Proofs.Ytggaeihinheojaa

/-! ### who owns -/
def isId (s i g : Int) (b : Bd) : Bool := b.s == s && (b.i == i && b.g == g)
def idN (s i g : Int) (b : Bd) : Nat := if isId s i g b = true then 1 else 0
theorem isId_iff {s i g : Int} {b : Bd} : isId s i g b = true ↔ b.s = s ∧ b.i = i ∧ b.g = g := by simp [isId]
/-- what a law's look at one shard comes to -/
def own1 (W : Wd) (s i g : Int) (k : Nat) : Nat := (if findIs s i g (W.s k).own = true then 1 else 0) + sm (fun o => if (isId s i g o.b && counted W k o) = true then 1 else 0) (W.s k).outs
theorem sm_zero {α : Type} (l : List α) : sm (fun _ => 0) l = 0 := by
  induction l with
  | nil => rfl
  | cons a l ih => rw [sm_cons, ih]
theorem id_once {l : List Bd} (hs : l.Pairwise Lt) (s i g : Int) : sm (idN s i g) l = if findIs s i g l = true then 1 else 0 := by
  have hle : sm (idN s i g) l ≤ 1 := by
    induction l with
    | nil => simp [sm]
    | cons b l ih =>
      rw [List.pairwise_cons] at hs
      rw [sm_cons]
      have := ih hs.2
      by_cases hb : isId s i g b = true
      · have h0 : sm (idN s i g) l = 0 := by
          have : ∀ x ∈ l, idN s i g x = (fun _ => 0) x := by
            intro x hx
            unfold idN
            rw [if_neg]
            intro h
            have h1 := hs.1 x hx
            unfold Lt at h1
            rw [cmpN_lt] at h1
            rw [isId_iff] at hb h
            omega
          rw [sm_congr this, sm_zero]
        rw [h0]
        unfold idN
        split <;> omega
      · have : idN s i g b = 0 := by unfold idN; rw [if_neg hb]
        omega
  by_cases h : findIs s i g l = true
  · rw [if_pos h]
    obtain ⟨x, hx, h1⟩ := (findIs_iff hs s i g).1 h
    have h2 := sm_mem (idN s i g) hx
    have h3 : idN s i g x = 1 := by unfold idN; rw [if_pos (isId_iff.2 h1)]
    omega
  · rw [if_neg h]
    have : ∀ x ∈ l, idN s i g x = (fun _ => 0) x := by
      intro x hx
      unfold idN
      rw [if_neg]
      intro h1
      exact h ((findIs_iff hs s i g).2 ⟨x, hx, isId_iff.1 h1⟩)
    rw [sm_congr this, sm_zero]
theorem own1_eq {W : Wd} {T : Nat} (h : OkS W T) (s i g : Int) {k : Nat} (hk : k < 3) : own1 W s i g k = piece (idN s i g) W k := by
  unfold own1 piece
  rw [id_once (h.sorted k hk)]
  congr 1
  refine sm_congr fun o _ => ?_
  unfold idN
  cases isId s i g o.b <;> cases counted W k o <;> rfl
def ownersN (W : Wd) (s i g : Int) : Nat := own1 W s i g 0 + own1 W s i g 1 + own1 W s i g 2
theorem piece_add (φ ψ : Bd → Nat) (W : Wd) (k : Nat) : piece (fun b => φ b + ψ b) W k = piece φ W k + piece ψ W k := by
  unfold piece
  rw [sm_add]
  have : sm (fun o => if counted W k o = true then φ o.b + ψ o.b else 0) (W.s k).outs = sm (fun o => if counted W k o = true then φ o.b else 0) (W.s k).outs + sm (fun o => if counted W k o = true then ψ o.b else 0) (W.s k).outs := by
    rw [← sm_add]
    refine sm_congr fun o _ => ?_
    split <;> omega
  rw [this]
  omega
theorem piece_good {φ ψ : Bd → Nat} {W : Wd} {T : Nat} (h : OkS W T) {k : Nat} (hk : k < 3) (he : ∀ b, Good W.n b → φ b = ψ b) : piece φ W k = piece ψ W k := by
  unfold piece
  rw [sm_congr (fun b hb => he b ((h.good k hk).1 b hb))]
  congr 1
  refine sm_congr fun o ho => ?_
  rw [he o.b ((h.good k hk).2 o ho)]
/-- EACH HAS JUST ONE OWNER -/
theorem one_owner {W : Wd} {T : Nat} (h : OkS W T) {j : Nat} (hj : j < W.n) : ownersN W 0 ((j : Int) % 16) j + ownersN W 1 ((j : Int) % 16) j + ownersN W 2 ((j : Int) % 16) j = 1 := by
  have hp : ∀ k, k < 3 → piece (idN 0 ((j : Int) % 16) j) W k + piece (idN 1 ((j : Int) % 16) j) W k + piece (idN 2 ((j : Int) % 16) j) W k = piece (isG j) W k := by
    intro k hk
    rw [← piece_add, ← piece_add]
    refine piece_good h hk fun b hb => ?_
    have h0 := hb.s0
    have h1 := hb.s1
    have h2 := hb.i
    unfold idN isG
    by_cases hg : b.g = j
    · rw [if_pos hg]
      have hi : b.i = (j : Int) % 16 := by omega
      have h3 : b.s = 0 ∨ b.s = 1 ∨ b.s = 2 := by omega
      rcases h3 with h3 | h3 | h3 <;> simp [isId, h3, hi, hg]
    · rw [if_neg hg]
      simp [isId, hg]
  have hc := h.cnt j
  rw [if_pos ⟨by omega, by omega⟩] at hc
  unfold tot at hc
  unfold ownersN
  rw [own1_eq h _ _ _ (by omega), own1_eq h _ _ _ (by omega), own1_eq h _ _ _ (by omega), own1_eq h _ _ _ (by omega), own1_eq h _ _ _ (by omega), own1_eq h _ _ _ (by omega), own1_eq h _ _ _ (by omega), own1_eq h _ _ _ (by omega), own1_eq h _ _ _ (by omega)]
  have := hp 0 (by omega)
  have := hp 1 (by omega)
  have := hp 2 (by omega)
  omega
/-- .. and all of them together are as many as there are -/
def allN (W : Wd) (k : Nat) : Nat := (W.s k).own.length + sm (fun o => if counted W k o = true then 1 else 0) (W.s k).outs
theorem all_owned {W : Wd} {T : Nat} (h : OkS W T) : allN W 0 + allN W 1 + allN W 2 = W.n := by
  have := h.len
  unfold tot piece at this
  rw [sm_one, sm_one, sm_one] at this
  exact this
/-- no row is long -/
theorem own_le {W : Wd} {T : Nat} (h : OkS W T) {k : Nat} (hk : k < 3) : (W.s k).own.length ≤ 40 := by
  have h1 := all_owned h
  have h2 := h.n40
  unfold allN at h1
  have : k = 0 ∨ k = 1 ∨ k = 2 := by omega
  rcases this with rfl | rfl | rfl <;> omega
def keptN (l : List Ou) : Nat := sm (fun o => if o.st = 1 then 1 else 0) l
theorem outs_len (l : List Ou) : l.length = underOf l + keptN l := by
  induction l with
  | nil => rfl
  | cons o l ih =>
    rw [underOf_cons, List.length_cons, ih]
    unfold keptN
    rw [sm_cons]
    split <;> omega
theorem sm_le {α : Type} {f g : α → Nat} {l : List α} (h : ∀ a ∈ l, f a ≤ g a) : sm f l ≤ sm g l := by
  induction l with
  | nil => exact Nat.le_refl _
  | cons a l ih =>
    rw [sm_cons, sm_cons]
    have := h a (by simp)
    have := ih (fun b hb => h b (by simp [hb]))
    omega
theorem kept_le (W : Wd) (k : Nat) : keptN (W.s k).outs ≤ sm (fun o => if counted W k o = true then 1 else 0) (W.s k).outs := by
  refine sm_le fun o _ => ?_
  by_cases h : o.st = 1
  · rw [if_pos h, if_pos (by simp [counted, h])]
    exact Nat.le_refl _
  · rw [if_neg h]
    exact Nat.zero_le _
theorem kept_sum {W : Wd} {T : Nat} (h : OkS W T) : keptN (W.s 0).outs + keptN (W.s 1).outs + keptN (W.s 2).outs ≤ 40 := by
  have h1 := all_owned h
  have h2 := h.n40
  have := kept_le W 0
  have := kept_le W 1
  have := kept_le W 2
  unfold allN at h1
  omega
theorem outs_le {W : Wd} {T : Nat} (h : OkS W T) {k : Nat} (hk : k < 3) : (W.s k).outs.length ≤ 44 := by
  have h1 := kept_sum h
  have h2 := h.under k hk
  rw [outs_len]
  have : k = 0 ∨ k = 1 ∨ k = 2 := by omega
  rcases this with rfl | rfl | rfl <;> omega

/-! ### how much there is -/
theorem sm_countP {α : Type} (p : α → Bool) (l : List α) : l.countP p = sm (fun a => if p a = true then 1 else 0) l := by
  induction l with
  | nil => rfl
  | cons a l ih => rw [List.countP_cons, sm_cons, ih]; omega
/-- how many Outs are under way from a to b -/
def trN (W : Wd) (a b : Nat) : Nat := (W.s a).outs.countP fun o => !(o.st == 1) && o.to == (b : Int)
theorem trN_sum {W : Wd} {T : Nat} (h : OkS W T) {a : Nat} (ha : a < 3) : trN W a 0 + trN W a 1 + trN W a 2 ≤ 4 := by
  have h1 := h.under a ha
  have h2 : underOf (W.s a).outs = (W.s a).outs.countP fun o => !isKept o := by
    unfold underOf
    rw [List.countP_eq_length_filter]
  rw [h2, sm_countP] at h1
  refine Nat.le_trans ?_ h1
  unfold trN
  rw [sm_countP, sm_countP, sm_countP, ← sm_add, ← sm_add]
  refine sm_le fun o _ => ?_
  by_cases hs : o.st = 1
  · simp [hs]
  · simp [isKept, hs]
    split <;> split <;> split <;> omega
/-- where what is said of Outs is said of each once, as much is said as there are -/
theorem pair_len {W : Wd} {a b : Nat} (h1 : ∀ n, cM W a b n = cT W a b n) : (W.way a b).countP (fun m => m.1 == 7 || m.1 == 9) + (W.way b a).countP (fun m => m.1 == 8 || m.1 == 10) = trN W a b := by
  have hp : (((W.way a b).filter fun m => m.1 == 7 || m.1 == 9).map (·.2.1) ++ ((W.way b a).filter fun m => m.1 == 8 || m.1 == 10).map (·.2.1)).Perm (((W.s a).outs.filter fun o => !(o.st == 1) && o.to == (b : Int)).map (·.n)) := by
    rw [List.perm_iff_count]
    intro n
    have := h1 n
    unfold cM cT at this
    rw [List.count_append]
    unfold List.count
    rw [List.countP_map, List.countP_map, List.countP_map, List.countP_filter, List.countP_filter, List.countP_filter]
    have e1 : (W.way a b).countP (fun m => ((fun x => x == n) ∘ fun x : Mc => x.2.1) m && (m.1 == 7 || m.1 == 9)) = (W.way a b).countP (saysM n) := List.countP_congr fun m _ => by simp [saysM, and_comm]
    have e2 : (W.way b a).countP (fun m => ((fun x => x == n) ∘ fun x : Mc => x.2.1) m && (m.1 == 8 || m.1 == 10)) = (W.way b a).countP (repsM n) := List.countP_congr fun m _ => by simp [repsM, and_comm]
    have e3 : (W.s a).outs.countP (fun o => ((fun x => x == n) ∘ fun x : Ou => x.n) o && (!(o.st == 1) && o.to == (b : Int))) = (W.s a).outs.countP (trO b n) := List.countP_congr fun o _ => by simp [trO]; constructor <;> (rintro ⟨h1, h2, h3⟩; exact ⟨by assumption, by assumption, by assumption⟩)
    rw [e1, e2, e3]
    exact this
  have := hp.length_eq
  rw [List.length_append, List.length_map, List.length_map, List.length_map, ← List.countP_eq_length_filter, ← List.countP_eq_length_filter, ← List.countP_eq_length_filter] at this
  exact this
def isSay (m : Mc) : Bool := m.1 == 7 || m.1 == 9
def isRep (m : Mc) : Bool := m.1 == 8 || m.1 == 10
theorem way_len {W : Wd} {a b : Nat} (h : ∀ m ∈ W.way a b, MsgOk W a b m) : (W.way a b).length = (W.way a b).countP isSay + (W.way a b).countP isRep := by
  rw [sm_countP, sm_countP, ← sm_one, ← sm_add]
  refine sm_congr fun m hm => ?_
  rcases msg_kind (h m hm) with h | h | h | h <;> simp [isSay, isRep, h]
def wayN (W : Wd) (a : Nat) : Nat := (W.way a 0).length + (W.way a 1).length + (W.way a 2).length
/-- at most twelve messages are on their way -/
theorem ways_le {W : Wd} {T : Nat} (h : Ok W T) : wayN W 0 + wayN W 1 + wayN W 2 ≤ 12 := by
  have hl : ∀ a b : Nat, a < 3 → b < 3 → (W.way a b).length = (W.way a b).countP isSay + (W.way a b).countP isRep := fun a b ha hb => way_len (h.M.msg a b ha hb)
  have hp : ∀ a b : Nat, a < 3 → b < 3 → a ≠ b → (W.way a b).countP isSay + (W.way b a).countP isRep = trN W a b := fun a b ha hb hab => pair_len (h.M.one a b ha hb hab)
  have ht := trN_sum h.S (a := 0) (by omega)
  have ht1 := trN_sum h.S (a := 1) (by omega)
  have ht2 := trN_sum h.S (a := 2) (by omega)
  unfold wayN
  rw [h.M.diag 0 (by omega), h.M.diag 1 (by omega), h.M.diag 2 (by omega)]
  have := hl 0 1 (by omega) (by omega)
  have := hl 0 2 (by omega) (by omega)
  have := hl 1 0 (by omega) (by omega)
  have := hl 1 2 (by omega) (by omega)
  have := hl 2 0 (by omega) (by omega)
  have := hl 2 1 (by omega) (by omega)
  have := hp 0 1 (by omega) (by omega) (by omega)
  have := hp 0 2 (by omega) (by omega) (by omega)
  have := hp 1 0 (by omega) (by omega) (by omega)
  have := hp 1 2 (by omega) (by omega) (by omega)
  have := hp 2 0 (by omega) (by omega) (by omega)
  have := hp 2 1 (by omega) (by omega) (by omega)
  simp only [List.length_nil]
  omega
theorem way_le {W : Wd} {T : Nat} (h : Ok W T) {a b : Nat} (ha : a < 3) (hb : b < 3) : (W.way a b).length ≤ 12 := by
  have := ways_le h
  unfold wayN at this
  have ea : a = 0 ∨ a = 1 ∨ a = 2 := by omega
  have eb : b = 0 ∨ b = 1 ∨ b = 2 := by omega
  rcases ea with rfl | rfl | rfl <;> rcases eb with rfl | rfl | rfl <;> omega
/-- no more is staged than is under way -/
theorem ins_le {W : Wd} {T : Nat} (h : OkS W T) {k : Nat} (hk : k < 3) : (W.s k).ins.length ≤ 132 := by
  have hn : ((W.s k).ins.map fun x => (x.f, x.n)).Nodup := by
    unfold List.Nodup
    rw [List.pairwise_map]
    exact (h.insd k hk).imp fun hne he => hne ⟨congrArg Prod.fst he, congrArg Prod.snd he⟩
  have hsub : ((W.s k).ins.map fun x => (x.f, x.n)) ⊆ ((W.s 0).outs.map fun o => ((0 : Int), o.n)) ++ ((W.s 1).outs.map fun o => ((1 : Int), o.n)) ++ ((W.s 2).outs.map fun o => ((2 : Int), o.n)) := by
    intro p hp
    obtain ⟨x, hx, rfl⟩ := List.mem_map.1 hp
    obtain ⟨a, ha, _, hf, st, _, o, ho, hno, _⟩ := h.ins k hk x hx
    have ea : a = 0 ∨ a = 1 ∨ a = 2 := by omega
    rcases ea with rfl | rfl | rfl
    · refine List.mem_append_left _ (List.mem_append_left _ (List.mem_map.2 ⟨o, ho, ?_⟩))
      rw [hf, hno]; rfl
    · refine List.mem_append_left _ (List.mem_append_right _ (List.mem_map.2 ⟨o, ho, ?_⟩))
      rw [hf, hno]; rfl
    · refine List.mem_append_right _ (List.mem_map.2 ⟨o, ho, ?_⟩)
      rw [hf, hno]; rfl
  have h0 := hn.length_le_of_subset hsub
  have := outs_le h (k := 0) (by omega)
  have := outs_le h (k := 1) (by omega)
  have := outs_le h (k := 2) (by omega)
  simp only [List.length_map, List.length_append] at h0
  omega

/-! ### how much is to be done still -/
def mw (m : Mc) : Nat := if m.1 = 7 then 4 else if m.1 = 8 then 3 else if m.1 = 9 then 2 else 1
def wayW (W : Wd) (a : Nat) : Nat := sm mw (W.way a 0) + sm mw (W.way a 1) + sm mw (W.way a 2)
def Pot (W : Wd) : Nat := 5 * (keptN (W.s 0).outs + keptN (W.s 1).outs + keptN (W.s 2).outs) + (wayW W 0 + wayW W 1 + wayW W 2)
theorem pot_le {W : Wd} {T : Nat} (h : Ok W T) : Pot W ≤ 248 := by
  have h1 := kept_sum h.S
  have h2 := ways_le h
  have h3 : ∀ a b, sm mw (W.way a b) ≤ 4 * (W.way a b).length := by
    intro a b
    generalize W.way a b = l
    induction l with
    | nil => exact Nat.le_refl _
    | cons m l ih =>
      rw [sm_cons, List.length_cons]
      have : mw m ≤ 4 := by unfold mw; split <;> (try split) <;> (try split) <;> omega
      omega
  unfold Pot wayW
  unfold wayN at h2
  have := h3 0 0; have := h3 0 1; have := h3 0 2
  have := h3 1 0; have := h3 1 1; have := h3 1 2
  have := h3 2 0; have := h3 2 1; have := h3 2 2
  omega
theorem wayW_set (W : Wd) {a b : Nat} (ha : a < 3) (hb : b < 3) (l : List Mc) : (wayW (W.setW a b l) 0 + wayW (W.setW a b l) 1 + wayW (W.setW a b l) 2) + sm mw (W.way a b) = (wayW W 0 + wayW W 1 + wayW W 2) + sm mw l := by
  have ea : a = 0 ∨ a = 1 ∨ a = 2 := by omega
  have eb : b = 0 ∨ b = 1 ∨ b = 2 := by omega
  unfold wayW Wd.setW upd2
  rcases ea with rfl | rfl | rfl <;> rcases eb with rfl | rfl | rfl <;> simp <;> omega
theorem wayW_s {W W' : Wd} (h : W'.way = W.way) (a : Nat) : wayW W' a = wayW W a := by unfold wayW; rw [h]
theorem kept_set (W : Wd) {k : Nat} (hk : k < 3) (x : Sh) : (keptN ((W.setS k x).s 0).outs + keptN ((W.setS k x).s 1).outs + keptN ((W.setS k x).s 2).outs) + keptN (W.s k).outs = (keptN (W.s 0).outs + keptN (W.s 1).outs + keptN (W.s 2).outs) + keptN x.outs := by
  have ek : k = 0 ∨ k = 1 ∨ k = 2 := by omega
  unfold Wd.setS upd
  rcases ek with rfl | rfl | rfl <;> simp <;> omega
theorem pot_setW (W : Wd) {a b : Nat} (ha : a < 3) (hb : b < 3) (l : List Mc) : Pot (W.setW a b l) + sm mw (W.way a b) = Pot W + sm mw l := by
  have h := wayW_set W ha hb l
  unfold Pot
  have e : (W.setW a b l).s = W.s := rfl
  rw [e]
  omega
theorem pot_setS (W : Wd) {k : Nat} (hk : k < 3) (x : Sh) : Pot (W.setS k x) + 5 * keptN (W.s k).outs = Pot W + 5 * keptN x.outs := by
  have h := kept_set W hk x
  unfold Pot
  rw [wayW_s (W := W) (W' := W.setS k x) rfl 0, wayW_s (W := W) (W' := W.setS k x) rfl 1, wayW_s (W := W) (W' := W.setS k x) rfl 2]
  omega
theorem pot_push (W : Wd) {a b : Nat} (ha : a < 3) (hb : b < 3) (m : Mc) : Pot (W.push a b m) = Pot W + mw m := by
  have h := pot_setW W ha hb (W.way a b ++ [m])
  rw [sm_append, sm_cons, sm_nil] at h
  unfold Wd.push
  omega
theorem pot_pop (W : Wd) {a b : Nat} (ha : a < 3) (hb : b < 3) {m : Mc} {l : List Mc} (hl : W.way a b = m :: l) : Pot (W.setW a b l) + mw m = Pot W := by
  have h := pot_setW W ha hb l
  rw [hl, sm_cons] at h
  omega
theorem keptN_mid (A B : List Ou) (o : Ou) : keptN (A ++ o :: B) = (if o.st = 1 then 1 else 0) + keptN (A ++ B) := sm_mid _ A B o

/-! ### nothing is to be done -/
theorem idle_end {W : Wd} {T : Nat} (h : Ok W T) (hT : T < 1099511627776) (hw : ∀ a b, a < 3 → b < 3 → W.way a b = []) (hn : ∀ k, k < 3 → mayNext (W.s k).outs (W.s k).nx = false) : ∀ k, k < 3 → (W.s k).outs = [] ∧ (W.s k).ins = [] := by
  have hno : ∀ k, k < 3 → ∀ o ∈ (W.s k).outs, o.st = 1 := by
    intro k hk o ho
    by_cases hs : o.st = 1
    · exact hs
    · exfalso
      obtain ⟨d, hd, hdk, hto⟩ := (h.S.outs k hk o ho).tgt
      have h1 := h.M.one k d hk hd hdk.symm o.n
      have h2 : cM W k d o.n = 0 := by unfold cM; rw [hw k d hk hd, hw d k hd hk]; rfl
      have h3 := cT_pos.2 ⟨o.st, o.b, hs, o, ho, rfl, hto, rfl, rfl⟩
      omega
  have hout : ∀ k, k < 3 → (W.s k).outs = [] := by
    intro k hk
    have h1 := hn k hk
    have h2 := h.S.nx k hk
    have h3 : underOf (W.s k).outs = 0 := by
      unfold underOf
      rw [List.length_eq_zero_iff, List.filter_eq_nil_iff]
      intro o ho
      simp [isKept, hno k hk o ho]
    unfold mayNext at h1
    rw [h3] at h1
    have h4 : decide (((W.s k).nx : Int) < 1099511627776) = true := decide_eq_true (by omega)
    rw [h4] at h1
    simp at h1
    unfold keptOf at h1
    rw [List.any_eq_false] at h1
    cases hl : (W.s k).outs with
    | nil => rfl
    | cons o l =>
      have := h1 o (by rw [hl]; simp)
      simp [isKept, hno k hk o (by rw [hl]; simp)] at this
  intro k hk
  refine ⟨hout k hk, ?_⟩
  cases hl : (W.s k).ins with
  | nil => rfl
  | cons x l =>
    exfalso
    obtain ⟨a, ha, _, _, st, _, o, ho, _⟩ := h.S.ins k hk x (by rw [hl]; simp)
    rw [hout a ha] at ho
    cases ho

/-! ### who is to go comes to where it is to go -/
/-- one of whom P is true is at t, or is to come there -/
def Wt (W : Wd) (t : Nat) (P : Bd → Prop) : Prop := (∃ b ∈ (W.s t).own, P b) ∨ ∃ k, k < 3 ∧ ∃ o ∈ (W.s k).outs, o.to = t ∧ P o.b ∧ counted W k o = true
theorem Wt.setW {W : Wd} {t : Nat} {P : Bd → Prop} (h : Wt W t P) (a b : Nat) (l : List Mc) : Wt (W.setW a b l) t P := h
theorem Wt.push {W : Wd} {t : Nat} {P : Bd → Prop} (h : Wt W t P) (a b : Nat) (m : Mc) : Wt (W.push a b m) t P := h
theorem Wt.outs {W : Wd} {t k : Nat} {P : Bd → Prop} (h : Wt W t P) {L : List Ou} {nx : Nat}
    (hL : ∀ o ∈ (W.s k).outs, counted W k o = true → ∃ o' ∈ L, o'.to = o.to ∧ o'.b = o.b ∧ counted W k o' = true) : Wt (W.setS k ⟨(W.s k).own, L, (W.s k).ins, nx⟩) t P := by
  have hc : ∀ i o, counted (W.setS k ⟨(W.s k).own, L, (W.s k).ins, nx⟩) i o = counted W i o := fun i o => counted_congr (fun j => by
    by_cases e : j = k
    · subst e; rw [Wd.setS_at]
    · rw [Wd.setS_ne _ _ e]) i o
  rcases h with ⟨b, hb, hP⟩ | ⟨i, hi, o, ho, hto, hP, hco⟩
  · refine .inl ⟨b, ?_, hP⟩
    by_cases e : t = k
    · subst e; rw [Wd.setS_at]; exact hb
    · rw [Wd.setS_ne _ _ e]; exact hb
  · by_cases e : i = k
    · subst e
      obtain ⟨o', ho', h1, h2, h3⟩ := hL o ho hco
      exact .inr ⟨i, hi, o', by rw [Wd.setS_at]; exact ho', by rw [h1]; exact hto, by rw [h2]; exact hP, by rw [hc]; exact h3⟩
    · exact .inr ⟨i, hi, o, by rw [Wd.setS_ne _ _ e]; exact ho, hto, hP, by rw [hc]; exact hco⟩
theorem wt_ask {W : Wd} {t k nx : Nat} {n : Int} {P : Bd → Prop} (h : Wt W t P) {A B : List Ou} {o : Ou} (hl : (W.s k).outs = A ++ o :: B) : Wt (W.setS k ⟨(W.s k).own, A ++ ⟨n, o.to, 2, o.b⟩ :: B, (W.s k).ins, nx⟩) t P := by
  refine h.outs fun p hp hc => ?_
  rw [hl] at hp
  simp only [List.mem_append, List.mem_cons] at hp
  rcases hp with hp | rfl | hp
  · exact ⟨p, by simp [hp], rfl, rfl, hc⟩
  · exact ⟨⟨n, p.to, 2, p.b⟩, by simp, rfl, rfl, by simp [counted]⟩
  · exact ⟨p, by simp [hp], rfl, rfl, hc⟩
theorem wt_commit {W : Wd} {t k nx : Nat} {P : Bd → Prop} (h : Wt W t P) {A B : List Ou} {o : Ou} (hl : (W.s k).outs = A ++ o :: B) (hin : staged W k o = true) : Wt (W.setS k ⟨(W.s k).own, A ++ ⟨o.n, o.to, 3, o.b⟩ :: B, (W.s k).ins, nx⟩) t P := by
  refine h.outs fun p hp hc => ?_
  rw [hl] at hp
  simp only [List.mem_append, List.mem_cons] at hp
  rcases hp with hp | rfl | hp
  · exact ⟨p, by simp [hp], rfl, rfl, hc⟩
  · refine ⟨⟨p.n, p.to, 3, p.b⟩, by simp, rfl, rfl, ?_⟩
    have : staged W k ⟨p.n, p.to, 3, p.b⟩ = staged W k p := rfl
    simp [counted, this, hin]
  · exact ⟨p, by simp [hp], rfl, rfl, hc⟩
theorem wt_done {W : Wd} {t k nx : Nat} {P : Bd → Prop} (h : Wt W t P) {A B : List Ou} {o : Ou} (hl : (W.s k).outs = A ++ o :: B) (hc0 : counted W k o = false) : Wt (W.setS k ⟨(W.s k).own, A ++ B, (W.s k).ins, nx⟩) t P := by
  refine h.outs fun p hp hc => ?_
  rw [hl] at hp
  simp only [List.mem_append, List.mem_cons] at hp
  rcases hp with hp | rfl | hp
  · exact ⟨p, by simp [hp], rfl, rfl, hc⟩
  · rw [hc0] at hc
    cases hc
  · exact ⟨p, by simp [hp], rfl, rfl, hc⟩
theorem wt_stage {W : Wd} {t b : Nat} {P : Bd → Prop} (h : Wt W t P) (x : Inn) : Wt (W.setS b ((W.s b).stage x)) t P := by
  rcases h with ⟨y, hy, hP⟩ | ⟨i, hi, o, ho, hto, hP, hco⟩
  · refine .inl ⟨y, ?_, hP⟩
    by_cases e : t = b
    · subst e; rw [Wd.setS_at]; exact hy
    · rw [Wd.setS_ne _ _ e]; exact hy
  · refine .inr ⟨i, hi, o, ?_, hto, hP, ?_⟩
    · by_cases e : i = b
      · subst e; rw [Wd.setS_at]; exact ho
      · rw [Wd.setS_ne _ _ e]; exact ho
    · unfold counted at hco ⊢
      rw [Bool.or_eq_true] at hco ⊢
      rcases hco with hco | hco
      · exact .inl hco
      · refine .inr ?_
        unfold staged at hco ⊢
        by_cases e : o.to.toNat = b
        · rw [e] at hco ⊢
          rw [Wd.setS_at]
          show ((W.s b).ins ++ [x]).any _ = true
          rw [List.any_append, hco, Bool.true_or]
        · rw [Wd.setS_ne _ _ e]
          exact hco
theorem wt_adopt {W : Wd} {T t a b : Nat} {P : Bd → Prop} (h : Wt W t P) (hS : OkS W T) (ha : a < 3) {A B : List Inn} {y : Inn} (hl : (W.s b).ins = A ++ y :: B) (hf : y.f = a) (htr : Tr W a b y.n 3 y.b) : Wt (W.setS b ((W.s b).adopt y.b (A ++ B))) t P := by
  have hown : ∀ z, (z ∈ (W.s b).own ∨ z = y.b) → z ∈ ((W.setS b ((W.s b).adopt y.b (A ++ B))).s b).own := by
    intro z hz
    rw [Wd.setS_at]
    show z ∈ (W.s b).own.take _ ++ y.b :: (W.s b).own.drop _
    simp only [List.mem_append, List.mem_cons]
    rcases hz with hz | rfl
    · rw [← List.take_append_drop (findAt y.b.s y.b.i y.b.g (W.s b).own) (W.s b).own] at hz
      rcases List.mem_append.1 hz with hz | hz
      · exact .inl hz
      · exact .inr (.inr hz)
    · exact .inr (.inl rfl)
  rcases h with ⟨z, hz, hP⟩ | ⟨i, hi, o, ho, hto, hP, hco⟩
  · refine .inl ⟨z, ?_, hP⟩
    by_cases e : t = b
    · subst e; exact hown z (.inl hz)
    · rw [Wd.setS_ne _ _ e]; exact hz
  · have ho' : o ∈ ((W.setS b ((W.s b).adopt y.b (A ++ B))).s i).outs := by
      by_cases e : i = b
      · subst e; rw [Wd.setS_at]; exact ho
      · rw [Wd.setS_ne _ _ e]; exact ho
    by_cases h3 : o.st = 3
    · have hst : staged W i o = true := by
        unfold counted at hco
        rw [show (!(o.st == 3)) = false by simp [h3], Bool.false_or] at hco
        exact hco
      by_cases e : t = b
      · subst e
        obtain ⟨z, hz, hzf, hzn⟩ := (staged_iff hto).1 hst
        rw [hl] at hz
        simp only [List.mem_append, List.mem_cons] at hz
        by_cases hzy : z = y
        · subst hzy
          obtain ⟨p, hp, h1, h2, h4, h5⟩ := htr
          obtain rfl : i = a := by omega
          obtain rfl := out_uniq hS ha ho hp (by omega) (by omega) (by omega)
          exact .inl ⟨z.b, hown _ (.inr rfl), by rw [← h5]; exact hP⟩
        · refine .inr ⟨i, hi, o, ho', hto, hP, ?_⟩
          unfold counted
          rw [Bool.or_eq_true]
          refine .inr ?_
          unfold staged
          rw [show o.to.toNat = t by omega, Wd.setS_at]
          show (A ++ B).any (isIn i o.n) = true
          rw [any_isIn]
          refine ⟨z, ?_, hzf, hzn⟩
          rcases hz with hz | hz | hz
          · exact List.mem_append_left _ hz
          · exact absurd hz hzy
          · exact List.mem_append_right _ hz
      · refine .inr ⟨i, hi, o, ho', hto, hP, ?_⟩
        unfold counted
        rw [Bool.or_eq_true]
        refine .inr ?_
        unfold staged at hst ⊢
        rw [Wd.setS_ne _ _ (show o.to.toNat ≠ b by omega)]
        exact hst
    · exact .inr ⟨i, hi, o, ho', hto, hP, by simp [counted, h3]⟩

/-- WHAT ONE STEP OF A REST LEAVES: all is right, what is to come comes, and less is to be done -/
structure Rest (W W' : Wd) (T d : Nat) : Prop where
  ok : Ok W' (T + 1)
  n : W'.n = W.n
  pot : Pot W' + d = Pot W
  wt : ∀ t P, Wt W t P → Wt W' t P
section
variable {W : Wd} {T a b : Nat} {m : Mc} {l : List Mc}
theorem rest_7_again (h : Ok W T) (ha : a < 3) (hb : b < 3) (hab : a ≠ b) (hl : W.way a b = m :: l) (hk : m.1 = 7) (hh : Has W b a m.2.1) : Rest W ((W.setW a b l).push b a (8, m.2.1, [])) T 1 :=
  ⟨come_7_again h ha hb hab hl hk hh, rfl, by
    have h1 := pot_pop W ha hb hl
    have h2 := pot_push (W.setW a b l) hb ha (8, m.2.1, [])
    have h3 : mw m = 4 := by unfold mw; rw [if_pos hk]
    have h4 : mw (8, m.2.1, []) = 3 := rfl
    omega, fun _ _ h => h⟩
theorem rest_7_first (h : Ok W T) (ha : a < 3) (hb : b < 3) (hab : a ≠ b) (hl : W.way a b = m :: l) (hk : m.1 = 7) {x : Bd} (hx : m.2.2 = [x]) (hh : ¬ Has W b a m.2.1) : Rest W (((W.setW a b l).setS b ((W.s b).stage ⟨a, m.2.1, x⟩)).push b a (8, m.2.1, [])) T 1 :=
  ⟨come_7_first h ha hb hab hl hk hx hh, rfl, by
    have h1 := pot_pop W ha hb hl
    have h2 := pot_push ((W.setW a b l).setS b ((W.s b).stage ⟨a, m.2.1, x⟩)) hb ha (8, m.2.1, [])
    have h3 : mw m = 4 := by unfold mw; rw [if_pos hk]
    have h4 : mw (8, m.2.1, []) = 3 := rfl
    have h5 := pot_setS (W.setW a b l) hb ((W.s b).stage ⟨a, m.2.1, x⟩)
    have h6 : keptN ((W.setW a b l).s b).outs = keptN ((W.s b).stage ⟨a, m.2.1, x⟩).outs := rfl
    omega, fun _ _ h => wt_stage (W := W.setW a b l) h _⟩
theorem rest_8 (h : Ok W T) (ha : a < 3) (hb : b < 3) (hab : a ≠ b) (hl : W.way a b = m :: l) (hk : m.1 = 8) {A B : List Ou} {o : Ou} (hO : (W.s b).outs = A ++ o :: B) (hn : o.n = m.2.1) (hst : o.st = 2) :
    o.to = a ∧ Rest W (((W.setW a b l).setS b ((W.s b).outs' (A ++ ⟨o.n, o.to, 3, o.b⟩ :: B))).push b a (9, m.2.1, [])) T 1 := by
  obtain ⟨hto, hok⟩ := come_8 h ha hb hab hl hk hO hn hst
  obtain ⟨_, _, hh⟩ := msg8 (h.M.msg a b ha hb m (by rw [hl]; simp)) hk
  refine ⟨hto, hok, rfl, ?_, fun _ _ h => wt_commit (W := W.setW a b l) h hO ((staged_iff hto).2 (by rw [hn]; exact hh))⟩
  have h1 := pot_pop W ha hb hl
  have h2 := pot_push ((W.setW a b l).setS b ((W.s b).outs' (A ++ ⟨o.n, o.to, 3, o.b⟩ :: B))) hb ha (9, m.2.1, [])
  have h3 : mw m = 3 := by unfold mw; rw [if_neg (by omega), if_pos hk]
  have h4 : mw (9, m.2.1, []) = 2 := rfl
  have h5 := pot_setS (W.setW a b l) hb ((W.s b).outs' (A ++ ⟨o.n, o.to, 3, o.b⟩ :: B))
  have h6 : keptN ((W.setW a b l).s b).outs = keptN (A ++ ⟨o.n, o.to, 3, o.b⟩ :: B) := by
    show keptN (W.s b).outs = _
    rw [hO, keptN_mid, keptN_mid, if_neg (by omega), if_neg (show ¬ (3 : Int) = 1 by decide)]
  have h7 : ((W.s b).outs' (A ++ ⟨o.n, o.to, 3, o.b⟩ :: B)).outs = A ++ ⟨o.n, o.to, 3, o.b⟩ :: B := rfl
  rw [h7] at h5
  omega
theorem rest_9_gone (h : Ok W T) (ha : a < 3) (hb : b < 3) (hab : a ≠ b) (hl : W.way a b = m :: l) (hk : m.1 = 9) (hh : ¬ Has W b a m.2.1) : Rest W ((W.setW a b l).push b a (10, m.2.1, [])) T 1 :=
  ⟨come_9_gone h ha hb hab hl hk hh, rfl, by
    have h1 := pot_pop W ha hb hl
    have h2 := pot_push (W.setW a b l) hb ha (10, m.2.1, [])
    have h3 : mw m = 2 := by unfold mw; rw [if_neg (by omega), if_neg (by omega), if_pos hk]
    have h4 : mw (10, m.2.1, []) = 1 := rfl
    omega, fun _ _ h => h⟩
theorem rest_9 (h : Ok W T) (ha : a < 3) (hb : b < 3) (hab : a ≠ b) (hl : W.way a b = m :: l) (hk : m.1 = 9) {A B : List Inn} {y : Inn} (hI : (W.s b).ins = A ++ y :: B) (hf : y.f = a) (hn : y.n = m.2.1) :
    findIs y.b.s y.b.i y.b.g (W.s b).own = false ∧ Rest W (((W.setW a b l).setS b ((W.s b).adopt y.b (A ++ B))).push b a (10, m.2.1, [])) T 1 := by
  obtain ⟨hfree, hok⟩ := come_9 h ha hb hab hl hk hI hf hn
  obtain ⟨_, x, ht⟩ := msg9 (h.M.msg a b ha hb m (by rw [hl]; simp)) hk
  have hx : y.b = x := by
    obtain ⟨c, hc, _, hcf, st, hst, hct⟩ := h.S.ins b hb y (by rw [hI]; simp)
    obtain rfl : c = a := by omega
    rw [hn] at hct
    exact (tr_uniq h.S ha hct ht hst (by decide)).2.2
  have ht' : Tr W a b y.n 3 y.b := by rw [hn, hx]; exact ht
  refine ⟨hfree, hok, rfl, ?_, fun _ _ h0 => wt_adopt (W := W.setW a b l) h0 (h.S.setW a b l) ha hI hf ht'⟩
  have h1 := pot_pop W ha hb hl
  have h2 := pot_push ((W.setW a b l).setS b ((W.s b).adopt y.b (A ++ B))) hb ha (10, m.2.1, [])
  have h3 : mw m = 2 := by unfold mw; rw [if_neg (by omega), if_neg (by omega), if_pos hk]
  have h4 : mw (10, m.2.1, []) = 1 := rfl
  have h5 := pot_setS (W.setW a b l) hb ((W.s b).adopt y.b (A ++ B))
  have h6 : keptN ((W.setW a b l).s b).outs = keptN ((W.s b).adopt y.b (A ++ B)).outs := rfl
  omega
theorem rest_10 (h : Ok W T) (ha : a < 3) (hb : b < 3) (hab : a ≠ b) (hl : W.way a b = m :: l) (hk : m.1 = 10) {A B : List Ou} {o : Ou} (hO : (W.s b).outs = A ++ o :: B) (hn : o.n = m.2.1) (hst : o.st = 3) :
    o.to = a ∧ Rest W ((W.setW a b l).setS b ((W.s b).outs' (A ++ B))) T 1 := by
  obtain ⟨hto, hok⟩ := come_10 h ha hb hab hl hk hO hn hst
  obtain ⟨_, _, hh⟩ := msg10 (h.M.msg a b ha hb m (by rw [hl]; simp)) hk
  have hstag : staged W b o = false := by
    cases hq : staged W b o
    · rfl
    · exact absurd (by rw [← hn]; exact (staged_iff hto).1 hq) hh
  have hc : counted W b o = false := by simp [counted, hst, hstag]
  refine ⟨hto, hok, rfl, ?_, fun _ _ h => wt_done (W := W.setW a b l) h hO hc⟩
  have h1 := pot_pop W ha hb hl
  have h3 : mw m = 1 := by unfold mw; rw [if_neg (by omega), if_neg (by omega), if_neg (by omega)]
  have h5 := pot_setS (W.setW a b l) hb ((W.s b).outs' (A ++ B))
  have h6 : keptN ((W.setW a b l).s b).outs = keptN (A ++ B) := by
    show keptN (W.s b).outs = _
    rw [hO, keptN_mid, if_neg (by omega), Nat.zero_add]
  have h7 : ((W.s b).outs' (A ++ B)).outs = A ++ B := rfl
  rw [h7] at h5
  omega
theorem rest_ask {k d : Nat} (h : Ok W T) (hk : k < 3) {A B : List Ou} {o : Ou} (hl : (W.s k).outs = A ++ o :: B) (ho : o.st = 1) (hA : ∀ p ∈ A, p.st ≠ 1) (hu : underOf (W.s k).outs < 4) (hd : o.to = d) :
    d < 3 ∧ d ≠ k ∧ Rest W ((W.setS k ((W.s k).ask (A ++ ⟨((W.s k).nx : Int) + 1, o.to, 2, o.b⟩ :: B))).push k d (7, ((W.s k).nx : Int) + 1, [o.b])) T 1 := by
  obtain ⟨hd3, hdk, hok⟩ := ok_ask h hk hl ho hA hu hd
  refine ⟨hd3, hdk, hok, rfl, ?_, fun _ _ h => wt_ask h hl⟩
  have h2 := pot_push (W.setS k ((W.s k).ask (A ++ ⟨((W.s k).nx : Int) + 1, o.to, 2, o.b⟩ :: B))) hk hd3 (7, ((W.s k).nx : Int) + 1, [o.b])
  have h4 : mw (7, ((W.s k).nx : Int) + 1, [o.b]) = 4 := rfl
  have h5 := pot_setS W hk ((W.s k).ask (A ++ ⟨((W.s k).nx : Int) + 1, o.to, 2, o.b⟩ :: B))
  have h6 : keptN (W.s k).outs = 1 + keptN (A ++ B) := by rw [hl, keptN_mid, if_pos ho]
  have h7 : keptN ((W.s k).ask (A ++ ⟨((W.s k).nx : Int) + 1, o.to, 2, o.b⟩ :: B)).outs = keptN (A ++ B) := by
    show keptN (A ++ _ :: B) = _
    rw [keptN_mid, if_neg (show ¬ (2 : Int) = 1 by decide), Nat.zero_add]
  omega
end
end Go.Proofs.Ytggaeihinheojaa
