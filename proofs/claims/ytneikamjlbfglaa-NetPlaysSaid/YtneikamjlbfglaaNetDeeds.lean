/-
  Deeds: how they read among the arguments; hedgerowlaw18.few.
-/
import Derived.Test.YtneikamjlbfglaaNetM
import Derived.Deep.DeepCutAuto
namespace Go.Proofs.Ytneikamjlbfglaa
open Go.ChangeShapes Go.WideShapes Go.ChangeAt Go.RowKit Go.Joins Go.Deep

/-- A deed: its kind, its number, its packets as a value, and what they read as. -/
structure Dd where
  kind : Int
  k : Int
  v : Value
  ps : List Pk
def Dd.cells (d : Dd) : List Value := [.int .i64 d.kind, .int .i64 d.k, d.v]
def ddCells (l : List Dd) : List Value := l.flatMap Dd.cells
theorem ddCells_cons (x : Dd) (r : List Dd) : ddCells (x :: r) = .int .i64 x.kind :: .int .i64 x.k :: x.v :: ddCells r := by simp [ddCells, Dd.cells]
theorem ddCells_append (a b : List Dd) : ddCells (a ++ b) = ddCells a ++ ddCells b := by simp [ddCells]
theorem ddCells_one (p : Dd) : ddCells [p] = p.cells := by simp [ddCells]
theorem ddCells_length (l : List Dd) : (ddCells l).length = l.length * 3 := by
  induction l with
  | nil => rfl
  | cons p l ih => rw [ddCells_cons]; simp only [List.length_cons, ih]; omega
theorem ddCells_at (l : List Dd) (i : Nat) (h : i < l.length) : (ddCells l)[i * 3]? = some (.int .i64 l[i].kind) ∧ (ddCells l)[i * 3 + 1]? = some (.int .i64 l[i].k) ∧ (ddCells l)[i * 3 + 2]? = some l[i].v := by
  induction l generalizing i with
  | nil => simp at h
  | cons p l ih =>
    rw [ddCells_cons]
    cases i with
    | zero => simp
    | succ i =>
      have := ih i (by simpa using h)
      rw [show (i + 1) * 3 = i * 3 + 1 + 1 + 1 by omega, show i * 3 + 1 + 1 + 1 + 1 = (i * 3 + 1) + 1 + 1 + 1 by omega, show i * 3 + 1 + 1 + 1 + 2 = (i * 3 + 2) + 1 + 1 + 1 by omega]
      simpa using this

/-- The packets of a deed lie in the old world w0. -/
structure DdOk (w0 : World) (d : Dd) : Prop where
  reads : PkReads w0 d.v d.ps
  kind : (Lit.int .i64 d.kind).wf = true
  num : (Lit.int .i64 d.k).wf = true
theorem DdOk.kept {w0 w : World} {d : Dd} (h : DdOk w0 d) (k : Keeps No w0 w) : DdOk w d := ⟨h.reads.kept k (fun _ _ h => h), h.kind, h.num⟩
theorem DdOk.one {w0 : World} {d : Dd} (h : DdOk w0 d) : ∀ u ∈ d.cells, u.oneCell' = true := by
  obtain ⟨a, c, hv⟩ := h.reads.slice
  intro u hu
  simp [Dd.cells] at hu
  rcases hu with rfl | rfl | rfl
  · rfl
  · rfl
  · rw [hv]; rfl
theorem ddCells_one' {w0 : World} {l : List Dd} (h : ∀ d ∈ l, DdOk w0 d) : ∀ u ∈ ddCells l, u.oneCell' = true := by
  intro u hu
  simp only [ddCells, List.mem_flatMap] at hu
  obtain ⟨d, hd, hu⟩ := hu
  exact (h d hd).one u hu
abbrev DdReads (w : World) (v : Value) (l : List Dd) : Prop := Reads w 3 v l.length (ddCells l)
abbrev DdT (v : Value) (l : List Dd) : Thing := RowT 30 3 v l.length (ddCells l)
theorem ddT_app (v : Value) (l l' : List Dd) (m : Nat) (hm : m = l'.length) : RowT 30 3 v (l.length + m) (ddCells l ++ ddCells l') = DdT v (l ++ l') := by
  subst hm
  rw [← ddCells_append, ← List.length_append]
theorem ddT_app2 (v : Value) (l l' : List Dd) (n : Nat) (hn : n = l.length + l'.length) : RowT 30 3 v n (ddCells l ++ ddCells l') = DdT v (l ++ l') := by
  subst hn
  rw [← ddCells_append, ← List.length_append]
theorem Reads.room {w : World} {size n c : Nat} {a : Option Addr} {xs : List Value} (h : Reads w size (.slice a n c) n xs) : n ≤ c := by
  rcases h.shape with ⟨he, h0⟩ | ⟨_, c', he, h1, h2, _⟩
  · simp only [Value.slice.injEq] at he; omega
  · simp only [Value.slice.injEq, true_and] at he; omega
theorem Reads.dd {w : World} {b off n c : Nat} {l : List Dd} (h : Reads w 3 (.slice (some ⟨b, off, none⟩) n c) n (ddCells l)) (i : Nat) (hi : i < l.length) :
    w.cell? ⟨b, off + i * 3, none⟩ = some (.int .i64 l[i].kind) ∧ w.cell? ⟨b, off + i * 3 + 1, none⟩ = some (.int .i64 l[i].k) ∧ w.cell? ⟨b, off + i * 3 + 2, none⟩ = some l[i].v := by
  obtain ⟨h0, h1, h2⟩ := ddCells_at l i hi
  obtain ⟨b', off', c', he, _, _, _, hx⟩ := h.addr (by rw [ddCells_length]; omega)
  simp only [Value.slice.injEq, Option.some.injEq, Addr.mk.injEq, and_true, true_and] at he
  obtain ⟨⟨rfl, rfl⟩, rfl⟩ := he
  exact ⟨hx _ _ h0, by have := hx _ _ h1; rwa [← Nat.add_assoc] at this, by have := hx _ _ h2; rwa [← Nat.add_assoc] at this⟩

theorem Try.infoDd : (Try.prog.info? 30).map (fun i => (i.zero, i.size, i.bytes)) = some (some (.agg #[.int .i64 0, .int .i64 0, .slice none 0 0]), 3, 40) := by kernel_rfl
theorem cellsDd : Try.prog.cellsOf 30 = 3 := by kernel_rfl

theorem trod_dd {H : Type} {enc : TypeId × Value → H} {w : World} {base : Nat} {spare : Nat → Bool} {held : Bool} {n : Nat} {cs : List Value} {x : DataW H × List MemPlace}
    (h : DataW.trod enc Try.prog w base spare held n 30 cs = some x) : ∃ d : Dd, cs = d.cells ∧ DdOk w d := by
  obtain ⟨y0, y1, y2, m, _, hl, h0, h1, h2⟩ := trod_struct3 Try.underlying30 h
  rw [cellsDd] at hl
  match cs, hl with
  | [c0, c1, c2], _ =>
    have k1 : Try.prog.cellsOf 3 = 1 := by kernel_rfl
    have k2 : Try.prog.cellsOf 28 = 1 := by kernel_rfl
    obtain ⟨f, hf, _, wf⟩ := DataW.trod_int Try.underlying3 h0
    obtain ⟨t, ht, _, wt⟩ := DataW.trod_int Try.underlying3 h1
    obtain ⟨v, ps, hv, hr, _⟩ := trod_pks h2
    simp [k1, k2] at hf ht hv
    subst hf ht hv
    exact ⟨⟨f, t, c2, ps⟩, rfl, ⟨hr, wf, wt⟩⟩

theorem ddReads_of {w : World} {a : Addr} {c : Nat} {l : List Dd} (hc : l.length ≤ c) (hm : c ≤ maxLen) (hok : ∀ d ∈ l, DdOk w d)
    (h : ∀ i, (hi : i < l.length) → ∀ j u, l[i].cells[j]? = some u → w.cell? (a.add (i * 3 + j)) = some u) : DdReads w (.slice (some a) l.length c) l := by
  refine ⟨ddCells_length l, ddCells_one' hok, .inr ⟨a, c, rfl, hc, hm, fun j u hu => ?_⟩⟩
  have hj : j < (ddCells l).length := (List.getElem?_eq_some_iff.1 hu).1
  rw [ddCells_length] at hj
  have hi : j / 3 < l.length := by omega
  obtain ⟨e0, e1, e2⟩ := ddCells_at l (j / 3) hi
  have hr : j = j / 3 * 3 + j % 3 := by omega
  have hcase : j % 3 = 0 ∨ j % 3 = 1 ∨ j % 3 = 2 := by omega
  rw [hr] at hu ⊢
  generalize j / 3 = i at *
  rcases hcase with h3 | h3 | h3 <;> rw [h3] at hu ⊢
  · rw [Nat.add_zero, e0] at hu; exact h i hi 0 u (by simpa [Dd.cells] using hu)
  · rw [e1] at hu; exact h i hi 1 u (by simpa [Dd.cells] using hu)
  · rw [e2] at hu; exact h i hi 2 u (by simpa [Dd.cells] using hu)

theorem open_dds {H : Type} {enc : TypeId × Value → H} {W : World} {base : Nat} {v : Value} {d : DataW H} {ps : List MemPlace}
    (hv : Value.okWide Try.prog W .any base 22 v) (h : DataW.Trod enc Try.prog W 0 (fun _ => true) true 22 v d ps) : ∃ l : List Dd, DdReads W v l ∧ ∀ d ∈ l, DdOk W d := by
  obtain ⟨a, len, cap, rfl⟩ := okWide_slice Try.underlying22 hv
  obtain ⟨n, hn⟩ := h
  rcases open_slice Try.underlying22 hn with ⟨he, _⟩ | ⟨a', len', cap', m, n', D, Pl, he, _, hl, hm, hmm, _, hx⟩
  · simp [Value.cells] at he
    obtain ⟨rfl, rfl, rfl⟩ := he
    exact ⟨[], Reads.nil _ _, by simp⟩
  · simp [Value.cells] at he
    obtain ⟨rfl, rfl, rfl⟩ := he
    have hlm : len ≤ m := by rw [hmm]; split <;> omega
    have hp : ∀ i, i < len → ∃ p : Dd, W.cells? 0 (a'.add (i * 3)) 3 = some p.cells ∧ DdOk W p := by
      intro i hi
      obtain ⟨cs', h1, h2⟩ := hx i (by omega)
      rw [cellsDd] at h1
      obtain ⟨p, rfl, hw⟩ := trod_dd h2
      exact ⟨p, h1, hw⟩
    obtain ⟨g, hg⟩ := @choose_lt Dd ⟨⟨0, 0, .slice none 0 0, []⟩⟩ len _ hp
    refine ⟨(List.range len).map g, ?_, ?_⟩
    · have hlen : ((List.range len).map g).length = len := by simp
      have := ddReads_of (w := W) (a := a') (c := cap) (l := (List.range len).map g) (by omega) hm (fun p hp => by obtain ⟨i, hi, rfl⟩ := List.mem_map.1 hp; exact (hg i (by simpa using hi)).2) (fun i hi j u hu => by
        have hil : i < len := by simpa using hi
        obtain ⟨h1, _⟩ := hg i hil
        obtain ⟨_, h2, h3⟩ := World.cells?_some h1
        simp only [List.getElem_map, List.getElem_range] at hu
        have hj3 : j < 3 := by have := (List.getElem?_eq_some_iff.1 hu).1; omega
        have := h3 j hj3
        rwa [add_add, hu] at this)
      rwa [hlen] at this
    · intro p hp
      obtain ⟨i, hi, rfl⟩ := List.mem_map.1 hp
      exact (hg i (by simpa using hi)).2

/-- at most twenty of a deed's packets -/
def Dd.cut (d : Dd) : Dd := if 20 < d.ps.length then ⟨d.kind, d.k, (match d.v with | .slice a _ c => .slice a 20 c | v => v), d.ps.take 20⟩ else d
theorem Dd.cut_len (d : Dd) : d.cut.ps.length ≤ 20 := by
  unfold Dd.cut
  split
  · simp [List.length_take]; omega
  · omega
theorem Dd.cut_ok {w0 : World} {d : Dd} (h : DdOk w0 d) : DdOk w0 d.cut := by
  unfold Dd.cut
  split
  · rename_i h20
    obtain ⟨hr, hk, hn⟩ := h
    obtain ⟨a, c, hv⟩ := hr.slice
    rw [hv] at hr ⊢
    refine ⟨?_, hk, hn⟩
    have := hr.take (m := 20) (by omega)
    rw [pkCells_take] at this
    unfold PkReads
    rw [List.length_take, Nat.min_eq_left (by omega)]
    exact this
  · exact h
theorem ddCells_take (l : List Dd) (m : Nat) : (ddCells l).take (m * 3) = ddCells (l.take m) := by
  induction l generalizing m with
  | nil => simp [ddCells]
  | cons p l ih =>
    cases m with
    | zero => simp [ddCells]
    | succ m =>
      rw [ddCells_cons, List.take_succ_cons, ddCells_cons, ← ih m, show (m + 1) * 3 = m * 3 + 1 + 1 + 1 by omega]
      simp only [List.take_succ_cons]
theorem Dd.cut_no {d : Dd} (h : ¬ 20 < d.ps.length) : d.cut = d := by unfold Dd.cut; rw [if_neg h]
theorem Dd.cut_yes {kind k : Int} {a : Option Addr} {n c : Nat} {ps : List Pk} (h : 20 < ps.length) : (Dd.mk kind k (.slice a n c) ps).cut = ⟨kind, k, .slice a 20 c, ps.take 20⟩ := by unfold Dd.cut; rw [if_pos h]
theorem cut_next (l : List Dd) (k : Nat) (hk : k < l.length) : (l.take (k + 1)).map Dd.cut = (l.take k).map Dd.cut ++ [l[k].cut] := by
  rw [List.take_succ_eq_append_getElem hk, List.map_append]; rfl
theorem ddT_lit {w0 w : World} {L : List Thing} (h : Mem w0 w L) (kind k : Int) (v : Value) : Mem w0 (w.alloc (.cells #[.int .i64 kind, .int .i64 k, v] 30)) (L ++ [RowT 30 3 (.slice (some ⟨w.heap.size, 0, none⟩) 1 1) 1 [.int .i64 kind, .int .i64 k, v]]) :=
  lit_mem h 30 3 #[.int .i64 kind, .int .i64 k, v] 1 (by decide) rfl
theorem Reads.ddLit (w : World) (kind k : Int) (v : Value) (hv : v.oneCell' = true) : Reads (w.alloc (.cells #[.int .i64 kind, .int .i64 k, v] 30)) 3 (.slice (some ⟨w.heap.size, 0, none⟩) 1 1) 1 [.int .i64 kind, .int .i64 k, v] :=
  Reads.ofOwn (World.ownsRow_lit w #[.int .i64 kind, .int .i64 k, v] 1 (Nat.zero_le _) (by decide) rfl) (fun u hu => by simp at hu; rcases hu with rfl | rfl | rfl; rfl; rfl; exact hv)

/-- things made in a call whose own start was w -/
theorem Mem.join {w0 w w' : World} {L : List Thing} (h : Mem w0 w L) {A : Thing} (h' : Mem w w' [A]) : Mem w0 w' (L ++ [A]) := by
  obtain ⟨hk, hl, ⟨F, h1, h2, _⟩⟩ := h'
  exact h.push (hl A (by simp)) ⟨F 0, h1 0 A rfl, hk, fun k hf => .inr (h2 0 k (by simp) hf)⟩

set_option maxHeartbeats 2000000 in
theorem few_any {w0 w : World} {L : List Thing} (hm : Mem w0 w L) (v : Value) (l0 : List Dd) (hv0 : DdReads w v l0) (hok0 : ∀ d ∈ l0, DdOk w d) :
    Calls Try.prog 10 #[v] w fun e w' => ∃ v', e = .returned v' ∧ Mem w0 w' (L ++ [DdT v' ((l0.take 50).map Dd.cut)]) := by
  obtain ⟨a0, c0, rfl⟩ := hv0.slice
  obtain ⟨i0, hi, hz0, hz1, hz2⟩ := info_parts Try.infoDd
  have hlen : l0.length ≤ c0 ∧ c0 ≤ maxLen := by
    rcases hv0.shape with ⟨he, h0⟩ | ⟨_, c', he, h1, h2, _⟩
    · simp only [Value.slice.injEq] at he; obtain ⟨_, h3, h4⟩ := he; unfold maxLen; omega
    · simp only [Value.slice.injEq, true_and] at he; obtain ⟨_, rfl⟩ := he; exact ⟨h1, h2⟩
  obtain ⟨hlc, hcm⟩ := hlen
  unfold maxLen at hcm
  go_enter Try.func10, Try.ntmps10
  go_upto_if 8 with fail
  go_cut [0] (fun s0 w' => w = w' ∧ ∃ (a : Option Addr) (c : Nat) (l : List Dd), s0 = .slice a l.length c ∧ l = l0.take 50 ∧ l.length ≤ c ∧ c ≤ 9223372036854775807 ∧ DdReads w s0 l)
  case first =>
    by_cases h20 : (50 : Int) < (l0.length : Int)
    · have hr0 : (50 : Int) ≤ (c0 : Int) := by omega
      have hfin : Hid (∃ (a : Option Addr) (c : Nat) (l : List Dd), Value.slice a0 50 c0 = .slice a l.length c ∧ l = l0.take 50 ∧ l.length ≤ c ∧ c ≤ 9223372036854775807 ∧ DdReads w (.slice a0 50 c0) l) := by
        have hl : (l0.take 50).length = 50 := by rw [List.length_take]; omega
        refine ⟨a0, c0, l0.take 50, by rw [hl], rfl, by omega, hcm, ?_⟩
        have := hv0.take (m := 50) (by omega)
        rw [ddCells_take] at this
        unfold DdReads
        rw [hl]
        exact this
      have h21 : (51 : Int) ≤ (l0.length : Int) := by omega
      clear h20
      go_wp2
      go_meet
      case rel => exact ⟨rfl, hfin.out⟩
    · have hfin : Hid (∃ (a : Option Addr) (c : Nat) (l : List Dd), Value.slice a0 l0.length c0 = .slice a l.length c ∧ l = l0.take 50 ∧ l.length ≤ c ∧ c ≤ 9223372036854775807 ∧ DdReads w (.slice a0 l0.length c0) l) :=
        ⟨a0, c0, l0, rfl, (List.take_of_length_le (by omega)).symm, hlc, hcm, hv0⟩
      go_wp2
      go_meet
      case rel => exact ⟨rfl, hfin.out⟩
  case rest =>
    obtain ⟨rfl, a, c, l, rfl, hl, hlc', hcm', hv⟩ := hcut
    have hl50 : l.length ≤ 50 := by rw [hl, List.length_take]; omega
    have hok : ∀ d ∈ l, DdOk w d := fun d hd => hok0 d (by rw [hl] at hd; exact List.mem_of_mem_take hd)
    have HL := Lib.hid hl
    have Hl := Lib.hid hl50
    have hl50' : (l.length : Int) ≤ 50 := by omega
    clear hl hlc hcm hv0 hok0 hl50
    have hmR := hm.keeps
    have hm0 : Mem w w [DdT (.slice none 0 0) []] := (Mem.start w).push (rowT_lies _ _ _ _ _) ⟨Of (.slice none 0 0), ⟨World.ownsRow_nil _ _ _ _, rfl⟩, Keeps.refl w, fun k hk => by cases hk⟩
    go_wp2
    go_loopw [3, 4] (fun ov i wr => ∃ k : Nat, k ≤ l.length ∧ i = .int .i64 k ∧ Mem w wr [DdT ov ((l.take k).map Dd.cut)]) (fun _ i _ => l.length - (intOf i).toNat)
    case atStart => exact ⟨0, by omega, rfl, hm0⟩
    case round =>
      obtain ⟨k, hk, rfl, hmr⟩ := hrel
      have hv' := hv.kept hmr.keeps (fun _ _ h => h)
      by_cases hlt : k < l.length
      · obtain ⟨b', off, d, he, _, _, hbl, _⟩ := hv'.addr (by rw [ddCells_length]; omega)
        simp only [Value.slice.injEq, true_and] at he
        obtain ⟨rfl, rfl⟩ := he
        obtain ⟨g0, g1, g2⟩ := hv'.dd k hlt
        obtain ⟨pa, pc, hpv⟩ := (hok _ (List.getElem_mem hlt)).reads.slice
        have hn := cut_next l k hlt
        obtain ⟨T, hT⟩ : ∃ T, T = (l.take k).map Dd.cut := ⟨_, rfl⟩
        have hTk : T.length = k := by rw [hT, List.length_map, List.length_take]; omega
        rw [← hT] at hmr hn
        have Hn := Lib.hid hn
        clear hn hT
        by_cases h20 : 20 < l[k].ps.length
        · have h20i : (21 : Int) ≤ (l[k].ps.length : Int) := by omega
          have hpr := (hok _ (List.getElem_mem hlt)).reads
          rw [hpv] at hpr
          have h20c : (20 : Int) ≤ (pc : Int) := by have := Reads.room hpr; omega
          clear hpr
          have hcut : l[k].cut.cells = [.int .i64 l[k].kind, .int .i64 l[k].k, .slice pa 20 pc] := by
            unfold Dd.cut; rw [if_pos h20, hpv]; rfl
          have hlit := Reads.ddLit (wr.alloc (.cells #[.int .i64 l[k].kind, .int .i64 l[k].k, .slice pa 20 pc] 30)) l[k].kind l[k].k (.slice pa 20 pc) rfl
          rw [World.size_alloc] at hlit
          have hm4 := mem_lit (mem_lit hmr (.cells #[.int .i64 l[k].kind, .int .i64 l[k].k, .slice pa 20 pc] 30)) (.cells #[.int .i64 l[k].kind, .int .i64 l[k].k, .slice pa 20 pc] 30)
          go_wp2_with (at_builtin; refine wpList_append_mem rfl (.tmp 29) (.tmp 31) 22 rfl 30 i0 _ 3 40 Try.underlying22 hi hz0 hz1 hz2 rfl (by decide) hm4 0 _ T.length (ddCells T) rfl rfl _ _ _ rfl hlit ?c1 ?c2 ?c4)
          case c1 => unfold maxLen; omega
          case c2 => have := Hl.out; omega
          case c4 =>
            intro sv w5 hm5 _ hk5
            have hm6 : Mem w w5 [DdT sv ((l.take (k + 1)).map Dd.cut)] := by
              have := hm5.out
              rw [← hcut, ← ddCells_one, ddT_app2 _ _ [l[k].cut] (k + 1) (by simp [hTk]), ← Hn.out] at this
              exact this
            clear hm5 hm4 hk5
            go_wp2
            go_roundw
            case rel => exact ⟨k + 1, by omega, by go_num, hm6⟩
            case measure => simp [intOf]; omega
        · have h20i : (l[k].ps.length : Int) ≤ 20 := by omega
          have hcut : l[k].cut.cells = [.int .i64 l[k].kind, .int .i64 l[k].k, .slice pa l[k].ps.length pc] := by
            unfold Dd.cut; rw [if_neg h20, Dd.cells, hpv]
          have hlit := Reads.ddLit (wr.alloc (.cells #[.int .i64 l[k].kind, .int .i64 l[k].k, .slice pa l[k].ps.length pc] 30)) l[k].kind l[k].k (.slice pa l[k].ps.length pc) rfl
          rw [World.size_alloc] at hlit
          have hm4 := mem_lit (mem_lit hmr (.cells #[.int .i64 l[k].kind, .int .i64 l[k].k, .slice pa l[k].ps.length pc] 30)) (.cells #[.int .i64 l[k].kind, .int .i64 l[k].k, .slice pa l[k].ps.length pc] 30)
          go_wp2_with (at_builtin; refine wpList_append_mem rfl (.tmp 29) (.tmp 31) 22 rfl 30 i0 _ 3 40 Try.underlying22 hi hz0 hz1 hz2 rfl (by decide) hm4 0 _ T.length (ddCells T) rfl rfl _ _ _ rfl hlit ?c1 ?c2 ?c4)
          case c1 => unfold maxLen; omega
          case c2 => have := Hl.out; omega
          case c4 =>
            intro sv w5 hm5 _ hk5
            have hm6 : Mem w w5 [DdT sv ((l.take (k + 1)).map Dd.cut)] := by
              have := hm5.out
              rw [← hcut, ← ddCells_one, ddT_app2 _ _ [l[k].cut] (k + 1) (by simp [hTk]), ← Hn.out] at this
              exact this
            clear hm5 hm4 hk5
            go_wp2
            go_roundw
            case rel => exact ⟨k + 1, by omega, by go_num, hm6⟩
            case measure => simp [intOf]; omega
      · obtain rfl : k = l.length := by omega
        go_wp2
        go_ret
        refine ⟨_, rfl, ?_⟩
        rw [List.take_length] at hmr
        rw [← HL.out]
        exact hm.join hmr
end Go.Proofs.Ytneikamjlbfglaa
