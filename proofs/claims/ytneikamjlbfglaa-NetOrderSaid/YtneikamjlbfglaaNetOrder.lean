/-
  Whatever the packets: NetOrder returns true, and its argument reads behind the call as it read before. No conditions.
-/
import Derived.Test.YtneikamjlbfglaaNetM
namespace Go.Proofs.Ytneikamjlbfglaa.netOrder
open Go.ChangeShapes Go.WideShapes Go.ChangeAt Go.RowKit

def okB (p : Pk) : Bool := !wrongB 17 p
def sieve (l : List Pk) (k : Nat) : List Pk := (l.take k).filter okB
theorem sieve_le (l : List Pk) (k : Nat) : (sieve l k).length ≤ k := by
  unfold sieve
  exact Nat.le_trans (List.length_filter_le _ _) (by rw [List.length_take]; omega)
theorem sieve_yes (l : List Pk) (k : Nat) (hk : k < l.length) (h : wrongB 17 l[k] = false) : sieve l (k + 1) = sieve l k ++ [l[k]] := by
  unfold sieve
  have e : okB l[k] = true := by unfold okB; rw [h]; rfl
  rw [List.take_succ_eq_append_getElem hk, List.filter_append, List.filter_cons_of_pos e, List.filter_nil]
theorem sieve_no (l : List Pk) (k : Nat) (hk : k < l.length) (h : wrongB 17 l[k] = true) : sieve l (k + 1) = sieve l k := by
  unfold sieve
  have e : ¬ okB l[k] = true := by unfold okB; rw [h]; simp
  rw [List.take_succ_eq_append_getElem hk, List.filter_append, List.filter_cons_of_neg e, List.filter_nil, List.append_nil]
theorem any_one (p : Pk) (x : Bool) (h : wrongB 17 p = x) : [p].any (wrongB 17) = x := by
  rw [List.any_cons, List.any_nil, h, Bool.or_false]

set_option maxRecDepth 100000 in
set_option maxHeartbeats 2000000 in
theorem walk (v : Value) (l : List Pk) (w : World) (hv : PkReads w v l) : Calls Try.prog 4 #[v] w fun e w' => e = .returned (.bool true) ∧ Keeps No w w' := by
  obtain ⟨a, c, rfl⟩ := hv.slice
  obtain ⟨i0, hi, hz0, hz1, hz2⟩ := info_parts Try.infoPk
  have hlen : l.length ≤ maxLen := by
    rcases hv.shape with ⟨_, h0⟩ | ⟨_, c', he, h1, h2, _⟩
    · simp [h0]
    · omega
  unfold maxLen at hlen
  go_enter Try.func4, Try.ntmps4
  go_wp2_with fail
  refine (new_m (w0 := w) 17 (by omega) (by omega) (Mem.start w)).mono ?_
  rintro e w1 ⟨b, rfl, hm1⟩
  have hm : Mem w w1 [NetT b 17 [], PkT (.slice none 0 0) []] := hm1.push (rowT_lies _ _ _ _ _) (pkT_nil _)
  clear hm1
  go_wp2_with fail
  go_loopw [5, 7] (fun sv i wr => ∃ k : Nat, k ≤ l.length ∧ k ≤ 200 ∧ i = .int .i64 k ∧ Mem w wr [NetT b 17 (sieve l k), PkT sv (sieve l k)]) (fun _ i _ => l.length - (intOf i).toNat)
  case atStart => exact ⟨0, by omega, by omega, rfl, hm⟩
  case round =>
    obtain ⟨k, hk, hk2, rfl, hmr⟩ := hrel
    have hsl := sieve_le l k
    by_cases hgo : k < l.length ∧ (k : Int) < 200
    · obtain ⟨hlt, h200⟩ := hgo
      · have hv' := hv.kept hmr.keeps (fun _ _ h => h)
        obtain ⟨b', off, d, he, _, _, hbl, _⟩ := hv'.addr (by rw [pkCells_length]; omega)
        simp only [Value.slice.injEq, true_and] at he
        obtain ⟨rfl, rfl⟩ := he
        obtain ⟨g0, g1, g2⟩ := hv'.pk k hlt
        have hlit := Reads.lit wr l[k]
        have hmr' := hmr.later ((Keeps.refl (S := No) wr).alloc (.cells #[.int .i64 l[k].f, .int .i64 l[k].t, .string l[k].s] 34))
        cases hw : wrongB 17 l[k]
        · go_wp2_with fail
          have hcall := send_m hmr' 0 rfl (by omega) _ [l[k]] hlit (any_one _ _ hw)
          refine hcall.mono ?_
          rintro e w2 ⟨rfl, hm2, _⟩
          have e1 : List.take (4096 - (sieve l k).length) [l[k]] = [l[k]] := List.take_of_length_le (by simp; omega)
          rw [e1, ← sieve_yes l k hlt hw] at hm2
          clear e1
          have hv2 := hv.kept hm2.keeps (fun _ _ h => h)
          obtain ⟨q0, q1, q2⟩ := hv2.pk k hlt
          have hlit2 := Reads.lit w2 l[k]
          have hm3 : Mem w w2 [NetT b 17 (sieve l (k + 1)), PkT u5 (sieve l k)] := hm2
          have hm4 := mem_lit hm3 (.cells #[.int .i64 l[k].f, .int .i64 l[k].t, .string l[k].s] 34)
          have hE := Lib.hid (sieve_yes l k hlt hw)
          clear hm3 hm2
          go_wp2_with (at_builtin; refine wpList_append_mem rfl (.tmp 40) (.tmp 45) 28 rfl 34 i0 _ 3 32 Try.underlying28 hi hz0 hz1 hz2 rfl (by decide) hm4 1 _ (sieve l k).length (pkCells (sieve l k)) rfl rfl _ _ _ rfl hlit2 ?c1 ?c2 ?c4)
          case c1 => unfold maxLen; omega
          case c2 => omega
          case c4 =>
            intro sv w5 hm5 _ _
            have hm6 : Mem w w5 [NetT b 17 (sieve l (k + 1)), PkT sv (sieve l (k + 1))] := by
              have := hm5.out
              rw [pkT_app _ _ [l[k]] 1 rfl, ← hE.out] at this
              exact this
            clear hm5 hm4
            go_wp2
            go_roundw
            case rel => exact ⟨k + 1, by omega, by omega, by go_num, hm6⟩
            case measure => simp [intOf]; omega
        · have hE := Lib.hid (sieve_no l k hlt hw)
          go_wp2_with fail
          refine (send_m_no hmr' 0 rfl _ [l[k]] hlit (any_one _ _ hw)).mono ?_
          rintro e w2 ⟨rfl, hm2, _⟩
          have hm3 : Mem w w2 [NetT b 17 (sieve l (k + 1)), PkT u5 (sieve l (k + 1))] := by rw [hE.out]; exact hm2
          clear hm2
          go_wp2
          go_roundw
          case rel => exact ⟨k + 1, by omega, by omega, by go_num, hm3⟩
          case measure => simp [intOf]; omega
    · obtain ⟨S, hmS, hS⟩ : ∃ S, Mem w wr [NetT b 17 S, PkT u5 S] ∧ S.length ≤ 200 := ⟨_, hmr, by omega⟩
      clear hmr hsl
      have hm0 : Mem w wr [NetT b 17 S, PkT u5 S, PkT (.slice none 0 0) []] := hmS.push (rowT_lies _ _ _ _ _) (pkT_nil _)
      obtain ⟨sa, sc, rfl⟩ : ∃ sa sc, u5 = .slice sa S.length sc := by
        obtain ⟨F, ⟨h, _⟩⟩ := hmS.see 1 rfl
        exact ownsRow_slice h
      by_cases hlt : k < l.length
      all_goals
        first | (have h200 : decide ((k : Int) < 200) = false := decide_eq_false (by omega)) | skip
        clear hgo hk2
        go_wp2
        go_loopw [6] (fun tv wq => ∃ T R : List Pk, S = T ++ R ∧ Mem w wq [NetT b 17 R, PkT (.slice sa S.length sc) S, PkT tv T]) (fun tv _ => match tv with | .slice _ n _ => S.length - n | _ => 0)
        case atStart => exact ⟨[], S, rfl, hm0⟩
        case round =>
          obtain ⟨T, R, hTR, hmq⟩ := hrel
          obtain ⟨ta, tc, rfl⟩ : ∃ ta tc, u6 = .slice ta T.length tc := by
            obtain ⟨F, ⟨h, _⟩⟩ := hmq.see 2 rfl
            exact ownsRow_slice h
          have hS4 : Hid (S.length ≤ 200) := hS
          have hl : Hid (S.length = T.length + R.length) := by show _ = _; rw [hTR, List.length_append]
          have HTR := Lib.hid hTR; clear hTR
          cases R with
          | cons p R =>
            have hlT : T.length + 1 ≤ 200 := by have := hl.out; simp at this; omega
            have HlT := Lib.hid hlT
            have hg1 : decide ((0 : Int) < ((p :: R).length : Int)) = true := decide_eq_true (by simp only [List.length_cons]; omega)
            have hg2 : (T.length : Int) ≤ 200 := by omega
            have hta := Lib.hid (take_first (hm := hmq) 0 p R rfl (by have := hl.out; simp at this; omega))
            clear hS hlT
            go_wp2_with fail
            refine (len_m hmq 0 rfl).mono ?_
            rintro e w2 ⟨rfl, rfl⟩
            go_wp2_with fail
            refine hta.out.mono ?_
            rintro e w2 ⟨rfl, hm2⟩
            have hm3 : Mem w w2 [NetT b 17 R, PkT (.slice sa S.length sc) S, PkT (.slice ta T.length tc) T] := hm2
            clear hm2 hta
            have hlit3 := (Reads.lit (w2.alloc (.cells #[.int .i64 p.f, .int .i64 p.t, .string p.s] 34)) p)
            rw [World.size_alloc] at hlit3
            have hm4 := mem_lit (mem_lit hm3 (.cells #[.int .i64 p.f, .int .i64 p.t, .string p.s] 34)) (.cells #[.int .i64 p.f, .int .i64 p.t, .string p.s] 34)
            go_wp2_with (at_builtin; refine wpList_append_mem rfl (.tmp 62) (.tmp 64) 28 rfl 34 i0 _ 3 32 Try.underlying28 hi hz0 hz1 hz2 rfl (by decide) hm4 2 _ T.length (pkCells T) rfl rfl _ _ _ rfl hlit3 ?c1 ?c2 ?c4)
            case c1 => have := HlT.out; unfold maxLen; omega
            case c2 => have := HlT.out; omega
            case c4 =>
              intro sv w5 hm5 _ _
              have hm6 : Mem w w5 [NetT b 17 R, PkT (.slice sa S.length sc) S, PkT sv (T ++ [p])] := by
                have := hm5.out
                rw [pkT_app _ _ [p] 1 rfl] at this
                exact this
              clear hm5 hm4
              obtain ⟨ta', tc', rfl⟩ : ∃ ta' tc', sv = .slice ta' (T.length + 1) tc' := by
                obtain ⟨F, ⟨h, _⟩⟩ := hm6.see 2 rfl
                have := ownsRow_slice h
                rwa [List.length_append] at this
              go_wp2
              go_roundw
              case rel => exact ⟨T ++ [p], R, by rw [HTR.out]; simp, hm6⟩
              case measure =>
                have := hl.out
                simp at this ⊢
                omega
          | nil =>
            have hST : S = T := by rw [HTR.out, List.append_nil]
            subst hST
            clear hS
            go_wp2_with fail
            refine (len_m hmq 0 rfl).mono ?_
            rintro e w2 ⟨rfl, rfl⟩
            go_wp2_with fail
            obtain ⟨F, hF⟩ := hmq.see 1 rfl
            obtain ⟨G, hG⟩ := hmq.see 2 rfl
            refine (same_yes wr _ _ S (pkT_reads hF) (pkT_reads hG)).mono ?_
            rintro e w2 ⟨rfl, hk2⟩
            go_wp2_with fail
            refine (awake_any _).mono ?_
            rintro e w3 ⟨rfl, hk3⟩
            have hfin : Hid (Keeps No w w3) := (hmq.keeps.trans hk2 (fun _ _ h => h)).trans hk3 (fun _ _ h => h)
            go_wp2
            go_ret
            exact ⟨rfl, hfin.out⟩

set_option maxRecDepth 100000 in
theorem lifted (os : Os) (started : os.Started) (H : Type) (enc : TypeId × Value → H) :
    ReturnsInHanded {} Try.checked os 4 .any (Rows.netOrderSpec.pre6 enc Try.prog Try.f4 Rows.netOrderRow.domain false) (Rows.netOrderSpec.post enc Try.prog Try.f4 false true false false) := by
  refine law_lifted os started H enc (by kernel_rfl) Try.func4
    (ChangeSpec.witness6 (enc := enc) (C := Try.checked) false ⟨#[], #[.slice none 0 0], []⟩ 8 (by kernel_rfl) (by kernel_rfl) (by kernel_rfl) (by kernel_rfl))
    (by decide +kernel) rfl Try.underlying4 rfl (fun ds h => by match ds, h with | [d1], _ => rfl) ?_
  intro W base args ds p hval hA
  rw [Try.params4] at hA hval
  obtain ⟨v0, d0, rfl, rfl, h0⟩ := trodAll_one hA
  obtain ⟨l, hl, _⟩ := open_pks (hval 0 28 v0 rfl rfl) h0
  exact walk v0 l W hl

theorem holds : Rows.NetOrderSaid :=
  OpenClaim.holds_of_wide 4 Try.f4 rfl rfl rfl rfl rfl rfl rfl ⟨rfl, rfl, rfl, rfl, rfl⟩ rfl rfl rfl rfl rfl (by kernel_rfl) Try.func4 (by kernel_rfl)
    (of_decide_eq_true (by kernel_rfl)) (by unfold Func.isWrapper; first | (rw [if_pos (by decide +kernel)]; kernel_rfl) | (rw [if_neg (by decide +kernel)]; exact ⟨rfl, rfl⟩))
    (fun os started H enc _ => lifted os started H enc)
end Go.Proofs.Ytneikamjlbfglaa.netOrder
