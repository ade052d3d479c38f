/-
  The document's disk (hedgerowref06): how it lies, at, open, down. No conditions of its own.
-/
import Derived.Test.YtdckdndjddflfaaDkO
import Derived.Test.YtdckdndjddflfaaDkC
namespace Go.Proofs.Ytdckdndjddflfaa
open Go.RowKit

/-- a file of the document's -/
structure Rf where
  name : ByteArray
  sure : ByteArray
  loose : ByteArray
def rfC (r : Rf) : List Value := [.string r.name, .string r.sure, .string r.loose]
def cRf : Codec Rf := ⟨rfC, 3, fun _ => rfl, fun a u h => by simp [rfC] at h; rcases h with rfl | rfl | rfl <;> rfl, by decide⟩

/-- THE DOCUMENT'S DISK AT q, ITS FILES IN v. -/
structure RefAt (w : World) (q base : Nat) (v : Value) (L : List Rf) (is : Bool) (room : Int) (dead : Bool) : Prop where
  cells : w.heap[q]? = some (.cells #[v, .bool is, .int .i64 room, .bool dead] 51 (0, 0))
  own : OwnOf cRf 75 w base v L
  ne : ∀ i, v.ownBlock = some i → i ≠ q
  few : L.length ≤ 64
  low : base ≤ w.heap.size
theorem RefAt.kept {S : Nat → Prop} {w w' : World} {q base : Nat} {v : Value} {L : List Rf} {is : Bool} {room : Int} {dead : Bool} (h : RefAt w q base v L is room dead) (k : Keeps S w w') (hq : ¬ S q) (hv : ∀ i, v.ownBlock = some i → ¬ S i) : RefAt w' q base v L is room dead :=
  ⟨k.heap h.cells hq, k.owns h.own hv, h.ne, h.few, Nat.le_trans h.low k.size⟩

def isRf (n : ByteArray) (r : Rf) : Bool := r.name.toList == n.toList
/-- what at finds: the place, and the error -/
def atE (L : List Rf) (n : ByteArray) : Int × Int :=
  bif decide ((n.size : Int) < 1) then (0, 1) else bif decide ((32 : Int) < (n.size : Int)) then (0, 1) else
    bif firstOf (isRf n) L == -1 then (0, 6) else (firstOf (isRf n) L, 0)

section
variable {w : World} {q base : Nat} {v : Value} {L : List Rf} {is : Bool} {room : Int} {dead : Bool}
set_option maxRecDepth 100000 in
set_option maxHeartbeats 1000000 in
theorem at_any (h : RefAt w q base v L is room dead) (n : ByteArray) (i ec : Int) (hE : atE L n = (i, ec)) : Calls Try.prog 42 #[dP q, .string n] w fun e w' => e = .returned (.tuple #[.int .i64 i, .int .i64 ec]) ∧ w' = w := by
  obtain ⟨va, vc, rfl⟩ := ownsRow_slice h.own
  have c0 : w.cell? ⟨q, 0, none⟩ = some (.slice va L.length vc) := by simp [World.cell?, h.cells]
  have hr : RdOf cRf w (.slice va L.length vc) L := h.own.reads
  have hf := h.few
  clear h
  unfold atE at hE
  cases h1 : decide ((n.size : Int) < 1)
  · cases h2 : decide ((32 : Int) < (n.size : Int))
    · rw [h1, h2, cond_false, cond_false] at hE
      have HE := Lib.hid hE
      clear hE
      go_enter Try.func42, Try.ntmps42
      go_wp2
      go_loopw [6] (fun x wr => ∃ k : Nat, k ≤ L.length ∧ x = .int .i64 k ∧ (∀ j, (h : j < k) → (h2 : j < L.length) → isRf n L[j] = false) ∧ wr = w) (fun x _ => L.length - (intOf x).toNat)
      case atStart => exact ⟨0, Nat.zero_le _, rfl, fun j h => absurd h (Nat.not_lt_zero _), rfl⟩
      case round =>
        obtain ⟨k, hk, rfl, hno, rfl⟩ := hrel
        have Hno := Lib.hid hno
        clear hno
        by_cases hlt : k < L.length
        · have hki : (k : Int) < (L.length : Int) := by omega
          have hk0 : (0 : Int) ≤ (k : Int) := by omega
          have hk64 : (k : Int) ≤ 64 := by omega
          obtain ⟨g, off, rfl, _, _, _⟩ := RdOf.addr cRf hr (by omega)
          have c3 : cellsAt wr g (off + k * 3) 3 = some (rfC L[k]) := RdOf.at cRf hr k hlt
          have d0 : wr.cell? ⟨g, off + k * 3, none⟩ = some (.string L[k].name) := cellsAt_cell c3 0 _ rfl
          cases hp : isRf n L[k]
          · have hp' : (L[k].name.toList == n.toList) = false := hp
            obtain ⟨nk, hnk⟩ : ∃ nk, nk = L[k].name := ⟨_, rfl⟩
            rw [← hnk] at d0 hp'
            have Hn2 : Hid (∀ j, (h : j < k + 1) → (h2 : j < L.length) → isRf n L[j] = false) := Lib.hid (fun j h h2 => by
              by_cases hj : j < k
              · exact Hno.out j hj h2
              · obtain rfl : j = k := by omega
                exact hp)
            clear hnk hk hp c3
            go_wp2
            go_roundw
            case rel => exact ⟨k + 1, by omega, by go_num, Hn2.out, trivial⟩
            case measure => simp [intOf]; omega
          · have hp' : (L[k].name.toList == n.toList) = true := hp
            obtain ⟨nk, hnk⟩ : ∃ nk, nk = L[k].name := ⟨_, rfl⟩
            rw [← hnk] at d0 hp'
            have hfo : firstOf (isRf n) L = k := by
              rcases firstOf_cases (isRf n) L with ⟨_, hall⟩ | ⟨k2, hk2, hk2l, hp2, hb2⟩
              · rw [hall _ (List.getElem_mem hlt)] at hp
                cases hp
              · rw [hk2]
                by_cases hc : k2 < k
                · rw [Hno.out k2 hc hk2l] at hp2
                  cases hp2
                · by_cases hc2 : k < k2
                  · rw [hb2 k hc2 hlt] at hp
                    cases hp
                  · congr 1
                    omega
            have hval : i = (k : Int) ∧ ec = 0 := by
              have h3 := HE.out
              rw [hfo, show ((k : Int) == -1) = false from beq_false_of_ne (by omega), cond_false] at h3
              simp only [Prod.mk.injEq] at h3
              exact ⟨h3.1.symm, h3.2.symm⟩
            obtain ⟨rfl, rfl⟩ := hval
            clear hnk hp hfo HE hk c3
            go_wp2
            refine bodyPost_ret (v := .tuple #[.int .i64 k, .int .i64 0]) ?_ rfl ⟨rfl, rfl⟩
            simp [results, Try.results42, go_sem, *]
        · have hki : ¬ (k : Int) < (L.length : Int) := by omega
          have hfo : firstOf (isRf n) L = -1 := by
            rcases firstOf_cases (isRf n) L with ⟨h0, _⟩ | ⟨k2, _, hk2l, hp2, _⟩
            · exact h0
            · rw [Hno.out k2 (by omega) hk2l] at hp2
              cases hp2
          have hval : i = 0 ∧ ec = 6 := by
            have h3 := HE.out
            rw [hfo] at h3
            have h4 : ((0 : Int), (6 : Int)) = (i, ec) := h3
            simp only [Prod.mk.injEq] at h4
            exact ⟨h4.1.symm, h4.2.symm⟩
          obtain ⟨rfl, rfl⟩ := hval
          clear hfo HE hk hlt
          go_wp2
          refine bodyPost_ret (v := .tuple #[.int .i64 0, .int .i64 6]) ?_ rfl ⟨rfl, rfl⟩
          simp [results, Try.results42, go_sem, *]
    · rw [h1, h2, cond_false, cond_true] at hE
      simp only [Prod.mk.injEq] at hE
      obtain ⟨rfl, rfl⟩ := hE
      go_enter Try.func42, Try.ntmps42
      go_wp2
      refine bodyPost_ret (v := .tuple #[.int .i64 0, .int .i64 1]) ?_ rfl ⟨rfl, rfl⟩
      simp [results, Try.results42, go_sem, *]
  · rw [h1, cond_true] at hE
    simp only [Prod.mk.injEq] at hE
    obtain ⟨rfl, rfl⟩ := hE
    go_enter Try.func42, Try.ntmps42
    go_wp2
    refine bodyPost_ret (v := .tuple #[.int .i64 0, .int .i64 1]) ?_ rfl ⟨rfl, rfl⟩
    simp [results, Try.results42, go_sem, *]
end
end Go.Proofs.Ytdckdndjddflfaa
