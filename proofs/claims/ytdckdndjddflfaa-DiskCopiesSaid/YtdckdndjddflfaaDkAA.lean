/-
  The disk beside the document's: each deed turns both alike. No conditions of its own.
-/
import Derived.Test.YtdckdndjddflfaaDkZ
import Derived.Test.YtdckdndjddflfaaDkX
namespace Go.Proofs.Ytdckdndjddflfaa
open Go.RowKit Go.WideShapes

/-- how much room is left: not cut, more than can be laid; cut, the same in both -/
def RoomBoth (is : Bool) (room rr : Int) (cnt : Nat) : Prop := (is = false ∧ 4611686018427387904 - 5000 * (cnt : Int) ≤ room) ∨ (is = true ∧ rr = room)
/-- no name is empty -/
def NmB (L : List Rf) : Prop := ∀ r ∈ L, 1 ≤ r.name.size
theorem NmB.put {A B : List Rf} {r x : Rf} (h : NmB (A ++ r :: B)) (hx : 1 ≤ x.name.size) : NmB (A ++ x :: B) := by
  intro y hy
  simp only [List.mem_append, List.mem_cons] at hy
  rcases hy with hy | rfl | hy
  · exact h y (by simp [hy])
  · exact hx
  · exact h y (by simp [hy])
theorem NmB.del {A B : List Rf} {r : Rf} (h : NmB (A ++ r :: B)) : NmB (A ++ B) := by
  intro y hy
  simp only [List.mem_append] at hy
  exact h y (by simp only [List.mem_append, List.mem_cons]; rcases hy with hy | hy; exact .inl hy; exact .inr (.inr hy))
theorem NmB.ins {A B : List Rf} {x : Rf} (h : NmB (A ++ B)) (hx : 1 ≤ x.name.size) : NmB (A ++ x :: B) := by
  intro y hy
  simp only [List.mem_append, List.mem_cons] at hy
  rcases hy with hy | rfl | hy
  · exact h y (by simp [hy])
  · exact hx
  · exact h y (by simp [hy])
/-- BOTH DISKS, alike -/
structure Bo (w : World) (p b q base : Nat) (v : Value) (L : List Rf) (is : Bool) (room rr : Int) (dead : Bool) (cnt : Nat) : Prop where
  d : DiskAt w p b (fsOf L) room dead
  r : RefAt w q base v L is rr dead
  hp : p < base
  hb : b < base
  pq : p ≠ q
  bq : b ≠ q
  room : RoomBoth is room rr cnt
  nm : NmB L

theorem RoomBoth.up {is : Bool} {room rr : Int} {cnt : Nat} (h : RoomBoth is room rr cnt) : RoomBoth is room rr (cnt + 1) := by
  rcases h with ⟨h1, h2⟩ | h
  · exact .inl ⟨h1, by omega⟩
  · exact .inr h
theorem fit_of {f : Fi} {r : Rf} (hf : fiOf r = f) (h : FileOk f) : FitsR r := by
  subst hf
  have h1 := h.1
  unfold FitsR
  have h2 : (fiOf r).s = r.sure ++ r.loose := rfl
  rw [h2, ByteArray.size_append] at h1
  exact h1
theorem Bo.fits {w : World} {p b q base : Nat} {v : Value} {L : List Rf} {is : Bool} {room rr : Int} {dead : Bool} {cnt : Nat} (h : Bo w p b q base v L is room rr dead cnt) {r : Rf} (hr : r ∈ L) : FitsR r :=
  fit_of rfl (h.d.ok (nfOf r) (List.mem_map_of_mem hr))

/-- A DEED'S PAIR OF CALLS: the same answer, and both are alike behind them -/
def Pair (w : World) (p b q base : Nat) (v : Value) (L : List Rf) (is : Bool) (rr : Int) (dead : Bool) (cnt : Nat) (fd fr : FuncId) (ad ar : Array Value) : Prop :=
  ∃ (ec : Int) (L' : List Rf) (room' rr' : Int) (dead' : Bool), RoomBoth is room' rr' (cnt + 1) ∧ NmB L' ∧
    (Calls Try.prog fd ad w fun e w1 => e = .returned (.int .i64 ec) ∧ DiskAt w1 p b (fsOf L') room' dead' ∧ Keeps (Two p b) w w1) ∧
    ∀ w1, RefAt w1 q base v L is rr dead → Calls Try.prog fr ar w1 fun e w2 => e = .returned (.int .i64 ec) ∧ ∃ v', RefAt w2 q base v' L' is rr' dead' ∧ Keeps (QS q v) w1 w2

section
variable {w : World} {p b q base : Nat} {v : Value} {L : List Rf} {is : Bool} {room rr : Int} {dead : Bool} {cnt : Nat}

/-- nothing is changed -/
theorem Bo.same (h : Bo w p b q base v L is room rr dead cnt) (ec : Int) {fd fr : FuncId} {ad ar : Array Value} (h1 : Calls Try.prog fd ad w fun e w1 => e = .returned (.int .i64 ec) ∧ Keeps No w w1)
    (h2 : ∀ w1, RefAt w1 q base v L is rr dead → Calls Try.prog fr ar w1 fun e w2 => e = .returned (.int .i64 ec) ∧ Keeps No w1 w2) : Pair w p b q base v L is rr dead cnt fd fr ad ar :=
  ⟨ec, L, room, rr, dead, h.room.up, h.nm, h1.mono (fun _ _ ⟨he, hk⟩ => ⟨he, h.d.kept hk (fun h => h) (fun h => h), hk.mono (fun _ _ h => h.elim)⟩),
    fun w1 hr => (h2 w1 hr).mono (fun _ _ ⟨he, hk⟩ => ⟨he, v, hr.kept hk (fun h => h) (fun _ _ h => h), hk.mono (fun _ _ h => h.elim)⟩)⟩
theorem own_to_two {w w' : World} (h : Keeps (Own b) w w') : Keeps (Two p b) w w' := h.mono (fun _ _ h => .inr h)
theorem own_to_qs {w w' : World} (h : Keeps (Own q) w w') : Keeps (QS q v) w w' := h.mono (fun _ _ h => .inl h)
theorem calls_same {f : FuncId} {a : Array Value} {w : World} {v : Value} (h : Calls Try.prog f a w fun e w' => e = .returned v ∧ w' = w) : Calls Try.prog f a w fun e w' => e = .returned v ∧ Keeps No w w' :=
  h.mono (by rintro e w' ⟨h1, rfl⟩; exact ⟨h1, Keeps.refl _⟩)

theorem sync_pair (h : Bo w p b q base v L is room rr dead cnt) (n : ByteArray) : Pair w p b q base v L is rr dead cnt 15 36 #[dP p, .string n] #[dP q, .string n] := by
  rcases both_open L dead n with ⟨ec, h1, h2, hec⟩ | ⟨rfl, h1, h2, _⟩ | ⟨A, r, B, rfl, hL, hn, h1, h2, hg, hn1, hn2⟩
  · have he : (ec == 0) = false := by rcases hec with rfl | rfl <;> rfl
    exact h.same ec (sync_err h.d n _ _ h1 he) (fun w1 hr => calls_same (rsync_err hr n _ h2 he))
  · exact h.same 6 (sync_err h.d n _ _ h1 rfl) (fun w1 hr => calls_same (rsync_err hr n _ h2 rfl))
  · have hf : FitsR r := h.fits (by rw [hL]; simp)
    refine ⟨0, A ++ ⟨n, r.sure ++ r.loose, ⟨#[]⟩⟩ :: B, room, rr, false, h.room.up, (by have h0 := h.nm; rw [hL] at h0; exact h0.put hn1), (sync_ok h.d n _ h1 hg hn2).mono ?_, fun w1 hr => (rsync_ok hr hL hf n h2).mono ?_⟩
    · rintro e w1 ⟨he, hd, hk⟩
      have e2 : (⟨(fiOf r).s, (fiOf r).s.size⟩ : Fi) = fiOf ⟨n, r.sure ++ r.loose, ⟨#[]⟩⟩ := by rw [fi_sure]; rfl
      have hR := h.d.rising
      rw [e2] at hd
      rw [hL] at hd hR
      rw [← hn, put_mid hR (x := ⟨r.name, r.sure ++ r.loose, ⟨#[]⟩⟩) rfl] at hd
      rw [← hn]
      exact ⟨he, hd, own_to_two hk⟩
    · rintro e w2 ⟨he, hr2, hk⟩
      exact ⟨he, _, hr2, hk⟩

theorem remove_pair (h : Bo w p b q base v L is room rr dead cnt) (n : ByteArray) : Pair w p b q base v L is rr dead cnt 21 39 #[dP p, .string n] #[dP q, .string n] := by
  rcases both_open L dead n with ⟨ec, h1, h2, hec⟩ | ⟨rfl, h1, h2, _⟩ | ⟨A, r, B, rfl, hL, hn, h1, h2, hg, hn1, hn2⟩
  · have he : (ec == 0) = false := by rcases hec with rfl | rfl <;> rfl
    exact h.same ec (remove_err h.d n _ _ h1 he) (fun w1 hr => calls_same (rremove_err hr n _ h2 he))
  · exact h.same 6 (remove_err h.d n _ _ h1 rfl) (fun w1 hr => calls_same (rremove_err hr n _ h2 rfl))
  · refine ⟨0, A ++ B, room, rr, false, h.room.up, (by have h0 := h.nm; rw [hL] at h0; exact h0.del), (remove_ok h.d n _ h1 hn2).mono ?_, fun w1 hr => (rremove_ok hr hL n h2).mono ?_⟩
    · rintro e w1 ⟨he, hd, hk⟩
      have hR := h.d.rising
      rw [hL] at hd hR
      rw [← hn, del_mid hR] at hd
      exact ⟨he, hd, own_to_two hk⟩
    · rintro e w2 ⟨he, v', hr2, hk⟩
      exact ⟨he, v', hr2, own_to_qs hk⟩

theorem cutR_ok (r : Rf) (K : Nat) : fiOf (cutR r.name r K) = ⟨(fiOf r).s.extract 0 K, min (fiOf r).k K⟩ ∧ (cutR r.name r K).name = r.name := by
  unfold cutR
  by_cases hc : K ≤ r.sure.size
  · rw [decide_eq_true hc, cond_true, fi_sure]
    refine ⟨?_, rfl⟩
    have h1 : (r.sure.extract 0 K).size = K := by simp; omega
    have h2 : min (fiOf r).k K = K := by show min r.sure.size K = K; omega
    rw [h1, h2]
    congr 1
    apply ByteArray.ext
    show (r.sure.extract 0 K).data = ((r.sure ++ r.loose).extract 0 K).data
    simp only [ByteArray.data_extract, ByteArray.data_append, Array.extract_append]
    have h3 : r.sure.data.size = r.sure.size := rfl
    rw [h3, show K - r.sure.size = 0 by omega]
    simp
  · rw [decide_eq_false hc, cond_false]
    refine ⟨?_, rfl⟩
    have h2 : min (fiOf r).k K = r.sure.size := by show min r.sure.size K = _; omega
    rw [h2]
    unfold fiOf
    have e := cat_extract r.sure r.loose (K - r.sure.size)
    rw [show r.sure.size + (K - r.sure.size) = K by omega] at e
    show (⟨r.sure ++ r.loose.extract 0 (K - r.sure.size), _⟩ : Fi) = ⟨(r.sure ++ r.loose).extract 0 K, _⟩
    rw [e]

theorem truncate_pair (h : Bo w p b q base v L is room rr dead cnt) (n : ByteArray) (k : Int) : Pair w p b q base v L is rr dead cnt 22 37 #[dP p, .string n, .int .i64 k] #[dP q, .string n, .int .i64 k] := by
  rcases both_open L dead n with ⟨ec, h1, h2, hec⟩ | ⟨rfl, h1, h2, _⟩ | ⟨A, r, B, rfl, hL, hn, h1, h2, hg, hn1, hn2⟩
  · have he : (ec != 0) = true := by rcases hec with rfl | rfl <;> rfl
    exact h.same ec (truncate_err h.d n k _ _ h1 he) (fun w1 hr => calls_same (rtruncate_err hr n k _ h2 he))
  · exact h.same 6 (truncate_err h.d n k _ _ h1 rfl) (fun w1 hr => calls_same (rtruncate_err hr n k _ h2 rfl))
  · have hf : FitsR r := h.fits (by rw [hL]; simp)
    have hsz : (fiOf r).s.size = r.sure.size + r.loose.size := ByteArray.size_append
    by_cases hk : k < 0 ∨ (r.sure.size : Int) + r.loose.size < k
    · exact h.same 5 (truncate_range h.d n k _ _ h1 rfl (by rw [hsz]; omega)) (fun w1 hr => rtruncate_range hr hL hf n k h2 hk)
    · obtain ⟨K, rfl⟩ : ∃ K : Nat, k = K := ⟨k.toNat, by omega⟩
      refine ⟨0, A ++ cutR n r K :: B, room, rr, false, h.room.up, (by have h0 := h.nm; rw [hL] at h0; exact h0.put (by rw [← hn, (cutR_ok r K).2, hn]; exact hn1)), (truncate_ok h.d n _ h1 hg hn2 K (by rw [hsz]; omega)).mono ?_, fun w1 hr => (rtruncate_ok hr hL hf n K h2 (by omega)).mono ?_⟩
      · rintro e w1 ⟨he, hd, hk⟩
        have hR := h.d.rising
        obtain ⟨e1, e2⟩ := cutR_ok r K
        rw [← e1] at hd
        rw [hL] at hd hR
        rw [← hn, put_mid hR e2] at hd
        rw [← hn]
        exact ⟨he, hd, own_to_two hk⟩
      · rintro e w2 ⟨he, hr2, hk⟩
        exact ⟨he, _, hr2, hk⟩

theorem rename_pair (h : Bo w p b q base v L is room rr dead cnt) (n to : ByteArray) : Pair w p b q base v L is rr dead cnt 20 38 #[dP p, .string n, .string to] #[dP q, .string n, .string to] := by
  rcases both_open L dead n with ⟨ec, h1, h2, hec⟩ | ⟨rfl, h1, h2, _⟩ | ⟨A, r, B, rfl, hL, hn, h1, h2, hg, hn1, hn2⟩
  · have he : (ec != 0) = true := by rcases hec with rfl | rfl <;> rfl
    exact h.same ec (rename_err h.d n to _ _ h1 he) (fun w1 hr => calls_same (rrename_err hr n to _ h2 he))
  · exact h.same 6 (rename_err h.d n to _ _ h1 rfl) (fun w1 hr => calls_same (rrename_err hr n to _ h2 rfl))
  · rcases both_find L to with ⟨t1, t2⟩ | ⟨t1, t2, tg, tn1, tn2⟩ | ⟨A2, r2, B2, _, _, t1, t2, _⟩
    · exact h.same 1 (rename_no h.d n to _ _ _ h1 t1 (.inr rfl)) (fun w1 hr => calls_same (rrename_no hr n to _ _ _ h2 t2 (.inr rfl)))
    · have hR := h.d.rising
      have hdel : delF (fsOf L) n.data.toList = fsOf (A ++ B) := by
        have hR' := hR
        rw [hL] at hR' ⊢
        rw [← hn]
        exact del_mid hR'
      have hRd : Rising (fsOf (A ++ B)) := by
        rw [← hdel]
        exact List.Pairwise.filter _ hR
      obtain ⟨A', B', hAB, hA, hB, hput⟩ := put_new hRd (n := to) (by rw [← hdel]; exact getF_del_ne tg)
      refine ⟨0, A' ++ ⟨to, r.sure, r.loose⟩ :: B', room, rr, false, h.room.up, (by have h0 := h.nm; rw [hL] at h0; have h1 := h0.del; rw [hAB] at h1; exact h1.ins tn1), (rename_ok h.d n to _ _ h1 hg hn2 t1 tn2).mono ?_, fun w1 hr => (rrename_ok hr hL n to h2 t2 hAB hA hB).mono ?_⟩
      · rintro e w1 ⟨he, hd, hk⟩
        have e2 : fiOf r = fiOf ⟨to, r.sure, r.loose⟩ := rfl
        rw [hdel, e2, hput ⟨to, r.sure, r.loose⟩ rfl] at hd
        exact ⟨he, hd, own_to_two hk⟩
      · rintro e w2 ⟨he, v', hr2, hk⟩
        exact ⟨he, v', hr2, own_to_qs hk⟩
    · exact h.same 7 (rename_no h.d n to _ _ _ h1 t1 (.inl rfl)) (fun w1 hr => calls_same (rrename_no hr n to _ _ _ h2 t2 (.inl rfl)))

/-- what of a text is taken, in both -/
theorem taken (h : Bo w p b q base v L is room rr false cnt) (s : ByteArray) (hs : s.size ≤ 5000) (hc : cnt ≤ 1000) :
    (∃ rr', (s.size : Int) ≤ room ∧ FitTo is rr false s s rr' false ∧ RoomBoth is (room - s.size) rr' (cnt + 1)) ∨
    (∃ M : Nat, room = (M : Int) ∧ (M : Int) < s.size ∧ FitTo is rr false s (s.extract 0 M) 0 true ∧ RoomBoth is 0 0 (cnt + 1)) := by
  have h0 := h.d.r0
  have h1 := h.d.r1
  rcases h.room with ⟨rfl, hb⟩ | ⟨rfl, rfl⟩
  · exact .inl ⟨rr, by omega, .inl ⟨rfl, rfl, rfl, rfl⟩, .inl ⟨rfl, by omega⟩⟩
  · rcases Int.lt_or_le rr s.size with hlt | hle
    · obtain ⟨M, rfl⟩ : ∃ M : Nat, rr = M := ⟨rr.toNat, by omega⟩
      exact .inr ⟨M, rfl, hlt, .inr (.inr ⟨rfl, M, rfl, hlt, rfl, rfl, rfl⟩), .inr ⟨rfl, rfl⟩⟩
    · exact .inl ⟨rr - s.size, hle, .inr (.inl ⟨rfl, hle, h1, rfl, rfl, rfl⟩), .inr ⟨rfl, rfl⟩⟩

theorem append_pair (h : Bo w p b q base v L is room rr dead cnt) (n s : ByteArray) (hs : s.size ≤ 5000) (hc : cnt ≤ 1000) : Pair w p b q base v L is rr dead cnt 14 35 #[dP p, .string n, .string s] #[dP q, .string n, .string s] := by
  rcases both_open L dead n with ⟨ec, h1, h2, hec⟩ | ⟨rfl, h1, h2, hg, hn1, hn2⟩ | ⟨A, r, B, rfl, hL, hn, h1, h2, hg, hn1, hn2⟩
  · exact h.same ec (append_err h.d n s _ _ h1 hec) (fun w1 hr => calls_same (rappend_err hr n s _ h2 hec))
  · by_cases h64 : 64 ≤ L.length
    · exact h.same 8 (append_full1 h.d n s _ _ h1 rfl (by simpa using h64)) (fun w1 hr => calls_same (rappend_full hr n s h2 (.inl h64)))
    · obtain ⟨A, B, hAB, hA, hB, hput⟩ := put_new h.d.rising hg
      have key : ∀ s' : ByteArray, withS Fi.none s' = fiOf ⟨n, ⟨#[]⟩, s'⟩ := fun s' => rfl
      have hlen : (fsOf L).length < 64 := by simp; omega
      rcases taken h s hs hc with ⟨rr', hle, hfit, hroom⟩ | ⟨M, rfl, hlt, hfit, hroom⟩
      · refine ⟨0, A ++ ⟨n, ⟨#[]⟩, s⟩ :: B, room - s.size, rr', false, hroom, (by have h0 := h.nm; rw [hAB] at h0; exact h0.ins hn1), (append_all h.d n s Fi.none 6 h1 (.inr ⟨rfl, hlen⟩) hn2 ⟨by decide, by decide⟩ (by have : Fi.none.s.size = 0 := rfl; omega) hle (by have := putF_length_le (fsOf L) n.data.toList (withS Fi.none s); omega)).mono ?_, fun w1 hr => (rappend_new hr hAB n s s h2 (by omega) (by omega) hfit hA hB).mono ?_⟩
        · rintro e w1 ⟨he, hd, hk⟩
          rw [key, hput _ rfl] at hd
          exact ⟨he, hd, hk⟩
        · rintro e w2 ⟨he, v', hr2, hk⟩
          exact ⟨he, v', hr2, own_to_qs hk⟩
      · refine ⟨12, A ++ ⟨n, ⟨#[]⟩, s.extract 0 M⟩ :: B, 0, 0, true, hroom, (by have h0 := h.nm; rw [hAB] at h0; exact h0.ins hn1), (append_part h.d n s Fi.none 6 h1 (.inr ⟨rfl, hlen⟩) hn2 ⟨by decide, by decide⟩ (by have : Fi.none.s.size = 0 := rfl; omega) hlt (by have := putF_length_le (fsOf L) n.data.toList (withS Fi.none (s.extract 0 M)); omega)).mono ?_, fun w1 hr => (rappend_new hr hAB n s _ h2 (by omega) (by omega) hfit hA hB).mono ?_⟩
        · rintro e w1 ⟨he, hd, hk⟩
          rw [key, hput _ rfl] at hd
          exact ⟨he, hd, hk⟩
        · rintro e w2 ⟨he, v', hr2, hk⟩
          exact ⟨he, v', hr2, own_to_qs hk⟩
  · have hf : FitsR r := h.fits (by rw [hL]; simp)
    have hok := h.d.get_ok hg
    have hsz : (fiOf r).s.size = r.sure.size + r.loose.size := ByteArray.size_append
    have key : ∀ s' : ByteArray, withS (fiOf r) s' = fiOf ⟨r.name, r.sure, r.loose ++ s'⟩ := by
      intro s'
      unfold withS fiOf
      congr 1
      exact ByteArray.append_assoc
    have hput : ∀ s' : ByteArray, putF (fsOf L) n.data.toList (withS (fiOf r) s') = fsOf (A ++ ⟨r.name, r.sure, r.loose ++ s'⟩ :: B) := by
      intro s'
      have hR := h.d.rising
      rw [hL] at hR ⊢
      rw [key, ← hn]
      exact put_mid hR rfl
    by_cases hbig : 4194304 < r.sure.size + r.loose.size + s.size
    · exact h.same 8 (append_full2 h.d n s _ _ h1 (.inl rfl) hok.1 (by rw [hsz]; omega)) (fun w1 hr => rappend_big hr hL hf n s h2 (by omega) hbig)
    · rcases taken h s hs hc with ⟨rr', hle, hfit, hroom⟩ | ⟨M, rfl, hlt, hfit, hroom⟩
      · refine ⟨0, A ++ ⟨r.name, r.sure, r.loose ++ s⟩ :: B, room - s.size, rr', false, hroom, (by have h0 := h.nm; rw [hL] at h0; exact h0.put (by rw [← hn] at hn1; exact hn1)), (append_all h.d n s (fiOf r) 0 h1 (.inl rfl) hn2 hok (by rw [hsz]; omega) hle (Nat.le_trans (putF_length_some hg) h.d.few)).mono ?_, fun w1 hr => (rappend_old hr hL n s s h2 (by omega) (Nat.le_refl _) hfit).mono ?_⟩
        · rintro e w1 ⟨he, hd, hk⟩
          rw [hput] at hd
          exact ⟨he, hd, hk⟩
        · rintro e w2 ⟨he, hr2, hk⟩
          exact ⟨he, _, hr2, hk⟩
      · refine ⟨12, A ++ ⟨r.name, r.sure, r.loose ++ s.extract 0 M⟩ :: B, 0, 0, true, hroom, (by have h0 := h.nm; rw [hL] at h0; exact h0.put (by rw [← hn] at hn1; exact hn1)), (append_part h.d n s (fiOf r) 0 h1 (.inl rfl) hn2 hok (by rw [hsz]; omega) hlt (Nat.le_trans (putF_length_some hg) h.d.few)).mono ?_, fun w1 hr => (rappend_old hr hL n s _ h2 (by omega) (by rw [ByteArray.size_extract]; omega) hfit).mono ?_⟩
        · rintro e w1 ⟨he, hd, hk⟩
          rw [hput] at hd
          exact ⟨he, hd, hk⟩
        · rintro e w2 ⟨he, hr2, hk⟩
          exact ⟨he, _, hr2, hk⟩
end
end Go.Proofs.Ytdckdndjddflfaa
