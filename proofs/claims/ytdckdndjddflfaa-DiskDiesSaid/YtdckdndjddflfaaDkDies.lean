/-
  Whatever the deeds and the numbers: DiskDies returns true, and its arguments read behind the call as they read before. No conditions.
-/
import Derived.Test.YtdckdndjddflfaaDkX
import Derived.Test.YtdckdndjddflfaaDkP
import Derived.Deep.RegionHeld3
namespace Go.Proofs.Ytdckdndjddflfaa.diskDies
open Go.ChangeShapes Go.WideShapes Go.ChangeAt Go.RowKit Go.Joins Go.Deep

theorem insF_find {n : Nm} {f : Fi} : ∀ {fs : Fs}, (∀ x ∈ fs, isNm n x = false) → (insF (n, f) fs).find? (isNm n) = some (n, f)
  | [], _ => by simp [insF, isNm]
  | y :: r, h => by
    unfold insF
    split
    · simp [isNm]
    · have hy := h y (by simp)
      rw [List.find?_cons, hy]
      exact insF_find (fun x hx => h x (by simp [hx]))
theorem getF_put (fs : Fs) (n : Nm) (f : Fi) : getF (putF fs n f) n = some f := by
  unfold getF putF
  rw [insF_find (fun x hx => by have := (List.mem_filter.1 hx).2; simpa using this)]
  rfl

/-- where the law's walk stands: its disk, how much was laid -/
structure At (w wi : World) (p b : Nat) (fs : Fs) (room : Int) (dead : Bool) (tot R : Int) : Prop where
  k : Keeps No w wi
  d : DiskAt wi p b fs room dead
  hp : w.heap.size ≤ p
  hb : w.heap.size ≤ b
  sum : tot + room = R
  t0 : 0 ≤ tot
theorem At.two {w wi wj : World} {p b : Nat} {fs fs' : Fs} {room room' : Int} {dead dead' : Bool} {tot tot' R : Int} (h : At w wi p b fs room dead tot R) (hk : Keeps (Two p b) wi wj) (hd : DiskAt wj p b fs' room' dead') (hs : tot' + room' = R) (ht : 0 ≤ tot') : At w wj p b fs' room' dead' tot' R :=
  ⟨two_new h.k hk h.hp h.hb, hd, h.hp, h.hb, hs, ht⟩
theorem At.no {w wi wj : World} {p b : Nat} {fs : Fs} {room : Int} {dead : Bool} {tot R : Int} (h : At w wi p b fs room dead tot R) (hk : Keeps No wi wj) : At w wj p b fs room dead tot R :=
  ⟨h.k.trans hk (fun _ _ h => h), h.d.kept hk (fun h => h) (fun h => h), h.hp, h.hb, h.sum, h.t0⟩

/-- WHAT ONE APPEND DOES, whatever its way: the error, the files, the room, whether the disk is dead, how many bytes more the file has -/
structure Step (fs : Fs) (room : Int) (n s : ByteArray) (ec : Int) (fs' : Fs) (room' : Int) (dead' : Bool) (m : Nat) : Prop where
  more : ((findE fs' n).1.s.size : Int) = (findE fs n).1.s.size + m
  left : room' = room - m
  down : (ec == 12) = dead'
  ok : ec = 0 → m = s.size
  died : ec = 12 → room' = 0
  r0 : 0 ≤ room'
  small : m ≤ s.size
  code : ec = 0 ∨ ec = 12 ∨ ec = 1 ∨ ec = 8
  len : fs'.length ≤ fs.length + 1
  all : ∀ B : Nat, (∀ x ∈ fs, x.2.s.size ≤ B) → ∀ x ∈ fs', x.2.s.size ≤ B + s.size

theorem all_put {fs : Fs} {n : Nm} {f g : Fi} {B k : Nat} (h : ∀ x ∈ fs, x.2.s.size ≤ B) (hf : ∀ B : Nat, (∀ x ∈ fs, x.2.s.size ≤ B) → f.s.size ≤ B) (hg : g.s.size ≤ f.s.size + k) : ∀ x ∈ putF fs n g, x.2.s.size ≤ B + k := by
  intro x hx
  rcases mem_putF hx with rfl | hx
  · have := hf B h
    show g.s.size ≤ B + k
    omega
  · have := h x hx
    omega
theorem find_size {fs : Fs} (h : ∀ x ∈ fs, FileOk x.2) (n : ByteArray) : (findE fs n).1.s.size ≤ 4194304 := by
  rcases findE_cases fs n with h1 | ⟨h1, _⟩ | ⟨f, h1, hg, _⟩
  · rw [h1]; decide
  · rw [h1]; decide
  · rw [h1]; exact (h _ (mem_getF hg)).1

/-- Append, whatever its way, of a disk that lives -/
theorem append_step {w : World} {p b : Nat} {fs : Fs} {room : Int} (hd : DiskAt w p b fs room false) (n s : ByteArray) (hs : s.size ≤ 4194304) : ∃ (ec : Int) (fs' : Fs) (room' : Int) (dead' : Bool) (m : Nat), Step fs room n s ec fs' room' dead' m ∧
    Calls Try.prog 14 #[dP p, .string n, .string s] w fun e w' => e = .returned (.int .i64 ec) ∧ DiskAt w' p b fs' room' dead' ∧ Keeps (Two p b) w w' := by
  have hr0 := hd.r0
  have big : ∀ {f : Fi} {ec : Int}, openE fs false n = (f, ec) → (ec = 0 ∨ ec = 6 ∧ fs.length < 64) → f.s.size ≤ 4194304 → 4194304 < (f.s.size : Int) + s.size → ∃ (ec : Int) (fs' : Fs) (room' : Int) (dead' : Bool) (m : Nat), Step fs room n s ec fs' room' dead' m ∧
    Calls Try.prog 14 #[dP p, .string n, .string s] w fun e w' => e = .returned (.int .i64 ec) ∧ DiskAt w' p b fs' room' dead' ∧ Keeps (Two p b) w w' := by
    intro f ec hE hec hf hbig
    refine ⟨8, fs, room, false, 0, ⟨by simp, by simp, rfl, fun h => absurd h (by decide), fun h => absurd h (by decide), hr0, Nat.zero_le _, by omega, by omega, fun B h x hx => Nat.le_trans (h x hx) (by omega)⟩, ?_⟩
    exact (append_full2 hd n s f ec hE hec hf hbig).mono (fun e w' h => ⟨h.1, hd.kept h.2 (fun h => h) (fun h => h), h.2.mono (fun _ _ h => h.elim)⟩)
  have take : ∀ {f : Fi} {ec : Int}, openE fs false n = (f, ec) → (ec = 0 ∨ ec = 6 ∧ fs.length < 64) → NmOk n → FileOk f → (findE fs n).1.s.size = f.s.size → (∀ B : Nat, (∀ x ∈ fs, x.2.s.size ≤ B) → f.s.size ≤ B) → (∀ g, (putF fs n.data.toList g).length ≤ 64) → (f.s.size : Int) + s.size ≤ 4194304 → ∃ (ec : Int) (fs' : Fs) (room' : Int) (dead' : Bool) (m : Nat), Step fs room n s ec fs' room' dead' m ∧
    Calls Try.prog 14 #[dP p, .string n, .string s] w fun e w' => e = .returned (.int .i64 ec) ∧ DiskAt w' p b fs' room' dead' ∧ Keeps (Two p b) w w' := by
    intro f ec hE hec hn hf hfs hfB h64 hfit
    rcases Int.lt_or_le room s.size with hlt | hle
    · obtain ⟨M, rfl⟩ : ∃ M : Nat, room = (M : Int) := ⟨room.toNat, by omega⟩
      have hx : (s.extract 0 M).size = M := by simp; omega
      refine ⟨12, _, 0, true, M, ⟨?_, by omega, rfl, fun h => absurd h (by decide), fun _ => rfl, by omega, by omega, by omega, putF_length_le _ _ _, fun B h => all_put h hfB (by show (f.s ++ s.extract 0 M).size ≤ _; rw [ByteArray.size_append, hx]; omega)⟩, append_part hd n s f ec hE hec hn.2 hf hfit hlt (h64 _)⟩
      rw [find_ok hn (getF_put fs n.data.toList (withS f (s.extract 0 M))), hfs]
      show (((f.s ++ s.extract 0 M).size : Nat) : Int) = _
      rw [ByteArray.size_append, hx]
      omega
    · refine ⟨0, _, room - s.size, false, s.size, ⟨?_, rfl, rfl, fun _ => rfl, fun h => absurd h (by decide), by omega, Nat.le_refl _, by omega, putF_length_le _ _ _, fun B h => all_put h hfB (by show (f.s ++ s).size ≤ _; rw [ByteArray.size_append]; omega)⟩, append_all hd n s f ec hE hec hn.2 hf hfit hle (h64 _)⟩
      rw [find_ok hn (getF_put fs n.data.toList (withS f s)), hfs]
      show (((f.s ++ s).size : Nat) : Int) = _
      rw [ByteArray.size_append]
      omega
  rcases findE_cases fs n with h | ⟨h, hg, h1, h2⟩ | ⟨f, h, hg, h1, h2⟩
  · refine ⟨1, fs, room, false, 0, ⟨by simp, by simp, rfl, fun h => absurd h (by decide), fun h => absurd h (by decide), hr0, Nat.zero_le _, by omega, by omega, fun B h x hx => Nat.le_trans (h x hx) (by omega)⟩, ?_⟩
    exact (append_err hd n s Fi.none 1 (open_ok h) (.inl rfl)).mono (fun e w' h => ⟨h.1, hd.kept h.2 (fun h => h) (fun h => h), h.2.mono (fun _ _ h => h.elim)⟩)
  · by_cases h64 : 64 ≤ fs.length
    · refine ⟨8, fs, room, false, 0, ⟨by simp, by simp, rfl, fun h => absurd h (by decide), fun h => absurd h (by decide), hr0, Nat.zero_le _, by omega, by omega, fun B h x hx => Nat.le_trans (h x hx) (by omega)⟩, ?_⟩
      exact (append_full1 hd n s Fi.none 6 (open_ok h) rfl h64).mono (fun e w' h => ⟨h.1, hd.kept h.2 (fun h => h) (fun h => h), h.2.mono (fun _ _ h => h.elim)⟩)
    · exact take (open_ok h) (.inr ⟨rfl, by omega⟩) ⟨h1, h2⟩ ⟨by decide, by decide⟩ (by rw [h]) (fun B _ => Nat.zero_le B) (fun g => by have := putF_length_le fs n.data.toList g; omega) (by have : Fi.none.s.size = 0 := rfl; omega)
  · have hf := hd.get_ok hg
    by_cases hbig : 4194304 < (f.s.size : Int) + s.size
    · exact big (open_ok h) (.inl rfl) hf.1 hbig
    · exact take (open_ok h) (.inl rfl) ⟨h1, h2⟩ hf (by rw [h]) (fun B hB => hB _ (mem_getF hg)) (fun g => Nat.le_trans (putF_length_some hg) hd.few) (by omega)

/-- a few bytes always fit a disk with few files and much room -/
theorem append_fits {w : World} {p b : Nat} {fs : Fs} (hd : DiskAt w p b fs 4611686018427387904 false) (n s : ByteArray) (hn : NmOk n) (hs : s.size ≤ 5000) (hlen : fs.length < 64) (hall : ∀ x ∈ fs, x.2.s.size ≤ 300000) :
    Calls Try.prog 14 #[dP p, .string n, .string s] w fun e w' => e = .returned (.int .i64 0) ∧ Keeps (Two p b) w w' := by
  cases hg : getF fs n.data.toList with
  | none => exact (append_all hd n s Fi.none 6 (open_ok (find_no hn hg)) (.inr ⟨rfl, hlen⟩) hn.2 ⟨by decide, by decide⟩ (by have : Fi.none.s.size = 0 := rfl; omega) (by omega) (by have := putF_length_le fs n.data.toList (withS Fi.none s); omega)).mono (fun e w' h => ⟨h.1, h.2.2⟩)
  | some f =>
    have hf := hall _ (mem_getF hg)
    exact (append_all hd n s f 0 (open_ok (find_ok hn hg)) (.inl rfl) hn.2 (hd.get_ok hg) (by have : f.s.size ≤ 300000 := hf; omega) (by omega) (Nat.le_trans (putF_length_some hg) hd.few)).mono (fun e w' h => ⟨h.1, h.2.2⟩)
theorem crash_small {fs : Fs} {B : Nat} (keep : Int) (h : ∀ x ∈ fs, x.2.s.size ≤ B) (hok : ∀ x ∈ fs, FileOk x.2) : ∀ x ∈ fs.map (crashP keep), x.2.s.size ≤ B := by
  intro x hx
  obtain ⟨y, hy, rfl⟩ := List.mem_map.1 hx
  have h1 := crashK_le keep (hok y hy).2
  have h2 := h y hy
  show (y.2.s.extract 0 (crashK keep y.2)).size ≤ B
  rw [ByteArray.size_extract]
  omega

/-- what the law's loop carries -/
structure Lp (w wr : World) (p b : Nat) (R : Int) (v : Value) (l : List De) (k : Nat) (tot : Int) (dead : Bool) (fs : Fs) (room : Int) : Prop where
  at' : At w wr p b fs room dead tot R
  row : RdOf cDe wr v l
  low : ∀ i, v.ownBlock = some i → i ≠ p ∧ i ≠ b
  tk : tot ≤ 5000 * (k : Int)
  len : fs.length ≤ k
  all : ∀ x ∈ fs, x.2.s.size ≤ 5000 * k
theorem Lp.no {w wr wj : World} {p b : Nat} {R : Int} {v : Value} {l : List De} {k : Nat} {tot : Int} {dead : Bool} {fs : Fs} {room : Int} (h : Lp w wr p b R v l k tot dead fs room) (hk : Keeps No wr wj) : Lp w wj p b R v l k tot dead fs room :=
  ⟨h.at'.no hk, h.row.kept hk (fun _ _ h => h), h.low, h.tk, h.len, h.all⟩
theorem Lp.up {w wr : World} {p b : Nat} {R : Int} {v : Value} {l : List De} {k : Nat} {tot : Int} {dead : Bool} {fs : Fs} {room : Int} (h : Lp w wr p b R v l k tot dead fs room) : Lp w wr p b R v l (k + 1) tot dead fs room :=
  ⟨h.at', h.row, h.low, by have := h.tk; omega, by have := h.len; omega, fun x hx => by have := h.all x hx; omega⟩
theorem Lp.step {w wr wj : World} {p b : Nat} {R : Int} {v : Value} {l : List De} {k : Nat} {tot : Int} {fs : Fs} {room : Int} (h : Lp w wr p b R v l k tot false fs room) {n s : ByteArray} {ec : Int} {fs' : Fs} {room' : Int} {dead' : Bool} {m : Nat} (hs : Step fs room n s ec fs' room' dead' m) (h5 : s.size ≤ 5000) (hd : DiskAt wj p b fs' room' dead') (hk : Keeps (Two p b) wr wj) : Lp w wj p b R v l (k + 1) (tot + m) dead' fs' room' :=
  ⟨h.at'.two hk hd (by have := h.at'.sum; have := hs.left; omega) (by have := h.at'.t0; omega), h.row.kept hk (fun i hi hS => by have := h.low i hi; rcases hS with e | e <;> omega), h.low,
    by have := h.tk; have := hs.small; omega, by have := h.len; have := hs.len; omega, fun x hx => by have := hs.all _ h.all x hx; omega⟩
set_option maxRecDepth 100000 in
set_option maxHeartbeats 8000000 in
theorem walk (v : Value) (l : List De) (n keep : Int) (hn : n ≤ 9223372036854775807) (w : World) (hv : RdOf cDe w v l) : Calls Try.prog 7 #[v, .int .i64 n, .int .i64 keep] w fun e w' => e = .returned (.bool true) ∧ Keeps No w w' := by
  have Hn := Lib.hid hn
  have Hv := Lib.hid hv
  clear hn hv
  go_enter Try.func7, Try.ntmps7
  go_wp2_with fail
  refine (few_any w v l Hv.out).mono ?_
  rintro e w1 ⟨v', rfl, l', ho, h60, h5, k1⟩
  obtain ⟨oa, oc, rfl⟩ := ownsRow_slice ho
  have Ho := Lib.hid ho
  have H60 := Lib.hid h60
  have H5 := Lib.hid h5
  have K1 := Lib.hid k1
  clear ho h60 h5 k1 Hv
  go_wp2_with fail
  refine (new_any w1).mono ?_
  rintro e w2 ⟨rfl, h2, k2⟩
  have H2 := Lib.hid h2
  have K2 := Lib.hid k2
  clear h2 k2
  go_wp2_with fail
  refine (cut_any H2.out n Hn.out).mono ?_
  rintro e w3 ⟨rfl, h3, k3⟩
  have hs1 := K1.out.size
  have L3 : Hid (Lp w w3 (w1.heap.size + 1) w1.heap.size (max 0 n) (.slice oa l'.length oc) l' 0 0 false [] (max 0 n)) :=
    ⟨⟨((K1.out.trans K2.out (fun _ _ h => h)).trans k3 (fun i hi h => by have h' : i = w1.heap.size + 1 := h; omega)), h3, by omega, by omega, by omega, by omega⟩,
      (Ho.out.reads.kept K2.out (fun _ _ h => h)).kept k3 (fun i hi h => by have h' : i = w1.heap.size + 1 := h; have := (Ho.out.lt i hi).2; omega),
      fun i hi => by have := (Ho.out.lt i hi).2; omega, by omega, by simp, by simp⟩
  clear h3 k3 H2 K2 hs1 Ho
  go_wp2
  go_loopw [8, 10] (fun tq q wr => ∃ (k : Nat) (tot : Int) (dead : Bool) (fs : Fs) (room : Int), k ≤ l'.length ∧ q = .int .i64 k ∧ tq = .int .i64 tot ∧ Lp w wr (w1.heap.size + 1) w1.heap.size (max 0 n) (.slice oa l'.length oc) l' k tot dead fs room) (fun _ q _ => l'.length - (intOf q).toNat)
  case atStart => exact ⟨0, 0, false, [], _, Nat.zero_le _, rfl, rfl, L3.out⟩
  case round =>
    obtain ⟨k, tot, dead, fs, room, hk, rfl, rfl, hL⟩ := hrel
    clear L3
    by_cases hlt : k < l'.length
    · have hki : (k : Int) < (l'.length : Int) := by omega
      have hk0 : (0 : Int) ≤ (k : Int) := by omega
      have hk64 : (k : Int) ≤ 60 := by have := H60.out; omega
      obtain ⟨g, off, rfl, _, _, hg⟩ := RdOf.addr cDe hL.row (by omega)
      have c5 : cellsAt wr g (off + k * 5) 5 = some (dC l'[k].1) := RdOf.at cDe hL.row k hlt
      have hsz := H5.out _ (List.getElem_mem hlt)
      obtain ⟨d, hd⟩ : ∃ d, d = l'[k].1 := ⟨_, rfl⟩
      rw [← hd] at c5 hsz
      have c5' : cellsAt wr g (off + k * 5) 5 = some [.int .i64 d.k, .int .i64 d.n, .string d.name, .string d.to, .string d.s] := c5
      clear c5
      have Hsz := Lib.hid hsz
      have HL := Lib.hid hL
      clear hd hsz hL hk hlt
      go_wp2_with fail
      refine (dead_any (HL.out.no ((Keeps.refl (S := No) wr).alloc _)).at'.d).mono ?_
      rintro e w4 ⟨rfl, hw4⟩
      have x4 : cellsAt w4 wr.heap.size 0 5 = some [.int .i64 d.k, .int .i64 d.n, .string d.name, .string d.to, .string d.s] := by rw [hw4]; simp [go_sem]
      have L4 : Hid (Lp w w4 (w1.heap.size + 1) w1.heap.size (max 0 n) (.slice (some ⟨g, off, none⟩) l'.length oc) l' k tot dead fs room) := by rw [hw4]; exact HL.out.no ((Keeps.refl (S := No) wr).alloc _)
      have hbx : Hid (w1.heap.size + 1 < wr.heap.size) := HL.out.at'.d.lt.1
      clear hw4 c5' HL hg
      have y2 : w4.cell? ⟨wr.heap.size, 2, none⟩ = some (.string d.name) := cellsAt_cell x4 2 _ rfl
      obtain ⟨fx, ex, hx⟩ : ∃ fx ex, findE fs d.name = (fx, ex) := ⟨_, _, rfl⟩
      have Hx := Lib.hid hx
      clear hx
      cases dead
      · go_wp2_with fail
        refine (size_any L4.out.at'.d d.name fx ex Hx.out).mono ?_
        rintro e w5 ⟨rfl, k5⟩
        have L5 := Lib.hid (L4.out.no k5)
        have x5 := k5.cellsAt x4
        clear k5 L4 x4 y2
        have y2 : w5.cell? ⟨wr.heap.size, 2, none⟩ = some (.string d.name) := cellsAt_cell x5 2 _ rfl
        have y4 : w5.cell? ⟨wr.heap.size, 4, none⟩ = some (.string d.s) := cellsAt_cell x5 4 _ rfl
        obtain ⟨ec, fs', room', dead', m, hst, hap⟩ := append_step L5.out.at'.d d.name d.s (by have := Hsz.out; omega)
        have Hst := Lib.hid hst
        have Hap := Lib.hid hap
        clear hst hap
        go_wp2_with fail
        refine Hap.out.mono ?_
        rintro e w6 ⟨rfl, h6, k6⟩
        have x6 := cells_but k6 (show ¬ Two (w1.heap.size + 1) w1.heap.size wr.heap.size by have := hbx.out; rintro (e | e) <;> omega) x5
        have L6 := Lib.hid (L5.out.step Hst.out Hsz.out h6 k6)
        clear h6 k6 x5 y2 y4 Hap
        have y2 : w6.cell? ⟨wr.heap.size, 2, none⟩ = some (.string d.name) := cellsAt_cell x6 2 _ rfl
        obtain ⟨gx, ey, hy⟩ : ∃ gx ey, findE fs' d.name = (gx, ey) := ⟨_, _, rfl⟩
        have hmore : (gx.s.size : Int) = fx.s.size + m := by have := Hst.out.more; rw [hy, Hx.out] at this; exact this
        have hfx : fx.s.size ≤ 4194304 := by have := find_size L5.out.at'.d.ok d.name; rw [Hx.out] at this; exact this
        have Hy := Lib.hid hy
        clear hy
        go_wp2_with fail
        refine (size_any L6.out.at'.d d.name gx ey Hy.out).mono ?_
        rintro e w7 ⟨rfl, k7⟩
        have L7 := Lib.hid (L6.out.no k7)
        have x7 := k7.cellsAt x6
        clear k7 x6 y2 L6 L5
        have y4 : w7.cell? ⟨wr.heap.size, 4, none⟩ = some (.string d.s) := cellsAt_cell x7 4 _ rfl
        have hm5 : m ≤ 5000 := Nat.le_trans Hst.out.small Hsz.out
        have htk := L7.out.tk
        have ht0 := L7.out.at'.t0
        have hsub : IntKind.i64.wrap ((gx.s.size : Int) - (fx.s.size : Int)) = (m : Int) := by rw [IntKind.wrap_i64]; omega
        have hsub2 : wrap64 ((gx.s.size : Int) - (fx.s.size : Int)) = (m : Int) := by rw [show (gx.s.size : Int) - (fx.s.size : Int) = (m : Int) by omega]; exact IntWalk.wrap64_in _ ⟨by omega, by omega⟩
        have hsum : IntKind.i64.wrap (tot + (m : Int)) = tot + (m : Int) := by rw [IntKind.wrap_i64]; omega
        have hsum2 : wrap64 (tot + (m : Int)) = tot + (m : Int) := IntWalk.wrap64_in _ ⟨by omega, by omega⟩
        have hdn := Hst.out.down
        have hR : (decide (max 0 n < tot + (m : Int))) = false := decide_eq_false (by have := L7.out.at'.sum; have := Hst.out.r0; omega)
        clear hmore hfx htk ht0 hm5
        rcases Hst.out.code with rfl | rfl | rfl | rfl
        · have hms := Hst.out.ok rfl
          subst hms
          obtain rfl : dead' = false := by rw [← hdn]; rfl
          clear hdn
          go_wp2_with fail
          refine (dead_any L7.out.at'.d).mono ?_
          rintro e w8 ⟨rfl, rfl⟩
          go_wp2
          go_roundw
          case rel => exact ⟨k + 1, _, false, _, _, by omega, by go_num, rfl, L7.out⟩
          case measure => simp [intOf]; omega
        · have hrz := Hst.out.died rfl
          obtain rfl : dead' = true := by rw [← hdn]; rfl
          have hRR : tot + (m : Int) = max 0 n := by have := L7.out.at'.sum; omega
          clear hdn hR
          rw [hRR] at L7 hsum hsum2
          go_wp2_with fail
          refine (dead_any L7.out.at'.d).mono ?_
          rintro e w8 ⟨rfl, rfl⟩
          go_wp2
          go_roundw
          case rel => exact ⟨k + 1, _, true, _, _, by omega, by go_num, rfl, L7.out⟩
          case measure => simp [intOf]; omega
        · obtain rfl : dead' = false := by rw [← hdn]; rfl
          clear hdn
          go_wp2_with fail
          refine (dead_any L7.out.at'.d).mono ?_
          rintro e w8 ⟨rfl, rfl⟩
          go_wp2
          go_roundw
          case rel => exact ⟨k + 1, _, false, _, _, by omega, by go_num, rfl, L7.out⟩
          case measure => simp [intOf]; omega
        · obtain rfl : dead' = false := by rw [← hdn]; rfl
          clear hdn
          go_wp2_with fail
          refine (dead_any L7.out.at'.d).mono ?_
          rintro e w8 ⟨rfl, rfl⟩
          go_wp2
          go_roundw
          case rel => exact ⟨k + 1, _, false, _, _, by omega, by go_num, rfl, L7.out⟩
          case measure => simp [intOf]; omega
      · have hop : ∃ ec : Int, openE fs true d.name = (Fi.none, ec) ∧ (ec = 1 ∨ ec = 12) := by
          rcases openE_cases fs true d.name with h | ⟨_, h, _⟩ | ⟨h, _⟩ | ⟨f, h, _⟩
          · exact ⟨1, h, .inl rfl⟩
          · exact ⟨12, h, .inr rfl⟩
          · cases h
          · cases h
        obtain ⟨ec, hE, hec⟩ := hop
        have HE := Lib.hid hE
        clear hE
        go_wp2_with fail
        refine (read_any L4.out.at'.d d.name fx ex Hx.out).mono ?_
        rintro e w5 ⟨rfl, k5⟩
        have L5 := Lib.hid (L4.out.no k5)
        have x5 := k5.cellsAt x4
        clear k5 L4 x4 y2
        have y2 : w5.cell? ⟨wr.heap.size, 2, none⟩ = some (.string d.name) := cellsAt_cell x5 2 _ rfl
        have y4 : w5.cell? ⟨wr.heap.size, 4, none⟩ = some (.string d.s) := cellsAt_cell x5 4 _ rfl
        go_wp2_with fail
        refine (append_err L5.out.at'.d d.name d.s Fi.none ec HE.out hec).mono ?_
        rintro e w6 ⟨rfl, k6⟩
        have L6 := Lib.hid (L5.out.no k6)
        have x6 := k6.cellsAt x5
        clear k6 L5 x5 y2 y4
        have p2 : w6.cell? ⟨wr.heap.size, 2, none⟩ = some (.string d.name) := cellsAt_cell x6 2 _ rfl
        rcases hec with rfl | rfl
        all_goals
          go_wp2_with fail
          have LC : Hid (Lp w w6.drew (w1.heap.size + 1) w1.heap.size (max 0 n) (.slice (some ⟨g, off, none⟩) l'.length oc) l' k tot true fs room) := L6.out.no ((Keeps.refl (S := No) w6).drew)
          have XC : Hid (cellsAt w6.drew wr.heap.size 0 5 = some [.int .i64 d.k, .int .i64 d.n, .string d.name, .string d.to, .string d.s]) := x6
          clear L6 x6
          go_region_held3 (fun w' => w'.cell? ⟨wr.heap.size, 2, none⟩ = some (.string d.name)) (exact p2)
            (first
              | (go_at_call 15
                 have hc := sync_err LC.out.at'.d d.name Fi.none _ HE.out rfl
                 with_reducible refine hc.mono ?_
                 clear hc
                 rintro e wn ⟨rfl, kn⟩
                 have LN := Lib.hid (LC.out.no kn)
                 have XN := Lib.hid (kn.cellsAt XC.out)
                 clear kn LC XC p2
                 have LC := LN
                 have XC := XN
                 clear LN XN
                 have p2 : wn.cell? ⟨wr.heap.size, 2, none⟩ = some (.string d.name) := cellsAt_cell XC.out 2 _ rfl)
              | (go_at_call 21
                 have hc := remove_err LC.out.at'.d d.name Fi.none _ HE.out rfl
                 with_reducible refine hc.mono ?_
                 clear hc
                 rintro e wn ⟨rfl, kn⟩
                 have LN := Lib.hid (LC.out.no kn)
                 have XN := Lib.hid (kn.cellsAt XC.out)
                 clear kn LC XC p2
                 have LC := LN
                 have XC := XN
                 clear LN XN
                 have p2 : wn.cell? ⟨wr.heap.size, 2, none⟩ = some (.string d.name) := cellsAt_cell XC.out 2 _ rfl))
          all_goals
            go_wp2_with fail
            refine (read_any LC.out.at'.d d.name fx ex Hx.out).mono ?_
            rintro e w8 ⟨rfl, k8⟩
            have L8 := Lib.hid (LC.out.no k8)
            clear k8 LC XC p2
            go_wp2
            go_roundw
            case rel => exact ⟨k + 1, _, true, _, _, by omega, by go_num, rfl, L8.out.up⟩
            case measure => simp [intOf]; omega
    · have hki : ¬ (k : Int) < (l'.length : Int) := by omega
      have HL := Lib.hid hL
      have hk60 : Hid (k ≤ 60) := by have := H60.out; exact Lib.hid (by omega)
      clear hL hk
      go_wp2_with fail
      refine (crash_any HL.out.at'.d keep).mono ?_
      rintro e w4 ⟨rfl, h4, k4⟩
      have hle : fs.length < 64 := by have := HL.out.len; have := hk60.out; omega
      have K4 : Hid (Keeps No w w4) := two_new HL.out.at'.k k4 HL.out.at'.hp HL.out.at'.hb
      have H4 := Lib.hid h4
      have Hsm := Lib.hid (crash_small keep (B := 300000) (fun x hx => by have := HL.out.all x hx; have := hk60.out; omega) HL.out.at'.d.ok)
      have Hle : Hid ((fs.map (crashP keep)).length < 64) := Lib.hid (by simpa using hle)
      have Hpb := Lib.hid (And.intro HL.out.at'.hp HL.out.at'.hb)
      clear h4 k4 hle HL
      go_wp2_with fail
      refine (dead_any H4.out).mono ?_
      rintro e w5 ⟨rfl, rfl⟩
      go_wp2_with fail
      refine (append_fits H4.out ⟨#[102]⟩ ⟨#[109, 111, 114, 101]⟩ ⟨by decide, by decide⟩ (by decide) Hle.out Hsm.out).mono ?_
      rintro e w6 ⟨rfl, k6⟩
      have K6 : Hid (Keeps No w w6) := two_new K4.out k6 Hpb.out.1 Hpb.out.2
      clear k6 K4 H4 Hsm Hle Hpb
      go_wp2_with fail
      refine (awake_any _).mono ?_
      rintro e w7 ⟨rfl, k7⟩
      have hfin : Hid (Keeps No w w7) := K6.out.trans k7 (fun _ _ h => h)
      clear k7
      go_wp2
      go_ret
      exact ⟨rfl, hfin.out⟩

set_option maxRecDepth 100000 in
theorem lifted (os : Os) (started : os.Started) (H : Type) (enc : TypeId × Value → H) :
    ReturnsInHanded {} Try.checked os 7 .any (Rows.diskDiesSpec.pre6 enc Try.prog Try.f7 Rows.diskDiesRow.domain false) (Rows.diskDiesSpec.post enc Try.prog Try.f7 false true false false) := by
  refine law_lifted os started H enc (by kernel_rfl) Try.func7
    (ChangeSpec.witness6 (enc := enc) (C := Try.checked) false ⟨#[], #[.slice none 0 0, .int .i64 0, .int .i64 0], []⟩ 8 (by kernel_rfl) (by kernel_rfl) (by kernel_rfl) (by kernel_rfl))
    (by decide +kernel) rfl Try.underlying4 rfl (fun ds h => by match ds, h with | [d1, d2, d3], _ => rfl) ?_
  intro W base args ds p hval hA
  rw [Try.params7] at hA hval
  obtain ⟨v0, v1, v2, d0, d1, d2, p0, p1, p2, rfl, rfl, rfl, h0, h1, h2⟩ := trodAll_three hA
  obtain ⟨l, hl⟩ := open_deeds h0 (by obtain ⟨a, m, c, rfl⟩ := okWide_slice Try.underlying43 (hval 0 43 v0 rfl rfl); rfl)
  obtain ⟨n, rfl, rfl, rfl, wn⟩ := open_int Try.underlying3 (hval 1 3 v1 rfl rfl) h1
  obtain ⟨k, rfl, rfl, rfl, _⟩ := open_int Try.underlying3 (hval 2 3 v2 rfl rfl) h2
  exact walk v0 l n k (by have := bounds_i64 wn; omega) W hl

theorem holds : Rows.DiskDiesSaid :=
  OpenClaim.holds_of_wide 7 Try.f7 rfl rfl rfl rfl rfl rfl rfl ⟨rfl, rfl, rfl, rfl, rfl⟩ rfl rfl rfl rfl rfl (by kernel_rfl) Try.func7 (by kernel_rfl)
    (of_decide_eq_true (by kernel_rfl)) (by unfold Func.isWrapper; first | (rw [if_pos (by decide +kernel)]; kernel_rfl) | (rw [if_neg (by decide +kernel)]; exact ⟨rfl, rfl⟩))
    (fun os started H enc _ => lifted os started H enc)
end Go.Proofs.Ytdckdndjddflfaa.diskDies
