/-
  A log that is as it should be, as plain data: segments that hold the frames of their records. No conditions of its own.
-/
import Derived.Test.YtghamhipcpgofaaGreatDoorWaP
namespace Go.Proofs.YtghamhipcpgofaaGreatDoor
open Go.RowKit

/-- a segment: its number, its records, how much of its file is sure -/
structure Sg where
  first : Nat
  recs : List Nm
  k : Nat
def Sg.next (s : Sg) : Nat := s.first + s.recs.length
def bts (L : List Nm) : ByteArray := ⟨(frames L).toArray⟩
def Sg.file (nm : ByteArray) (s : Sg) : Nm × Fi := (segNm nm.data.toList s.first, ⟨bts s.recs, s.k⟩)
theorem bts_size (L : List Nm) : (bts L).size = flen L := by
  show (frames L).toArray.size = _
  rw [List.size_toArray, frames_length]
theorem bts_snoc (L : List Nm) (t : Nm) : bts L ++ frameB (toB t) = bts (L ++ [t]) := by
  unfold bts frameB toB
  rw [frames_append, frames_one]
  apply ByteArray.ext
  rw [ByteArray.data_append]
  simp
theorem frameB_size (t : Nm) : (frameB (toB t)).size = t.length + 7 := by
  show (frameL (toB t).data.toList).toArray.size = _
  rw [List.size_toArray, frameL_length]
  simp [toB]

/-- each begins where the one ahead of it ends -/
def Linked : List Sg → Prop
  | a :: b :: r => a.next = b.first ∧ Linked (b :: r)
  | _ => True
theorem linked_same {z z' : Sg} (hz : z'.first = z.first) : ∀ {A : List Sg}, Linked (A ++ [z]) → Linked (A ++ [z'])
  | [], _ => trivial
  | [_], h => ⟨by rw [hz]; exact h.1, trivial⟩
  | _ :: b :: r, h => ⟨h.1, linked_same hz (A := b :: r) h.2⟩
theorem linked_push {z z' w : Sg} (hz : z'.first = z.first) (hw : z'.next = w.first) : ∀ {A : List Sg}, Linked (A ++ [z]) → Linked (A ++ [z'] ++ [w])
  | [], _ => ⟨hw, trivial⟩
  | [_], h => ⟨by rw [hz]; exact h.1, hw, trivial⟩
  | _ :: b :: r, h => ⟨h.1, linked_push hz hw (A := b :: r) h.2⟩
theorem linked_tail : ∀ {X Y : List Sg}, Linked (X ++ Y) → Linked Y
  | [], _, h => h
  | [_], [], _ => trivial
  | [_], _ :: _, h => h.2
  | _ :: b :: X, _, h => linked_tail (X := b :: X) h.2
/-- THE LOG g ON THE DISK d HAS THE SEGMENTS A, z. -/
structure Good (nm : ByteArray) (A : List Sg) (z : Sg) (g : Lg) (d : Ds) : Prop where
  g : g = ⟨nm, (A ++ [z]).map Sg.first, z.next⟩
  fs : d.fs = (A ++ [z]).map (Sg.file nm)
  dead : d.dead = false
  room : 4611686018427387904 - 70000 * (z.next : Int) ≤ d.room
  up : (A ++ [z]).Pairwise fun a b => a.first < b.first
  lim : z.next ≤ 1000000
  nm1 : 1 ≤ nm.size
  nm2 : nm.size ≤ 16
  few : A.length < 64
  full : ∀ a ∈ A, 4096 ≤ flen a.recs ∧ flen a.recs ≤ 100000 ∧ a.k = flen a.recs
  zs : flen z.recs ≤ 100000
  short : ∀ s ∈ A ++ [z], ∀ X t, s.recs = X ++ [t] → flen X < 4096
  link : Linked (A ++ [z])
  rl : ∀ s ∈ A ++ [z], ∀ t ∈ s.recs, t.length ≤ 65536
  zk : z.k ≤ flen z.recs

section
variable {nm : ByteArray} {A : List Sg} {z : Sg} {g : Lg} {d : Ds}
theorem Good.low (h : Good nm A z g d) : ∀ s ∈ A ++ [z], s.first ≤ z.first := by
  intro s hs
  rcases List.mem_append.1 hs with hs | hs
  · exact Nat.le_of_lt ((List.pairwise_append.1 h.up).2.2 s hs z (by simp))
  · rw [List.mem_singleton.1 hs]; exact Nat.le_refl _
theorem Good.lt8 (h : Good nm A z g d) : ∀ s ∈ A ++ [z], s.first < 100000000 := by
  intro s hs
  have := h.low s hs
  have := h.lim
  unfold Sg.next at this
  omega
theorem rising_of {S : List Sg} (nm : ByteArray) (up : S.Pairwise fun a b => a.first < b.first) (h8 : ∀ s ∈ S, s.first < 100000000) : Rising (S.map (Sg.file nm)) := by
  unfold Rising
  rw [List.pairwise_map]
  refine List.Pairwise.imp_of_mem ?_ up
  intro a b ha hb hab
  exact segNm_before _ hab (h8 b hb)
theorem Good.rising (h : Good nm A z g d) : Rising d.fs := by rw [h.fs]; exact rising_of nm h.up h.lt8
theorem fileNm_size (nm : ByteArray) {n : Nat} (h : n < 100000000) : (fileNm nm n).size = nm.size + 9 := by
  show (segNm nm.data.toList n).toArray.size = _
  rw [List.size_toArray, segNm_length _ h]
  simp
theorem find_at {fs : Fs} {n : ByteArray} {f : Fi} (h1 : 1 ≤ n.size) (h2 : n.size ≤ 32) (hg : getF fs n.data.toList = some f) : findE fs n = (f, 0) := by
  unfold findE
  rw [decide_eq_false (by omega), cond_false, decide_eq_false (by omega), cond_false, hg]
theorem find_no {fs : Fs} {n : ByteArray} (h1 : 1 ≤ n.size) (h2 : n.size ≤ 32) (hg : getF fs n.data.toList = none) : findE fs n = (Fi.none, 6) := by
  unfold findE
  rw [decide_eq_false (by omega), cond_false, decide_eq_false (by omega), cond_false, hg]
theorem Good.find (h : Good nm A z g d) {X Y : List Sg} {s : Sg} (hs : A ++ [z] = X ++ s :: Y) : findE d.fs (fileNm nm s.first) = (⟨bts s.recs, s.k⟩, 0) := by
  have hm : s ∈ A ++ [z] := by rw [hs]; simp
  have h8 := h.lt8 s hm
  refine find_at (by rw [fileNm_size _ h8]; omega) (by rw [fileNm_size _ h8]; have := h.nm2; omega) ?_
  have hr := h.rising
  rw [h.fs, hs, List.map_append, List.map_cons] at hr
  rw [h.fs, hs, List.map_append, List.map_cons]
  exact getF_mid hr
theorem Good.open (h : Good nm A z g d) {X Y : List Sg} {s : Sg} (hs : A ++ [z] = X ++ s :: Y) : openE d.fs d.dead (fileNm nm s.first) = (⟨bts s.recs, s.k⟩, 0) := by
  unfold openE
  rw [h.dead, Bool.and_false, cond_false, h.find hs]
theorem Good.last (h : Good nm A z g d) : g.last = fileNm nm z.first := by
  unfold Lg.last
  rw [h.g]
  show fileNm nm (lastN ((A ++ [z]).map Sg.first)) = _
  rw [List.map_append]
  simp [lastN]
theorem Good.look (h : Good nm A z g d) {X Y : List Sg} {s : Sg} (hs : A ++ [z] = X ++ s :: Y) : d.look (fileNm nm s.first) = ⟨bts s.recs, s.k⟩ := by unfold Ds.look; rw [h.find hs]
theorem Good.put (h : Good nm A z g d) (f : Fi) : putF d.fs (fileNm nm z.first).data.toList f = A.map (Sg.file nm) ++ [(segNm nm.data.toList z.first, f)] := by
  have hr := h.rising
  rw [h.fs, List.map_append, List.map_cons, List.map_nil] at hr
  rw [h.fs, List.map_append, List.map_cons, List.map_nil]
  exact putF_mid hr
theorem getF_none_of {S : List Sg} {nm : ByteArray} {n : Nat} (hn : n < 100000000) (h8 : ∀ s ∈ S, s.first < 100000000 ∧ s.first ≠ n) : getF (S.map (Sg.file nm)) (segNm nm.data.toList n) = none := by
  unfold getF
  rw [Option.map_eq_none_iff, List.find?_eq_none]
  intro p hp
  obtain ⟨s, hs, rfl⟩ := List.mem_map.1 hp
  obtain ⟨h1, h2⟩ := h8 s hs
  intro he
  exact h2 (fileNm_inj h1 hn (by simpa [isNm, Sg.file] using he))

def layS (A : List Sg) (z : Sg) (t : Nm) : List Sg × Sg :=
  bif decide (flen z.recs < 4096) then (A, ⟨z.first, z.recs ++ [t], z.k⟩) else (A ++ [⟨z.first, z.recs, flen z.recs⟩], ⟨z.next, [t], 0⟩)
theorem snoc_inj {α : Type} {X Y : List α} {a b : α} (h : X ++ [a] = Y ++ [b]) : X = Y ∧ a = b := by
  have := List.append_inj' h rfl
  exact ⟨this.1, by simpa using this.2⟩
theorem append_last (h : Good nm A z g d) (s : ByteArray) (hs : (s.size : Int) ≤ 70000) (hr : 70000 ≤ d.room) : d.append g.last s = (0, ⟨A.map (Sg.file nm) ++ [(segNm nm.data.toList z.first, ⟨bts z.recs ++ s, z.k⟩)], d.room - s.size, false⟩) := by
  unfold Ds.append
  rw [h.last, h.open (X := A) (Y := []) rfl]
  dsimp only
  have h1 : decide ((4194304 : Nat) < (bts z.recs).size + s.size) = false := decide_eq_false (by rw [bts_size]; have := h.zs; omega)
  have h2 : decide ((s.size : Int) ≤ d.room) = true := decide_eq_true (by omega)
  rw [h1, h2, h.put]
  rfl
theorem sync_last (h : Good nm A z g d) : d.sync g.last = (0, d.with (A.map (Sg.file nm) ++ [(segNm nm.data.toList z.first, ⟨bts z.recs, flen z.recs⟩)])) := by
  unfold Ds.sync
  rw [h.last, h.open (X := A) (Y := []) rfl]
  dsimp only
  rw [h.put, bts_size]
  rfl
/-- the last one is sure -/
theorem Good.synced (h : Good nm A z g d) : Good nm A ⟨z.first, z.recs, flen z.recs⟩ g (d.sync g.last).2 := by
  rw [sync_last h]
  refine ⟨by rw [h.g]; simp; rfl, by simp [Sg.file], h.dead, h.room, ?_, h.lim, h.nm1, h.nm2, h.few, h.full, h.zs, ?_, linked_same (z := z) (by rfl) h.link, ?_, Nat.le_refl _⟩
  · have := h.up
    rw [List.pairwise_append] at this ⊢
    exact ⟨this.1, by simp, fun a ha b hb => by rw [List.mem_singleton.1 hb]; exact this.2.2 a ha z (by simp)⟩
  · intro s hs
    rcases List.mem_append.1 hs with hs | hs
    · exact h.short s (by simp [hs])
    · rw [List.mem_singleton.1 hs]; exact h.short z (by simp)
  · intro s hs
    rcases List.mem_append.1 hs with hs | hs
    · exact h.rl s (by simp [hs])
    · rw [List.mem_singleton.1 hs]; exact h.rl z (by simp)
theorem lay_good (h : Good nm A z g d) (t : Nm) (ht : t.length ≤ 65536) (hn : z.next + 1 ≤ 1000000) (hf : flen z.recs < 4096 ∨ A.length < 63) :
    ∃ g' d', g.lay d (toB t) = (0, g', d') ∧ Good nm (layS A z t).1 (layS A z t).2 g' d' := by
  have hroom : 70000 + 70000 ≤ d.room := by have := h.room; omega
  have hfs : ((frameB (toB t)).size : Int) ≤ 70000 := by rw [frameB_size]; omega
  have hlk : d.look g.last = ⟨bts z.recs, z.k⟩ := by rw [h.last]; exact h.look (X := A) (Y := []) rfl
  unfold Lg.lay
  rw [hlk]
  dsimp only
  rw [bts_size]
  by_cases h4 : flen z.recs < 4096
  · rw [decide_eq_true h4, cond_true, append_last h _ hfs (by omega)]
    dsimp only
    refine ⟨_, _, rfl, ?_⟩
    have he : layS A z t = (A, ⟨z.first, z.recs ++ [t], z.k⟩) := by unfold layS; rw [decide_eq_true h4, cond_true]
    rw [he]
    dsimp only
    have hnx : Sg.next ⟨z.first, z.recs ++ [t], z.k⟩ = z.next + 1 := by simp [Sg.next]; omega
    refine ⟨?_, ?_, rfl, ?_, ?_, by rw [hnx]; exact hn, h.nm1, h.nm2, h.few, h.full, by show flen (z.recs ++ [t]) ≤ _; rw [flen_snoc]; omega, ?_, linked_same (z := z) (by rfl) h.link, ?_, by show z.k ≤ flen (z.recs ++ [t]); have := h.zk; rw [flen_snoc]; omega⟩
    · rw [h.g, hnx]; simp
    · rw [bts_snoc]; simp [Sg.file]
    · rw [hnx, frameB_size]; have := h.room; show _ ≤ d.room - _; omega
    · have := h.up
      rw [List.pairwise_append] at this ⊢
      exact ⟨this.1, by simp, fun a ha b hb => by rw [List.mem_singleton.1 hb]; exact this.2.2 a ha z (by simp)⟩
    · intro s hs X t' hx
      rcases List.mem_append.1 hs with hs | hs
      · exact h.short s (by simp [hs]) X t' hx
      · rw [List.mem_singleton.1 hs] at hx
        obtain ⟨rfl, _⟩ := snoc_inj (show z.recs ++ [t] = X ++ [t'] from hx)
        exact h4
    · intro s hs x hx
      rcases List.mem_append.1 hs with hs | hs
      · exact h.rl s (by simp [hs]) x hx
      · rw [List.mem_singleton.1 hs] at hx
        rcases List.mem_append.1 (show x ∈ z.recs ++ [t] from hx) with hx | hx
        · exact h.rl z (by simp) x hx
        · rw [List.mem_singleton.1 hx]; exact ht
  · have hz1 : 1 ≤ z.recs.length := by
      cases hr : z.recs with
      | nil => rw [hr] at h4; exact absurd (by decide) h4
      | cons _ _ => simp
    have hA : A.length < 63 := by rcases hf with hf | hf <;> omega
    have hS := h.synced
    have hn2 : g.next = z.next := by rw [h.g]
    rw [decide_eq_false h4, cond_false, hn2, decide_eq_false (by have := h.lim; omega), cond_false]
    have h8 : z.next < 100000000 := by have := h.lim; omega
    have hname : g.file z.next = fileNm nm z.next := by rw [h.g]; rfl
    have hno : getF (d.sync g.last).2.fs (fileNm nm z.next).data.toList = none := by
      rw [hS.fs]
      exact getF_none_of h8 (fun s hs => ⟨hS.lt8 s hs, by have := hS.low s hs; show s.first ≠ z.first + z.recs.length; have e : (Sg.mk z.first z.recs (flen z.recs)).first = z.first := rfl; omega⟩)
    have hop : openE (d.sync g.last).2.fs (d.sync g.last).2.dead (fileNm nm z.next) = (Fi.none, 6) := by
      unfold openE
      rw [hS.dead, Bool.and_false, cond_false]
      exact find_no (by rw [fileNm_size _ h8]; omega) (by rw [fileNm_size _ h8]; have := h.nm2; omega) hno
    have hput : ∀ f, putF (d.sync g.last).2.fs (fileNm nm z.next).data.toList f = (d.sync g.last).2.fs ++ [(segNm nm.data.toList z.next, f)] := by
      intro f
      have := putF_new (A := (d.sync g.last).2.fs) (B := []) (n := segNm nm.data.toList z.next) (f := f) (fun a ha => by
        rw [hS.fs] at ha
        obtain ⟨s, hs, rfl⟩ := List.mem_map.1 ha
        refine segNm_before _ ?_ h8
        have := hS.low s hs
        show s.first < z.first + z.recs.length
        have e : (Sg.mk z.first z.recs (flen z.recs)).first = z.first := rfl
        omega) (fun c hc => absurd hc List.not_mem_nil)
      rw [List.append_nil] at this
      exact this
    have hlen : (d.sync g.last).2.fs.length = A.length + 1 := by rw [hS.fs]; simp
    have hroom2 : (d.sync g.last).2.room = d.room := by rw [sync_last h]
    have hap : (d.sync g.last).2.append (fileNm nm z.next) (frameB (toB t)) = (0, ⟨(d.sync g.last).2.fs ++ [(segNm nm.data.toList z.next, ⟨frameB (toB t), 0⟩)], d.room - (frameB (toB t)).size, false⟩) := by
      unfold Ds.append
      rw [hop]
      dsimp only
      have h1 : decide (64 ≤ (d.sync g.last).2.fs.length) = false := decide_eq_false (by omega)
      have h2 : decide ((4194304 : Nat) < Fi.none.s.size + (frameB (toB t)).size) = false := decide_eq_false (by have : Fi.none.s.size = 0 := rfl; omega)
      have h3 : decide (((frameB (toB t)).size : Int) ≤ (d.sync g.last).2.room) = true := decide_eq_true (by omega)
      rw [h1, h2, h3, hput, hroom2]
      have h5 : withS Fi.none (frameB (toB t)) = ⟨frameB (toB t), 0⟩ := by
        show (⟨(⟨#[]⟩ : ByteArray) ++ frameB (toB t), 0⟩ : Fi) = _
        congr 1
      rw [h5]
      rfl
    rw [hname, hap]
    dsimp only
    refine ⟨_, _, rfl, ?_⟩
    have he : layS A z t = (A ++ [⟨z.first, z.recs, flen z.recs⟩], ⟨z.next, [t], 0⟩) := by unfold layS; rw [decide_eq_false h4, cond_false]
    rw [he]
    dsimp only
    have hnx : Sg.next ⟨z.next, [t], 0⟩ = z.next + 1 := rfl
    refine ⟨?_, ?_, rfl, ?_, ?_, by rw [hnx]; exact hn, h.nm1, h.nm2, by simp; omega, ?_, ?_, ?_, ?_, ?_, Nat.zero_le _⟩
    · rw [h.g, hnx]; simp
    · rw [hS.fs]
      have : bts [t] = frameB (toB t) := by unfold bts frameB toB; rw [frames_one]
      simp [Sg.file, this]
    · rw [hnx, frameB_size]; have := h.room; show _ ≤ d.room - _; omega
    · rw [List.pairwise_append]
      refine ⟨hS.up, by simp, fun a ha b hb => ?_⟩
      rw [List.mem_singleton.1 hb]
      have := hS.low a ha
      show a.first < z.first + z.recs.length
      have e : (Sg.mk z.first z.recs (flen z.recs)).first = z.first := rfl
      omega
    · intro a ha
      rcases List.mem_append.1 ha with ha | ha
      · exact h.full a ha
      · rw [List.mem_singleton.1 ha]; exact ⟨by show 4096 ≤ flen z.recs; omega, h.zs, rfl⟩
    · show flen [t] ≤ _; simp [flen]; omega
    · intro s hs X t' hx
      rcases List.mem_append.1 hs with hs | hs
      · exact hS.short s hs X t' hx
      · rw [List.mem_singleton.1 hs] at hx
        obtain ⟨rfl, _⟩ := snoc_inj (show [] ++ [t] = X ++ [t'] from hx)
        decide
    · exact linked_push (z := z) (by rfl) (by rfl) h.link
    · intro s hs x hx
      rcases List.mem_append.1 hs with hs | hs
      · exact hS.rl s hs x hx
      · rw [List.mem_singleton.1 hs] at hx
        rw [List.mem_singleton.1 (show x ∈ [t] from hx)]; exact ht
end
end Go.Proofs.YtghamhipcpgofaaGreatDoor
