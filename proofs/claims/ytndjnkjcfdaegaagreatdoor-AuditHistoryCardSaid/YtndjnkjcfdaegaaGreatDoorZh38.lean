/-
  Texts in one: LlB, LlC, TjW, LlD, LlE, LlF, TjX, LhT. No conditions of their own.
-/
import Derived.Test.YtndjnkjcfdaegaaGreatDoorZh37
set_option linter.all false

/-
  A history in memory: a row of ticks, each a slice of commands, and the commands that wait. Plain. No conditions of its own.
-/
namespace Go.Proofs.YtndjnkjcfdaegaaGreatDoor
open Go.RowKit

/-- a slice of commands -/
structure Hk where
  a : Option Addr
  c : Nat
  cs : List Cm
abbrev hkV (t : Hk) : Value := .slice t.a t.cs.length t.c
def cHk : Codec Hk := ⟨fun t => [hkV t], 1, fun _ => rfl, fun a u h => by simp at h; rcases h with rfl; rfl, by decide⟩
abbrev hkT : TypeId := 33
/-- THE HISTORY: a row of ticks of the call's own, the waiting commands' row, and each tick's commands, apart from both. -/
structure HisAt (w : World) (base : Nat) (tv qv : Value) (T : List Hk) (q : List Cm) : Prop where
  ts : OwnOf cHk hkT w base tv T
  qs : OwnOf cCm 40 w base qv q
  rd : ∀ t ∈ T, RdOf cCm w (hkV t) t.cs
  bl : ∀ t ∈ T, ∀ i, (hkV t).ownBlock = some i → (base ≤ i ∧ i < w.heap.size) ∧ ¬ tv.ownBlock = some i ∧ ¬ qv.ownBlock = some i
  tq : ∀ i, tv.ownBlock = some i → ¬ qv.ownBlock = some i
/-- its blocks -/
def HisS (tv qv : Value) (T : List Hk) (i : Nat) : Prop := tv.ownBlock = some i ∨ qv.ownBlock = some i ∨ ∃ t ∈ T, (hkV t).ownBlock = some i
section
variable {w w' : World} {base : Nat} {tv qv : Value} {T : List Hk} {q : List Cm}
theorem HisAt.nil (w : World) (base : Nat) : HisAt w base (.slice none 0 0) (.slice none 0 0) [] [] :=
  ⟨World.ownsRow_nil _ _ _ _, World.ownsRow_nil _ _ _ _, fun t h => (by cases h), fun t h => (by cases h), fun i h => (by cases h)⟩
theorem HisAt.lt (h : HisAt w base tv qv T q) {i : Nat} (hi : HisS tv qv T i) : base ≤ i ∧ i < w.heap.size := by
  rcases hi with e | e | ⟨t, ht, e⟩
  · exact h.ts.lt i e
  · exact h.qs.lt i e
  · exact (h.bl t ht i e).1
theorem HisAt.kept {S : Nat → Prop} (h : HisAt w base tv qv T q) (k : Keeps S w w') (hn : ∀ i, HisS tv qv T i → ¬ S i) : HisAt w' base tv qv T q :=
  ⟨k.owns h.ts (fun i e => hn i (.inl e)), k.owns h.qs (fun i e => hn i (.inr (.inl e))), fun t ht => (h.rd t ht).kept k (fun i e => hn i (.inr (.inr ⟨t, ht, e⟩))),
    fun t ht i e => ⟨⟨(h.bl t ht i e).1.1, Nat.lt_of_lt_of_le (h.bl t ht i e).1.2 k.size⟩, (h.bl t ht i e).2⟩, h.tq⟩
theorem HisAt.no (h : HisAt w base tv qv T q) (k : Keeps No w w') : HisAt w' base tv qv T q := h.kept k (fun _ _ h => h)
/-- a command waits -/
theorem HisAt.push (h : HisAt w base tv qv T q) {v : Value} {c : Cm} (ho : OwnOf cCm 40 w' base v (q ++ [c])) (k : Keeps (Of qv) w w') (hv : ∀ i, v.ownBlock = some i → qv.ownBlock = some i ∨ w.heap.size ≤ i) : HisAt w' base tv v T (q ++ [c]) := by
  refine ⟨k.owns h.ts (fun i e => h.tq i e), ho, fun t ht => (h.rd t ht).kept k (fun i e => (h.bl t ht i e).2.2), fun t ht i e => ?_, fun i e e2 => ?_⟩
  · obtain ⟨⟨b1, b2⟩, b3, b4⟩ := h.bl t ht i e
    refine ⟨⟨b1, Nat.lt_of_lt_of_le b2 k.size⟩, b3, fun e2 => ?_⟩
    rcases hv i e2 with e3 | e3
    · exact b4 e3
    · omega
  · rcases hv i e2 with e3 | e3
    · exact h.tq i e e3
    · have := (h.ts.lt i e).2
      omega
theorem HisS.push {v : Value} {i : Nat} (hv : ∀ i, v.ownBlock = some i → qv.ownBlock = some i ∨ w.heap.size ≤ i) (hi : HisS tv v T i) : HisS tv qv T i ∨ w.heap.size ≤ i := by
  rcases hi with e | e | e
  · exact .inl (.inl e)
  · rcases hv i e with e | e
    · exact .inl (.inr (.inl e))
    · exact .inr e
  · exact .inl (.inr (.inr e))
/-- a tick is opened -/
theorem HisAt.tick {a : Option Addr} {c : Nat} (h : HisAt w base tv (.slice a q.length c) T q) {v : Value} (ho : OwnOf cHk hkT w' base v (T ++ [⟨a, c, q⟩])) (k : Keeps (Of tv) w w') (hv : ∀ i, v.ownBlock = some i → tv.ownBlock = some i ∨ w.heap.size ≤ i) :
    HisAt w' base v (.slice none 0 0) (T ++ [⟨a, c, q⟩]) [] := by
  refine ⟨ho, World.ownsRow_nil _ _ _ _, fun t ht => ?_, fun t ht i e => ?_, fun i _ e => (by cases e)⟩
  · rcases List.mem_append.1 ht with e | e
    · exact (h.rd t e).kept k (fun i e2 => (h.bl t e i e2).2.1)
    · rw [List.mem_singleton.1 e]
      exact (OwnOf.reads h.qs).kept k (fun i e2 e3 => h.tq i e3 e2)
  · rcases List.mem_append.1 ht with e2 | e2
    · obtain ⟨⟨b1, b2⟩, b3, b4⟩ := h.bl t e2 i e
      refine ⟨⟨b1, Nat.lt_of_lt_of_le b2 k.size⟩, fun e3 => ?_, fun e3 => (by cases e3)⟩
      rcases hv i e3 with e4 | e4
      · exact b3 e4
      · omega
    · rw [List.mem_singleton.1 e2] at e
      obtain ⟨b1, b2⟩ := h.qs.lt i e
      refine ⟨⟨b1, Nat.lt_of_lt_of_le b2 k.size⟩, fun e3 => ?_, fun e3 => (by cases e3)⟩
      rcases hv i e3 with e4 | e4
      · exact h.tq i e4 e
      · omega
theorem HisS.tick {a : Option Addr} {c : Nat} {v : Value} {i : Nat} (hv : ∀ i, v.ownBlock = some i → tv.ownBlock = some i ∨ w.heap.size ≤ i) (hi : HisS v (.slice none 0 0) (T ++ [⟨a, c, q⟩]) i) : HisS tv (.slice a q.length c) T i ∨ w.heap.size ≤ i := by
  rcases hi with e | e | ⟨t, ht, e⟩
  · rcases hv i e with e | e
    · exact .inl (.inl e)
    · exact .inr e
  · cases e
  · rcases List.mem_append.1 ht with e2 | e2
    · exact .inl (.inr (.inr ⟨t, e2, e⟩))
    · rw [List.mem_singleton.1 e2] at e
      exact .inl (.inr (.inl e))
end
/-- the history as data -/
def hisOf (T : List Hk) (q : List Cm) : His := (T.map Hk.cs, q)
end Go.Proofs.YtndjnkjcfdaegaaGreatDoor

/-
  Where the loop of AuditHistory stands, in memory and as data; what each deed makes of it. No conditions of its own, but that the tables are laid.
-/
namespace Go.Proofs.YtndjnkjcfdaegaaGreatDoor
open Go.RowKit Go.Joins Go.Deep

section
variable {w w' : World} {base : Nat} {P : Lp} {ld : Ld} {ds ds' : Ds}
/-- the disk is another one -/
theorem LedAt.diskCut (h : LedAt w base P ld ds) (k : Keeps (Two P.p P.b) w w') (hd : DAt w' P.p P.b ds') : LedAt w' base P ld ds' := by
  have hp : ∀ i, Two P.p P.b i → LogSS P i := fun i hi => by
    rcases hi with e | e
    · exact .inr (.inl e)
    · exact .inr (.inr (.inl e))
  have hP : ∀ i, Two P.p P.b i → LedS P i := fun i hi => .inr (.inr (hp i hi))
  refine ⟨k.heap h.box (fun e => h.nl.2 (hp _ e)), h.desk.kept k (fun i hi e => h.dl i hi (hp i e)) (fun e => h.nm (hP _ e)), h.log.disked k hd, k.owns h.own (fun i hi e => ?_), k.owns h.cm (fun i hi e => h.nc i hi (hP _ e)), h.dl, h.nl, h.nc, h.nm, h.bl, h.e0, h.e1, h.cl⟩
  rcases e with e | e
  · exact h.log.vp (e ▸ hi)
  · exact h.log.vb (e ▸ hi)
end
/-- WHERE THE LOOP STANDS: the ledger, what was let in and when, the world's form in its box. -/
structure LogsAt (w wr : World) (G p b : Nat) (zf : Zf) (tv qv : Value) (T : List Hk) (q : List Cm) (H : His) (P : Lp) (ld : Ld) (ds : Ds) (k : Nat) : Prop where
  kp : Keeps No w wr
  led : LedAt wr w.heap.size P ld ds
  pp : P.p = p
  pb : P.b = b
  his : HisAt wr w.heap.size tv qv T q
  cf : cellsAt wr G 0 7 = some (zfC zf)
  gn : ¬ LedS P G ∧ ¬ HisS tv qv T G
  hn : ∀ i, HisS tv qv T i → ¬ LedS P i ∧ ¬ P.cv.ownBlock = some i ∧ P.D.m ≠ i
  z : zfOk zf = true
  st : ∃ rs, Tells zf ld ds rs ∧ rs.length ≤ 1 + 2 * k ∧ hist rs = H
  ep : 1 ≤ ld.ep ∧ ld.ep ≤ k + 1
section
variable {w wr w' : World} {G p b : Nat} {zf : Zf} {tv qv : Value} {T : List Hk} {q : List Cm} {H : His} {P : Lp} {ld ld' : Ld} {ds ds' : Ds} {k : Nat}
theorem LogsAt.no (h : LogsAt w wr G p b zf tv qv T q H P ld ds k) (kn : Keeps No wr w') : LogsAt w w' G p b zf tv qv T q H P ld ds k :=
  ⟨h.kp.trans kn (fun _ _ h => h), h.led.no kn, h.pp, h.pb, h.his.no kn, kn.cellsAt h.cf, h.gn, h.hn, h.z, h.st, h.ep⟩
theorem LogsAt.later (h : LogsAt w wr G p b zf tv qv T q H P ld ds k) : LogsAt w wr G p b zf tv qv T q H P ld ds (k + 1) := by
  obtain ⟨rs, h1, h2, h3⟩ := h.st
  have h4 := h.ep
  exact ⟨h.kp, h.led, h.pp, h.pb, h.his, h.cf, h.gn, h.hn, h.z, ⟨rs, h1, by omega, h3⟩, ⟨h4.1, by omega⟩⟩
/-- a deed that the ledger does -/
theorem LogsAt.post (h : LogsAt w wr G p b zf tv qv T q H P ld ds k) (hp : LedPost wr w.heap.size P ld' ds' w') {H' : His} (hs : ∃ rs', Tells zf ld' ds' rs' ∧ rs'.length ≤ 1 + 2 * k + 2 ∧ hist rs' = H') (he : ld'.ep = ld.ep) :
    ∃ P', P'.l = P.l ∧ LogsAt w w' G p b zf tv qv T q H' P' ld' ds' (k + 1) := by
  obtain ⟨P', a1, a2, a3, a4⟩ := hp
  obtain ⟨rs', t1, t2, t3⟩ := hs
  have hlt : ∀ {i : Nat} {P0 : Prop}, LedS P' i → i < wr.heap.size → (LedS P i → P0) → P0 := fun {i} {P0} hi hlt hf => by
    rcases a3 i hi with e | e
    · exact hf e
    · omega
  have hG := cellsAt_block h.cf
  have hE := h.ep
  refine ⟨P', a4.l, h.kp.trans a2 (fun i hi e => ?_), a1, a4.p.trans h.pp, a4.b.trans h.pb, h.his.kept a2 (fun i hi => (h.hn i hi).1), cellsAt_kept a2 h.cf h.gn.1, ⟨fun e => hlt e hG h.gn.1, h.gn.2⟩, fun i hi => ?_, h.z, ⟨rs', t1, by omega, t3⟩, ⟨by omega, by omega⟩⟩
  · have := h.led.le i e
    omega
  · obtain ⟨n1, n2, n3⟩ := h.hn i hi
    obtain ⟨hi1, hi2⟩ := h.his.lt hi
    refine ⟨fun e => hlt e hi2 n1, fun e => ?_, by rw [a4.m]; exact n3⟩
    rcases a4.c i e with e | e | e
    · exact n2 e
    · exact n1 e
    · omega
/-- the history is another one -/
theorem LogsAt.his' (h : LogsAt w wr G p b zf tv qv T q H P ld ds k) {tv' qv' : Value} {T' : List Hk} {q' : List Cm} {S : Nat → Prop} (hh : HisAt w' w.heap.size tv' qv' T' q') (hk : Keeps S wr w') (hS : ∀ i, S i → HisS tv qv T i) (hn : ∀ i, HisS tv' qv' T' i → HisS tv qv T i ∨ wr.heap.size ≤ i) :
    LogsAt w w' G p b zf tv' qv' T' q' H P ld ds k := by
  have hG := cellsAt_block h.cf
  refine ⟨h.kp.trans hk (fun i hi e => ?_), h.led.kept hk (fun i hi e => (h.hn i (hS i e)).1 hi) (fun i hi e => (h.hn i (hS i e)).2.1 hi) (fun e => (h.hn _ (hS _ e)).2.2 rfl), h.pp, h.pb, hh, cellsAt_kept hk h.cf (fun e => h.gn.2 (hS _ e)), ⟨h.gn.1, fun e => ?_⟩, fun i hi => ?_, h.z, h.st, h.ep⟩
  · have := (h.his.lt (hS i e)).1
    omega
  · rcases hn G e with e | e
    · exact h.gn.2 e
    · omega
  · rcases hn i hi with e | e
    · exact h.hn i e
    · refine ⟨fun e2 => ?_, fun e2 => ?_, fun e2 => ?_⟩
      · have := h.led.lt i e2
        omega
      · have := (h.led.cm.lt i e2).2
        omega
      · have := cellsAt_block h.led.desk.map
        omega
theorem LogsAt.push (h : LogsAt w wr G p b zf tv qv T q H P ld ds k) {v : Value} {c : Cm} (ho : OwnOf cCm 40 w' w.heap.size v (q ++ [c])) (hk : Keeps (Of qv) wr w') (hv : ∀ i, v.ownBlock = some i → qv.ownBlock = some i ∨ wr.heap.size ≤ i) :
    LogsAt w w' G p b zf tv v T (q ++ [c]) H P ld ds k :=
  h.his' (h.his.push ho hk hv) hk (fun _ e => .inr (.inl e)) (fun _ hi => HisS.push (w := wr) hv hi)
theorem LogsAt.tick {a : Option Addr} {c : Nat} (h : LogsAt w wr G p b zf tv (.slice a q.length c) T q H P ld ds k) {v : Value} (ho : OwnOf cHk hkT w' w.heap.size v (T ++ [⟨a, c, q⟩])) (hk : Keeps (Of tv) wr w') (hv : ∀ i, v.ownBlock = some i → tv.ownBlock = some i ∨ wr.heap.size ≤ i) :
    LogsAt w w' G p b zf v (.slice none 0 0) (T ++ [⟨a, c, q⟩]) [] H P ld ds k :=
  h.his' (h.his.tick ho hk hv) hk (fun _ e => .inl e) (fun _ hi => HisS.tick (w := wr) hv hi)
/-- the disk is to die -/
theorem LogsAt.cut (h : LogsAt w wr G p b zf tv qv T q H P ld ds k) (n : Int) (hd : DAt w' p b (ds.cut n)) (hk : Keeps (Own p) wr w') : LogsAt w w' G p b zf tv qv T q H P ld (ds.cut n) k := by
  obtain ⟨rs, s1, s2, s3⟩ := h.st
  have hk2 : Keeps (Two P.p P.b) wr w' := hk.mono (fun i _ e => .inl (by rw [h.pp]; exact e))
  have hP : ∀ i, Own p i → LedS P i := fun i e => .inr (.inr (.inr (.inl (by rw [h.pp]; exact e))))
  refine ⟨h.kp.trans hk (fun i hi e => ?_), h.led.diskCut hk2 (by rw [h.pp, h.pb]; exact hd), h.pp, h.pb, h.his.kept hk (fun i hi e => (h.hn i hi).1 (hP i e)), cellsAt_kept hk h.cf (fun e => h.gn.1 (hP _ e)), h.gn, h.hn, h.z, ⟨rs, s1.cut n, s2, s3⟩, h.ep⟩
  have := h.led.le i (hP i e)
  omega
/-- the disk of the ledger -/
theorem LogsAt.disk (h : LogsAt w wr G p b zf tv qv T q H P ld ds k) : DAt wr p b ds := by
  have := h.led.log.disk
  rw [h.pp, h.pb] at this
  exact this
def AgainPost (w : World) (G p b : Nat) (zf : Zf) (tv qv : Value) (T : List Hk) (q : List Cm) (H : His) (ep : Int) (k : Nat) (e : Ending) (w2 : World) : Prop :=
  ∃ P' ld' ds', e = .returned (.tuple #[dP P'.l, .int .i64 0]) ∧ LogsAt w w2 G p b zf tv qv T q H P' ld' ds' (k + 1) ∧ ld'.ep = ep + 1
/-- THE DISK CRASHES, and the ledger is opened again. -/
theorem LogsAt.reopen (h : LogsAt w wr G p b zf tv qv T q H P ld ds k) (hL : Laid w w.heap.size) (hk : k < 50) (hdd : ds.dead = false) (n : Int) {w1 : World} (hd : DAt w1 p b (ds.crash n)) (h1 : Keeps (Two p b) wr w1) :
    Calls Tryz.prog 6 #[dP p, zfV zf] w1 (AgainPost w G p b zf tv qv T q H ld.ep k) := by
  obtain ⟨rs, s1, s2, s3⟩ := h.st
  have hE := h.ep
  obtain ⟨there, g', out, d', l', d'', rs', o, q1, q2, q3, q4⟩ := s1.reopen hdd (by omega) (by omega) (by omega) n
  have hP : ∀ i, Two p b i → LedS P i := fun i e => by
    rcases e with e | e
    · exact .inr (.inr (.inr (.inl (by rw [h.pp]; exact e))))
    · exact .inr (.inr (.inr (.inr (.inl (by rw [h.pb]; exact e)))))
  have hpb := h.led.le p (hP p (.inl rfl))
  have hbb := h.led.le b (hP b (.inr rfl))
  have k1 : Keeps No w w1 := h.kp.trans h1 (fun i hi e => by rcases e with e | e <;> omega)
  have hc := ledOpen_any (hL.kept k1 (fun _ h => h.elim)) k1.size hd hpb hbb zf h.z there (ds.crash n) o.th g' out d' o.en (by have := o.ol; omega) (fun t ht => by have := o.os t ht; omega) (by have := o.nx; omega) (by have := o.fl; omega)
  rw [o.all] at hc
  refine hc.mono ?_
  rintro e w2 ⟨hk2, hd2, hm⟩
  obtain ⟨P', rfl, hn⟩ : ∃ P', e = .returned (.tuple #[dP P'.l, .int .i64 0]) ∧ LedNew w1 w2 w.heap.size p b P' l' d'' := hm
  have hkk : Keeps (Two p b) wr w2 := h1.trans hk2 (fun _ _ h => h)
  have hs1 := h1.size
  have hlt : ∀ {i : Nat}, LedS P' i → i < wr.heap.size → LedS P i := fun {i} hi hl => by
    rcases hn.new i hi with e | e | e
    · exact hP i (.inl e)
    · exact hP i (.inr e)
    · omega
  have hG := cellsAt_block h.cf
  refine ⟨P', l', d'', rfl, ⟨k1.trans hk2 (fun i hi e => ?_), hn.led, hn.pp, hn.pb, h.his.kept hkk (fun i hi e => (h.hn i hi).1 (hP i e)), cellsAt_kept hkk h.cf (fun e => h.gn.1 (hP _ e)), ⟨fun e => h.gn.1 (hlt e hG), h.gn.2⟩, fun i hi => ?_, h.z, ⟨rs', q1, by omega, q4.trans s3⟩, ⟨by omega, by omega⟩⟩, q3⟩
  · rcases e with e | e <;> omega
  · have hi2 := (h.his.lt hi).2
    obtain ⟨n1, n2, n3⟩ := h.hn i hi
    refine ⟨fun e => n1 (hlt e hi2), fun e => ?_, fun e => ?_⟩
    · have := hn.cv i e
      omega
    · have := hn.dm
      omega
end
/-- A LEDGER IS OPENED on a new disk: nothing is told. -/
theorem new_tells (zf : Zf) : ∃ l' d'', openAll zf ⟨ledName, [0], 0⟩ [] nwB.2.2 = (0, some l', d'') ∧ Tells zf l' d'' [epochRec 1] ∧ l'.ep = 1 := by
  obtain ⟨l', d'', A', z', e1, e2, e3, _, _⟩ := open_sits (zf := zf) (rs := []) (ep := 0) nw_good rfl (by decide) rfl rfl trivial (fun r hr => by cases hr) (by decide) rfl (by decide) (by decide) enc_epoch
  exact ⟨l', d'', e1, .inl ⟨e2.alive, A', z', e2⟩, e3⟩
end Go.Proofs.YtndjnkjcfdaegaaGreatDoor

/-
  A world's form and ticks among a law's arguments. No conditions of their own. States as data: what is owned; slices.IndexFunc and ContainsFunc of what came in. No conditions of their own.
-/
namespace Go.Proofs.YtndjnkjcfdaegaaGreatDoor
open Go.ChangeShapes Go.WideShapes Go.ChangeAt Go.RowKit Go.Joins Go.Deep

section
variable {H : Type} {enc : TypeId × Value → H} {w : World} {base : Nat} {spare : Nat → Bool} {held : Bool} {n : Nat} {cs : List Value} {x : DataW H × List MemPlace}

theorem k1 : Tryz.prog.cellsOf 3 = 1 := by kernel_rfl
theorem kId : Tryz.prog.cellsOf 36 = 3 := by kernel_rfl
theorem kBd : Tryz.prog.cellsOf 38 = 11 := by kernel_rfl
theorem kCm : Tryz.prog.cellsOf 40 = 16 := by kernel_rfl
theorem kCf : Tryz.prog.cellsOf 23 = 7 := by kernel_rfl
theorem wf_i64 {a : Int} (h : (Lit.int .i64 a).wf = true) : i64 a := by
  have h1 : decide ((-9223372036854775808 : Int) ≤ a) = true ∧ decide (a ≤ (9223372036854775807 : Int)) = true := by
    have h0 : (decide (IntKind.i64.min ≤ a) && decide (a ≤ IntKind.i64.max)) = true := h
    exact ⟨(Bool.and_eq_true_iff.1 h0).1, (Bool.and_eq_true_iff.1 h0).2⟩
  exact ⟨of_decide_eq_true h1.1, of_decide_eq_true h1.2⟩
theorem one_ok {y : DataW H × List MemPlace} {c : Value} (h : DataW.trod enc Tryz.prog w base spare held n 3 [c] = some y) : ∃ a, c = .int .i64 a ∧ i64 a := by
  obtain ⟨a, ha, _, hw⟩ := DataW.trod_int Tryz.underlying3 h
  exact ⟨a, by simpa using ha, wf_i64 hw⟩

set_option maxRecDepth 100000 in
theorem trodNam (h : DataW.trod enc Tryz.prog w base spare held n 36 cs = some x) : ∃ a : Nam, cs = namC a ∧ i64 a.s ∧ i64 a.i ∧ i64 a.g := by
  obtain ⟨y0, y1, y2, m, _, hl, h0, h1, h2⟩ := trod_struct3 Tryz.underlying36 h
  rw [kId] at hl
  match cs, hl with
  | [c0, c1, c2], _ =>
    simp only [k1] at h0 h1 h2
    obtain ⟨a0, rfl, w0⟩ := one_ok (c := c0) h0
    obtain ⟨a1, rfl, w1⟩ := one_ok (c := c1) h1
    obtain ⟨a2, rfl, w2⟩ := one_ok (c := c2) h2
    exact ⟨⟨a0, a1, a2⟩, rfl, w0, w1, w2⟩
set_option maxRecDepth 100000 in
theorem trodBd (h : DataW.trod enc Tryz.prog w base spare held n 38 cs = some x) : ∃ b : Bd, cs = bdC b ∧ b.ok := by
  obtain ⟨xs, m, _, _, hl, hxl, hf⟩ := DataW.trod_struct Tryz.underlying38 h
  rw [kBd] at hl
  match cs, hl with
  | [c0, c1, c2, c3, c4, c5, c6, c7, c8, c9, c10], _ =>
    match xs, hxl with
    | [x0, x1, x2, x3, x4, x5, x6, x7, x8], _ =>
      have h0 := hf 0 _ rfl
      have h1 := hf 1 _ rfl
      have h2 := hf 2 _ rfl
      have h3 := hf 3 _ rfl
      have h4 := hf 4 _ rfl
      have h5 := hf 5 _ rfl
      have h6 := hf 6 _ rfl
      have h7 := hf 7 _ rfl
      have h8 := hf 8 _ rfl
      simp [k1, kId] at h0 h1 h2 h3 h4 h5 h6 h7 h8
      obtain ⟨a, ha, z0, z1, z2⟩ := trodNam (cs := [c0, c1, c2]) h0
      simp only [namC, List.cons.injEq, and_true] at ha
      obtain ⟨rfl, rfl, rfl⟩ := ha
      obtain ⟨a1, rfl, z3⟩ := one_ok (c := c3) h1
      obtain ⟨a2, rfl, z4⟩ := one_ok (c := c4) h2
      obtain ⟨a3, rfl, z5⟩ := one_ok (c := c5) h3
      obtain ⟨a4, rfl, z6⟩ := one_ok (c := c6) h4
      obtain ⟨a5, rfl, z7⟩ := one_ok (c := c7) h5
      obtain ⟨a6, rfl, z8⟩ := one_ok (c := c8) h6
      obtain ⟨a7, rfl, z9⟩ := one_ok (c := c9) h7
      obtain ⟨a8, rfl, za⟩ := one_ok (c := c10) h8
      exact ⟨⟨a.s, a.i, a.g, a1, a2, a3, a4, a5, a6, a7, a8⟩, rfl, z0, z1, z2, z3, z4, z5, z6, z7, z8, z9, za⟩
set_option maxRecDepth 100000 in
theorem trodCm (h : DataW.trod enc Tryz.prog w base spare held n 40 cs = some x) : ∃ o : Cm, cs = cmC o ∧ o.ok := by
  obtain ⟨xs, m, _, _, hl, hxl, hf⟩ := DataW.trod_struct Tryz.underlying40 h
  rw [kCm] at hl
  match cs, hl with
  | [c0, c1, c2, c3, d0, d1, d2, d3, d4, d5, d6, d7, d8, d9, d10, c15], _ =>
    match xs, hxl with
    | [x0, x1, x2, x3], _ =>
      have h0 := hf 0 _ rfl
      have h1 := hf 1 _ rfl
      have h2 := hf 2 _ rfl
      have h3 := hf 3 _ rfl
      simp [k1, kId, kBd] at h0 h1 h2 h3
      obtain ⟨a0, rfl, z0⟩ := one_ok (c := c0) h0
      obtain ⟨a, ha, y0, y1, y2⟩ := trodNam (cs := [c1, c2, c3]) h1
      simp only [namC, List.cons.injEq, and_true] at ha
      obtain ⟨rfl, rfl, rfl⟩ := ha
      obtain ⟨b, hb, hbo⟩ := trodBd (cs := [d0, d1, d2, d3, d4, d5, d6, d7, d8, d9, d10]) h2
      simp only [bdC, List.cons.injEq, and_true] at hb
      obtain ⟨rfl, rfl, rfl, rfl, rfl, rfl, rfl, rfl, rfl, rfl, rfl⟩ := hb
      obtain ⟨a1, rfl, z1⟩ := one_ok (c := c15) h3
      exact ⟨⟨a0, a.s, a.i, a.g, b, a1⟩, rfl, z0, y0, y1, y2, hbo, z1⟩
set_option maxRecDepth 100000 in
theorem trodZf (h : DataW.trod enc Tryz.prog w base spare held n 23 cs = some x) : ∃ z : Zf, cs = zfC z := by
  obtain ⟨xs, m, _, _, hl, hxl, hf⟩ := DataW.trod_struct Tryz.underlying23 h
  rw [kCf] at hl
  match cs, hl with
  | [c0, c1, c2, c3, c4, c5, c6], _ =>
    match xs, hxl with
    | [x0, x1, x2, x3, x4, x5, x6], _ =>
      have h0 := hf 0 _ rfl
      have h1 := hf 1 _ rfl
      have h2 := hf 2 _ rfl
      have h3 := hf 3 _ rfl
      have h4 := hf 4 _ rfl
      have h5 := hf 5 _ rfl
      have h6 := hf 6 _ rfl
      simp [k1] at h0 h1 h2 h3 h4 h5 h6
      obtain ⟨a0, rfl, _⟩ := one_ok (c := c0) h0
      obtain ⟨a1, rfl, _⟩ := one_ok (c := c1) h1
      obtain ⟨a2, rfl, _⟩ := one_ok (c := c2) h2
      obtain ⟨a3, rfl, _⟩ := one_ok (c := c3) h3
      obtain ⟨a4, rfl, _⟩ := one_ok (c := c4) h4
      obtain ⟨a5, rfl, _⟩ := one_ok (c := c5) h5
      obtain ⟨a6, rfl, _⟩ := one_ok (c := c6) h6
      exact ⟨⟨a0, a1, a2, a3, a4, a5, a6⟩, rfl⟩

/-- a slice of rows, each of a kind, out of a reading -/
theorem trodAllOf {α : Type} (C : Codec α) (a0 : α) (P : α → Prop) {t e : TypeId} (ht : Tryz.prog.underlying t = some (.slice e)) (hC : Tryz.prog.cellsOf e = C.size)
    (hel : ∀ {n : Nat} {cs : List Value} {x : DataW H × List MemPlace}, DataW.trod enc Tryz.prog w base spare held n e cs = some x → ∃ a, cs = C.cells a ∧ P a)
    (h : DataW.trod enc Tryz.prog w base spare held n t cs = some x) : ∃ (v : Value) (l : List α), cs = [v] ∧ RdOf C w v l ∧ ∀ a ∈ l, P a := by
  rcases open_slice ht h with ⟨rfl, _⟩ | ⟨a, len, cap, m, n', D, Pl, rfl, _, hl, hm, hmm, _, hx⟩
  · exact ⟨_, [], rfl, Reads.nil _ _, fun a h => by cases h⟩
  · have hlm : len ≤ m := by rw [hmm]; split <;> omega
    have hp : ∀ i, i < len → ∃ p : α, w.cells? base (a.add (i * C.size)) C.size = some (C.cells p) ∧ P p := by
      intro i hi
      obtain ⟨cs', h1, h2⟩ := hx i (by omega)
      rw [hC] at h1
      obtain ⟨p, rfl, hP⟩ := hel h2
      exact ⟨p, h1, hP⟩
    obtain ⟨g, hg⟩ := @choose_lt α ⟨a0⟩ len _ hp
    refine ⟨_, (List.range len).map g, rfl, ?_, fun p hp => ?_⟩
    · have hlen : ((List.range len).map g).length = len := by simp
      have := rdOf_of C (w := w) (a := a) (c := cap) (l := (List.range len).map g) (by omega) hm (fun i hi j u hu => by
        have hil : i < len := by simpa using hi
        have h1 := (hg i hil).1
        obtain ⟨_, h2, h3⟩ := World.cells?_some h1
        simp only [List.getElem_map, List.getElem_range] at hu
        have hj3 : j < C.size := by have := (List.getElem?_eq_some_iff.1 hu).1; rw [C.len] at this; exact this
        have := h3 j hj3
        rwa [add_add, hu] at this)
      rwa [hlen] at this
    · obtain ⟨i, hi, rfl⟩ := List.mem_map.1 hp
      exact (hg i (by simpa using hi)).2
end
set_option maxRecDepth 100000 in
theorem open_zf {H : Type} {enc : TypeId × Value → H} {W : World} {base : Nat} {v : Value} {d : DataW H} {ps : List MemPlace}
    (hv : Value.okWide Tryz.prog W .any base 23 v) (h : DataW.Trod enc Tryz.prog W 0 (fun _ => true) true 23 v d ps) : ∃ z : Zf, v = zfV z := by
  obtain ⟨cs, rfl, _⟩ := okWide_struct Tryz.underlying23 hv
  obtain ⟨n, hn⟩ := h
  obtain ⟨z, hc⟩ := trodZf hn
  refine ⟨z, ?_⟩
  have : cs = (zfC z).toArray := by simp [Value.cells] at hc; rw [← hc]
  rw [this]
end Go.Proofs.YtndjnkjcfdaegaaGreatDoor

namespace Go.Proofs.YtndjnkjcfdaegaaGreatDoor
open Go.RowKit Go.Joins Go.Deep Go.Sort

/-- An Out: its number, its target, its state, the entity. -/
structure Ou where
  n : Int
  tt : Int
  st : Int
  b : Bd
/-- An In: its source, its number, the entity. -/
structure Inn where
  f : Int
  n : Int
  b : Bd
abbrev ouC (o : Ou) : List Value := [.int .i64 o.n, .int .i64 o.tt, .int .i64 o.st, .int .i64 o.b.s, .int .i64 o.b.i, .int .i64 o.b.g, .int .i64 o.b.m, .int .i64 o.b.x, .int .i64 o.b.y, .int .i64 o.b.vx, .int .i64 o.b.vy, .int .i64 o.b.hp, .int .i64 o.b.pw, .int .i64 o.b.lf]
abbrev inC (x : Inn) : List Value := [.int .i64 x.f, .int .i64 x.n, .int .i64 x.b.s, .int .i64 x.b.i, .int .i64 x.b.g, .int .i64 x.b.m, .int .i64 x.b.x, .int .i64 x.b.y, .int .i64 x.b.vx, .int .i64 x.b.vy, .int .i64 x.b.hp, .int .i64 x.b.pw, .int .i64 x.b.lf]
def cOu : Codec Ou := ⟨ouC, 14, fun _ => rfl, fun a u h => by simp [ouC] at h; rcases h with rfl | rfl | rfl | rfl | rfl | rfl | rfl | rfl | rfl | rfl | rfl | rfl | rfl | rfl <;> rfl, by decide⟩
def cIn : Codec Inn := ⟨inC, 13, fun _ => rfl, fun a u h => by simp [inC] at h; rcases h with rfl | rfl | rfl | rfl | rfl | rfl | rfl | rfl | rfl | rfl | rfl | rfl | rfl <;> rfl, by decide⟩
def isIn (f n : Int) (x : Inn) : Bool := x.f == f && x.n == n
/-- A state: what it owns, what goes out, what came in (the rest is zero). -/
structure Sd where
  oa : Option Addr
  oc : Nat
  own : List Bd
  ua : Option Addr
  uc : Nat
  outs : List Ou
  ia : Option Addr
  ic : Nat
  ins : List Inn
abbrev sdC (s : Sd) : List Value := [.int .i64 0, .int .i64 0, .slice s.oa s.own.length s.oc, .slice none 0 0, .slice s.ua s.outs.length s.uc, .slice s.ia s.ins.length s.ic, .slice none 0 0, .int .i64 0]
def cSd : Codec Sd := ⟨sdC, 8, fun _ => rfl, fun a u h => by simp [sdC] at h; rcases h with rfl | rfl | rfl | rfl | rfl | rfl | rfl | rfl <;> rfl, by decide⟩
structure SdReads (w : World) (s : Sd) : Prop where
  own : RdOf cBd w (.slice s.oa s.own.length s.oc) s.own
  outs : RdOf cOu w (.slice s.ua s.outs.length s.uc) s.outs
  ins : RdOf cIn w (.slice s.ia s.ins.length s.ic) s.ins
theorem SdReads.no {w w' : World} {s : Sd} (h : SdReads w s) (k : Keeps No w w') : SdReads w' s := ⟨h.own.kept k (fun _ _ h => h), h.outs.kept k (fun _ _ h => h), h.ins.kept k (fun _ _ h => h)⟩
/-- who has what goes out, if anyone -/
def whoOf (L : List Sd) (k : Nat) (o : Ou) : Option Int :=
  bif o.st == 3 then
    (bif decide (0 ≤ o.tt) && decide (o.tt < (L.length : Int)) then (bif (((L[o.tt.toNat]?).map fun s => s.ins.any (isIn k o.n)).getD false) then some o.tt else none) else none)
  else some k
/-- what a state's outs yield -/
def outsOf (L : List Sd) (k : Nat) (l : List Ou) : List (Int × Bd) := l.filterMap fun o => (whoOf L k o).map fun q => (q, o.b)
def oneOf (L : List Sd) (k : Nat) (s : Sd) : List (Int × Bd) := s.own.map (fun b => ((k : Int), b)) ++ outsOf L k s.outs
def ownedOf (L : List Sd) (k : Nat) : List (Int × Bd) := (List.range k).flatMap fun j => ((L[j]?).map (oneOf L j)).getD []
theorem ownedOf_succ (L : List Sd) (k : Nat) (h : k < L.length) : ownedOf L (k + 1) = ownedOf L k ++ oneOf L k L[k] := by
  unfold ownedOf
  rw [List.range_succ, List.flatMap_append]
  simp [h]
theorem outsOf_succ (L : List Sd) (k : Nat) (l : List Ou) (j : Nat) (h : j < l.length) : outsOf L k (l.take (j + 1)) = outsOf L k (l.take j) ++ ((whoOf L k l[j]).map fun q => (q, l[j].b)).toList := by
  unfold outsOf
  rw [List.take_succ_eq_append_getElem h, List.filterMap_append]
  cases hw : whoOf L k l[j] <;> simp [hw]

set_option maxHeartbeats 1000000 in
theorem idxIn (S : Nat → Prop) (w : World) (v : Value) (l : List Inn) (hv : RdOf cIn w v l) (fid : Nat) (first captured : Array Value) (pr : Inn → Bool) (hf : AnswersOf cIn Tryz.prog S w fid first captured pr) :
    Calls Tryz.prog 173 #[v, .func (.func fid) first captured] w fun e w' => e = .returned (.int .i64 (firstOf pr l)) ∧ Keeps No w w' := by
  obtain ⟨a, c, rfl⟩ := hv.slice
  have hlen := RdOf.len cIn hv
  unfold maxLen at hlen
  go_enter Tryz.func173, Tryz.ntmps173
  go_wp2
  go_loopw [8] (fun i wr => ∃ k : Nat, k ≤ l.length ∧ i = .int .i64 k ∧ (∀ j, (h : j < k) → (h2 : j < l.length) → pr l[j] = false) ∧ Keeps No w wr) (fun i _ => l.length - (intOf i).toNat)
  case atStart => exact ⟨0, Nat.zero_le _, rfl, fun j h => absurd h (Nat.not_lt_zero _), Keeps.refl _⟩
  case round =>
    obtain ⟨k, hk, rfl, hno, hkeep⟩ := hrel
    have Hno := Lib.hid hno; clear hno
    by_cases hlt : k < l.length
    · have hv' := hv.kept hkeep (fun _ _ h => h)
      obtain ⟨b, off, rfl, hc1, hc2, hb⟩ := RdOf.addr cIn hv' (by omega)
      have g0 : cellsAt wr b (off + k * 13) 13 = some (inC l[k]) := RdOf.at cIn hv' k hlt
      clear hc1 hc2
      have hcall := hf.call
      go_wp2_with fail
      refine (hf.ans _ l[k] (hkeep.mono (fun _ _ h => h.elim))).mono ?_
      rintro e w' ⟨rfl, hk'⟩
      by_cases hp : pr l[k] = true
      · have hfin : Hid (firstOf pr l = k) := firstOf_at pr l k hlt Hno.out hp
        go_wp2
        go_ret
        exact ⟨by rw [hfin.out]; rfl, hkeep.trans hk' (fun _ _ h => h)⟩
      · have hp' : pr l[k] = false := by simpa using hp
        have Hno' : Hid (∀ j, (h : j < k + 1) → (h2 : j < l.length) → pr l[j] = false) := fun j h h2 => by
          by_cases hj : j < k
          · exact Hno.out j hj h2
          · obtain rfl : j = k := by omega
            exact hp'
        go_wp2
        go_roundw
        case rel => exact ⟨k + 1, by omega, by go_num, Hno'.out, hkeep.trans hk' (fun _ _ h => h)⟩
        case measure => simp [intOf]; omega
    · have hfin : Hid (firstOf pr l = -1) := firstOf_none pr l (fun j hj => Hno.out j (by omega) hj)
      go_wp2
      go_ret
      exact ⟨by rw [hfin.out]; rfl, hkeep⟩
theorem any_firstOf {α : Type} (pr : α → Bool) (l : List α) : decide (0 ≤ firstOf pr l) = l.any pr := by
  rcases firstOf_cases pr l with ⟨h, hn⟩ | ⟨k, h, hk, hp, _⟩
  · rw [h, List.any_eq_false.2 (fun x hx => by simp [hn x hx])]
    rfl
  · rw [h, List.any_eq_true.2 ⟨l[k], List.getElem_mem hk, hp⟩]
    exact decide_eq_true (by omega)
set_option maxHeartbeats 1000000 in
theorem hasIn (S : Nat → Prop) (w : World) (v : Value) (l : List Inn) (hv : RdOf cIn w v l) (fid : Nat) (first captured : Array Value) (pr : Inn → Bool) (hf : AnswersOf cIn Tryz.prog S w fid first captured pr) :
    Calls Tryz.prog 123 #[v, .func (.func fid) first captured] w fun e w' => e = .returned (.bool (l.any pr)) ∧ Keeps No w w' := by
  have HI := Lib.hid (idxIn S w v l hv fid first captured pr hf)
  have HA := Lib.hid (any_firstOf pr l)
  obtain ⟨a, c, rfl⟩ := hv.slice
  obtain ⟨y, hy⟩ : ∃ y, y = firstOf pr l := ⟨_, rfl⟩
  rw [← hy] at HI HA
  clear hf hv hy
  go_enter Tryz.func123, Tryz.ntmps123
  go_wp2_with fail
  refine HI.out.mono ?_
  rintro e w' ⟨rfl, hk⟩
  go_wp2
  go_ret
  exact ⟨by rw [← HA.out]; rfl, hk⟩

set_option maxHeartbeats 1000000 in
theorem saw_any (ca cb : Nat) (k : Int) (o : Ou) (x : Inn) (w : World) (ha : w.cell? ⟨ca, 0, none⟩ = some (.int .i64 k)) (hb : cellsAt w cb 0 14 = some (ouC o)) :
    Calls Tryz.prog 124 #[.agg (inC x).toArray, .pointer (some ⟨ca, 0, none⟩), .pointer (some ⟨cb, 0, none⟩)] w fun e w' => e = .returned (.bool (isIn k o.n x)) ∧ Keeps No w w' := by
  have hb0 : w.cell? ⟨cb, 0, none⟩ = some (.int .i64 o.n) := cellsAt_cell hb 0 _ rfl
  have la := block_lt_of_cell ha
  have lb := block_lt_of_cell hb0
  dsimp only at la lb
  clear hb
  cases h1 : (x.f == k) <;> cases h2 : (x.n == o.n)
  all_goals
    have hfin : Hid (isIn k o.n x = (x.f == k && x.n == o.n)) := rfl
    go_enter Tryz.func124, Tryz.ntmps124
    go_wp2
    go_ret
    exact ⟨by rw [hfin.out, h1, h2]; rfl, (Keeps.refl _).alloc _⟩
theorem saw_answers (w0 : World) (ca cb : Nat) (k : Int) (o : Ou) (ha : w0.cell? ⟨ca, 0, none⟩ = some (.int .i64 k)) (hb : cellsAt w0 cb 0 14 = some (ouC o)) :
    AnswersOf cIn Tryz.prog No w0 124 #[] #[.pointer (some ⟨ca, 0, none⟩), .pointer (some ⟨cb, 0, none⟩)] (isIn k o.n) :=
  ⟨fun _ _ => by kernel_rfl, fun w p hk => saw_any ca cb k o p w (hk.cell ha (fun h => h)) (hk.cellsAt hb)⟩
theorem Open.lt {w : World} {b : Nat} (h : Open w b) : b < w.heap.size := by
  obtain ⟨C, t, hc⟩ := h
  exact (Array.getElem?_eq_some_iff.1 hc).1

def OpenT (w : World) (b : Nat) (t : TypeId) : Prop := ∃ C : Array Value, w.heap[b]? = some (.cells C t (0, 0))
theorem OpenT.open {w : World} {b : Nat} {t : TypeId} (h : OpenT w b t) : Open w b := let ⟨C, hc⟩ := h; ⟨C, t, hc⟩
theorem OpenT.no {w w' : World} {b : Nat} {t : TypeId} (h : OpenT w b t) (k : Keeps No w w') : OpenT w' b t := let ⟨C, hc⟩ := h; ⟨C, k.heap hc (fun h => h)⟩
theorem openT_new (w : World) (C : Array Value) (t : TypeId) (n : Nat) (hn : n = w.heap.size) : OpenT (w.alloc (.cells C t)) n t := by
  subst hn
  exact ⟨C, by unfold World.alloc; simp⟩
end Go.Proofs.YtndjnkjcfdaegaaGreatDoor

/-
  Deeds among a law's arguments. No conditions of their own.
-/
namespace Go.Proofs.YtndjnkjcfdaegaaGreatDoor
open Go.ChangeShapes Go.WideShapes Go.ChangeAt Go.RowKit Go.Joins Go.Deep

/-- a deed: its kind, its number, its command -/
structure De where
  k : Int
  n : Int
  c : Cm
abbrev deC (x : De) : List Value := [.int .i64 x.k, .int .i64 x.n, .int .i64 x.c.k, .int .i64 x.c.s, .int .i64 x.c.i, .int .i64 x.c.g, .int .i64 x.c.b.s, .int .i64 x.c.b.i, .int .i64 x.c.b.g, .int .i64 x.c.b.m, .int .i64 x.c.b.x, .int .i64 x.c.b.y, .int .i64 x.c.b.vx, .int .i64 x.c.b.vy, .int .i64 x.c.b.hp, .int .i64 x.c.b.pw, .int .i64 x.c.b.lf, .int .i64 x.c.m]
def cDe : Codec De := ⟨deC, 18, fun _ => rfl, fun a u h => by simp [deC] at h; rcases h with rfl | rfl | rfl | rfl | rfl | rfl | rfl | rfl | rfl | rfl | rfl | rfl | rfl | rfl | rfl | rfl | rfl | rfl <;> rfl, by decide⟩
abbrev deT : TypeId := 42
structure DeOk (x : De) : Prop where
  n : i64 x.n
  k : i64 x.k
  c : x.c.ok
section
variable {H : Type} {enc : TypeId × Value → H} {w : World} {base : Nat} {spare : Nat → Bool} {held : Bool} {n : Nat} {cs : List Value} {x : DataW H × List MemPlace}
theorem kDe : Tryz.prog.cellsOf deT = 18 := by kernel_rfl
set_option maxRecDepth 100000 in
theorem trodDe (h : DataW.trod enc Tryz.prog w base spare held n deT cs = some x) : ∃ d : De, cs = cDe.cells d ∧ DeOk d := by
  obtain ⟨xs, m, _, _, hl, hxl, hf⟩ := DataW.trod_struct Tryz.underlying42 h
  rw [kDe] at hl
  match cs, hl with
  | [e0, e1, c0, c1, c2, c3, c4, c5, c6, c7, c8, c9, c10, c11, c12, c13, c14, c15], _ =>
    match xs, hxl with
    | [x0, x1, x2], _ =>
      have h0 := hf 0 _ rfl
      have h1 := hf 1 _ rfl
      have h2 := hf 2 _ rfl
      simp [k1, kCm] at h0 h1 h2
      obtain ⟨a0, rfl, z0⟩ := one_ok (c := e0) h0
      obtain ⟨a1, rfl, z1⟩ := one_ok (c := e1) h1
      obtain ⟨c, hc, hco⟩ := trodCm (cs := [c0, c1, c2, c3, c4, c5, c6, c7, c8, c9, c10, c11, c12, c13, c14, c15]) h2
      simp only [cmC, List.cons.injEq, and_true] at hc
      obtain ⟨rfl, rfl, rfl, rfl, rfl, rfl, rfl, rfl, rfl, rfl, rfl, rfl, rfl, rfl, rfl, rfl⟩ := hc
      exact ⟨⟨a0, a1, c⟩, rfl, z1, z0, hco⟩
end
set_option maxRecDepth 100000 in
theorem open_des {H : Type} {enc : TypeId × Value → H} {W : World} {base : Nat} {v : Value} {d : DataW H} {ps : List MemPlace}
    (hv : Value.okWide Tryz.prog W .any base 24 v) (h : DataW.Trod enc Tryz.prog W 0 (fun _ => true) true 24 v d ps) : ∃ L : List De, RdOf cDe W v L ∧ ∀ x ∈ L, DeOk x := by
  obtain ⟨a, m, c, rfl⟩ := okWide_slice Tryz.underlying24 hv
  obtain ⟨n, hn⟩ := h
  obtain ⟨v, L, hc, hr, ht⟩ := trodAllOf cDe ⟨0, 0, ⟨0, 0, 0, 0, Bd.zero, 0⟩⟩ DeOk Tryz.underlying24 kDe trodDe hn
  obtain rfl : .slice a m c = v := by simpa [Value.cells] using hc
  exact ⟨L, hr, ht⟩
end Go.Proofs.YtndjnkjcfdaegaaGreatDoor

/-
  The document's SameCmds: it answers, and says so where the lists are the same. No conditions of its own.
-/
namespace Go.Proofs.YtndjnkjcfdaegaaGreatDoor
open Go.RowKit Go.Shelf Go.Sort Go.Joins Go.Deep
/-- an answer that is yes where p holds -/
def YesIf (p : Prop) (w : World) (e : Ending) (w' : World) : Prop := (∃ b, e = .returned (.bool b) ∧ (p → b = true)) ∧ Keeps No w w'
set_option maxRecDepth 100000 in
set_option maxHeartbeats 2000000 in
theorem sameCmds_any (w : World) (v u : Value) (l m : List Cm) (hv : RdOf cCm w v l) (hu : RdOf cCm w u m) (hl : l.length ≤ 1000) (hm : m.length ≤ 1000) : Calls Tryz.prog 14 #[v, u] w (YesIf (l = m) w) := by
  obtain ⟨va, vc, rfl⟩ := hv.slice
  obtain ⟨ua, uc, rfl⟩ := hu.slice
  have HV := Lib.hid hv
  have HU := Lib.hid hu
  have hl1 : (l.length : Int) ≤ 1000 := by omega
  have hm1 : (m.length : Int) ≤ 1000 := by omega
  clear hv hu hl hm
  by_cases hlm : (l.length : Int) = (m.length : Int)
  case neg =>
    have b0 : ((l.length : Int) != (m.length : Int)) = true := by simpa using hlm
    have FIN : Hid (YesIf (l = m) w (.returned (.bool false)) w) := Lib.hid ⟨⟨false, rfl, fun e => absurd (congrArg (fun x => (List.length x : Int)) e) hlm⟩, Keeps.refl _⟩
    clear hlm
    go_enter Tryz.func14, Tryz.ntmps14
    go_wp2
    go_ret
    exact FIN.out
  have b0 : ((l.length : Int) != (m.length : Int)) = false := by simpa using hlm
  have HLM : Hid (l.length = m.length) := Lib.hid (by omega)
  clear hlm
  go_enter Tryz.func14, Tryz.ntmps14
  go_wp2
  go_loopw [5] (fun q wr => ∃ k : Nat, k ≤ l.length ∧ q = .int .i64 k ∧ Keeps No w wr) (fun q _ => l.length - (intOf q).toNat)
  case atStart => exact ⟨0, Nat.zero_le _, rfl, Keeps.refl _⟩
  case round =>
    obtain ⟨k, hk, rfl, hK⟩ := hrel
    have KJ := Lib.hid hK
    have hk0 : (0 : Int) ≤ (k : Int) := by omega
    by_cases hlt : k < l.length
    · have hki : (k : Int) < (l.length : Int) := by omega
      have hkm : (k : Int) < (m.length : Int) := by have := HLM.out; omega
      have hltm : k < m.length := by have := HLM.out; omega
      have hrr : RdOf cCm wr (.slice va l.length vc) l := HV.out.kept hK (fun _ _ h => h)
      have hss : RdOf cCm wr (.slice ua m.length uc) m := HU.out.kept hK (fun _ _ h => h)
      obtain ⟨g, off, rfl, _, _, _⟩ := RdOf.addr cCm hrr (by omega)
      obtain ⟨g2, off2, rfl, _, _, _⟩ := RdOf.addr cCm hss (by omega)
      have cr : cellsAt wr g (off + k * 16) 16 = some (cmC l[k]) := RdOf.at cCm hrr k hlt
      have cs : cellsAt wr g2 (off2 + k * 16) 16 = some (cmC m[k]) := RdOf.at cCm hss k hltm
      have HNE : Hid (l = m → l[k] = m[k]) := Lib.hid (fun e => by subst e; rfl)
      obtain ⟨a, ha⟩ : ∃ a, a = l[k] := ⟨_, rfl⟩
      obtain ⟨c, hc⟩ : ∃ c, c = m[k] := ⟨_, rfl⟩
      rw [← ha] at cr HNE
      rw [← hc] at cs HNE
      have hcmp : ∀ W, (binOp .neq 40 (.agg (cmC a).toArray) (.agg (cmC c).toArray)).run Tryz.prog W = .ok (.bool (!cmEq a c)) W := fun W => run_neqCm a c W
      obtain ⟨T, hT⟩ : ∃ T, T = !cmEq a c := ⟨_, rfl⟩
      rw [← hT] at hcmp
      have HT := Lib.hid hT
      clear hrr hss ha hc hK hT hltm
      cases T with
      | false =>
        go_wp2
        go_quiet (fail)
        rename_i nq
        go_wp2
        go_roundw
        case rel => exact ⟨k + 1, by omega, by go_num, KJ.out.drewN _⟩
        case measure => simp [intOf]; omega
      | true =>
        have FIN : Hid (∀ n, YesIf (l = m) w (.returned (.bool false)) (wr.drewN n)) := Lib.hid (fun n => ⟨⟨false, rfl, fun e => by
          have h1 := (cmEq_iff a c).2 (HNE.out e)
          have h2 := HT.out
          rw [h1] at h2
          cases h2⟩, KJ.out.drewN n⟩)
        go_wp2
        go_quiet (fail)
        rename_i nq
        go_wp2
        go_ret
        exact FIN.out nq
    · have FIN : Hid (YesIf (l = m) w (.returned (.bool true)) wr) := Lib.hid ⟨⟨true, rfl, fun _ => rfl⟩, hK⟩
      have hki : ¬ (k : Int) < (l.length : Int) := by omega
      clear hK hk hlt
      go_wp2
      go_ret
      exact FIN.out
end Go.Proofs.YtndjnkjcfdaegaaGreatDoor

/-
  audit.History. No conditions of its own, but that the tables are laid.
-/
namespace Go.Proofs.YtndjnkjcfdaegaaGreatDoor
open Go.RowKit Go.Shelf Go.Sort Go.Joins Go.Deep

theorem hist_len (rs : List Lr) : (hist rs).1.length ≤ rs.length ∧ (hist rs).2.length ≤ rs.length ∧ ∀ t ∈ (hist rs).1, t.length ≤ rs.length := by
  suffices h : ∀ (n : Nat) (s : His), s.1.length ≤ n → s.2.length ≤ n → (∀ t ∈ s.1, t.length ≤ n) → (rs.foldl histS s).1.length ≤ n + rs.length ∧ (rs.foldl histS s).2.length ≤ n + rs.length ∧ ∀ t ∈ (rs.foldl histS s).1, t.length ≤ n + rs.length by
    have := h 0 ([], []) (Nat.le_refl _) (Nat.le_refl _) (fun t h => by cases h)
    unfold hist
    simpa using this
  induction rs with
  | nil => exact fun n s h1 h2 h3 => ⟨h1, h2, h3⟩
  | cons r rs ih =>
    intro n s h1 h2 h3
    have hs : (histS s r).1.length ≤ n + 1 ∧ (histS s r).2.length ≤ n + 1 ∧ ∀ t ∈ (histS s r).1, t.length ≤ n + 1 := by
      unfold histS
      cases decide (r.k = 3)
      · cases decide (r.k = 4)
        · exact ⟨by simp only [cond_false]; omega, by simp only [cond_false]; omega, fun t ht => Nat.le_succ_of_le (h3 t ht)⟩
        · refine ⟨by simp; omega, by simp, fun t ht => ?_⟩
          rcases List.mem_append.1 ht with e | e
          · exact Nat.le_succ_of_le (h3 t e)
          · rw [List.mem_singleton.1 e]; omega
      · exact ⟨by simp only [cond_true]; omega, by simp; omega, fun t ht => Nat.le_succ_of_le (h3 t ht)⟩
    have := ih (n + 1) (histS s r) hs.1 hs.2.1 hs.2.2
    rw [List.length_cons, show n + (rs.length + 1) = n + 1 + rs.length by omega]
    exact this
theorem hist_take {rs : List Lr} {k : Nat} (h : k < rs.length) : hist (rs.take (k + 1)) = histS (hist (rs.take k)) rs[k] := by
  rw [List.take_succ_eq_append_getElem h, hist_snoc]
/-- what is told of a disk -/
def HisPost (w : World) (H : His) (e : Ending) (w' : World) : Prop := ∃ tv qv T q, e = .returned (.tuple #[tv, qv, .int .i64 0]) ∧ HisAt w' w.heap.size tv qv T q ∧ hisOf T q = H ∧ Keeps No w w'
set_option maxRecDepth 100000 in
theorem history_nil (w : World) : Calls Tryz.prog 13 #[.pointer none] w fun e w' => e = .returned (.tuple #[.slice none 0 0, .slice none 0 0, .int .i64 1]) ∧ w' = w := by
  go_enter Tryz.func13, Tryz.ntmps13
  go_wp2
  go_ret3
  exact ⟨rfl, rfl⟩
theorem Tryz.infoHk : (Tryz.prog.info? hkT).map (fun i => (i.zero, i.size, i.bytes)) = some (some (.slice none 0 0), 1, 24) := by kernel_rfl
/-- where the loop stands: k records are told -/
structure ToldAt (w wr : World) (B : Nat) (ov : Value) (rs : List Lr) (tv qv : Value) (T : List Hk) (q : List Cm) (k : Nat) : Prop where
  kp : Keeps No w wr
  his : HisAt wr w.heap.size tv qv T q
  txt : OwnStr wr B ov rs.length (rs.map encT)
  off : ∀ i, ov.ownBlock = some i → ¬ HisS tv qv T i
  eq : hisOf T q = hist (rs.take k)
section
variable {w wr w' : World} {B : Nat} {ov : Value} {rs : List Lr} {tv qv : Value} {T : List Hk} {q : List Cm} {k : Nat}
theorem ToldAt.no (h : ToldAt w wr B ov rs tv qv T q k) (kn : Keeps No wr w') : ToldAt w w' B ov rs tv qv T q k :=
  ⟨h.kp.trans kn (fun _ _ h => h), h.his.no kn, kn.owns h.txt (fun _ _ h => h), h.off, h.eq⟩
theorem ToldAt.to (h : ToldAt w wr B ov rs tv qv T q k) {tv' qv' : Value} {T' : List Hk} {q' : List Cm} {S : Nat → Prop} {n : Nat} (hh : HisAt w' w.heap.size tv' qv' T' q') (hk : Keeps S wr w') (hS : ∀ i, S i → HisS tv qv T i) (hn : ∀ i, HisS tv' qv' T' i → HisS tv qv T i ∨ wr.heap.size ≤ i)
    (he : hisOf T' q' = hist (rs.take n)) : ToldAt w w' B ov rs tv' qv' T' q' n :=
  ⟨h.kp.trans hk (fun i hi e => by have := (h.his.lt (hS i e)).1; omega), hh, hk.owns h.txt (fun i hi e => h.off i hi (hS i e)), fun i hi e => by
    rcases hn i e with e | e
    · exact h.off i hi e
    · have := (h.txt.lt i hi).2
      omega, he⟩
theorem ToldAt.few (h : ToldAt w wr B ov rs tv qv T q k) (hr : rs.length ≤ 150) : T.length ≤ 150 ∧ q.length ≤ 150 := by
  have h1 := hist_len (rs.take k)
  rw [← h.eq] at h1
  have h2 : (rs.take k).length ≤ 150 := by rw [List.length_take]; omega
  have h3 : (hisOf T q).1.length = T.length := List.length_map _
  exact ⟨by omega, Nat.le_trans h1.2.1 h2⟩
end
set_option maxRecDepth 100000 in
set_option maxHeartbeats 4000000 in
theorem history_any {w : World} {base p b : Nat} {ds : Ds} (hL : Laid w base) (hb : base ≤ w.heap.size) (hd : DAt w p b ds) {zf : Zf} {there : List Nat} {g' : Lg} {d' : Ds} {rs : List Lr} (hr : Read zf (ds.crash 4194304) there g' d' rs) :
    Calls Tryz.prog 13 #[dP p] w (HisPost w (hist rs)) := by
  obtain ⟨H, hH⟩ : ∃ H, H = hist rs := ⟨_, rfl⟩
  rw [← hH]
  have HH := Lib.hid hH
  have HL := Lib.hid hL
  have Hb := Lib.hid hb
  have HR := Lib.hid hr
  have CC := Lib.hid (copy_any hd)
  have HF := Lib.hid hr.few
  have hfi : (rs.length : Int) ≤ 150 := by have := hr.few; omega
  clear hH hL hb hd hr
  go_enter Tryz.func13, Tryz.ntmps13
  go_wp2_with fail
  (with_reducible refine CC.out.mono ?_)
  rintro e w1 ⟨rfl, hd1, hk1⟩
  have CR := Lib.hid (crash_tot hd1 4194304)
  have K1 := Lib.hid hk1
  obtain ⟨B, hB⟩ : ∃ g, g = w.heap.size := ⟨_, rfl⟩
  rw [← hB] at CR ⊢
  have HB := Lib.hid hB
  clear hd1 hk1 hB CC
  go_wp2_with fail
  (with_reducible refine CR.out.mono ?_)
  rintro e w2 ⟨rfl, hd2, hk2⟩
  have K2 : Hid (Keeps No w w2) := Lib.hid (K1.out.trans hk2 (fun i hi e => by have := HB.out; rcases e with e | e <;> omega))
  have CO := Lib.hid (openLog_any (base := base) (HL.out.kept K2.out (fun _ h => h.elim)) (Nat.le_trans Hb.out K2.out.size) hd2 (by have := Hb.out; have := HB.out; omega) (by have := Hb.out; have := HB.out; omega) ledName (by kernel_rfl) there _ HR.out.th _ rfl g' _ d' HR.out.en)
  clear hd2 hk2 CR K1
  go_wp2_with fail
  (with_reducible refine CO.out.mono ?_)
  rintro e w3 ⟨l, v, ov, rfl, _, _, hov, _, _, hk3⟩
  have K3 : Hid (Keeps No w w3) := Lib.hid (K2.out.trans hk3 (fun i hi e => by have := HB.out; rcases e with e | e <;> omega))
  rw [List.length_map] at hov
  obtain ⟨oa, oc, rfl⟩ := ownsRow_slice hov
  have O3 : Hid (ToldAt w w3 w2.heap.size (.slice oa rs.length oc) rs (.slice none 0 0) (.slice none 0 0) [] [] 0) := Lib.hid ⟨K3.out, HisAt.nil _ _, hov, fun i hi e => (by
    rcases e with e | e | ⟨_, e, _⟩ <;> cases e), rfl⟩
  clear hov hk3 CO K2
  go_wp2_with fail
  go_loopw [9, 10, 32] (fun a c i wr => ∃ (k : Nat) (T : List Hk) (q : List Cm), k ≤ rs.length ∧ i = .int .i64 k ∧ ToldAt w wr w2.heap.size (.slice oa rs.length oc) rs a c T q k) (fun _ _ i _ => rs.length - (intOf i).toNat)
  case atStart => exact ⟨0, [], [], Nat.zero_le _, rfl, O3.out⟩
  case round =>
    obtain ⟨wq, hwq⟩ : ∃ x : World, x = wr := ⟨_, rfl⟩
    subst hwq
    obtain ⟨k, T, q, hk, rfl, hT⟩ := hrel
    have hk0 : (0 : Int) ≤ (k : Int) := by omega
    have TT := Lib.hid hT
    clear O3
    obtain ⟨ta, tc, rfl⟩ := ownsRow_slice hT.his.ts
    obtain ⟨qa, qc, rfl⟩ := ownsRow_slice hT.his.qs
    by_cases hlt : k < rs.length
    · have hki : (k : Int) < (rs.length : Int) := by omega
      have hrd : Reads wq 1 (.slice oa rs.length oc) rs.length ((rs.map encT).map encStr) := Reads.ofOwn hT.txt (by intro u hu; obtain ⟨t, _, rfl⟩ := List.mem_map.1 hu; rfl)
      obtain ⟨g, off, c', he, _, _, _, hx⟩ := Reads.addr hrd (by rw [List.length_map, List.length_map]; omega)
      simp only [Value.slice.injEq, true_and] at he
      obtain ⟨rfl, rfl⟩ := he
      have hc := hx k _ (by rw [List.getElem?_map, List.getElem?_map, List.getElem?_eq_getElem hlt]; rfl)
      obtain ⟨X, hX⟩ : ∃ X, X = toB (encT rs[k]) := ⟨_, rfl⟩
      have hc2 : wq.cell? ⟨g, off + k, none⟩ = some (.string X) := by rw [hX]; exact hc
      have CD : Hid (Calls Tryz.prog 19 #[.string X] wq (DecPost wq (rs[k], 0))) := Lib.hid (by
        have h1 := HR.out.sz rs[k] (List.getElem_mem hlt)
        have eX : X.size = (encT rs[k]).length := by rw [hX]; simp [toB, ByteArray.size]
        have := decode_any wq X (by omega)
        rw [show X.data.toList = encT rs[k] by rw [hX]; simp [toB], decL_enc (HR.out.may rs[k] (List.getElem_mem hlt))] at this
        exact this)
      have HS := Lib.hid (hist_take hlt)
      obtain ⟨r, hr⟩ : ∃ r, r = rs[k] := ⟨_, rfl⟩
      rw [← hr] at CD HS
      clear hx hc hrd hr hX hT
      go_wp2_with fail
      (with_reducible refine CD.out.mono ?_)
      rintro e w4 ⟨v4, rfl, ho4, hk4⟩
      obtain ⟨na, nc, rfl⟩ := ownsRow_slice ho4
      have T4 := Lib.hid (TT.out.no hk4)
      clear ho4 hk4 CD hc2 TT
      go_upto_region 14 with fail
      refine wp_world ?_
      intro W5 hW5
      have k5 : Keeps No w4 W5 := by rw [hW5]; exact (Keeps.refl _).alloc _
      have b5 : cellsAt W5 w4.heap.size 0 21 = some (lrC r (.slice na r.ids.length nc)) := by rw [hW5]; simp [go_sem]
      have T5 := Lib.hid (T4.out.no k5)
      obtain ⟨R, hR⟩ : ∃ g, g = w4.heap.size := ⟨_, rfl⟩
      rw [← hR] at b5 ⊢
      have b0 := cellsAt_cell b5 0 _ rfl
      simp only [Nat.zero_add] at b0
      have b4 : cellsAt W5 R 4 16 = some (cmC r.c) := cellsAt_part b5 4 (cmC r.c) rfl (by simp)
      clear hW5 k5 hR T4 b5
      have hfew := T5.out.few HF.out
      by_cases h3 : r.k = 3
      · have h3b : (r.k == 3) = true := by simpa using h3
        have HS3 : Hid (hist (rs.take (k + 1)) = (T.map Hk.cs, q ++ [r.c])) := Lib.hid (by
          rw [HS.out, ← T5.out.eq]
          unfold histS
          rw [decide_eq_true h3]
          rfl)
        obtain ⟨i0, hi, hz0, hz1, hz2⟩ := info_parts Tryz.infoCm
        have HQ := Lib.hid hfew.2
        clear h3 hfew HS
        go_wp2_with (at_builtin; refine wpList_append_reads rfl (.tmp 47) (.tmp 50) 33 rfl w.heap.size 40 i0 _ 16 128 Tryz.underlying33 hi hz0 hz1 hz2 rfl (by decide) (.slice qa q.length qc) q.length (rowsOf cCm q) rfl (T5.out.his.qs.alloc _) (.slice (some ⟨W5.heap.size, 0, none⟩) 1 1) 1 (cmC r.c) rfl (litReads cCm W5 40 r.c) ?c1 ?c2 ?c3 ?c4)
        case c1 => have := HQ.out; unfold maxLen; omega
        case c2 => have := HQ.out; omega
        case c3 => have := T5.out.kp.size; simp; omega
        case c4 =>
          intro v6 w6 ho6 hk6 hn6 _
          have k6 : Keeps (Of (.slice qa q.length qc)) W5 w6 := ((Keeps.refl W5).alloc _).trans hk6 (fun i _ e => e)
          have hn : ∀ i, v6.ownBlock = some i → (Value.slice qa q.length qc).ownBlock = some i ∨ W5.heap.size ≤ i := fun i hi => by
            rcases hn6 i hi with e | e
            · exact .inl e
            · exact .inr (Nat.le_trans (by simp) e)
          have O6 := Lib.hid (T5.out.to (T5.out.his.push (ownApp (a := r.c) ho6) k6 hn) k6 (fun _ e => .inr (.inl e)) (fun _ e => HisS.push (w := W5) hn e) HS3.out.symm)
          clear ho6 hk6 hn6 k6 hn hi hz0 hz1 hz2
          go_wp2
          go_roundw
          case rel => exact ⟨k + 1, T, q ++ [r.c], by omega, by go_num, O6.out⟩
          case measure => simp [intOf]; omega
      · have h3b : (r.k == 3) = false := by simpa using h3
        by_cases h4 : r.k = 4
        · have h4b : (r.k == 4) = true := by simpa using h4
          have HS4 : Hid (hist (rs.take (k + 1)) = (T.map Hk.cs ++ [q], [])) := Lib.hid (by
            rw [HS.out, ← T5.out.eq]
            unfold histS
            rw [decide_eq_false h3, decide_eq_true h4]
            rfl)
          obtain ⟨i0, hi, hz0, hz1, hz2⟩ := info_parts Tryz.infoHk
          have HQ := Lib.hid hfew.1
          clear h3 h4 hfew HS
          go_wp2_with (at_builtin; refine wpList_append_reads rfl (.tmp 54) (.tmp 56) 32 rfl w.heap.size hkT i0 _ 1 24 Tryz.underlying32 hi hz0 hz1 hz2 rfl (by decide) (.slice ta T.length tc) T.length (rowsOf cHk T) rfl (T5.out.his.ts.alloc _) (.slice (some ⟨W5.heap.size, 0, none⟩) 1 1) 1 (cHk.cells ⟨qa, qc, q⟩) rfl (litReads cHk W5 hkT ⟨qa, qc, q⟩) ?d1 ?d2 ?d3 ?d4)
          case d1 => have := HQ.out; unfold maxLen; omega
          case d2 => have := HQ.out; omega
          case d3 => have := T5.out.kp.size; simp; omega
          case d4 =>
            intro v6 w6 ho6 hk6 hn6 _
            have k6 : Keeps (Of (.slice ta T.length tc)) W5 w6 := ((Keeps.refl W5).alloc _).trans hk6 (fun i _ e => e)
            have hn : ∀ i, v6.ownBlock = some i → (Value.slice ta T.length tc).ownBlock = some i ∨ W5.heap.size ≤ i := fun i hi => by
              rcases hn6 i hi with e | e
              · exact .inl e
              · exact .inr (Nat.le_trans (by simp) e)
            have O6 := Lib.hid (T5.out.to (n := k + 1) (T5.out.his.tick (a := qa) (c := qc) (ownApp (a := (⟨qa, qc, q⟩ : Hk)) ho6) k6 hn) k6 (fun _ e => .inl e) (fun _ e => HisS.tick (w := W5) hn e) (by rw [HS4.out]; unfold hisOf; rw [List.map_append]; rfl))
            clear ho6 hk6 hn6 k6 hn hi hz0 hz1 hz2
            go_wp2
            go_roundw
            case rel => exact ⟨k + 1, T ++ [⟨qa, qc, q⟩], [], by omega, by go_num, O6.out⟩
            case measure => simp [intOf]; omega
        · have h4b : (r.k == 4) = false := by simpa using h4
          have O6 : Hid (ToldAt w W5 w2.heap.size (.slice (some ⟨g, off, none⟩) rs.length oc) rs (.slice ta T.length tc) (.slice qa q.length qc) T q (k + 1)) := Lib.hid ⟨T5.out.kp, T5.out.his, T5.out.txt, T5.out.off, by
            rw [HS.out, ← T5.out.eq]
            unfold histS
            rw [decide_eq_false h3, decide_eq_false h4]
            rfl⟩
          clear h3 h4 hfew HS
          go_wp2
          go_roundw
          case rel => exact ⟨k + 1, T, q, by omega, by go_num, O6.out⟩
          case measure => simp [intOf]; omega
    · have hki : ¬ (k : Int) < (rs.length : Int) := by omega
      have FIN : Hid (HisPost w H (.returned (.tuple #[.slice ta T.length tc, .slice qa q.length qc, .int .i64 0])) wq) := Lib.hid ⟨_, _, T, q, rfl, hT.his, by
        have := hT.eq
        rw [show k = rs.length by omega, List.take_length] at this
        rw [this, HH.out], hT.kp⟩
      clear hT hk hlt TT
      go_wp2
      go_ret3
      exact FIN.out
end Go.Proofs.YtndjnkjcfdaegaaGreatDoor

/-
  audit.owned: an iterator over all that is owned. No conditions of its own.
-/
namespace Go.Proofs.YtndjnkjcfdaegaaGreatDoor
open Go.RowKit Go.Shelf Go.Sort Go.Joins
attribute [local go_sem] Oper.semAt_some

def IsIt (u : TypeId) : Prop := u = 3 ∨ u = 93 ∨ u = 38 ∨ u = 88 ∨ u = 149
/-- what a round must keep: all that lay when the call began, and the iterator's own boxes -/
structure KpT (n₀ : Nat) (A B : World) : Prop where
  os : B.os = A.os
  tape : B.tape = A.tape
  output : B.output = A.output
  size : A.heap.size ≤ B.heap.size
  old : ∀ k, k < n₀ → B.heap[k]? = A.heap[k]?
  own : ∀ (k : Nat) (D : Array Value) (u : TypeId) (o : Nat × Nat), A.heap[k]? = some (Obj.cells D u o) → IsIt u → B.heap[k]? = A.heap[k]?
theorem KpT.refl {n₀ : Nat} (A : World) : KpT n₀ A A := ⟨rfl, rfl, rfl, Nat.le_refl _, fun _ _ => rfl, fun _ _ _ _ _ _ => rfl⟩
theorem KpT.trans {n₀ : Nat} {A B C : World} (h : KpT n₀ A B) (k : KpT n₀ B C) : KpT n₀ A C :=
  ⟨k.os.trans h.os, k.tape.trans h.tape, k.output.trans h.output, Nat.le_trans h.size k.size, fun i hi => (k.old i hi).trans (h.old i hi), fun i D u o hi hu => (k.own i D u o ((h.own i D u o hi hu).trans hi) hu).trans (h.own i D u o hi hu)⟩
theorem KpT.put {n₀ : Nat} {w : World} (hn : n₀ ≤ w.heap.size) (W : World) (l : Nat) (o o' : Obj) (hl : w.heap.size ≤ l) (h : W.heap[l]? = some o) (hc : o.isCells = false) (_ : o.isWalk = false) : KpT n₀ W (W.putObj l o') :=
  have g := grownBy_putObj' W l o'
  ⟨g.os, g.tape, g.output, g.size, fun k hk => World.putObj_heap_other (by omega), fun k D u o2 hk hu => World.putObj_heap_other (fun e => by
    subst e
    rw [h] at hk
    cases hk
    cases hc)⟩
def ownEnc (x : Int × Bd) : Array Value := #[.int .i64 x.1, .agg (bdC x.2).toArray]
/-- what the iterator needs -/
structure ItAt (w0 : World) (gB : Nat) (v : Value) (W : World) : Prop where
  k : Keeps No w0 W
  b : W.heap[gB]? = some (.cells #[v] 149 (0, 0))
theorem ItAt.no {w0 A B : World} {gB : Nat} {v : Value} (h : ItAt w0 gB v A) (k : Keeps No A B) : ItAt w0 gB v B := ⟨h.k.trans k (fun _ _ h => h), k.heap h.b (fun h => h)⟩
theorem ItAt.kp {w0 A B : World} {gB : Nat} {v : Value} (h : ItAt w0 gB v A) (k : KpT w0.heap.size A B) : ItAt w0 gB v B :=
  ⟨⟨k.os.trans h.k.os, k.tape.trans h.k.tape, k.output.trans h.k.output, Nat.le_trans h.k.size k.size, fun i hi hn => (k.old i hi).trans (h.k.block i hi hn)⟩, (k.own _ _ _ _ h.b (.inr (.inr (.inr (.inr rfl))))).trans h.b⟩
/-- a box of the iterator's own -/
structure BoxAt (W : World) (g : Nat) (t : TypeId) (n : Nat) (l : List Value) : Prop where
  c : cellsAt W g 0 n = some l
  o : OpenT W g t
theorem cellsAt_same {A B : World} {g o n : Nat} (h : B.heap[g]? = A.heap[g]?) : cellsAt B g o n = cellsAt A g o n := by unfold Proofs.YtndjnkjcfdaegaaGreatDoor.cellsAt; rw [h]
theorem BoxAt.no {A B : World} {g n : Nat} {t : TypeId} {l : List Value} (h : BoxAt A g t n l) (k : Keeps No A B) : BoxAt B g t n l := ⟨k.cellsAt h.c, h.o.no k⟩
theorem BoxAt.kp {n₀ : Nat} {A B : World} {g n : Nat} {t : TypeId} {l : List Value} (h : BoxAt A g t n l) (ht : IsIt t) (k : KpT n₀ A B) : BoxAt B g t n l := by
  obtain ⟨C, hC⟩ := h.o
  have e := k.own _ _ _ _ hC ht
  exact ⟨(cellsAt_same e).trans h.c, C, e.trans hC⟩
theorem ownedOf_mono (L : List Sd) : ∀ {a b : Nat}, a ≤ b → (ownedOf L a).length ≤ (ownedOf L b).length := by
  intro a b h
  induction b with
  | zero => obtain rfl : a = 0 := by omega
            exact Nat.le_refl _
  | succ b ih =>
    rcases Nat.lt_or_ge b a with h1 | h1
    · obtain rfl : a = b + 1 := by omega
      exact Nat.le_refl _
    · have h2 := ih h1
      have h3 : (ownedOf L (b + 1)).length = (ownedOf L b).length + ((((L[b]?).map (oneOf L b)).getD [] : List (Int × Bd))).length := by
        unfold ownedOf
        rw [List.range_succ, List.flatMap_append, List.length_append]
        simp
      omega
theorem own_lt (L : List Sd) (k : Nat) (hk : k < L.length) (j : Nat) (hj : j < L[k].own.length) : (ownedOf L k ++ (L[k].own.take j).map (fun b => ((k : Int), b))).length < (ownedOf L L.length).length := by
  have h1 := ownedOf_mono L (show k + 1 ≤ L.length by omega)
  rw [ownedOf_succ L k hk] at h1
  unfold oneOf at h1
  simp only [List.length_append, List.length_map, List.length_take] at h1 ⊢
  omega
theorem outs_lt (L : List Sd) (k : Nat) (hk : k < L.length) (j : Nat) (hj : j < L[k].outs.length) (q : Int) (hq : whoOf L k L[k].outs[j] = some q) : (ownedOf L k ++ (L[k].own.map (fun b => ((k : Int), b)) ++ outsOf L k (L[k].outs.take j))).length < (ownedOf L L.length).length := by
  have h1 := ownedOf_mono L (show k + 1 ≤ L.length by omega)
  rw [ownedOf_succ L k hk] at h1
  unfold oneOf at h1
  have h2 := outsOf_succ L k L[k].outs j hj
  rw [hq] at h2
  have h3 : (outsOf L k L[k].outs).length = (outsOf L k (L[k].outs.take (j + 1))).length + (outsOf L k (L[k].outs.drop (j + 1))).length := by
    unfold outsOf
    rw [← List.length_append, ← List.filterMap_append, List.take_append_drop]
  rw [h2] at h3
  simp only [List.length_append, List.length_map, Option.map_some, Option.toList_some, List.length_cons, List.length_nil] at h1 h3 ⊢
  omega

set_option maxRecDepth 100000 in
set_option maxHeartbeats 8000000 in
theorem owned1_in (n : Nat) (hn1 : 1 ≤ n) (l : Nat) (w0 : World) (gB : Nat) (va : Option Addr) (vc : Nat) (L : List Sd) (hin : RdOf cSd w0 (.slice va L.length vc) L) (hrd : ∀ s ∈ L, SdReads w0 s) (J Jx : List (Int × Bd) → World → Prop)
    (hJ : ∀ pre A B, J pre A → Keeps No A B → J pre B)
    (hY : ∀ pre x W, J pre W → pre.length < (ownedOf L L.length).length → YieldAt Fence.wide (n - 1) Tryz.prog l (ownEnc x) W fun e W' => (e = .returned (.bool true) ∧ J (pre ++ [x]) W' ∧ KpT w0.heap.size W W') ∨ (e = .returned (.bool false) ∧ Jx (pre ++ [x]) W'))
    (W : World) (hit : ItAt w0 gB (.slice va L.length vc) W) (h0 : J [] W) :
    CallsIn Fence.wide n Tryz.prog 122 #[.func (.yield l) #[] #[], .pointer (some ⟨gB, 0, none⟩)] W fun e W' => (∃ v, e = .returned v) ∧ (J (ownedOf L L.length) W' ∨ ∃ pre, Jx pre W') := by
  have HY := Lib.hid hY
  have HI := Lib.hid hin
  have HR := Lib.hid hrd
  have HJ := Lib.hid hJ
  have hmax := hin.len
  have hlm : (L.length : Int) ≤ 9223372036854775807 := by unfold maxLen at hmax; omega
  have hb0 : W.cell? ⟨gB, 0, none⟩ = some (.slice va L.length vc) := by rw [cell_of_row W gB 0 _ _ _ hit.b]; rfl
  clear hY hin hrd hJ hmax
  refine callsIn_of_wp Tryz.func122 rfl trivial ?_ rfl
  simp only [Tryz.ntmps122, List.size_toArray, List.length_cons, List.length_nil, Nat.reduceAdd, Nat.reduceSub, Array.replicate_succ, Array.replicate_zero, List.push_toArray, List.append_toArray, List.nil_append, List.cons_append]
  gi_wp2
  gi_loopw [12] (fun q wr => ∃ (k : Nat) (pre : List (Int × Bd)), k ≤ L.length ∧ q = .int .i64 k ∧ pre = ownedOf L k ∧ J pre wr ∧ ItAt w0 gB (.slice va L.length vc) wr) (fun q _ => L.length - (intOf q).toNat)
  case atStart => exact ⟨0, [], Nat.zero_le _, rfl, rfl, h0, hit⟩
  case round =>
    obtain ⟨k, pre, hkl, rfl, hpre, hJ0, hI0⟩ := hrel
    have P0 := Lib.hid hpre
    have J0 := Lib.hid hJ0
    have I0 := Lib.hid hI0
    have hk0 : (0 : Int) ≤ (k : Int) := by omega
    clear hpre hJ0 hI0 hb0
    by_cases hlt : k < L.length
    · have hlti : (k : Int) < (L.length : Int) := by omega
      have hrr : RdOf cSd wr (.slice va L.length vc) L := HI.out.kept I0.out.k (fun _ _ h => h)
      obtain ⟨gt, off, rfl, _, _, _⟩ := RdOf.addr cSd hrr (by omega)
      have c1 : cellsAt wr gt (off + k * 8) 8 = some (sdC L[k]) := RdOf.at cSd hrr k hlt
      have HSR := Lib.hid (HR.out _ (List.getElem_mem hlt))
      have HLt := Lib.hid (own_lt L k hlt)
      have HUt := Lib.hid (outs_lt L k hlt)
      have HS1 := Lib.hid (ownedOf_succ L k hlt)
      have HLk := Lib.hid (List.getElem?_eq_getElem hlt)
      obtain ⟨s, hs⟩ : ∃ s, s = L[k] := ⟨_, rfl⟩
      rw [← hs] at c1 HSR HLt HUt HS1 HLk
      obtain ⟨oa, oc, own, ua, uc, outs, ia, ic, ins⟩ := s
      dsimp only [sdC] at c1 HLt HUt
      have K2 : Hid (Keeps No wr ((wr.alloc (.cells #[.int .i64 (k : Int)] 3)).alloc (.cells #[.int .i64 0, .int .i64 0, .slice oa own.length oc, .slice none 0 0, .slice ua outs.length uc, .slice ia ins.length ic, .slice none 0 0, .int .i64 0] 93))) := Lib.hid (((Keeps.refl wr).alloc _).alloc _)
      have B3 : Hid (BoxAt ((wr.alloc (.cells #[.int .i64 (k : Int)] 3)).alloc (.cells #[.int .i64 0, .int .i64 0, .slice oa own.length oc, .slice none 0 0, .slice ua outs.length uc, .slice ia ins.length ic, .slice none 0 0, .int .i64 0] 93)) wr.heap.size 3 1 [.int .i64 k]) := Lib.hid ⟨by simp [go_sem], (openT_new wr _ _ _ rfl).no ((Keeps.refl _).alloc _)⟩
      have B4 : Hid (BoxAt ((wr.alloc (.cells #[.int .i64 (k : Int)] 3)).alloc (.cells #[.int .i64 0, .int .i64 0, .slice oa own.length oc, .slice none 0 0, .slice ua outs.length uc, .slice ia ins.length ic, .slice none 0 0, .int .i64 0] 93)) (wr.heap.size + 1) 93 8 ([.int .i64 0, .int .i64 0, .slice oa own.length oc, .slice none 0 0, .slice ua outs.length uc, .slice ia ins.length ic, .slice none 0 0, .int .i64 0])) := Lib.hid ⟨by simp [go_sem], openT_new _ _ _ _ (by simp)⟩
      clear hrr hs
      gi_wp2
      obtain ⟨g3, hg3⟩ : ∃ x, x = wr.heap.size := ⟨_, rfl⟩
      obtain ⟨g4, hg4⟩ : ∃ x, x = wr.heap.size + 1 := ⟨_, rfl⟩
      obtain ⟨w2, hw2⟩ : ∃ x, x = ((wr.alloc (.cells #[.int .i64 (k : Int)] 3)).alloc (.cells #[.int .i64 0, .int .i64 0, .slice oa own.length oc, .slice none 0 0, .slice ua outs.length uc, .slice ia ins.length ic, .slice none 0 0, .int .i64 0] 93)) := ⟨_, rfl⟩
      rw [← hw2] at K2 B3 B4 ⊢
      rw [← hg4] at B4 ⊢
      rw [← hg3] at B3 ⊢
      have J2 := Lib.hid (HJ.out _ _ _ J0.out K2.out)
      have I2 := Lib.hid (I0.out.no K2.out)
      clear hw2 hg3 hg4 c1 K2 J0 I0
      gi_loopw [20] (fun q wq => ∃ (j : Nat) (pre2 : List (Int × Bd)), j ≤ own.length ∧ q = .int .i64 j ∧ pre2 = ownedOf L k ++ (own.take j).map (fun b => ((k : Int), b)) ∧ J pre2 wq ∧ ItAt w0 gB (.slice (some ⟨gt, off, none⟩) L.length vc) wq ∧ BoxAt wq g3 3 1 [.int .i64 k] ∧ BoxAt wq g4 93 8 ([.int .i64 0, .int .i64 0, .slice oa own.length oc, .slice none 0 0, .slice ua outs.length uc, .slice ia ins.length ic, .slice none 0 0, .int .i64 0])) (fun q _ => own.length - (intOf q).toNat)
      case atStart => exact ⟨0, pre, Nat.zero_le _, rfl, by rw [P0.out]; simp, J2.out, I2.out, B3.out, B4.out⟩
      case round =>
        obtain ⟨j, pre2, hjl, rfl, hpre2, hJ2, hI2, hB3, hB4⟩ := hrel
        obtain ⟨wq, hwq⟩ : ∃ x : World, x = wr := ⟨_, rfl⟩
        subst hwq
        have P2 := Lib.hid hpre2
        have J3 := Lib.hid hJ2
        have I3 := Lib.hid hI2
        have C3 := Lib.hid hB3
        have C4 := Lib.hid hB4
        have hj0 : (0 : Int) ≤ (j : Int) := by omega
        clear hpre2 hJ2 hI2 hB3 hB4
        by_cases hltj : j < own.length
        · have hltji : (j : Int) < (own.length : Int) := by omega
          have hrr := (show RdOf cBd wq (.slice oa own.length oc) own from (HSR.out.no I3.out.k).own)
          have hom : (own.length : Int) ≤ 9223372036854775807 := by have := hrr.len; unfold maxLen at this; omega
          obtain ⟨go, oo, rfl, _, _, _⟩ := RdOf.addr cBd hrr (by omega)
          have cb : cellsAt wq go (oo + j * 11) 11 = some (bdC own[j]) := RdOf.at cBd hrr j hltj
          have HT := Lib.hid (List.take_succ_eq_append_getElem hltj)
          have HL1 := Lib.hid (HLt.out j hltj)
          obtain ⟨b, hb⟩ : ∃ b, b = own[j] := ⟨_, rfl⟩
          rw [← hb] at cb HT
          have K3 : Hid (Keeps No wq (wq.alloc (.cells #[.int .i64 b.s, .int .i64 b.i, .int .i64 b.g, .int .i64 b.m, .int .i64 b.x, .int .i64 b.y, .int .i64 b.vx, .int .i64 b.vy, .int .i64 b.hp, .int .i64 b.pw, .int .i64 b.lf] 38))) := Lib.hid ((Keeps.refl wq).alloc _)
          have x3 : wq.cell? ⟨g3, 0, none⟩ = some (.int .i64 k) := cellsAt_cell C3.out.c 0 _ rfl
          have l3 := C3.out.o.open.lt
          obtain ⟨fn, tmps, assign, body, hy, hR⟩ := HY.out pre2 ((k : Int), b) _ (HJ.out _ _ _ J3.out K3.out) (by rw [P2.out]; exact HL1.out)
          have HR2 := Lib.hid hR
          unfold ownEnc at hy
          dsimp only at hy
          clear hrr hb hR
          gi_wp2
          refine HR2.out.mono ?_
          rintro e W3 (⟨rfl, hJ3, hk3⟩ | ⟨rfl, hJx3⟩)
          · have J4 := Lib.hid hJ3
            have I4 := Lib.hid ((I3.out.no K3.out).kp hk3)
            have D3 := Lib.hid ((C3.out.no K3.out).kp (.inl rfl) hk3)
            have D4 := Lib.hid ((C4.out.no K3.out).kp (.inr (.inl rfl)) hk3)
            have P3 : Hid (pre2 ++ [((k : Int), b)] = ownedOf L k ++ (own.take (j + 1)).map (fun b => ((k : Int), b))) := Lib.hid (by rw [P2.out, HT.out, List.map_append, List.append_assoc]; rfl)
            clear hy hJ3 hk3 cb x3 l3
            gi_wp2
            go_roundw
            case rel => exact ⟨j + 1, _, by omega, by go_num, P3.out, J4.out, I4.out, D3.out, D4.out⟩
            case measure => simp [intOf]; omega
          · have X3 := Lib.hid hJx3
            clear hy hJx3 cb x3 l3
            gi_wp2
            refine bodyPost_ret (results_none rfl _ _ _) rfl ?_
            exact ⟨⟨_, rfl⟩, .inr ⟨_, X3.out⟩⟩
        · have hltji : ¬ ((j : Int) < (own.length : Int)) := by omega
          have hTj : own.take j = own := List.take_of_length_le (by omega)
          rw [hTj] at P2
          have x4 : wq.cell? ⟨g4, 4, none⟩ = some (.slice ua outs.length uc) := cellsAt_cell C4.out.c 4 _ rfl
          have l4 := C4.out.o.open.lt
          gi_wp2
          clear x4 l4
          gi_loopw [33] (fun q wz => ∃ (j : Nat) (pre3 : List (Int × Bd)), j ≤ outs.length ∧ q = .int .i64 j ∧ pre3 = ownedOf L k ++ (own.map (fun b => ((k : Int), b)) ++ outsOf L k (outs.take j)) ∧ J pre3 wz ∧ ItAt w0 gB (.slice (some ⟨gt, off, none⟩) L.length vc) wz ∧ BoxAt wz g3 3 1 [.int .i64 k] ∧ BoxAt wz g4 93 8 [.int .i64 0, .int .i64 0, .slice oa own.length oc, .slice none 0 0, .slice ua outs.length uc, .slice ia ins.length ic, .slice none 0 0, .int .i64 0]) (fun q _ => outs.length - (intOf q).toNat)
          case atStart => exact ⟨0, pre2, Nat.zero_le _, rfl, by rw [P2.out]; simp [outsOf], J3.out, I3.out, C3.out, C4.out⟩
          case round =>
            obtain ⟨j, pre3, hjl, rfl, hpre3, hJ3, hI3, hB3, hB4⟩ := hrel
            obtain ⟨wz, hwz⟩ : ∃ x : World, x = wr := ⟨_, rfl⟩
            subst hwz
            have P4 := Lib.hid hpre3
            have J5 := Lib.hid hJ3
            have I5 := Lib.hid hI3
            have E3 := Lib.hid hB3
            have E4 := Lib.hid hB4
            have hj0 : (0 : Int) ≤ (j : Int) := by omega
            clear hpre3 hJ3 hI3 hB3 hB4
            by_cases hltj : j < outs.length
            · have hltji : (j : Int) < (outs.length : Int) := by omega
              have hrr := (show RdOf cOu wz (.slice ua outs.length uc) outs from (HSR.out.no I5.out.k).outs)
              have hom : (outs.length : Int) ≤ 9223372036854775807 := by have := hrr.len; unfold maxLen at this; omega
              obtain ⟨gu, ou, rfl, _, _, _⟩ := RdOf.addr cOu hrr (by omega)
              have cb : cellsAt wz gu (ou + j * 14) 14 = some (ouC outs[j]) := RdOf.at cOu hrr j hltj
              have HT := Lib.hid (outsOf_succ L k outs j hltj)
              have HL2 := Lib.hid (HUt.out j hltj)
              obtain ⟨o, ho⟩ : ∃ o, o = outs[j] := ⟨_, rfl⟩
              rw [← ho] at cb HT HL2
              clear hrr ho
              obtain ⟨on, ot, ost, b⟩ := o
              dsimp only [ouC] at cb
              have K5 : Hid (Keeps No wz (wz.alloc (.cells #[.int .i64 on, .int .i64 ot, .int .i64 ost, .int .i64 b.s, .int .i64 b.i, .int .i64 b.g, .int .i64 b.m, .int .i64 b.x, .int .i64 b.y, .int .i64 b.vx, .int .i64 b.vy, .int .i64 b.hp, .int .i64 b.pw, .int .i64 b.lf] 88))) := Lib.hid ((Keeps.refl wz).alloc _)
              have x3 : wz.cell? ⟨g3, 0, none⟩ = some (.int .i64 k) := cellsAt_cell E3.out.c 0 _ rfl
              have l3 := E3.out.o.open.lt
              cases hst : (ost == 3)
              · have HW : Hid (whoOf L k ⟨on, ot, ost, b⟩ = some (k : Int)) := Lib.hid (by unfold whoOf; dsimp only; rw [hst]; rfl)
                obtain ⟨fn, tmps, assign, body, hy, hR⟩ := HY.out pre3 ((k : Int), b) _ (HJ.out _ _ _ J5.out K5.out) (by rw [P4.out]; exact HL2.out _ HW.out)
                have HR2 := Lib.hid hR
                unfold ownEnc at hy
                dsimp only at hy
                have P5 : Hid (pre3 ++ [((k : Int), b)] = ownedOf L k ++ (own.map (fun b => ((k : Int), b)) ++ outsOf L k (outs.take (j + 1)))) := Lib.hid (by rw [P4.out, HT.out, HW.out]; simp)
                clear hR
                gi_wp2
                refine HR2.out.mono ?_
                rintro e W3 (⟨rfl, hJ3, hk3⟩ | ⟨rfl, hJx3⟩)
                · have J6 := Lib.hid hJ3
                  have I6 := Lib.hid ((I5.out.no K5.out).kp hk3)
                  have D3 := Lib.hid ((E3.out.no K5.out).kp (.inl rfl) hk3)
                  have D4 := Lib.hid ((E4.out.no K5.out).kp (.inr (.inl rfl)) hk3)
                  clear hy hJ3 hk3
                  gi_wp2
                  go_roundw
                  case rel => exact ⟨j + 1, _, by omega, by go_num, P5.out, J6.out, I6.out, D3.out, D4.out⟩
                  case measure => simp [intOf]; omega
                · have X3 := Lib.hid hJx3
                  clear hy hJx3
                  gi_wp2
                  refine bodyPost_ret (results_none rfl _ _ _) rfl ?_
                  exact ⟨⟨_, rfl⟩, .inr ⟨_, X3.out⟩⟩
              · by_cases ht0 : ot < 0
                · have HW : Hid (whoOf L k ⟨on, ot, ost, b⟩ = none) := Lib.hid (by unfold whoOf; dsimp only; rw [hst, decide_eq_false (by omega : ¬ (0 ≤ ot))]; rfl)
                  have P5 : Hid (pre3 = ownedOf L k ++ (own.map (fun b => ((k : Int), b)) ++ outsOf L k (outs.take (j + 1)))) := Lib.hid (by rw [P4.out, HT.out, HW.out]; simp)
                  gi_wp2
                  refine ⟨trivial, ?_⟩
                  gi_wp2
                  go_roundw
                  case rel => exact ⟨j + 1, _, by omega, by go_num, P5.out, HJ.out _ _ _ J5.out K5.out, (I5.out.no K5.out), (E3.out.no K5.out), (E4.out.no K5.out)⟩
                  case measure => simp [intOf]; omega
                · by_cases ht1 : (L.length : Int) ≤ ot
                  · have HW : Hid (whoOf L k ⟨on, ot, ost, b⟩ = none) := Lib.hid (by unfold whoOf; dsimp only; rw [hst, decide_eq_false (by omega : ¬ (ot < (L.length : Int)))]; simp)
                    have y0 : wz.cell? ⟨gB, 0, none⟩ = some (.slice (some ⟨gt, off, none⟩) L.length vc) := by rw [cell_of_row wz gB 0 _ _ _ I5.out.b]; rfl
                    have lB := block_lt_of_cell y0
                    dsimp only at lB
                    have P5 : Hid (pre3 = ownedOf L k ++ (own.map (fun b => ((k : Int), b)) ++ outsOf L k (outs.take (j + 1)))) := Lib.hid (by rw [P4.out, HT.out, HW.out]; simp)
                    gi_wp2
                    refine ⟨trivial, ?_⟩
                    gi_wp2
                    go_roundw
                    case rel => exact ⟨j + 1, _, by omega, by go_num, P5.out, HJ.out _ _ _ J5.out K5.out, (I5.out.no K5.out), (E3.out.no K5.out), (E4.out.no K5.out)⟩
                    case measure => simp [intOf]; omega
                  · obtain ⟨m, rfl⟩ : ∃ m : Nat, ot = (m : Int) := ⟨ot.toNat, by omega⟩
                    have hml : m < L.length := by omega
                    have hmi : (m : Int) < (L.length : Int) := by omega
                    have y0 : wz.cell? ⟨gB, 0, none⟩ = some (.slice (some ⟨gt, off, none⟩) L.length vc) := by rw [cell_of_row wz gB 0 _ _ _ I5.out.b]; rfl
                    have lB := block_lt_of_cell y0
                    dsimp only at lB
                    have hrr : RdOf cSd wz (.slice (some ⟨gt, off, none⟩) L.length vc) L := HI.out.kept I5.out.k (fun _ _ h => h)
                    have cm : cellsAt wz gt (off + m * 8) 8 = some (sdC L[m]) := RdOf.at cSd hrr m hml
                    have HSM := Lib.hid ((HR.out _ (List.getElem_mem hml)).no I5.out.k)
                    have HWM : Hid (whoOf L k ⟨on, (m : Int), ost, b⟩ = bif L[m].ins.any (isIn k on) then some (m : Int) else none) := Lib.hid (by
                      unfold whoOf
                      dsimp only
                      rw [hst, decide_eq_true (by omega : (0 : Int) ≤ (m : Int)), decide_eq_true hmi, Int.toNat_natCast, List.getElem?_eq_getElem hml]
                      rfl)
                    obtain ⟨sm, hsm⟩ : ∃ x, x = L[m] := ⟨_, rfl⟩
                    rw [← hsm] at cm HSM HWM
                    obtain ⟨a1, c1, l1, a2, c2, l2, a3, c3, l3'⟩ := sm
                    dsimp only [sdC] at cm HWM
                    have y5 := cellsAt_cell cm 5 _ rfl
                    have lt0 := block_lt_of_cell y5
                    dsimp only at lt0
                    clear hrr hsm cm
                    have HH := Lib.hid (hasIn No _ _ l3' ((show RdOf cIn wz (.slice a3 l3'.length c3) l3' from HSM.out.ins).kept K5.out (fun _ _ h => h)) _ #[] _ _ (saw_answers (wz.alloc (.cells #[.int .i64 on, .int .i64 (m : Int), .int .i64 ost, .int .i64 b.s, .int .i64 b.i, .int .i64 b.g, .int .i64 b.m, .int .i64 b.x, .int .i64 b.y, .int .i64 b.vx, .int .i64 b.vy, .int .i64 b.hp, .int .i64 b.pw, .int .i64 b.lf] 88)) g3 wz.heap.size k ⟨on, (m : Int), ost, b⟩ (K5.out.cell x3 (fun h => h)) (by simp [go_sem])))
                    obtain ⟨r, hr⟩ : ∃ r, r = l3'.any (isIn k on) := ⟨_, rfl⟩
                    rw [← hr] at HWM
                    have HRR := Lib.hid hr
                    clear hr
                    gi_wp2
                    refine ⟨trivial, (callsIn_wide.2 HH.out).mono ?_⟩
                    rintro e w4 ⟨he, hk4⟩
                    obtain rfl : e = .returned (.bool r) := by rw [HRR.out]; exact he
                    have K6 : Hid (Keeps No wz w4) := Lib.hid (K5.out.trans hk4 (fun _ _ h => h))
                    have z3 : cellsAt w4 wz.heap.size 3 11 = some (bdC b) := hk4.cellsAt (by simp [go_sem])
                    clear he hk4 y0 y5 cb x3
                    cases r
                    · have HW : Hid (whoOf L k ⟨on, (m : Int), ost, b⟩ = none) := HWM
                      have P5 : Hid (pre3 = ownedOf L k ++ (own.map (fun b => ((k : Int), b)) ++ outsOf L k (outs.take (j + 1)))) := Lib.hid (by rw [P4.out, HT.out, HW.out]; simp)
                      gi_wp2
                      go_roundw
                      case rel => exact ⟨j + 1, _, by omega, by go_num, P5.out, HJ.out _ _ _ J5.out K6.out, (I5.out.no K6.out), (E3.out.no K6.out), (E4.out.no K6.out)⟩
                      case measure => simp [intOf]; omega
                    · have HW : Hid (whoOf L k ⟨on, (m : Int), ost, b⟩ = some (m : Int)) := HWM
                      obtain ⟨fn, tmps, assign, body, hy, hR⟩ := HY.out pre3 ((m : Int), b) _ (HJ.out _ _ _ J5.out K6.out) (by rw [P4.out]; exact HL2.out _ HW.out)
                      have HR2 := Lib.hid hR
                      unfold ownEnc at hy
                      dsimp only at hy
                      have P5 : Hid (pre3 ++ [((m : Int), b)] = ownedOf L k ++ (own.map (fun b => ((k : Int), b)) ++ outsOf L k (outs.take (j + 1)))) := Lib.hid (by rw [P4.out, HT.out, HW.out]; simp)
                      clear hR
                      gi_wp2
                      refine HR2.out.mono ?_
                      rintro e W3 (⟨rfl, hJ3, hk3⟩ | ⟨rfl, hJx3⟩)
                      · have J6 := Lib.hid hJ3
                        have I6 := Lib.hid ((I5.out.no K6.out).kp hk3)
                        have D3 := Lib.hid ((E3.out.no K6.out).kp (.inl rfl) hk3)
                        have D4 := Lib.hid ((E4.out.no K6.out).kp (.inr (.inl rfl)) hk3)
                        clear hy hJ3 hk3
                        gi_wp2
                        go_roundw
                        case rel => exact ⟨j + 1, _, by omega, by go_num, P5.out, J6.out, I6.out, D3.out, D4.out⟩
                        case measure => simp [intOf]; omega
                      · have X3 := Lib.hid hJx3
                        clear hy hJx3
                        gi_wp2
                        refine bodyPost_ret (results_none rfl _ _ _) rfl ?_
                        exact ⟨⟨_, rfl⟩, .inr ⟨_, X3.out⟩⟩
            · have hltji : ¬ ((j : Int) < (outs.length : Int)) := by omega
              have hTj2 : outs.take j = outs := List.take_of_length_le (by omega)
              rw [hTj2] at P4
              have P5 : Hid (pre3 = ownedOf L (k + 1)) := Lib.hid (by rw [P4.out, HS1.out]; rfl)
              gi_wp2
              go_roundw
              case rel => exact ⟨k + 1, _, by omega, by go_num, P5.out, J5.out, I5.out⟩
              case measure => simp [intOf]; omega
    · have hlti : ¬ ((k : Int) < (L.length : Int)) := by omega
      obtain rfl : k = L.length := by omega
      have JF : Hid (J (ownedOf L L.length) wr) := by rw [← P0.out]; exact J0
      gi_wp2
      refine bodyPost_end (results_none rfl _ _ _) rfl ?_
      exact ⟨⟨_, rfl⟩, .inl JF.out⟩
end Go.Proofs.YtndjnkjcfdaegaaGreatDoor

/-
  hedgerowlaw04.mod and May: any world's form made one that may be. No conditions of its own.
-/
namespace Go.Proofs.YtndjnkjcfdaegaaGreatDoor
open Go.RowKit Go.Joins Go.Deep

theorem neg_lt_tmod (k : Int) {n : Int} (h : 0 < n) : -n < Int.tmod k n := by
  have := Int.tmod_lt_of_pos (-k) h
  rw [Int.neg_tmod] at this
  omega
def modI (k n : Int) : Int := Int.tmod (Int.tmod k n + n) n
theorem modI_in (k n : Int) (h : 1 ≤ n) : 0 ≤ modI k n ∧ modI k n < n := by
  have h1 : -n < Int.tmod k n := neg_lt_tmod k (by omega)
  unfold modI
  exact ⟨Int.tmod_nonneg n (by omega), Int.tmod_lt_of_pos _ (by omega)⟩
set_option maxRecDepth 100000 in
theorem mod_any (w : World) (k n : Int) (h0 : 1 ≤ n) (h1 : n ≤ 2000000) : Calls Tryz.prog 16 #[.int .i64 k, .int .i64 n] w fun e w' => e = .returned (.int .i64 (modI k n)) ∧ w' = w := by
  have h2 : -n < Int.tmod k n := neg_lt_tmod k (by omega)
  have h3 : Int.tmod k n < n := Int.tmod_lt_of_pos k (by omega)
  have hn : ¬ n = 0 := by omega
  obtain ⟨M, hM⟩ : ∃ x, x = modI k n := ⟨_, rfl⟩
  rw [← hM]
  unfold modI at hM
  obtain ⟨T, hT⟩ : ∃ x, x = Int.tmod k n := ⟨_, rfl⟩
  rw [← hT] at h2 h3 hM
  have hw : IntKind.i64.wrap (T + n) = T + n := by rw [IntKind.wrap_i64]; omega
  have hT' := hT.symm
  have hM' := hM.symm
  clear hT hM h0 h1
  go_enter Tryz.func16, Tryz.ntmps16
  go_wp2
  go_ret
  exact ⟨rfl, rfl⟩
def mayZ (z : Zf) : Zf := ⟨1 + modI z.c 4, 1 + modI z.r 4, 256 + modI z.s 5000, modI z.u (256 + modI z.s 5000 + 1), modI z.v (256 + modI z.s 5000 + 1), 1 + modI z.i 16, 1 + modI z.q 64⟩
theorem mayZ_ok (z : Zf) : zfOk (mayZ z) = true := by
  have h1 := modI_in z.c 4 (by decide)
  have h2 := modI_in z.r 4 (by decide)
  have h3 := modI_in z.s 5000 (by decide)
  have h4 := modI_in z.u (256 + modI z.s 5000 + 1) (by omega)
  have h5 := modI_in z.v (256 + modI z.s 5000 + 1) (by omega)
  have h6 := modI_in z.i 16 (by decide)
  have h7 := modI_in z.q 64 (by decide)
  unfold zfOk okI mayZ
  simp only [Bool.and_eq_true, decide_eq_true_eq]
  omega
def MayAt (w : World) (gb gr gd : Nat) (z d : Zf) (o : Value) (wc : World) : Prop := o = .pointer (some ⟨gd, 0, none⟩) ∧ cellsAt wc gb 0 7 = some (zfC z) ∧ cellsAt wc gd 0 7 = some (zfC d) ∧ Open wc gd ∧ (rowD wc gd).size = 7 ∧ Open wc gr ∧ (rowD wc gr).size = 7 ∧ Keeps No w wc
set_option maxRecDepth 100000 in
set_option maxHeartbeats 4000000 in
theorem may_any (w : World) (z : Zf) : Calls Tryz.prog 4 #[zfV z] w fun e w' => e = .returned (zfV (mayZ z)) ∧ Keeps No w w' := by
  have C1 := Lib.hid (fun W => mod_any W z.c 4 (by decide) (by decide))
  have C2 := Lib.hid (fun W => mod_any W z.r 4 (by decide) (by decide))
  have C3 := Lib.hid (fun W => mod_any W z.s 5000 (by decide) (by decide))
  have h3 := modI_in z.s 5000 (by decide)
  have C4 := Lib.hid (fun W => mod_any W z.u (256 + modI z.s 5000 + 1) (by omega) (by omega))
  have C5 := Lib.hid (fun W => mod_any W z.v (256 + modI z.s 5000 + 1) (by omega) (by omega))
  have C6 := Lib.hid (fun W => mod_any W z.i 16 (by decide) (by decide))
  have C7 := Lib.hid (fun W => mod_any W z.q 64 (by decide) (by decide))
  have h1 := modI_in z.c 4 (by decide)
  have h2 := modI_in z.r 4 (by decide)
  have h6 := modI_in z.i 16 (by decide)
  have h7 := modI_in z.q 64 (by decide)
  obtain ⟨R, hR⟩ : ∃ x, x = mayZ z := ⟨_, rfl⟩
  rw [← hR]
  unfold mayZ at hR
  obtain ⟨m1, e1⟩ : ∃ x, x = modI z.c 4 := ⟨_, rfl⟩
  obtain ⟨m2, e2⟩ : ∃ x, x = modI z.r 4 := ⟨_, rfl⟩
  obtain ⟨m3, e3⟩ : ∃ x, x = modI z.s 5000 := ⟨_, rfl⟩
  obtain ⟨m6, e6⟩ : ∃ x, x = modI z.i 16 := ⟨_, rfl⟩
  obtain ⟨m7, e7⟩ : ∃ x, x = modI z.q 64 := ⟨_, rfl⟩
  rw [← e1] at C1 h1 hR
  rw [← e2] at C2 h2 hR
  rw [← e3] at C3 C4 C5 h3 hR
  rw [← e6] at C6 h6 hR
  rw [← e7] at C7 h7 hR
  obtain ⟨a1, f1⟩ : ∃ x, x = 1 + m1 := ⟨_, rfl⟩
  obtain ⟨a2, f2⟩ : ∃ x, x = 1 + m2 := ⟨_, rfl⟩
  obtain ⟨a3, f3⟩ : ∃ x, x = 256 + m3 := ⟨_, rfl⟩
  obtain ⟨a6, f6⟩ : ∃ x, x = 1 + m6 := ⟨_, rfl⟩
  obtain ⟨a7, f7⟩ : ∃ x, x = 1 + m7 := ⟨_, rfl⟩
  have w1 : IntKind.i64.wrap (1 + m1) = a1 := by rw [IntKind.wrap_i64]; omega
  have w2 : IntKind.i64.wrap (1 + m2) = a2 := by rw [IntKind.wrap_i64]; omega
  have w3 : IntKind.i64.wrap (256 + m3) = a3 := by rw [IntKind.wrap_i64]; omega
  have w6 : IntKind.i64.wrap (1 + m6) = a6 := by rw [IntKind.wrap_i64]; omega
  have w7 : IntKind.i64.wrap (1 + m7) = a7 := by rw [IntKind.wrap_i64]; omega
  have w8 : IntKind.i64.wrap (a3 + 1) = a3 + 1 := by rw [IntKind.wrap_i64]; omega
  rw [← f1, ← f2, ← f3, ← f6, ← f7] at hR
  rw [← f3] at C4 C5
  obtain ⟨m4, e4⟩ : ∃ x, x = modI z.u (a3 + 1) := ⟨_, rfl⟩
  obtain ⟨m5, e5⟩ : ∃ x, x = modI z.v (a3 + 1) := ⟨_, rfl⟩
  rw [← e4] at C4 hR
  rw [← e5] at C5 hR
  have HR := Lib.hid hR
  clear hR e1 e2 e3 e4 e5 e6 e7 f1 f2 f3 f6 f7 h1 h2 h3 h6 h7
  go_enter Tryz.func4, Tryz.ntmps4
  go_upto_region 1 with fail
  refine wp_world ?_
  intro W hW
  have cb : cellsAt W w.heap.size 0 7 = some (zfC z) := by rw [hW]; simp [go_sem]
  have oR : Open W (w.heap.size + 1) := by rw [hW]; simp [go_sem]
  have sR : (rowD W (w.heap.size + 1)).size = 7 := by rw [hW]; simp [go_sem]
  have KW : Hid (Keeps No w W) := Lib.hid (by rw [hW]; exact ((Keeps.refl w).alloc _).alloc _)
  have CBW := Lib.hid cb
  have ORW := Lib.hid (And.intro oR sR)
  obtain ⟨gb, hgb⟩ : ∃ g, g = w.heap.size := ⟨_, rfl⟩
  obtain ⟨gr, hgr⟩ : ∃ g, g = w.heap.size + 1 := ⟨_, rfl⟩
  have HGR : Hid (w.heap.size ≤ gr ∧ gb ≠ gr) := Lib.hid ⟨by omega, by omega⟩
  have HBW := cellsAt_block cb
  have HRW : gr < W.heap.size := by rw [hW, hgr]; simp
  rw [← hgr] at ORW ⊢
  rw [← hgb] at CBW cb HBW ⊢
  clear oR sR hgb hgr hW
  have x0 := cellsAt_cell cb 0 _ rfl
  simp only [Nat.zero_add] at x0
  have L0 : ∀ w', Keeps No W w' → w'.cell? ⟨gb, 0, none⟩ = some (.int .i64 z.c) := fun w' k => k.cell x0 (fun h => h)
  clear x0
  have x1 := cellsAt_cell cb 1 _ rfl
  simp only [Nat.zero_add] at x1
  have L1 : ∀ w', Keeps No W w' → w'.cell? ⟨gb, 1, none⟩ = some (.int .i64 z.r) := fun w' k => k.cell x1 (fun h => h)
  clear x1
  have x2 := cellsAt_cell cb 2 _ rfl
  simp only [Nat.zero_add] at x2
  have L2 : ∀ w', Keeps No W w' → w'.cell? ⟨gb, 2, none⟩ = some (.int .i64 z.s) := fun w' k => k.cell x2 (fun h => h)
  clear x2
  have x5 := cellsAt_cell cb 5 _ rfl
  simp only [Nat.zero_add] at x5
  have L5 : ∀ w', Keeps No W w' → w'.cell? ⟨gb, 5, none⟩ = some (.int .i64 z.i) := fun w' k => k.cell x5 (fun h => h)
  clear x5
  have x6 := cellsAt_cell cb 6 _ rfl
  simp only [Nat.zero_add] at x6
  have L6 : ∀ w', Keeps No W w' → w'.cell? ⟨gb, 6, none⟩ = some (.int .i64 z.q) := fun w' k => k.cell x6 (fun h => h)
  clear x6
  clear cb
  go_cut [3] (MayAt w gb gr W.heap.size z ⟨a1, a2, a3, 0, 0, a6, a7⟩)
  case first =>
    go_region_held3 (fun w' => Keeps No W w')
      (first | assumption | (repeat (first | exact Keeps.refl W | refine Keeps.drew ?_ | refine Keeps.alloc ?_ _ | refine Keeps.row ?_ (by simp) _)))
      (first
        | (go_at_call 16
           have hc := C1.out
           with_reducible refine (hc _).mono ?_
           clear hc
           rintro e w5 ⟨rfl, rfl⟩)
        | (go_at_call 16
           have hc := C2.out
           with_reducible refine (hc _).mono ?_
           clear hc
           rintro e w6 ⟨rfl, rfl⟩)
        | (go_at_call 16
           have hc := C3.out
           with_reducible refine (hc _).mono ?_
           clear hc
           rintro e w7 ⟨rfl, rfl⟩)
        | (go_at_call 16
           have hc := C6.out
           with_reducible refine (hc _).mono ?_
           clear hc
           rintro e w8 ⟨rfl, rfl⟩)
        | (go_at_call 16
           have hc := C7.out
           with_reducible refine (hc _).mono ?_
           clear hc
           rintro e w9 ⟨rfl, rfl⟩))
    all_goals go_wp2_with fail
    all_goals go_meet
    all_goals
      have kk : Keeps No W (W.alloc (.cells (zfC ⟨a1, a2, a3, 0, 0, a6, a7⟩).toArray 23)) := (Keeps.refl W).alloc _
      refine ⟨rfl, kk.cellsAt CBW.out, by simp [go_sem], by simp [go_sem], by simp [go_sem], kk.opened ORW.out.1, kk.rowSize ORW.out.1 ORW.out.2, KW.out.trans kk.drew (fun _ _ h => h)⟩
  case rest =>
    obtain ⟨gd, hgd⟩ : ∃ g, g = W.heap.size := ⟨_, rfl⟩
    rw [← hgd] at hcut
    have HGD : Hid (w.heap.size ≤ gd) := Lib.hid (by have := KW.out.size; omega)
    have n1 : gb ≠ gd := by omega
    have n2 : gr ≠ gd := by omega
    clear L0 L1 L2 L5 L6 hgd
    obtain ⟨W1, hw1⟩ : ∃ x : World, x = wc := ⟨_, rfl⟩
    subst hw1
    obtain ⟨rfl, cz, cd, od, sd, or1, sr1, kw⟩ := hcut
    have KW1 := Lib.hid kw
    have CZ := Lib.hid cz
    have CD := Lib.hid cd
    have x3 := cellsAt_cell cz 3 _ rfl
    have y2 := cellsAt_cell cd 2 _ rfl
    have y3 := cellsAt_cell cd 3 _ rfl
    have fd := od.frozen 3
    simp only [Nat.zero_add] at x3 y2 y3
    clear kw cz cd
    go_wp2_with fail
    (with_reducible refine (C4.out _).mono ?_)
    rintro e w5 ⟨rfl, rfl⟩
    go_upto_region 3 with fail
    refine wp_world ?_
    intro W2 hW2
    have KW2 : Hid (Keeps No w W2) := Lib.hid (by rw [hW2]; exact KW1.out.setCell (p := ⟨gd, 3, none⟩) (fun h => absurd h (Nat.not_lt.2 HGD.out)) _)
    have CZ2 : Hid (cellsAt W2 gb 0 7 = some (zfC z)) := Lib.hid (by rw [hW2, cellsAt_setCell_far _ _ _ _ _ _ _ n1]; exact CZ.out)
    have CD2 : Hid (cellsAt W2 gd 0 7 = some (zfC ⟨a1, a2, a3, m4, 0, a6, a7⟩)) := Lib.hid (by rw [hW2, cellsAt_setCell_at, CD.out]; rfl)
    have od2 : Open W2 gd := by rw [hW2]; exact (open_setCell _ _ _ _ _).2 od
    have or2 : Open W2 gr := by rw [hW2]; exact (open_setCell _ _ _ _ _).2 or1
    have sr2 : (rowD W2 gr).size = 7 := by rw [hW2, rowD_setCell_far _ _ _ _ _ n2]; exact sr1
    have x4 := cellsAt_cell CZ2.out 4 _ rfl
    have y2' := cellsAt_cell CD2.out 2 _ rfl
    have y4 := cellsAt_cell CD2.out 4 _ rfl
    have fd2 := od2.frozen 4
    simp only [Nat.zero_add] at x4 y2' y4
    clear hW2 x3 y2 y3 fd od or1 sr1 sd CZ CD KW1
    go_wp2_with fail
    (with_reducible refine (C5.out _).mono ?_)
    rintro e w6 ⟨rfl, rfl⟩
    go_upto_region 4 with fail
    refine wp_world ?_
    intro W3 hW3
    have KW3 : Hid (Keeps No w W3) := Lib.hid (by rw [hW3]; exact KW2.out.setCell (p := ⟨gd, 4, none⟩) (fun h => absurd h (Nat.not_lt.2 HGD.out)) _)
    have CD3 : cellsAt W3 gd 0 7 = some [.int .i64 a1, .int .i64 a2, .int .i64 a3, .int .i64 m4, .int .i64 m5, .int .i64 a6, .int .i64 a7] := by rw [hW3, cellsAt_setCell_at, CD2.out]; rfl
    have or3 : Open W3 gr := by rw [hW3]; exact (open_setCell _ _ _ _ _).2 or2
    have sr3 : (rowD W3 gr).size = 7 := by rw [hW3, rowD_setCell_far _ _ _ _ _ n2]; exact sr2
    clear hW3 x4 y2' y4 fd2 od2 or2 sr2 CZ2 CD2 KW2
    go_wp2_with fail
    have hcr : cellsAt (W3.setRow gr #[.int .i64 a1, .int .i64 a2, .int .i64 a3, .int .i64 m4, .int .i64 m5, .int .i64 a6, .int .i64 a7]) gr 0 7 = some (zfC R) := by rw [cellsAt_setRow_at _ _ _ _ _ or3, HR.out]; rfl
    refine bodyPost_ret (v := zfV R) ?_ rfl ⟨rfl, KW3.out.row HGR.out.1 _⟩
    clear or3 sr3 CD3 HR
    simp [results, Tryz.results4, go_sem, hcr]
end Go.Proofs.YtndjnkjcfdaegaaGreatDoor

