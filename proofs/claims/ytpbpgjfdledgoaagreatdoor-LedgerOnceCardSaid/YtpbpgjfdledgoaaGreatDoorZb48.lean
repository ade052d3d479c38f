/-
  Where the loop of LedgerOnce stands, in memory and as data; what each deed makes of it. No conditions of its own, but that the tables are laid.
-/
import Derived.Test.YtpbpgjfdledgoaaGreatDoorZb44
import Derived.Test.YtpbpgjfdledgoaaGreatDoorZb47
namespace Go.Proofs.YtpbpgjfdledgoaaGreatDoor
open Go.RowKit Go.Joins Go.Deep

section
variable {w w' : World} {base : Nat} {P : Lp} {ld : Ld} {ds ds' : Ds}
/-- the disk is another one -/
theorem LedAt.diskCut (h : LedAt w base P ld ds) (k : Keeps (Two P.p P.b) w w') (hd : DAt w' P.p P.b ds') : LedAt w' base P ld ds' := by
  have hp : ∀ i, Two P.p P.b i → LogSS P i := fun i hi => by
    rcases hi with e | e
    · exact .inr (.inl e)
    · exact .inr (.inr (.inl e))
  have hP : ∀ i, Two P.p P.b i → LedS P i := fun i hi => .inr (.inr (hp i hi))
  refine ⟨k.heap h.box (fun e => h.nl.2 (hp _ e)), h.desk.kept k (fun i hi e => h.dl i hi (hp i e)) (fun e => h.nm (hP _ e)), h.log.disked k hd, k.owns h.own (fun i hi e => ?_), k.owns h.cm (fun i hi e => h.nc i hi (hP _ e)), h.dl, h.nl, h.nc, h.nm, h.bl, h.e0, h.e1, h.cl⟩
  rcases e with e | e
  · exact h.log.vp (e ▸ hi)
  · exact h.log.vb (e ▸ hi)
end
/-- WHERE THE LOOP STANDS: the ledger, the deeds, the names that were told, the world's form in its box. -/
structure OnceAt (w wr : World) (G p b : Nat) (zf : Zf) (lv : Value) (L : List Du) (tv : Value) (told : List Nam) (P : Lp) (ld : Ld) (ds : Ds) (k : Nat) : Prop where
  kp : Keeps No w wr
  led : LedAt wr w.heap.size P ld ds
  pp : P.p = p
  pb : P.b = b
  deeds : OwnOf cDu duT wr w.heap.size lv L
  names : OwnOf cNam idT wr w.heap.size tv told
  cf : cellsAt wr G 0 7 = some (zfC zf)
  gn : ¬ LedS P G ∧ ¬ tv.ownBlock = some G
  ln : ∀ i, lv.ownBlock = some i → ¬ LedS P i
  tn : ∀ i, tv.ownBlock = some i → ¬ LedS P i ∧ ¬ P.cv.ownBlock = some i ∧ P.D.m ≠ i ∧ ¬ lv.ownBlock = some i
  ok : ∀ x ∈ L, DuOk w x ∧ x.ids.length ≤ 40
  z : zfOk zf = true
  st : ∃ rs, Stand zf ld ds rs ∧ rs.length ≤ 1 + 2 * k
  ep : 1 ≤ ld.ep ∧ ld.ep ≤ k + 1
  past : ∀ a ∈ told, Past ld.dk.pl a
  tl : told.length ≤ k
section
variable {w wr w' : World} {G p b : Nat} {zf : Zf} {lv : Value} {L : List Du} {tv : Value} {told : List Nam} {P : Lp} {ld ld' : Ld} {ds ds' : Ds} {k : Nat}
theorem OnceAt.no (h : OnceAt w wr G p b zf lv L tv told P ld ds k) (kn : Keeps No wr w') : OnceAt w w' G p b zf lv L tv told P ld ds k :=
  ⟨h.kp.trans kn (fun _ _ h => h), h.led.no kn, h.pp, h.pb, kn.owns h.deeds (fun _ _ h => h), kn.owns h.names (fun _ _ h => h), kn.cellsAt h.cf, h.gn, h.ln, h.tn, h.ok, h.z, h.st, h.ep, h.past, h.tl⟩
theorem OnceAt.later (h : OnceAt w wr G p b zf lv L tv told P ld ds k) : OnceAt w wr G p b zf lv L tv told P ld ds (k + 1) := by
  obtain ⟨rs, h1, h2⟩ := h.st
  have h3 := h.ep
  have h4 := h.tl
  exact ⟨h.kp, h.led, h.pp, h.pb, h.deeds, h.names, h.cf, h.gn, h.ln, h.tn, h.ok, h.z, ⟨rs, h1, by omega⟩, ⟨h3.1, by omega⟩, h.past, by omega⟩
/-- a deed that the ledger does -/
theorem OnceAt.post (h : OnceAt w wr G p b zf lv L tv told P ld ds k) (hp : LedPost wr w.heap.size P ld' ds' w') (hs : ∀ rs, Stand zf ld ds rs → rs.length ≤ 1 + 2 * k → Steps zf ld (rs.length + 2) ld' ds') :
    ∃ P', P'.l = P.l ∧ OnceAt w w' G p b zf lv L tv told P' ld' ds' (k + 1) := by
  obtain ⟨P', a1, a2, a3, a4⟩ := hp
  obtain ⟨rs, s1, s2⟩ := h.st
  obtain ⟨⟨rs', t1, t2⟩, t3, t4⟩ := hs rs s1 s2
  have hlt : ∀ {i : Nat} {P0 : Prop}, LedS P' i → i < wr.heap.size → (LedS P i → P0) → P0 := fun {i} {P0} hi hlt hf => by
    rcases a3 i hi with e | e
    · exact hf e
    · omega
  have hG := cellsAt_block h.cf
  have hE := h.ep
  have hT := h.tl
  refine ⟨P', a4.l, h.kp.trans a2 (fun i hi e => ?_), a1, a4.p.trans h.pp, a4.b.trans h.pb, a2.owns h.deeds h.ln, a2.owns h.names (fun i hi => (h.tn i hi).1), cellsAt_kept a2 h.cf h.gn.1, ⟨fun e => hlt e hG h.gn.1, h.gn.2⟩, fun i hi e => ?_, fun i hi => ?_, h.ok, h.z, ⟨rs', t1, by omega⟩, ⟨by omega, by omega⟩, fun a ha => (h.past a ha).up t4, by omega⟩
  · have := h.led.le i e
    omega
  · exact hlt e (h.deeds.lt i hi).2 (h.ln i hi)
  · obtain ⟨n1, n2, n3, n4⟩ := h.tn i hi
    have hi1 := (h.names.lt i hi).1
    have hi2 := (h.names.lt i hi).2
    have hiw : i < wr.heap.size := by omega
    refine ⟨fun e => hlt e hiw n1, fun e => ?_, by rw [a4.m]; exact n3, n4⟩
    rcases a4.c i e with e | e | e
    · exact n2 e
    · exact n1 e
    · omega
/-- a name is told -/
theorem OnceAt.tell (h : OnceAt w wr G p b zf lv L tv told P ld ds k) {a : Nam} {v' : Value} (hown : OwnOf cNam idT w' w.heap.size v' (told ++ [a])) (hk : Keeps (Of tv) wr w') (hnew : ∀ i, v'.ownBlock = some i → tv.ownBlock = some i ∨ wr.heap.size ≤ i)
    (hp : Past ld.dk.pl a) (hl : told.length + 1 ≤ k) : OnceAt w w' G p b zf lv L v' (told ++ [a]) P ld ds k := by
  have hG := cellsAt_block h.cf
  refine ⟨h.kp.trans hk (fun i hi e => ?_), h.led.kept hk (fun i hi e => (h.tn i e).1 hi) (fun i hi e => (h.tn i e).2.1 hi) (fun e => (h.tn _ e).2.2.1 rfl), h.pp, h.pb, hk.owns h.deeds (fun i hi e => (h.tn i e).2.2.2 hi), hown, cellsAt_kept hk h.cf h.gn.2, ⟨h.gn.1, fun e => ?_⟩, h.ln, fun i hi => ?_, h.ok, h.z, h.st, h.ep, fun x hx => ?_, by rw [List.length_append, List.length_singleton]; exact hl⟩
  · have := (h.names.lt i e).1
    omega
  · rcases hnew G e with e | e
    · exact h.gn.2 e
    · omega
  · rcases hnew i hi with e | e
    · exact h.tn i e
    · refine ⟨fun e2 => ?_, fun e2 => ?_, fun e2 => ?_, fun e2 => ?_⟩
      · have := h.led.lt i e2
        omega
      · have := (h.led.cm.lt i e2).2
        omega
      · have := cellsAt_block h.led.desk.map
        omega
      · have := (h.deeds.lt i e2).2
        omega
  · rcases List.mem_append.1 hx with e | e
    · exact h.past x e
    · rw [List.mem_singleton.1 e]; exact hp
/-- the disk is to die -/
theorem OnceAt.cut (h : OnceAt w wr G p b zf lv L tv told P ld ds k) (n : Int) (hd : DAt w' p b (ds.cut n)) (hk : Keeps (Own p) wr w') : OnceAt w w' G p b zf lv L tv told P ld (ds.cut n) k := by
  obtain ⟨rs, s1, s2⟩ := h.st
  have hk2 : Keeps (Two P.p P.b) wr w' := hk.mono (fun i _ e => .inl (by rw [h.pp]; exact e))
  have hP : ∀ i, Own p i → LedS P i := fun i e => .inr (.inr (.inr (.inl (by rw [h.pp]; exact e))))
  refine ⟨h.kp.trans hk (fun i hi e => ?_), h.led.diskCut hk2 (by rw [h.pp, h.pb]; exact hd), h.pp, h.pb, hk.owns h.deeds (fun i hi e => h.ln i hi (hP i e)), hk.owns h.names (fun i hi e => (h.tn i hi).1 (hP i e)), cellsAt_kept hk h.cf (fun e => h.gn.1 (hP _ e)), h.gn, h.ln, h.tn, h.ok, h.z, ⟨rs, s1.cut n, s2⟩, h.ep, h.past, h.tl⟩
  have := h.led.le i (hP i e)
  omega
/-- the disk of the ledger -/
theorem OnceAt.disk (h : OnceAt w wr G p b zf lv L tv told P ld ds k) : DAt wr p b ds := by
  have := h.led.log.disk
  rw [h.pp, h.pb] at this
  exact this
def ReopPost (w : World) (G p b : Nat) (zf : Zf) (lv : Value) (L : List Du) (tv : Value) (told : List Nam) (ep : Int) (k : Nat) (e : Ending) (w2 : World) : Prop :=
  ∃ P' ld' ds', e = .returned (.tuple #[dP P'.l, .int .i64 0]) ∧ OnceAt w w2 G p b zf lv L tv told P' ld' ds' (k + 1) ∧ ld'.ep = ep + 1
/-- THE DISK CRASHES, and the ledger is opened again. -/
theorem OnceAt.reopen (h : OnceAt w wr G p b zf lv L tv told P ld ds k) (hL : Laid w w.heap.size) (hk : k < 50) (n : Int) {w1 : World} (hd : DAt w1 p b (ds.crash n)) (h1 : Keeps (Two p b) wr w1) :
    Calls Tryz.prog 18 #[dP p, zfV zf] w1 (ReopPost w G p b zf lv L tv told ld.ep k) := by
  obtain ⟨rs, s1, s2⟩ := h.st
  have hE := h.ep
  have hT := h.tl
  obtain ⟨there, g', out, d', l', d'', rs', o, q1, q2, q3, q4⟩ := s1.reopen (by omega) (by omega) (by omega) n
  have hP : ∀ i, Two p b i → LedS P i := fun i e => by
    rcases e with e | e
    · exact .inr (.inr (.inr (.inl (by rw [h.pp]; exact e))))
    · exact .inr (.inr (.inr (.inr (.inl (by rw [h.pb]; exact e)))))
  have hpb := h.led.le p (hP p (.inl rfl))
  have hbb := h.led.le b (hP b (.inr rfl))
  have k1 : Keeps No w w1 := h.kp.trans h1 (fun i hi e => by rcases e with e | e <;> omega)
  have hc := ledOpen_any (hL.kept k1 (fun _ h => h.elim)) k1.size hd hpb hbb zf h.z there (ds.crash n) o.th g' out d' o.en (by have := o.ol; omega) (fun t ht => by have := o.os t ht; omega) (by have := o.nx; omega) (by have := o.fl; omega)
  rw [o.all] at hc
  refine hc.mono ?_
  rintro e w2 ⟨hk2, hd2, hm⟩
  obtain ⟨P', rfl, hn⟩ : ∃ P', e = .returned (.tuple #[dP P'.l, .int .i64 0]) ∧ LedNew w1 w2 w.heap.size p b P' l' d'' := hm
  have hkk : Keeps (Two p b) wr w2 := h1.trans hk2 (fun _ _ h => h)
  have hs1 := h1.size
  have hlt : ∀ {i : Nat}, LedS P' i → i < wr.heap.size → LedS P i := fun {i} hi hl => by
    rcases hn.new i hi with e | e | e
    · exact hP i (.inl e)
    · exact hP i (.inr e)
    · omega
  have hG := cellsAt_block h.cf
  refine ⟨P', l', d'', rfl, ⟨k1.trans hk2 (fun i hi e => ?_), hn.led, hn.pp, hn.pb, hkk.owns h.deeds (fun i hi e => h.ln i hi (hP i e)), hkk.owns h.names (fun i hi e => (h.tn i hi).1 (hP i e)), cellsAt_kept hkk h.cf (fun e => h.gn.1 (hP _ e)), ⟨fun e => h.gn.1 (hlt e hG), h.gn.2⟩, fun i hi e => h.ln i hi (hlt e ((h.deeds.lt i hi).2)), fun i hi => ?_, h.ok, h.z, ⟨rs', q1, by omega⟩, ⟨by omega, by omega⟩, fun a ha => (h.past a ha).up q4, by omega⟩, q3⟩
  · rcases e with e | e <;> omega
  · have hi2 := (h.names.lt i hi).2
    obtain ⟨n1, n2, n3, n4⟩ := h.tn i hi
    refine ⟨fun e => n1 (hlt e hi2), fun e => ?_, fun e => ?_, n4⟩
    · have := hn.cv i e
      omega
    · have := hn.dm
      omega
end
end Go.Proofs.YtpbpgjfdledgoaaGreatDoor
