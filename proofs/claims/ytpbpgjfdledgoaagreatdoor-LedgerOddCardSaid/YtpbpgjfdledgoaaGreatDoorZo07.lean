/- Lemmas. -/
import Derived.Test.YtpbpgjfdledgoaaGreatDoorZo06
set_option linter.all false
set_option maxRecDepth 100000
set_option maxHeartbeats 8000000
namespace Go.Proofs.YtpbpgjfdledgoaaGreatDoor
section
open Go.Proofs.Tryz
open Go.RowKit Go.Sort Go.Maps
section
variable {w:World}{p b:Nat}{fs:Fs}{room:Int}{dead:Bool}
theorem Lh (l:List UInt8):Proofs.encStr l= .string ⟨l.toArray⟩:=rfl
theorem CK {w:World}{base g cap:Nat}{fs:Fs}(h:gG w base (.slice (some ⟨g,0,none⟩) fs.length cap) fs.length (bA fs))(k:Nat)(a:k<fs.length):w.cell? ⟨g,k,none⟩=some (.string ⟨fs[k].1.toArray⟩):=by
 have:=h.cellAt k (by omega);rw[this];simp[bA,Lh,a]
theorem Fx {w:World}{base:Nat}{v:Value}{fs:Fs}(h:gG w base v fs.length (bA fs))(b:0<fs.length):∃g cap,v= .slice (some ⟨g,0,none⟩) fs.length cap∧base≤g∧g<w.heap.size:=by
 rcases h.2 with⟨_,h0⟩|⟨g,cap,cur,hv,hb,a,_⟩
 ·omega
 ·exact⟨g,cap,hv,hb,(bX.1 a).1⟩
theorem Li (hd:bu w p b fs room dead)(keep:Int):Calls prog 24 #[dP p,qI keep] w fun e w'=>e= .returned (.tuple #[])∧bu w' p b (fs.map (j7 keep)) 4611686018427387904 false∧ah (Two p b) w w':=by
 have c1:=hd.iM;have c2:=hd.uP;have f1:=hd.opened.frozen 1;have f2:=hd.opened.frozen 2;have P:=af ((hd.su 4611686018427387904 (by omega) (by omega)).zh false);have av:aj (ah (Two p b) w ((w.setCell ⟨p,1,none⟩ (qI 4611686018427387904)).setCell ⟨p,2,none⟩ (.bool false))):=((aA (S:=Two p b) w).setCell (p:=⟨p,1,none⟩) (fun _=> .inl rfl) _).setCell (p:=⟨p,2,none⟩) (fun _=> .inl rfl) _;have H:=af hd.rising;have V:=af hd.ok;have U:=af hd.nm;have y:=af hd.few;have R:=af hd.lt;clear hd;(go_enter func24,ntmps24);(go_wp2_with fail);refine(o4 P.o).mono ?_;rintro e w1 ⟨v,rfl,hv,B⟩;have aH:=af (P.o.kept B (fun h=>h) (fun h=>h));have aM:aj (ah (Two p b) w w1):=av.o.mS B;have X:aj (gG w1 w.heap.size v fs.length (bA fs)):=af (by simpa using hv);obtain⟨va,vc,rfl⟩:=aq X.o;clear B hv c1 c2 f1 f2 P av;go_wp2
 go_loopw [19] (fun q wr=>∃k:Nat,k≤fs.length∧q=qI k∧bu wr p b ((fs.take k).map (j7 keep)++fs.drop k) 4611686018427387904 false∧gG wr w.heap.size (.slice va fs.length vc) fs.length (bA fs)∧ah (Two p b) w wr) (fun q _=>fs.length-(intOf q).toNat)
 case atStart=>exact⟨0,aX _,rfl,by simpa using aH.o,X.o,aM.o⟩
 case round=>
  obtain⟨k,aE,rfl,z,hV,hK⟩:=hrel;by_cases m:k<fs.length
  ·obtain⟨O,hp⟩:=Io keep H.o k m;have u:=U.o _ (dw m);have a:=V.o _ (dw m);obtain⟨g,cap,N,aR,aS⟩:=Fx hV (by omega);simp only[Value.slice.injEq,true_and]at N;obtain⟨rfl,rfl⟩:=N;have Y:=CK hV k m;obtain⟨x,aG⟩:=ay (fs[k]);rw[←aG]at O hp u a Y;clear aG;obtain⟨nm,f⟩:=x;have hC:=CD keep a.2;have d:=K_ keep a;dsimp only at Y a u hp O hC d;have c:=uV keep fs k aE;generalize(fs.take k).map (j7 keep)++fs.drop k=A at z O hp c;obtain⟨C,t⟩:=ay (ug keep f);have K:xj keep f=⟨f.s.extract 0 C,C⟩:=(by rw[t];rfl);rw[K]at hp d;rw[←t]at hC;obtain⟨F,J⟩:∃F:Nat,(F:Int)=(f.s.size:Int)-(f.k:Int):=⟨f.s.size-f.k,by have:=a.2;omega⟩;have aW:IntKind.i64.wrap ((f.s.size:Int)-(f.k:Int))=(F:Int):=(by have:=a.1;have:=a.2;rw[cI];omega);have I:(C:Int)=(f.k:Int)+max 0 (min keep (F:Int)):=(by rw[t,J];unfold ug;omega);have aO:(0:Int)≤(C:Int):=(by omega);have aP:(C:Int)≤(f.s.size:Int):=(by omega);have aV:(k:Int)<(fs.length:Int):=(by omega);have aU:(0:Int)≤(k:Int):=(by omega);have aF:(k:Int)≤64:=(by have:=y.o;omega);have ak:=af hp;have G:=af d;have Q:=af c;have ai:=af z;have aL:=af hV;have aJ:=af hK;have l:aj (nm.length≤32):=u;have aZ:aj (f.s.size≤4194304):=a.1;have c0:=z.cell0;have lp:=z.lt.1;have lb:=af z.lt.2;have aY:wrap64 ((f.k:Int)+max 0 (min keep (F:Int)))=(C:Int):=by
    have:=a.1;rw[←I];exact jP _ ⟨by omega,by omega⟩
   clear hp d c z hV hK u a t K J I hC m aE X;(go_wp2_with (at_lookup;refine xg rfl _ _ rfl ai.o.own rfl ⟨nm.toArray⟩ rfl (by show nm.length≤maxLen;have:=l.o;unfold maxLen;omega) f O ?_));refine au ?_;intro W hW;have aC:aj (ah No wr W):=(by rw[hW];exact(aA (S:=No) wr).alloc _);have E:aj (bu W p b A 4611686018427387904 false):=ai.o.kept aC.o (fun h=>h) (fun h=>h);have aD:W.heap[wr.heap.size]?=some (.cells #[.string f.s,qI f.k] 133 (0,0)):=(by rw[hW];exact bT _ _);have bf:W.cell? ⟨wr.heap.size,0,none⟩=some (.string f.s):=(by simp[World.cell?,aD]);have aN:=E.o.cell0;clear hW aD c0 lp Y
   go_still_tail 11,(by kernel_rfl)
   change wpList _ _ _ _ _ (World.drew _)
   refine iC rfl (.tmp 44) (.tmp 45) (.tmp 51) rfl E.o.drew.own E.o.few rfl ⟨nm.toArray⟩ rfl (by show nm.length≤maxLen;have:=l.o;unfold maxLen;omega) ⟨f.s.extract 0 C,C⟩ rfl ?_;intro w2 M D;have hle:(gN A nm ⟨f.s.extract 0 C,C⟩).length≤64:=(by rw[ak.o,uV keep fs (k+1) (by omega)];exact y.o);have r:=E.o.uX (n:=⟨nm.toArray⟩) (f:=⟨f.s.extract 0 C,C⟩) l.o G.o;have aI:=af (E.o.drew.turned D M hle r.1 r.2);have aB:aj (ah (Own b) wr w2):=((aC.o.mono (T:=Own b) (fun _ _ h=>h.elim)).drew).aK D;clear M D hle r;go_wp2;go_roundw
   case rel=>
    refine⟨k+1,by omega,by go_num,?_,aB.o.owns aL.o (fun j aT hS=>by have aQ:j=b:=hS;have:g=j:=nj aT;have:=R.o.2;omega),aJ.o.trans aB.o (fun i _ h=> .inr h)⟩;have h:=aI.o;have e:gN A (⟨nm.toArray⟩:ByteArray).data.toList ⟨f.s.extract 0 C,C⟩=(fs.take (k+1)).map (j7 keep)++fs.drop (k+1):=ak.o;rw[e]at h;exact h
   case measure=>simp[intOf];omega
  ·have Z:k=fs.length:=(by omega);subst Z;have L:aj (bu wr p b (fs.map (j7 keep)) 4611686018427387904 false):=af (by simpa using z);clear z;go_wp2;refine pP (nw rfl _ _ _) rfl ?_;exact⟨rfl,L.o,hK⟩
theorem get_at {fs:Fs}(b:dI fs)(k:Nat)(a:k<fs.length):eV fs fs[k].1=some fs[k].2:=by
 have h:=b;rw[←jN k fs,mX a]at h;have:=ru (A:=fs.take k) (B:=fs.drop (k+1)) (n:=fs[k].1) (f:=fs[k].2) h;rw[←mX a,jN]at this;exact this
end
end
section
open Go.Proofs.Tryz
open Go.RowKit
structure Ds where
 fs:Fs
 room:Int
 dead:Bool
abbrev qN (w:World)(p b:Nat)(d:Ds):Prop:=bu w p b d.fs d.room d.dead
abbrev Ds.with (d:Ds)(fs:Fs):Ds:=⟨fs,d.room,d.dead⟩
def Ds.new:Ds:=⟨[],4611686018427387904,false⟩
def Ds.sync (d:Ds)(n:ByteArray):Int×Ds:=
 bif (cu d.fs d.dead n).2==0 then(0,d.with (gN d.fs n.data.toList ⟨(cu d.fs d.dead n).1.s,(cu d.fs d.dead n).1.s.size⟩))else((cu d.fs d.dead n).2,d)
def Ds.append (d:Ds)(n s:ByteArray):Int×Ds:=
 bif (cu d.fs d.dead n).2==1||(cu d.fs d.dead n).2==12 then((cu d.fs d.dead n).2,d)else
 bif ((cu d.fs d.dead n).2==6&&decide (64≤d.fs.length))||decide (4194304<(cu d.fs d.dead n).1.s.size+s.size)then(8,d)else
 bif decide ((s.size:Int)≤d.room)then(0,⟨gN d.fs n.data.toList (kg (cu d.fs d.dead n).1 s),d.room-s.size,false⟩)else
 (12,⟨gN d.fs n.data.toList (kg (cu d.fs d.dead n).1 (s.extract 0 d.room.toNat)),0,true⟩)
def Ds.truncate (d:Ds)(n:ByteArray)(k:Int):Int×Ds:=
 bif (cu d.fs d.dead n).2==0 then
  (bif decide (k<0)||decide (((cu d.fs d.dead n).1.s.size:Int)<k)then(5,d)else
    (0,d.with (gN d.fs n.data.toList ⟨(cu d.fs d.dead n).1.s.extract 0 k.toNat,min (cu d.fs d.dead n).1.k k.toNat⟩)))
 else((cu d.fs d.dead n).2,d)
def Ds.remove (d:Ds)(n:ByteArray):Int×Ds:=
 bif (cu d.fs d.dead n).2==0 then(0,d.with (kF d.fs n.data.toList))else((cu d.fs d.dead n).2,d)
def Ds.RR (d:Ds)(keep:Int):Ds:=⟨d.fs.map (j7 keep),4611686018427387904,false⟩
section
variable {w:World}{p b:Nat}{d:Ds}
theorem Kl (w:World):Calls prog 17 #[] w fun e w'=>e= .returned (dP (w.heap.size+1))∧qN w' (w.heap.size+1) w.heap.size Ds.new∧ah No w w':=Qk w
theorem Aj (hd:qN w p b d)(n:ByteArray)(ec:Int)(i:Ds)(c:d.sync n=(ec,i)):Calls prog 88 #[dP p,.string n] w fun e w'=>e= .returned (qI ec)∧qN w' p b i∧ah (Two p b) w w':=by
 unfold Ds.sync at c;rcases om d.fs d.dead n with h|⟨h0,h,j,g⟩|⟨h0,h,k,j,g⟩|⟨f,h0,h,k,j,g⟩
 all_goals
  rw[h]at c;dsimp only at c
 ·obtain⟨rfl,rfl⟩:=h_ c;exact(z7 hd n _ _ h rfl).mono fun e w' ⟨he,a⟩=>⟨he,hd.kept a (fun h=>h) (fun h=>h),a.mono fun _ _ h=>h.elim⟩
 ·obtain⟨rfl,rfl⟩:=h_ c;exact(z7 hd n _ _ h rfl).mono fun e w' ⟨he,a⟩=>⟨he,hd.kept a (fun h=>h) (fun h=>h),a.mono fun _ _ h=>h.elim⟩
 ·obtain⟨rfl,rfl⟩:=h_ c;exact(z7 hd n _ _ h rfl).mono fun e w' ⟨he,a⟩=>⟨he,hd.kept a (fun h=>h) (fun h=>h),a.mono fun _ _ h=>h.elim⟩
 ·obtain⟨rfl,rfl⟩:=h_ c;exact(Qm hd n f h k g).mono fun e w' ⟨he,l,a⟩=>⟨he,l,a.mono fun _ _ h=> .inr h⟩
theorem uk (hd:qN w p b d)(n s:ByteArray)(ec:Int)(o:Ds)(a:d.append n s=(ec,o)):Calls prog 82 #[dP p,.string n,.string s] w fun e w'=>e= .returned (qI ec)∧qN w' p b o∧ah (Two p b) w w':=by
 obtain⟨fs,room,dead⟩:=d;have hd:bu w p b fs room dead:=hd;unfold Ds.append at a;rcases om fs dead n with h|⟨h0,h,q,l⟩|⟨h0,h,m,q,l⟩|⟨f,h0,h,m,q,l⟩
 all_goals
  dsimp only at a;rw[h]at a;dsimp only at a
 ·obtain⟨rfl,rfl⟩:=h_ a;exact(z_ hd n s _ _ h (.inl rfl)).mono fun e w' ⟨he,i⟩=>⟨he,hd.kept i (fun h=>h) (fun h=>h),i.mono fun _ _ h=>h.elim⟩
 ·obtain⟨rfl,rfl⟩:=h_ a;exact(z_ hd n s _ _ h (.inr rfl)).mono fun e w' ⟨he,i⟩=>⟨he,hd.kept i (fun h=>h) (fun h=>h),i.mono fun _ _ h=>h.elim⟩
 ·subst h0;have e1:(((6:Int)==1||(6:Int)==12):Bool)=false:=rfl
  rw[e1,aN]at a;by_cases j:64≤fs.length
  ·rw[aM j]at a;obtain⟨rfl,rfl⟩:=h_ a;exact(DN hd n s _ _ h rfl j).mono fun e w' ⟨he,i⟩=>⟨he,hd.kept i (fun h=>h) (fun h=>h),i.mono fun _ _ h=>h.elim⟩
  ·by_cases hb:4194304<Fi.none.s.size+s.size
   ·rw[aJ j,aM hb,jR,qY,bH]at a;obtain⟨rfl,rfl⟩:=h_ a;exact(uY hd n s _ _ h (.inr ⟨rfl,by show fs.length<64;omega⟩) (by decide) (by omega)).mono fun e w' ⟨he,i⟩=>⟨he,hd.kept i (fun h=>h) (fun h=>h),i.mono fun _ _ h=>h.elim⟩
   ·rw[aJ j,aJ hb,jR,qY,aN]at a;have c:∀g,(gN fs n.data.toList g).length≤64:=fun g=>aU (zQ fs _ g) (by omega);by_cases k:(s.size:Int)≤room
    ·rw[aM k,bH]at a;obtain⟨rfl,rfl⟩:=h_ a;exact z8 hd n s _ _ h (.inr ⟨rfl,by omega⟩) l ⟨by decide,by decide⟩ (by omega) k (c _)
    ·rw[aJ k,aN]at a;obtain⟨rfl,rfl⟩:=h_ a;have h0:=hd.r0;obtain⟨M,rfl⟩:=sS h0;exact x6 (M:=M) (fs:=fs) hd n s _ _ h (.inr ⟨rfl,by omega⟩) l ⟨by decide,by decide⟩ (by omega) (by show(M:Int)<_;omega) (c _)
 ·subst h0;have e1:(((0:Int)==1||(0:Int)==12):Bool)=false:=rfl
  rw[e1,aN]at a;have e2:((0:Int)==6)=false:=rfl;rw[e2,iL,qY]at a;have hf:=hd.zR m;by_cases hb:4194304<f.s.size+s.size
  ·rw[aM hb,bH]at a;obtain⟨rfl,rfl⟩:=h_ a;exact(uY hd n s _ _ h (.inl rfl) hf.1 (by omega)).mono fun e w' ⟨he,i⟩=>⟨he,hd.kept i (fun h=>h) (fun h=>h),i.mono fun _ _ h=>h.elim⟩
  ·rw[aJ hb,aN]at a;have c:∀g,(gN fs n.data.toList g).length≤64:=fun g=>aU (kZ m) hd.few;by_cases k:(s.size:Int)≤room
   ·rw[aM k,bH]at a;obtain⟨rfl,rfl⟩:=h_ a;exact z8 hd n s _ _ h (.inl rfl) l hf (by omega) k (c _)
   ·rw[aJ k,aN]at a;obtain⟨rfl,rfl⟩:=h_ a;have h0:=hd.r0;obtain⟨M,rfl⟩:=sS h0;exact x6 (M:=M) (fs:=fs) hd n s _ _ h (.inl rfl) l hf (by omega) (by show(M:Int)<_;omega) (c _)
theorem DU (hd:qN w p b d)(n:ByteArray)(k:Int)(ec:Int)(j:Ds)(c:d.truncate n k=(ec,j)):Calls prog 85 #[dP p,.string n,qI k] w fun e w'=>e= .returned (qI ec)∧qN w' p b j∧ah (Two p b) w w':=by
 unfold Ds.truncate at c;rcases om d.fs d.dead n with h|⟨h0,h,l,i⟩|⟨h0,h,m,l,i⟩|⟨f,h0,h,m,l,i⟩
 all_goals
  rw[h]at c;dsimp only at c
 ·obtain⟨rfl,rfl⟩:=h_ c;exact(pW hd n k _ _ h rfl).mono fun e w' ⟨he,a⟩=>⟨he,hd.kept a (fun h=>h) (fun h=>h),a.mono fun _ _ h=>h.elim⟩
 ·obtain⟨rfl,rfl⟩:=h_ c;exact(pW hd n k _ _ h rfl).mono fun e w' ⟨he,a⟩=>⟨he,hd.kept a (fun h=>h) (fun h=>h),a.mono fun _ _ h=>h.elim⟩
 ·obtain⟨rfl,rfl⟩:=h_ c;exact(pW hd n k _ _ h rfl).mono fun e w' ⟨he,a⟩=>⟨he,hd.kept a (fun h=>h) (fun h=>h),a.mono fun _ _ h=>h.elim⟩
 ·have e1:((0:Int)==0)=true:=rfl;rw[e1,bH]at c;by_cases hb:k<0∨(f.s.size:Int)<k
  ·have g:(decide (k<0)||decide ((f.s.size:Int)<k))=true:=by simpa using hb
   rw[g,bH]at c;obtain⟨rfl,rfl⟩:=h_ c;exact(Aa hd n k _ _ h rfl hb).mono fun e w' ⟨he,a⟩=>⟨he,hd.kept a (fun h=>h) (fun h=>h),a.mono fun _ _ h=>h.elim⟩
  ·have g:(decide (k<0)||decide ((f.s.size:Int)<k))=false:=by simpa using hb
   rw[g,aN]at c;obtain⟨rfl,rfl⟩:=h_ c;obtain⟨K,rfl⟩:=sS (show 0≤k by omega);exact(Fj hd n f h m i K (by omega)).mono fun e w' ⟨he,o,a⟩=>⟨he,o,a.mono fun _ _ h=> .inr h⟩
theorem Iq (hd:qN w p b d)(n:ByteArray)(ec:Int)(i:Ds)(c:d.remove n=(ec,i)):Calls prog 87 #[dP p,.string n] w fun e w'=>e= .returned (qI ec)∧qN w' p b i∧ah (Two p b) w w':=by
 unfold Ds.remove at c;rcases om d.fs d.dead n with h|⟨h0,h,j,g⟩|⟨h0,h,l,j,g⟩|⟨f,h0,h,l,j,g⟩
 all_goals
  rw[h]at c;dsimp only at c
 ·obtain⟨rfl,rfl⟩:=h_ c;exact(uh hd n _ _ h rfl).mono fun e w' ⟨he,a⟩=>⟨he,hd.kept a (fun h=>h) (fun h=>h),a.mono fun _ _ h=>h.elim⟩
 ·obtain⟨rfl,rfl⟩:=h_ c;exact(uh hd n _ _ h rfl).mono fun e w' ⟨he,a⟩=>⟨he,hd.kept a (fun h=>h) (fun h=>h),a.mono fun _ _ h=>h.elim⟩
 ·obtain⟨rfl,rfl⟩:=h_ c;exact(uh hd n _ _ h rfl).mono fun e w' ⟨he,a⟩=>⟨he,hd.kept a (fun h=>h) (fun h=>h),a.mono fun _ _ h=>h.elim⟩
 ·obtain⟨rfl,rfl⟩:=h_ c;exact(La hd n f h g).mono fun e w' ⟨he,k,a⟩=>⟨he,k,a.mono fun _ _ h=> .inr h⟩
theorem Lj (hd:qN w p b d)(keep:Int):Calls prog 24 #[dP p,qI keep] w fun e w'=>e= .returned (.tuple #[])∧qN w' p b (d.RR keep)∧ah (Two p b) w w':=Li hd keep
end
end
