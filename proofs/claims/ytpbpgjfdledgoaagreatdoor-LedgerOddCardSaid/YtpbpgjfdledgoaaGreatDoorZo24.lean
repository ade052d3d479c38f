/- Lemmas. -/
import Derived.Test.YtpbpgjfdledgoaaGreatDoorZo23
import Derived.Test.YtpbpgjfdledgoaaGreatDoorZo09
set_option linter.all false
set_option maxRecDepth 100000
set_option maxHeartbeats 8000000
open List renaming mem_singleton→ow,set_getElem_self→Sc,filter_cons→Sd
open Int renaming toNat_natCast→FX
open Array renaming getElem?_modify→w6
namespace Go.Proofs.YtpbpgjfdledgoaaGreatDoor
section
open Go.Proofs.Tryz
open Go.RowKit
abbrev Ul (x:Ix):List Value:= [qI x.g,qI x.b,.bool x.a]
def y5:dX Ix:=⟨Ul,3,fun _=>rfl,fun a u h=>by simp[Ul]at h;rcases h with rfl|rfl|rfl<;>rfl,by decide⟩
structure Rp where
 a:Nat
 f:Nat
 c:Nat
abbrev Rp.av (r:Rp)(s:Sh):Value:= .slice (some ⟨r.a,0,none⟩) s.all.length s.all.length
abbrev Rp.fv (r:Rp)(s:Sh):Value:= .slice (some ⟨r.f,0,none⟩) s.free.length r.c
abbrev Vm (x:Rp×Sh):List Value:= [x.1.av x.2,x.1.fv x.2]
def CW:dX (Rp×Sh):=⟨Vm,2,fun _=>rfl,fun a u h=>by simp[Vm]at h;rcases h with rfl|rfl<;>rfl,by decide⟩
abbrev Se:TypeId:=276
abbrev LV:TypeId:=279
abbrev Oj:TypeId:=286
abbrev LW:TypeId:=3
structure vG (w:World)(base:Nat)(r:Rp)(s:Sh):Prop where
 all:w.heap[r.a]?=some (.cells (rowsOf y5 s.all).toArray Oj (0,0))
 free:aV w base (r.fv s) s.free
 ba:base≤r.a
def Vn (r:Rp):Nat→Prop:=fun i=>i=r.a∨i=r.f
structure bG (w:World)(base p g:Nat)(R:List Rp)(pl:Pl):Prop where
 box:w.heap[p]?=some (.cells #[.slice (some ⟨g,0,none⟩) pl.length pl.length] Se (0,0))
 row:w.heap[g]?=some (.cells (rowsOf CW (R.zip pl)).toArray LV (0,0))
 len:R.length=pl.length
 sh:∀(k:Nat) (r:Rp) (s:Sh),R[k]?=some r→pl[k]?=some s→vG w base r s
 apart:∀(j k:Nat) (r s:Rp),R[j]?=some r→R[k]?=some s→j≠k→r.a≠s.a∧r.f≠s.f
 bp:base≤p
 bg:base≤g
 ok:jd pl
def d_ (p g:Nat)(R:List Rp):Nat→Prop:=fun i=>i=p∨i=g∨∃r∈R,Vn r i
theorem bO {w:World}{i j:Nat}{C D:Array Value}{t u:TypeId}(hi:w.heap[i]?=some (.cells C t (0,0)))(a:w.heap[j]?=some (.cells D u (0,0)))(h:t≠u):i≠j:=by
 rintro rfl;rw[hi]at a;simp only[Option.some.injEq,Obj.cells.injEq]at a;exact h a.2.1
theorem Eb {w:World}{b:Nat}{l:List Value}{t:TypeId}(h:w.heap[b]?=some (.cells l.toArray t (0,0)))(o n:Nat)(hn:o+n≤l.length):ai w b o n=some ((l.drop o).take n):=by
 unfold ai;rw[h];simp[hn]
theorem Ec {α:Type}(C:dX α)(l:List α)(i:Nat)(a:α)(h:l[i]?=some a):((rowsOf C l).drop (i*C.size)).take C.size=C.cells a:=by
 obtain⟨hi,rfl⟩:=eC.1 h;rw[iN,mX hi,dJ,List.take_append_of_le_length (by rw[C.len];exact bM _),fA (by rw[C.len];exact bM _)]
theorem vI {α:Type}(C:dX α){w:World}{b:Nat}{l:List α}{t:TypeId}(h:w.heap[b]?=some (.cells (rowsOf C l).toArray t (0,0)))(i:Nat)(a:α)(hi:l[i]?=some a):ai w b (i*C.size) C.size=some (C.cells a):=by
 have c:=(eC.1 hi).1;rw[Eb h _ _ (by rw[bV, ←nu];exact mY _ c),Ec C l i a hi]
theorem jE {α:Type}(C:dX α){w:World}{b:Nat}{l:List α}{t:TypeId}(h:w.heap[b]?=some (.cells (rowsOf C l).toArray t (0,0)))(i:Nat)(a:α)(hi:l[i]?=some a)(j:Nat)(v:Value)(hv:(C.cells a)[j]?=some v):w.cell? ⟨b,i*C.size+j,none⟩=some v:=
 ak (vI C h i a hi) j v hv
theorem F9 {α:Type}(C:dX α)(l:List α)(i j:Nat)(a b:α)(v:Value)(hi:l[i]?=some a)(d:j<C.size)(hb:C.cells b=(C.cells a).set j v):(rowsOf C l).set (i*C.size+j) v=rowsOf C (l.set i b):=by
 obtain⟨c,rfl⟩:=eC.1 hi;have h0:i*C.size≤(rowsOf C l).length:=(by rw[bV];exact mY _ (tX c));have hl:((rowsOf C l).take (i*C.size)).length=i*C.size:=(by rw[fB];omega);have e:rowsOf C l=(rowsOf C l).take (i*C.size)++(C.cells l[i]++(rowsOf C l).drop ((i+1)*C.size)):=by
  rw[oo,iN, ←dJ, ←bE, ←mX c,jN]
 rw[Ab C l i c,hb]
 conv=>lhs;rw[e]
 rw[zK,fC (by omega),hl,eY];congr 1;rw[show i*C.size+j-i*C.size=j by omega,zK,dM (by rw[C.len];exact d)]
theorem dR {α:Type}(C:dX α){w:World}{g:Nat}{l:List α}{t:TypeId}(h:w.heap[g]?=some (.cells (rowsOf C l).toArray t (0,0)))(i j:Nat)(a b:α)(v:Value)(hi:l[i]?=some a)(c:j<C.size)(hb:C.cells b=(C.cells a).set j v):
 (w.setCell ⟨g,i*C.size+j,none⟩ v).heap[g]?=some (.cells (rowsOf C (l.set i b)).toArray t (0,0)):=by
 rw[aB h,List.setIfInBounds_toArray,F9 C l i j a b v hi c hb]
section
variable {w w':World}{base p g:Nat}{R:List Rp}{pl:Pl}{S:Nat→Prop}
theorem vG.kept {r:Rp}{s:Sh}(h:vG w base r s)(k:ah S w w')(b:¬S r.a)(hf:¬S r.f):vG w' base r s:=
 ⟨k.heap h.all b,k.owns h.free (fun i hi=>by simp only[Value.ownBlock,Option.some.injEq]at hi;subst hi;exact hf),h.ba⟩
theorem aV.block {f n c:Nat}{l:List Nat}(h:aV w base (.slice (some ⟨f,0,none⟩) n c) l):∃cur:Array Value,w.heap[f]?=some (.cells cur LW (0,0))∧base≤f∧n=l.length:=by
 rcases h.2 with⟨e,_⟩|⟨g,cap,cur,e,hb,a,_⟩
 ·simp at e
 ·simp only[Value.slice.injEq,Option.some.injEq,Addr.mk.injEq,and_true]at e;obtain⟨rfl,hn,rfl⟩:=e;exact⟨cur,a,hb,hn⟩
theorem vG.rP {r:Rp}{s:Sh}(h:vG w base r s):∃cur:Array Value,w.heap[r.f]?=some (.cells cur LW (0,0))∧base≤r.f:=by
 obtain⟨cur,a,b,_⟩:=aV.block h.free;exact⟨cur,a,b⟩
theorem bG.place (h:bG w base p g R pl){k:Nat}{s:Sh}(hs:pl[k]?=some s):∃r,R[k]?=some r∧vG w base r s∧(R.zip pl)[k]?=some (r,s):=by
 have b:=(eC.1 hs).1;have a:R[k]?=some (R[k]'(by have:=h.len;omega)):=fw _;exact⟨_,a,h.sh k _ s a hs,by rw[uK];exact⟨a,hs⟩⟩
theorem bG.placed (h:bG w base p g R pl){r:Rp}(b:r∈R):∃(k:Nat) (s:Sh),R[k]?=some r∧pl[k]?=some s∧vG w base r s:=by
 obtain⟨k,a,rfl⟩:=uL b;have hp:k<pl.length:=(by have:=h.len;omega);exact⟨k,pl[k],fw a,fw hp,h.sh k _ _ (fw a) (fw hp)⟩
theorem bG.kept (h:bG w base p g R pl)(k:ah S w w')(hS:∀i,d_ p g R i→¬S i):bG w' base p g R pl:=
 ⟨k.heap h.box (hS p (.inl rfl)),k.heap h.row (hS g (.inr (.inl rfl))),h.len,fun j r s a hs=>(h.sh j r s a hs).kept k (hS _ (.inr (.inr ⟨r,dL a,.inl rfl⟩))) (hS _ (.inr (.inr ⟨r,dL a,.inr rfl⟩))),h.apart,h.bp,h.bg,h.ok⟩
theorem bG.no (h:bG w base p g R pl)(k:ah No w w'):bG w' base p g R pl:=h.kept k (fun _ _ h=>h)
theorem bG.lt (h:bG w base p g R pl){i:Nat}(hi:d_ p g R i):i<w.heap.size:=by
 rcases hi with rfl|rfl|⟨r,a,hi⟩
 ·exact(bX.1 h.box).1
 ·exact(bX.1 h.row).1
 ·obtain⟨k,s,_,_,hs⟩:=h.placed a;rcases hi with rfl|rfl
  ·exact(bX.1 hs.all).1
  ·obtain⟨cur,hc,_⟩:=hs.rP;exact(bX.1 hc).1
theorem bG.le (h:bG w base p g R pl){i:Nat}(hi:d_ p g R i):base≤i:=by
 rcases hi with rfl|rfl|⟨r,a,hi⟩
 ·exact h.bp
 ·exact h.bg
 ·obtain⟨k,s,_,_,hs⟩:=h.placed a;rcases hi with rfl|rfl
  ·exact hs.ba
  ·obtain⟨cur,_,hc⟩:=hs.rP;exact hc
theorem bG.four (h:bG w base p g R pl){k:Nat}{r:Rp}(b:R[k]?=some r):p≠g∧p≠r.a∧p≠r.f∧g≠r.a∧g≠r.f∧r.a≠r.f:=by
 obtain⟨j,s,_,_,hs⟩:=h.placed (dL b);obtain⟨cur,hf,_⟩:=hs.rP;exact⟨bO h.box h.row (by decide),bO h.box hs.all (by decide),bO h.box hf (by decide),bO h.row hs.all (by decide),bO h.row hf (by decide),bO hs.all hf (by decide)⟩
theorem bG.others (h:bG w base p g R pl){j k:Nat}{r s:Rp}(b:R[j]?=some r)(hs:R[k]?=some s)(a:j≠k):∀i,Vn r i→¬Vn s i:=by
 obtain⟨l,m⟩:=h.apart j k r s b hs a;obtain⟨_,_,_,_,c⟩:=h.placed (dL b);obtain⟨_,_,_,_,hy⟩:=h.placed (dL hs);obtain⟨_,d,_⟩:=c.rP;obtain⟨_,f,_⟩:=hy.rP;rintro i (rfl|rfl) (e|e)
 ·exact l e
 ·exact bO c.all f (by decide) e
 ·exact bO hy.all d (by decide) e.symm
 ·exact m e
theorem bG.put (h:bG w base p g R pl){k:Nat}{r:Rp}{s t:Sh}(C:R[k]?=some r)(hs:pl[k]?=some s)(F:ah (d_ p g [r]) w w')(n:w'.heap[p]?=w.heap[p]?)
 (r':Rp) (y:w'.heap[g]?=some (.cells (rowsOf CW ((R.zip pl).set k (r',t))).toArray LV (0,0))) (G:vG w' base r' t) (D:r'.a=r.a) (hf:r'.f=r.f∨w.heap.size≤r'.f) (ok:t.ok):bG w' base p g (R.set k r') (dZ pl k t):=by
 have l:=(eC.1 C).1;have o:=(eC.1 hs).1;refine⟨by rw[n,h.box,dZ,nk],?_,by rw[nk,dZ,nk];exact h.len,fun j q u d hu=>?_,fun i j q u d hu m=>?_,h.bp,h.bg,h.ok.put k ok⟩
 ·rw[y,dZ];congr 4;apply zH;intro i;rw[List.getElem?_set];by_cases b:k=i
  ·subst b;have H:k<(R.zip pl).length:=(by rw[List.length_zip];omega);rw[dM rfl,dM H,eq_comm,uK];exact⟨by simp[l],by simp[o]⟩
  ·rw[fC b];simp only[List.zip_eq_zipWith,List.getElem?_zipWith,List.getElem?_set_ne b]
 ·by_cases c:k=j
  ·subst c;rw[mD l]at d;rw[dZ,mD o]at hu;cases d;cases hu;exact G
  ·rw[qC c]at d;rw[dZ,qC c]at hu;have v:=h.others d C (Ne.symm c);obtain⟨f1,f2,f3,f4,f5,f6⟩:=h.four d;refine(h.sh j q u d hu).kept F ?_ ?_
   ·rintro(e|e|⟨x,z,e⟩)
    ·exact f2 e.symm
    ·exact f4 e.symm
    ·simp only[ow]at z;subst z;exact v _ (.inl rfl) e
   ·rintro(e|e|⟨x,z,e⟩)
    ·exact f3 e.symm
    ·exact f5 e.symm
    ·simp only[ow]at z;subst z;exact v _ (.inr rfl) e
 ·have key:∀(j:Nat) (q:Rp),j≠k→R[j]?=some q→q.a≠r'.a∧q.f≠r'.f:=fun j q E d=>by
   obtain⟨A,B⟩:=h.apart j k q r d C E;refine⟨by rw[D];exact A,?_⟩;rcases hf with e|e
   ·rw[e];exact B
   ·have:=h.lt (i:=q.f) (.inr (.inr ⟨q,dL d,.inr rfl⟩));omega
  by_cases b:k=i
  ·subst b;rw[mD l]at d;cases d;rw[qC m]at hu;obtain⟨A,B⟩:=key j u (Ne.symm m) hu;exact⟨Ne.symm A,Ne.symm B⟩
  ·rw[qC b]at d;by_cases c:k=j
   ·subst c;rw[mD l]at hu;cases hu;exact key i q (Ne.symm b) d
   ·rw[qC c]at hu;exact h.apart i j q u d hu m
end
end
section
open Go.Proofs.Tryz
open Go.RowKit Go.Shelf Go.Sort Go.Joins Go.Deep
section
variable {w:World}{base p g:Nat}{R:List Rp}{pl:Pl}
theorem bG.vJ (h:bG w base p g R pl):w.cell? ⟨p,0,none⟩=some (.slice (some ⟨g,0,none⟩) pl.length pl.length):=by rw[bW _ _ _ _ _ _ h.box];rfl
theorem bG.qh (h:bG w base p g R pl){k:Nat}{r:Rp}{s:Sh}(b:R[k]?=some r)(hs:pl[k]?=some s):w.cell? ⟨g,k*2,none⟩=some (r.av s)∧w.cell? ⟨g,k*2+1,none⟩=some (r.fv s):=by
 have a:(R.zip pl)[k]?=some (r,s):=(by rw[uK];exact⟨b,hs⟩);exact⟨jE CW h.row k (r,s) a 0 _ rfl,jE CW h.row k (r,s) a 1 _ rfl⟩
theorem vG.sG {r:Rp}{s:Sh}(h:vG w base r s){i:Nat}{x:Ix}(c:s.all[i]?=some x):w.cell? ⟨r.a,i*3,none⟩=some (qI x.g)∧w.cell? ⟨r.a,i*3+1,none⟩=some (qI x.b)∧w.cell? ⟨r.a,i*3+2,none⟩=some (.bool x.a)∧ai w r.a (i*3) 3=some (Ul x):=
 ⟨jE y5 h.all i x c 0 _ rfl,jE y5 h.all i x c 1 _ rfl,jE y5 h.all i x c 2 _ rfl,vI y5 h.all i x c⟩
abbrev Um (g k:Nat):Value:= .pointer (some ⟨g,k*2,none⟩)
abbrev VM (a i:Nat):Value:= .pointer (some ⟨a,i*3,none⟩)
theorem uq (h:bG w base p g R pl){k:Nat}{s:Sh}(hs:pl[k]?=some s):Calls prog 209 #[dP p,qI k] w fun e w'=>e= .returned (Um g k)∧w=w':=by
 have c0:=h.vJ;have b:=(eC.1 hs).1;have a:=h.ok.1;have c:(0:Int)≤(k:Int):=(by omega);have d:(k:Int)<(pl.length:Int):=(by omega);have f:(pl.length:Int)≤16:=(by omega);clear h hs a b;(go_enter func209,ntmps209);go_wp2;go_ret;exact⟨rfl,rfl⟩
theorem CX (h:bG w base p g R pl){k:Int}(hs:lC pl k=none):Calls prog 209 #[dP p,qI k] w fun e w'=>e= .returned (.pointer none)∧w=w':=by
 have c0:=h.vJ;have b:=LL hs;have a:=h.ok.1;have d:(pl.length:Int)≤16:=(by omega);clear h hs a;by_cases f:k<0
 ·clear b;(go_enter func209,ntmps209);go_wp2;go_ret;exact⟨rfl,rfl⟩
 ·have c:(pl.length:Int)≤k:=(by omega);clear b;(go_enter func209,ntmps209);go_wp2;go_ret;exact⟨rfl,rfl⟩
theorem nL (h:bG w base p g R pl){k i:Nat}{r:Rp}{s:Sh}{x:Ix}(c:R[k]?=some r)(hs:pl[k]?=some s)(d:s.all[i]?=some x):Calls prog 206 #[dP p,qI k,qI i] w (qG w (.tuple #[Um g k,VM r.a i])):=by
 have C:=af (uq h hs);obtain⟨c0,_⟩:=h.qh c hs;have hi:=(eC.1 d).1;have b:=(h.ok.sh hs).n1;have f:(0:Int)≤(i:Int):=(by omega);have j:(i:Int)<(s.all.length:Int):=(by omega);have l:(s.all.length:Int)≤16:=(by omega);clear h c hs d b hi;(go_enter func206,ntmps206);(go_wp2_with fail);refine C.o.mono ?_;rintro e w1 ⟨rfl,rfl⟩;go_wp2_with fail
 go_region
 all_goals go_wp2
 all_goals go_ret2
 all_goals exact⟨rfl,(aA _).drew⟩
theorem pz (h:bG w base p g R pl){k i:Int}(a:iq pl k i=none):Calls prog 206 #[dP p,qI k,qI i] w (qG w (.tuple #[.pointer none,.pointer none])):=by
 unfold iq at a;cases hs:lC pl k with
 |none=>
  have C:=af (CX h hs);clear h a hs;(go_enter func206,ntmps206);(go_wp2_with fail);refine C.o.mono ?_;rintro e w1 ⟨rfl,rfl⟩;go_wp2
  go_ret2
  exact⟨rfl,aA _⟩
 |some s=>
  rw[hs]at a;obtain⟨m,rfl,hm⟩:=eX hs;have C:=af (uq h hm);obtain⟨r,c,_,_⟩:=h.place hm;obtain⟨c0,_⟩:=h.qh c hm;have hi:=LM a;have b:=(h.ok.sh hm).n1;have f:(s.all.length:Int)≤16:=(by omega);clear h c hs a b hm;by_cases j:i<0
  ·clear hi;(go_enter func206,ntmps206);(go_wp2_with fail);refine C.o.mono ?_;rintro e w1 ⟨rfl,rfl⟩;go_wp2
   go_ret2
   exact⟨rfl,aA _⟩
  ·have d:(s.all.length:Int)≤i:=(by omega);clear hi;(go_enter func206,ntmps206);(go_wp2_with fail);refine C.o.mono ?_;rintro e w1 ⟨rfl,rfl⟩;go_wp2
   go_ret2
   exact⟨rfl,aA _⟩
theorem Ga (h:bG w base p g R pl)(k i:Int):Calls prog 158 #[dP p,qI k,qI i] w (qG w ((qI (I3 pl k i)))):=by
 unfold I3;cases a:iq pl k i with
 |none=>
  have C:=af (pz h a);clear h a;(go_enter func158,ntmps158);(go_wp2_with fail);refine C.o.mono ?_;rintro e w1 ⟨rfl,b⟩;have K:=af b;clear b;go_wp2;go_ret;exact⟨rfl,K.o⟩
 |some x=>
  unfold iq at a;cases hs:lC pl k with
  |none=>rw[hs]at a;cases a
  |some s=>
   rw[hs]at a;obtain⟨m,rfl,hm⟩:=eX hs;obtain⟨n,rfl,hn⟩:=gK a;obtain⟨r,d,c,_⟩:=h.place hm;have C:=af (nL h d hm hn);obtain⟨c0,_,_,_⟩:=c.sG hn;clear h d hs a hm hn c;(go_enter func158,ntmps158);(go_wp2_with fail);refine C.o.mono ?_;rintro e w1 ⟨rfl,b⟩;have K:=af b;replace c0:=b.cB c0;clear b;go_wp2;go_ret;exact⟨rfl,K.o⟩
end
section
variable {w:World}{base p g:Nat}{R:List Rp}{pl:Pl}
theorem vG.Gb {r:Rp}{s:Sh}(h:vG w base r s){j i:Nat}(b:s.free[j]?=some i):w.cell? ⟨r.f,j,none⟩=some (qI i):=by
 have d:=Reads.fu h.free (lq · _);rcases d.shape with⟨he,_⟩|⟨a,c,he,_,_,e⟩
 ·simp at he
 ·simp only[Value.slice.injEq,Option.some.injEq,true_and]at he;obtain⟨rfl,rfl⟩:=he;have:=e j (qI i) (by simp[iW,b])
  rwa [qF,jI]at this
theorem Ed (h:bG w base p g R pl)(k:Int):Calls prog 157 #[dP p,qI k] w (qG w ((.tuple #[qI (nI pl k).1,.bool (nI pl k).2.1,qI (nI pl k).2.2]))):=by
 obtain⟨E,b⟩:=ay (nI pl k);rw[←b];unfold nI at b;cases hs:lC pl k with
 |none=>
  rw[hs]at b;have C:=af (CX h hs);subst b;clear h hs;(go_enter func157,ntmps157);(go_wp2_with fail);refine C.o.mono ?_;rintro e w1 ⟨rfl,rfl⟩;go_wp2
  go_ret3
  exact⟨rfl,aA _⟩
 |some s=>
  rw[hs]at b;obtain⟨m,rfl,hm⟩:=eX hs;have C:=af (uq h hm);obtain⟨r,q,c,_⟩:=h.place hm;obtain⟨c0,c1⟩:=h.qh q hm;have ok:=h.ok.sh hm;have l:=ok.n1;have d:=ok.few;simp only at b;unfold FY at b;cases hf:s.free with
  |nil=>
   rw[hf]at b;simp only[Rp.fv,hf,List.length_nil]at c1;subst b;clear h hs hm q c ok l d c0 hf;(go_enter func157,ntmps157);(go_wp2_with fail);refine C.o.mono ?_;rintro e w1 ⟨rfl,rfl⟩;go_wp2
   go_ret3
   exact⟨rfl,aA _⟩
  |cons i rest=>
   obtain⟨x,t,_,_⟩:=ok.fr i (by rw[hf];exact m_ ..);rw[hf]at b;simp only[t]at b;have ci:=c.Gb (j:=0) (i:=i) (by rw[hf];rfl);obtain⟨_,_,_,D⟩:=c.sG t;have hi:=(eC.1 t).1;have v:(0:Int)≤(i:Int):=(by omega);have y:(i:Int)<(s.all.length:Int):=(by omega);have z:(s.all.length:Int)≤16:=(by omega);obtain⟨n,hn⟩:=ay (s.free.length);have A:(0:Int)<(n:Int):=(by rw[hn,hf];simp);have B:(n:Int)≤16:=(by omega);simp only[Rp.fv, ←hn]at c1;have la:r.a<w.heap.size:=h.lt (.inr (.inr ⟨r,dL q,.inl rfl⟩));have lf:r.f<w.heap.size:=h.lt (.inr (.inr ⟨r,dL q,.inr rfl⟩));have lg:g<w.heap.size:=h.lt (.inr (.inl rfl));have u:=af b;clear h hs hm q c ok l d t hf hn b hi;(go_enter func157,ntmps157);(go_wp2_with fail);refine C.o.mono ?_;rintro e w1 ⟨rfl,rfl⟩;go_wp2_with fail
   go_region
   all_goals go_wp2_with fail
   all_goals go_region
   all_goals go_wp2
   all_goals go_ret3
   all_goals exact⟨by rw[u.o];rfl,((aA w).alloc _).drew.drew⟩
theorem oL (h:bG w base p g R pl)(a:cO):Calls prog 155 #[dP p,iE a] w (qG w ((.bool (j9 pl a)))):=by
 obtain⟨E,d⟩:=ay (j9 pl a);rw[←d];unfold j9 at d;cases b:iq pl a.s a.i with
 |none=>
  rw[b]at d;have C:=af (fun W (k:ah No w W)=>pz (h.no k) b);subst d;clear h b;(go_enter func155,ntmps155);go_wp2_with fail
  (with_reducible refine(C.o _ ((aA w).alloc _)).mono ?_)
  rintro e w1 ⟨rfl,c⟩;have K:=af (((aA w).alloc _).aK c);clear c C;go_wp2_with fail
  go_region
  all_goals go_wp2
  all_goals go_ret
  all_goals exact⟨rfl,K.o.drew⟩
 |some x=>
  rw[b]at d;unfold iq at b;cases hs:lC pl a.s with
  |none=>rw[hs]at b;cases b
  |some s=>
   rw[hs]at b;obtain⟨k,c,hm⟩:=eX hs;obtain⟨i,hi,hn⟩:=gK b;obtain⟨r,m,f,_⟩:=h.place hm;have C:=af (fun W (q:ah No w W)=>nL (h.no q) m hm hn);rw[←c, ←hi]at C;obtain⟨c0,_,c2,_⟩:=f.sG hn;unfold oJ at d;have l:=af d;clear h m hs b hm hn f d c hi;have j:aj (ai (w.alloc (.cells (bk a).toArray 23)) w.heap.size 0 3=some (bk a)):=af (by simp[go_sem]);(go_enter func155,ntmps155);go_wp2_with fail
   (with_reducible refine(C.o _ ((aA w).alloc _)).mono ?_)
   rintro e w1 ⟨rfl,c⟩;have K:=af (((aA w).alloc _).aK c);have m2:=ak (c.ai j.o) 2 _ rfl;simp only[Nat.zero_add]at m2;replace c0:=K.o.cB c0;replace c2:=K.o.cB c2;clear c C j;obtain⟨A,hA⟩:=ay (x.a);rw[←hA]at c2 l;clear hA;cases A
   all_goals
    go_wp2_with fail
    go_region
    all_goals go_wp2
    all_goals go_ret
    all_goals exact⟨by rw[l.o];rfl,K.o.drew⟩
theorem y6 {α:Type}(C:dX α)(l:List α)(k:Nat)(a b:α)(h:l[k]?=some a)(hc:C.cells b=C.cells a):rowsOf C (l.set k b)=rowsOf C l:=by
 have e:∀m:List α,rowsOf C m=(m.map C.cells).flatten:=fun m=>(by simp[rowsOf,List.flatMap_def]);obtain⟨c,rfl⟩:=eC.1 h;rw[e,e,List.map_set,hc];congr 1;rw[←List.getElem_map C.cells (h:=by simpa using c),Sc]
theorem vK {α:Type}{l:List α}{k:Nat}{a:α}(h:l[k]?=some a):l.set k a=l:=by
 obtain⟨b,rfl⟩:=eC.1 h;exact Sc b
theorem bG.turned (h:bG w base p g R pl){k:Nat}{r:Rp}{s:Sh}(b:R[k]?=some r)(hs:pl[k]?=some s){i:Nat}(x':Ix)(ok:(s.put i x').ok){w':World}(c:ah (Own r.a) w w')
 (l:w'.heap[r.a]?=some (.cells (rowsOf y5 (s.all.set i x')).toArray Oj (0,0))):bG w' base p g R (dZ pl k (s.put i x'))∧ah (d_ p g R) w w':=by
 obtain⟨f1,f2,f3,f4,f5,f6⟩:=h.four b;have d:=h.sh k r s b hs;have m:(R.zip pl)[k]?=some (r,s):=(by rw[uK];exact⟨b,hs⟩);have hK:ah (d_ p g [r]) w w':=c.mono (fun j _ e=> .inr (.inr ⟨r,by simp,.inl e⟩));have hp:=h.put (r':=r) (t:=s.put i x') b hs hK (c.block p (h.lt (.inl rfl)) f2)
  (by rw[y6 CW _ k (r,s) _ m (by simp[CW,Sh.put])];exact c.heap h.row f4)
  ⟨l,c.owns d.free (fun j f e=>f6 (by simp only[Value.ownBlock,Option.some.injEq]at f;exact e.symm.trans f.symm)),d.ba⟩ rfl (.inl rfl) ok
 rw[vK b]at hp;exact⟨hp,c.mono (fun j _ e=> .inr (.inr ⟨r,dL b,.inl e⟩))⟩
theorem y7 (h:bG w base p g R pl)(k i:Int):Calls prog 202 #[dP p,qI k,qI i] w fun e w'=>e= .returned (qI (cU pl k i).1)∧bG w' base p g R (cU pl k i).2∧ah (d_ p g R) w w':=by
 obtain⟨E,j⟩:=ay (cU pl k i);rw[←j];have H:=af h;unfold cU at j;cases d:iq pl k i with
 |none=>
  have v:E=(1,pl):=by
   rw[j];unfold iq at d;cases hs:lC pl k with
   |none=>rfl
   |some s=>
    rw[hs]at d;simp only[d]
  have C:=af (pz h d);have u:=af v;clear h d j v;(go_enter func202,ntmps202);(go_wp2_with fail);refine C.o.mono ?_;rintro e w1 ⟨rfl,l⟩;have K:=af l;clear l;go_wp2;go_ret;exact⟨by rw[u.o];rfl,by rw[u.o];exact H.o.no K.o,K.o.mono (fun _ _ h=>h.elim)⟩
 |some x=>
  unfold iq at d;cases hs:lC pl k with
  |none=>rw[hs]at d;cases d
  |some s=>
   rw[hs]at d j;simp only[d]at j;obtain⟨m,rfl,hm⟩:=eX hs;obtain⟨n,rfl,hn⟩:=gK d;obtain⟨r,t,q,_⟩:=h.place hm;have C:=af (nL h t hm hn);obtain⟨_,c1,_,_⟩:=q.sG hn;have c:=(h.ok.sh hm).at hn;have b0:=c.b0;have b1:=c.b1;have la:r.a<w.heap.size:=h.lt (.inr (.inr ⟨r,dL t,.inl rfl⟩));have A:=af q.all;have y:aj ((s.put n ⟨x.g,min (x.b+8) 1048576,x.a⟩).ok):=af ((h.ok.sh hm).put n ⟨c.g0,c.g1,by simp only;omega,by simp only;omega,c.al⟩ hn rfl rfl);have B:=af (And.intro t (And.intro hm hn));simp only[FX]at j;have u:=af j;clear h t hs d hm hn q j c;(go_enter func202,ntmps202);(go_wp2_with fail);refine C.o.mono ?_;rintro e w1 ⟨rfl,l⟩;have K:=af l;have A1:=af (l.heap A.o (fun h=>h));have f1:w1.frozen? ⟨r.a,n*3+1,none⟩=false:=bF _ _ _ _ _ A1.o;replace c1:=l.cB c1;replace la:r.a<w1.heap.size:=eU la l.size;clear l;by_cases hb:x.b=1048576
   ·have f:aj (E=(5,pl)):=af (by rw[u.o,aM hb];rfl);rw[hb]at c1;go_wp2;go_ret;exact⟨by rw[f.o];rfl,by rw[f.o];exact H.o.no K.o,K.o.mono (fun _ _ h=>h.elim)⟩
   ·have f:aj (E=(0,dZ pl m (s.put n ⟨x.g,min (x.b+8) 1048576,x.a⟩))):=af (by rw[u.o,aJ hb];rfl);go_wp2
    all_goals go_ret
    obtain⟨t,hm,hn⟩:=B.o;obtain⟨hp,z⟩:=(H.o.no K.o).turned (w':=w1.setCell ⟨r.a,n*3+1,none⟩ (qI (min (x.b+8) 1048576))) t hm ⟨x.g,min (x.b+8) 1048576,x.a⟩ y.o ((aA (S:=Own r.a) w1).setCell (p:=⟨r.a,n*3+1,none⟩) (fun _=>(rfl:r.a=r.a)) _)
     (dR y5 A1.o n 1 x _ _ hn (by decide) rfl)
    exact⟨by rw[f.o];rfl,by rw[f.o];exact hp,(K.o.mono (fun _ _ h=>h.elim)).aK z⟩
end
theorem bU (w:World)(b i:Nat)(v:Value):ah (Own b) w (w.setCell ⟨b,i,none⟩ v):=(aA (S:=Own b) w).setCell (p:=⟨b,i,none⟩) (fun _=>(rfl:b=b)) v
section
variable {w:World}{base f c:Nat}{l:List Nat}
theorem aV.at (h:aV w base (.slice (some ⟨f,0,none⟩) l.length c) l){j i:Nat}(b:l[j]?=some i):w.cell? ⟨f,j,none⟩=some (qI i):=by
 have d:=Reads.fu h (lq · _);rcases d.shape with⟨he,_⟩|⟨a,c,he,_,_,e⟩
 ·simp at he
 ·simp only[Value.slice.injEq,Option.some.injEq,true_and]at he;obtain⟨rfl,rfl⟩:=he;have:=e j (qI i) (by simp[iW,b])
  rwa [qF,jI]at this
theorem Ee (h:aV w base (.slice (some ⟨f,0,none⟩) l.length c) l)(hl:l.length≤1000000)(i:Int):Calls prog 260 #[.slice (some ⟨f,0,none⟩) l.length c,qI i] w (qW w ((.bool (l.any (fun k=>decide ((k:Int)=i)))))):=by
 refine(Tryz.slices_Contains_int f 0 l.length c (l.map fun n:Nat=>(n:Int)) i w (by simp) (by omega) (fun j b=>?_)).mono ?_
 ·have a:j<l.length:=(by simpa using b);rw[jI,h.at (fw a)];simp[List.getD_eq_getElem?_getD,a]
 ·rintro e w' ⟨rfl,rfl⟩;refine⟨?_,rfl⟩;congr 2;rw[fA (by simp)];rw[oT];simp
theorem I6 (h:aV w base (.slice (some ⟨f,0,none⟩) l.length c) l){α:Type} [Inhabited α](enc:α→Value)(d:Array α)(m:List Nat)(q:Nat)(hd:(d.toList.map enc).take m.length=iW m)(hl:m.length≤l.length)(p:d.size=l.length):
 aV (putRow enc (Sort.ahead w q) f 0 d) base (.slice (some ⟨f,0,none⟩) m.length c) m∧ah (Own f) w (putRow enc (Sort.ahead w q) f 0 d):=by
 rcases h.2 with⟨e,_⟩|⟨g,cap,cur,e,hb,r,s,n,hcs,t⟩
 ·simp at e
 ·simp only[Value.slice.injEq,Option.some.injEq,Addr.mk.injEq,and_true,true_and]at e;obtain⟨rfl,rfl⟩:=e;have b:(putRow enc (Sort.ahead w q) f 0 d).heap[f]?=some (.cells (putCells enc 0 d cur) 3 (0,0)):=by
   unfold putRow mapBlock;simp only[w6,if_true];show Option.map _ w.heap[f]?=_;rw[r];rfl
  refine⟨⟨by rw[vm,Nat.mul_one],.inr ⟨f,c,_,rfl,hb,b,by omega,n,by simp[putCells,hcs],?_⟩⟩,rfl,rfl,rfl,?_,fun k u hn=>?_⟩
  ·rw[←hd,Nat.mul_one];apply zH;intro j;rw[zF,zF];by_cases i:j<m.length
   ·rw[dM i,dM i,oR];have a:j<d.size:=(by omega);have o:j<cur.size:=(by omega);unfold putCells;rw[DE,Array.getElem?_mapIdx,DA o,sV,DE,DA a,sV];rw[dM ⟨aX _,by omega⟩];simp[a]
   ·rw[fC i,fC i]
  ·simp[Sort.ahead]
  ·unfold putRow mapBlock;simp only[w6];rw[fC (fun e=>hn (show k=f from e.symm))]
   rfl
end
theorem QW (w:World):(zeroValue 3).run prog w= .ok (qI 0) w:=by kernel_rfl
abbrev Un (B:Nat):Type:= { i:Nat // i<B }
def xE (B:Nat)(x:Un B):Value:=qI x.1
def pE (B:Nat)(a:0<B)(i:Nat):Un B:=if h:i<B then⟨i,h⟩else⟨0,a⟩
theorem AU {B:Nat}(a:0<B){i:Nat}(h:i<B):(pE B a i).1=i:=by unfold pE;rw[dif_pos h]
theorem CY {B:Nat}(a:0<B):∀ {l:List Nat},(∀i∈l,i<B)→(l.map (pE B a)).map (xE B)=iW l
 | [],_=>rfl
 |i::l,h=>by
  rw[kT,kT,CY a (fun j b=>h j (qQ _ b))];show xE B (pE B a i)::_=_;unfold xE;rw[AU a (h i (m_ ..))];rfl
theorem vN {B:Nat}(a:0<B)(pr:Nat→Bool):∀ {l:List Nat},(∀i∈l,i<B)→(l.map (pE B a)).filter (fun x=>!pr x.1)=(l.filter (fun i=>!pr i)).map (pE B a)
 | [],_=>rfl
 |i::l,h=>by
  rw[kT,Sd,Sd,AU a (h i (m_ ..)),vN a pr (fun j b=>h j (qQ _ b))];cases !pr i<;>rfl
theorem KC {w:World}{base f c:Nat}{l:List Nat}(h:aV w base (.slice (some ⟨f,0,none⟩) l.length c) l)(hl:l.length≤1000000){B:Nat}(a:0<B)(p:∀i∈l,i<B)(pr:Nat→Bool)(g:Nat)(lb:Array Value)
 (eg:∀args w,(callFunc g args).run prog w= .ok (.enter g args) w)
 (hp:∀(W:World) (i:Nat),i<B→(∀k,k<w.heap.size→k≠f→W.heap[k]?=w.heap[k]?)→FnGives prog g lb #[qI i] (.bool (pr i)) W):
 Calls prog 258 #[.slice (some ⟨f,0,none⟩) l.length c,.func (.func g) #[] lb] w fun e w'=>
  e= .returned (.slice (some ⟨f,0,none⟩) (l.filter (fun i=>!pr i)).length c)∧aV w' base (.slice (some ⟨f,0,none⟩) (l.filter (fun i=>!pr i)).length c) (l.filter (fun i=>!pr i))∧ah (Own f) w w':=by
 obtain⟨cur,G,hb,_⟩:=aV.block h;have D:l.length≤c:=by
  rcases h.2 with⟨e,_⟩|⟨g,cap,cur,e,_,_,H,_⟩
  ·simp at e
  ·simp only[Value.slice.injEq,true_and]at e;omega
 letI:Inhabited (Un B):=⟨⟨0,a⟩⟩
 obtain⟨d,hd⟩:∃d:Array (Un B),d=(l.map (pE B a)).toArray:=⟨_,rfl⟩;have z:d.size=l.length:=(by rw[hd];simp);have r:d.toList=l.map (pE B a):=(by rw[hd]);have s:(d.toList.filter fun x=>!pr x.1)=(l.filter (fun i=>!pr i)).map (pE B a):=(by rw[r];exact vN a pr p);have b:=Tryz.slices_DeleteFunc (xE B) (fun _=>rfl) (fun x=>pr x.1) g lb eg ⟨0,a⟩ (fun w=>QW w) f 0 c d w
  (fun W x y=>hp W x.1 x.2 (fun k A _=>y.block k A))
  (fun n os dk x _=>hp _ x.1 x.2 (fun k A hn=>by
    unfold sortWorld;rw[Sort.heap_grow_old _ _ (by show k<(putRow _ _ _ _ _).heap.size;rw[size_putRow];exact A)];show(putRow _ _ _ _ _).heap[k]?=_;unfold putRow mapBlock;simp only[w6];rw[fC (fun e=>hn e.symm)];rfl))
  (fun j E=>by
    have o:j<l.length:=(by omega);have v:(pE B a l[j]).1=l[j]:=AU a (p _ (dw o));refine⟨?_,bF _ _ _ _ _ G⟩;rw[jI,h.at (fw o),getElem!_pos d j E];unfold xE;have:d[j]=pE B a l[j]:=by
     have u:d.toList[j]?=some (pE B a l[j]):=(by rw[r,oR,fw o];rfl);rw[DE,DA E]at u
     simpa using u
    rw[this,v]) (by omega) (by omega)
 rw[z]at b;refine b.mono ?_;rintro e w' ⟨rfl,q,rfl⟩;obtain⟨m,hm⟩:=ay (l.filter (fun i=>!pr i));rw[s, ←hm,eE];have C:m.length≤l.length:=(by rw[hm];exact List.length_filter_le _ _);have t:∀i∈m,i<B:=fun i hi=>p i (by rw[hm]at hi;exact(wZ.1 hi).1);obtain⟨u,F⟩:=I6 h (xE B) ((m.map (pE B a))++List.replicate (l.length-m.length) (⟨0,a⟩:Un B)).toArray m q (by
  simp only[List.map_append];rw[nX (by simp),CY a t]) C (by simp;omega)
 exact⟨rfl,u,F⟩
theorem Ef (W:World)(B:Nat)(a i:Int)(hc:W.cell? ⟨B,1,none⟩=some (qI a)):FnGives prog 261 #[.pointer (some ⟨B,0,none⟩)] #[qI i] (.bool (decide (i=a))) W:=by
 show Calls prog 261 #[qI i,.pointer (some ⟨B,0,none⟩)] W _;(go_enter func261,ntmps261);go_wp2;go_ret;refine⟨?_,0,rfl⟩;rfl
theorem Gc:∀args w,(callFunc 261 args).run prog w= .ok (.enter 261 args) w:=enters_of func261 (by kernel_rfl) rfl
section
variable {w:World}{base p g:Nat}{R:List Rp}{pl:Pl}
theorem AV {a:cO}(b:iq pl a.s a.i=none):jK pl a=(1,pl):=by
 unfold jK;unfold iq at b;cases hs:lC pl a.s with
 |none=>rfl
 |some s=>
  rw[hs]at b;simp only[b]
theorem AX {a:cO}{k i:Nat}{s:Sh}{x:Ix}(b:a.s=k)(hi:a.i=i)(hs:pl[k]?=some s)(c:s.all[i]?=some x):jK pl a=((p9 s x a.i a.g).1,dZ pl k (p9 s x a.i a.g).2):=by
 unfold jK;rw[b,AK hs];simp only[hi,py c,FX]
theorem AY {p:Pl}{k:Nat}{s:Sh}(hs:p[k]?=some s):dZ p k s=p:=by
 obtain⟨a,rfl⟩:=eC.1 hs;unfold dZ;simp
theorem Eg (h:bG w base p g R pl)(a:cO):Calls prog 203 #[dP p,iE a] w fun e w'=>e= .returned (qI (jK pl a).1)∧bG w' base p g R (jK pl a).2∧ah (d_ p g R) w w':=by
 obtain⟨E,L⟩:=ay (jK pl a);rw[←L];have H:=af h;have aR:=af L;cases N:iq pl a.s a.i with
 |none=>
  rw[AV N]at L;have C:=af (fun W (k:ah No w W)=>pz (h.no k) N);have A:=af L;clear h N L;(go_enter func203,ntmps203);go_wp2_with fail
  (with_reducible refine(C.o _ ((aA w).alloc _)).mono ?_)
  rintro e w1 ⟨rfl,Q⟩;have K:=af (((aA w).alloc _).aK Q);clear Q C;go_wp2;go_ret;exact⟨by rw[A.o];rfl,by rw[A.o];exact H.o.no K.o,K.o.mono (fun _ _ h=>h.elim)⟩
 |some x=>
  obtain⟨k,i,s,M,D,hm,hn⟩:∃(k i:Nat) (s:Sh),a.s=k∧a.i=i∧pl[k]?=some s∧s.all[i]?=some x:=by
   unfold iq at N;cases hs:lC pl a.s with
   |none=>rw[hs]at N;cases N
   |some s=>
    rw[hs]at N;obtain⟨m,aY,hm⟩:=eX hs;obtain⟨n,aZ,hn⟩:=gK N;exact⟨m,n,s,aY,aZ,hm,hn⟩
  obtain⟨r,I,aD,_⟩:=h.place hm;have C:=af (fun W (q:ah No w W)=>nL (h.no q) I hm hn);rw[←M, ←D]at C;obtain⟨c0,c1,_,_⟩:=aD.sG hn;obtain⟨_,d1⟩:=h.qh I hm;rw[AX M D hm hn]at L;unfold p9 at L;have A:=af L;have ok:=h.ok.sh hm;have bA:=af ok.few;have bq:aj (ai (w.alloc (.cells (bk a).toArray 23)) w.heap.size 0 3=some (bk a)):=af (by simp[go_sem]);have v:=af (And.intro I (And.intro hm hn));have aQ:=af (And.intro M D);have J:=af (AY hm);clear h I N hm hn L M D ok;(go_enter func203,ntmps203);go_wp2_with fail
  (with_reducible refine(C.o _ ((aA w).alloc _)).mono ?_)
  rintro e W ⟨rfl,Q⟩;have K:=af (((aA w).alloc _).aK Q);have aV:=Q.ai bq.o;have m1:=ak aV 1 _ rfl;have m2:=ak aV 2 _ rfl;simp only[Nat.zero_add]at m1 m2;replace c0:=K.o.cB c0;replace c1:=K.o.cB c1;replace d1:=K.o.cB d1;have P:=af (H.o.no K.o);have bC:aj (w.heap.size<W.heap.size):=af (nh m1);clear Q C bq aV aD;by_cases t1:a.g<0
  ·have d:aj (E=(1,pl)):=af (by rw[A.o,aM t1];simp only[cond_true];rw[J.o]);go_wp2;go_ret;exact⟨by rw[d.o];rfl,by rw[d.o];exact P.o,K.o.mono (fun _ _ h=>h.elim)⟩
  rw[aJ t1,aN]at A;have CC:=af (fun n:Nat=>Ee (w:=W.drewN n) (((aA (S:=No) W).drewN n).mM (P.o.sh k r s v.o.1 v.o.2.1).free) (by have:=bA.o;omega) a.i);obtain⟨T,aI⟩:=ay (p7 s a.i);have X:=aI;unfold p7 at X;rw[←X]at CC;rw[←aI]at A;have bJ:=af aI;clear aI X;go_upto_region 4 with fail
  go_quiet (first|(go_at_call 260;with_reducible exact Calls.quiet_of_same (CC.o _)))
  cases T
  case false=>
   have d:aj (E=(14,pl)):=af (by rw[A.o];simp only[Bool.not_false,cond_true];rw[J.o]);go_wp2;go_ret;exact⟨by rw[d.o];rfl,by rw[d.o];exact P.o.no ((aA W).drewN _),(K.o.drewN _).mono (fun _ _ h=>h.elim)⟩
  simp only[Bool.not_true,cond_false]at A;go_upto_region 6 with fail
  refine au ?_;intro l u;have aS:aj (ah No w l):=af (by rw[u];exact K.o.drewN _);replace c0:l.cell? ⟨r.a,i*3,none⟩=some (qI x.g):=(by rw[u];exact c0);replace c1:l.cell? ⟨r.a,i*3+1,none⟩=some (qI x.b):=(by rw[u];exact c1);replace d1:l.cell? ⟨g,k*2+1,none⟩=some (r.fv s):=(by rw[u];exact d1);replace m1:l.cell? ⟨w.heap.size,1,none⟩=some (qI a.i):=(by rw[u];exact m1);replace m2:l.cell? ⟨w.heap.size,2,none⟩=some (qI a.g):=(by rw[u];exact m2);have aT:=af (P.o.no (w':=l) (by rw[u];exact(aA W).drewN _));have bI:aj (w.heap.size<l.heap.size):=af (by rw[u];exact bC.o);clear u K P bC CC bJ;obtain⟨t2,F⟩:=ay (decide (a.g<x.g));obtain⟨t3,G⟩:=ay (decide (x.b≤a.g));rw[←F, ←G]at A;cases t2
  case true=>
   have d:aj (E=(9,pl)):=af (by rw[A.o];simp only[Bool.true_or,cond_true];rw[J.o]);have t2:a.g<x.g:=(by simpa using F.symm);clear F G
   go_region
   all_goals go_wp2
   all_goals go_ret
   all_goals exact⟨by rw[d.o];rfl,by rw[d.o];exact aT.o.no (aA l).drew,aS.o.drew.mono (fun _ _ h=>h.elim)⟩
  have t2:¬a.g<x.g:=(by simpa using F.symm);cases t3
  case true=>
   have d:aj (E=(9,pl)):=af (by rw[A.o];simp only[Bool.or_true,cond_true];rw[J.o]);have t3:x.b≤a.g:=(by simpa using G.symm);clear F G
   go_region
   all_goals go_wp2
   all_goals go_ret
   all_goals exact⟨by rw[d.o];rfl,by rw[d.o];exact aT.o.no (aA l).drew,aS.o.drew.mono (fun _ _ h=>h.elim)⟩
  have t3:¬x.b≤a.g:=(by simpa using G.symm);clear F G;simp only[Bool.or_self,cond_false]at A;have bK:aj (ah No w l.drew):=af aS.o.drew;have U:=af (aT.o.no (aA l).drew);have aC:=U.o.sh k r s v.o.1 v.o.2.1;have aW:r.f<w.heap.size:=H.o.lt (.inr (.inr ⟨r,dL v.o.1,.inr rfl⟩));have ok:=H.o.ok.sh v.o.2.1;have aO:=af (KC aC.free (by have:=bA.o;omega) (B:=s.all.length) (by have:=ok.n0;omega) (fun j Z=>by obtain⟨y,hy,_⟩:=ok.fr j Z;exact(eC.1 hy).1) (fun j=>decide ((j:Int)=a.i)) 261 #[.pointer (some ⟨w.heap.size,0,none⟩)] Gc
   (fun W' j _ Q=>Ef W' w.heap.size a.i j ((zx (w:=l.drew) (Q w.heap.size bI.o (by omega))).trans m1)))
  obtain⟨F',V⟩:∃F',F'=s.free.filter (fun j:Nat=>!decide ((j:Int)=a.i)):=⟨_,rfl⟩;rw[←V]at aO;have aP:aj (p8 s a.i=F'):=af V.symm;clear V aC aW ok
  go_region
  (go_wp2_with fail);refine aO.o.mono ?_;rintro e O ⟨rfl,aB,z⟩;have aH:=af z;have bL:=af aB;have ng:¬Own r.f g:=(H.o.four v.o.1).2.2.2.2.1;have na:¬Own r.f r.a:=(H.o.four v.o.1).2.2.2.2.2;have bH:¬Own r.f w.heap.size:=fun e=>by
   have:r.f<w.heap.size:=H.o.lt (.inr (.inr ⟨r,dL v.o.1,.inr rfl⟩));have e:w.heap.size=r.f:=e;omega
  have bu:=af (z.heap U.o.row ng);have aG:=af (z.heap (U.o.sh k r s v.o.1 v.o.2.1).all na);replace m2:O.cell? ⟨w.heap.size,2,none⟩=some (qI a.g):=z.cell (a:=l.drew) m2 bH;replace c0:O.cell? ⟨r.a,i*3,none⟩=some (qI x.g):=z.cell (a:=l.drew) c0 na;replace d1:O.cell? ⟨g,k*2+1,none⟩=some (r.fv s):=z.cell (a:=l.drew) d1 ng;have bT:O.frozen? ⟨g,k*2+1,none⟩=false:=bF _ _ _ _ _ bu.o;have bM:O.frozen? ⟨r.a,i*3,none⟩=false:=bF _ _ _ _ _ aG.o;have bN:O.frozen? ⟨r.a,i*3+2,none⟩=false:=bF _ _ _ _ _ aG.o;have c2:O.cell? ⟨r.a,i*3+2,none⟩=some (.bool x.a):=jE y5 aG.o i x v.o.2.2 2 _ rfl;have bn:¬g=r.a:=(H.o.four v.o.1).2.2.2.1;have bg:¬r.a=g:=fun e=>bn e.symm;have bQ:¬w.heap.size=g:=fun e=>(by have:=H.o.lt (i:=g) (.inr (.inl rfl));omega);have bP:¬w.heap.size=r.a:=fun e=>(by have:=H.o.lt (i:=r.a) (.inr (.inr ⟨r,dL v.o.1,.inl rfl⟩));omega);clear aB z na ng bH aO;go_wp2;go_ret;obtain⟨I,hm,hn⟩:=v.o;have D:a.i.toNat=i:=(by have:=aQ.o.2;omega);obtain⟨t,aL⟩:=ay (⟨s.all.set i ⟨a.g,x.b,true⟩,F'⟩:Sh);have d:E=(0,dZ pl k t):=(by rw[A.o,aP.o,D,aL]);have bO:(R.zip pl)[k]?=some (r,s):=(by rw[uK];exact⟨I,hm⟩);have bp:=dR CW bu.o k 1 (r,s) (r,t) (.slice (some ⟨r.f,0,none⟩) F'.length r.c) bO (by decide) (by rw[aL];simp[CW]);obtain⟨aq,Y⟩:=ay (O.setCell ⟨g,k*2+1,none⟩ (.slice (some ⟨r.f,0,none⟩) F'.length r.c));have aE:ah (Own g) O aq:=(by rw[Y];exact bU _ _ _ _);have bp:aq.heap[g]?=some (.cells (rowsOf CW ((R.zip pl).set k (r,t))).toArray LV (0,0)):=(by rw[Y];exact bp);rw[←Y];have bR:ah (Own r.a) aq (aq.setCell ⟨r.a,i*3,none⟩ (qI a.g)):=bU _ _ _ _;have bS:=aE.heap aG.o bg;have z2:=dR y5 bS i 0 x ⟨a.g,x.b,x.a⟩ (qI a.g) hn (by decide) rfl;rw[oG]at z2;have z3:=dR y5 z2 i 2 ⟨a.g,x.b,x.a⟩ ⟨a.g,x.b,true⟩ (.bool true) (by rw[mD (eC.1 hn).1]) (by decide) rfl;rw[List.set_set]at z3;have aF:=bR.aK (bU (aq.setCell ⟨r.a,i*3,none⟩ (qI a.g)) r.a (i*3+2) (.bool true));obtain⟨aU,av⟩:=ay ((aq.setCell ⟨r.a,i*3,none⟩ (qI a.g)).setCell ⟨r.a,i*3+2,none⟩ (.bool true));have z3:aU.heap[r.a]?=some (.cells (rowsOf y5 (s.all.set i ⟨a.g,x.b,true⟩)).toArray Oj (0,0)):=(by rw[av];exact z3);rw[←av]at aF⊢;have bE:ah (d_ p g [r]) l.drew aU:=((aH.o.mono (T:=d_ p g [r]) (fun j _ e=> .inr (.inr ⟨r,by simp,.inr e⟩))).trans aE (fun j _ e=> .inr (.inl e))).trans aF (fun j _ e=> .inr (.inr ⟨r,by simp,.inl e⟩));obtain⟨f1,f2,f3,f4,f5,f6⟩:=H.o.four I;have aX:aU.heap[p]?=l.drew.heap[p]?:=by
   have bf:p<l.drew.heap.size:=U.o.lt (.inl rfl);rw[aF.block p (by have:=aE.size;have:=aH.o.size;omega) f2,aE.block p (by have:=aH.o.size;omega) f1,aH.o.block p bf f3]
  have hp:=U.o.put (r':=r) (t:=t) I hm bE aX (aF.heap bp f4)
   ⟨by rw[aL];exact z3,by rw[aL];exact aF.owns (aE.owns bL.o (fun j Z e=>f5 (by simp only[Value.ownBlock,Option.some.injEq]at Z;exact e.symm.trans Z.symm))) (fun j Z e=>f6 (by simp only[Value.ownBlock,Option.some.injEq]at Z;exact e.symm.trans Z.symm)),(U.o.sh k r s I hm).ba⟩ rfl (.inl rfl)
   (by
     have bB:=U.o.ok.take a;rw[←aR.o,d]at bB;exact bB.sh (n:=k) (mD (eC.1 hm).1))
  rw[vK I]at hp;refine⟨by rw[d];rfl,by rw[d];exact hp,(bK.o.mono (fun _ _ h=>h.elim)).trans bE (fun j _ e=>?_)⟩;rcases e with e|e|⟨q,bD,e⟩
  ·exact .inl e
  ·exact .inr (.inl e)
  ·simp only[ow]at bD;subst bD;exact .inr (.inr ⟨q,dL I,e⟩)
end
end
