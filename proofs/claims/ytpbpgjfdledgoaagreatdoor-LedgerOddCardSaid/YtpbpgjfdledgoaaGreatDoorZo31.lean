/- Lemmas. -/
import Derived.Test.YtpbpgjfdledgoaaGreatDoorZo30
set_option linter.all false
set_option maxRecDepth 100000
set_option maxHeartbeats 8000000
open Bool renaming and_eq_true→eA,not_true→jj
open Nat renaming zero_add→bC
namespace Go.Proofs.YtpbpgjfdledgoaaGreatDoor
open Go.Proofs.Tryz
open Go.RowKit Go.Shelf Go.Sort Go.Joins Go.Deep
abbrev KK:TypeId:=221
abbrev dV:TypeId:=27
structure Dp where
 d:Nat
 m:Nat
 p:Nat
 g:Nat
 R:List Rp
 q:Value
def dW (D:Dp):Nat→Prop:=fun i=>i=D.d∨d_ D.p D.g D.R i∨D.q.ownBlock=some i
structure bS (w:World)(base:Nat)(D:Dp)(k:Dk):Prop where
 box:w.heap[D.d]?=some (.cells #[dP D.m,dP D.p,D.q,qI k.t,.bool k.o] KK (0,0))
 map:ai w D.m 0 11=some (U2 k.z)
 pool:bG w base D.p D.g D.R k.pl
 q:aI k_ dV w base D.q k.q
 nm:¬dW D D.m
 bd:base≤D.d
 ok:k.ok
theorem cK {S:Nat→Prop}{w w':World}(k:ah S w w'){b o n:Nat}{l:List Value}(hc:ai w b o n=some l)(hb:¬S b):ai w' b o n=some l:=by
 have a:b<w.heap.size:=by
  unfold ai at hc
  split at hc
  ·rename_i c
   exact(bX.1 c).1
  ·cases hc
 unfold ai at hc⊢;rw[k.block b a hb];exact hc
theorem cP {w:World}{b o n:Nat}{l:List Value}(hc:ai w b o n=some l):b<w.heap.size:=by
 unfold ai at hc
 split at hc
 ·rename_i a
  exact(bX.1 a).1
 ·cases hc
theorem aI.block {α:Type}{C:dX α}{e:TypeId}{w:World}{b:Nat}{v:Value}{l:List α}(h:aI C e w b v l){i:Nat}(hi:v.ownBlock=some i):∃cur:Array Value,w.heap[i]?=some (.cells cur e (0,0))∧b≤i:=by
 rcases h.2 with⟨rfl,_⟩|⟨g,cap,cur,rfl,hb,a,_⟩
 ·cases hi
 ·simp only[Value.ownBlock,Option.some.injEq]at hi;subst hi;exact⟨cur,a,hb⟩
section
variable {w w':World}{base:Nat}{D:Dp}{k:Dk}{S:Nat→Prop}
theorem bS.kept (h:bS w base D k)(a:ah S w w')(hS:∀i,dW D i→¬S i)(hm:¬S D.m):bS w' base D k:=
 ⟨a.heap h.box (hS _ (.inl rfl)),cK a h.map hm,h.pool.kept a (fun i hi=>hS i (.inr (.inl hi))),a.owns h.q (fun i hi=>hS i (.inr (.inr hi))),h.nm,h.bd,h.ok⟩
theorem bS.no (h:bS w base D k)(a:ah No w w'):bS w' base D k:=h.kept a (fun _ _ h=>h) (fun h=>h)
theorem bS.lt (h:bS w base D k){i:Nat}(hi:dW D i):i<w.heap.size:=by
 rcases hi with rfl|hi|hi
 ·exact(bX.1 h.box).1
 ·exact h.pool.lt hi
 ·exact(h.q.lt i hi).2
theorem bS.le (h:bS w base D k){i:Nat}(hi:dW D i):base≤i:=by
 rcases hi with rfl|hi|hi
 ·exact h.bd
 ·exact h.pool.le hi
 ·exact(h.q.lt i hi).1
theorem bS.iI (h:bS w base D k):¬d_ D.p D.g D.R D.d:=by
 rintro(e|e|⟨r,a,e⟩)
 ·exact bO h.box h.pool.box (by decide) e
 ·exact bO h.box h.pool.row (by decide) e
 ·obtain⟨j,s,_,_,hs⟩:=h.pool.placed a;rcases e with e|e
  ·exact bO h.box hs.all (by decide) e
  ·obtain⟨cur,hf,_⟩:=hs.rP;exact bO h.box hf (by decide) e
theorem bS.Jt (h:bS w base D k):∀i,D.q.ownBlock=some i→¬d_ D.p D.g D.R i:=by
 intro i hi;obtain⟨cur,hc,_⟩:=h.q.block hi;rintro(e|e|⟨r,a,e⟩)
 ·exact bO hc h.pool.box (by decide) e
 ·exact bO hc h.pool.row (by decide) e
 ·obtain⟨j,s,_,_,hs⟩:=h.pool.placed a;rcases e with e|e
  ·exact bO hc hs.all (by decide) e
  ·obtain⟨cur,hf,_⟩:=hs.rP;exact bO hc hf (by decide) e
theorem bS.C_ (h:bS w base D k):∀i,D.q.ownBlock=some i→¬i=D.d:=by
 intro i hi e;obtain⟨cur,hc,_⟩:=h.q.block hi;exact bO hc h.box (by decide) e
theorem bS.pooled (h:bS w base D k){R':List Rp}{a:Pl}(hp:bG w' base D.p D.g R' a)(b:ah (d_ D.p D.g D.R) w w')(hn:∀i,d_ D.p D.g R' i→d_ D.p D.g D.R i∨w.heap.size≤i)(ok:(⟨k.z,a,k.q,k.t,k.o⟩:Dk).ok):
 bS w' base ⟨D.d,D.m,D.p,D.g,R',D.q⟩ ⟨k.z,a,k.q,k.t,k.o⟩∧ah (dW D) w w'∧∀i,dW ⟨D.d,D.m,D.p,D.g,R',D.q⟩ i→dW D i∨w.heap.size≤i:=by
 refine⟨⟨b.heap h.box h.iI,cK b h.map (fun e=>h.nm (.inr (.inl e))),hp,b.owns h.q h.Jt,fun e=>?_,h.bd,ok⟩,b.mono (fun i _ e=> .inr (.inl e)),fun i hi=>?_⟩
 ·rcases e with e|e|e
  ·exact h.nm (.inl e)
  ·rcases hn _ e with e|e
   ·exact h.nm (.inr (.inl e))
   ·have:=cP h.map;simp only at e;omega
  ·exact h.nm (.inr (.inr e))
 ·rcases hi with e|e|e
  ·exact .inl (.inl e)
  ·rcases hn _ e with e|e
   ·exact .inl (.inr (.inl e))
   ·exact .inr e
  ·exact .inl (.inr (.inr e))
theorem bS.cells (h:bS w base D k):w.cell? ⟨D.d,0,none⟩=some (dP D.m)∧w.cell? ⟨D.d,1,none⟩=some (dP D.p)∧w.cell? ⟨D.d,2,none⟩=some D.q∧w.cell? ⟨D.d,3,none⟩=some (qI k.t)∧w.cell? ⟨D.d,4,none⟩=some (.bool k.o):=by
 refine⟨?_,?_,?_,?_,?_⟩<;> · rw[bW _ _ _ _ _ _ h.box];rfl
def gT (w:World)(base:Nat)(D:Dp)(k':Dk)(w':World):Prop:=∃D',bS w' base D' k'∧ah (dW D) w w'∧(∀i,dW D' i→dW D i∨w.heap.size≤i)∧D'.d=D.d∧D'.m=D.m
theorem gT.refl (h:bS w base D k):gT w base D k w:=⟨D,h,aA _,fun _ hi=> .inl hi,rfl,rfl⟩
theorem Es (h:bS w base D k):Calls prog 78 #[dP D.d] w (qG w (.tuple #[qI k.t,.bool k.o])):=by
 obtain⟨_,_,_,c3,c4⟩:=h.cells;clear h;(go_enter func78,ntmps78);go_wp2_with fail
 go_region
 all_goals go_wp2
 all_goals go_ret2
 all_goals exact⟨rfl,(aA _).drew⟩
theorem y9 (h:bS w base D k)(a i:Int):Calls prog 150 #[dP D.d,qI a,qI i] w fun e w'=>e= .returned (qI (cU k.pl a i).1)∧gT w base D ⟨k.z,(cU k.pl a i).2,k.q,k.t,k.o⟩ w':=by
 obtain⟨_,c1,_,_,_⟩:=h.cells;have C:=af (y7 h.pool a i);have H:=af h;clear h;(go_enter func150,ntmps150);(go_wp2_with fail);refine C.o.mono ?_;rintro e w1 ⟨rfl,hp,f⟩;have PP:=af (And.intro hp f);clear hp f;go_wp2;go_ret;have ok:=H.o.ok;have c:(cU k.pl a i).2.length=k.pl.length:=by
  unfold cU
  split
  ·rfl
  ·split
   ·rfl
   ·rename_i x _
    cases decide (x.b=1048576)<;>simp[dZ]
 obtain⟨g,z2,z3⟩:=H.o.pooled (R':=D.R) PP.o.1 PP.o.2 (fun i hi=> .inl hi) ⟨ok.z,ok.pl.reserve a i,by simp only;rw[c];exact ok.pn,ok.q,ok.t0,ok.t1⟩;exact⟨rfl,_,g,z2,z3,rfl,rfl⟩
theorem Ce (h:bS w base D k):Calls prog 149 #[dP D.d] w fun e w'=>(∃n:Int,e= .returned (qI n))∧gT w base D ⟨k.z,iF k.pl,k.q,k.t,k.o⟩ w':=by
 obtain⟨_,c1,_,_,_⟩:=h.cells;have C:=af (B_ h.pool);have H:=af h;clear h;(go_enter func149,ntmps149);(go_wp2_with fail);refine C.o.mono ?_;rintro e w1 ⟨⟨n,rfl⟩,hp,a⟩;have PP:=af (And.intro hp a);clear hp a;go_wp2;go_ret;have ok:=H.o.ok;obtain⟨b,z2,z3⟩:=H.o.pooled (R':=D.R) PP.o.1 PP.o.2 (fun i hi=> .inl hi) ⟨ok.z,ok.pl.yw,by simp only[iF,List.length_map];exact ok.pn,ok.q,ok.t0,ok.t1⟩;exact⟨⟨n,rfl⟩,_,b,z2,z3,rfl,rfl⟩
theorem Cg (h:bS w base D k):Calls prog 109 #[dP D.d] w fun e w'=>∃v,e= .returned v∧aI bN 23 w' w.heap.size v (mK k.pl)∧ah No w w':=by
 obtain⟨_,c1,_,_,_⟩:=h.cells;have C:=af (Er h.pool);clear h;(go_enter func109,ntmps109);(go_wp2_with fail);refine C.o.mono ?_;rintro e w1 ⟨v,rfl,c,b⟩;have a:=af (And.intro c b);clear c b;go_wp2;go_ret;exact⟨v,rfl,a.o.1,a.o.2⟩
end
theorem Tryz.Ju:(prog.info? 27).map (fun i=>(i.zero,i.size,i.bytes))=some (some (.agg (ct Cm.zero).toArray),16,128):=by kernel_rfl
theorem KL (w:World)(v:Value)(l:List Cm)(p:aW k_ w v l)(hl:l.length≤100000):
 Calls prog 107 #[v] w fun e w'=>∃v',e= .returned v'∧aI k_ dV w' w.heap.size v' l∧ah No w w':=by
 obtain⟨i0,hi,j,k,m⟩:=fR Tryz.Ju;rcases p.shape with⟨rfl,hn⟩|⟨a,c,rfl,hc,q,hcell⟩
 ·have b:l= []:=qA hn;subst b;(go_enter func107,ntmps107);have b:∀w,(binOp .eql 58 (.slice none 0 0) (.slice none 0 0)).run prog w= .ok (.bool true) w:=fun w=>(by kernel_rfl);go_wp2;go_ret;exact⟨_,rfl,cJ _ _ _ _,aA _⟩
 ·clear hcell;have s:∀w,(binOp .eql 58 (.slice (some a) l.length c) (.slice none 0 0)).run prog w= .ok (.bool false) w:=fun w=>Lib.run_eql_slice_nil w _ 27 _ _ _ _ _ underlying58;have g:Reads (w.alloc (.cells #[] 27)) 16 (.slice (some a) l.length c) l.length (rowsOf k_ l):=p.kept ((aA (S:=No) w).alloc _) (fun _ _ h=>h);have d:(w.alloc (.cells #[] 27)).ownsRow w.heap.size 27 16 (.slice (some ⟨w.heap.size,0,none⟩) 0 0) 0 []:=jO w #[] 0 (bM _) (aX _) rfl;have n:=af hl;clear hl;(go_enter func107,ntmps107);go_wp2_with (at_builtin;refine aQ rfl (.tmp 5) (.tmp 6) 58 rfl w.heap.size 27 i0 _ 16 128 underlying58 hi j k m rfl (by decide) _ 0 [] rfl d _ _ _ rfl g ?c1 ?c2 ?c3 ?c4)
  case c1=>have:=n.o;unfold maxLen;omega
  case c2=>have:=n.o;omega
  case c3=>simp
  case c4=>
   intro v' w1 f r _ _;go_wp2;go_ret;refine⟨_,rfl,f,((aA (S:=No) w).alloc _).trans r (fun i hi h=>?_)⟩;simp[Of,Value.ownBlock]at h;omega
theorem aI.Bk {α:Type}{C:dX α}{e:TypeId}{w:World}{b:Nat}{v:Value}{l:List α}(h:aI C e w b v l):aW C w v l:=Reads.fu h (ko C l)
section
variable {w w':World}{base:Nat}{D:Dp}{k:Dk}{S:Nat→Prop}
theorem Dk.ok.few (h:k.ok):k.q.length≤64:=by
 have b:=h.q;have c:=D9 h.z;have a:=h.z;unfold o9 jo at a;simp only[eA,decide_eq_true_eq]at a;omega
theorem za (h:bS w base D k):Calls prog 108 #[dP D.d] w fun e w'=>∃v,e= .returned v∧aI k_ dV w' w.heap.size v k.q∧ah No w w':=by
 obtain⟨_,_,c2,_,_⟩:=h.cells;have C:=af (KL w D.q k.q h.q.Bk (by have:=h.ok.few;omega));clear h;(go_enter func108,ntmps108);(go_wp2_with fail);refine C.o.mono ?_;rintro e w1 ⟨v,rfl,c,b⟩;have a:=af (And.intro c b);clear c b;go_wp2;go_ret;exact⟨v,rfl,a.o.1,a.o.2⟩
theorem Bl (a b:cO)(W:World):(binOp .eql 23 (iE a) (iE b)).run prog W= .ok (.bool (neq a b)) W:=by
 obtain⟨a0,c,a2⟩:=a;obtain⟨b0,b1,d⟩:=b;simp only[neq];simp[go_sem];simp only[Ej,Bool.and_true]
theorem Et (W:World)(B:Nat)(a:cO)(c:Cm)(h:ai W B 0 3=some (bk a)):Calls prog 208 #[gH c,.pointer (some ⟨B,0,none⟩)] W (qG W ((.bool (oN a c)))):=by
 have j:=cP h;have e1:=fun W'=>Bl c.id a W';obtain⟨T,i⟩:=ay (neq c.id a);rw[←i]at e1;have l:=af i;clear i;have CC:ai (W.alloc (.cells (ct c).toArray 27)) W.heap.size 0 16=some (ct c):=(by simp[go_sem]);have CI:aj (ai (W.alloc (.cells (ct c).toArray 27)) W.heap.size 1 3=some (bk c.id)):=af (aE CC 1 (bk c.id) rfl (by simp));clear CC;have e:aj (oN a c=(decide (c.k=2)&&T)):=af (by rw[l.o];rfl);obtain⟨E,m⟩:=ay (oN a c);rw[←m]at e⊢;clear m l;(go_enter func208,ntmps208);go_upto_region 1 with fail
 refine au ?_;intro g b;have f:aj (ah No W g):=af (by rw[b];exact(aA W).alloc _);have p:g.cell? ⟨W.heap.size,0,none⟩=some (qI c.k):=(by rw[b];simp[go_sem]);have k1:ai g W.heap.size 1 3=some (bk c.id):=(by rw[b];exact CI.o);have q:=f.o.ai h;clear b CI h j;by_cases d:c.k=2
 ·have n:(c.k==2)=true:=(by rw[d];rfl);rw[aM d,mF]at e;clear d;go_wp2;go_ret;exact⟨by rw[e.o];rfl,f.o⟩
 ·have n:(c.k==2)=false:=eD.2 d;rw[aJ d,iL]at e;clear d;go_wp2;go_ret;exact⟨by rw[e.o];rfl,f.o⟩
abbrev Sz (B:Nat):Value:= .func (.func 208) #[] #[.pointer (some ⟨B,0,none⟩)]
theorem GG (w:World)(v:Value)(l:List Cm)(hv:aW k_ w v l)(hl:l.length≤100000)(B:Nat)(a:cO)(C:ai w B 0 3=some (bk a)):
 Calls prog 263 #[v,Sz B] w (qG w ((qI (gA (oN a) l)))):=by
 obtain⟨va,vc,rfl⟩:=hv.slice;have D:=af hv;have r:=af C;have F:(l.length:Int)≤100000:=(by omega);clear hv C;(go_enter func263,ntmps263);go_wp2
 go_loopw [8] (fun q wr=>∃n:Nat,n≤l.length∧q=qI n∧(∀j,(h:j<n)→(p:j<l.length)→oN a l[j]=false)∧ah No w wr) (fun q _=>l.length-(intOf q).toNat)
 case atStart=>exact⟨0,aX _,rfl,fun j h=>absurd h (w5 _),aA _⟩
 case round=>
  obtain⟨n,hn,rfl,d,hK⟩:=hrel;have z:=af hK;have b:=af d;have G:(0:Int)≤(n:Int):=(by omega);by_cases k:n<l.length
  ·have u:(n:Int)<(l.length:Int):=(by omega);have f:aW k_ wr (.slice va l.length vc) l:=D.o.kept hK (fun _ _ h=>h);obtain⟨g,off,rfl,_,_,_⟩:=aW.addr k_ f (by omega);have A:ai wr g (off+n*16) 16=some (ct l[n]):=aW.at k_ f n k;obtain⟨c,hc⟩:=ay (l[n]);rw[←hc]at A;have x:=af (Et wr B a c (hK.ai r.o));obtain⟨T,t⟩:=ay (oN a c);rw[←t]at x;have m:=af (And.intro t hc);clear f hc hK t d;(go_wp2_with fail);refine x.o.mono ?_;rintro e H ⟨rfl,i⟩;have y:=af (z.o.aK i);clear i A;cases T with
   |true=>
    have s:aj (gA (oN a) l=(n:Int)):=af (Ac _ _ n k b.o (by rw[←m.o.2, ←m.o.1]));go_wp2;go_ret;exact⟨by rw[s.o];rfl,y.o⟩
   |false=>
    go_wp2;go_roundw
    case rel=>
     refine⟨n+1,by omega,by go_num,fun j E p=>?_,y.o⟩;rcases Nat.lt_succ_iff_lt_or_eq.1 E with h|h
     ·exact b.o j h p
     ·subst h;rw[←m.o.2, ←m.o.1]
    case measure=>simp[intOf];omega
  ·have s:aj (gA (oN a) l= -1):=af (uZ _ _ (fun j p=>b.o j (by omega) p));have u:¬((n:Int)<(l.length:Int)):=(by omega);clear hK d;go_wp2;go_ret;exact⟨by rw[s.o];rfl,z.o⟩
theorem GH (w:World)(v:Value)(l:List Cm)(hv:aW k_ w v l)(hl:l.length≤100000)(B:Nat)(a:cO)(d:ai w B 0 3=some (bk a)):
 Calls prog 207 #[v,Sz B] w (qG w ((.bool (qm l a)))):=by
 obtain⟨va,vc,rfl⟩:=hv.slice;have C:=af (GG w _ l hv hl B a d);rcases jS (oN a) l with⟨hf,b⟩|⟨n,hf,hn,hp,_⟩
 ·have hw:qm l a=false:=by
   unfold qm;rw[wU];intro c hc;rw[b c hc];decide
  rw[hw];rw[hf]at C;clear hv hf b hw d;(go_enter func207,ntmps207);(go_wp2_with fail);refine C.o.mono ?_;rintro e w1 ⟨rfl,f⟩;go_wp2;go_ret;exact⟨rfl,f⟩
 ·have hw:qm l a=true:=by
   unfold qm;rw[List.any_eq_true];exact⟨_,dw hn,hp⟩
  rw[hw];rw[hf]at C;have h0:(0:Int)≤(n:Int):=(by omega);clear hv hf hp hw d hn;(go_enter func207,ntmps207);(go_wp2_with fail);refine C.o.mono ?_;rintro e w1 ⟨rfl,f⟩;go_wp2;go_ret;exact⟨rfl,f⟩
theorem Ch (h:bS w base D k)(a:cO):Calls prog 156 #[dP D.d,iE a] w (qG w ((.bool (qm k.q a)))):=by
 have C:=af (fun(W:World) (q:ah No w W) (f:ai W w.heap.size 0 3=some (bk a))=>GH W D.q k.q (h.no q).q.Bk (by have:=h.ok.few;omega) w.heap.size a f);obtain⟨_,_,c2,_,_⟩:=h.cells;have ld:=h.lt (i:=D.d) (.inl rfl);clear h;(go_enter func156,ntmps156);go_wp2_with fail
 (with_reducible refine(C.o _ ((aA w).alloc _) (by simp[go_sem])).mono ?_)
 rintro e w1 ⟨rfl,b⟩;have c:aj (ah No w w1):=af (((aA w).alloc _).aK b);clear b C;go_wp2;go_ret;exact⟨rfl,c.o⟩
theorem bS.Rj (h:bS w base D k)(b:ah (Own D.d) w w')(hb:w'.heap[D.d]?=some (.cells #[dP D.m,dP D.p,.slice none 0 0,qI (k.t+1),.bool true] KK (0,0)))(c:k.t<1099511627776):
 bS w' base ⟨D.d,D.m,D.p,D.g,D.R,.slice none 0 0⟩ ⟨k.z,k.pl,[],k.t+1,true⟩∧∀i,dW ⟨D.d,D.m,D.p,D.g,D.R,.slice none 0 0⟩ i→dW D i:=by
 have ok:=h.ok;refine⟨⟨hb,cK b h.map (fun e=>h.nm (.inl e)),h.pool.kept b (fun i hi e=>h.iI (by have e:i=D.d:=e;exact e▸hi)),cJ _ _ _ _,fun e=>?_,h.bd,⟨ok.z,ok.pl,ok.pn,?_,?_,?_⟩⟩,fun i hi=>?_⟩
 ·rcases e with e|e|e
  ·exact h.nm (.inl e)
  ·exact h.nm (.inr (.inl e))
  ·cases e
 ·have a:=ok.z;unfold o9 jo at a;simp only[eA,decide_eq_true_eq]at a;simp;omega
 ·have:=ok.t0;simp only;omega
 ·simp only;omega
 ·rcases hi with e|e|e
  ·exact .inl e
  ·exact .inr (.inl e)
  ·cases e
def O5 (w:World)(base:Nat)(D:Dp)(x:Int×List Cm×Int×Dk)(e:Ending)(w':World):Prop:=
 ∃D' v,e= .returned (.tuple #[qI x.1,v,qI x.2.2.1])∧bS w' base D' x.2.2.2∧aI k_ dV w' base v x.2.1∧(∀i,v.ownBlock=some i→dW D i∧¬dW D' i)∧ah (dW D) w w'∧(∀i,dW D' i→dW D i∨w.heap.size≤i)∧D'.d=D.d∧D'.m=D.m
theorem Eu (h:bS w base D k):Calls prog 152 #[dP D.d] w (O5 w base D (jk k)):=by
 obtain⟨_,_,c2,c3,c4⟩:=h.cells;obtain⟨v,x,b⟩:=aq h.q;rw[b]at c2;obtain⟨E,f⟩:=ay (jk k);rw[←f];unfold jk at f;have f2:w.frozen? ⟨D.d,2,none⟩=false:=bF _ _ _ _ _ h.box;have f3:w.frozen? ⟨D.d,3,none⟩=false:=bF _ _ _ _ _ h.box;have f4:w.frozen? ⟨D.d,4,none⟩=false:=bF _ _ _ _ _ h.box;have t0:=h.ok.t0;have t1:=h.ok.t1;have H:=af h;have r:=af b;have c:=af f;clear h b f;obtain⟨O,g⟩:=ay (k.o);rw[←g]at c4 c;have u:=af g;clear g;cases O
 case true=>
  have a:aj (E=(0,[],14,k)):=af (by rw[c.o];rfl);(go_enter func152,ntmps152);go_wp2
  go_ret3
  exact⟨D,.slice none 0 0,by rw[a.o];rfl,by rw[a.o];exact H.o,by rw[a.o];exact cJ _ _ _ _,(fun i hi=>by cases hi),aA _,fun i hi=> .inl hi,rfl,rfl⟩
 by_cases n:1099511627776≤k.t
 ·have a:aj (E=(0,[],14,k)):=af (by rw[c.o,aM n];rfl);(go_enter func152,ntmps152);go_wp2
  go_ret3
  exact⟨D,.slice none 0 0,by rw[a.o];rfl,by rw[a.o];exact H.o,by rw[a.o];exact cJ _ _ _ _,(fun i hi=>by cases hi),aA _,fun i hi=> .inl hi,rfl,rfl⟩
 ·have a:aj (E=(k.t+1,k.q,0,⟨k.z,k.pl,[],k.t+1,true⟩)):=af (by rw[c.o,aJ n];rfl);(go_enter func152,ntmps152);go_wp2
  go_ret3
  obtain⟨X,j⟩:=ay (((w.setCell ⟨D.d,2,none⟩ (.slice none 0 0)).setCell ⟨D.d,4,none⟩ (.bool true)).setCell ⟨D.d,3,none⟩ (qI (k.t+1)));have l:ah (Own D.d) w X:=(by rw[j];exact((bU _ _ _ _).aK (bU _ _ _ _)).aK (bU _ _ _ _));have hb:X.heap[D.d]?=some (.cells #[dP D.m,dP D.p,.slice none 0 0,qI (k.t+1),.bool true] KK (0,0)):=(by rw[j];exact aB (aB (aB H.o.box _) _) _);obtain⟨s,z2⟩:=H.o.Rj l hb (by omega);have b:=l.owns H.o.q (fun i hi e=>H.o.C_ i hi e);rw[←j];refine⟨_,D.q,by rw[a.o,r.o];rfl,by rw[a.o];exact s,by rw[a.o];exact b,fun i hi=>⟨.inr (.inr hi),fun e=>?_⟩,l.mono (fun i _ e=> .inl e),fun i hi=> .inl (z2 i hi),rfl,rfl⟩;rcases e with e|e|e
  ·exact H.o.C_ i hi e
  ·exact H.o.Jt i hi e
  ·cases e
end
theorem mQ (p:Pl)(l:List cO)(a:cO):jF p (l++ [a])=(iZ (jF p l) a).2:=by simp[jF]
theorem nP:∀(p:Pl) (l:List cO) (a:cO),kN p (l++ [a])=kN p l+bif decide ((iZ (jF p l) a).1=0)then 1 else 0
 |p,[],a=>by
  show(bif decide ((iZ p a).1=0)then 1 else 0)+0=0+_
  rw[oG,jI];rfl
 |p,b::l,a=>by
  show kN p (b::(l++ [a]))=_;rw[kN,nP,kN,Nat.add_assoc];rfl
theorem Bm:∀(p:Pl) (l:List cO),kN p l≤l.length
 |_,[]=>bM _
 |p,a::l=>by
  rw[kN,g_];have:=Bm (iZ p a).2 l;cases decide ((iZ p a).1=0)
  ·rw[aN];omega
  ·rw[bH];omega
theorem Ev (p:Pl)(a:cO):(iZ p a).2.length=p.length:=by
 unfold iZ
 split
 ·rfl
 ·split
  ·rfl
  ·simp[dZ]
theorem rS (l:List cO):∀p:Pl,(jF p l).length=p.length:=by
 induction l with
 |nil=>intro p;rfl
 |cons a l ih=>intro p;show(jF (iZ p a).2 l).length=_;rw[ih,Ev]
theorem Bn (l:List cO):∀p:Pl,jd p→jd (jF p l):=by
 induction l with
 |nil=>intro p h;exact h
 |cons a l ih=>intro p h;exact ih _ (h.free a)
section
variable {w w':World}{base:Nat}{D:Dp}{k:Dk}{S:Nat→Prop}
theorem bS.flag (h:bS w base D k)(o:Bool):bS (w.setCell ⟨D.d,4,none⟩ (.bool o)) base D ⟨k.z,k.pl,k.q,k.t,o⟩:=by
 have a:ah (Own D.d) w (w.setCell ⟨D.d,4,none⟩ (.bool o)):=bU _ _ _ _;have ok:=h.ok;exact⟨aB h.box _,cK a h.map (fun e=>h.nm (.inl e)),h.pool.kept a (fun i hi e=>h.iI (by have e:i=D.d:=e;exact e▸hi)),a.owns h.q (fun i hi e=>h.C_ i hi e),h.nm,h.bd,⟨ok.z,ok.pl,ok.pn,ok.q,ok.t0,ok.t1⟩⟩
theorem Ci (h:bS w base D k)(v:Value)(l:List cO)(hv:aW bN w v l)(hl:l.length≤100000)(hd:∀i,v.ownBlock=some i→¬dW D i):
 Calls prog 153 #[dP D.d,v] w fun e w'=>e= .returned (.tuple #[qI (jM k l).1,qI (jM k l).2.1])∧gT w base D (jM k l).2.2 w':=by
 obtain⟨va,vc,rfl⟩:=hv.slice;obtain⟨_,c1,_,_,c4⟩:=h.cells;obtain⟨E,F⟩:=ay (jM k l);rw[←F];unfold jM at F;have r:=af F;have H:=af h;have aq:=af hv;have ak:=af hd;have aC:(l.length:Int)≤100000:=(by omega);obtain⟨O,Z⟩:=ay (k.o);rw[←Z]at c4 r;clear h hv hd F Z;cases O
 case false=>
  have s:aj (E=(0,14,k)):=af (by rw[r.o];rfl);(go_enter func153,ntmps153);go_wp2
  go_ret2
  exact⟨by rw[s.o];rfl,by rw[s.o];exact gT.refl H.o⟩
 rw[bH]at r;(go_enter func153,ntmps153);go_wp2
 go_loopw [18,6] (fun q n wr=>∃(j:Nat) (R':List Rp),j≤l.length∧q=qI j∧n=qI ((kN k.pl (l.take j):Nat):Int)∧bG wr base D.p D.g R' (jF k.pl (l.take j))∧ah (d_ D.p D.g D.R) w wr∧(∀i,d_ D.p D.g R' i→d_ D.p D.g D.R i∨w.heap.size≤i)) (fun q _ _=>l.length-(intOf q).toNat)
 case atStart=>exact⟨0,D.R,aX _,rfl,rfl,H.o.pool,aA _,fun i hi=> .inl hi⟩
 case round=>
  obtain⟨j,R',aI,rfl,rfl,f,hK,L⟩:=hrel;have X:=af f;have I:=af hK;have J:=af L;have aB:(0:Int)≤(j:Int):=(by omega);have nd:¬d_ D.p D.g D.R D.d:=H.o.iI;by_cases t:j<l.length
  ·have N:(j:Int)<(l.length:Int):=(by omega);have c:aW bN wr (.slice va l.length vc) l:=aq.o.kept hK (fun i hi e=>ak.o i hi (.inr (.inl e)));obtain⟨g,off,rfl,_,_,lg⟩:=aW.addr bN c (by omega);have Y:ai wr g (off+j*3) 3=some (bk l[j]):=aW.at bN c j t;obtain⟨a,M⟩:=ay (l[j]);rw[←M]at Y;have b:aj (l.take (j+1)=l.take j++ [a]):=af (by rw[iK t,M]);replace c1:=hK.cell c1 nd;have ld:D.d<wr.heap.size:=nh c1;obtain⟨m,hm⟩:=ay (kN k.pl (l.take j));have aE:(m:Int)≤100000:=(by have:=Bm k.pl (l.take j);rw[fB]at this;omega);have aD:(0:Int)≤(m:Int):=(by omega);rw[←hm];have S:=af hm;clear f hK L c M hm;go_upto_region 9 with fail
   refine au ?_;intro W hW;have C:aj (ah No wr W):=af (by rw[hW];exact(aA wr).alloc _);have b0:ai W wr.heap.size 0 3=some (bk a):=(by rw[hW];simp[go_sem]);replace c1:=C.o.cB c1;have Q:=af (Eh (X.o.no (C.o.drew)) a);obtain⟨y,hy⟩:=ay (iZ (jF k.pl (l.take j)) a);rw[←hy]at Q;have B:=af hy;clear hW Y hy ld lg;obtain⟨aG,aK⟩:=y
   go_region_with (first
    |(go_at_call 204
      have hc:=Q.o
      with_reducible refine hc.mono ?_
      clear hc;rintro e aF ⟨K,rfl,A,u,x⟩;have V:=af A;have T:aj (ah (d_ D.p D.g D.R) w aF):=af ((I.o.mS C.o.drew).trans u (fun i hi e=>by rcases J.o i e with e|e;exact e;omega))
      have U:aj (∀i,d_ D.p D.g K i→d_ D.p D.g D.R i∨w.heap.size≤i):=af (fun i hi=>by
       rcases x i hi with e|e
       ·exact J.o i e
       ·exact .inr (aU (aU I.o.size C.o.size) e))
      clear A u x))
   all_goals
    by_cases h0:aG=0
    ·have G:aj (kN k.pl (l.take (j+1))=m+1):=af (by rw[b.o,nP, ←B.o,aM h0,S.o];rfl);go_wp2;go_roundw
     case rel=>exact⟨j+1,K,by omega,by go_num,by rw[G.o];go_num,by rw[b.o,mQ, ←B.o];exact V.o,T.o,U.o⟩
     case measure=>simp[intOf];omega
    ·have G:aj (kN k.pl (l.take (j+1))=m):=af (by rw[b.o,nP, ←B.o,aJ h0,S.o];rfl);go_wp2;go_roundw
     case rel=>exact⟨j+1,K,by omega,by go_num,by rw[G.o],by rw[b.o,mQ, ←B.o];exact V.o,T.o,U.o⟩
     case measure=>simp[intOf];omega
  ·have P:j=l.length:=(by omega);have N:¬((j:Int)<(l.length:Int)):=(by omega);have hb:=af (hK.heap H.o.box nd);have av:=hK.cell c4 nd;have f4:wr.frozen? ⟨D.d,4,none⟩=false:=bF _ _ _ _ _ hb.o;clear f hK L c1 c4;go_wp2
   go_ret2
   have f:=X.o;rw[P,jH]at f;have ok:=H.o.ok;obtain⟨aH,z2,z3⟩:=H.o.pooled f I.o J.o ⟨ok.z,Bn l _ ok.pl,by simp only;rw[rS];exact ok.pn,ok.q,ok.t0,ok.t1⟩;have z4:=aH.flag false;have z5:ah (dW D) w (wr.setCell ⟨D.d,4,none⟩ (.bool false)):=z2.trans (bU wr D.d 4 (.bool false)) (fun i _ e=> .inl e);exact⟨by rw[r.o];rfl,by rw[r.o];exact⟨_,z4,z5,z3,rfl,rfl⟩⟩
def Rk (w:World)(z:Zf)(e:Ending)(w':World):Prop:=∃D,e= .returned (.tuple #[dP D.d,qI 0])∧bS w' w.heap.size D (Dk.new z)∧ah No w w'∧w.heap.size≤D.m
theorem bG.lower {p g:Nat}{R:List Rp}{pl:Pl}{b:Nat}(h:bG w base p g R pl)(hb:b≤base):bG w b p g R pl:=
 ⟨h.box,h.row,h.len,fun k r s a hs=>⟨(h.sh k r s a hs).all,vO (h.sh k r s a hs).free hb,aU hb (h.sh k r s a hs).ba⟩,h.apart,aU hb h.bp,aU hb h.bg,h.ok⟩
theorem qo {z:Zf}(h:o9 z=true):1≤z.c∧z.c≤4∧1≤z.r∧z.r≤4∧1≤z.i∧z.i≤16∧1≤z.q∧z.q≤64:=by
 unfold o9 jo at h;simp only[eA,decide_eq_true_eq]at h;omega
theorem xH {z:Zf}(h:o9 z=true):1≤z.c*z.r∧z.c*z.r≤16:=by
 obtain⟨c1,c2,r1,r2,_⟩:=qo h;have a:1*1≤z.c*z.r:=tV c1 r1 (by omega) (by omega);have b:z.c*z.r≤4*4:=tV c2 r2 (by omega) (by omega);omega
theorem Dk.O6 {z:Zf}(h:o9 z=true):(Dk.new z).ok:=by
 obtain⟨c1,c2,r1,r2,i1,i2,b,c⟩:=qo h;obtain⟨n1,a⟩:=xH h;refine⟨h,AL (by omega) (by omega) (by omega),?_,by simp[Dk.new];omega,mH _,by simp[Dk.new]⟩;simp only[Dk.new,plNew,List.length_replicate];omega
theorem GI (w:World)(z:Zf)(B:o9 z=true):Calls prog 71 #[D8 z] w (Rk w z):=by
 obtain⟨c1,c2,r1,r2,i1,i2,au,av⟩:=qo B;obtain⟨n1,aq⟩:=xH B;obtain⟨n,hn⟩:=sS (show 0≤z.c*z.r by omega);obtain⟨m,hm⟩:=sS (show 0≤z.i by omega);have X:=af B;have Q:=af hn;have E:=af hm;clear hn hm;have O:=af (fun W=>IV W z B);have N:aj (ai (w.alloc (.cells #[qI z.c,qI z.r,qI z.s,qI z.u,qI z.v,qI z.i,qI z.q] 45)) w.heap.size 0 7=some [qI z.c,qI z.r,qI z.s,qI z.u,qI z.v,qI z.i,qI z.q]):=af (by simp[go_sem]);clear B;(go_enter func71,ntmps71);go_wp2_with fail
 (with_reducible refine(O.o _).mono ?_)
 rintro e W ⟨g,rfl,S,hc,I⟩;have K:=af (((aA w).alloc _).aK I);have G:W.cell? ⟨w.heap.size,5,none⟩=some (qI (m:Int)):=by
  have:=ak (I.ai N.o) 5 _ rfl;rw[←E.o];exact this
 have P:=af hc;have H:aj (w.heap.size≤g):=af (by simp only[World.size_alloc]at S;omega);have C1:=af (fun W' (k:ah No W W')=>D7 W' g z (k.ai hc) (by omega) (by omega));have C:=n1;have D:=aq;have F:=E.o;rw[Q.o]at C1 C D;have U:=af (fun W'=>Gh W' n m (by omega) (by omega) (by omega) (by omega));clear F C D;clear S hc I O N;go_upto_region 4 with fail
 go_region_held3 (fun w'=>w'.cell? ⟨w.heap.size,5,none⟩=some (qI (m:Int))∧ah No W w')
  (first|exact⟨G,aA W⟩|exact⟨G,(aA W).drew⟩|assumption)
  (first
    |(go_at_call 148
      have hc:=C1.o
      with_reducible refine(hc _ ((aA W).drew)).mono ?_
      clear hc;rintro e T ⟨rfl,x⟩;have d:T.cell? ⟨w.heap.size,5,none⟩=some (qI (m:Int))∧ah No W T:=⟨x.keeps.cell (a:=W.drew) G (fun h=>h),((aA W).drew).aK x.keeps⟩;clear x)
    |(go_at_call 147
      have hc:=U.o
      with_reducible refine(hc _).mono ?_
      clear hc;rintro e l ⟨p,Y,R,rfl,j,f⟩;have y:=af j;have V:=af f;have t:l.cell? ⟨w.heap.size,5,none⟩=some (qI (m:Int))∧ah No W l:=⟨f.cB d.1,d.2.aK f⟩;clear j f))
 all_goals go_wp2
 all_goals go_ret2
 all_goals
  have M:ah No l (l.alloc (.cells #[dP g,dP p,.slice none 0 0,qI 0,.bool false] KK)):=(aA l).alloc _;have A:ah No w l:=K.o.aK t.2;have L:plNew (z.c*z.r).toNat z.i.toNat=plNew n m:=(by rw[Q.o,E.o,nW,nW]);have J:=M.ai (t.2.ai P.o);have Z:g<W.heap.size:=cP P.o;have j:=(y.o.no M).lower (b:=w.heap.size) (by have:=d.2.size;have:=K.o.size;omega);refine⟨⟨l.heap.size,g,p,Y,R,.slice none 0 0⟩,rfl,⟨bT l _,J,?_,cJ _ _ _ _,fun e=>?_,by have:=A.size;simp only;omega,Dk.O6 X.o⟩,A.aK M,H.o⟩
  ·show bG _ _ _ _ _ (plNew (z.c*z.r).toNat z.i.toNat);rw[L];exact j
  ·rcases e with e|e|e
   ·have:=t.2.size;simp only at e;omega
   ·have:=y.o.le e;have:=d.2.size;simp only at*;omega
   ·cases e
end
section
variable {w w':World}{base:Nat}{D:Dp}{k:Dk}{S:Nat→Prop}
theorem Dk.ok.zone (h:k.ok):1≤k.z.c*k.z.s∧k.z.c*k.z.s≤1073741824∧1≤k.z.r*k.z.s∧k.z.r*k.z.s≤1073741824∧1≤k.z.s∧0≤k.z.c∧k.z.c≤1073741824:=by
 have a:=h.z;unfold o9 jo at a;simp only[eA,decide_eq_true_eq]at a;obtain⟨⟨c1,c2⟩,⟨r1,r2⟩,⟨s1,s2⟩,_⟩:=a;have b:1*1≤k.z.c*k.z.s:=tV c1 (by omega) (by omega) (by omega);have a2:k.z.c*k.z.s≤4*1048576:=tV c2 s2 (by omega) (by omega);have a3:1*1≤k.z.r*k.z.s:=tV r1 (by omega) (by omega) (by omega);have a4:k.z.r*k.z.s≤4*1048576:=tV r2 s2 (by omega) (by omega);omega
theorem uE (h:bS w base D k)(x y:Int):Calls prog 154 #[dP D.m,qI x,qI y] w (qG w ((qI (ou k.z x y)))):=by
 obtain⟨a,a2,a3,a4,a5,b,c⟩:=h.ok.zone;exact LH w D.m k.z h.map x y a a2 a3 a4 a5 b c
theorem gT.trans {a:Dp}{c:Dk}{w1 w2:World}(b:ah (dW D) w w1)(hn:∀i,dW a i→dW D i∨w.heap.size≤i)(hd:a.d=D.d)(hm:a.m=D.m)(h:gT w1 base a c w2):gT w base D c w2:=by
 obtain⟨f,g,a2,a3,a4,a5⟩:=h;refine⟨f,g,b.trans a2 (fun i hi e=>?_),fun i hi=>?_,a4.trans hd,a5.trans hm⟩
 ·rcases hn i e with e|e
  ·exact e
  ·omega
 ·rcases a3 i hi with e|e
  ·exact hn i e
  ·exact .inr (aU b.size e)
theorem bS.pushed (h:bS w base D k){b:World}(j:ah (Of D.q) w b){wa:Option Addr}{wc:Nat}(c:Cm)(r:b.ownsRow base dV 16 (.slice wa (k.q.length+1) wc) (k.q.length+1) (rowsOf k_ k.q++ct c))
 (hb:∀i,(Value.slice wa (k.q.length+1) wc).ownBlock=some i→D.q.ownBlock=some i∨w.heap.size≤i) (s:(k.q.length:Int)<k.z.q):gT w base D ⟨k.z,k.pl,k.q++ [c],k.t,k.o⟩ (b.setCell ⟨D.d,2,none⟩ (.slice wa (k.q.length+1) wc)):=by
 have ok:=h.ok;have a:ah (Own D.d) b (b.setCell ⟨D.d,2,none⟩ (.slice wa (k.q.length+1) wc)):=bU _ _ _ _;have n:=j.heap h.box (fun e=>h.C_ _ e rfl);have f:aI k_ dV b base (.slice wa (k.q.length+1) wc) (k.q++ [c]):=by
  unfold aI;rw[cr,bE,fL];exact r
 have l:∀i,(Value.slice wa (k.q.length+1) wc).ownBlock=some i→¬i=D.d:=fun i hi e=>by
  obtain⟨cur,hc,_⟩:=aI.block f hi;exact bO hc n (by decide) e
 refine⟨⟨D.d,D.m,D.p,D.g,D.R,.slice wa (k.q.length+1) wc⟩,⟨aB n _,cK a (cK j h.map (fun e=>h.nm (.inr (.inr e)))) (fun e=>h.nm (.inl e)),(h.pool.kept j (fun i hi e=>h.Jt i e hi)).kept a (fun i hi e=>h.iI (by have e:i=D.d:=e;exact e▸hi)),a.owns f l,fun e=>?_,h.bd,⟨ok.z,ok.pl,ok.pn,by simp only[List.length_append,List.length_cons,List.length_nil];omega,ok.t0,ok.t1⟩⟩,(j.mono (fun i _ e=> .inr (.inr e))).trans a (fun i _ e=> .inl e),fun i hi=>?_,rfl,rfl⟩
 ·rcases e with e|e|e
  ·exact h.nm (.inl e)
  ·exact h.nm (.inr (.inl e))
  ·rcases hb _ e with e|e
   ·exact h.nm (.inr (.inr e))
   ·have:=cP h.map;simp only at e;omega
 ·rcases hi with e|e|e
  ·exact .inl (.inl e)
  ·exact .inl (.inr (.inl e))
  ·rcases hb _ e with e|e
   ·exact .inl (.inr (.inr e))
   ·exact .inr e
theorem Rm {α:Type}(C:dX α)(w:World)(e:TypeId)(a:α):Reads (w.alloc (.cells (C.cells a).toArray e)) C.size (.slice (some ⟨w.heap.size,0,none⟩) 1 1) 1 (C.cells a):=
 Reads.fu (jO (base:=0) w (C.cells a).toArray 1 (aX _) (by unfold maxLen;omega) (by simp[C.len])) (by simpa using C.one a)
theorem vT (p:Pl)(a:cO):(jK p a).2.length=p.length:=by
 unfold jK
 split
 ·rfl
 ·split
  ·rfl
  ·simp[dZ]
theorem Da {p:Pl}{a:cO}(h:¬(jK p a).1=0):(jK p a).2=p:=by
 cases c:iq p a.s a.i with
 |none=>rw[AV c]
 |some x=>
  obtain⟨k,i,s,d,hi,hs,hn⟩:=AZ c;rw[AX d hi hs hn]at h⊢;simp only at h⊢;have e:(p9 s x a.i a.g).2=s:=by
   unfold p9 at h⊢;cases c1:decide (a.g<0)
   ·rw[c1,aN]at h;rw[aN];cases c2:!p7 s a.i
    ·rw[c2,aN]at h;rw[aN];cases c3:decide (a.g<x.g)||decide (x.b≤a.g)
     ·rw[c3,aN]at h;exact absurd rfl h
     ·rfl
    ·rfl
   ·rfl
  rw[e,AY hs]
theorem Cj (h:bS w base D k)(c:Cm):Calls prog 151 #[dP D.d,gH c] w fun e w'=>e= .returned (qI (jL k c).1)∧gT w base D (jL k c).2 w':=by
 obtain⟨i0,hi,bf,bg,bn⟩:=fR Tryz.Ju;obtain⟨c0,c1,c2,_,_⟩:=h.cells;obtain⟨N,O,cg⟩:=aq h.q;rw[cg]at c2;have cr:w.cell? ⟨D.m,6,none⟩=some (qI k.z.q):=by
  have:=ak h.map 6 _ rfl
  simpa using this
 obtain⟨E,bG⟩:=ay (jL k c);rw[←bG];unfold jL at bG;have H:=af h;have F:=af cg;have u:=af bG;have bO:=af (fun W=>dh W c);have bN:aj (ai (w.alloc (.cells (ct c).toArray 27)) w.heap.size 0 16=some (ct c)):=af (by simp[go_sem]);have U:(k.q.length:Int)≤64:=(by have:=h.ok.few;omega);have ld:D.d<w.heap.size:=h.lt (.inl rfl);have lm:D.m<w.heap.size:=cP h.map;clear h cg bG;obtain⟨cM,aD⟩:=ay (bD c);rw[←aD]at u bO;have cD:=af aD;clear aD;(go_enter func151,ntmps151);go_wp2_with fail
 (with_reducible refine(bO.o _).mono ?_)
 rintro e W ⟨rfl,bI⟩;have K:aj (ah No w W):=af (((aA w).alloc _).aK bI.keeps);have bV:=bI.keeps.ai bN.o;cases cM
 case false=>
  have j:aj (E=(1,k)):=af (by rw[u.o];rfl);simp only[fO,cond_false];clear bI bV bN;go_wp2;go_ret;exact⟨by rw[j.o];rfl,by rw[j.o];exact⟨D,H.o.no K.o,K.o.mono (fun _ _ h=>h.elim),fun i hi=> .inl hi,rfl,rfl⟩⟩
 simp only[fO,cond_true];simp only[jj,cond_false]at u;replace c0:=K.o.cB c0;replace c1:=K.o.cB c1;replace c2:=K.o.cB c2;replace cr:=K.o.cB cr;have cv:=af bV;clear bI bV bN bO;go_upto_region 3 with fail
 by_cases t2:k.z.q≤(k.q.length:Int)
 ·have j:aj (E=(8,k)):=af (by rw[u.o,aM t2];rfl)
  go_region
  all_goals go_wp2
  all_goals go_ret
  all_goals exact⟨by rw[j.o];rfl,by rw[j.o];exact⟨D,H.o.no K.o.drew,K.o.drew.mono (fun _ _ h=>h.elim),fun i hi=> .inl hi,rfl,rfl⟩⟩
 rw[aJ t2,aN]at u
 go_region
 go_upto_region 5 with fail
 refine au ?_;intro n C;have aQ:aj (ah No w n):=af (by rw[C];exact K.o.drew);have v:ai n w.heap.size 0 16=some (ct c):=(by rw[C];exact cv.o);have bA:=af v;have i1:ai n w.heap.size 1 3=some (bk c.id):=aE v 1 (bk c.id) rfl (by simp);have i4:ai n w.heap.size 4 3=some (bk c.b.id):=aE v 4 (bk c.b.id) rfl (by simp);have m0:=ak v 0 _ rfl;have m4:=ak v 4 _ rfl;have m8:=ak v 8 _ rfl;have m9:=ak v 9 _ rfl;simp only[bC]at m0 m4 m8 m9;replace c0:n.cell? ⟨D.d,0,none⟩=some (dP D.m):=(by rw[C];exact c0);replace c1:n.cell? ⟨D.d,1,none⟩=some (dP D.p):=(by rw[C];exact c1);replace c2:n.cell? ⟨D.d,2,none⟩=some (.slice N k.q.length O):=(by rw[C];exact c2);clear C K cv cr v;have bQ:=af (H.o.no aQ.o);by_cases t3:c.k=1
 ·rw[aM t3,bH]at u;have cN:(c.k==1)=true:=(by rw[t3];rfl);have cu:=af (fun W' (q:ah No n W')=>uE (bQ.o.no q) c.b.x c.b.y);obtain⟨Z,bZ⟩:=ay (c.zone k.z);have aL:aj (∀W',ah No n W'→Calls prog 154 #[dP D.m,qI c.b.x,qI c.b.y] W' fun e w'=>e= .returned (qI Z)∧ah No W' w'):=af (by rw[bZ];exact cu.o);rw[←bZ]at u;have cE:∀w',ah No n w'→w'.cell? ⟨D.d,0,none⟩=some (dP D.m):=fun w' q=>q.cB c0;have bT:∀w',ah No n w'→w'.cell? ⟨w.heap.size,0,none⟩=some (qI c.k):=fun w' q=>q.cB m0;have cH:∀w',ah No n w'→w'.cell? ⟨w.heap.size,4,none⟩=some (qI c.b.s):=fun w' q=>q.cB m4;have cI:∀w',ah No n w'→w'.cell? ⟨w.heap.size,8,none⟩=some (qI c.b.x):=fun w' q=>q.cB m8;have cJ:∀w',ah No n w'→w'.cell? ⟨w.heap.size,9,none⟩=some (qI c.b.y):=fun w' q=>q.cB m9;clear cu bZ t3
  go_region_held3 (fun w'=>ah No n w')
   (first|assumption|exact(aA n).drew|exact aA n)
   (first
     |(go_at_call 154
       have hc:=aL.o
       with_reducible refine(hc _ ((aA n).drew)).mono ?_
       clear hc;rintro e aG ⟨rfl,b_⟩;have r:ah No n aG:=ah.trans (by first|assumption|exact(aA n).drew|exact aA n) b_ (fun _ _ h=>h)))
  clear cE bT cH cI cJ;have av:=af (aQ.o.aK r);have j4:ai aG w.heap.size 4 3=some (bk c.b.id):=r.ai i4;have n0:aG.cell? ⟨w.heap.size,0,none⟩=some (qI c.k):=r.cB m0;have e1:aG.cell? ⟨D.d,1,none⟩=some (dP D.p):=r.cB c1;have bK:=af (r.ai bA.o);clear r i1 i4 m0 m4 m8 m9 c0 c1 c2 bA aQ bQ aL;by_cases tz:Z=c.b.s
  case neg=>
   have j:aj (E=(5,k)):=af (by rw[u.o,aJ tz];rfl);have cO:(Z !=c.b.s)=true:=(by simpa using tz);go_wp2;go_ret;exact⟨by rw[j.o];rfl,by rw[j.o];exact⟨D,H.o.no av.o,av.o.mono (fun _ _ h=>h.elim),fun i hi=> .inl hi,rfl,rfl⟩⟩
  rw[aM tz]at u;simp only[jj,cond_false]at u;have cO:(Z !=c.b.s)=false:=(by simpa using tz);have bB:=af (H.o.no av.o);have bP:=af (Eg (bB.o.no ((aA aG).drew)).pool c.b.id);obtain⟨y,hy⟩:=ay (jK k.pl c.b.id);rw[←hy]at bP u;have bE:=af hy;obtain⟨cC,bJ⟩:=y;have nd:aj (¬d_ D.p D.g D.R D.d):=af H.o.iI;have nb:aj (¬d_ D.p D.g D.R w.heap.size):=af (fun e=>by have:=H.o.pool.lt e;omega);clear hy tz;go_upto_region 8 with fail
  go_region_held3 (fun w'=>w'.cell? ⟨D.d,1,none⟩=some (dP D.p)∧ai w' w.heap.size 4 3=some (bk c.b.id))
   (first|exact⟨e1,j4⟩|assumption)
   (first
     |(go_at_call 203
       have hc:=bP.o
       with_reducible refine hc.mono ?_
       clear hc;rintro e Q ⟨rfl,aX,aW⟩;have cL:=af aX;have aB:aj (ah (d_ D.p D.g D.R) aG Q):=af (((aA (S:=No) aG).drew.mono (fun _ _ h=>h.elim)).aK aW);have bX:Q.cell? ⟨D.d,1,none⟩=some (dP D.p)∧ai Q w.heap.size 4 3=some (bk c.b.id):=⟨aB.o.cell e1 nd.o,cK aB.o j4 nb.o⟩;clear aX aW))
  have V:aj (ai Q w.heap.size 0 16=some (ct c)):=af (cK aB.o bK.o nb.o);have B:=H.o.ok;have aZ:jd bJ:=(by have:=B.pl.take c.b.id;rw[←bE.o]at this;exact this);have aY:bJ.length=k.pl.length:=(by have:=vT k.pl c.b.id;rw[←bE.o]at this;exact this);obtain⟨cw,cA,cT⟩:=bB.o.pooled (R':=D.R) cL.o aB.o (fun i hi=> .inl hi) ⟨B.z,aZ,by simp only;rw[aY];exact B.pn,B.q,B.t0,B.t1⟩;have l:=af cw;have aS:aj (ah (dW D) w Q):=af ((av.o.mono (fun _ _ h=>h.elim)).aK cA);clear B aZ aY cw cA cT bX e1 j4 n0 bP;by_cases ty:cC=0
  case neg=>
   have cn:bJ=k.pl:=(by have:=Da (p:=k.pl) (a:=c.b.id) (by rw[←bE.o];exact ty);rw[←bE.o]at this;exact this);have j:aj (E=(cC,k)):=af (by rw[u.o,aJ ty];rfl);go_wp2;go_ret;have aT:=l.o;rw[cn]at aT;exact⟨by rw[j.o];rfl,by rw[j.o];exact⟨D,aT,aS.o,fun i hi=> .inl hi,rfl,rfl⟩⟩
  have j:aj (E=(0,⟨k.z,bJ,k.q++ [c],k.t,k.o⟩)):=af (by rw[u.o,aM ty];rfl);go_upto_region 13 with fail
  refine au ?_;intro f J;subst J;have I:=af l.o.q;rw[F.o]at I;have d2:f.cell? ⟨D.d,2,none⟩=some (.slice N k.q.length O):=(by rw[(l.o.cells).2.2.1,F.o]);have f2:f.frozen? ⟨D.d,2,none⟩=false:=bF _ _ _ _ _ l.o.box;have aC:=V.o;have aF:D.d<f.heap.size:=l.o.lt (.inl rfl);have bu:w.heap.size<f.heap.size:=cP aC;have G:aj (aI k_ dV ((f.alloc (.cells (ct c).toArray dV)).drew) base (.slice N k.q.length O) k.q):=af ((((aA (S:=No) f).alloc _).drew).mM I.o);have Y:aj (Reads ((f.alloc (.cells (ct c).toArray dV)).drew) 16 (.slice (some ⟨f.heap.size,0,none⟩) 1 1) 1 (ct c)):=af (Reads.kept (S:=No) ((aA _).drew) (Rm k_ f dV c) (fun _ _ h=>h));have bR:aj (base≤f.heap.size):=af (tX (xS (show base≤D.d from l.o.bd) aF))
  have X:=af (l.o.C_);have aP:=af U
  go_region_law (refine bL rfl (.tmp 78) (.tmp 80) 58 rfl base dV i0 _ 16 128 underlying58 hi bf bg bn rfl (by decide) (.slice N k.q.length O) k.q.length (rowsOf k_ k.q) rfl G.o _ 1 (ct c) rfl Y.o (by have:=aP.o;unfold maxLen;omega) (by have:=aP.o;omega) (by have:=bR.o;simp;omega) ?_
                 intro v' aH A M L _;have aR:aj (ah (Of (.slice N k.q.length O)) f aH):=af (((((aA (S:=No) f).alloc _).drew).mono (fun _ _ h=>h.elim)).aK M);have bU:=af A;have B8:=af L;have aO:=af (aR.o.heap l.o.box (fun e=>X.o D.d (by rw[F.o];exact e) rfl));obtain⟨wa,wc,rfl⟩:=aq A;have cQ:aH.cell? ⟨D.d,2,none⟩=some (.slice N k.q.length O):=(by rw[bW _ _ _ _ _ _ aO.o,F.o];rfl);have cR:aH.frozen? ⟨D.d,2,none⟩=false:=bF _ _ _ _ _ aO.o;clear A M L)
  all_goals go_wp2
  all_goals go_ret
  all_goals
   have bp:=aR.o;rw[←F.o]at bp;have cq:=l.o.pushed (wa:=wa) (wc:=wc) bp c bU.o (fun i hi=>by
    rcases B8.o i hi with e|e
    ·exact .inl (by rw[F.o];exact e)
    ·exact .inr (aU (by simp) e)) (by simp only;omega)
   exact⟨by rw[j.o];rfl,by rw[j.o];exact gT.trans aS.o (fun i hi=> .inl hi) rfl rfl cq⟩
 ·rw[aJ t3,aN]at u;have cN:(c.k==1)=false:=eD.2 t3;clear t3
  go_region
  go_upto_region 11 with fail
  refine au ?_;intro P aV;have bq:ah No n P:=(by rw[aV];exact(aA n).drew);have av:=af (aQ.o.aK bq);have e1:=bq.cB c1;have j1:=bq.ai i1;have bK:=af (bq.ai bA.o);have bB:=af (H.o.no av.o);clear aV bq i1 i4 m0 m4 m8 m9 c0 c1 c2 bA aQ bQ;have bM:=af (oL (bB.o.no ((aA P).drew)).pool c.id);obtain⟨T,bY⟩:=ay (j9 k.pl c.id);rw[←bY]at bM u;have cU:=af bY;clear bY;have bT:∀w',ah No P w'→w'.cell? ⟨D.d,1,none⟩=some (dP D.p):=fun w' q=>q.cB e1;have cF:∀w',ah No P w'→ai w' w.heap.size 1 3=some (bk c.id):=fun w' q=>q.ai j1
  go_region_held3 (fun w'=>ah No P w')
   (first|assumption|exact(aA P).drew|exact aA P)
   (first
     |(go_at_call 155
       have hc:=bM.o
       with_reducible refine hc.mono ?_
       clear hc;rintro e Q ⟨rfl,b_⟩;have r:ah No P Q:=ah.trans (by first|assumption|exact(aA P).drew|exact aA P) b_ (fun _ _ h=>h)))
  have aB:=af (av.o.aK r);have V:aj (ai Q w.heap.size 0 16=some (ct c)):=af (r.ai bK.o);have l:=af (H.o.no aB.o);have aS:aj (ah (dW D) w Q):=af (aB.o.mono (fun _ _ h=>h.elim));clear r e1 j1 bT cF bM;cases T
  case false=>
   have j:aj (E=(9,k)):=af (by rw[u.o];rfl);go_wp2;go_ret;exact⟨by rw[j.o];rfl,by rw[j.o];exact⟨D,l.o,aS.o,fun i hi=> .inl hi,rfl,rfl⟩⟩
  have j:aj (E=(0,⟨k.z,k.pl,k.q++ [c],k.t,k.o⟩)):=af (by rw[u.o];rfl);go_upto_region 13 with fail
  refine au ?_;intro f J;subst J;have I:=af l.o.q;rw[F.o]at I;have d2:f.cell? ⟨D.d,2,none⟩=some (.slice N k.q.length O):=(by rw[(l.o.cells).2.2.1,F.o]);have f2:f.frozen? ⟨D.d,2,none⟩=false:=bF _ _ _ _ _ l.o.box;have aC:=V.o;have aF:D.d<f.heap.size:=l.o.lt (.inl rfl);have bu:w.heap.size<f.heap.size:=cP aC;have G:aj (aI k_ dV ((f.alloc (.cells (ct c).toArray dV)).drew) base (.slice N k.q.length O) k.q):=af ((((aA (S:=No) f).alloc _).drew).mM I.o);have Y:aj (Reads ((f.alloc (.cells (ct c).toArray dV)).drew) 16 (.slice (some ⟨f.heap.size,0,none⟩) 1 1) 1 (ct c)):=af (Reads.kept (S:=No) ((aA _).drew) (Rm k_ f dV c) (fun _ _ h=>h));have bR:aj (base≤f.heap.size):=af (tX (xS (show base≤D.d from l.o.bd) aF))
  have X:=af (l.o.C_);have aP:=af U
  go_region_law (refine bL rfl (.tmp 78) (.tmp 80) 58 rfl base dV i0 _ 16 128 underlying58 hi bf bg bn rfl (by decide) (.slice N k.q.length O) k.q.length (rowsOf k_ k.q) rfl G.o _ 1 (ct c) rfl Y.o (by have:=aP.o;unfold maxLen;omega) (by have:=aP.o;omega) (by have:=bR.o;simp;omega) ?_
                 intro v' aH A M L _;have aR:aj (ah (Of (.slice N k.q.length O)) f aH):=af (((((aA (S:=No) f).alloc _).drew).mono (fun _ _ h=>h.elim)).aK M);have bU:=af A;have B8:=af L;have aO:=af (aR.o.heap l.o.box (fun e=>X.o D.d (by rw[F.o];exact e) rfl));obtain⟨wa,wc,rfl⟩:=aq A;have cQ:aH.cell? ⟨D.d,2,none⟩=some (.slice N k.q.length O):=(by rw[bW _ _ _ _ _ _ aO.o,F.o];rfl);have cR:aH.frozen? ⟨D.d,2,none⟩=false:=bF _ _ _ _ _ aO.o;clear A M L)
  all_goals go_wp2
  all_goals go_ret
  all_goals
   have bp:=aR.o;rw[←F.o]at bp;have cq:=l.o.pushed (wa:=wa) (wc:=wc) bp c bU.o (fun i hi=>by
    rcases B8.o i hi with e|e
    ·exact .inl (by rw[F.o];exact e)
    ·exact .inr (aU (by simp) e)) (by omega)
   exact⟨by rw[j.o];rfl,by rw[j.o];exact gT.trans aS.o (fun i hi=> .inl hi) rfl rfl cq⟩
end
def f_ (w:World)(x:Cm×Bool×Int)(e:Ending)(w':World):Prop:=e= .returned (.tuple #[gH x.1,.bool x.2.1,qI x.2.2])∧ah No w w'
structure lI (w W:World)(c:Cm):Prop where
 kp:ah No w W
 b:W.heap[w.heap.size]?=some (.cells (ct c).toArray dV (0,0))
 z:W.heap[w.heap.size+1]?=some (.cells (ct Cm.zero).toArray dV (0,0))
theorem lI.no {w W W':World}{c:Cm}(h:lI w W c)(k:ah No W W'):lI w W' c:=⟨h.kp.aK k,k.heap h.b (fun h=>h),k.heap h.z (fun h=>h)⟩
theorem lI.opened {w W:World}{c:Cm}(h:lI w W c):Open W (w.heap.size+1)∧(aL W (w.heap.size+1)).size=16∧Open W w.heap.size∧(aL W w.heap.size).size=16:=
 ⟨⟨_,_,h.z⟩,by unfold aL;rw[h.z];rfl,⟨_,_,h.b⟩,by unfold aL;rw[h.b];rfl⟩
theorem lI.cells {w W:World}{c:Cm}(h:lI w W c):ai W w.heap.size 0 16=some (ct c):=by unfold ai;rw[h.b];rfl
theorem yH (W:World)(a:cO):(binOp .neq 23 (iE a) (.agg #[qI 0,qI 0,qI 0])).run prog W= .ok (.bool (!neq a cO.zero)) W:=uw W a
section
variable {w w':World}{base:Nat}{D:Dp}{k:Dk}{S:Nat→Prop}
theorem lI.jG {w W:World}{c:Cm}(h:lI w W c)(x:Cm):ai (W.setRow (w.heap.size+1) (ct x).toArray) (w.heap.size+1) 0 16=some (ct x)∧ah No w (W.setRow (w.heap.size+1) (ct x).toArray):=
 ⟨by rw[aH _ _ _ _ _ h.opened.1];rfl,h.kp.setRow (S:=No) (fun a=>absurd a (by omega)) _⟩
theorem Ck (h:bS w base D k)(c:Cm)(s:¬c.k=1):Calls prog 76 #[dP D.d,gH c] w (f_ w (kV k c)):=by
 have b1:(c.k==1)=false:=eD.2 s;obtain⟨c0,c1,c2,_,_⟩:=h.cells;obtain⟨aP,aQ,aB⟩:=aq h.q;rw[aB]at c2;have t:w.cell? ⟨D.m,6,none⟩=some (qI k.z.q):=by
  have:=ak h.map 6 _ rfl
  simpa using this
 obtain⟨E,K⟩:=ay (kV k c);rw[←K];unfold kV at K;have H:=af h;have j:=af K;have O:=af (fun W=>dh W c);have aC:(k.q.length:Int)≤64:=(by have:=h.ok.few;omega);have R:=af (And.intro c0 (And.intro c1 (And.intro c2 t)));clear h aB K c0 c1 c2 t;obtain⟨aN,F⟩:=ay (bD c);rw[←F]at j O;clear F;have en:=fun W=>yH W c.b.id;obtain⟨N,X⟩:=ay (neq c.b.id cO.zero);rw[←X]at j en;clear X;(go_enter func76,ntmps76);go_upto_region 1 with fail
 refine au ?_;intro V G;have J:aj (lI w V c):=af (by
  rw[G];refine⟨((aA w).alloc _).alloc _,?_,?_⟩
  ·rw[Below.heap_alloc _ _ _ (by simp)];exact bT w _
  ·have h0:=bT (w.alloc (.cells (ct c).toArray dV)) (.cells (ct Cm.zero).toArray dV);have e:(w.alloc (.cells (ct c).toArray dV)).heap.size=w.heap.size+1:=(by simp);rw[e]at h0;exact h0)
 clear G;have aO:V.cell? ⟨w.heap.size,0,none⟩=some (qI c.k):=(by rw[bW _ _ _ _ _ _ J.o.b];rfl);have k1:=J.o.cells;go_wp2_with fail
 (with_reducible refine(O.o _).mono ?_)
 rintro e W ⟨rfl,av⟩;have A1:=af (J.o.no av.keeps);clear av aO k1 O J;cases aN
 case false=>
  have i:aj (E=(Cm.zero,false,1)):=af (by rw[j.o];rfl);simp only[fO,cond_false];obtain⟨L,sz,_,_⟩:=A1.o.opened;clear j;go_wp2;obtain⟨g,f⟩:=A1.o.jG Cm.zero;have a:f_ w E (.returned (.tuple #[gH Cm.zero,.bool false,qI (1)])) _:=⟨by rw[i.o],f⟩;refine aY (v:= .tuple #[gH Cm.zero,.bool false,qI (1)]) ?_ rfl a;clear a f;simp only[ct,Cm.zero,Bd.zero]at g;simp[results,results76,go_sem,g,Cm.zero,Bd.zero]
 simp only[fO,cond_true];rw[aJ s]at j;simp only[jj,Bool.false_and,Bool.or_self,cond_false]at j;clear s;obtain⟨c0,_,_,_⟩:=R.o;replace c0:=A1.o.kp.cB c0;have m8:=ak A1.o.cells 8 _ rfl;have m9:=ak A1.o.cells 9 _ rfl;simp only[bC]at m8 m9;have P:=af (uE (H.o.no (A1.o.kp.drew)) c.b.x c.b.y);obtain⟨Z,Y⟩:=ay (ou k.z c.b.x c.b.y);rw[←Y]at P;have aG:∀w',ah No W w'→w'.cell? ⟨D.d,0,none⟩=some (dP D.m):=fun w' q=>q.cB c0;have aK:∀w',ah No W w'→w'.cell? ⟨w.heap.size,8,none⟩=some (qI c.b.x):=fun w' q=>q.cB m8;have aL:∀w',ah No W w'→w'.cell? ⟨w.heap.size,9,none⟩=some (qI c.b.y):=fun w' q=>q.cB m9;clear Y;go_upto_region 4 with fail
 go_region_held3 (fun w'=>ah No W w')
  (first|assumption|exact(aA W).drew|exact aA W)
  (first
    |(go_at_call 154
      have hc:=P.o
      with_reducible refine hc.mono ?_
      clear hc;rintro e n ⟨rfl,U⟩;have A:ah No W n:=ah.trans (by first|assumption|exact(aA W).drew|exact aA W) U (fun _ _ h=>h)))
 have A6:=af (A1.o.no A);clear A aG aK aL m8 m9 c0 P A1 en;obtain⟨_,c1,c2,t⟩:=R.o;replace c1:=A6.o.kp.cB c1;have i1:ai n w.heap.size 1 3=some (bk c.id):=aE A6.o.cells 1 (bk c.id) rfl (by simp);have M:=af (oL (H.o.no (A6.o.kp.drew)).pool c.id);obtain⟨T,C⟩:=ay (j9 k.pl c.id);rw[←C]at M j;have aH:∀w',ah No n w'→w'.cell? ⟨D.d,1,none⟩=some (dP D.p):=fun w' q=>q.cB c1;have aI:∀w',ah No n w'→ai w' w.heap.size 1 3=some (bk c.id):=fun w' q=>q.ai i1;clear C;go_upto_region 7 with fail
 go_region_held3 (fun w'=>ah No n w')
  (first|assumption|exact(aA n).drew|exact aA n)
  (first
    |(go_at_call 155
      have hc:=M.o
      with_reducible refine hc.mono ?_
      clear hc;rintro e aD ⟨rfl,U⟩;have B:ah No n aD:=ah.trans (by first|assumption|exact(aA n).drew|exact aA n) U (fun _ _ h=>h)))
 have A7:=af (A6.o.no B);clear B aH aI i1 c1 M A6;cases T
 case false=>
  have i:aj (E=(Cm.zero,false,9)):=af (by rw[j.o];rfl);obtain⟨L,sz,_,_⟩:=A7.o.opened;clear j c2 t;go_wp2;obtain⟨g,f⟩:=A7.o.jG Cm.zero;have a:f_ w E (.returned (.tuple #[gH Cm.zero,.bool false,qI (9)])) _:=⟨by rw[i.o],f⟩;refine aY (v:= .tuple #[gH Cm.zero,.bool false,qI (9)]) ?_ rfl a;clear a f;simp only[ct,Cm.zero,Bd.zero]at g;simp[results,results76,go_sem,g,Cm.zero,Bd.zero]
 simp only[jj,cond_false]at j;have Q:=af (Ch (H.o.no A7.o.kp) c.id);obtain⟨T,C⟩:=ay (qm k.q c.id);rw[←C]at Q j;have i2:ai aD w.heap.size 1 3=some (bk c.id):=aE A7.o.cells 1 (bk c.id) rfl (by simp);clear C;(go_wp2_with fail);refine Q.o.mono ?_;rintro e aF ⟨rfl,I⟩;have r:=af (A7.o.no I);clear I i2 Q A7;cases T
 case true=>
  have i:aj (E=(Cm.zero,false,10)):=af (by rw[j.o];rfl);obtain⟨L,sz,_,_⟩:=r.o.opened;clear j c2 t;go_wp2;obtain⟨g,f⟩:=r.o.jG Cm.zero;have a:f_ w E (.returned (.tuple #[gH Cm.zero,.bool false,qI (10)])) _:=⟨by rw[i.o],f⟩;refine aY (v:= .tuple #[gH Cm.zero,.bool false,qI (10)]) ?_ rfl a;clear a f;simp only[ct,Cm.zero,Bd.zero]at g;simp[results,results76,go_sem,g,Cm.zero,Bd.zero]
 simp only[cond_false]at j;obtain⟨c0,_,_,_⟩:=R.o;replace c0:=r.o.kp.cB c0;replace c2:=r.o.kp.cB c2;replace t:=r.o.kp.cB t;go_upto_region 11 with fail
 by_cases t2:k.z.q≤(k.q.length:Int)
 ·have i:aj (E=(Cm.zero,false,8)):=af (by rw[j.o,aM t2];rfl);clear j
  go_region
  go_upto_region 12 with fail
  refine au ?_;intro S l;have u:aj (lI w S c):=af (by rw[l];exact r.o.no ((aA aF).drew));obtain⟨L,sz,_,_⟩:=u.o.opened;clear l;go_wp2;obtain⟨g,f⟩:=u.o.jG Cm.zero;have a:f_ w E (.returned (.tuple #[gH Cm.zero,.bool false,qI (8)])) _:=⟨by rw[i.o],f⟩;refine aY (v:= .tuple #[gH Cm.zero,.bool false,qI (8)]) ?_ rfl a;clear a f;simp only[ct,Cm.zero,Bd.zero]at g;simp[results,results76,go_sem,g,Cm.zero,Bd.zero]
 ·have i:aj (E=(c,false,0)):=af (by rw[j.o,aJ t2];rfl);clear j
  go_region
  go_upto_region 14 with fail
  refine au ?_;intro S l;have u:aj (lI w S c):=af (by rw[l];exact r.o.no ((aA aF).drew));obtain⟨L,sz,_,_⟩:=u.o.opened;clear l;have k1:=u.o.cells;go_wp2;obtain⟨g,f⟩:=u.o.jG c;have a:f_ w E (.returned (.tuple #[gH c,.bool false,qI (0)])) _:=⟨by rw[i.o],f⟩;refine aY (v:= .tuple #[gH c,.bool false,qI (0)]) ?_ rfl a;clear a f;simp[results,results76,go_sem,g]
theorem Bo (h:bS w base D k)(c:Cm)(G:c.k=1):Calls prog 76 #[dP D.d,gH c] w (f_ w (kV k c)):=by
 have b1:(c.k==1)=true:=(by rw[G];rfl);have aD:=af G;clear G;obtain⟨c0,c1,c2,_,_⟩:=h.cells;obtain⟨bu,bA,aS⟩:=aq h.q;rw[aS]at c2;have L:w.cell? ⟨D.m,6,none⟩=some (qI k.z.q):=by
  have:=ak h.map 6 _ rfl
  simpa using this
 obtain⟨E,av⟩:=ay (kV k c);rw[←av];unfold kV at av;have H:=af h;have j:=af av;have aC:=af (fun W=>dh W c);have aT:(k.q.length:Int)≤64:=(by have:=h.ok.few;omega);have aO:=af (And.intro c0 (And.intro c1 (And.intro c2 L)));clear h aS av c0 c1 c2 L;obtain⟨bf,P⟩:=ay (bD c);rw[←P]at j aC;clear P;have en:=fun W=>yH W c.b.id;obtain⟨N,aQ⟩:=ay (neq c.b.id cO.zero);rw[←aQ]at j en;clear aQ;(go_enter func76,ntmps76);go_upto_region 1 with fail
 refine au ?_;intro aP Q;have V:aj (lI w aP c):=af (by
  rw[Q];refine⟨((aA w).alloc _).alloc _,?_,?_⟩
  ·rw[Below.heap_alloc _ _ _ (by simp)];exact bT w _
  ·have h0:=bT (w.alloc (.cells (ct c).toArray dV)) (.cells (ct Cm.zero).toArray dV);have e:(w.alloc (.cells (ct c).toArray dV)).heap.size=w.heap.size+1:=(by simp);rw[e]at h0;exact h0)
 clear Q;have bp:aP.cell? ⟨w.heap.size,0,none⟩=some (qI c.k):=(by rw[bW _ _ _ _ _ _ V.o.b];rfl);have k1:=V.o.cells;go_wp2_with fail
 (with_reducible refine(aC.o _).mono ?_)
 rintro e W ⟨rfl,aR⟩;have A1:=af (V.o.no aR.keeps);clear aR bp k1 aC V;cases bf
 case false=>
  have l:aj (E=(Cm.zero,false,1)):=af (by rw[j.o];rfl);simp only[fO,cond_false];obtain⟨J,sz,_,_⟩:=A1.o.opened;clear j;go_wp2;obtain⟨g,f⟩:=A1.o.jG Cm.zero;have a:f_ w E (.returned (.tuple #[gH Cm.zero,.bool false,qI (1)])) _:=⟨by rw[l.o],f⟩;refine aY (v:= .tuple #[gH Cm.zero,.bool false,qI (1)]) ?_ rfl a;clear a f;simp only[ct,Cm.zero,Bd.zero]at g;simp[results,results76,go_sem,g,Cm.zero,Bd.zero]
 simp only[fO,cond_true];rw[aM aD.o]at j;simp only[jj,Bool.true_and,Bool.false_or,cond_true]at j;have i4:ai W w.heap.size 4 3=some (bk c.b.id):=aE A1.o.cells 4 (bk c.b.id) rfl (by simp);cases N
 case false=>
  have l:aj (E=(Cm.zero,false,1)):=af (by rw[j.o];rfl);obtain⟨J,sz,_,_⟩:=A1.o.opened;clear j;go_wp2;obtain⟨g,f⟩:=A1.o.jG Cm.zero;have a:f_ w E (.returned (.tuple #[gH Cm.zero,.bool false,qI (1)])) _:=⟨by rw[l.o],f⟩;refine aY (v:= .tuple #[gH Cm.zero,.bool false,qI (1)]) ?_ rfl a;clear a f;simp only[ct,Cm.zero,Bd.zero]at g;simp[results,results76,go_sem,g,Cm.zero,Bd.zero]
 simp only[jj,cond_false]at j;obtain⟨c0,_,_,_⟩:=aO.o;replace c0:=A1.o.kp.cB c0;have m8:=ak A1.o.cells 8 _ rfl;have m9:=ak A1.o.cells 9 _ rfl;simp only[bC]at m8 m9;have aK:=af (uE (H.o.no (A1.o.kp.drew)) c.b.x c.b.y);obtain⟨Z,aI⟩:=ay (c.zone k.z);have M:aj (Calls prog 154 #[dP D.m,qI c.b.x,qI c.b.y] W.drew fun e w'=>e= .returned (qI Z)∧ah No W.drew w'):=af (by rw[aI];exact aK.o);rw[←aI]at j;have aW:∀w',ah No W w'→w'.cell? ⟨D.d,0,none⟩=some (dP D.m):=fun w' q=>q.cB c0;have aX:∀w',ah No W w'→w'.cell? ⟨w.heap.size,8,none⟩=some (qI c.b.x):=fun w' q=>q.cB m8;have aZ:∀w',ah No W w'→w'.cell? ⟨w.heap.size,9,none⟩=some (qI c.b.y):=fun w' q=>q.cB m9;clear aI aK;go_upto_region 4 with fail
 go_region_held3 (fun w'=>ah No W w')
  (first|assumption|exact(aA W).drew|exact aA W)
  (first
    |(go_at_call 154
      have hc:=M.o
      with_reducible refine hc.mono ?_
      clear hc;rintro e aV ⟨rfl,bg⟩;have O:ah No W aV:=ah.trans (by first|assumption|exact(aA W).drew|exact aA W) bg (fun _ _ h=>h)))
 have A6:=af (A1.o.no O);clear O aW aX aZ m8 m9 c0 M A1 en i4;by_cases tz:Z<0
 ·have l:aj (E=(Cm.zero,false,5)):=af (by rw[j.o,aM tz];rfl);obtain⟨J,sz,_,_⟩:=A6.o.opened;clear j;go_wp2;obtain⟨g,f⟩:=A6.o.jG Cm.zero;have a:f_ w E (.returned (.tuple #[gH Cm.zero,.bool false,qI (5)])) _:=⟨by rw[l.o],f⟩;refine aY (v:= .tuple #[gH Cm.zero,.bool false,qI (5)]) ?_ rfl a;clear a f;simp only[ct,Cm.zero,Bd.zero]at g;simp[results,results76,go_sem,g,Cm.zero,Bd.zero]
 rw[aJ tz,aN]at j;go_upto_region 7 with fail
 go_region
 go_upto_region 11 with fail
 refine au ?_;intro aH R;have F:aj (lI w aH c):=af (by rw[R];exact A6.o.no ((aA aV).drew));clear R A6;obtain⟨c0,c1,c2,L⟩:=aO.o;replace c0:=F.o.kp.cB c0;replace c1:=F.o.kp.cB c1;replace c2:=F.o.kp.cB c2;replace L:=F.o.kp.cB L;by_cases t2:k.z.q≤(k.q.length:Int)
 ·have l:aj (E=(Cm.zero,false,8)):=af (by rw[j.o,aM t2];rfl);clear j
  go_region
  go_upto_region 12 with fail
  refine au ?_;intro Y r;have K:aj (lI w Y c):=af (by rw[r];exact F.o.no ((aA aH).drew));obtain⟨J,sz,_,_⟩:=K.o.opened;clear r;go_wp2;obtain⟨g,f⟩:=K.o.jG Cm.zero;have a:f_ w E (.returned (.tuple #[gH Cm.zero,.bool false,qI (8)])) _:=⟨by rw[l.o],f⟩;refine aY (v:= .tuple #[gH Cm.zero,.bool false,qI (8)]) ?_ rfl a;clear a f;simp only[ct,Cm.zero,Bd.zero]at g;simp[results,results76,go_sem,g,Cm.zero,Bd.zero]
 rw[aJ t2,aN]at j
 go_region
 go_upto_region 15 with fail
 refine au ?_;intro Y r;have K:aj (lI w Y c):=af (by rw[r];exact F.o.no ((aA aH).drew));replace c1:Y.cell? ⟨D.d,1,none⟩=some (dP D.p):=(by rw[r];exact c1);clear r F c0 c2 L;have X:=af (Ed (H.o.no K.o.kp).pool Z);obtain⟨hd,U⟩:=ay (nI k.pl Z);rw[←U]at X j;obtain⟨ix,sd,he⟩:=hd;clear U;simp only at X j;(go_wp2_with fail);refine X.o.mono ?_;rintro e bq ⟨rfl,t⟩;have s:=af (K.o.no t);replace c1:=t.cB c1;clear t X K;by_cases th:he=0
 case neg=>
  have l:aj (E=(Cm.zero,false,13)):=af (by rw[j.o,aJ th];rfl);obtain⟨J,sz,_,_⟩:=s.o.opened;clear j;go_wp2;obtain⟨g,f⟩:=s.o.jG Cm.zero;have a:f_ w E (.returned (.tuple #[gH Cm.zero,.bool false,qI (13)])) _:=⟨by rw[l.o],f⟩;refine aY (v:= .tuple #[gH Cm.zero,.bool false,qI (13)]) ?_ rfl a;clear a f;simp only[ct,Cm.zero,Bd.zero]at g;simp[results,results76,go_sem,g,Cm.zero,Bd.zero]
 rw[aM th]at j;simp only[jj,cond_false]at j;have aB:=af (Ga (H.o.no s.o.kp).pool Z ix);obtain⟨gn,T⟩:=ay (I3 k.pl Z ix);rw[←T]at aB j;clear T;(go_wp2_with fail);refine aB.o.mono ?_;rintro e u ⟨rfl,B⟩;have n:=af (s.o.no B);obtain⟨J,sz,ob,sb⟩:=n.o.opened;clear B aB s;obtain⟨nm,I⟩:=ay (⟨Z,ix,gn⟩:cO);have aF:=af I;have l:aj (E=(c.named nm,!sd,0)):=af (by rw[j.o,I]);clear I j;go_upto_region 19 with fail
 refine au ?_;intro aG A;have C:aj (lI w aG (c.named nm)):=af (by
  have bn:aL u w.heap.size=(ct c).toArray:=(by unfold aL;rw[n.o.b]);rw[A,bn];have e:splice (ct c).toArray 4 [qI Z,qI ix,qI gn]=(ct (c.named nm)).toArray:=(by rw[aF.o];rfl);rw[e];have aU:ah (Own w.heap.size) u (u.setRow w.heap.size (ct (c.named nm)).toArray):=(aA (S:=Own w.heap.size) u).setRow (fun _=>(rfl:w.heap.size=w.heap.size)) _;exact⟨n.o.kp.trans aU (fun i hi e=>by have e:i=w.heap.size:=e;omega),kX _ _ _ _ _ _ n.o.b,aU.heap n.o.z (fun e=>by have e:w.heap.size+1=w.heap.size:=e;omega)⟩)
 clear A J sz ob sb n;obtain⟨J,sz,_,_⟩:=C.o.opened;have k1:=C.o.cells;go_wp2;obtain⟨g,f⟩:=C.o.jG (c.named nm);have a:f_ w E (.returned (.tuple #[gH (c.named nm),.bool (!sd),qI (0)])) _:=⟨by rw[l.o],f⟩;refine aY (v:= .tuple #[gH (c.named nm),.bool (!sd),qI (0)]) ?_ rfl a;clear a f;simp[results,results76,go_sem,g]
theorem Ew (h:bS w base D k)(c:Cm):Calls prog 76 #[dP D.d,gH c] w (f_ w (kV k c)):=by
 by_cases a:c.k=1
 ·exact Bo h c a
 ·exact Ck h c a
end
