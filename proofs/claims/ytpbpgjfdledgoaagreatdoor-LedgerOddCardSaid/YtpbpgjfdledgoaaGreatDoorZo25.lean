/- Lemmas. -/
import Derived.Test.YtpbpgjfdledgoaaGreatDoorZo24
import Derived.Test.YtpbpgjfdledgoaaGreatDoorZo10
set_option linter.all false
set_option maxRecDepth 100000
set_option maxHeartbeats 8000000
open List renaming mem_singleton→ow,set_set→Ol,length_map→yB,length_take→yC,set_append_right→Sf,replicate_succ→Si,length_cons→iY,length_nil→iP
open Nat renaming add_zero→qH,min_eq_left→Gd,sub_self→Ge
namespace Go.Proofs.YtpbpgjfdledgoaaGreatDoor
open Go.Proofs.Tryz
open Go.RowKit Go.Shelf Go.Sort Go.Joins Go.Deep
section
variable {w:World}{base p g:Nat}{R:List Rp}{pl:Pl}
theorem I7 {a:cO}(b:iq pl a.s a.i=none):iZ pl a=(1,pl):=by
 unfold iZ;unfold iq at b;cases hs:lC pl a.s with
 |none=>rfl
 |some s=>
  rw[hs]at b;simp only[b]
theorem I8 {a:cO}{k i:Nat}{s:Sh}{x:Ix}(b:a.s=k)(hi:a.i=i)(hs:pl[k]?=some s)(c:s.all[i]?=some x):iZ pl a=((AJ s x a.i a.g).1,dZ pl k (AJ s x a.i a.g).2):=by
 unfold iZ;rw[b,AK hs];simp only[hi,py c,Int.toNat_natCast]
theorem AZ {a b:Int}{x:Ix}(c:iq pl a b=some x):∃(k i:Nat) (s:Sh),a=k∧b=i∧pl[k]?=some s∧s.all[i]?=some x:=by
 unfold iq at c;cases hs:lC pl a with
 |none=>rw[hs]at c;cases c
 |some s=>
  rw[hs]at c;obtain⟨m,d,hm⟩:=eX hs;obtain⟨n,e,hn⟩:=gK c;exact⟨m,n,s,d,e,hm,hn⟩
theorem Sh.ok.turn {s:Sh}(h:s.ok){i:Nat}{x:Ix}(g:s.all[i]?=some x)(k:x.a=true){y:Ix}(hy:y.ok):(s.put i y).ok:=by
 have m:=(eC.1 g).1;refine⟨fun t n=>?_,by simp[Sh.put];exact h.n0,by simp[Sh.put];exact h.n1,h.nd,fun j l=>?_⟩
 ·rcases zw n with c|c
  ·exact h.ix t c
  ·rw[c];exact hy
 ·obtain⟨z,e,b,f⟩:=h.fr j l;have d:i≠j:=by
   rintro rfl;rw[g]at e;cases e;rw[k]at b;cases b
  exact⟨z,by simp[Sh.put,d];exact e,b,f⟩
theorem bG.pushed (h:bG w base p g R pl){k:Nat}{r:Rp}{s:Sh}(d:R[k]?=some r)(hs:pl[k]?=some s){l:World}(m:ah (Of (r.fv s)) w l){wa:Option Addr}{wc i:Nat}
 (F:l.ownsRow base LW 1 (.slice wa (s.free.length+1) wc) (s.free.length+1) (iW s.free++ [qI i])) (hb:∀q,(Value.slice wa (s.free.length+1) wc).ownBlock=some q→(r.fv s).ownBlock=some q∨w.heap.size≤q) (ok:Sh.ok ⟨s.all,s.free++ [i]⟩):
 ∃r',bG (l.setCell ⟨g,k*2+1,none⟩ (.slice wa (s.free.length+1) wc)) base p g (R.set k r') (dZ pl k ⟨s.all,s.free++ [i]⟩)∧ah (d_ p g R) w (l.setCell ⟨g,k*2+1,none⟩ (.slice wa (s.free.length+1) wc))∧∀j,d_ p g (R.set k r') j→d_ p g R j∨w.heap.size≤j:=by
 obtain⟨f1,f2,f3,f4,f5,f6⟩:=h.four d;have N:(R.zip pl)[k]?=some (r,s):=(by rw[uK];exact⟨d,hs⟩);have u:=h.sh k r s d hs;have b:∀j,Of (r.fv s) j→j=r.f:=fun j e=>by
  have e:(r.fv s).ownBlock=some j:=e;simp only[Value.ownBlock,Option.some.injEq]at e;exact e.symm
 rcases F.2 with⟨_,e⟩|⟨f',cap,cur,e,J,K,L,I,hcs,M⟩
 ·omega
 ·simp only[Value.slice.injEq,true_and]at e;obtain⟨rfl,rfl⟩:=e;have c:f'=r.f∨w.heap.size≤f':=by
   rcases hb f' rfl with e|e
   ·exact .inl (b f' e)
   ·exact .inr e
  have H:=m.heap h.row (fun e=>f5 (b g e));have G:=m.heap u.all (fun e=>f6 (b r.a e));have E:=dR CW H k 1 (r,s) (⟨r.a,f',wc⟩,⟨s.all,s.free++ [i]⟩) (.slice (some ⟨f',0,none⟩) (s.free.length+1) wc) N (by decide) (by simp[CW]);obtain⟨X,A⟩:=ay (l.setCell ⟨g,k*2+1,none⟩ (.slice (some ⟨f',0,none⟩) (s.free.length+1) wc));have y:ah (Own g) l X:=(by rw[A];exact bU _ _ _ _);have E:X.heap[g]?=some (.cells (rowsOf CW ((R.zip pl).set k ((⟨r.a,f',wc⟩:Rp),(⟨s.all,s.free++ [i]⟩:Sh)))).toArray LV (0,0)):=(by rw[A];exact E);rw[←A];have n:ah (d_ p g [r]) w X:=(m.mono (T:=d_ p g [r]) (fun j _ e=> .inr (.inr ⟨r,by simp,.inr (b j e)⟩))).trans y (fun j _ e=> .inr (.inl e));have B:X.heap[p]?=w.heap[p]?:=by
   have C:p<w.heap.size:=h.lt (.inl rfl);rw[y.block p (by have:=m.size;omega) f1,m.block p C (fun e=>f3 (b p e))]
  have D:¬g=f':=fun e=>by
   rcases c with e2|e2
   ·exact f5 (e.trans e2)
   ·have:=h.lt (i:=g) (.inr (.inl rfl));omega
  have o:aV X base (Rp.fv ⟨r.a,f',wc⟩ ⟨s.all,s.free++ [i]⟩) (s.free++ [i]):=by
   show X.ownsRow base LW 1 (.slice (some ⟨f',0,none⟩) (s.free++ [i]).length wc) (s.free++ [i]).length (iW (s.free++ [i]));rw[kG,show(s.free++ [i]).length=s.free.length+1 by simp];exact y.owns F (fun j v e=>D (by simp only[Value.ownBlock,Option.some.injEq]at v;have e:j=g:=e;exact e.symm.trans v.symm))
  have hp:=h.put (r':=⟨r.a,f',wc⟩) (t:=⟨s.all,s.free++ [i]⟩) d hs n B E ⟨y.heap G (fun e=>f4 e.symm),o,u.ba⟩ rfl c ok;refine⟨_,hp,n.mono (fun j _ e=>?_),fun j v=>?_⟩
  ·rcases e with e|e|⟨q,x,e⟩
   ·exact .inl e
   ·exact .inr (.inl e)
   ·simp only[ow]at x;subst x;exact .inr (.inr ⟨q,dL d,e⟩)
  ·rcases v with e|e|⟨q,x,e⟩
   ·exact .inl (.inl e)
   ·exact .inl (.inr (.inl e))
   ·rcases zw x with z|z
    ·exact .inl (.inr (.inr ⟨q,z,e⟩))
    ·subst z;rcases e with e|e
     ·exact .inl (.inr (.inr ⟨r,dL d,.inl e⟩))
     ·rcases c with e2|e2
      ·exact .inl (.inr (.inr ⟨r,dL d,.inr (e.trans e2)⟩))
      ·exact .inr (by rw[e];exact e2)
def Om (w:World)(base p g:Nat)(R:List Rp)(x:Int×Pl)(e:Ending)(w':World):Prop:=
 ∃R',e= .returned (qI x.1)∧bG w' base p g R' x.2∧ah (d_ p g R) w w'∧∀i,d_ p g R' i→d_ p g R i∨w.heap.size≤i
theorem Eh (h:bG w base p g R pl)(a:cO):Calls prog 204 #[dP p,iE a] w (Om w base p g R (iZ pl a)):=by
 obtain⟨E,A⟩:=ay (iZ pl a);rw[←A];have H:=af h;have aL:=af A;cases X:iq pl a.s a.i with
 |none=>
  rw[I7 X]at A;have C:=af (fun W (k:ah No w W)=>pz (h.no k) X);have t:=af A;clear h X A;(go_enter func204,ntmps204);go_wp2_with fail
  (with_reducible refine(C.o _ ((aA w).alloc _)).mono ?_)
  rintro e w1 ⟨rfl,U⟩;have K:=af (((aA w).alloc _).aK U);clear U C;go_wp2;go_ret;exact⟨R,by rw[t.o];rfl,by rw[t.o];exact H.o.no K.o,K.o.mono (fun _ _ h=>h.elim),fun i hi=> .inl hi⟩
 |some x=>
  obtain⟨k,i,s,F,d,hm,hn⟩:=AZ X;obtain⟨r,V,bf,_⟩:=h.place hm;have C:=af (fun W (q:ah No w W)=>nL (h.no q) V hm hn);rw[←F, ←d]at C;have aI:=af (fun W (q:ah No w W)=>oL (h.no q) a);have aE:j9 pl a=oJ x a.g:=(by unfold j9;rw[X]);rw[aE]at aI;rw[I8 F d hm hn]at A;unfold AJ at A;have t:=af A;have ok:=(h.ok.sh hm).at hn;have g0:=ok.g0;have g1:=ok.g1;have bD:aj (ai (w.alloc (.cells (bk a).toArray 23)) w.heap.size 0 3=some (bk a)):=af (by simp[go_sem]);have l:=af (And.intro V (And.intro hm hn));have N:=af (And.intro F d);have Z:=af (AY hm);have Y:=af ok.al;clear h V X hm hn A F d ok bf aE;(go_enter func204,ntmps204);go_wp2_with fail
  (with_reducible refine(C.o _ ((aA w).alloc _)).mono ?_)
  rintro e W ⟨rfl,U⟩;have K:=af (((aA w).alloc _).aK U);have aR:=U.ai bD.o;have m2:=ak aR 2 _ rfl;simp only[Nat.zero_add]at m2;clear U C bD;by_cases t1:a.g<0
  ·have u:aj (E=(1,pl)):=af (by rw[t.o,aM t1];simp only[cond_true];rw[Z.o]);go_wp2;go_ret;exact⟨R,by rw[u.o];rfl,by rw[u.o];exact H.o.no K.o,K.o.mono (fun _ _ h=>h.elim),fun i hi=> .inl hi⟩
  rw[aJ t1,aN]at t;have M:=af (aI.o W K.o);obtain⟨T,aW⟩:=ay (oJ x a.g);rw[←aW]at M t;have bK:=af aW;clear aW aI;(go_wp2_with fail);refine M.o.mono ?_;rintro e I ⟨rfl,D⟩;have aC:=af (K.o.aK D);cases T
  case false=>
   have u:aj (E=(9,pl)):=af (by rw[t.o];simp only[Bool.not_false,cond_true];rw[Z.o]);clear D;go_wp2;go_ret;exact⟨R,by rw[u.o];rfl,by rw[u.o];exact H.o.no aC.o,aC.o.mono (fun _ _ h=>h.elim),fun i hi=> .inl hi⟩
  simp only[Bool.not_true,cond_false]at t;have P:x.a=true∧x.g=a.g:=by
   have:=bK.o;unfold oJ at this
   simpa using this.symm
  have g2:x.g<1048576:=Y.o P.1;have aP:=af P;have G:=af (H.o.no aC.o);have c:=G.o.sh k r s l.o.1 l.o.2.1;obtain⟨c0,_,c2,_⟩:=c.sG l.o.2.2;obtain⟨_,d1⟩:=G.o.qh l.o.1 l.o.2.1;have m1:I.cell? ⟨w.heap.size,1,none⟩=some (qI a.i):=D.cB (by have:=ak aR 1 _ rfl;simpa using this);have aS:I.frozen? ⟨r.a,i*3,none⟩=false:=bF _ _ _ _ _ c.all;have aT:I.frozen? ⟨r.a,i*3+2,none⟩=false:=bF _ _ _ _ _ c.all;have bV:I.frozen? ⟨g,k*2+1,none⟩=false:=bF _ _ _ _ _ G.o.row;have bu:¬g=r.a:=(H.o.four l.o.1).2.2.2.1;have bB:¬w.heap.size=r.a:=fun e=>(by have:=H.o.lt (i:=r.a) (.inr (.inr ⟨r,dL l.o.1,.inl rfl⟩));omega);clear D c aR P m2 M bK Y;obtain⟨i0,hi,bg,bn,bq⟩:=fR Tryz.sA;obtain⟨y,hy⟩:=ay (⟨x.g+1,x.b,false⟩:Ix);have Q:aj (bG ((I.setCell ⟨r.a,i*3,none⟩ (qI (x.g+1))).setCell ⟨r.a,i*3+2,none⟩ (.bool false)) base p g R (dZ pl k (s.put i y))∧ah (d_ p g R) I ((I.setCell ⟨r.a,i*3,none⟩ (qI (x.g+1))).setCell ⟨r.a,i*3+2,none⟩ (.bool false))):=af (by
   obtain⟨V,hm,hn⟩:=l.o;have aH:=(G.o.ok.sh hm).at hn;refine G.o.turned V hm y ((G.o.ok.sh hm).turn hn aP.o.1 (by rw[hy];exact⟨by simp only;omega,by simp only;omega,aH.b0,aH.b1,fun h=>by cases h⟩)) ((bU _ _ _ _).aK (bU _ _ _ _)) ?_;have bR:=dR y5 (G.o.sh k r s V hm).all i 0 x ⟨x.g+1,x.b,x.a⟩ (qI (x.g+1)) hn (by decide) rfl;rw[oG]at bR;have z2:=dR y5 bR i 2 ⟨x.g+1,x.b,x.a⟩ y (.bool false) (by rw[mD (eC.1 hn).1]) (by decide) (by rw[hy];rfl);rw[Ol]at z2;exact z2)
  obtain⟨cg,B⟩:=ay ((I.setCell ⟨r.a,i*3,none⟩ (qI (x.g+1))).setCell ⟨r.a,i*3+2,none⟩ (.bool false));rw[←B]at Q;have av:=af B;have bM:=af hy;clear hy;by_cases t2:x.g+1<1048576
  ·rw[aM t2,bH]at t;clear B;go_upto_region 9 with fail
   refine au ?_;intro m aD;rw[←av.o]at aD;subst aD;obtain⟨s1,c⟩:=ay (s.put i y);have z:aj (bG m base p g R (dZ pl k s1)):=af (by rw[c];exact Q.o.1);have v:(dZ pl k s1)[k]?=some s1:=mD (eC.1 l.o.2.1).1;have aY:s1.free.length=s.free.length:=(by rw[c];rfl);have L:=z.o.sh k r s1 l.o.1 v;have bO:aj (ah (d_ p g R) w m):=af ((aC.o.mono (fun _ _ h=>h.elim)).aK Q.o.2);replace m1:m.cell? ⟨w.heap.size,1,none⟩=some (qI a.i):=Q.o.2.cell m1 (fun e=>by
    have e:d_ p g R w.heap.size:=e;have:=H.o.lt e;omega)
   replace d1:m.cell? ⟨g,k*2+1,none⟩=some (r.fv s1):=(z.o.qh l.o.1 v).2;replace bV:m.frozen? ⟨g,k*2+1,none⟩=false:=bF _ _ _ _ _ z.o.row;have J:=(z.o.ok.sh v).few;have bI:=af J;have aB:aj (aV ((m.alloc (.cells #[qI a.i] 3)).drew) base (r.fv s1) s1.free):=af ((((aA (S:=No) m).alloc _).drew).mM L.free);have aQ:aj (Reads ((m.alloc (.cells #[qI a.i] 3)).drew) 1 (.slice (some ⟨m.heap.size,0,none⟩) 1 1) 1 [qI a.i]):=af (Reads.kept (S:=No) ((aA _).drew) (Reads.fu (jO m #[qI a.i] 1 (aX _) (by unfold maxLen;omega) rfl) (by simp[Value.oneCell'])) (fun _ _ h=>h));have bS:aj (base≤m.heap.size):=af (by have:=z.o.bp;have:=z.o.lt (.inl rfl);omega);have bJ:=af v;have lg:g<m.heap.size:=z.o.lt (i:=g) (.inr (.inl rfl));have lb:w.heap.size<m.heap.size:=nh m1;have aO:=af c;have bA:aj (¬g=r.f):=af (H.o.four l.o.1).2.2.2.2.1;clear c L J v aY c0 c2 aS aT bu bB
   go_region_law (refine bL rfl (.tmp 48) (.tmp 51) 135 rfl base 3 i0 _ 1 8 underlying135 hi bg bn bq rfl (by decide) (r.fv s1) s1.free.length (iW s1.free) rfl aB.o _ 1 [qI a.i] rfl aQ.o (by have:=bI.o;unfold maxLen;omega) (by have:=bI.o;omega) (by have:=bS.o;simp;omega) ?_
                  intro v' bC O aG aF _;have bN:aj (ah (Of (r.fv s1)) m bC):=af (((((aA (S:=No) m).alloc _).drew).mono (fun _ _ h=>h.elim)).aK aG);have bT:=af O;have B8:=af aF;have bE:=af (bN.o.heap z.o.row (fun e=>bA.o (by have e:(r.fv s1).ownBlock=some g:=e;simp only[Value.ownBlock,Option.some.injEq]at e;exact e.symm)));obtain⟨wa,wc,rfl⟩:=aq O;have cn:bC.cell? ⟨g,k*2+1,none⟩=some (r.fv s1):=jE CW bE.o k (r,s1) (by rw[uK];exact⟨l.o.1,bJ.o⟩) 1 _ rfl;have cq:bC.frozen? ⟨g,k*2+1,none⟩=false:=bF _ _ _ _ _ bE.o;clear O aG aF)
   all_goals
    go_wp2;go_ret;have d:a.i.toNat=i:=(by have:=N.o.2;omega);have e1:E=(0,dZ (dZ pl k s1) k ⟨s1.all,s1.free++ [i]⟩):=by
     rw[t.o,aO.o,bM.o,d];unfold dZ;rw[Ol];rfl
    have aZ:Sh.ok ⟨s1.all,s1.free++ [i]⟩:=by
     have bP:=G.o.ok.free a;rw[←aL.o,e1]at bP;exact bP.sh (n:=k) (mD (by rw[dZ,nk];exact(eC.1 l.o.2.1).1))
    have bQ:=bT.o;rw[N.o.2]at bQ;obtain⟨r',bY,bZ,b_⟩:=z.o.pushed l.o.1 bJ.o bN.o bQ (fun q bX=>(B8.o q bX).imp_right (fun e=>aU (by simp) e)) aZ;refine⟨R.set k r',by rw[e1];rfl,by rw[e1];exact bY,bO.o.aK bZ,fun j bW=>?_⟩;rcases b_ j bW with e|e
    ·exact .inl e
    ·exact .inr (aU bO.o.size e)
  ·rw[aJ t2,aN]at t;clear B;go_wp2;go_ret;rw[←av.o];have e:E=(0,dZ pl k (s.put i y)):=by
    rw[t.o,bM.o];have d:a.i.toNat=i:=(by have:=N.o.2;omega);rw[d];rfl
   exact⟨R,by rw[e];rfl,by rw[e];exact Q.o.1,(aC.o.mono (fun _ _ h=>h.elim)).aK Q.o.2,fun i hi=> .inl hi⟩
end
theorem Ei:∀args w,(callFunc 259 args).run prog w= .ok (.enter 259 args) w:=enters_of func259 (by kernel_rfl) rfl
theorem B5 (W:World)(B g k a:Nat)(A:List Ix)(hc:W.cell? ⟨B,0,none⟩=some (Um g k))(l:W.cell? ⟨g,k*2,none⟩=some (.slice (some ⟨a,0,none⟩) A.length A.length))
 (c:W.heap[a]?=some (.cells (rowsOf y5 A).toArray Oj (0,0))) (b:A.length≤16) (i:Nat) (hi:i<A.length):FnGives prog 259 #[.pointer (some ⟨B,0,none⟩)] #[qI i] (.bool (full A i)) W:=by
 have e:full A i=decide (A[i].g=1048576):=(by unfold full;rw[fw hi]);rw[e];have c0:=jE y5 c i A[i] (fw hi) 0 _ rfl;simp only[qH]at c0;obtain⟨x,d⟩:=ay (A[i]);rw[←d]at c0⊢;have f:(0:Int)≤(i:Int):=(by omega);have h:(i:Int)<(A.length:Int):=(by omega);have j:(A.length:Int)≤16:=(by omega);have c1:W.cell? ⟨a,i*3,none⟩=some (qI x.g):=c0;clear d e c b hi c0;show Calls prog 259 #[qI i,.pointer (some ⟨B,0,none⟩)] W _;(go_enter func259,ntmps259);go_wp2;go_ret;exact⟨rfl,0,rfl⟩
def mA (p:Pl)(k:Nat):Pl:=(p.take k).map gI++p.drop k
theorem Gf (p:Pl):mA p 0=p:=by simp[mA]
theorem I9 (p:Pl){k:Nat}(h:p.length≤k):mA p k=iF p:=by
 unfold mA iF;rw[fA h,List.drop_eq_nil_of_le h,kE]
theorem B6 (p:Pl)(k:Nat)(h:k≤p.length):(mA p k).length=p.length:=by simp[mA];omega
theorem LX (p:Pl){k:Nat}{s:Sh}(h:p[k]?=some s):(mA p k)[k]?=some s:=by
 have a:=(eC.1 h).1;unfold mA;rw[Dx (by simp;omega)];simp only[yB,yC,Gd (Nat.le_of_lt a),Ge,List.getElem?_drop,qH];exact h
theorem I_ (p:Pl){k:Nat}{s:Sh}(h:p[k]?=some s):dZ (mA p k) k (gI s)=mA p (k+1):=by
 obtain⟨a,rfl⟩:=eC.1 h;unfold dZ mA;rw[Sf _ _ (by simp;omega),iK a,fI,eY];congr 1;simp only[yB,yC,Gd (Nat.le_of_lt a),Ge];rw[mX a];rfl
theorem tF (A:List Ix)(l:List Nat)(j i:Nat)(a:l[j]?=some i):eu A (l.take (j+1))=(eu A (l.take j)).modify i nJ:=by
 unfold eu;rw[tT,a,xT];rfl
theorem A0 {α:Type}{l:List α}{i:Nat}{x:α}(h:l[i]?=some x)(f:α→α):l.modify i f=l.set i (f x):=by
 apply zH;intro j;rw[List.getElem?_modify];by_cases a:i=j
 ·subst a;rw[mD (eC.1 h).1,h];simp
 ·rw[qC a];cases l[j]?<;>simp[a]
section
variable {w:World}{base p g:Nat}{R:List Rp}{pl:Pl}
structure KD (X0:World)(r:Rp)(s:Sh)(j:Nat)(wr:World):Prop where
 kp:ah (Own r.a) X0 wr
 all:wr.heap[r.a]?=some (.cells (rowsOf y5 (eu s.all (s.free.take j))).toArray Oj (0,0))
theorem KD.done {X0 wr i:World}{P:Pl}{k:Nat}{r:Rp}{s:Sh}{F':List Nat}(d:bG X0 base p g R P)(h:R[k]?=some r)(hs:P[k]?=some s)(l:KD X0 r s s.free.length wr)(m:ah (Own r.f) wr.drew i)
 (F:aV i base (.slice (some ⟨r.f,0,none⟩) F'.length r.c) F') (E:F'=s.free.filter (fun j=>!full (eu s.all s.free) j)):
 bG (i.setCell ⟨g,k*2+1,none⟩ (.slice (some ⟨r.f,0,none⟩) F'.length r.c)) base p g R (dZ P k (gI s))∧ah (d_ p g R) X0 (i.setCell ⟨g,k*2+1,none⟩ (.slice (some ⟨r.f,0,none⟩) F'.length r.c)):=by
 obtain⟨f1,f2,f3,f4,f5,f6⟩:=d.four h;have G:(R.zip P)[k]?=some (r,s):=(by rw[uK];exact⟨h,hs⟩);have x:=d.sh k r s h hs;have b:=l.all;rw[jH]at b;have e:gI s=⟨eu s.all s.free,F'⟩:=(by rw[E];rfl);have C:wr.drew.heap[g]?=some (.cells (rowsOf CW (R.zip P)).toArray LV (0,0)):=l.kp.heap d.row (fun e=>f4 e);have D:=m.heap C f5;have B:=m.heap (a:=wr.drew) b f6;have y:=dR CW D k 1 (r,s) (r,gI s) (.slice (some ⟨r.f,0,none⟩) F'.length r.c) G (by decide) (by rw[e];simp[CW,fN]);obtain⟨X,u⟩:=ay (i.setCell ⟨g,k*2+1,none⟩ (.slice (some ⟨r.f,0,none⟩) F'.length r.c));have y:X.heap[g]?=some (.cells (rowsOf CW ((R.zip P).set k (r,gI s))).toArray LV (0,0)):=(by rw[u];exact y);have o:ah (Own g) i X:=(by rw[u];exact bU _ _ _ _);rw[←u];have n:ah (d_ p g [r]) X0 X:=(((l.kp.drew).mono (T:=d_ p g [r]) (fun j _ e=> .inr (.inr ⟨r,by simp,.inl e⟩))).trans m (fun j _ e=> .inr (.inr ⟨r,by simp,.inr e⟩))).trans o (fun j _ e=> .inr (.inl e));have v:X.heap[p]?=X0.heap[p]?:=by
  have w:p<X0.heap.size:=d.lt (.inl rfl);have s1:=l.kp.drew.size;have s2:=m.size;rw[o.block p (by omega) f1,m.block p (by omega) f3,l.kp.drew.block p w f2]
 have hp:=d.put (r':=r) (t:=gI s) h hs n v y
  ⟨by rw[e];exact o.heap B (fun e=>f4 e.symm),by rw[e];exact o.owns F (fun j z e=>f5 (by simp only[Value.ownBlock,Option.some.injEq]at z;have e:j=g:=e;exact e.symm.trans z.symm)),x.ba⟩ rfl (.inl rfl) (d.ok.sh hs).yw
 rw[vK h]at hp;refine⟨hp,n.mono (fun j _ e=>?_)⟩;rcases e with e|e|⟨q,A,e⟩
 ·exact .inl e
 ·exact .inr (.inl e)
 ·simp only[ow]at A;subst A;exact .inr (.inr ⟨q,dL h,e⟩)
theorem B_ (h:bG w base p g R pl):Calls prog 201 #[dP p] w fun e w'=>(∃n:Int,e= .returned (qI n))∧bG w' base p g R (iF pl)∧ah (d_ p g R) w w':=by
 have c0:=h.vJ;have H:=af h;have aS:=h.ok.1;have bQ:(pl.length:Int)≤16:=(by omega);clear h aS;(go_enter func201,ntmps201);go_wp2
 go_loopw [17,3] (fun q n wr=>∃(k:Nat) (m:Int),k≤pl.length∧q=qI k∧n=qI m∧0≤m∧m≤16*(k:Int)∧bG wr base p g R (mA pl k)∧ah (d_ p g R) w wr) (fun q _ _=>pl.length-(intOf q).toNat)
 case atStart=>exact⟨0,0,aX _,rfl,rfl,by omega,by omega,by rw[Gf];exact H.o,aA _⟩
 case round=>
  obtain⟨k,m,Y,rfl,rfl,m0,m1,z,hK⟩:=hrel;by_cases bf:k<pl.length
  ·have aY:(k:Int)<(pl.length:Int):=(by omega);have bP:(0:Int)≤(k:Int):=(by omega);have hs:pl[k]?=some pl[k]:=fw bf;obtain⟨s,aE⟩:=ay (pl[k]);rw[←aE]at hs;have C:=LX pl hs;obtain⟨r,aD,aF,_⟩:=z.place C;obtain⟨d0,d1⟩:=z.qh aD C;have e0:=z.vJ;rw[B6 pl k Y]at e0;have ok:=H.o.ok.sh hs;have N:=af z;have aL:=af hK;have G:=af (And.intro aD (And.intro C hs));have aN:=af aF;have S:=af ok;have bu:(s.free.length:Int)≤16:=(by have:=ok.few;omega);have bq:(s.all.length:Int)≤16:=(by have:=ok.n1;omega);have la:r.a<wr.heap.size:=z.lt (.inr (.inr ⟨r,dL aD,.inl rfl⟩));have lf:r.f<wr.heap.size:=z.lt (.inr (.inr ⟨r,dL aD,.inr rfl⟩));have lg:g<wr.heap.size:=z.lt (.inr (.inl rfl));clear z hK aD C hs aE aF ok c0;go_wp2;refine au ?_;intro X0 J;have E:aj (ah No wr X0):=af (by rw[J];exact(aA wr).alloc _);obtain⟨B,aO⟩:=ay (wr.heap.size);have bK:X0.cell? ⟨B,0,none⟩=some (Um g k):=(by rw[J,aO];simp[go_sem]);rw[←aO]at la lf lg⊢;have aQ:=af aO;replace d0:=E.o.cB d0;replace d1:=E.o.cB d1;have bD:=af (E.o.heap aN.o.all (fun h=>h));have aR:=af (N.o.no E.o);clear J aO e0;obtain⟨b_,aG⟩:=ay (wr);rw[←aG]at N aL aN E aQ;clear aG
   go_loopw [31,3] (fun q n bS=>∃(j:Nat) (v:Int),j≤s.free.length∧q=qI j∧n=qI v∧m≤v∧v≤m+(j:Int)∧KD X0 r s j bS) (fun q _ _=>s.free.length-(intOf q).toNat)
   case atStart=>exact⟨0,m,aX _,rfl,rfl,by omega,by omega,aA _,by simpa [eu]using bD.o⟩
   case round=>
    obtain⟨j,v,aP,rfl,rfl,v0,v1,d⟩:=hrel;have Q:=af d;have K:¬Own r.a B:=fun e=>(by have e:B=r.a:=e;omega);have l:¬Own r.a g:=fun e=>(by have e:g=r.a:=e;exact(N.o.four G.o.1).2.2.2.1 e);have L:¬Own r.a r.f:=fun e=>(by have e:r.f=r.a:=e;exact(N.o.four G.o.1).2.2.2.2.2 e.symm);have b0:=d.kp.cell bK K;have bA:=d.kp.cell d0 l;have bR:=d.kp.cell d1 l;have bN:(0:Int)≤(j:Int):=(by omega);by_cases W:j<s.free.length
    ·have bO:(j:Int)<(s.free.length:Int):=(by omega);have t:s.free[j]?=some s.free[j]:=fw W;obtain⟨i,hi⟩:=ay (s.free[j]);rw[←hi]at t;obtain⟨x,bg,_,_⟩:=S.o.fr i (dL t);have F:i∉s.free.take j:=fun av=>by
      obtain⟨j',aW,e⟩:=uL av;rw[List.getElem_take]at e;have aq:j'<j:=(by rw[fB]at aW;omega);exact(E1.1 S.o.nd) j' j (by omega) W aq (by rw[e,hi])
     have D:(eu s.all (s.free.take j))[i]?=some x:=by
      rw[rM _ _ _ (S.o.nd.sublist (List.take_sublist _ _)),bg,aJ F];rfl
     have bV:=d.kp.cell (E.o.cB (aN.o.Gb t)) L;have x0:=jE y5 d.all i x D 0 _ rfl;have bB:=jE y5 d.all i x D 1 _ rfl;simp only[qH]at x0;have bW:wr.frozen? ⟨r.a,i*3,none⟩=false:=bF _ _ _ _ _ d.all;have aU:=(eC.1 bg).1;have bL:(0:Int)≤(i:Int):=(by omega);have bM:(i:Int)<(s.all.length:Int):=(by omega);replace x0:wr.cell? ⟨r.a,i*3,none⟩=some (qI x.g):=x0;replace bB:wr.cell? ⟨r.a,i*3+1,none⟩=some (qI x.b):=bB;have O:=af (And.intro D t);have v2:0≤v:=(by omega);have v3:v≤1000:=(by omega);clear d K l L D F bg hi t aU;by_cases aT:x.g<x.b
     ·go_wp2_with fail
      go_region
      all_goals go_wp2
      all_goals go_roundw
      case rel=>
       refine⟨j+1,v+1,by omega,by go_num,rfl,by omega,by omega,(Q.o.kp.drew).aK (bU _ _ _ _),?_⟩;rw[tF _ _ _ _ O.o.2,A0 O.o.1];have e:nJ x=⟨x.b,x.b,x.a⟩:=(by unfold nJ;rw[aM aT];rfl);rw[e];have:=dR (w:=wr.drew) y5 Q.o.all i 0 x ⟨x.b,x.b,x.a⟩ (qI x.b) O.o.1 (by decide) rfl;rw[oG]at this;exact this
      case measure=>simp[intOf];omega
     ·go_wp2_with fail
      go_region
      all_goals go_wp2
      all_goals go_roundw
      case rel=>
       refine⟨j+1,v,by omega,by go_num,rfl,by omega,by omega,Q.o.kp.drew,?_⟩;rw[tF _ _ _ _ O.o.2,A0 O.o.1];have e:nJ x=x:=(by unfold nJ;rw[aJ (by omega)];rfl);rw[e,vK O.o.1];exact Q.o.all
      case measure=>simp[intOf];omega
    ·have X:j=s.free.length:=(by omega);have c:=d.all;rw[X,jH]at c;obtain⟨A',A⟩:∃A',A'=eu s.all s.free:=⟨_,rfl⟩;have T:A'.length=s.all.length:=(by rw[A,fN]);rw[←A]at c;have aH:¬B=r.f:=(by omega);have M:¬g=r.f:=(N.o.four G.o.1).2.2.2.2.1;have aI:¬r.a=r.f:=(N.o.four G.o.1).2.2.2.2.2;have Z:B<wr.heap.size:=nh b0;have ak:g<wr.heap.size:=nh bA;have ai:r.a<wr.heap.size:=(bX.1 c).1;have aC:aV wr.drew base (r.fv s) s.free:=(d.kp.drew).owns (E.o.mM aN.o.free) (fun i hi e=>by
      simp only[Value.ownBlock,Option.some.injEq]at hi;have e:i=r.a:=e;omega)
     have bn:=af (KC aC (by omega) (B:=A'.length) (by have:=S.o.n0;omega) (fun j aP=>by obtain⟨y,hy,_⟩:=S.o.fr j aP;have:=(eC.1 hy).1;omega) (fun j=>full A' j) 259 #[.pointer (some ⟨B,0,none⟩)] Ei
      (fun W' j aP Y=>B5 W' B g k r.a A' ((zx (w:=wr.drew) (Y B Z aH)).trans b0) (((zx (w:=wr.drew) (Y g ak M)).trans bA).trans (by rw[T])) ((Y r.a ai aI).trans c) (by omega) j aP))
     obtain⟨F',I⟩:∃F',F'=s.free.filter (fun j=>!full A' j):=⟨_,rfl⟩;rw[←I]at bn;have P:=af (And.intro I A);have bp:=af c;have v2:0≤v:=(by omega);have v3:v≤16*((k:Int)+1):=(by omega);have bY:wr.frozen? ⟨g,k*2+1,none⟩=false:=bF _ _ _ _ _ (d.kp.heap aR.o.row l);have bH:=af (d.kp.heap aR.o.row l);clear d c A I aC K l L T ai ak Z aI;go_wp2_with fail
     go_region_with (first
      |(go_at_call 258
        have hc:=bn.o
        with_reducible refine hc.mono ?_
        clear hc;rintro e bk ⟨rfl,aB,u⟩;have bI:=af u;have bJ:=af aB;have bT:bk.cell? ⟨B,0,none⟩=some (Um g k):=u.cell (a:=wr.drew) b0 aH;have bZ:bk.cell? ⟨g,k*2+1,none⟩=some (r.fv s):=u.cell (a:=wr.drew) bR M;have f9:bk.frozen? ⟨g,k*2+1,none⟩=false:=bF _ _ _ _ _ (u.heap (a:=wr.drew) bH.o M);clear u aB))
     all_goals go_wp2
     all_goals
      have V:=Q.o;rw[X]at V;have U:=P.o.1;rw[P.o.2]at U;obtain⟨bC,z2⟩:=KD.done aR.o G.o.1 G.o.2.1 V bI.o bJ.o U;rw[I_ pl G.o.2.2]at bC;refine⟨⟨k+1,v,by omega,by go_num,rfl,v2,by omega,bC,((aL.o.mS E.o).aK z2)⟩,?_⟩;simp[intOf];omega
  ·have aZ:pl.length≤k:=(by omega);have aY:¬((k:Int)<(pl.length:Int)):=(by omega);have bE:=af z;have aL:=af hK;clear z hK c0;go_wp2;go_ret;exact⟨⟨m,rfl⟩,by rw[←I9 pl aZ];exact bE.o,aL.o⟩
end
structure Sv where
 a:Option Addr
 n:Nat
 c:Nat
abbrev Sv.v (s:Sv):Value:= .slice s.a s.n s.c
def KE:dX (Sv×Sv):=⟨fun x=> [x.1.v,x.2.v],2,fun _=>rfl,fun a u h=>by simp at h;rcases h with rfl|rfl<;>rfl,by decide⟩
def sv0:Sv:=⟨none,0,0⟩
def TV (m:Nat)(r:Rp):Sv×Sv:=(⟨some ⟨r.a,0,none⟩,m,m⟩,⟨some ⟨r.f,0,none⟩,m,r.c⟩)
def Gg (m:Nat):Sh:=⟨List.replicate m ⟨0,0,false⟩,List.range m⟩
theorem CZ {α:Type}(C:dX α)(a:α)(z:Array Value)(f:z.toList=C.cells a)(n:Nat):madeCells z (n*C.size)=(rowsOf C (List.replicate n a)).toArray:=by
 have c:z.size=C.size:=(by rw[←qR,f,C.len]);have hp:=C.pos;apply Array.ext';apply zH;intro j;unfold madeCells;simp only[Array.toList_map,Array.toList_range,List.getElem?_map];by_cases b:j<n*C.size
 ·rw[List.getElem?_range b,sV];have g:j/C.size<n:=(sU hp).2 b;have h:j%C.size<C.size:=Nat.mod_lt _ hp;have e:j=(j/C.size)*C.size+j%C.size:=(by rw[mG];exact(Nat.div_add_mod j C.size).symm);have d:=xk C (List.replicate n a) (j/C.size) (by simpa using g) (j%C.size) h;rw[←e]at d;rw[d,List.getElem_replicate, ←f,DE,c,getElem!_pos z _ (by omega),DA (by omega)]
 ·rw[zD (by simpa using b),zD (by simp only[bV,List.length_replicate];omega)];rfl
theorem Tryz.S6:(prog.info? LV).map (fun i=>(i.zero,i.size,i.bytes))=some (some (.agg #[.slice none 0 0,.slice none 0 0]),2,48):=by kernel_rfl
theorem Tryz.S7:(prog.info? Oj).map (fun i=>(i.zero,i.size,i.bytes))=some (some (.agg #[qI 0,qI 0,.bool false]),3,24):=by kernel_rfl
def QX (w:World)(n m:Nat)(e:Ending)(w':World):Prop:=∃p g R,e= .returned (.tuple #[dP p,qI 0])∧bG w' w.heap.size p g R (plNew n m)∧ah No w w'
theorem vO {w:World}{b c:Nat}{v:Value}{l:List Nat}(h:aV w b v l)(hc:c≤b):aV w c v l:=by
 obtain⟨d,a⟩:=h;refine⟨d,?_⟩;rcases a with a|⟨g,cap,cur,rfl,e,r⟩
 ·exact .inl a
 ·exact .inr ⟨g,cap,cur,rfl,by omega,r⟩
structure NewAt (w0:World)(p g n m:Nat)(R:List Rp)(wr:World):Prop where
 box:wr.heap[p]?=some (.cells #[.slice (some ⟨g,0,none⟩) n n] Se (0,0))
 row:wr.heap[g]?=some (.cells (rowsOf KE (R.map (TV m)++List.replicate (n-R.length) (sv0,sv0))).toArray LV (0,0))
 sh:∀r∈R,vG wr w0.heap.size r (Gg m)
 apart:∀(j k:Nat) (r s:Rp),R[j]?=some r→R[k]?=some s→j≠k→r.a≠s.a∧r.f≠s.f
 kp:ah No w0 wr
 bp:w0.heap.size≤p
 bg:w0.heap.size≤g
theorem NewAt.done {w0 wr:World}{p g n m:Nat}{R:List Rp}(h:NewAt w0 p g n m R wr)(b:R.length=n)(i:n≤16)(m1:1≤m)(m2:m≤16):bG wr w0.heap.size p g R (plNew n m):=by
 have a:(plNew n m).length=n:=(by simp[plNew]);have c:∀(k:Nat) (s:Sh),(plNew n m)[k]?=some s→s=Gg m:=fun k s hs=>by
  have:=dL hs;rw[plNew,DI]at this;exact this.2
 refine⟨by rw[h.box,a],?_,by rw[b,a],fun k r s f hs=>?_,h.apart,h.bp,h.bg,AL i m1 m2⟩
 ·have e:∀(L:List Rp) (k:Nat),L.length=k→rowsOf KE (L.map (TV m))=rowsOf CW (L.zip (plNew k m)):=by
   intro L;induction L with
   |nil=>intro k _;rfl
   |cons r L ih=>
    intro k d;obtain⟨k',rfl⟩:∃k',k=k'+1:=⟨k-1,by simp at d;omega⟩;have e1:plNew (k'+1) m=Gg m::plNew k' m:=(by simp[plNew,Gg,Si]);rw[e1,kT,List.zip_cons_cons,dJ,dJ,ih k' (by simpa using d)];congr 1;simp[KE,CW,TV,Gg]
  rw[h.row,b,Ge,List.replicate_zero,kE,e R n b]
 ·rw[c k s hs];exact h.sh r (dL f)
section
variable {w:World}{base p g:Nat}{R:List Rp}{pl:Pl}
theorem Gh (w:World)(n m:Nat)(n1:1≤n)(cR:n≤16)(m1:1≤m)(m2:m≤16):Calls prog 147 #[qI n,qI m] w (QX w n m):=by
 have n3:(1:Int)≤(n:Int):=(by omega);have cU:(n:Int)≤16:=(by omega);have m3:(1:Int)≤(m:Int):=(by omega);have m4:(m:Int)≤16:=(by omega);obtain⟨i0,hi,bP,bQ,bR⟩:=fR Tryz.sA;have aJ:∀W:World,(Instr.makeSlice 274 (qI (n:Int)) (qI (n:Int))).run prog W= .ok (.slice (some ⟨W.heap.size,0,none⟩) n n) (W.alloc (.cells (rowsOf KE (List.replicate n (sv0,sv0))).toArray LV)):=fun W=>by
  obtain⟨bS,V,K,M,N⟩:=fR Tryz.S6;have:=run_make (P:=prog) W 274 LV bS _ underlying274 V K .i64 .i64 n n (by omega) (mH _) (by rw[N];omega) (by omega);have em:madeCells (Value.agg #[.slice none 0 0,.slice none 0 0]).cells (n*2)=(rowsOf KE (List.replicate n (sv0,sv0))).toArray:=CZ KE (sv0,sv0) _ rfl n;rw[nW,M,em]at this;exact this
 have aL:∀W:World,(Instr.makeSlice 277 (qI (m:Int)) (qI (m:Int))).run prog W= .ok (.slice (some ⟨W.heap.size,0,none⟩) m m) (W.alloc (.cells (rowsOf y5 (List.replicate m ⟨0,0,false⟩)).toArray Oj)):=fun W=>by
  obtain⟨bS,V,K,M,N⟩:=fR Tryz.S7;have:=run_make (P:=prog) W 277 Oj bS _ underlying277 V K .i64 .i64 m m (by omega) (mH _) (by rw[N];omega) (by omega);have em:madeCells (Value.agg #[qI 0,qI 0,.bool false]).cells (m*3)=(rowsOf y5 (List.replicate m ⟨0,0,false⟩)).toArray:=CZ y5 ⟨0,0,false⟩ _ rfl m;rw[nW,M,em]at this;exact this
 obtain⟨cD,I⟩:=ay ((rowsOf KE (List.replicate n (sv0,sv0))).toArray);obtain⟨cr,H⟩:=ay ((rowsOf y5 (List.replicate m ⟨0,0,false⟩)).toArray);rw[←I]at aJ;rw[←H]at aL;have bf:=af I;have aZ:=af H;clear I H;(go_enter func147,ntmps147);go_wp2;refine au ?_;intro X0 aF;obtain⟨g,U⟩:=ay (w.heap.size);obtain⟨p,hp⟩:=ay (w.heap.size+1);have cw:=af (And.intro U hp);have bu:aj (NewAt w p g n m [] X0):=af (by
  rw[aF];refine⟨?_,?_,fun r b=>absurd b qU,fun j k r s b=>by simp at b,((aA w).alloc _).alloc _,by omega,by omega⟩
  ·have e:p=(w.alloc (.cells cD LV)).heap.size:=(by rw[hp];simp);rw[e,bT,U]
  ·rw[Below.heap_alloc _ _ _ (by rw[U];simp),U,bT,bf.o];simp)
 rw[←hp, ←U];clear aF U hp
 go_loopw [32] (fun q wr=>∃(k:Nat) (R:List Rp),k≤n∧q=qI k∧R.length=k∧NewAt w p g n m R wr) (fun q _=>n-(intOf q).toNat)
 case atStart=>exact⟨0,[],aX _,rfl,rfl,bu.o⟩
 case round=>
  obtain⟨k,R,cT,rfl,A,y⟩:=hrel;have Y:=af y;have t:=af A;by_cases cP:k<n
  ·have bK:(k:Int)<(n:Int):=(by omega);have cO:(0:Int)≤(k:Int):=(by omega);have b0:wr.cell? ⟨p,0,none⟩=some (.slice (some ⟨g,0,none⟩) n n):=(by rw[bW _ _ _ _ _ _ y.box];rfl);have bN:(R.map (TV m)++List.replicate (n-R.length) (sv0,sv0))[k]?=some (sv0,sv0):=by
    rw[Dx (by simp;omega)];simp only[yB,A,Ge];rw[Ia (by omega)]
   have lp:p<wr.heap.size:=(bX.1 y.box).1;have lg:g<wr.heap.size:=(bX.1 y.row).1;have cE:wr.cell? ⟨g,k*2,none⟩=some (.slice none 0 0):=jE KE y.row k _ bN 0 _ rfl;have cF:wr.frozen? ⟨g,k*2,none⟩=false:=bF _ _ _ _ _ y.row;have bk:=af bN;have O:aj (g≠p):=af (bO y.row y.box (by decide));clear y bN A bu;go_wp2_with fail
   go_region
   all_goals go_wp2
   refine au ?_;intro d u;obtain⟨L,aC⟩:=ay (R.map (TV m)++List.replicate (n-R.length) (sv0,sv0));rw[←aC]at bk;obtain⟨a,aG⟩:=ay (wr.heap.size);rw[←aG]at u;have Q:aj (ah (Own g) wr d):=af (by rw[u];exact((bU _ _ _ _).alloc _).drew);have b_:aj (d.heap[a]?=some (.cells (rowsOf y5 (List.replicate m ⟨0,0,false⟩)).toArray Oj (0,0))):=af (by
    rw[u, ←aZ.o];have e:(wr.setCell ⟨g,k*2,none⟩ (.slice (some ⟨a,0,none⟩) m m)).heap.size=a:=(by rw[aG];simp);have h0:=bT (wr.setCell ⟨g,k*2,none⟩ (.slice (some ⟨a,0,none⟩) m m)) (.cells cr Oj);rw[e]at h0;exact h0)
   have cn:aj (d.heap[g]?=some (.cells (rowsOf KE (L.set k (⟨some ⟨a,0,none⟩,m,m⟩,sv0))).toArray LV (0,0))):=af (by
    rw[u];have G:=dR KE Y.o.row k 0 (sv0,sv0) (⟨some ⟨a,0,none⟩,m,m⟩,sv0) (.slice (some ⟨a,0,none⟩) m m) (by rw[←aC];exact bk.o) (by decide) rfl;rw[←aC]at G;have z:=((aA (S:=No) (wr.setCell ⟨g,k*2,none⟩ (.slice (some ⟨a,0,none⟩) m m))).alloc (.cells cr Oj)).heap G (fun h=>h);exact z)
   have cA:=af aC;have aW:=af aG;have D:aj (p<d.heap.size∧g<d.heap.size):=af (by have:=Q.o.size;omega);replace b0:d.cell? ⟨p,0,none⟩=some (.slice (some ⟨g,0,none⟩) n n):=Q.o.cell b0 (fun e=>O.o (Eq.symm e));rw[←aG];clear u aC aG cE cF lp lg;obtain⟨bZ,aP⟩:=ay (wr);rw[←aP]at Q aW Y;clear aP
   go_loopw [45] (fun q bY=>∃(i:Nat) (v:Sv) (F:List Nat),i≤m∧q=qI i∧F=List.range i∧aV bY d.heap.size v.v F∧bY.heap[g]?=some (.cells (rowsOf KE (L.set k (⟨some ⟨a,0,none⟩,m,m⟩,v))).toArray LV (0,0))∧ah (Own g) d bY) (fun q _=>m-(intOf q).toNat)
   case atStart=>exact⟨0,sv0,[],aX _,rfl,rfl,cJ _ _ _ _,cn.o,aA _⟩
   case round=>
    obtain⟨i,v,F,cN,rfl,l,aD,bD,hK⟩:=hrel;have X:=af l;have E:aj (F.length=i):=af (by rw[l];simp);clear l;have aE:=aD;obtain⟨va,vc,hv⟩:=aq aD;obtain⟨v1,v2,v3⟩:=v;simp only[Sv.v,Value.slice.injEq]at hv;obtain⟨rfl,rfl,rfl⟩:=hv;have bA:=af aD;have cg:=af bD;have ak:=af hK;have cL:(0:Int)≤(i:Int):=(by omega);have B:(L.set k (⟨some ⟨a,0,none⟩,m,m⟩,⟨v1,F.length,v3⟩))[k]?=some (⟨some ⟨a,0,none⟩,m,m⟩,⟨v1,F.length,v3⟩):=mD (eC.1 bk.o).1;have Z:=af B;by_cases cM:i<m
    ·have bH:(i:Int)<(m:Int):=(by omega);go_upto_region 11 with fail
     refine au ?_;intro W hW;have av:aj (ah No wr W):=af (by rw[hW];exact aA _);have aR:=af (av.o.mM bA.o);have aT:=af (av.o.heap cg.o (fun h=>h));have b1:W.cell? ⟨p,0,none⟩=some (.slice (some ⟨g,0,none⟩) n n):=av.o.cB (ak.o.cell b0 (fun e=>O.o (Eq.symm e)));have d1:W.cell? ⟨g,k*2+1,none⟩=some (.slice v1 F.length v3):=jE KE aT.o k _ B 1 _ rfl;have f1:W.frozen? ⟨g,k*2+1,none⟩=false:=bF _ _ _ _ _ aT.o;have lp:p<W.heap.size:=nh b1;have lg:g<W.heap.size:=nh d1;have ai:aj (aV ((W.alloc (.cells #[qI (i:Int)] 3)).drew) d.heap.size (.slice v1 F.length v3) (F)):=af ((((aA (S:=No) W).alloc _).drew).mM aR.o);have bn:aj (Reads ((W.alloc (.cells #[qI (i:Int)] 3)).drew) 1 (.slice (some ⟨W.heap.size,0,none⟩) 1 1) 1 [qI (i:Int)]):=af (Reads.kept (S:=No) ((aA _).drew) (Reads.fu (jO W #[qI (i:Int)] 1 (aX _) (by unfold maxLen;omega) rfl) (by simp[Value.oneCell'])) (fun _ _ h=>h));have cv:aj (d.heap.size≤W.heap.size):=af (aU ak.o.size av.o.size);have cq:aj (F.length≤16):=af (by have:=E.o;omega);have bV:aj (∀q,(Value.slice v1 F.length v3).ownBlock=some q→¬g=q):=af (fun q aM e=>by have:=(aR.o.lt q aM).1;have:=D.o.2;omega);clear hW aD aE bD hK B
     go_region_law (refine bL rfl (.tmp 60) (.tmp 62) 135 rfl d.heap.size 3 i0 _ 1 8 underlying135 hi bP bQ bR rfl (by decide) (.slice v1 F.length v3) F.length (iW F) rfl ai.o _ 1 [qI (i:Int)] rfl bn.o (by have:=cq.o;unfold maxLen;omega) (by have:=cq.o;omega) (by have:=cv.o;simp;omega) ?_
                    intro v' C J aI bG _;have bq:aj (ah (Of (.slice v1 F.length v3)) W C):=af (((((aA (S:=No) W).alloc _).drew).mono (fun _ _ h=>h.elim)).aK aI);have cC:=af J;have aS:=af (bq.o.heap aT.o (fun e=>bV.o g e rfl));have aQ:¬Of (.slice v1 F.length v3) p:=fun e=>(by have:=(aR.o.lt p e).1;have:=D.o.1;omega);obtain⟨wa,wc,rfl⟩:=aq J;have c6:C.cell? ⟨p,0,none⟩=some (.slice (some ⟨g,0,none⟩) n n):=bq.o.cell b1 aQ;have cV:C.cell? ⟨g,k*2+1,none⟩=some (.slice v1 F.length v3):=jE KE aS.o k _ Z.o 1 _ rfl;have cZ:C.frozen? ⟨g,k*2+1,none⟩=false:=bF _ _ _ _ _ aS.o;clear J aI bG aQ)
     all_goals go_wp2
     all_goals
      have aY:F++ [i]=List.range (i+1):=(by rw[X.o,List.range_succ]);have cu:aV C d.heap.size (.slice wa (F.length+1) wc) (F++ [i]):=by
       show C.ownsRow d.heap.size LW 1 (.slice wa (F.length+1) wc) (F++ [i]).length (iW (F++ [i]));rw[kG,show(F++ [i]).length=F.length+1 by simp];exact cC.o
      have ct:=bU C g (k*2+1) (.slice wa (F.length+1) wc);have cQ:ah (Own g) d C:=(ak.o.mS av.o).trans bq.o (fun q aM e=>by have:=(aR.o.lt q e).1;omega);refine⟨⟨i+1,⟨wa,F.length+1,wc⟩,F++ [i],by omega,by go_num,aY,ct.owns cu (fun q aM e=>by have:=(cu.lt q aM).1;have e:q=g:=e;have:=D.o.2;omega),?_,cQ.aK ct⟩,?_⟩
      ·have aB:=dR KE aS.o k 1 (⟨some ⟨a,0,none⟩,m,m⟩,⟨v1,F.length,v3⟩) (⟨some ⟨a,0,none⟩,m,m⟩,⟨wa,F.length+1,wc⟩) (.slice wa (F.length+1) wc) Z.o (by decide) rfl;rw[Ol]at aB;exact aB
      ·simp[intOf];omega
    ·have aH:i=m:=(by omega);have bH:¬((i:Int)<(m:Int)):=(by omega);clear aD aE bD hK B;go_wp2;obtain⟨f,aO,cK⟩:∃f,v1=some ⟨f,0,none⟩∧d.heap.size≤f:=by
      rcases bA.o.2 with⟨_,e⟩|⟨f,cap,cur,e,hb,_⟩
      ·have:=E.o;omega
      ·simp only[Value.slice.injEq]at e;exact⟨f,e.1,hb⟩
     refine⟨⟨k+1,R++ [⟨a,f,v3⟩],by omega,by go_num,by simp[t.o],?_⟩,by simp[intOf];omega⟩;have hn:=Y.o;have x:ah (Own g) bZ wr:=Q.o.aK ak.o;have bC:F.length=m:=(by have:=E.o;omega);have aN:∀r∈R,r.a<bZ.heap.size∧r.f<bZ.heap.size∧r.a≠g∧r.f≠g:=fun r b=>by
      have hs:=hn.sh r b;obtain⟨cur,hf,_⟩:=hs.rP;exact⟨(bX.1 hs.all).1,(bX.1 hf).1,fun e=>bO hs.all hn.row (by decide) e,fun e=>bO hf hn.row (by decide) e⟩
     have bE:a≠g:=fun e=>bO b_.o cn.o (by decide) e;refine⟨x.heap hn.box (fun e=>O.o (Eq.symm e)),?_,fun r b=>?_,fun j q r s b hs bJ=>?_,hn.kp.trans x (fun q aM e=>by have e:q=g:=e;have:=hn.bg;omega),hn.bp,hn.bg⟩
     ·rw[cg.o,cA.o,t.o];congr 4;rw[Sf _ _ (by simp[t.o]),fI,eY];congr 1;simp only[yB,t.o,Ge,List.length_append,iY,iP,List.map_cons,List.map_nil];rw[show n-k=(n-(k+1))+1 by omega,Si,List.set_cons_zero];simp[TV,aO,bC]
     ·rcases fQ.1 b with b|b
      ·obtain⟨_,_,G,z⟩:=aN r b;exact(hn.sh r b).kept x G z
      ·rw[dA.1 b];refine⟨ak.o.heap b_.o bE,?_,by have:=aW.o;have:=hn.kp.size;simp only;omega⟩;have aB:aV wr w.heap.size (.slice v1 F.length v3) F:=vO bA.o (by have:=hn.kp.size;have:=Q.o.size;omega);rw[aO]at aB;show wr.ownsRow w.heap.size LW 1 (.slice (some ⟨f,0,none⟩) (List.range m).length v3) (List.range m).length (iW (List.range m));have l:=X.o;rw[aH]at l;rw[←l];exact aB
     ·have key:∀r∈R,r.a≠a∧r.f≠f:=fun r b=>by
       obtain⟨G,z,_,_⟩:=aN r b;have:=aW.o;have:=Q.o.size;exact⟨by omega,by omega⟩
      have c:∀(j:Nat) (r:Rp),(R++ [(⟨a,f,v3⟩:Rp)])[j]?=some r→(j<R.length∧R[j]?=some r)∨(j=R.length∧r=⟨a,f,v3⟩):=fun j r b=>by
       by_cases V:j<R.length
       ·rw[Dy V]at b;exact .inl ⟨V,b⟩
       ·rw[Dx (by omega)]at b;have bI:=(eC.1 b).1;simp only[iY,iP]at bI;have e0:j-R.length=0:=(by omega);rw[e0]at b;simp only[List.getElem?_cons_zero,Option.some.injEq]at b;exact .inr ⟨by omega,b.symm⟩
      rcases c j r b with⟨G,z⟩|⟨G,z⟩
      ·rcases c q s hs with⟨bB,T⟩|⟨bB,T⟩
       ·exact hn.apart j q r s z T bJ
       ·rw[T];exact key r (dL z)
      ·rcases c q s hs with⟨bB,T⟩|⟨bB,T⟩
       ·rw[z];obtain⟨cH,cI⟩:=key s (dL T);exact⟨Ne.symm cH,Ne.symm cI⟩
       ·omega
  ·have bM:k=n:=(by omega);have bK:¬((k:Int)<(n:Int)):=(by omega);clear y A bu;go_wp2
   go_ret2
   exact⟨p,g,R,rfl,Y.o.done (by rw[t.o,bM]) cR m1 m2,Y.o.kp⟩
end
