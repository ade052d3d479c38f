/- Lemmas. -/
import Derived.Test.YtpbpgjfdledgoaaGreatDoorZo33
import Derived.Test.YtpbpgjfdledgoaaGreatDoorZo35
set_option linter.all false
set_option maxRecDepth 100000
set_option maxHeartbeats 8000000
namespace Go.Proofs.YtpbpgjfdledgoaaGreatDoor
open Go.Proofs.Tryz
open Go.RowKit Go.Shelf Go.Sort Go.Joins Go.Deep
def rV (w:World)(base:Nat)(D:Rd)(k':Dk)(w':World):Prop:=∃lv,fH w' base ⟨D.d,D.q,D.pv,lv⟩ k'∧(∀i,lv.ownBlock=some i→D.lv.ownBlock=some i∨w.heap.size≤i)∧ah (Bt D) w w'
section
variable {w w':World}{base:Nat}{D:Rd}{k:Dk}{S:Nat→Prop}
theorem rV.stay (h:fH w base D k)(a:ah No w w'):rV w base D k w':=⟨D.lv,h.no a,fun _ h=> .inl h,a.mono (fun _ _ h=>h.elim)⟩
theorem rV.trans {w1:World}{k':Dk}(a:ah (Bt D) w w1)(h:rV w1 base D k' w'):rV w base D k' w':=by
 obtain⟨lv,b,c,d⟩:=h;refine⟨lv,b,fun i hi=>?_,a.aK d⟩;rcases c i hi with e|e
 ·exact .inl e
 ·exact .inr (aU a.size e)
theorem fH.pushed (h:fH w base D k){b:World}(g:ah (Of D.lv) w b){wa:Option Addr}{wc:Nat}(c:Cm)(m:b.ownsRow base dV 16 (.slice wa (k.q.length+1) wc) (k.q.length+1) (rowsOf k_ k.q++ct c))
 (hb:∀i,(Value.slice wa (k.q.length+1) wc).ownBlock=some i→D.lv.ownBlock=some i∨w.heap.size≤i) (n:(k.q.length:Int)<k.z.q):rV w base D ⟨k.z,k.pl,k.q++ [c],k.t,k.o⟩ (b.setCell ⟨D.d,8,none⟩ (.slice wa (k.q.length+1) wc)):=by
 have ok:=h.ok;have a:ah (Own D.d) b (b.setCell ⟨D.d,8,none⟩ (.slice wa (k.q.length+1) wc)):=bU _ _ _ _;have l:=g.heap h.box (fun e=>h.vY _ e rfl);have f:aI k_ dV b base (.slice wa (k.q.length+1) wc) (k.q++ [c]):=by
  unfold aI;rw[cr,bE,fL];exact m
 have j:∀i,(Value.slice wa (k.q.length+1) wc).ownBlock=some i→¬i=D.d:=fun i hi e=>by
  obtain⟨cur,hc,_⟩:=aI.block f hi;exact bO hc l (by decide) e
 refine⟨.slice wa (k.q.length+1) wc,⟨?_,?_,a.owns f (fun i hi e=>j i hi e),h.bd,⟨ok.z,ok.pl,ok.pn,by simp only[List.length_append,List.length_singleton];omega,ok.t0,ok.t1⟩⟩,hb,?_⟩
 ·rw[aB l _];rfl
 ·exact(h.pool.kept g (fun i hi e=>h.GP i e hi)).kept a (fun i hi e=>h.iI (by have e:i=D.d:=e;rw[←e];exact hi))
 ·exact(g.mono (fun i _ e=> .inr (.inr e))).aK (a.mono (fun i _ e=> .inl e))
theorem GV (h:fH w base D k)(c:Cm):Calls prog 179 #[dP D.d,gH c] w fun e w'=>e= .returned (qI (jL k c).1)∧rV w base D (jL k c).2 w':=by
 obtain⟨i0,hi,aV,aW,aX⟩:=fR Tryz.Ju;obtain⟨va,vc,aQ⟩:=aq h.row;have bY:aj (∀w',ah No w w'→fH w' base D k∧ai w' D.d 0 7=some (LI k.z)∧w'.cell? ⟨D.d,6,none⟩=some (qI k.z.q)∧w'.cell? ⟨D.d,7,none⟩=some (dP D.q)∧w'.cell? ⟨D.d,8,none⟩=some (.slice va k.q.length vc)):=af (fun w' cJ=>by
  have bZ:=h.no cJ;obtain⟨c0,bM,O,bp,_⟩:=bZ.cells;rw[aQ]at bp;exact⟨bZ,c0,bM,O,bp⟩)
 obtain⟨E,bq⟩:=ay (jL k c);rw[←bq];unfold jL at bq;have H:=af h;have n:=af bq;have bC:=af (fun W=>iR W c);have bT:aj (ai (w.alloc (.cells (ct c).toArray 27)) w.heap.size 0 16=some (ct c)):=af (by simp[go_sem]);have P:(k.q.length:Int)≤64:=(by have:=h.ok.few;omega);have bE:=af (fun W=>QM W k.z (D9 h.ok.z) c.b.x c.b.y);clear h bq aQ;obtain⟨cF,X⟩:=ay (bD c);rw[←X]at n bC;have cr:=af X;clear X;(go_enter func179,ntmps179);go_wp2_with fail
 (with_reducible refine(bC.o _).mono ?_)
 rintro e W ⟨rfl,bP⟩;have K:aj (ah No w W):=af (((aA w).alloc _).aK bP);have bU:=af (bP.ai bT.o);clear bP bT bC;cases cF
 case false=>
  have j:aj (E=(1,k)):=af (by rw[n.o];rfl);go_wp2;go_ret;exact⟨by rw[j.o];rfl,by rw[j.o];exact rV.stay H.o K.o⟩
 simp only[Bool.not_true,cond_false]at n;obtain⟨_,c0,bM,O,bp⟩:=bY.o _ K.o;go_upto_region 3 with fail
 by_cases t2:k.z.q≤(k.q.length:Int)
 ·have j:aj (E=(8,k)):=af (by rw[n.o,aM t2];rfl)
  go_region
  all_goals go_wp2
  all_goals go_ret
  all_goals exact⟨by rw[j.o];rfl,by rw[j.o];exact rV.stay H.o K.o.drew⟩
 rw[aJ t2,aN]at n
 go_region
 go_upto_region 5 with fail
 refine au ?_;intro l Y;have bg:aj (ah No w l):=af (by rw[Y];exact K.o.drew);have r:ai l w.heap.size 0 16=some (ct c):=(by rw[Y];exact bU.o);have bA:=af r;have i1:ai l w.heap.size 1 3=some (bk c.id):=aE r 1 (bk c.id) rfl (by simp);have i4:ai l w.heap.size 4 3=some (bk c.b.id):=aE r 4 (bk c.b.id) rfl (by simp);have m0:=ak r 0 _ rfl;have m4:=ak r 4 _ rfl;have m8:=ak r 8 _ rfl;have m9:=ak r 9 _ rfl;simp only[Nat.zero_add]at m0 m4 m8 m9;clear Y K bU c0 bM O bp r;obtain⟨b_,c0,_,O,_⟩:=bY.o _ bg.o;have bV:=af b_;clear b_;by_cases t3:c.k=1
 ·rw[aM t3,bH]at n;have cH:(c.k==1)=true:=(by rw[t3];rfl);obtain⟨Z,bO⟩:=ay (c.zone k.z);have aF:aj (∀W',Calls prog 233 #[D8 k.z,qI c.b.x,qI c.b.y] W' fun e w'=>e= .returned (qI Z)∧ah No W' w'):=af (by rw[bO];exact bE.o);rw[←bO]at n;clear bE bO;go_upto_region 6 with fail
  have cu:∀w',ah No l w'→ai w' D.d 0 7=some (LI k.z):=fun w' q=>q.ai c0;have cA:∀w',ah No l w'→w'.cell? ⟨w.heap.size,4,none⟩=some (qI c.b.s):=fun w' q=>q.cB m4;have cC:∀w',ah No l w'→w'.cell? ⟨w.heap.size,8,none⟩=some (qI c.b.x):=fun w' q=>q.cB m8;have cD:∀w',ah No l w'→w'.cell? ⟨w.heap.size,9,none⟩=some (qI c.b.y):=fun w' q=>q.cB m9;clear t3 m0 c0 m4 m8 m9
  go_region_held3 (fun w'=>ah No l w')
   (first|assumption|exact(aA l).drew|exact aA l)
   (first
     |(go_at_call 233
       have hc:=aF.o
       with_reducible refine(hc _).mono ?_
       clear hc;rintro e aD ⟨rfl,bQ⟩;have m:ah No l aD:=ah.trans (by first|assumption|exact(aA l).drew|exact aA l) bQ (fun _ _ h=>h)))
  clear cu cA cC cD;have bJ:=af (bg.o.aK m);have j4:ai aD w.heap.size 4 3=some (bk c.b.id):=m.ai i4;have e1:aD.cell? ⟨D.d,7,none⟩=some (dP D.q):=m.cB O;have cq:=af (m.ai bA.o);clear m i1 i4 O bA bg bV aF;by_cases tz:Z=c.b.s
  case neg=>
   have j:aj (E=(5,k)):=af (by rw[n.o,aJ tz];rfl);have cI:(Z !=c.b.s)=true:=(by simpa using tz);go_wp2;go_ret;exact⟨by rw[j.o];rfl,by rw[j.o];exact rV.stay H.o bJ.o⟩
  rw[aM tz]at n;simp only[Bool.not_true,cond_false]at n;have cI:(Z !=c.b.s)=false:=(by simpa using tz);have bX:=af (H.o.no bJ.o);have bG:=af (JE (bX.o.no ((aA aD).drew)).pool c.b.id);obtain⟨y,hy⟩:=ay (jK k.pl c.b.id);rw[←hy]at bG n;have bf:=af hy;obtain⟨cn,bu⟩:=y;have nd:aj (¬tK D.q D.pv D.d):=af H.o.iI;have nb:aj (¬tK D.q D.pv w.heap.size):=af (fun e=>by have:=H.o.pool.lt e;omega);clear hy tz;go_upto_region 8 with fail
  go_region_held3 (fun w'=>w'.cell? ⟨D.d,7,none⟩=some (dP D.q)∧ai w' w.heap.size 4 3=some (bk c.b.id))
   (first|exact⟨e1,j4⟩|assumption)
   (first
     |(go_at_call 234
       have hc:=bG.o
       with_reducible refine hc.mono ?_
       clear hc;rintro e N ⟨rfl,aR,aP⟩;have cE:=af aR;have M:aj (ah (tK D.q D.pv) aD N):=af (((aA (S:=No) aD).drew.mono (fun _ _ h=>h.elim)).aK aP);have bN:N.cell? ⟨D.d,7,none⟩=some (dP D.q)∧ai N w.heap.size 4 3=some (bk c.b.id):=⟨M.o.cell e1 nd.o,cK M.o j4 nb.o⟩;clear aR aP))
  have Q:aj (ai N w.heap.size 0 16=some (ct c)):=af (cK M.o cq.o nb.o);have v:=H.o.ok;have aT:jd bu:=(by have:=v.pl.take c.b.id;rw[←bf.o]at this;exact this);have aS:bu.length=k.pl.length:=(by have:=vT k.pl c.b.id;rw[←bf.o]at this;exact this);have g:=af (bX.o.pooled cE.o M.o ⟨v.z,aT,by simp only;rw[aS];exact v.pn,v.q,v.t0,v.t1⟩);have bn:aj (ah (Bt D) w N):=af ((bJ.o.mono (fun _ _ h=>h.elim)).aK (M.o.mono (fun _ _ h=> .inr (.inl h))));clear v aT aS bN e1 j4 bG;by_cases ty:cn=0
  case neg=>
   have bR:bu=k.pl:=(by have:=Da (p:=k.pl) (a:=c.b.id) (by rw[←bf.o];exact ty);rw[←bf.o]at this;exact this);have j:aj (E=(cn,k)):=af (by rw[n.o,aJ ty];rfl);go_wp2;go_ret;have aO:=g.o;rw[bR]at aO;exact⟨by rw[j.o];rfl,by rw[j.o];exact⟨D.lv,aO,fun i hi=> .inl hi,bn.o⟩⟩
  have j:aj (E=(0,⟨k.z,bu,k.q++ [c],k.t,k.o⟩)):=af (by rw[n.o,aM ty];rfl);go_upto_region 13 with fail
  refine au ?_;intro f F;subst F;obtain⟨J,L,av⟩:=aq g.o.row
  try simp only at av
  have A:=af av;have C:=af g.o.row;rw[A.o]at C;have d2:f.cell? ⟨D.d,8,none⟩=some (.slice J k.q.length L):=(by rw[(g.o.cells).2.2.2.1,A.o]);have f2:f.frozen? ⟨D.d,8,none⟩=false:=bF _ _ _ _ _ g.o.box;have V:=Q.o;have aB:D.d<f.heap.size:=g.o.lt (.inl rfl);have aZ:w.heap.size<f.heap.size:=cP V;have B:aj (aI k_ dV ((f.alloc (.cells (ct c).toArray dV)).drew) base (.slice J k.q.length L) k.q):=af ((((aA (S:=No) f).alloc _).drew).mM C.o);have U:aj (Reads ((f.alloc (.cells (ct c).toArray dV)).drew) 16 (.slice (some ⟨f.heap.size,0,none⟩) 1 1) 1 (ct c)):=af (Reads.kept (S:=No) ((aA _).drew) (Rm k_ f dV c) (fun _ _ h=>h));have bI:aj (base≤f.heap.size):=af (tX (xS (show base≤D.d from g.o.bd) aB))
  have R:=af (g.o.vY);have aH:=af P;clear av
  go_region_law (refine bL rfl (.tmp 62) (.tmp 64) 58 rfl base dV i0 _ 16 128 underlying58 hi aV aW aX rfl (by decide) (.slice J k.q.length L) k.q.length (rowsOf k_ k.q) rfl B.o _ 1 (ct c) rfl U.o (by have:=aH.o;unfold maxLen;omega) (by have:=aH.o;omega) (by have:=bI.o;simp;omega) ?_
                 intro v' aC u I G _;have aL:aj (ah (Of (.slice J k.q.length L)) f aC):=af (((((aA (S:=No) f).alloc _).drew).mono (fun _ _ h=>h.elim)).aK I);have bK:=af u;have B8:=af G;have aG:=af (aL.o.heap g.o.box (fun e=>R.o D.d (by(try simp only);rw[A.o];exact e) rfl));obtain⟨wa,wc,rfl⟩:=aq u;have cL:aC.cell? ⟨D.d,8,none⟩=some (.slice J k.q.length L):=(by rw[bW _ _ _ _ _ _ aG.o,A.o];rfl);have cM:aC.frozen? ⟨D.d,8,none⟩=false:=bF _ _ _ _ _ aG.o;clear u I G)
  all_goals go_wp2
  all_goals go_ret
  all_goals
   have aY:=aL.o;rw[←A.o]at aY;have bS:=g.o.pushed (wa:=wa) (wc:=wc) aY c bK.o (fun i hi=>by
    rcases B8.o i hi with e|e
    ·exact .inl (by(try simp only);rw[A.o];exact e)
    ·exact .inr (aU (by simp) e)) (by(try simp only);omega)
   exact⟨by rw[j.o];rfl,by rw[j.o];exact rV.trans bn.o bS⟩
 ·rw[aJ t3,aN]at n;have cH:(c.k==1)=false:=eD.2 t3;clear t3 bE;have bB:=af (fun w' (q:ah No l w')=>GN (bV.o.no q).pool c.id);obtain⟨T,cg⟩:=ay (j9 k.pl c.id);rw[←cg]at bB n;clear cg;go_upto_region 11 with fail
  have cv:∀w',ah No l w'→w'.cell? ⟨D.d,7,none⟩=some (dP D.q):=fun w' q=>q.cB O;have cw:∀w',ah No l w'→ai w' w.heap.size 1 3=some (bk c.id):=fun w' q=>q.ai i1;clear c0 O m0 m4 m8 m9 i1 i4
  go_region_held3 (fun w'=>ah No l w')
   (first|assumption|exact(aA l).drew|exact aA l)
   (first
     |(go_at_call 235
       have hc:=bB.o _ (by first|assumption|exact(aA l).drew|exact aA l)
       with_reducible refine hc.mono ?_
       clear hc;rintro e N ⟨rfl,bQ⟩;have m:ah No l N:=ah.trans (by first|assumption|exact(aA l).drew|exact aA l) bQ (fun _ _ h=>h)))
  have M:=af (bg.o.aK m);have Q:aj (ai N w.heap.size 0 16=some (ct c)):=af (m.ai bA.o);have g:=af (H.o.no M.o);have bn:aj (ah (Bt D) w N):=af (M.o.mono (fun _ _ h=>h.elim));clear m cv cw bB;cases T
  case false=>
   have j:aj (E=(9,k)):=af (by rw[n.o];rfl);go_wp2;go_ret;exact⟨by rw[j.o];rfl,by rw[j.o];exact rV.stay H.o M.o⟩
  have j:aj (E=(0,⟨k.z,k.pl,k.q++ [c],k.t,k.o⟩)):=af (by rw[n.o];rfl);go_upto_region 13 with fail
  refine au ?_;intro f F;subst F;obtain⟨J,L,av⟩:=aq g.o.row
  try simp only at av
  have A:=af av;have C:=af g.o.row;rw[A.o]at C;have d2:f.cell? ⟨D.d,8,none⟩=some (.slice J k.q.length L):=(by rw[(g.o.cells).2.2.2.1,A.o]);have f2:f.frozen? ⟨D.d,8,none⟩=false:=bF _ _ _ _ _ g.o.box;have V:=Q.o;have aB:D.d<f.heap.size:=g.o.lt (.inl rfl);have aZ:w.heap.size<f.heap.size:=cP V;have B:aj (aI k_ dV ((f.alloc (.cells (ct c).toArray dV)).drew) base (.slice J k.q.length L) k.q):=af ((((aA (S:=No) f).alloc _).drew).mM C.o);have U:aj (Reads ((f.alloc (.cells (ct c).toArray dV)).drew) 16 (.slice (some ⟨f.heap.size,0,none⟩) 1 1) 1 (ct c)):=af (Reads.kept (S:=No) ((aA _).drew) (Rm k_ f dV c) (fun _ _ h=>h));have bI:aj (base≤f.heap.size):=af (tX (xS (show base≤D.d from g.o.bd) aB))
  have R:=af (g.o.vY);have aH:=af P;clear av
  go_region_law (refine bL rfl (.tmp 62) (.tmp 64) 58 rfl base dV i0 _ 16 128 underlying58 hi aV aW aX rfl (by decide) (.slice J k.q.length L) k.q.length (rowsOf k_ k.q) rfl B.o _ 1 (ct c) rfl U.o (by have:=aH.o;unfold maxLen;omega) (by have:=aH.o;omega) (by have:=bI.o;simp;omega) ?_
                 intro v' aC u I G _;have aL:aj (ah (Of (.slice J k.q.length L)) f aC):=af (((((aA (S:=No) f).alloc _).drew).mono (fun _ _ h=>h.elim)).aK I);have bK:=af u;have B8:=af G;have aG:=af (aL.o.heap g.o.box (fun e=>R.o D.d (by(try simp only);rw[A.o];exact e) rfl));obtain⟨wa,wc,rfl⟩:=aq u;have cL:aC.cell? ⟨D.d,8,none⟩=some (.slice J k.q.length L):=(by rw[bW _ _ _ _ _ _ aG.o,A.o];rfl);have cM:aC.frozen? ⟨D.d,8,none⟩=false:=bF _ _ _ _ _ aG.o;clear u I G)
  all_goals go_wp2
  all_goals go_ret
  all_goals
   have aY:=aL.o;rw[←A.o]at aY;have bS:=g.o.pushed (wa:=wa) (wc:=wc) aY c bK.o (fun i hi=>by
    rcases B8.o i hi with e|e
    ·exact .inl (by(try simp only);rw[A.o];exact e)
    ·exact .inr (aU (by simp) e)) (by(try simp only);omega)
   exact⟨by rw[j.o];rfl,by rw[j.o];exact rV.trans bn.o bS⟩
end
section
variable {w w':World}{base:Nat}{D:Rd}{k:Dk}{S:Nat→Prop}
def v8 (w:World)(base:Nat)(D:Rd)(x:Int×Int×Dk)(e:Ending)(w':World):Prop:=e= .returned (.tuple #[qI x.1,qI x.2.1])∧rV w base D x.2.2 w'
theorem GW (h:fH w base D k)(v:Value)(l:List cO)(hv:aW bN w v l)(hl:l.length≤100000)(hd:0<l.length→∀i,v.ownBlock=some i→¬Bt D i):
 Calls prog 181 #[dP D.d,v] w (v8 w base D (jM k l)):=by
 obtain⟨va,vc,rfl⟩:=hv.slice;obtain⟨_,_,B,_,_,r⟩:=h.cells;obtain⟨E,L⟩:=ay (jM k l);rw[←L];unfold jM at L;have x:=af L;have H:=af h;have aB:=af hv;have X:=af hd;have aG:(l.length:Int)≤100000:=(by omega);obtain⟨O,av⟩:=ay (k.o);rw[←av]at r x;clear h hv hd L av;cases O
 case false=>
  have A:aj (E=(0,14,k)):=af (by rw[x.o];rfl);have f:aj (v8 w base D E (.returned (.tuple #[qI 0,qI 14])) w):=af ⟨by rw[A.o],by rw[A.o];exact rV.stay H.o (aA _)⟩;(go_enter func181,ntmps181);go_wp2;refine aY (v:= .tuple #[qI 0,qI 14]) ?_ rfl f.o;simp[results,results181]
 rw[bH]at x;(go_enter func181,ntmps181);go_wp2
 go_loopw [6,7] (fun n U wr=>∃(j:Nat),j≤l.length∧U=qI j∧n=qI ((kN k.pl (l.take j):Nat):Int)∧kz wr base D.q D.pv k.z.i.toNat (jF k.pl (l.take j))∧ah (tK D.q D.pv) w wr) (fun _ U _=>l.length-(intOf U).toNat)
 case atStart=>exact⟨0,aX _,rfl,rfl,H.o.pool,aA _⟩
 case round=>
  obtain⟨j,aO,rfl,rfl,C,hK⟩:=hrel;have aN:=af C;have aC:=af hK;have aF:(0:Int)≤(j:Int):=(by omega);have nd:¬tK D.q D.pv D.d:=H.o.iI;by_cases b:j<l.length
  ·have R:(j:Int)<(l.length:Int):=(by omega);have u:aW bN wr (.slice va l.length vc) l:=aB.o.kept hK (fun i hi e=>X.o (xS (aX _) b) i hi (.inr (.inl e)));obtain⟨g,off,rfl,_,_,lg⟩:=aW.addr bN u (by omega);have P:ai wr g (off+j*3) 3=some (bk l[j]):=aW.at bN u j b;obtain⟨a,Q⟩:=ay (l[j]);rw[←Q]at P;have p:aj (l.take (j+1)=l.take j++ [a]):=af (by rw[iK b,Q]);replace B:=hK.cell B nd;have ng:aj (¬tK D.q D.pv g):=af (fun e=>X.o (xS (aX _) b) g rfl (.inr (.inl e)));obtain⟨m,hm⟩:=ay (kN k.pl (l.take j));have aI:(m:Int)≤100000:=(by have:=Bm k.pl (l.take j);rw[fB]at this;omega);have aH:(0:Int)≤(m:Int):=(by omega);rw[←hm];have Y:=af hm;have W:=af (JF (C.kept ((aA (S:=No) wr).drew) (fun _ _ h=>h)) a);obtain⟨y,hy⟩:=ay (iZ (jF k.pl (l.take j)) a);rw[←hy]at W;have J:=af hy;have aD:=af nd;clear C hK u Q hm hy lg nd b;obtain⟨aL,aP⟩:=y;obtain⟨w1,T⟩:=ay (wr);subst T;go_upto_region 7 with fail
   go_region_held3 (fun w'=>w'.cell? ⟨D.d,7,none⟩=some (dP D.q)∧ai w' g (off+j*3) 3=some (bk a))
    (first|exact⟨B,P⟩|assumption)
    (first
      |(go_at_call 236
        have hc:=W.o
        with_reducible refine hc.mono ?_
        clear hc;rintro e V ⟨rfl,I,G⟩;have ak:=af I;have K:ah (tK D.q D.pv) w1 V:=((aA (S:=No) w1).drew.mono (fun _ _ h=>h.elim)).aK G;have Z:=af (aC.o.aK K);have aE:V.cell? ⟨D.d,7,none⟩=some (dP D.q)∧ai V g (off+j*3) 3=some (bk a):=⟨K.cell B aD.o,cK K P ng.o⟩;clear I G K))
   by_cases h0:aL=0
   ·have N:aj (kN k.pl (l.take (j+1))=m+1):=af (by rw[p.o,nP, ←J.o,aM h0,Y.o];rfl);go_wp2;go_roundw
    case rel=>exact⟨j+1,by omega,by go_num,by rw[N.o];go_num,by rw[p.o,mQ, ←J.o];exact ak.o,Z.o⟩
    case measure=>simp[intOf];omega
   ·have N:aj (kN k.pl (l.take (j+1))=m):=af (by rw[p.o,nP, ←J.o,aJ h0,Y.o];rfl);go_wp2;go_roundw
    case rel=>exact⟨j+1,by omega,by go_num,by rw[N.o],by rw[p.o,mQ, ←J.o];exact ak.o,Z.o⟩
    case measure=>simp[intOf];omega
  ·have F:j=l.length:=(by omega);have R:¬((j:Int)<(l.length:Int)):=(by omega);have aq:=hK.cell r nd;have ok:=H.o.ok;have s:=C;rw[F,jH]at s;have c:=H.o.pooled s hK ⟨ok.z,Bn l _ ok.pl,by simp only;rw[rS];exact ok.pn,ok.q,ok.t0,ok.t1⟩;have z4:=c.boxed 10 (.bool false) (k':=⟨k.z,jF k.pl l,k.q,k.t,false⟩) (U6:=D.lv) rfl rfl rfl (c.KN 10 _) ⟨c.ok.z,c.ok.pl,c.ok.pn,c.ok.q,c.ok.t0,c.ok.t1⟩;have z5:ah (Bt D) w (wr.setCell ⟨D.d,10,none⟩ (.bool false)):=(hK.mono (fun _ _ h=> .inr (.inl h))).trans (bU wr D.d 10 (.bool false)) (fun i _ e=> .inl e);have f:aj (v8 w base D E (.returned (.tuple #[qI ((kN k.pl (l.take j):Nat):Int),qI 0])) (wr.setCell ⟨D.d,10,none⟩ (.bool false))):=af ⟨by rw[x.o,F,jH],by rw[x.o];exact⟨D.lv,z4,fun i hi=> .inl hi,z5⟩⟩;have f10:wr.frozen? ⟨D.d,10,none⟩=false:=bF _ _ _ _ _ c.box;have ld:D.d<wr.heap.size:=c.lt (.inl rfl);clear C hK B r c z4 z5 s ok;obtain⟨M,au⟩:=ay (((kN k.pl (l.take j):Nat):Int):Int);rw[←au]at f⊢;clear au;go_wp2;refine aY (v:= .tuple #[qI M,qI 0]) ?_ rfl f.o;simp[results,results181]
end
theorem kz.lower {w:World}{base b q n:Nat}{v:Value}{pl:Pl}(h:kz w base q v n pl)(hb:b≤base):kz w b q v n pl:=by
 obtain⟨rq,a,c⟩:=h.at';exact⟨⟨rq,⟨a.box,aI.base a.row hb,a.qn,aU hb a.bq,a.few,a.p0⟩,c⟩,h.ok⟩
def SA (w:World)(z:Zf)(e:Ending)(w':World):Prop:=∃D:Rd,e= .returned (dP D.d)∧fH w' w.heap.size D (Dk.new z)∧ah No w w'
theorem Mx (w:World)(z:Zf)(t:o9 z=true):Calls prog 91 #[D8 z] w (SA w z):=by
 obtain⟨c1,c2,r1,r2,i1,i2,L,M⟩:=qo t;obtain⟨n1,I⟩:=xH t;obtain⟨n,hn⟩:=sS (show 0≤z.c*z.r by omega);obtain⟨m,f⟩:=sS (show 0≤z.i by omega);have d:=af f;clear f;have C:IntKind.i64.wrap (z.c*z.r)=(n:Int):=(by rw[hn,cI];omega);have H:=af t;have G:=af hn;have E:aj (ai (w.alloc (.cells #[qI z.c,qI z.r,qI z.s,qI z.u,qI z.v,qI z.i,qI z.q] 45)) w.heap.size 0 7=some (LI z)):=af (by simp[go_sem]);have k:=n1;have l:=I;rw[hn]at k l;have D:=af (fun W'=>Mn W' n m (by omega) (by omega) (by have:=d.o;omega) (by have:=d.o;omega));clear hn k l t;(go_enter func91,ntmps91);go_upto_region 1 with fail
 refine au ?_;intro W hW;have K:aj (ah No w W):=af (by rw[hW];exact(aA w).alloc _);have p:aj (ai W w.heap.size 0 7=some (LI z)):=af (by rw[hW];exact E.o);clear hW E;have b0:=ak p.o 0 _ rfl;have b1:=ak p.o 1 _ rfl;have A:=ak p.o 5 _ rfl;simp only[Nat.zero_add]at b0 b1 A;rw[d.o]at A;go_wp2_with fail
 (with_reducible refine(D.o _).mono ?_)
 rintro e b ⟨q,v,rfl,g,a⟩;have y:=af g;have x:=af a;have J:=a.ai p.o;clear g a D b0 b1 A C;go_wp2;go_ret;have F:ah No b (b.alloc (.cells #[qI z.c,qI z.r,qI z.s,qI z.u,qI z.v,qI z.i,qI z.q,dP q,.slice none 0 0,qI 0,.bool false] U5)):=(aA b).alloc _;have j:ah No w b:=K.o.aK x.o;have B:plNew (z.c*z.r).toNat z.i.toNat=plNew n m:=(by rw[G.o,d.o,nW,nW]);refine⟨⟨b.heap.size,q,v,.slice none 0 0⟩,rfl,⟨bT b _,?_,cJ _ _ _ _,j.size,Dk.O6 H.o⟩,j.aK F⟩;show kz _ _ _ _ z.i.toNat (plNew (z.c*z.r).toNat z.i.toNat);have em:z.i.toNat=m:=(by rw[d.o,nW]);rw[B,em];exact(y.o.kept F (fun _ _ h=>h)).lower K.o.size
abbrev Po:TypeId:=126
structure Lp where
 l:Nat
 D:Dp
 g:Nat
 v:Value
 p:Nat
 b:Nat
 cv:Value
abbrev wg (P:Lp):Nat→Prop:=nD P.g P.p P.b P.v
def gj (P:Lp):Nat→Prop:=fun i=>i=P.l∨dW P.D i∨wg P i
structure cq (w:World)(base:Nat)(P:Lp)(ld:Ld)(ds:Ds):Prop where
 box:w.heap[P.l]?=some (.cells #[dP P.D.d,dP P.g,qI ld.ep,P.cv,qI ld.e] Po (0,0))
 eH:bS w base P.D ld.dk
 log:j8 w base P.g P.p P.b P.v ld.lg ds
 own:aV w base P.v ld.lg.aD
 cm:aI k_ dV w base P.cv ld.cmds
 dl:∀i,dW P.D i→¬wg P i
 nl:¬dW P.D P.l∧¬wg P P.l
 nc:∀i,P.cv.ownBlock=some i→¬gj P i
 nm:¬gj P P.D.m
 bl:base≤P.l
 e0:0≤ld.ep
 e1:ld.ep≤1099511627776
 cl:ld.cmds.length≤64
section
variable {w w':World}{base:Nat}{P:Lp}{ld:Ld}{ds:Ds}{S:Nat→Prop}
theorem Ey (h:j8 w base P.g P.p P.b P.v ld.lg ds)(a:aV w base P.v ld.lg.aD):∀i,wg P i→i<w.heap.size:=by
 intro i hi;rcases hi with e|e|e|e
 ·have:=h.log.lt;omega
 ·have:=h.disk.lt;omega
 ·have:=h.disk.lt;omega
 ·exact(a.lt i e).2
theorem cq.lt (h:cq w base P ld ds):∀i,gj P i→i<w.heap.size:=by
 rintro i (e|e|e)
 ·rw[e];exact(bX.1 h.box).1
 ·exact h.eH.lt e
 ·exact Ey h.log h.own i e
theorem cq.le (h:cq w base P ld ds):∀i,gj P i→base≤i:=by
 rintro i (e|e|e)
 ·rw[e];exact h.bl
 ·exact h.eH.le e
 ·rcases e with e|e|e|e
  ·rw[e];exact h.log.log.bl
  ·rw[e];exact h.log.bp
  ·rw[e];exact h.log.bb
  ·exact(h.own.lt i e).1
theorem cq.kept (h:cq w base P ld ds)(k:ah S w w')(hS:∀i,gj P i→¬S i)(hc:∀i,P.cv.ownBlock=some i→¬S i)(hm:¬S P.D.m):cq w' base P ld ds:=
 ⟨k.heap h.box (hS _ (.inl rfl)),h.eH.kept k (fun i hi=>hS i (.inr (.inl hi))) hm,h.log.kept k (fun i hi=>hS i (.inr (.inr hi))),k.owns h.own (fun i hi=>hS i (.inr (.inr (.inr (.inr (.inr hi)))))),k.owns h.cm hc,h.dl,h.nl,h.nc,h.nm,h.bl,h.e0,h.e1,h.cl⟩
theorem cq.no (h:cq w base P ld ds)(k:ah No w w'):cq w' base P ld ds:=h.kept k (fun _ _ h=>h) (fun _ _ h=>h) (fun h=>h)
theorem cq.cells (h:cq w base P ld ds):w.cell? ⟨P.l,0,none⟩=some (dP P.D.d)∧w.cell? ⟨P.l,1,none⟩=some (dP P.g)∧w.cell? ⟨P.l,2,none⟩=some (qI ld.ep)∧w.cell? ⟨P.l,3,none⟩=some P.cv∧w.cell? ⟨P.l,4,none⟩=some (qI ld.e):=by
 refine⟨?_,?_,?_,?_,?_⟩<;> · rw[bW _ _ _ _ _ _ h.box];rfl
structure Goes (n:Nat)(P P':Lp):Prop where
 l:P'.l=P.l
 p:P'.p=P.p
 b:P'.b=P.b
 g:P'.g=P.g
 m:P'.D.m=P.D.m
 c:∀i,P'.cv.ownBlock=some i→P.cv.ownBlock=some i∨gj P i∨n≤i
def cF (w:World)(base:Nat)(P:Lp)(KP:Ld)(ds':Ds)(w':World):Prop:=∃P',cq w' base P' KP ds'∧ah (gj P) w w'∧(∀i,gj P' i→gj P i∨w.heap.size≤i)∧Goes w.heap.size P P'
theorem cF.trans {a:Lp}{JN:Ld}{JO:Ds}{w1 w2:World}(d:ah (gj P) w w1)(hn:∀i,gj a i→gj P i∨w.heap.size≤i)(hl:Goes w.heap.size P a)(h:cF w1 base a JN JO w2):cF w base P JN JO w2:=by
 obtain⟨f,j,a2,a3,a4⟩:=h;refine⟨f,j,d.trans a2 (fun i hi e=>?_),fun i hi=>?_,a4.l.trans hl.l,a4.p.trans hl.p,a4.b.trans hl.b,a4.g.trans hl.g,a4.m.trans hl.m,fun i hi=>?_⟩
 ·rcases hn i e with e|e
  ·exact e
  ·omega
 ·rcases a3 i hi with e|e
  ·exact hn i e
  ·exact .inr (aU d.size e)
 ·rcases a4.c i hi with e|e|e
  ·exact hl.c i e
  ·exact .inr (hn i e)
  ·exact .inr (.inr (aU d.size e))
theorem cq.SB (h:cq w base P ld ds){k':Dk}{D':Dp}(c:bS w' base D' k')(a2:ah (dW P.D) w w')(a3:∀i,dW D' i→dW P.D i∨w.heap.size≤i)(a4:D'.d=P.D.d)(a5:D'.m=P.D.m):
 cq w' base ⟨P.l,D',P.g,P.v,P.p,P.b,P.cv⟩ ⟨k',ld.lg,ld.ep,ld.cmds,ld.e⟩ ds∧(∀i,gj ⟨P.l,D',P.g,P.v,P.p,P.b,P.cv⟩ i→gj P i∨w.heap.size≤i):=by
 have a:∀i,wg P i→¬dW P.D i:=fun i hi e=>h.dl i e hi;refine⟨⟨?_,c,h.log.kept a2 a,a2.owns h.own (fun i hi=>a i (.inr (.inr (.inr hi)))),a2.owns h.cm (fun i hi e=>h.nc i hi (.inr (.inl e))),fun i hi e=>?_,⟨fun e=>?_,h.nl.2⟩,fun i hi e=>?_,fun e=>?_,h.bl,h.e0,h.e1,h.cl⟩,fun i hi=>?_⟩
 ·have:=a2.heap h.box h.nl.1;rw[this,a4]
 ·rcases a3 i hi with e2|e2
  ·exact h.dl i e2 e
  ·have:=Ey h.log h.own i e;omega
 ·rcases a3 _ e with e2|e2
  ·exact h.nl.1 e2
  ·have:=h.lt _ (.inl rfl);simp only at e2;omega
 ·rcases e with e|e|e
  ·exact h.nc i hi (.inl e)
  ·rcases a3 i e with e2|e2
   ·exact h.nc i hi (.inr (.inl e2))
   ·have:=(h.cm.lt i hi).2;omega
  ·exact h.nc i hi (.inr (.inr e))
 ·simp only[a5]at e;rcases e with e|e|e
  ·exact h.nm (.inl e)
  ·rcases a3 _ e with e2|e2
   ·exact h.nm (.inr (.inl e2))
   ·have:=cP h.eH.map;omega
  ·exact h.nm (.inr (.inr e))
 ·rcases hi with e|e|e
  ·exact .inl (.inl e)
  ·rcases a3 i e with e|e
   ·exact .inl (.inr (.inl e))
   ·exact .inr e
  ·exact .inl (.inr (.inr e))
theorem cq.wh (h:cq w base P ld ds){k':Dk}(hd:gT w base P.D k' w'):cF w base P ⟨k',ld.lg,ld.ep,ld.cmds,ld.e⟩ ds w':=by
 obtain⟨D',a,a2,a3,a4,a5⟩:=hd;obtain⟨b1,b⟩:=h.SB a a2 a3 a4 a5;exact⟨_,b1,a2.mono (fun i _ e=> .inr (.inl e)),b,rfl,rfl,rfl,rfl,a5,fun _ hi=> .inl hi⟩
theorem cq.boxed (h:cq w base P ld ds)(a:ah (Own P.l) w w'){cv:Value}{ep e:Int}{cs:List Cm}(hb:w'.heap[P.l]?=some (.cells #[dP P.D.d,dP P.g,qI ep,cv,qI e] Po (0,0)))
 (hc:aI k_ dV w base cv cs) (hn:∀i,cv.ownBlock=some i→¬gj P i) (h0:0≤ep) (f:ep≤1099511627776) (hl:cs.length≤64):cq w' base ⟨P.l,P.D,P.g,P.v,P.p,P.b,cv⟩ ⟨ld.dk,ld.lg,ep,cs,e⟩ ds:=by
 have hS:∀i,dW P.D i→¬Own P.l i:=fun i hi e=>h.nl.1 (by have e:i=P.l:=e;exact e▸hi);have c:∀i,wg P i→¬Own P.l i:=fun i hi e=>h.nl.2 (by have e:i=P.l:=e;exact e▸hi);exact⟨hb,h.eH.kept a hS (fun e=>h.nm (.inl e)),h.log.kept a c,a.owns h.own (fun i hi=>c i (.inr (.inr (.inr hi)))),a.owns hc (fun i hi e=>hn i hi (.inl e)),h.dl,h.nl,hn,h.nm,h.bl,h0,f,hl⟩
end
abbrev wi:TypeId:=30
section
variable {w w':World}{base:Nat}{P:Lp}{ld:Ld}{ds:Ds}{S:Nat→Prop}
theorem cq.Tg (h:cq w base P ld ds){n:Int}(h0:0≤n)(a:n≤1099511627776):cq (w.setCell ⟨P.l,2,none⟩ (qI n)) base P ⟨ld.dk,ld.lg,n,ld.cmds,ld.e⟩ ds:=
 h.boxed (bU _ _ _ _) (aB h.box _) h.cm h.nc h0 a h.cl
theorem cq.Pp (h:cq w base P ld ds){cv:Value}{cs:List Cm}(hc:aI k_ dV w base cv cs)(hn:∀i,cv.ownBlock=some i→¬gj P i)(hl:cs.length≤64):cq (w.setCell ⟨P.l,3,none⟩ cv) base ⟨P.l,P.D,P.g,P.v,P.p,P.b,cv⟩ ⟨ld.dk,ld.lg,ld.ep,cs,ld.e⟩ ds:=
 h.boxed (bU _ _ _ _) (aB h.box _) hc hn h.e0 h.e1 hl
theorem cq.SC (h:cq w base P ld ds)(e:Int):cq (w.setCell ⟨P.l,4,none⟩ (qI e)) base P ⟨ld.dk,ld.lg,ld.ep,ld.cmds,e⟩ ds:=
 h.boxed (bU _ _ _ _) (aB h.box _) h.cm h.nc h.e0 h.e1 h.cl
theorem ah.UA {l:Nat}(h:l=P.l)(k:ah (Own l) w w'):ah (gj P) w w':=k.mono (fun i _ e=> .inl (by have e:i=l:=e;rw[e,h]))
theorem cF.no (h:cq w base P ld ds)(k:ah No w w'):cF w base P ld ds w':=⟨P,h.no k,k.mono (fun _ _ h=>h.elim),fun _ hi=> .inl hi,⟨rfl,rfl,rfl,rfl,rfl,fun _ hi=> .inl hi⟩⟩
theorem cF.after {KP:Ld}{ds':Ds}{w1:World}(k:ah No w w1)(h:cF w1 base P KP ds' w'):cF w base P KP ds' w':=cF.trans (k.mono (fun _ _ h=>h.elim)) (fun _ hi=> .inl hi) ⟨rfl,rfl,rfl,rfl,rfl,fun _ hi=> .inl hi⟩ h
def l9 (w:World)(base:Nat)(P:Lp)(x:Int×Ld)(ds:Ds)(e:Ending)(w':World):Prop:=e= .returned (qI x.1)∧cF w base P x.2 ds w'
theorem Ti (h:cq w base P ld ds)(r:Lr)(v:Value)(hm:cH r=true)(g:r.k=1):Calls prog 73 #[dP P.l,oM r v] w (l9 w base P (ld.fold r) ds):=by
 obtain⟨c0,_,c2,c3,_⟩:=h.cells;have ll:P.l<w.heap.size:=h.lt _ (.inl rfl);obtain⟨E,j⟩:=ay (ld.fold r);rw[←j];have b1:(r.k==1)=true:=(by rw[g];rfl);have h0:=GF g;rw[hm]at h0;have u:=mO.1 ((mE _ _).mp h0.symm).1;have f:E=bif decide (r.n=ld.ep+1)then(0,⟨⟨ld.dk.z,iF ld.dk.pl,ld.dk.q,ld.dk.t,ld.dk.o⟩,ld.lg,r.n,ld.cmds,ld.e⟩)else(14,ld):=by
  rw[j];unfold Ld.fold;rw[aM g,bH]
 have e0:=h.e0;have e1:=h.e1;have f2:w.frozen? ⟨P.l,2,none⟩=false:=bF _ _ _ _ _ h.box;have H:=af h;have p:=af f;have s:=af u;clear h j f h0 u hm g;by_cases c:r.n=ld.ep+1
 case neg=>
  have a:aj (E=(14,ld)):=af (by rw[p.o,aJ c];rfl);have A:(r.n !=ld.ep+1)=true:=(by simpa using c);clear c;(go_enter func73,ntmps73);go_upto_region 3 with fail
  go_region
  all_goals go_wp2
  all_goals go_ret
  all_goals exact⟨by rw[a.o];rfl,by rw[a.o];exact cF.no H.o (((aA _).alloc _).drew)⟩
 have a:aj (E=(0,⟨⟨ld.dk.z,iF ld.dk.pl,ld.dk.q,ld.dk.t,ld.dk.o⟩,ld.lg,r.n,ld.cmds,ld.e⟩)):=af (by rw[p.o,aM c];rfl);have A:(r.n !=ld.ep+1)=false:=(by simpa using c);clear c;(go_enter func73,ntmps73);go_upto_region 3 with fail
 go_region
 go_upto_region 5 with fail
 refine au ?_;intro i b;have d:aj (ah No w i):=af (by rw[b];exact((aA _).alloc _).drew);have d0:=d.o.cB c0;have d2:=d.o.cB c2;have g2:i.frozen? ⟨P.l,2,none⟩=false:=bF _ _ _ _ _ (d.o.heap H.o.box (fun h=>h));have m1:i.cell? ⟨w.heap.size,1,none⟩=some (qI r.n):=(by rw[b];simp[go_sem]);have H1:=af (H.o.no d.o);have m:=af (H1.o.Tg (n:=r.n) (by have:=s.o;omega) s.o.2);have x:=af (Ce m.o.eH);clear b c0 c2 c3 f2;(go_wp2_with fail);refine x.o.mono ?_;rintro e B ⟨⟨n,rfl⟩,hp⟩;have y:=af (m.o.wh hp);clear hp;go_wp2;go_ret;exact⟨by rw[a.o];rfl,by rw[a.o];exact cF.after d.o (cF.trans (ah.UA rfl (bU _ _ _ _)) (fun _ hi=> .inl hi) ⟨rfl,rfl,rfl,rfl,rfl,fun _ hi=> .inl hi⟩ y.o)⟩
theorem Tj (h:cq w base P ld ds)(r:Lr)(v:Value)(g:r.k=2):Calls prog 73 #[dP P.l,oM r v] w (l9 w base P (ld.fold r) ds):=by
 obtain⟨c0,_,c2,c3,_⟩:=h.cells;have ll:P.l<w.heap.size:=h.lt _ (.inl rfl);obtain⟨E,u⟩:=ay (ld.fold r);rw[←u];have b1:(r.k==1)=false:=(by rw[g];rfl);have F:(r.k==2)=true:=(by rw[g];rfl);have c:E=((cU ld.dk.pl r.s r.i).1,⟨⟨ld.dk.z,(cU ld.dk.pl r.s r.i).2,ld.dk.q,ld.dk.t,ld.dk.o⟩,ld.lg,ld.ep,ld.cmds,ld.e⟩):=by
  rw[u];unfold Ld.fold;rw[g];rfl
 have H:=af h;have n:=af c;clear h u c g;(go_enter func73,ntmps73);go_upto_region 9 with fail
 refine au ?_;intro b a;have p:aj (ah No w b):=af (by rw[a];exact(aA _).alloc _);have d0:=p.o.cB c0;have m2:b.cell? ⟨w.heap.size,2,none⟩=some (qI r.s):=(by rw[a];simp[go_sem]);have m3:b.cell? ⟨w.heap.size,3,none⟩=some (qI r.i):=(by rw[a];simp[go_sem]);have H1:=af (H.o.no p.o.drew);have x:=af (y9 H1.o.eH r.s r.i);have nl:aj (¬dW P.D P.l):=af H.o.nl.1;have nb:aj (¬dW P.D w.heap.size):=af (fun e=>by have:=H.o.eH.lt e;omega);have A:aj (ah No w b.drew):=af p.o.drew;clear a c0 c2 c3;obtain⟨X,y⟩:=ay (cU ld.dk.pl r.s r.i);rw[←y]at x n;clear y
 go_region_held3 (fun w'=>w'.cell? ⟨P.l,0,none⟩=some (dP P.D.d)∧w'.cell? ⟨w.heap.size,2,none⟩=some (qI r.s)∧w'.cell? ⟨w.heap.size,3,none⟩=some (qI r.i))
  (first|exact⟨d0,m2,m3⟩|assumption)
  (first
    |(go_at_call 150
      have hc:=x.o
      with_reducible refine hc.mono ?_
      clear hc;rintro e m ⟨rfl,hp⟩;have B:=af (cF.after A.o (H1.o.wh hp));obtain⟨_,_,f,_,_,_⟩:=hp;have j:ah (dW P.D) b m:=((aA (S:=No) b).drew.mono (fun _ _ h=>h.elim)).aK f;have C:m.cell? ⟨P.l,0,none⟩=some (dP P.D.d)∧m.cell? ⟨w.heap.size,2,none⟩=some (qI r.s)∧m.cell? ⟨w.heap.size,3,none⟩=some (qI r.i):=⟨j.cell d0 nl.o,j.cell m2 nb.o,j.cell m3 nb.o⟩;clear f j))
 all_goals go_wp2
 all_goals go_ret
 all_goals exact⟨by rw[n.o];rfl,by rw[n.o];exact B.o⟩
theorem Tk (h:cq w base P ld ds)(r:Lr)(v:Value)(g:r.k=3):Calls prog 73 #[dP P.l,oM r v] w (l9 w base P (ld.fold r) ds):=by
 obtain⟨c0,_,c2,c3,_⟩:=h.cells;have ll:P.l<w.heap.size:=h.lt _ (.inl rfl);obtain⟨E,n⟩:=ay (ld.fold r);rw[←n];have b1:(r.k==1)=false:=(by rw[g];rfl);have z:(r.k==2)=false:=(by rw[g];rfl);have A:(r.k==3)=true:=(by rw[g];rfl);have f:E=((jL ld.dk r.c).1,⟨(jL ld.dk r.c).2,ld.lg,ld.ep,ld.cmds,ld.e⟩):=by
  rw[n];unfold Ld.fold;rw[g];rfl
 have H:=af h;have j:=af f;clear h n f g;(go_enter func73,ntmps73);go_upto_region 11 with fail
 refine au ?_;intro b a;have m:aj (ah No w b):=af (by rw[a];exact(aA _).alloc _);have d0:=m.o.cB c0;have m4:ai b w.heap.size 4 16=some (ct r.c):=(by rw[a];simp[go_sem]);have H1:=af (H.o.no m.o.drew);have s:=af (Cj H1.o.eH r.c);have nl:aj (¬dW P.D P.l):=af H.o.nl.1;have nb:aj (¬dW P.D w.heap.size):=af (fun e=>by have:=H.o.eH.lt e;omega);have u:aj (ah No w b.drew):=af m.o.drew;clear a c0 c2 c3;obtain⟨X,t⟩:=ay (jL ld.dk r.c);rw[←t]at s j;clear t
 go_region_held3 (fun w'=>w'.cell? ⟨P.l,0,none⟩=some (dP P.D.d)∧ai w' w.heap.size 4 16=some (ct r.c))
  (first|exact⟨d0,m4⟩|assumption)
  (first
    |(go_at_call 151
      have hc:=s.o
      with_reducible refine hc.mono ?_
      clear hc;rintro e q ⟨rfl,hp⟩;have x:=af (cF.after u.o (H1.o.wh hp));obtain⟨_,_,i,_,_,_⟩:=hp;have p:ah (dW P.D) b q:=((aA (S:=No) b).drew.mono (fun _ _ h=>h.elim)).aK i;have y:q.cell? ⟨P.l,0,none⟩=some (dP P.D.d)∧ai q w.heap.size 4 16=some (ct r.c):=⟨p.cell d0 nl.o,cK p m4 nb.o⟩;clear i p))
 all_goals go_wp2
 all_goals go_ret
 all_goals exact⟨by rw[j.o];rfl,by rw[j.o];exact x.o⟩
theorem Df (k:Dk)(h:k.ok):(jk k).2.1.length≤64:=by
 have:=h.few;unfold jk;cases k.o||decide (1099511627776≤k.t)
 ·exact this
 ·exact aX _
theorem Tm (h:cq w base P ld ds)(r:Lr)(v:Value)(a:r.k=4):Calls prog 73 #[dP P.l,oM r v] w (l9 w base P (ld.fold r) ds):=by
 obtain⟨c0,_,c2,c3,_⟩:=h.cells;have ll:P.l<w.heap.size:=h.lt _ (.inl rfl);obtain⟨E,s⟩:=ay (ld.fold r);rw[←s];have b1:(r.k==1)=false:=(by rw[a];rfl);have q:(r.k==2)=false:=(by rw[a];rfl);have J:(r.k==3)=false:=(by rw[a];rfl);have K:(r.k==4)=true:=(by rw[a];rfl);have c:E=((jk ld.dk).2.2.1,⟨(jk ld.dk).2.2.2,ld.lg,ld.ep,(jk ld.dk).2.1,ld.e⟩):=by
  rw[s];unfold Ld.fold;rw[a];rfl
 have hlen:=Df ld.dk h.eH.ok;have H:=af h;have f:=af c;have x:=af hlen;clear h s c a hlen;(go_enter func73,ntmps73);go_upto_region 13 with fail
 refine au ?_;intro G d;have j:aj (ah No w G):=af (by rw[d];exact(aA _).alloc _);have d0:=j.o.cB c0;have H1:=af (H.o.no j.o);have u:=af (Eu H1.o.eH);obtain⟨X,A⟩:=ay (jk ld.dk);rw[←A]at u f x;clear A d c0 c2;(go_wp2_with fail);refine u.o.mono ?_;rintro e D ⟨D',cv,rfl,z,m,n,a2,a3,a4,a5⟩;obtain⟨B,C,t⟩:=aq m;subst t;obtain⟨b1,q⟩:=H1.o.SB z a2 a3 a4 a5;have hn:∀i,(Value.slice B X.2.1.length C).ownBlock=some i→¬gj ⟨P.l,D',P.g,P.v,P.p,P.b,P.cv⟩ i:=by
  intro i hi e;obtain⟨n1,I⟩:=n i hi;rcases e with e|e|e
  ·have e:i=P.l:=e;exact H1.o.nl.1 (e▸n1)
  ·exact I e
  ·exact H1.o.dl i n1 e
 have B2:=b1.Pp m hn x.o;have F:aj (cF w base P ⟨X.2.2.2,ld.lg,ld.ep,X.2.1,ld.e⟩ ds (D.setCell ⟨P.l,3,none⟩ (.slice B X.2.1.length C))):=af
  ⟨_,B2,((j.o.mono (fun _ _ h=>h.elim)).aK (a2.mono (fun i _ e=> .inr (.inl e)))).aK (ah.UA rfl (bU _ _ _ _)),fun i hi=>by
    rcases q i hi with e|e
    ·exact .inl e
    ·exact .inr (aU j.o.size e),rfl,rfl,rfl,rfl,a5,fun i hi=> .inr (.inl (.inr (.inl (n i hi).1)))⟩
 have g3:D.frozen? ⟨P.l,3,none⟩=false:=bF _ _ _ _ _ b1.box;have d3:=b1.cells.2.2.2.1;simp only at d3;have y:aj (E.1=X.2.2.1∧E.2=⟨X.2.2.2,ld.lg,ld.ep,X.2.1,ld.e⟩):=af ⟨by rw[f.o],by rw[f.o]⟩;clear z a2 a3 a4 a5 m n b1 q hn B2 f;go_wp2;go_ret;exact⟨by rw[y.o.1];rfl,by rw[y.o.2];exact F.o⟩
theorem Tn (h:cq w base P ld ds)(r:Lr)(v:Value)(hv:aW bN w v r.ids)(hm:cH r=true)(hd:∀i,v.ownBlock=some i→¬gj P i)(b:r.k=5):Calls prog 73 #[dP P.l,oM r v] w (l9 w base P (ld.fold r) ds):=by
 obtain⟨c0,_,c2,c3,_⟩:=h.cells;have ll:P.l<w.heap.size:=h.lt _ (.inl rfl);obtain⟨E,s⟩:=ay (ld.fold r);rw[←s];have b1:(r.k==1)=false:=(by rw[b];rfl);have L:(r.k==2)=false:=(by rw[b];rfl);have M:(r.k==3)=false:=(by rw[b];rfl);have N:(r.k==4)=false:=(by rw[b];rfl);have g:E=((jM ld.dk r.ids).2.1,⟨(jM ld.dk r.ids).2.2,ld.lg,ld.ep,[],ld.e⟩):=by
  rw[s];unfold Ld.fold;rw[b];rfl
 have hl:=(iH hm).2.2 b;have H:=af h;have q:=af g;have C:=af hl;have F:=af hv;have B:=af hd;clear h s g b hl hv hd hm;(go_enter func73,ntmps73);go_upto_region 16 with fail
 refine au ?_;intro f a;have m:aj (ah No w f):=af (by rw[a];exact(aA _).alloc _);have d0:=m.o.cB c0;have m20:f.cell? ⟨w.heap.size,20,none⟩=some v:=(by rw[a];simp[go_sem]);have H1:=af (H.o.no m.o.drew);have x:=af (Ci H1.o.eH v r.ids (F.o.kept m.o.drew (fun _ _ h=>h)) (by have:=C.o;omega) (fun i hi e=>B.o i hi (.inr (.inl e))));have nl:aj (¬dW P.D P.l):=af H.o.nl.1;have nb:aj (¬dW P.D w.heap.size):=af (fun e=>by have:=H.o.eH.lt e;omega);have G:aj (ah No w f.drew):=af m.o.drew;clear a c0 c2 c3;obtain⟨X,y⟩:=ay (jM ld.dk r.ids);rw[←y]at x q;clear y
 go_region_held3 (fun w'=>w'.cell? ⟨P.l,0,none⟩=some (dP P.D.d)∧w'.cell? ⟨w.heap.size,20,none⟩=some v)
  (first|exact⟨d0,m20⟩|assumption)
  (first
    |(go_at_call 153
      have hc:=x.o
      with_reducible refine hc.mono ?_
      clear hc;rintro e c ⟨rfl,hp⟩;obtain⟨I,n,z,A,u⟩:=H1.o.wh hp;have p:=u.l;obtain⟨_,_,j,_,_,_⟩:=hp;have t:ah (dW P.D) f c:=((aA (S:=No) f).drew.mono (fun _ _ h=>h.elim)).aK j;have K:c.cell? ⟨P.l,0,none⟩=some (dP P.D.d)∧c.cell? ⟨w.heap.size,20,none⟩=some v:=⟨t.cell d0 nl.o,t.cell m20 nb.o⟩;have J:aj (cF w base P ⟨X.2.2,ld.lg,ld.ep,[],ld.e⟩ ds (c.setCell ⟨P.l,3,none⟩ (.slice none 0 0))):=af (cF.after G.o (cF.trans z A u (by
       rw[←p];exact⟨_,n.Pp (cJ _ _ _ _) (fun i hi=>by cases hi) (aX _),ah.UA rfl (bU _ _ _ _),fun i hi=> .inl hi,rfl,rfl,rfl,rfl,rfl,fun i hi=>by cases hi⟩)))
      have g3:c.frozen? ⟨P.l,3,none⟩=false:=bF _ _ _ _ _ (by rw[←p];exact n.box);have d3:c.cell? ⟨P.l,3,none⟩=some I.cv:=(by rw[←p];exact n.cells.2.2.2.1);clear j t n z A p u))
 all_goals go_wp2
 all_goals go_ret
 all_goals exact⟨by rw[q.o];rfl,by rw[q.o];exact J.o⟩
theorem yJ (h:cq w base P ld ds)(r:Lr)(v:Value)(hv:aW bN w v r.ids)(hm:cH r=true)(hd:∀i,v.ownBlock=some i→¬gj P i):Calls prog 73 #[dP P.l,oM r v] w (l9 w base P (ld.fold r) ds):=by
 rcases sH hm with e|e|e|e|e
 ·exact Ti h r v hm e
 ·exact Tj h r v e
 ·exact Tk h r v e
 ·exact Tm h r v e
 ·exact Tn h r v hv hm hd e
end
abbrev Tp:TypeId:=23
section
variable {w w':World}{base:Nat}{P:Lp}{ld:Ld}{ds:Ds}
theorem tM (h:cq w base P ld ds):Calls prog 75 #[dP P.l] w (qW w (qI ld.e)):=by
 have c4:=h.cells.2.2.2.2;clear h;(go_enter func75,ntmps75);go_wp2;go_ret;exact⟨rfl,rfl⟩
theorem Cp (h:cq w base P ld ds):Calls prog 38 #[dP P.l] w (qW w (qI ld.e)):=by
 have C:=af (tM h);clear h;(go_enter func38,ntmps38);(go_wp2_with fail);refine C.o.mono ?_;rintro e w1 ⟨rfl,rfl⟩;go_wp2;go_ret;exact⟨rfl,rfl⟩
theorem wj (h:cq w base P ld ds):Calls prog 25 #[dP P.l] w (qW w (qI ld.ep)):=by
 have c2:=h.cells.2.2.1;clear h;(go_enter func25,ntmps25);go_wp2;go_ret;exact⟨rfl,rfl⟩
theorem GX (h:cq w base P ld ds):Calls prog 37 #[dP P.l] w (qG w (.tuple #[qI ld.dk.t,.bool ld.dk.o])):=by
 have c0:=h.cells.1;have C:=af (Es h.eH);clear h;(go_enter func37,ntmps37);(go_wp2_with fail);refine C.o.mono ?_;rintro e w1 ⟨rfl,a⟩;have K:=af a;clear a;go_wp2
 go_ret2
 exact⟨rfl,K.o⟩
theorem yK (h:cq w base P ld ds):Calls prog 39 #[dP P.l] w fun e w'=>∃v,e= .returned v∧aI k_ dV w' w.heap.size v ld.cmds∧ah No w w':=by
 have c3:=h.cells.2.2.2.1;have hc:=h.cm;obtain⟨f,g,d⟩:=aq hc;rw[d]at c3 hc;have C:=af (KL w (.slice f ld.cmds.length g) ld.cmds hc.Bk (by have:=h.cl;omega));clear h hc d;(go_enter func39,ntmps39);(go_wp2_with fail);refine C.o.mono ?_;rintro e w1 ⟨v,rfl,c,b⟩;have a:=af (And.intro c b);clear c b;go_wp2;go_ret;exact⟨v,rfl,a.o.1,a.o.2⟩
theorem rW (h:cq w base P ld ds):Calls prog 40 #[dP P.l] w fun e w'=>∃v,e= .returned v∧aI k_ dV w' w.heap.size v ld.dk.q∧ah No w w':=by
 have c0:=h.cells.1;have C:=af (za h.eH);clear h;(go_enter func40,ntmps40);(go_wp2_with fail);refine C.o.mono ?_;rintro e w1 ⟨v,rfl,c,b⟩;have a:=af (And.intro c b);clear c b;go_wp2;go_ret;exact⟨v,rfl,a.o.1,a.o.2⟩
theorem Ez (h:cq w base P ld ds):Calls prog 41 #[dP P.l] w fun e w'=>∃v,e= .returned v∧aI bN Tp w' w.heap.size v (mK ld.dk.pl)∧ah No w w':=by
 have c0:=h.cells.1;have C:=af (Cg h.eH);clear h;(go_enter func41,ntmps41);(go_wp2_with fail);refine C.o.mono ?_;rintro e w1 ⟨v,rfl,c,b⟩;have a:=af (And.intro c b);clear c b;go_wp2;go_ret;exact⟨v,rfl,a.o.1,a.o.2⟩
end
structure Rc where
 r:Lr
 a:Option Addr
 n:Nat
 c:Nat
abbrev Rc.v (x:Rc):Value:= .slice x.a x.n x.c
def gu:dX Rc where
 cells x:=fS x.r x.v
 size:=21
 len _:=rfl
 one x u hu:=by
  simp only[List.mem_cons,List.not_mem_nil,or_false]at hu;rcases hu with rfl|rfl|rfl|rfl|rfl|rfl|rfl|rfl|rfl|rfl|rfl|rfl|rfl|rfl|rfl|rfl|rfl|rfl|rfl|rfl|rfl<;>rfl
 pos:=by decide
structure xJ (w:World)(B:Nat→Prop)(av:Value)(xs:List Rc):Prop where
 rd:aW gu w av xs
 off:∀i,av.ownBlock=some i→i<w.heap.size∧¬B i
 one:∀x∈xs,aW bN w x.v x.r.ids∧cH x.r=true∧∀i,x.v.ownBlock=some i→i<w.heap.size∧¬B i
theorem xJ.kept {w w':World}{B:Nat→Prop}{av:Value}{xs:List Rc}(h:xJ w B av xs)(k:ah B w w'):xJ w' B av xs:=
 ⟨h.rd.kept k (fun i hi=>(h.off i hi).2),fun i hi=>⟨eU (h.off i hi).1 k.size,(h.off i hi).2⟩,fun x d=>by
   obtain⟨a,b,c⟩:=h.one x d;exact⟨a.kept k (fun i hi=>(c i hi).2),b,fun i hi=>⟨eU (c i hi).1 k.size,(c i hi).2⟩⟩⟩
section
variable {l:Ld}{d:Ds}{rs:List Lr}{e:Int}{g:Lg}{d1:Ds}
theorem Ld.JQ (h:l.lg.append d (gS rs)=(e,g,d1))(he:¬e=0):l.lay d rs=(e,g,d1):=by
 unfold Ld.lay;rw[h,aJ he,aN]
theorem Ld.EA (h:l.lg.append d (gS rs)=(0,g,d1)):l.lay d rs=((g.sync d1).1,g,(g.sync d1).2):=by
 unfold Ld.lay;rw[h];rfl
theorem Ld.rX (h:l.lay d rs=(e,g,d1))(he:¬e=0):l.write d rs=(e,⟨l.dk,g,l.ep,l.cmds,e⟩,d1):=by
 unfold Ld.write;rw[h,aJ he,aN]
theorem Ld.wk (h:l.lay d rs=(0,g,d1)):l.write d rs=(0,Ld.run ⟨l.dk,g,l.ep,l.cmds,0⟩ rs,d1):=by
 unfold Ld.write;rw[h];rfl
theorem Ld.GY (l:Ld)(rs:List Lr)(r:Lr):l.run (rs++ [r])=((l.run rs).fold r).2:=by
 unfold Ld.run;rw[xT];rfl
end
section
variable {w w':World}{base:Nat}{P:Lp}{ld:Ld}{ds:Ds}
theorem cq.logged (h:cq w base P ld ds){v1:Value}{g1:Lg}{d1:Ds}(hW:j8 w' base P.g P.p P.b v1 g1 d1)(d:aV w' base v1 g1.aD)(c:o6 w P.v v1)(hK:ah (wg P) w w'):
 cq w' base ⟨P.l,P.D,P.g,v1,P.p,P.b,P.cv⟩ ⟨ld.dk,g1,ld.ep,ld.cmds,ld.e⟩ d1∧(∀i,gj ⟨P.l,P.D,P.g,v1,P.p,P.b,P.cv⟩ i→gj P i∨w.heap.size≤i):=by
 have a:∀i,wg ⟨P.l,P.D,P.g,v1,P.p,P.b,P.cv⟩ i→wg P i∨w.heap.size≤i:=by
  intro i hi;rcases hi with e|e|e|e
  ·exact .inl (.inl e)
  ·exact .inl (.inr (.inl e))
  ·exact .inl (.inr (.inr (.inl e)))
  ·rcases c i e with e|e
   ·exact .inl (.inr (.inr (.inr e)))
   ·exact .inr e
 refine⟨⟨hK.heap h.box h.nl.2,h.eH.kept hK (fun i hi=>h.dl i hi) (fun e=>h.nm (.inr (.inr e))),hW,d,hK.owns h.cm (fun i hi e=>h.nc i hi (.inr (.inr e))),fun i hi e=>?_,⟨h.nl.1,fun e=>?_⟩,fun i hi e=>?_,fun e=>?_,h.bl,h.e0,h.e1,h.cl⟩,fun i hi=>?_⟩
 ·rcases a i e with e|e
  ·exact h.dl i hi e
  ·have:=h.eH.lt hi;omega
 ·rcases a _ e with e|e
  ·exact h.nl.2 e
  ·have:=h.lt _ (.inl rfl);simp only at e;omega
 ·rcases e with e|e|e
  ·exact h.nc i hi (.inl e)
  ·exact h.nc i hi (.inr (.inl e))
  ·rcases a i e with e|e
   ·exact h.nc i hi (.inr (.inr e))
   ·have:=(h.cm.lt i hi).2;omega
 ·rcases e with e|e|e
  ·exact h.nm (.inl e)
  ·exact h.nm (.inr (.inl e))
  ·rcases a _ e with e|e
   ·exact h.nm (.inr (.inr e))
   ·have:=cP h.eH.map;simp only at e;omega
 ·rcases hi with e|e|e
  ·exact .inl (.inl e)
  ·exact .inl (.inr (.inl e))
  ·rcases a i e with e|e
   ·exact .inl (.inr (.inr e))
   ·exact .inr e
theorem cq.mz (h:cq w base P ld ds){d1:Ds}(hW:j8 w' base P.g P.p P.b P.v ld.lg d1)(hK:ah (Two P.p P.b) w w'):cq w' base P ld d1:=
 (h.logged hW (hK.owns h.own (fun i hi e=>by rcases e with e|e;exact h.log.vp (e▸hi);exact h.log.vb (e▸hi))) (fun i hi=> .inl hi) (sB hK)).1
theorem Laid.led (a:Laid w base)(h:cq w base P ld ds)(k:ah (gj P) w w'):Laid w' base:=a.kept k h.le
def iA (x:Rc):ByteArray:=bB (dQ x.r).1
theorem wm (xs:List Rc):gS (xs.map Rc.r)=xs.map iA:=by
 unfold gS;rw[nY];rfl
def pI (w:World)(base:Nat)(P:Lp)(x:Int×Ld×Ds)(e:Ending)(w':World):Prop:=e= .returned (qI x.1)∧cF w base P x.2.1 x.2.2 w'
theorem qu (ct:Laid w base)(hb:base≤w.heap.size)(h:cq w base P ld ds)(av:Value)(xs:List Rc)(B:xJ w (gj P) av xs)(cI:xs.length≤1000)
 (aN:ld.lg.next+xs.length≤1000000000000) (aJ:ld.lg.aD.length+xs.length≤1000000):Calls prog 74 #[dP P.l,av] w (pI w base P (ld.write ds (xs.map Rc.r))):=by
 obtain⟨i0,hi,bP,bQ,bR⟩:=fR Tryz.mN;obtain⟨va,vc,rfl⟩:=aW.slice B.rd;obtain⟨_,c1,_,_,c4⟩:=h.cells;have ll:P.l<w.heap.size:=h.lt _ (.inl rfl);have hlen:(xs.length:Int)≤1000:=(by omega);obtain⟨E,bN⟩:=ay (ld.write ds (xs.map Rc.r));rw[←bN];have H:=af h;have bZ:=af ct;have cA:=af hb;have aS:=af B;have aQ:=af bN;have bD:=af aN;have bC:=af aJ;clear h ct hb B bN aN aJ;(go_enter func74,ntmps74);go_wp2
 go_loopw [5,14] (fun o q wr=>∃k:Nat,k≤xs.length∧q=qI k∧wr.ownsRow w.heap.size 9 1 o k ((xs.take k).map fun x=> .string (iA x))∧ah No w wr) (fun _ q _=>xs.length-(intOf q).toNat)
 case atStart=>exact⟨0,aX _,rfl,cJ _ _ _ _,aA _⟩
 case round=>
  obtain⟨k,cE,rfl,c,hK⟩:=hrel;have cH:(0:Int)≤(k:Int):=(by omega);obtain⟨bS,oc,rfl⟩:=aq c;have bq:=af c;have V:=af hK;by_cases a:k<xs.length
  ·have z:(k:Int)<(xs.length:Int):=(by omega);have M:aW gu wr (.slice va xs.length vc) xs:=aS.o.rd.kept hK (fun _ _ h=>h);obtain⟨g,off,rfl,_,_,lg⟩:=aW.addr gu M (by omega);have aC:ai wr g (off+k*21) 21=some (fS xs[k].r xs[k].v):=aW.at gu M k a;obtain⟨O,Q,aP⟩:=aS.o.one xs[k] (dw a);have f:xs.take (k+1)=xs.take k++ [xs[k]]:=iK a;obtain⟨x,B⟩:=ay (xs[k]);rw[←B]at aC O Q aP f;have bu:=af f;have bB:=af (O.kept hK (fun _ _ h=>h));have b_:=af Q;clear c hK M O Q aP f B;go_upto_region 5 with fail
   refine au ?_;intro W hW;have bH:aj (ah No w W):=af (V.o.aK (by rw[hW];exact(aA _).alloc _));have X:aj (W.ownsRow w.heap.size 9 1 (.slice bS k oc) k ((xs.take k).map fun x=> .string (iA x))):=af (by rw[hW];exact((aA (S:=No) wr).alloc _).mM bq.o);have b0:ai W wr.heap.size 0 21=some (fS x.r x.v):=(by rw[hW];simp[go_sem]);have CE:aj (Calls prog 10 #[oM x.r x.v] W (qG W ((.tuple #[.string (iA x),qI (dQ x.r).2])))):=af (ux W x.r x.v (bB.o.kept (by rw[hW];exact(aA (S:=No) wr).alloc _) (fun _ _ h=>h)));have N:w.heap.size≤wr.heap.size:=V.o.size;clear hW aC bq V;(go_wp2_with fail);refine CE.o.mono ?_;rintro e w1 ⟨rfl,A⟩;have Z:=af (bH.o.aK A);have Y:=af (A.mM X.o);obtain⟨T,bO⟩:=ay (iA x);rw[←bO];have bA:=af bO;clear A b0 CE X bO;(go_wp2_with (at_builtin;refine xU _ rfl _ _ 67 rfl w.heap.size 9 i0 (.string ⟨#[]⟩) 1 16 underlying67 hi bP bQ bR rfl (by decide) _ _ _ rfl (Y.o.alloc _) ⟨w1.heap.size,0,none⟩ 1 1 [.string T] rfl rfl (oF _ _ _) (by simp[Value.oneCell']) (by unfold maxLen;omega) (by omega) (by have:=Z.o.size;simp;omega) ?_;intro v' w2 s aM _));have bE:=af s;have R:aj (ah No w w2):=af ((Z.o.alloc _).grown aM (fun i hi a=>absurd a (bY.2 (Y.o.lt i hi).1)));clear s aM;go_wp2;go_roundw
   case rel=>
    refine⟨k+1,by omega,by go_num,?_,R.o⟩;have h:=bE.o;rw[bu.o,fI,wR, ←bA.o];exact h
   case measure=>simp[intOf];omega
  ·have aL:k=xs.length:=(by omega);have z:¬((k:Int)<(xs.length:Int)):=(by omega);subst aL;have N:w.heap.size≤wr.heap.size:=hK.size;have d1:=hK.cB c1;have aR:=af (H.o.no hK);have aO:jg wr (.slice bS xs.length oc) (xs.map iA):=by
    have h:=Reads.fu c (by intro u hu;obtain⟨t,_,rfl⟩:=jq.1 hu;rfl);unfold jg;rw[eE,nY];rw[jH]at h;exact h
   obtain⟨⟨e1,g1,s1⟩,hA⟩:∃x,ld.lg.append ds (gS (xs.map Rc.r))=x:=⟨_,rfl⟩;have bk:=af hA;have bV:=af (tq (bZ.o.kept hK (fun _ h=>h.elim)) (aU cA.o N) aR.o.log aR.o.own (.slice bS xs.length oc) (xs.map iA) aO (fun i hi e=>by have I:=(c.lt i hi).1;have aE:=Ey H.o.log H.o.own i e;omega)
    (by rw[eE];exact bD.o) (by rw[eE];exact bC.o) e1 g1 s1 (by rw[←wm];exact hA))
   clear c hK aO hA;(go_wp2_with fail);refine bV.o.mono ?_;rintro e w1 ⟨rfl,v1,j,aH,aG,J⟩;obtain⟨bg,z2⟩:=aR.o.logged j aH aG J;have cr:=af bg;have aY:aj (∀i,gj ⟨P.l,P.D,P.g,v1,P.p,P.b,P.cv⟩ i→gj P i∨w.heap.size≤i):=af (fun i hi=>(z2 i hi).imp id (aU N));have Z:aj (ah (gj P) w w1):=af ((V.o.mono (fun _ _ h=>h.elim)).trans J (fun i _ e=> .inr (.inr e)));have a4:=(bg.cells).2.2.2.2;have f4:w1.frozen? ⟨P.l,4,none⟩=false:=bF _ _ _ _ _ bg.box;simp only at a4;clear j aH aG J bg z2 bV aR bq V;go_upto_region 9 with fail
   refine au ?_;intro aB j;have F:aj (cq aB base ⟨P.l,P.D,P.g,v1,P.p,P.b,P.cv⟩ ⟨ld.dk,g1,ld.ep,ld.cmds,e1⟩ s1):=af (by rw[j];exact cr.o.SC e1);have R:aj (ah (gj P) w aB):=af (Z.o.aK (by rw[j];exact ah.UA rfl (bU _ _ _ _)));have G:aB.cell? ⟨P.l,4,none⟩=some (qI e1):=F.o.cells.2.2.2.2;have bJ:aB.cell? ⟨P.l,1,none⟩=some (dP P.g):=F.o.cells.2.1;have bL:aB.frozen? ⟨P.l,4,none⟩=false:=bF _ _ _ _ _ F.o.box;clear j a4 f4 cr Z d1;by_cases I:e1=0
   case neg=>
    have d:aj (E=(e1,⟨ld.dk,g1,ld.ep,ld.cmds,e1⟩,s1)):=af (by rw[aQ.o];exact Ld.rX (Ld.JQ bk.o I) I);have b1:(e1==0)=false:=(by simpa using I);have cD:(e1 !=0)=true:=(by simpa using I);clear I;go_wp2;go_ret;exact⟨by rw[d.o];rfl,by rw[d.o];exact⟨_,F.o,R.o,aY.o,⟨rfl,rfl,rfl,rfl,rfl,fun _ hi=> .inl hi⟩⟩⟩
   subst I;obtain⟨⟨e2,s2⟩,hS⟩:∃x,g1.sync s1=x:=⟨_,rfl⟩;have cg:=af hS;have bX:=af (ye (bZ.o.led H.o R.o) F.o.log e2 s2 hS);clear hS;(go_wp2_with fail);refine bX.o.mono ?_;rintro e bT ⟨rfl,aI,K⟩;have aV:=af (F.o.mz aI K);have cn:aj (ah (gj P) w bT):=af (R.o.trans K (fun i _ e=>by rcases e with e|e;exact .inr (.inr (.inr (.inl e)));exact .inr (.inr (.inr (.inr (.inl e))))))
   have bK:bT.cell? ⟨P.l,4,none⟩=some (qI 0):=aV.o.cells.2.2.2.2;have bM:bT.frozen? ⟨P.l,4,none⟩=false:=bF _ _ _ _ _ aV.o.box;clear aI K bX bJ G bL;go_upto_region 11 with fail
   refine au ?_;intro aZ L;have ak:aj (cq aZ base ⟨P.l,P.D,P.g,v1,P.p,P.b,P.cv⟩ ⟨ld.dk,g1,ld.ep,ld.cmds,e2⟩ s2):=af (by rw[L];exact aV.o.SC e2);have bG:aj (ah (gj P) w aZ):=af (cn.o.aK (by rw[L];exact ah.UA rfl (bU _ _ _ _)));have G:aZ.cell? ⟨P.l,4,none⟩=some (qI e2):=ak.o.cells.2.2.2.2;clear L bK bM aV cn F R;have C:aj (ld.lay ds (xs.map Rc.r)=(e2,g1,s2)):=af (by rw[Ld.EA bk.o,cg.o]);by_cases aE:e2=0
   case neg=>
    have d:aj (E=(e2,⟨ld.dk,g1,ld.ep,ld.cmds,e2⟩,s2)):=af (by rw[aQ.o];exact Ld.rX C.o aE);have cD:(e2 !=0)=true:=(by simpa using aE);clear aE;go_wp2;go_ret;exact⟨by rw[d.o];rfl,by rw[d.o];exact⟨_,ak.o,bG.o,aY.o,⟨rfl,rfl,rfl,rfl,rfl,fun _ hi=> .inl hi⟩⟩⟩
   subst aE;have d:aj (E=(0,Ld.run ⟨ld.dk,g1,ld.ep,ld.cmds,0⟩ (xs.map Rc.r),s2)):=af (by rw[aQ.o];exact Ld.wk C.o);obtain⟨aT,aF⟩:=ay ((⟨ld.dk,g1,ld.ep,ld.cmds,0⟩:Ld));rw[←aF]at d ak;have cC:aj (cF w base P aT s2 aZ):=af ⟨_,ak.o,bG.o,aY.o,⟨rfl,rfl,rfl,rfl,rfl,fun _ hi=> .inl hi⟩⟩;clear aF ak bG aY C cg bk aQ z;go_wp2_with fail
   go_loopw [61] (fun q wr=>∃k:Nat,k≤xs.length∧q=qI k∧cF w base P (aT.run ((xs.map Rc.r).take k)) s2 wr) (fun q _=>xs.length-(intOf q).toNat)
   case atStart=>exact⟨0,aX _,rfl,cC.o⟩
   case round=>
    obtain⟨k,cE,rfl,P',n,hK',m,pg⟩:=hrel;have A:(0:Int)≤(k:Int):=(by omega);by_cases a:k<xs.length
    ·have z:(k:Int)<(xs.length:Int):=(by omega);have y:=aS.o.kept hK';obtain⟨g,off,rfl,_,_,lg⟩:=aW.addr gu y.rd (by omega);have aC:ai wr g (off+k*21) 21=some (fS xs[k].r xs[k].v):=aW.at gu y.rd k a;obtain⟨O,Q,aP⟩:=y.one xs[k] (dw a);have bf:=(aS.o.one xs[k] (dw a)).2.2;have f:(xs.map Rc.r).take (k+1)=(xs.map Rc.r).take k++ [xs[k].r]:=by
      rw[iK (by rw[eE];exact a),List.getElem_map]
     obtain⟨x,B⟩:=ay (xs[k]);rw[←B]at aC O Q aP bf f;have bu:=af f;have bB:=af O;have b_:=af Q;have cu:aj (∀i,x.v.ownBlock=some i→¬gj P' i):=af (fun i hi e=>by
      rcases m i e with e|e
      ·exact(bf i hi).2 e
      ·have:=(bf i hi).1;omega)
     have cw:=af n;have bn:=af hK';have bp:=af m;have U:=af pg;clear y O Q aP bf f B n hK' m pg G a;go_upto_region 16 with fail
     refine au ?_;intro W hW;have kw:ah No wr W:=(by rw[hW];exact(aA _).alloc _);have b0:ai W wr.heap.size 0 21=some (fS x.r x.v):=(by rw[hW];simp[go_sem]);have bW:aj (Calls prog 73 #[dP P.l,oM x.r x.v] W (l9 W base P' ((aT.run ((xs.map Rc.r).take k)).fold x.r) s2)):=af (by
      rw[←U.o.l];exact yJ (cw.o.no kw) x.r x.v (bB.o.kept kw (fun _ _ h=>h)) b_.o cu.o)
     have bH:aj (ah (gj P) w W):=af (bn.o.mS kw);clear hW kw aC;(go_wp2_with fail);refine bW.o.mono ?_;rintro e cK ⟨rfl,hp⟩;have bI:aj (cF w base P (aT.run ((xs.map Rc.r).take (k+1))) s2 cK):=af (by
      rw[bu.o,Ld.GY];exact cF.trans bH.o bp.o U.o hp)
     clear hp b0 bW;go_wp2;go_roundw
     case rel=>exact⟨k+1,by omega,by go_num,bI.o⟩
     case measure=>simp[intOf];omega
    ·have aL:k=xs.length:=(by omega);have z:¬((k:Int)<(xs.length:Int)):=(by omega);have bI:aj (cF w base P E.2.1 E.2.2 wr):=af (by
      rw[d.o];rw[fA (by rw[eE];omega)]at n;exact⟨P',n,hK',m,pg⟩)
     clear n hK' m pg;go_wp2;go_ret;exact⟨by rw[d.o];rfl,bI.o⟩
end
