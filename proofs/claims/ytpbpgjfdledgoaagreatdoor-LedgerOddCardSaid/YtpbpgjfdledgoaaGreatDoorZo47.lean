/- Lemmas. -/
import Derived.Test.YtpbpgjfdledgoaaGreatDoorZo35
set_option linter.all false
set_option maxRecDepth 100000
set_option maxHeartbeats 8000000
open Bool renaming and_assoc→yD
open Nat renaming zero_add→bC
open List renaming length_append→ic
namespace Go.Proofs.YtpbpgjfdledgoaaGreatDoor
open Go.Proofs.Tryz
open Go.RowKit Go.Shelf Go.Sort Go.Joins Go.Deep
def KY (X:List cO×dx)(n j:Nat)(l:List cO)(r:dx):Prop:=(r.isSome=true∧takeN aF (n-j) l r=X)∨(r=none∧X=([],none))
theorem KY.step {X:List cO×dx}{n j:Nat}{l:List cO}{s:Nm}(h:KY X n j l (some s))(b:j<n):KY X n (j+1) (l++ [(aF (some s)).1]) (aF (some s)).2:=by
 rcases h with⟨_,h⟩|⟨h,_⟩
 ·rw[show n-j=(n-(j+1))+1 by omega]at h;unfold takeN at h;cases hi:(aF (some s)).2.isSome with
  |true=>rw[hi]at h;exact .inl ⟨hi,h⟩
  |false=>
   rw[hi]at h;refine .inr ⟨?_,h.symm⟩;cases a:(aF (some s)).2 with
   |none=>rfl
   |some t=>rw[a]at hi;cases hi
 ·cases h
def RF (w:World)(g:Nat)(X:List cO×dx)(e:Ending)(w':World):Prop:=∃v,e= .returned v∧aI bN 23 w' w.heap.size v X.1∧eP w' g X.2∧ah (Own g) w w'
def PV (w:World)(g:Nat)(X:List cO×dx)(n:Nat)(lv q:Value)(wr:World):Prop:=
 ∃(j:Nat) (l:List cO) (r:dx),j≤n∧q=qI j∧aI bN 23 wr w.heap.size lv l∧l.length≤j∧eP wr g r∧KY X n j l r∧ah (Own g) w wr
theorem ER {w:World}{g:Nat}{r:dx}(h:eP w g r):Calls prog 64 #[dP g,qI 1024] w (RF w g (jx aF 1024 r)):=by
 obtain⟨X,y⟩:=ay (jx aF 1024 r);rw[←y];unfold jx at y;have ak:=h.lt;have CC:=af (JH h 1024);have k:0≤(dc 1024 r).1∧(dc 1024 r).1≤1024:=by
  unfold dc;cases Y:decide ((bR r).1<0)||decide ((1024:Int)<(bR r).1)
  ·rw[wK,xR,xR]at Y;simp only[cond_false];omega
  ·exact⟨mH _,(by decide:(0:Int)≤1024)⟩
 obtain⟨p,hp⟩:=ay (dc 1024 r);rw[←hp]at CC y k;obtain⟨c,r0⟩:=p;obtain⟨n,hn⟩:∃n:Nat,(n:Int)=c:=⟨c.toNat,by simp only at k;omega⟩;have au:n≤1024:=(by simp only at k;omega);rw[←hn]at CC y;have O:aj (X=takeN aF n [] r0):=af (by rw[y];rfl);clear h hp y k hn;(go_enter func64,ntmps64);(go_wp2_with fail);refine CC.o.mono ?_;rintro e w1 ⟨rfl,z,R⟩;have P:aj (PV w g X n (.slice none 0 0) (qI 0) w1):=af ⟨0,[],r0,aX _,rfl,cJ _ _ _ _,bM _,z,by
  cases h0:r0 with
  |none=>
   right;refine⟨rfl,?_⟩;rw[O.o,h0];cases n<;>rfl
  |some s=>exact .inl ⟨rfl,by rw[O.o,h0];rfl⟩,R⟩
 clear z R CC;go_wp2
 go_loopw [5,7] (fun lv q wr=>PV w g X n lv q wr) (fun _ q _=>n-(intOf q).toNat)
 case atStart=>exact P.o
 case round=>
  obtain⟨j,l,rr,av,rfl,M,hl,z,hi,hK⟩:=hrel;obtain⟨la,lc,rfl⟩:=aq M;have K:=af M;have G:=af z;have m:=af hi;have F:=af hK;have l1:=z.iM;have Z:(0:Int)≤(j:Int):=(by omega);have ai:(j:Int)≤1024:=(by omega);have t:=af hl;clear M z hi hK hl P;by_cases d:j<n
  ·have L:(j:Int)<(n:Int):=(by omega);cases rr with
   |none=>
    have b:aj (X=([],none)):=af (by
     rcases m.o with⟨h,_⟩|⟨_,h⟩
     ·cases h
     ·exact h)
    have l1:wr.cell? ⟨g,1,none⟩=some (.bool true):=l1;clear m d;go_wp2;go_ret;exact⟨_,rfl,by rw[b.o];exact cJ _ _ _ _,by rw[b.o];exact G.o,F.o⟩
   |some s=>
    have l1:wr.cell? ⟨g,1,none⟩=some (.bool false):=l1;have ST:=af (m.o.step d);have I:=af (kP G.o);obtain⟨p,hp⟩:=ay (aF (some s));rw[←hp]at ST I;obtain⟨⟨n0,n1,H⟩,r'⟩:=p;clear hp m d;(go_wp2_with fail);refine I.o.mono ?_;rintro e w2 ⟨rfl,B,v⟩;have V:=af B;have Q:=af (F.o.aK v);have J:=af (v.owns K.o (fun i hi e=>by have:=(K.o.lt i hi).1;have e:i=g:=e;omega));obtain⟨i0,hi,C,D,E⟩:=fR Tryz.En;clear B v I l1;go_wp2_with (at_builtin;refine aQ rfl (.tmp 23) (.tmp 26) 28 rfl w.heap.size 23 i0 _ 3 24 underlying28 hi C D E rfl (by decide) (.slice la l.length lc) l.length (rowsOf bN l) rfl (J.o.alloc _) (.slice (some ⟨w2.heap.size,0,none⟩) 1 1) 1 (bk ⟨n0,n1,H⟩) rfl (jw bN w2 23 ⟨n0,n1,H⟩) ?c1 ?c2 ?c3 ?c4)
    case c1=>have:=t.o;unfold maxLen;omega
    case c2=>have:=t.o;omega
    case c3=>have:=Q.o.size;simp;omega
    case c4=>
     intro v5 S f A x _;have U:=af (D3 (a:=(⟨n0,n1,H⟩:cO)) f);have N:ah (Of (.slice la l.length lc)) w2 S:=((aA w2).alloc _).aK A;have W:=af (V.o.kept N (fun e=>by have:=(J.o.lt g e).1;omega));have T:aj (ah (Own g) w S):=af (Q.o.trans N (fun i hi e=>by have:=(J.o.lt i e).1;omega));clear f A x hi C D E N;go_wp2;go_roundw
     case rel=>exact⟨j+1,l++ [⟨n0,n1,H⟩],r',by omega,by go_num,U.o,by rw[cr,gZ];have:=t.o;omega,W.o,ST.o,T.o⟩
     case measure=>simp[intOf];omega
  ·have L:¬(j:Int)<(n:Int):=(by omega);have u:n-j=0:=(by omega);cases rr with
   |none=>
    have b:aj (X=([],none)):=af (by
     rcases m.o with⟨h,_⟩|⟨_,h⟩
     ·cases h
     ·exact h)
    have l1:wr.cell? ⟨g,1,none⟩=some (.bool true):=l1;clear m d u;go_wp2;go_ret;exact⟨_,rfl,by rw[b.o];exact cJ _ _ _ _,by rw[b.o];exact G.o,F.o⟩
   |some s=>
    have b:aj (X=(l,some s)):=af (by
     rcases m.o with⟨_,h⟩|⟨h,_⟩
     ·rw[u]at h;exact h.symm
     ·cases h)
    have l1:wr.cell? ⟨g,1,none⟩=some (.bool false):=l1;clear m d u;go_wp2;go_ret;exact⟨_,rfl,by rw[b.o];exact K.o,by rw[b.o];exact G.o,F.o⟩
theorem TD {r:Lr}(h:r.k=1):cH r=(decide (1≤r.n)&&(decide (r.n≤1099511627776)&&((decide (r.s=0)&&decide (r.i=0))&&(jc r.c Cm.zero&&r.ids.isEmpty)))):=by
 unfold cH jo;rw[h];simp only[yD];rfl
theorem TE {r:Lr}(h:r.k=2):cH r=(decide (r.n=0)&&(decide (0≤r.s)&&(decide (r.s≤15)&&(decide (0≤r.i)&&(decide (r.i≤15)&&(jc r.c Cm.zero&&r.ids.isEmpty)))))):=by
 unfold cH jo;rw[h];simp only[yD];rfl
theorem TF {r:Lr}(h:r.k=3):cH r=(decide (r.n=0)&&((decide (r.s=0)&&decide (r.i=0))&&(bD r.c&&r.ids.isEmpty))):=by
 unfold cH;rw[h];simp only[yD];rfl
theorem TG {r:Lr}(h:r.k=4):cH r=(decide (r.n=0)&&((decide (r.s=0)&&decide (r.i=0))&&(jc r.c Cm.zero&&r.ids.isEmpty))):=by
 unfold cH;rw[h];simp only[yD];rfl
theorem TH {r:Lr}(h:r.k=5):cH r=(r.ids.all dF&&(decide (r.n=0)&&((decide (r.s=0)&&decide (r.i=0))&&(jc r.c Cm.zero&&decide (r.ids.length≤1024))))):=by
 unfold cH;rw[h];cases r.ids.all dF<;>simp[yD]
theorem TI {r:Lr}(a:¬r.k=1)(b:¬r.k=2)(c:¬r.k=3)(d:¬r.k=4)(e:¬r.k=5):cH r=false:=by
 unfold cH;rw[show(r.k==1)=false by simpa using a,show(r.k==2)=false by simpa using b,show(r.k==3)=false by simpa using c,show(r.k==4)=false by simpa using d,show(r.k==5)=false by simpa using e];rfl
theorem lK (w:World)(r:Lr)(v:Value)(hv:aW bN w v r.ids):Calls prog 52 #[oM r v] w (qG w ((.bool (cH r)))):=by
 obtain⟨va,vc,rfl⟩:=hv.slice;obtain⟨E,bF⟩:=ay (cH r);rw[←bF];have z:=af bF;have bO:=af hv;have aO:=aW.len bN hv;unfold maxLen at aO;have bE:aj ((r.ids.length:Int)≤9223372036854775807):=af (by omega);obtain⟨A,hA⟩:=ay ((r.n==0));obtain⟨B,bf⟩:=ay ((r.s==0));obtain⟨B2,S⟩:=ay ((r.i==0));obtain⟨C,hC⟩:=ay (jc r.c Cm.zero);obtain⟨D,bg⟩:=ay (((r.ids.length:Int)==0));have aq:aj (A=decide (r.n=0)):=af (by rw[hA];rfl);have bM:aj (B=decide (r.s=0)):=af (by rw[bf];rfl);have aF:aj (B2=decide (r.i=0)):=af (by rw[S];rfl);have av:=af hC;have aB:aj (D=r.ids.isEmpty):=af (by rw[bg];cases r.ids with|nil=>rfl|cons a l=>simp;omega)
 have ec:∀W',(binOp .eql 27 (.agg (ct r.c).toArray) (.agg #[qI 0,qI 0,qI 0,qI 0,qI 0,qI 0,qI 0,qI 0,qI 0,qI 0,qI 0,qI 0,qI 0,qI 0,qI 0,qI 0])).run prog W'= .ok (.bool C) W':=fun W'=>(by rw[hC];exact L4 r.c Cm.zero W');replace hA:=hA.symm;replace bf:=bf.symm;replace S:=S.symm;replace bg:=bg.symm;clear bF hv hC aO;(go_enter func52,ntmps52);go_upto_region 1 with fail
 refine au ?_;intro W hW;have bP:aj (ah No w W):=af (by rw[hW];exact(aA w).alloc _);have R:ai W w.heap.size 0 21=some (fS r (.slice va r.ids.length vc)):=(by rw[hW];simp[go_sem]);have aD:=af R;obtain⟨g,bT⟩:=ay (w.heap.size);rw[←bT]at R aD⊢;have x0:=ak R 0 _ rfl;have aR:=ak R 1 _ rfl;have aS:=ak R 2 _ rfl;have aT:=ak R 3 _ rfl;have x20:=ak R 20 _ rfl;have bu:ai W g 4 16=some (ct r.c):=aE R 4 (ct r.c) rfl (by simp);simp only[bC]at x0 aR aS aT x20;have l1:∀m,(W.drewN m).cell? ⟨g,1,none⟩=some (qI r.n):=fun _=>aR;have l2:∀m,(W.drewN m).cell? ⟨g,2,none⟩=some (qI r.s):=fun _=>aS;have bX:∀m,(W.drewN m).cell? ⟨g,3,none⟩=some (qI r.i):=fun _=>aT;have bK:∀m,(W.drewN m).cell? ⟨g,20,none⟩=some (.slice va r.ids.length vc):=fun _=>x20;have bY:∀m,ai (W.drewN m) g 4 16=some (ct r.c):=fun _=>bu;clear hW bT R;go_cut [3,4,5,6] (fun a b c d wc=>a= .bool A∧b= .bool (B&&B2)∧c= .bool C∧d= .bool D∧ah No W wc)
 case first=>
  cases B
  all_goals
   go_quiet (fail)
   (go_wp2_with fail);go_meet;exact⟨rfl,rfl,rfl,rfl,(aA W).drewN _⟩
 case rest=>
  obtain⟨K,hK⟩:=ay ((B&&B2));have aC:aj (K=(decide (r.s=0)&&decide (r.i=0))):=af (by rw[hK,bM.o,aF.o]);obtain⟨rfl,bQ,rfl,rfl,X⟩:=hcut;rw[←hK]at bQ;subst bQ;obtain⟨V,hV⟩:=ay (wc);subst hV;have x:=af (bP.o.aK X);replace x0:=X.cB x0;replace aR:=X.cB aR;replace aS:=X.cB aS;replace aT:=X.cB aT;replace x20:=X.cB x20;replace bu:=X.ai bu;have aH:aj (aW bN V (.slice va r.ids.length vc) r.ids):=af (bO.o.kept x.o (fun _ _ h=>h));clear hA bf S bg hK X l1 l2 bX bK bY ec bP aD bO bM aF;have J:=aq.o;have O:=aC.o;have L:=av.o;have N:=aB.o;by_cases p:r.k=1
  ·have b1:(r.k==1)=true:=(by rw[p];rfl);have aI:(r.k==2)=false:=(by rw[p];rfl);have aJ:(r.k==3)=false:=(by rw[p];rfl);have aL:(r.k==4)=false:=(by rw[p];rfl);have aM:(r.k==5)=false:=(by rw[p];rfl);have f:aj (E=(decide (1≤r.n)&&(decide (r.n≤1099511627776)&&(K&&(C&&D))))):=af (by rw[z.o,TD p, ←O, ←L, ←N]);clear z J O L N aq aC av aB p;by_cases y:1≤r.n
   ·by_cases G:r.n≤1099511627776
    ·cases K with
     |false=>
      have t:aj (E=false):=af (by rw[f.o];simp[y,G]);clear f;go_wp2;go_ret;exact⟨by rw[t.o];rfl,x.o⟩
     |true=>
      cases C with
      |false=>
       have t:aj (E=false):=af (by rw[f.o];simp[y,G]);clear f;go_wp2;go_ret;exact⟨by rw[t.o];rfl,x.o⟩
      |true=>
       cases D with
       |false=>
        have t:aj (E=false):=af (by rw[f.o];simp[y,G]);clear f;go_wp2;go_ret;exact⟨by rw[t.o];rfl,x.o⟩
       |true=>
        have t:aj (E=true):=af (by rw[f.o];simp[y,G]);clear f;go_wp2;go_ret;exact⟨by rw[t.o];rfl,x.o⟩
    ·have t:aj (E=false):=af (by rw[f.o];simp[y,G]);clear f;go_wp2;go_ret;exact⟨by rw[t.o];rfl,x.o⟩
   ·have t:aj (E=false):=af (by rw[f.o];simp[y]);clear f;go_wp2;go_ret;exact⟨by rw[t.o];rfl,x.o⟩
  have n1:¬r.k=1:=p;clear p;by_cases p:r.k=2
  ·have b1:(r.k==1)=false:=(by rw[p];rfl);have aI:(r.k==2)=true:=(by rw[p];rfl);have aJ:(r.k==3)=false:=(by rw[p];rfl);have aL:(r.k==4)=false:=(by rw[p];rfl);have aM:(r.k==5)=false:=(by rw[p];rfl);have f:aj (E=(A&&(decide (0≤r.s)&&(decide (r.s≤15)&&(decide (0≤r.i)&&(decide (r.i≤15)&&(C&&D))))))):=af (by rw[z.o,TE p, ←J, ←L, ←N]);clear z J O L N aq aC av aB p;cases A with
   |false=>
    have t:aj (E=false):=af (by rw[f.o];simp);clear f;go_wp2;go_ret;exact⟨by rw[t.o];rfl,x.o⟩
   |true=>
    by_cases y:0≤r.s
    ·by_cases G:r.s≤15
     ·by_cases aP:0≤r.i
      ·by_cases bq:r.i≤15
       ·cases C with
        |false=>
         have t:aj (E=false):=af (by rw[f.o];simp[y,G,aP,bq]);clear f;go_wp2;go_ret;exact⟨by rw[t.o];rfl,x.o⟩
        |true=>
         cases D with
         |false=>
          have t:aj (E=false):=af (by rw[f.o];simp[y,G,aP,bq]);clear f;go_wp2;go_ret;exact⟨by rw[t.o];rfl,x.o⟩
         |true=>
          have t:aj (E=true):=af (by rw[f.o];simp[y,G,aP,bq]);clear f;go_wp2;go_ret;exact⟨by rw[t.o];rfl,x.o⟩
       ·have t:aj (E=false):=af (by rw[f.o];simp[y,G,aP,bq]);clear f;go_wp2;go_ret;exact⟨by rw[t.o];rfl,x.o⟩
      ·have t:aj (E=false):=af (by rw[f.o];simp[y,G,aP]);clear f;go_wp2;go_ret;exact⟨by rw[t.o];rfl,x.o⟩
     ·have t:aj (E=false):=af (by rw[f.o];simp[y,G]);clear f;go_wp2;go_ret;exact⟨by rw[t.o];rfl,x.o⟩
    ·have t:aj (E=false):=af (by rw[f.o];simp[y]);clear f;go_wp2;go_ret;exact⟨by rw[t.o];rfl,x.o⟩
  have bn:¬r.k=2:=p;clear p;by_cases p:r.k=3
  ·have b1:(r.k==1)=false:=(by rw[p];rfl);have aI:(r.k==2)=false:=(by rw[p];rfl);have aJ:(r.k==3)=true:=(by rw[p];rfl);have aL:(r.k==4)=false:=(by rw[p];rfl);have aM:(r.k==5)=false:=(by rw[p];rfl);obtain⟨M,bH⟩:=ay (bD r.c);have bL:=bH;have P:=af (fun W'=>iR W' r.c);rw[←bH]at P;have f:aj (E=(A&&(K&&(M&&D)))):=af (by rw[z.o,TF p, ←J, ←O, ←bL, ←N]);clear z J O L N aq aC av aB p bL bH;cases A with
   |false=>
    have t:aj (E=false):=af (by rw[f.o];simp);clear f;go_wp2;go_ret;exact⟨by rw[t.o];rfl,x.o⟩
   |true=>
    cases K with
    |false=>
     have t:aj (E=false):=af (by rw[f.o];simp);clear f;go_wp2;go_ret;exact⟨by rw[t.o];rfl,x.o⟩
    |true=>
     cases M with
     |false=>
      go_wp2_with fail
      (with_reducible refine(P.o _).mono ?_)
      rintro e aQ ⟨rfl,u⟩;have Q:=af (x.o.aK u);clear u;have t:aj (E=false):=af (by rw[f.o];simp);clear f;go_wp2;go_ret;exact⟨by rw[t.o];rfl,Q.o⟩
     |true=>
      cases D with
      |false=>
       go_wp2_with fail
       (with_reducible refine(P.o _).mono ?_)
       rintro e aQ ⟨rfl,u⟩;have Q:=af (x.o.aK u);clear u;have t:aj (E=false):=af (by rw[f.o];simp);clear f;go_wp2;go_ret;exact⟨by rw[t.o];rfl,Q.o⟩
      |true=>
       go_wp2_with fail
       (with_reducible refine(P.o _).mono ?_)
       rintro e aQ ⟨rfl,u⟩;have Q:=af (x.o.aK u);clear u;have t:aj (E=true):=af (by rw[f.o];simp);clear f;go_wp2;go_ret;exact⟨by rw[t.o];rfl,Q.o⟩
  have n3:¬r.k=3:=p;clear p;by_cases p:r.k=4
  ·have b1:(r.k==1)=false:=(by rw[p];rfl);have aI:(r.k==2)=false:=(by rw[p];rfl);have aJ:(r.k==3)=false:=(by rw[p];rfl);have aL:(r.k==4)=true:=(by rw[p];rfl);have aM:(r.k==5)=false:=(by rw[p];rfl);have f:aj (E=(A&&(K&&(C&&D)))):=af (by rw[z.o,TG p, ←J, ←O, ←L, ←N]);clear z J O L N aq aC av aB p;cases A with
   |false=>
    have t:aj (E=false):=af (by rw[f.o];simp);clear f;go_wp2;go_ret;exact⟨by rw[t.o];rfl,x.o⟩
   |true=>
    cases K with
    |false=>
     have t:aj (E=false):=af (by rw[f.o];simp);clear f;go_wp2;go_ret;exact⟨by rw[t.o];rfl,x.o⟩
    |true=>
     cases C with
     |false=>
      have t:aj (E=false):=af (by rw[f.o];simp);clear f;go_wp2;go_ret;exact⟨by rw[t.o];rfl,x.o⟩
     |true=>
      cases D with
      |false=>
       have t:aj (E=false):=af (by rw[f.o];simp);clear f;go_wp2;go_ret;exact⟨by rw[t.o];rfl,x.o⟩
      |true=>
       have t:aj (E=true):=af (by rw[f.o];simp);clear f;go_wp2;go_ret;exact⟨by rw[t.o];rfl,x.o⟩
  have bp:¬r.k=4:=p;clear p;by_cases p:r.k=5
  ·have b1:(r.k==1)=false:=(by rw[p];rfl);have aI:(r.k==2)=false:=(by rw[p];rfl);have aJ:(r.k==3)=false:=(by rw[p];rfl);have aL:(r.k==4)=false:=(by rw[p];rfl);have aM:(r.k==5)=true:=(by rw[p];rfl);obtain⟨F,bG⟩:=ay (decide (r.ids.length≤1024));have f:aj (E=(r.ids.all dF&&(A&&(K&&(C&&F))))):=af (by rw[z.o,TH p, ←J, ←O, ←L, ←bG]);have aG:aj (F=true↔(r.ids.length:Int)≤1024):=af (by rw[bG,tQ];omega);have CI:=af (fun W' a=>kx W' a);clear z J O L N aq aC av aB p bG n1 bn n3 bp aR aS aT bu;go_wp2_with fail
   go_loopw [7] (fun q wr=>∃j:Nat,j≤r.ids.length∧q=qI j∧(r.ids.take j).all dF=true∧ah No V wr) (fun q _=>r.ids.length-(intOf q).toNat)
   case atStart=>exact⟨0,aX _,rfl,by simp,aA _⟩
   case round=>
    obtain⟨j,cg,rfl,U,Z⟩:=hrel;obtain⟨bV,bI⟩:=ay (wr);subst bI;have aU:=Z.cB x20;have bW:(0:Int)≤(j:Int):=(by omega);have aZ:=af Z;have Y:=af U;clear x20 U Z;by_cases I:j<r.ids.length
    ·have bJ:(j:Int)<(r.ids.length:Int):=(by omega);have aN:wrap64 ((j:Int)+1)=(j:Int)+1:=jP _ ⟨by omega,by have:=bE.o;omega⟩;obtain⟨gt,bZ,rfl,_,_,_⟩:=aW.addr bN aH.o (by omega);have cT:ai bV gt (bZ+j*3) 3=some (bk r.ids[j]):=aW.at bN (aH.o.kept aZ.o (fun _ _ h=>h)) j I;have aY:aj ((r.ids.take (j+1)).all dF=dF r.ids[j]):=af (by rw[iK I,List.all_append,Y.o];simp);have aV:aj (dF r.ids[j]=false→r.ids.all dF=false):=af (fun h=>by
      rw[wT];exact⟨_,dw I,by rw[h];decide⟩)
     obtain⟨a,bS⟩:=ay (r.ids[j]);rw[←bS]at cT aY aV;have bA:=af (fun W'=>CI.o W' a);obtain⟨T,bR⟩:=ay (dF a);rw[←bR]at bA aY aV;clear bS bR I;cases T with
     |false=>
      have t:aj (E=false):=af (by rw[f.o,aV.o rfl];rfl);clear f aY aV;go_wp2_with fail
      (with_reducible refine(bA.o _).mono ?_)
      rintro e aQ ⟨rfl,u⟩;have Q:aj (ah No w aQ):=af ((x.o.aK aZ.o).aK u);clear u cT aU;go_wp2;go_ret;exact⟨by rw[t.o];rfl,Q.o⟩
     |true=>
      go_wp2_with fail
      (with_reducible refine(bA.o _).mono ?_)
      rintro e aQ ⟨rfl,u⟩;have Q:=af (aZ.o.aK u);clear u cT aU;go_wp2;go_roundw
      case rel=>exact⟨j+1,by omega,by first|(rw[aN];rfl)|go_num,by rw[aY.o],Q.o⟩
      case measure=>
       first
        |(rw[aN];show r.ids.length-((j:Int)+1).toNat<r.ids.length-((j:Int)).toNat;omega)
        |(simp[intOf];omega)
    ·have bJ:¬(j:Int)<(r.ids.length:Int):=(by omega);have bB:aj (E=(A&&(K&&(C&&F)))):=af (by
      have:=Y.o;rw[fA (by omega)]at this;rw[f.o,this];rfl)
     have H:=af (x.o.aK aZ.o);clear f I Y;have f:=bB;cases A with
     |false=>
      have t:aj (E=false):=af (by rw[f.o];simp);clear f;go_wp2;go_ret;exact⟨by rw[t.o];rfl,H.o⟩
     |true=>
      cases K with
      |false=>
       have t:aj (E=false):=af (by rw[f.o];simp);clear f;go_wp2;go_ret;exact⟨by rw[t.o];rfl,H.o⟩
      |true=>
       cases C with
       |false=>
        have t:aj (E=false):=af (by rw[f.o];simp);clear f;go_wp2;go_ret;exact⟨by rw[t.o];rfl,H.o⟩
       |true=>
        cases F with
        |false=>
         have b_:¬(r.ids.length:Int)≤1024:=fun h=>(by have:=aG.o.2 h;cases this);have t:aj (E=false):=af (by rw[f.o];simp);clear f;go_wp2;go_ret;exact⟨by rw[t.o];rfl,H.o⟩
        |true=>
         have b_:(r.ids.length:Int)≤1024:=aG.o.1 rfl;have t:aj (E=true):=af (by rw[f.o];simp);clear f;go_wp2;go_ret;exact⟨by rw[t.o];rfl,H.o⟩
  ·have f:aj (E=false):=af (by rw[z.o,TI n1 bn n3 bp p]);have bU:=p;have b1:(r.k==1)=false:=(by simpa using n1);have aI:(r.k==2)=false:=(by simpa using bn);have aJ:(r.k==3)=false:=(by simpa using n3);have aL:(r.k==4)=false:=(by simpa using bp);have aM:(r.k==5)=false:=(by simpa using bU);clear n1 bn n3 bp bU p z J O L N;go_wp2;go_ret;exact⟨by rw[f.o];rfl,x.o⟩
def xL (w:World)(r:Lr)(e:Ending)(w':World):Prop:=e= .returned (.tuple #[ew (dQ r).1,qI (dQ r).2])∧ah No w w'
theorem PW (l:List cO)(h:l.length≤1024):(nG aO l).length≤100000:=by
 have b:=aP (l.length:Int);have c:(l.flatMap aO).length≤27*l.length:=by
  clear h b;induction l with
  |nil=>simp
  |cons a l ih=>
   have:=c6 a;rw[wW,cr,g_];omega
 unfold nG;rw[cr];omega
theorem J3 (w:World)(r:Lr)(v:Value)(hv:aW bN w v r.ids)(hb:cH r=false):Calls prog 11 #[oM r v] w (xL w r):=by
 have a:=af (lK (w.alloc (.cells (fS r v).toArray 30)) r v (hv.kept ((aA w).alloc _) (fun _ _ h=>h)));have b:dQ r=([],1):=(by unfold dQ;rw[hb];rfl);unfold xL;rw[b];rw[hb]at a;obtain⟨va,vc,rfl⟩:=hv.slice;clear hb b hv;(go_enter func11,ntmps11);(go_wp2_with fail);refine a.o.mono ?_;rintro e w1 ⟨rfl,c⟩;have d:aj (ah No w w1):=af (((aA w).alloc _).aK c);clear c a;go_wp2
 go_ret2
 exact⟨rfl,d.o⟩
theorem ML (w:World)(r:Lr)(v:Value)(hv:aW bN w v r.ids)(hb:cH r=true)(a:r.k=1):Calls prog 11 #[oM r v] w (xL w r):=by
 have l:=af (lK (w.alloc (.cells (fS r v).toArray 30)) r v (hv.kept ((aA w).alloc _) (fun _ _ h=>h)));have b1:(r.k==1)=true:=(by rw[a];rfl);have E:(r.k==2)=false:=(by rw[a];rfl);have F:(r.k==3)=false:=(by rw[a];rfl);have G:(r.k==5)=false:=(by rw[a];rfl);have j:i64 r.k:=⟨by omega,by omega⟩;have A:=af ((iH hb).1 a);have z:dQ r=(aG r.k++aG r.n,0):=(by unfold dQ eF;rw[hb,b1,E,F,G];simp);obtain⟨R,i⟩:=ay (dQ r);unfold xL;rw[←i];rw[z]at i;rw[hb]at l;obtain⟨X0,d⟩:=ay (bB (aG r.k));have p:=af (fun W=>aS d (cZ W r.k j));obtain⟨va,vc,rfl⟩:=hv.slice;have H:=af hv;obtain⟨I,c⟩:=ay (bB (aG r.n));have x:=af (fun W=>aS c (cZ W r.n A.o));obtain⟨D,f⟩:=ay (bB (aG r.k++aG r.n));have g:=fun W':World=>cg W' (aG r.k) (aG r.n) (by have:=aP r.k;(try simp only[ic]);omega) (by have:=aP r.n;omega);rw[←c, ←f, ←d]at g;have q:aj (ew R.1= .string D∧R.2=0):=af ⟨by rw[i,f];rfl,by rw[i]⟩;clear hb j z i d a hv c f;(go_enter func11,ntmps11);go_upto_region 1 with fail
 refine au ?_;intro y b;have s:aj (ah No w y):=af (by rw[b];exact(aA w).alloc _);have c0:ai y w.heap.size 0 21=some (fS r (.slice va r.ids.length vc)):=(by rw[b];simp[go_sem]);rw[←b]at l;clear b;(go_wp2_with fail);refine l.o.mono ?_;rintro e W ⟨rfl,a⟩;have t:=af (s.o.aK a);have m:=a.ai c0;have m0:=ak m 0 _ rfl;simp only[bC]at m0;clear a c0 l s;go_wp2_with fail
 (with_reducible refine(p.o _).mono ?_)
 rintro e J ⟨rfl,a⟩;have B:=af (t.o.aK a);have c1:=a.ai m;have m1:=a.cB m0;clear a m m0 p t;have u:=ak c1 1 _ rfl;simp only[bC]at u;clear c1;go_wp2_with fail
 (with_reducible refine(x.o _).mono ?_)
 rintro e K ⟨rfl,a⟩;have C:=af (B.o.aK a);clear a u m1 x;go_wp2
 go_ret2
 exact⟨by rw[q.o.1,q.o.2];rfl,C.o⟩
theorem MN (w:World)(r:Lr)(v:Value)(hv:aW bN w v r.ids)(hb:cH r=true)(a:r.k=2):Calls prog 11 #[oM r v] w (xL w r):=by
 have t:=af (lK (w.alloc (.cells (fS r v).toArray 30)) r v (hv.kept ((aA w).alloc _) (fun _ _ h=>h)));have b1:(r.k==1)=false:=(by rw[a];rfl);have J:(r.k==2)=true:=(by rw[a];rfl);have K:(r.k==3)=false:=(by rw[a];rfl);have L:(r.k==5)=false:=(by rw[a];rfl);have q:i64 r.k:=⟨by omega,by omega⟩;have z:=af ((iH hb).2.1 a);have E:dQ r=(aG r.k++aG r.s++aG r.i,0):=(by unfold dQ eF;rw[hb,b1,J,K,L];simp[List.append_assoc]);obtain⟨R,p⟩:=ay (dQ r);unfold xL;rw[←p];rw[E]at p;rw[hb]at t;obtain⟨X0,g⟩:=ay (bB (aG r.k));have y:=af (fun W=>aS g (cZ W r.k q));obtain⟨va,vc,rfl⟩:=hv.slice;have P:=af hv;obtain⟨T,d⟩:=ay (bB (aG r.s));have G:=af (fun W=>aS d (cZ W r.s z.o.1));obtain⟨U,f⟩:=ay (bB (aG r.i));have H:=af (fun W=>aS f (cZ W r.i z.o.2));obtain⟨V,j⟩:=ay (bB (aG r.k++aG r.s));have m:=fun W':World=>cg W' (aG r.k) (aG r.s) (by have:=aP r.k;(try simp only[ic]);omega) (by have:=aP r.s;omega);rw[←d, ←j, ←g]at m;obtain⟨I,l⟩:=ay (bB (aG r.k++aG r.s++aG r.i));have n:=fun W':World=>cg W' (aG r.k++aG r.s) (aG r.i) (by have:=aP r.k;have:=aP r.s;(try simp only[ic]);omega) (by have:=aP r.i;omega);rw[←f, ←l, ←j]at n;have A:aj (ew R.1= .string I∧R.2=0):=af ⟨by rw[p,l];rfl,by rw[p]⟩;clear hb q E p g a hv d j f l;(go_enter func11,ntmps11);go_upto_region 1 with fail
 refine au ?_;intro D c;have B:aj (ah No w D):=af (by rw[c];exact(aA w).alloc _);have c0:ai D w.heap.size 0 21=some (fS r (.slice va r.ids.length vc)):=(by rw[c];simp[go_sem]);rw[←c]at t;clear c;(go_wp2_with fail);refine t.o.mono ?_;rintro e W ⟨rfl,a⟩;have C:=af (B.o.aK a);have u:=a.ai c0;have m0:=ak u 0 _ rfl;simp only[bC]at m0;clear a c0 t B;go_wp2_with fail
 (with_reducible refine(y.o _).mono ?_)
 rintro e b ⟨rfl,a⟩;have F:=af (C.o.aK a);have c1:=a.ai u;have m1:=a.cB m0;clear a u m0 y C;have m2:=ak c1 2 _ rfl;have m3:=ak c1 3 _ rfl;simp only[bC]at m2 m3;have Q:∀w',ah No b w'→w'.cell? ⟨w.heap.size,2,none⟩=some (qI r.s):=fun w' k=>k.cB m2;have S:∀w',ah No b w'→w'.cell? ⟨w.heap.size,3,none⟩=some (qI r.i):=fun w' k=>k.cB m3;clear c1 m2 m3;go_upto_region 8 with fail
 go_region_held3 (fun w'=>ah No b w')
  (first|assumption|exact(aA b).drew|exact aA b)
  (first
    |(go_at_call 53
      have hc:=G.o
      with_reducible refine(hc _).mono ?_
      clear hc;rintro e N ⟨rfl,a⟩;have M:ah No b N:=ah.trans (by first|assumption|exact(aA b).drew|exact aA b) a (fun _ _ h=>h))
    |(go_at_call 53
      have hc:=H.o
      with_reducible refine(hc _).mono ?_
      clear hc;rintro e O ⟨rfl,a⟩;have x:ah No b O:=ah.trans (by first|assumption|exact(aA b).drew|exact aA b) a (fun _ _ h=>h)))
 all_goals go_wp2
 all_goals go_ret2
 all_goals exact⟨by rw[A.o.1,A.o.2];rfl,F.o.aK x⟩
theorem MO (w:World)(r:Lr)(v:Value)(hv:aW bN w v r.ids)(hb:cH r=true)(a:r.k=3):Calls prog 11 #[oM r v] w (xL w r):=by
 have m:=af (lK (w.alloc (.cells (fS r v).toArray 30)) r v (hv.kept ((aA w).alloc _) (fun _ _ h=>h)));have b1:(r.k==1)=false:=(by rw[a];rfl);have E:(r.k==2)=false:=(by rw[a];rfl);have F:(r.k==3)=true:=(by rw[a];rfl);have G:(r.k==5)=false:=(by rw[a];rfl);have l:i64 r.k:=⟨by omega,by omega⟩;have y:dQ r=(aG r.k++cQ r.c,0):=(by unfold dQ eF;rw[hb,b1,E,F,G];simp);obtain⟨R,j⟩:=ay (dQ r);unfold xL;rw[←j];rw[y]at j;rw[hb]at m;obtain⟨X0,f⟩:=ay (bB (aG r.k));have p:=af (fun W=>aS f (cZ W r.k l));obtain⟨va,vc,rfl⟩:=hv.slice;have H:=af hv;obtain⟨I,d⟩:=ay (bB (cQ r.c));have u:=af (fun W=>aS d (JM W r.c));obtain⟨D,g⟩:=ay (bB (aG r.k++cQ r.c));have i:=fun W':World=>cg W' (aG r.k) (cQ r.c) (by have:=aP r.k;(try simp only[ic]);omega) (by have:=Bi r.c;omega);rw[←d, ←g, ←f]at i;have q:aj (ew R.1= .string D∧R.2=0):=af ⟨by rw[j,g];rfl,by rw[j]⟩;clear hb l y j f a hv d g;(go_enter func11,ntmps11);go_upto_region 1 with fail
 refine au ?_;intro x b;have s:aj (ah No w x):=af (by rw[b];exact(aA w).alloc _);have c0:ai x w.heap.size 0 21=some (fS r (.slice va r.ids.length vc)):=(by rw[b];simp[go_sem]);rw[←b]at m;clear b;(go_wp2_with fail);refine m.o.mono ?_;rintro e W ⟨rfl,a⟩;have t:=af (s.o.aK a);have n:=a.ai c0;have m0:=ak n 0 _ rfl;simp only[bC]at m0;clear a c0 m s;go_wp2_with fail
 (with_reducible refine(p.o _).mono ?_)
 rintro e C ⟨rfl,a⟩;have z:=af (t.o.aK a);have c1:=a.ai n;have m1:=a.cB m0;clear a n m0 p t;have B:ai C w.heap.size 4 16=some (ct r.c):=aE c1 4 (ct r.c) rfl (by simp);clear c1;go_wp2_with fail
 (with_reducible refine(u.o _).mono ?_)
 rintro e J ⟨rfl,a⟩;have A:=af (z.o.aK a);clear a B m1 u;go_wp2
 go_ret2
 exact⟨by rw[q.o.1,q.o.2];rfl,A.o⟩
theorem MP (w:World)(r:Lr)(v:Value)(hv:aW bN w v r.ids)(hb:cH r=true)(a:r.k=4):Calls prog 11 #[oM r v] w (xL w r):=by
 have g:=af (lK (w.alloc (.cells (fS r v).toArray 30)) r v (hv.kept ((aA w).alloc _) (fun _ _ h=>h)));have b1:(r.k==1)=false:=(by rw[a];rfl);have t:(r.k==2)=false:=(by rw[a];rfl);have u:(r.k==3)=false:=(by rw[a];rfl);have x:(r.k==5)=false:=(by rw[a];rfl);have f:i64 r.k:=⟨by omega,by omega⟩;have q:dQ r=(aG r.k,0):=(by unfold dQ eF;rw[hb,b1,t,u,x];simp);obtain⟨R,d⟩:=ay (dQ r);unfold xL;rw[←d];rw[q]at d;rw[hb]at g;obtain⟨X0,c⟩:=ay (bB (aG r.k));have j:=af (fun W=>aS c (cZ W r.k f));obtain⟨va,vc,rfl⟩:=hv.slice;have y:=af hv;have l:aj (ew R.1= .string X0∧R.2=0):=af ⟨by rw[d,c];rfl,by rw[d]⟩;clear hb f q d c a hv;(go_enter func11,ntmps11);go_upto_region 1 with fail
 refine au ?_;intro p b;have m:aj (ah No w p):=af (by rw[b];exact(aA w).alloc _);have c0:ai p w.heap.size 0 21=some (fS r (.slice va r.ids.length vc)):=(by rw[b];simp[go_sem]);rw[←b]at g;clear b;(go_wp2_with fail);refine g.o.mono ?_;rintro e W ⟨rfl,a⟩;have n:=af (m.o.aK a);have i:=a.ai c0;have m0:=ak i 0 _ rfl;simp only[bC]at m0;clear a c0 g m;go_wp2_with fail
 (with_reducible refine(j.o _).mono ?_)
 rintro e z ⟨rfl,a⟩;have s:=af (n.o.aK a);have c1:=a.ai i;have m1:=a.cB m0;clear a i m0 j n;clear c1;go_wp2
 go_ret2
 exact⟨by rw[l.o.1,l.o.2];rfl,s.o⟩
theorem MQ (w:World)(r:Lr)(v:Value)(hv:aW bN w v r.ids)(hb:cH r=true)(a:r.k=5):Calls prog 11 #[oM r v] w (xL w r):=by
 have l:=af (lK (w.alloc (.cells (fS r v).toArray 30)) r v (hv.kept ((aA w).alloc _) (fun _ _ h=>h)));have b1:(r.k==1)=false:=(by rw[a];rfl);have G:(r.k==2)=false:=(by rw[a];rfl);have H:(r.k==3)=false:=(by rw[a];rfl);have I:(r.k==5)=true:=(by rw[a];rfl);have j:i64 r.k:=⟨by omega,by omega⟩;have p:=af ((iH hb).2.2 a);have B:dQ r=(aG r.k++nG aO r.ids,0):=(by unfold dQ eF;rw[hb,b1,G,H,I];simp);obtain⟨R,i⟩:=ay (dQ r);unfold xL;rw[←i];rw[B]at i;rw[hb]at l;obtain⟨X0,d⟩:=ay (bB (aG r.k));have n:=af (fun W=>aS d (cZ W r.k j));obtain⟨va,vc,rfl⟩:=hv.slice;have C:=af hv;obtain⟨J,c⟩:=ay (bB (nG aO r.ids));have y:=af (fun(W:World) (h:aW bN W (.slice va r.ids.length vc) r.ids)=>aS c (Pf W (.slice va r.ids.length vc) r.ids h p.o));obtain⟨F,f⟩:=ay (bB (aG r.k++nG aO r.ids));have g:=fun W':World=>cg W' (aG r.k) (nG aO r.ids) (by have:=aP r.k;omega) (by have:=PW r.ids p.o;omega);rw[←c, ←f, ←d]at g;have q:aj (ew R.1= .string F∧R.2=0):=af ⟨by rw[i,f];rfl,by rw[i]⟩;clear hb j B i d a hv c f;(go_enter func11,ntmps11);go_upto_region 1 with fail
 refine au ?_;intro A b;have s:aj (ah No w A):=af (by rw[b];exact(aA w).alloc _);have c0:ai A w.heap.size 0 21=some (fS r (.slice va r.ids.length vc)):=(by rw[b];simp[go_sem]);rw[←b]at l;clear b;(go_wp2_with fail);refine l.o.mono ?_;rintro e W ⟨rfl,a⟩;have u:=af (s.o.aK a);have m:=a.ai c0;have m0:=ak m 0 _ rfl;simp only[bC]at m0;clear a c0 l s;go_wp2_with fail
 (with_reducible refine(n.o _).mono ?_)
 rintro e E ⟨rfl,a⟩;have t:=af (u.o.aK a);have c1:=a.ai m;have m1:=a.cB m0;clear a m m0 n u;have x:=ak c1 20 _ rfl;simp only[bC]at x;have z:=af (y.o E (C.o.kept t.o (fun _ _ h=>h)));clear c1;(go_wp2_with fail);refine z.o.mono ?_;rintro e K ⟨rfl,a⟩;have D:=af (t.o.aK a);clear a x m1 y z;go_wp2
 go_ret2
 exact⟨by rw[q.o.1,q.o.2];rfl,D.o⟩
theorem Hz (w:World)(r:Lr)(v:Value)(hv:aW bN w v r.ids):Calls prog 11 #[oM r v] w (xL w r):=by
 cases hb:cH r with
 |false=>exact J3 w r v hv hb
 |true=>
  rcases sH hb with h|h|h|h|h
  ·exact ML w r v hv hb h
  ·exact MN w r v hv hb h
  ·exact MO w r v hv hb h
  ·exact MP w r v hv hb h
  ·exact MQ w r v hv hb h
theorem aI.block' {α:Type}{C:dX α}{e:TypeId}{w:World}{b:Nat}{v:Value}{l:List α}(h:aI C e w b v l){i:Nat}(hi:v.ownBlock=some i):∃cur:Array Value,w.heap[i]?=some (.cells cur e (0,0))∧b≤i:=by
 rcases h.2 with⟨rfl,_⟩|⟨g,cap,cur,rfl,hb,a,_⟩
 ·cases hi
 ·simp only[Value.ownBlock,Option.some.injEq]at hi;subst hi;exact⟨cur,a,hb⟩
structure r9 (w:World)(g gi gr:Nat)(s:Lr×dx)(v:Value)(wc:World):Prop where
 rd:eP wc g s.2
 bx:wc.heap[gi]?=some (.cells (fS s.1 v).toArray 30 (0,0))
 z:wc.heap[gr]?=some (.cells (fS Lr.zero (.slice none 0 0)).toArray 30 (0,0))
 k:ah No w wc
structure BL (w:World)(g gi gr:Nat):Prop where
 ng:w.heap.size≤g
 ni:w.heap.size≤gi
 nr:w.heap.size≤gr
 ir:gi≠gr
 ig:gi≠g
 rg:gr≠g
theorem r9.read {w wc w1:World}{g gi gr:Nat}{x:Lr}{r r':dx}{v:Value}(h:r9 w g gi gr (x,r) v wc)(a:BL w g gi gr)(c:eP w1 g r')(b:ah (Own g) wc w1):r9 w g gi gr (x,r') v w1:=
 ⟨c,b.heap h.bx a.ig,b.heap h.z a.rg,h.k.trans b (fun i hi e=>by have e:i=g:=e;have:=a.ng;omega)⟩
theorem r9.put {w w1 w2:World}{g gi gr:Nat}{x x':Lr}{r:dx}{v v':Value}(h:r9 w g gi gr (x,r) v w1)(a:BL w g gi gr)(b:ah (Own gi) w1 w2)(hb:w2.heap[gi]?=some (.cells (fS x' v').toArray 30 (0,0))):r9 w g gi gr (x',r) v' w2:=
 ⟨h.rd.kept b (fun e=>a.ig e.symm),hb,b.heap h.z (fun e=>a.ir e.symm),h.k.trans b (fun i hi e=>by have e:i=gi:=e;have:=a.ni;omega)⟩
theorem r9.cell {w w1:World}{g gi gr:Nat}{x x':Lr}{r:dx}{v v' u:Value}(h:r9 w g gi gr (x,r) v w1)(a:BL w g gi gr)(j:Nat)(hC:(fS x v).toArray.setIfInBounds j u=(fS x' v').toArray):r9 w g gi gr (x',r) v' (w1.setCell ⟨gi,j,none⟩ u):=
 h.put a ((aA (S:=Own gi) w1).setCell (p:=⟨gi,j,none⟩) (fun _=>(rfl:gi=gi)) _) (by rw[aB h.bx,hC])
theorem r9.row {w w1:World}{g gi gr:Nat}{x x':Lr}{r:dx}{v v':Value}(h:r9 w g gi gr (x,r) v w1)(a:BL w g gi gr)(C:Array Value)(hC:C=(fS x' v').toArray):r9 w g gi gr (x',r) v' (w1.setRow gi C):=
 h.put a ((aA (S:=Own gi) w1).setRow (fun _=>(rfl:gi=gi)) _) (by rw[kX w1 gi _ _ _ _ h.bx,hC])
theorem r9.opens {w w1:World}{g gi gr:Nat}{s:Lr×dx}{v:Value}(h:r9 w g gi gr s v w1):Open w1 gi∧(aL w1 gi).size=21∧aL w1 gi=(fS s.1 v).toArray:=
 ⟨⟨_,_,h.bx⟩,by unfold aL;rw[h.bx];rfl,by unfold aL;rw[h.bx]⟩
def UK (w:World)(g gi gr:Nat)(X:Lr×dx)(wc:World):Prop:=∃v,r9 w g gi gr X v wc∧aI bN 23 wc w.heap.size v X.1.ids
theorem PX {k:Int}{r:dx}(b1:(k==1)=false)(a:(k==2)=false)(b:(k==3)=false)(c:(k==5)=false):fM k r=(⟨k,0,0,0,Cm.zero,[]⟩,r):=by
 unfold fM;rw[b1,a,b,c];rfl
theorem HE (w:World)(s:ByteArray)(hs:(s.size:Int)≤140737488355328):Calls prog 13 #[.string s] w (zm w (ij s.data.toList)):=by
 obtain⟨R,ak⟩:=ay (ij s.data.toList);rw[←ak];unfold ij at ak;obtain⟨L,bq⟩:=ay (s.data.toList);rw[←bq]at ak;obtain⟨p0,e0⟩:=ay (bR (some L));rw[←e0]at ak;obtain⟨k,r0⟩:=p0;simp only at ak;obtain⟨X,bB⟩:=ay (fM k r0);rw[←bB]at ak;have u:=af bB;have bD:=af e0;have Z:=af ak;have aU:=af bq;have bE:=af hs;clear e0 ak bB bq hs;(go_enter func13,ntmps13);go_upto_region 2 with fail
 refine au ?_;intro bg Y;have bG:aj (ah No w bg):=af (by rw[Y];exact((aA w).alloc _).alloc _);have bk:aj (bg.heap[w.heap.size]?=some (.cells (fS Lr.zero (.slice none 0 0)).toArray 30 (0,0))):=af (by rw[Y];exact((aA (S:=No) _).alloc _).heap (bT w _) (fun h=>h));have bf:aj (eP bg (w.heap.size+1) (some L)):=af ⟨by
  rw[Y,lY w _ _];have e:s=⟨L.toArray⟩:=(by rw[aU.o]);rw[e];rfl,fun t cr=>by
  cases cr;have:=bE.o;have e:s.size=L.length:=(by rw[aU.o,qR];rfl);omega⟩
 obtain⟨gr,aO⟩:=ay (w.heap.size);obtain⟨g,bI⟩:=ay (w.heap.size+1);have M:aj (w.heap.size≤gr∧gr≠g∧w.heap.size≤g):=af ⟨by omega,by omega,by omega⟩;rw[←bI]at bf⊢;rw[←aO]at bk⊢;have C:=af (gE bf.o);rw[←bD.o]at C;clear Y aO bI bD aU bE;(go_wp2_with fail);refine C.o.mono ?_;rintro e w1 ⟨rfl,F,E⟩;have R1:=af F;have aW:aj (ah No w w1):=af (bG.o.trans E (fun i hi e=>by have e:i=g:=e;have:=M.o.2.2;omega));have bn:=af (E.heap bk.o M.o.2.1);clear F E C bf bG bk;go_upto_region 3 with fail
 refine au ?_;intro aJ aC;have aS:ah No w1 aJ:=(by rw[aC];exact(aA w1).alloc _);have aQ:aj (aJ.heap[w1.heap.size]?=some (.cells (fS ⟨k,0,0,0,Cm.zero,[]⟩ (.slice none 0 0)).toArray 30 (0,0))):=af (by rw[aC];exact bT w1 _);have f:aj (BL w g w1.heap.size gr):=af ⟨M.o.2.2,aW.o.size,M.o.1,by have:=(bX.1 bn.o).1;omega,by have:=R1.o.lt;omega,M.o.2.1⟩;obtain⟨gi,aN⟩:=ay (w1.heap.size);rw[←aN]at aQ f⊢;have O:aj (r9 w g gi gr (⟨k,0,0,0,Cm.zero,[]⟩,r0) (.slice none 0 0) aJ):=af ⟨R1.o.kept aS (fun h=>h),aQ.o,aS.heap bn.o (fun h=>h),aW.o.aK aS⟩;have c0:aJ.cell? ⟨gi,0,none⟩=some (qI k):=(by rw[bW _ _ _ _ _ _ aQ.o];rfl);clear aC aS aN R1 aW bn M aQ
 go_upto_block 0 with fail
 clear c0;go_cut [] (UK w g gi gr X)
 case first=>
  by_cases l:k=1
  ·have b1:(k==1)=true:=(by rw[l];rfl);have U:(k==2)=false:=(by rw[l];rfl);have V:(k==3)=false:=(by rw[l];rfl);have W:(k==5)=false:=(by rw[l];rfl);have I:aj (X=(⟨k,(bR r0).1,0,0,Cm.zero,[]⟩,(bR r0).2)):=af (by rw[u.o];unfold fM;rw[b1,U,V,W];rfl);clear u l;have C:=af (gE O.o.rd);obtain⟨p0,q⟩:=ay (bR r0);rw[←q]at C I;have av:=af q;clear q;(go_wp2_with fail);refine C.o.mono ?_;rintro e r ⟨rfl,F,E⟩;have J:=af (O.o.read f.o F E);have x0:r.cell? ⟨gi,1,none⟩=some (qI 0):=(by rw[bW _ _ _ _ _ _ J.o.bx];rfl);have f0:r.frozen? ⟨gi,1,none⟩=false:=bF _ _ _ _ _ J.o.bx;obtain⟨n0,r1⟩:=p0;clear F E C;(go_wp2_with fail);go_meet;rw[I.o];exact⟨_,J.o.cell f.o 1 rfl,cJ _ _ _ _⟩
  have n1:¬k=1:=l;clear l;by_cases l:k=2
  ·have b1:(k==1)=false:=(by rw[l];rfl);have U:(k==2)=true:=(by rw[l];rfl);have V:(k==3)=false:=(by rw[l];rfl);have W:(k==5)=false:=(by rw[l];rfl);have I:aj (X=(⟨k,0,(bR r0).1,(bR (bR r0).2).1,Cm.zero,[]⟩,(bR (bR r0).2).2)):=af (by rw[u.o];unfold fM;rw[b1,U,V,W];rfl);clear u l;have C:=af (gE O.o.rd);obtain⟨p0,q⟩:=ay (bR r0);rw[←q]at C I;have av:=af q;clear q;(go_wp2_with fail);refine C.o.mono ?_;rintro e r ⟨rfl,F,E⟩;have J:=af (O.o.read f.o F E);have x0:r.cell? ⟨gi,2,none⟩=some (qI 0):=(by rw[bW _ _ _ _ _ _ J.o.bx];rfl);have f0:r.frozen? ⟨gi,2,none⟩=false:=bF _ _ _ _ _ J.o.bx;obtain⟨n0,r1⟩:=p0;clear F E C;go_upto_region 8 with fail
   refine au ?_;intro bQ aM;have bH:aj (r9 w g gi gr (⟨k,0,n0,0,Cm.zero,[]⟩,r1) (.slice none 0 0) bQ):=af (by rw[aM];exact J.o.cell f.o 2 rfl);clear aM x0 f0;have C1:=af (gE bH.o.rd);obtain⟨ct,aD⟩:=ay (bR r1);rw[←aD]at C1 I;have bM:=af aD;clear aD;(go_wp2_with fail);refine C1.o.mono ?_;rintro e bL ⟨rfl,F,E⟩;have Q1:=af (bH.o.read f.o F E);have cE:bL.cell? ⟨gi,3,none⟩=some (qI 0):=(by rw[bW _ _ _ _ _ _ Q1.o.bx];rfl);have f1:bL.frozen? ⟨gi,3,none⟩=false:=bF _ _ _ _ _ Q1.o.bx;obtain⟨n1,r2⟩:=ct;clear F E C1;(go_wp2_with fail);go_meet;rw[I.o];exact⟨_,Q1.o.cell f.o 3 rfl,cJ _ _ _ _⟩
  have bJ:¬k=2:=l;clear l;by_cases l:k=3
  ·have b1:(k==1)=false:=(by rw[l];rfl);have U:(k==2)=false:=(by rw[l];rfl);have V:(k==3)=true:=(by rw[l];rfl);have W:(k==5)=false:=(by rw[l];rfl);have I:aj (X=(⟨k,0,0,0,(c8 r0).1,[]⟩,(c8 r0).2)):=af (by rw[u.o];unfold fM;rw[b1,U,V,W];rfl);clear u l;have C:=af (GU O.o.rd);obtain⟨p0,q⟩:=ay (c8 r0);rw[←q]at C I;have av:=af q;clear q;(go_wp2_with fail);refine C.o.mono ?_;rintro e r ⟨rfl,F,E⟩;have J:=af (O.o.read f.o F E);obtain⟨cC,cD,d0⟩:=J.o.opens;have aT:=af d0;obtain⟨⟨a0,cu,a2,a3,⟨b0,bS,bV,bY,bZ,b_,cv,cw,cA,cB,bU⟩,a5⟩,r1⟩:=p0;clear F E C d0;(go_wp2_with fail);go_meet;rw[I.o];exact⟨_,J.o.row f.o _ (by rw[aT.o];rfl),cJ _ _ _ _⟩
  have n3:¬k=3:=l;clear l;by_cases l:k=5
  ·have b1:(k==1)=false:=(by rw[l];rfl);have U:(k==2)=false:=(by rw[l];rfl);have V:(k==3)=false:=(by rw[l];rfl);have W:(k==5)=true:=(by rw[l];rfl);have I:aj (X=(⟨k,0,0,0,Cm.zero,(jx aF 1024 r0).1⟩,(jx aF 1024 r0).2)):=af (by rw[u.o];unfold fM;rw[b1,U,V,W];rfl);clear u l;have C:=af (ER O.o.rd);obtain⟨p0,q⟩:=ay (jx aF 1024 r0);rw[←q]at C I;have av:=af q;clear q;(go_wp2_with fail);refine C.o.mono ?_;rintro e r ⟨v5,rfl,aR,F,E⟩;have J:=af (O.o.read f.o F E);obtain⟨va,vc,rfl⟩:=aq aR;have O0:=af (aI.base aR O.o.k.size);have aV:=af (fun j (e:(Value.slice va p0.1.length vc).ownBlock=some j)=>(aR.lt j e).1);have x0:r.cell? ⟨gi,20,none⟩=some (.slice none 0 0):=(by rw[bW _ _ _ _ _ _ J.o.bx];rfl);have f0:r.frozen? ⟨gi,20,none⟩=false:=bF _ _ _ _ _ J.o.bx;obtain⟨aE,r1⟩:=p0;have lg:gi<aJ.heap.size:=(bX.1 O.o.bx).1;clear F E C aR;(go_wp2_with fail);go_meet;rw[I.o];refine⟨_,J.o.cell f.o 20 rfl,?_⟩;exact((aA (S:=Own gi) r).setCell (p:=⟨gi,20,none⟩) (fun _=>(rfl:gi=gi)) _).owns O0.o (fun j cq e=>by have:=aV.o j cq;have e:j=gi:=e;omega)
  have bK:¬k=5:=l;clear l;have b1:(k==1)=false:=(by simpa using n1);have U:(k==2)=false:=(by simpa using bJ);have V:(k==3)=false:=(by simpa using n3);have W:(k==5)=false:=(by simpa using bK);have I:aj (X=(⟨k,0,0,0,Cm.zero,[]⟩,r0)):=af (by rw[u.o,PX b1 U V W]);clear u n1 bJ n3 bK;(go_wp2_with fail);go_meet;rw[I.o];exact⟨_,O.o,cJ _ _ _ _⟩
 case rest=>
  obtain⟨B,bC⟩:=ay (wc);subst bC;obtain⟨v,aB,bu⟩:=hcut;obtain⟨va,vc,rfl⟩:=aq bu;have aP:=af aB;have aZ:=af bu;have Q:=af aB.k;have aG:Open B gr:=⟨_,_,aB.z⟩;have sz:(aL B gr).size=21:=(by unfold aL;rw[aB.z];rfl);have l1:=aB.rd.iM;obtain⟨x,r1⟩:=X;have bp:ai B gi 0 21=some (fS x (.slice va x.ids.length vc)):=(by unfold ai;rw[aB.bx];rfl);clear aB bu O u;cases r1 with
  |none=>
   have G:aj (R=(Lr.zero,2)):=af (by rw[Z.o];rfl);clear Z;have l1:B.cell? ⟨g,1,none⟩=some (.bool true):=l1;(go_wp2_with fail);have H:ai (B.setRow gr #[qI 0,qI 0,qI 0,qI 0,qI 0,qI 0,qI 0,qI 0,qI 0,qI 0,qI 0,qI 0,qI 0,qI 0,qI 0,qI 0,qI 0,qI 0,qI 0,qI 0,.slice none 0 0]) gr 0 21=some (fS R.1 (.slice none 0 0)):=(by rw[aH _ _ _ _ _ aG,G.o];rfl);have P:ah (Own gr) B (B.setRow gr #[qI 0,qI 0,qI 0,qI 0,qI 0,qI 0,qI 0,qI 0,qI 0,qI 0,qI 0,qI 0,qI 0,qI 0,qI 0,qI 0,qI 0,qI 0,qI 0,qI 0,.slice none 0 0]):=(aA (S:=Own gr) B).setRow (fun _=>(rfl:gr=gr)) _;have A:R.2=2:=(by rw[G.o]);have d:aj (aI bN 23 (B.setRow gr #[qI 0,qI 0,qI 0,qI 0,qI 0,qI 0,qI 0,qI 0,qI 0,qI 0,qI 0,qI 0,qI 0,qI 0,qI 0,qI 0,qI 0,qI 0,qI 0,qI 0,.slice none 0 0]) w.heap.size (.slice none 0 0) R.1.ids∧ah No w (B.setRow gr #[qI 0,qI 0,qI 0,qI 0,qI 0,qI 0,qI 0,qI 0,qI 0,qI 0,qI 0,qI 0,qI 0,qI 0,qI 0,qI 0,qI 0,qI 0,qI 0,qI 0,.slice none 0 0])):=af ⟨by
    rw[G.o];exact cJ _ _ _ _,Q.o.trans P (fun i hi e=>by have e:i=gr:=e;have:=f.o.nr;omega)⟩
   refine aY (v:= .tuple #[oM R.1 (.slice none 0 0),qI R.2]) ?_ rfl ⟨(.slice none 0 0),rfl,d.o.1,d.o.2⟩;rw[A];clear d P A;simp[results,results13,go_sem,H]
  |some t=>
   have l1:B.cell? ⟨g,1,none⟩=some (.bool false):=l1;have aE:B.cell? ⟨g,0,none⟩=some (.string ⟨t.toArray⟩):=(by simp[World.cell?,aP.o.rd.box,lE]);cases t with
   |cons a t=>
    have G:aj (R=(Lr.zero,2)):=af (by rw[Z.o];rfl);clear Z;obtain⟨T,bA⟩:=ay (⟨(a::t).toArray⟩:ByteArray);have cg:0<T.size:=(by rw[bA];exact Nat.succ_pos _);have cn:(0:Int)<(T.size:Int):=(by omega);rw[←bA]at aE;clear bA;(go_wp2_with fail);have H:ai (B.setRow gr #[qI 0,qI 0,qI 0,qI 0,qI 0,qI 0,qI 0,qI 0,qI 0,qI 0,qI 0,qI 0,qI 0,qI 0,qI 0,qI 0,qI 0,qI 0,qI 0,qI 0,.slice none 0 0]) gr 0 21=some (fS R.1 (.slice none 0 0)):=(by rw[aH _ _ _ _ _ aG,G.o];rfl);have P:ah (Own gr) B (B.setRow gr #[qI 0,qI 0,qI 0,qI 0,qI 0,qI 0,qI 0,qI 0,qI 0,qI 0,qI 0,qI 0,qI 0,qI 0,qI 0,qI 0,qI 0,qI 0,qI 0,qI 0,.slice none 0 0]):=(aA (S:=Own gr) B).setRow (fun _=>(rfl:gr=gr)) _;have A:R.2=2:=(by rw[G.o]);have d:aj (aI bN 23 (B.setRow gr #[qI 0,qI 0,qI 0,qI 0,qI 0,qI 0,qI 0,qI 0,qI 0,qI 0,qI 0,qI 0,qI 0,qI 0,qI 0,qI 0,qI 0,qI 0,qI 0,qI 0,.slice none 0 0]) w.heap.size (.slice none 0 0) R.1.ids∧ah No w (B.setRow gr #[qI 0,qI 0,qI 0,qI 0,qI 0,qI 0,qI 0,qI 0,qI 0,qI 0,qI 0,qI 0,qI 0,qI 0,qI 0,qI 0,qI 0,qI 0,qI 0,qI 0,.slice none 0 0])):=af ⟨by
     rw[G.o];exact cJ _ _ _ _,Q.o.trans P (fun i hi e=>by have e:i=gr:=e;have:=f.o.nr;omega)⟩
    refine aY (v:= .tuple #[oM R.1 (.slice none 0 0),qI R.2]) ?_ rfl ⟨(.slice none 0 0),rfl,d.o.1,d.o.2⟩;rw[A];clear d P A;simp[results,results13,go_sem,H]
   |nil=>
    have aE:B.cell? ⟨g,0,none⟩=some (.string ⟨#[]⟩):=aE;have K:=af (lK B x (.slice va x.ids.length vc) (aI.reads aZ.o));cases N:cH x with
    |false=>
     have G:aj (R=(Lr.zero,2)):=af (by rw[Z.o];rw[show cH x=false from N];rfl)
     clear Z;rw[N]at K;clear N;(go_wp2_with fail);refine K.o.mono ?_;rintro e r ⟨rfl,D⟩;have aX:=af (Q.o.aK D);have z5:=D.heap aP.o.z (fun h=>h);replace aG:Open r gr:=⟨_,_,z5⟩;replace sz:(aL r gr).size=21:=(by unfold aL;rw[z5];rfl);clear D bp aE l1 K z5 Q;have Q:=aX;(go_wp2_with fail);have H:ai (r.setRow gr #[qI 0,qI 0,qI 0,qI 0,qI 0,qI 0,qI 0,qI 0,qI 0,qI 0,qI 0,qI 0,qI 0,qI 0,qI 0,qI 0,qI 0,qI 0,qI 0,qI 0,.slice none 0 0]) gr 0 21=some (fS R.1 (.slice none 0 0)):=(by rw[aH _ _ _ _ _ aG,G.o];rfl);have P:ah (Own gr) r (r.setRow gr #[qI 0,qI 0,qI 0,qI 0,qI 0,qI 0,qI 0,qI 0,qI 0,qI 0,qI 0,qI 0,qI 0,qI 0,qI 0,qI 0,qI 0,qI 0,qI 0,qI 0,.slice none 0 0]):=(aA (S:=Own gr) r).setRow (fun _=>(rfl:gr=gr)) _;have A:R.2=2:=(by rw[G.o]);have d:aj (aI bN 23 (r.setRow gr #[qI 0,qI 0,qI 0,qI 0,qI 0,qI 0,qI 0,qI 0,qI 0,qI 0,qI 0,qI 0,qI 0,qI 0,qI 0,qI 0,qI 0,qI 0,qI 0,qI 0,.slice none 0 0]) w.heap.size (.slice none 0 0) R.1.ids∧ah No w (r.setRow gr #[qI 0,qI 0,qI 0,qI 0,qI 0,qI 0,qI 0,qI 0,qI 0,qI 0,qI 0,qI 0,qI 0,qI 0,qI 0,qI 0,qI 0,qI 0,qI 0,qI 0,.slice none 0 0])):=af ⟨by
      rw[G.o];exact cJ _ _ _ _,Q.o.trans P (fun i hi e=>by have e:i=gr:=e;have:=f.o.nr;omega)⟩
     refine aY (v:= .tuple #[oM R.1 (.slice none 0 0),qI R.2]) ?_ rfl ⟨(.slice none 0 0),rfl,d.o.1,d.o.2⟩;rw[A];clear d P A;simp[results,results13,go_sem,H]
    |true=>
     have G:aj (R=(x,0)):=af (by rw[Z.o,show cH x=true from N];rfl)
     rw[N]at K;clear N Z;(go_wp2_with fail);refine K.o.mono ?_;rintro e r ⟨rfl,D⟩;have aX:=af (Q.o.aK D);have z5:=D.heap aP.o.z (fun h=>h);have c5:=D.ai bp;have bP:=af (D.mM aZ.o);have bO:aj (∀i,(Value.slice va x.ids.length vc).ownBlock=some i→i≠gr):=af (fun i hi e=>by
      obtain⟨cur,hc,_⟩:=aI.block' aZ.o hi;rw[e,aP.o.z]at hc;cases hc)
     replace aG:Open r gr:=⟨_,_,z5⟩;replace sz:(aL r gr).size=21:=(by unfold aL;rw[z5];rfl);clear D bp aE l1 K z5 Q;have Q:=aX;(go_wp2_with fail);have H:ai (r.setRow gr #[qI x.k,qI x.n,qI x.s,qI x.i,qI x.c.k,qI x.c.s,qI x.c.i,qI x.c.g,qI x.c.b.s,qI x.c.b.i,qI x.c.b.g,qI x.c.b.m,qI x.c.b.x,qI x.c.b.y,qI x.c.b.vx,qI x.c.b.vy,qI x.c.b.hp,qI x.c.b.pw,qI x.c.b.lf,qI x.c.m,.slice va x.ids.length vc]) gr 0 21=some (fS R.1 (.slice va x.ids.length vc)):=(by rw[aH _ _ _ _ _ aG,G.o];rfl);have P:ah (Own gr) r (r.setRow gr #[qI x.k,qI x.n,qI x.s,qI x.i,qI x.c.k,qI x.c.s,qI x.c.i,qI x.c.g,qI x.c.b.s,qI x.c.b.i,qI x.c.b.g,qI x.c.b.m,qI x.c.b.x,qI x.c.b.y,qI x.c.b.vx,qI x.c.b.vy,qI x.c.b.hp,qI x.c.b.pw,qI x.c.b.lf,qI x.c.m,.slice va x.ids.length vc]):=(aA (S:=Own gr) r).setRow (fun _=>(rfl:gr=gr)) _;have A:R.2=0:=(by rw[G.o]);have d:aj (aI bN 23 (r.setRow gr #[qI x.k,qI x.n,qI x.s,qI x.i,qI x.c.k,qI x.c.s,qI x.c.i,qI x.c.g,qI x.c.b.s,qI x.c.b.i,qI x.c.b.g,qI x.c.b.m,qI x.c.b.x,qI x.c.b.y,qI x.c.b.vx,qI x.c.b.vy,qI x.c.b.hp,qI x.c.b.pw,qI x.c.b.lf,qI x.c.m,.slice va x.ids.length vc]) w.heap.size (.slice va x.ids.length vc) R.1.ids∧ah No w (r.setRow gr #[qI x.k,qI x.n,qI x.s,qI x.i,qI x.c.k,qI x.c.s,qI x.c.i,qI x.c.g,qI x.c.b.s,qI x.c.b.i,qI x.c.b.g,qI x.c.b.m,qI x.c.b.x,qI x.c.b.y,qI x.c.b.vx,qI x.c.b.vy,qI x.c.b.hp,qI x.c.b.pw,qI x.c.b.lf,qI x.c.m,.slice va x.ids.length vc])):=af ⟨by
      rw[G.o];exact P.owns bP.o (fun i hi e=>bO.o i hi e),Q.o.trans P (fun i hi e=>by have e:i=gr:=e;have:=f.o.nr;omega)⟩
     refine aY (v:= .tuple #[oM R.1 (.slice va x.ids.length vc),qI R.2]) ?_ rfl ⟨(.slice va x.ids.length vc),rfl,d.o.1,d.o.2⟩;rw[A];clear d P A;simp[results,results13,go_sem,H]
