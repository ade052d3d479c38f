/- Lemmas. -/
import Derived.Test.YtpbpgjfdledgoaaGreatDoorZo10
set_option linter.all false
set_option maxRecDepth 100000
set_option maxHeartbeats 8000000
open List renaming cons_append→nA
namespace Go.Proofs.YtpbpgjfdledgoaaGreatDoor
open Go.Proofs.Tryz
open Go.RowKit Go.Shelf Go.Sort Go.Joins
abbrev jg (w:World)(v:Value)(l:List ByteArray):Prop:=Reads w 1 v l.length (l.map .string)
theorem jg.cell {w:World}{v:Value}{l:List ByteArray}(h:jg w v l)(hl:0<l.length):∃b off c,v= .slice (some ⟨b,off,none⟩) l.length c∧l.length≤c∧c≤maxLen∧b<w.heap.size∧∀(j:Nat) (s:ByteArray),l[j]?=some s→w.cell? ⟨b,off+j,none⟩=some (.string s):=by
 obtain⟨b,off,c,hv,a,d,e,f⟩:=h.addr (by simpa using hl);exact⟨b,off,c,hv,a,d,e,fun j n g=>f j _ (by rw[oR,g];rfl)⟩
theorem jg.len {w:World}{v:Value}{l:List ByteArray}(h:jg w v l):l.length≤maxLen:=by
 rcases h.shape with⟨_,h0⟩|⟨_,c',he,a,b,_⟩
 ·simp[h0]
 ·omega
def jJ (s:ByteArray):Bool:=decide ((65536:Int)<(s.size:Int))
theorem FC (w:World)(s:ByteArray):Calls prog 96 #[.string s] w fun e w'=>e= .returned (.bool (jJ s))∧w=w':=by
 (go_enter func96,ntmps96);go_wp2;go_ret;exact⟨rfl,rfl⟩
abbrev RT:Value:= .func (.func 96) #[] #[]
theorem tj (w:World)(v:Value)(l:List ByteArray)(hv:jg w v l):Calls prog 184 #[v,RT] w fun e w'=>e= .returned (qI (gA jJ l))∧w=w':=by
 have hlen:=hv.len;unfold maxLen at hlen;obtain⟨va,vc,rfl⟩:=hv.slice;have r:=af hv;have y:(l.length:Int)≤9223372036854775807:=(by omega);clear hv hlen;(go_enter func184,ntmps184);go_wp2
 go_loop [8] (fun q=>∃k:Nat,k≤l.length∧q=qI k∧∀j,(h:j<k)→(f:j<l.length)→jJ l[j]=false) (fun q=>l.length-(intOf q).toNat)
 case atStart=>exact⟨0,aX _,rfl,fun j h=>absurd h (w5 _)⟩
 case round=>
  obtain⟨k,z,rfl,d⟩:=hrel;by_cases g:k<l.length
  ·obtain⟨b,off,c,he,_,_,_,n⟩:=jg.cell r.o (by omega);simp only[Value.slice.injEq,true_and]at he;obtain⟨rfl,rfl⟩:=he;have hc:=n k _ (fw g);have u:(0:Int)≤(k:Int):=(by omega);have x:(k:Int)<(l.length:Int):=(by omega);have a:=af d;obtain⟨s,hs⟩:=ay (l[k]);rw[←hs]at hc;have m:=af hs;clear n d hs;cases hb:jJ s with
   |true=>
    (go_wp2_with fail);refine(FC w s).mono ?_;rintro e w1 ⟨rfl,rfl⟩;go_wp2;go_ret;exact⟨by rw[Ac jJ l k g a.o (by rw[←m.o];exact hb)];rfl,rfl⟩
   |false=>
    have p:=af hb;(go_wp2_with fail);refine(FC w s).mono ?_;rintro e w1 ⟨rfl,rfl⟩;go_wp2
    go_round
    case rel=>
     refine⟨k+1,by omega,by go_num,fun j h f=>?_⟩;by_cases t:j<k
     ·exact a.o j t f
     ·obtain rfl:j=k:=(by omega);rw[←m.o];exact p.o
    case measure=>simp[intOf];omega
  ·have i:k=l.length:=(by omega);subst i;have a:=af d;clear d;go_wp2;go_ret;exact⟨by rw[uZ jJ l (fun j f=>a.o j f f)];rfl,rfl⟩
theorem yg (w:World)(v:Value)(l:List ByteArray)(hv:jg w v l):Calls prog 95 #[v,RT] w fun e w'=>e= .returned (.bool (l.any jJ))∧w=w':=by
 have f:=af hv;have d:(gA jJ l= -1∧l.any jJ=false)∨∃k:Nat,gA jJ l=k∧l.any jJ=true:=by
  rcases jS jJ l with⟨h,g⟩|⟨k,h,i,hp,_⟩
  ·exact .inl ⟨h,by rw[wU];intro x m;simp[g x m]⟩
  ·exact .inr ⟨k,h,by rw[List.any_eq_true];exact⟨_,dw i,hp⟩⟩
 clear hv;rcases d with⟨a,b⟩|⟨k,a,b⟩
 ·have H1:=af a;have c:=af b;clear a b;(go_enter func95,ntmps95);(go_wp2_with fail);refine(tj w v l f.o).mono ?_;rintro e w1 ⟨rfl,rfl⟩;rw[H1.o];go_wp2;go_ret;exact⟨by rw[c.o];rfl,rfl⟩
 ·have H1:=af a;have c:=af b;have j:(0:Int)≤(k:Int):=(by omega);clear a b;(go_enter func95,ntmps95);(go_wp2_with fail);refine(tj w v l f.o).mono ?_;rintro e w1 ⟨rfl,rfl⟩;rw[H1.o];go_wp2;go_ret;exact⟨by rw[c.o];rfl,rfl⟩
def layAll:List ByteArray→Lg→Ds→Int×Lg×Ds
 | [],g,d=>(0,g,d)
 |s::r,g,d=>bif (g.lay d s).1==0 then layAll r (g.lay d s).2.1 (g.lay d s).2.2 else g.lay d s
def Lg.append (g:Lg)(d:Ds)(l:List ByteArray):Int×Lg×Ds:=bif l.any jJ then(1,g,d)else layAll l g d
theorem Ll (g:Lg)(d:Ds)(s:ByteArray):(g.lay d s).2.1.aD.length≤g.aD.length+1∧(g.lay d s).2.1.next≤g.next+1:=by
 unfold Lg.lay;cases decide ((d.look g.last).s.size<4096)
 ·rw[aN];cases decide (99999999<g.next)
  ·rw[aN];generalize((d.sync g.last).2.append (g.file g.next) (bI s))=x;cases x.1==0
   ·exact⟨q6 _,q6 _⟩
   ·exact⟨by simp,bM _⟩
  ·exact⟨q6 _,q6 _⟩
 ·rw[bH];generalize d.append g.last (bI s)=x;cases x.1==0
  ·exact⟨q6 _,q6 _⟩
  ·exact⟨q6 _,bM _⟩
theorem rE (s:ByteArray):∀(l:List ByteArray) (g:Lg) (d:Ds) (g':Lg) (a:Ds),layAll l g d=(0,g',a)→layAll (l++ [s]) g d=g'.lay a s
 | [],g,d,g',a,h=>by
   obtain⟨_,b⟩:=h_ h;obtain⟨rfl,rfl⟩:=h_ b;rw[List.nil_append,layAll];cases hb:(g.lay d s).1==0
   ·rfl
   ·rw[bH,layAll];have:=eq_of_beq hb;exact(Prod.ext this.symm rfl)
 |x::l,g,d,g',a,h=>by
  rw[layAll]at h;rw[nA,layAll];cases hb:(g.lay d x).1==0
  ·rw[hb,aN]at h;rw[h]at hb;cases hb
  ·rw[hb,bH]at h;rw[bH];exact rE s l _ _ g' a h
theorem oq (r:List ByteArray):∀(l:List ByteArray) (g:Lg) (d:Ds) (e:Int) (x:Lg×Ds),layAll l g d=(e,x)→(e==0)=false→layAll (l++r) g d=(e,x)
 | [],g,d,e,x,h,he=>by
   obtain⟨rfl,_⟩:=h_ h;cases he
 |y::l,g,d,e,x,h,he=>by
  rw[layAll]at h;rw[nA,layAll];cases hb:(g.lay d y).1==0
  ·rw[hb,aN]at h;rw[aN];exact h
  ·rw[hb,bH]at h;rw[bH];exact oq r l _ _ e x h he
theorem p4:∀(l:List ByteArray) (g:Lg) (d:Ds),(layAll l g d).2.1.aD.length≤g.aD.length+l.length∧(layAll l g d).2.1.next≤g.next+l.length
 | [],g,d=>⟨bM _,bM _⟩
 |s::l,g,d=>by
  rw[layAll];have h:=Ll g d s;cases(g.lay d s).1==0
  ·rw[aN,g_];omega
  ·rw[bH,g_];have:=p4 l (g.lay d s).2.1 (g.lay d s).2.2;omega
section
variable {w:World}{base l p b:Nat}{v:Value}{g:Lg}{d:Ds}
theorem tq (aF:Laid w base)(hb:base≤w.heap.size)(h:j8 w base l p b v g d)(aH:aV w base v g.aD)(av:Value)(xs:List ByteArray)(t:jg w av xs)(A:∀i,av.ownBlock=some i→¬nD l p b v i)
 (E:g.next+xs.length≤1000000000000) (B:g.aD.length+xs.length≤1000000)
 (ec:Int) (g':Lg) (aK:Ds) (m:g.append d xs=(ec,g',aK)):Calls prog 29 #[dP l,av] w (Km w base l p b v ec g' aK):=by
 obtain⟨va,vc,rfl⟩:=t.slice;unfold Lg.append at m;have hlen:aj ((xs.length:Int)≤1000000):=af (by omega);have aO:=af hb;have H:=af h;have aM:=af aF;have aJ:=af aH;have aE:=af E;have aB:=af B;have z:=af t;have aq:=af A;cases a:xs.any jJ with
 |true=>
  rw[a,bH]at m;have V:=af m;have n:=af a;clear hb m h aF aH E B t A a;(go_enter func29,ntmps29);(go_wp2_with fail);refine(yg w _ xs z.o).mono ?_;rintro e w1 ⟨rfl,rfl⟩;rw[n.o];go_wp2;go_ret;have m:=V.o;simp only[Prod.mk.injEq]at m;obtain⟨rfl,rfl,rfl⟩:=m;exact⟨rfl,_,H.o,aJ.o,fun k Z=> .inl Z,aA _⟩
 |false=>
  rw[a,aN]at m;have V:=af m;have n:=af a;clear hb m h aF aH E B t A a;(go_enter func29,ntmps29);(go_wp2_with fail);refine(yg w _ xs z.o).mono ?_;rintro e w1 ⟨rfl,rfl⟩;rw[n.o];go_wp2
  go_loopw [16] (fun q wr=>∃(k:Nat) (gk:Lg) (dk:Ds) (U:Value),k≤xs.length∧q=qI k∧layAll (xs.take k) g d=(0,gk,dk)∧j8 wr base l p b U gk dk∧aV wr base U gk.aD∧o6 w v U∧ah (nD l p b v) w wr) (fun q _=>xs.length-(intOf q).toNat)
  case atStart=>exact⟨0,g,d,v,aX _,rfl,rfl,H.o,aJ.o,fun k Z=> .inl Z,aA _⟩
  case round=>
   obtain⟨k,gk,dk,U,Z,rfl,f,hW,Y,X,hK⟩:=hrel;by_cases D:k<xs.length
   ·have R:=z.o.kept hK (fun i hi hs=>aq.o i hi hs);obtain⟨q,off,c,he,_,_,_,aL⟩:=jg.cell R (by omega);simp only[Value.slice.injEq,true_and]at he;obtain⟨rfl,rfl⟩:=he;have hc:=aL k _ (fw D);have aQ:(0:Int)≤(k:Int):=(by omega);have aS:(k:Int)<(xs.length:Int):=(by omega);have aR:(k:Int)+1≤1000001:=(by have:=hlen.o;omega);have y:¬jJ xs[k]=true:=by
     have:=n.o;rw[wU]at this;exact this _ (dw D)
    have F:xs.take (k+1)=xs.take k++ [xs[k]]:=iK D;have T:xs=xs.take (k+1)++xs.drop (k+1):=(jN _ _).symm;have u:=p4 (xs.take k) g d;rw[f,fB]at u;dsimp only at u;obtain⟨s,hs⟩:=ay (xs[k]);rw[←hs]at hc y F;have aI:(s.size:Int)≤65536:=(by unfold jJ at y;simp at y;omega);have j:=rE s (xs.take k) g d gk dk f;rw[←F]at j;obtain⟨⟨e1,g1,d1⟩,C⟩:∃x,gk.lay dk s=x:=⟨_,rfl⟩;rw[C]at j;have aC:=af C;have r:=af j;have M:=af u;have ak:=af hW;have ai:=af Y;have W:=af X;have G:=af hK;have Lr:=af (H.o.laid aM.o hK);have au:=af T;clear aL R hs F T u f C j hW Y X hK y;(go_wp2_with fail);refine(Qy Lr.o (by have:=aO.o;have:=G.o.size;omega) ak.o ai.o s aI (by have:=M.o;have:=aE.o;omega) (by have:=M.o;have:=aB.o;omega) e1 g1 d1 aC.o).mono ?_;rintro e w2 ⟨rfl,v2,S,Q,P,O⟩;have L:=af S;have K:=af Q;have J:aj (o6 w v v2):=af (fun i hi=>by
     rcases P i hi with e|e
     ·exact W.o i e
     ·exact .inr (aU G.o.size e))
    have I:aj (ah (nD l p b v) w w2):=af (G.o.trans O (fun i hi hs=>by
     rcases hs with e|e|e|e
     ·exact .inl e
     ·exact .inr (.inl e)
     ·exact .inr (.inr (.inl e))
     ·rcases W.o i e with e|e
      ·exact .inr (.inr (.inr e))
      ·omega))
    clear S Q P O;by_cases he:e1=0
    ·subst he;have h0:((0:Int) !=0)=false:=rfl;go_wp2;go_roundw
     case rel=>exact⟨k+1,g1,d1,v2,by omega,by go_num,r.o,L.o,K.o,J.o,I.o⟩
     case measure=>simp[intOf];omega
    ·have h0:(e1 !=0)=true:=(by simpa using he);have aP:(e1==0)=false:=(by simpa using he);go_wp2;go_ret;have m:=V.o;rw[au.o,oq _ _ g d e1 _ r.o aP]at m;simp only[Prod.mk.injEq]at m;obtain⟨rfl,rfl,rfl⟩:=m;exact⟨rfl,v2,L.o,K.o,J.o,I.o⟩
   ·have aG:k=xs.length:=(by omega);subst aG;rw[jH]at f;have N:=af f;have ak:=af hW;have ai:=af Y;have W:=af X;have G:=af hK;clear f hW Y X hK;go_wp2;go_ret;have m:=V.o;rw[N.o]at m;simp only[Prod.mk.injEq]at m;obtain⟨rfl,rfl,rfl⟩:=m;exact⟨rfl,U,ak.o,ai.o,W.o,G.o⟩
end
theorem look_ok {w:World}{p b:Nat}{d:Ds}(h:qN w p b d)(n:ByteArray):nB (d.look n):=by
 unfold Ds.look;rcases oh d.fs n with hc|⟨hc,_⟩|⟨f,hc,a,_⟩
 ·rw[hc];exact⟨by decide,by decide⟩
 ·rw[hc];exact⟨by decide,by decide⟩
 ·rw[hc];exact h.zR a
theorem vr (s:Nm):(parse s).length*7≤s.length:=aU (Ak _) (zY s)
section
variable {w:World}{base l p b:Nat}{v:Value}{g:Lg}{d:Ds}
end
def lS (name:ByteArray)(L:List Nat)(d:Ds):Ds:=L.foldl (fun d n=>(d.remove (aZ name n)).2) d
theorem Am (name:ByteArray)(L:List Nat)(n:Nat)(d:Ds):lS name (L++ [n]) d=((lS name L d).remove (aZ name n)).2:=by simp[lS]
def Core (l p b:Nat):Nat→Prop:=fun i=>i=l∨i=p∨i=b
theorem Nv {w w':World}{l p b:Nat}(k:ah (Two p b) w w'):ah (Core l p b) w w':=k.mono (fun _ _ h=>by rcases h with h|h;exact .inr (.inl h);exact .inr (.inr h))
section
variable {w:World}{base l p b:Nat}{v:Value}{g:Lg}{d:Ds}
end
