/- Lemmas. -/
import Derived.Test.YtpbpgjfdledgoaaGreatDoorZo34
set_option linter.all false
set_option maxRecDepth 100000
set_option maxHeartbeats 8000000
open Nat renaming zero_add→bC
open Bool renaming and_eq_true→eA
open List renaming length_append→ic,append_assoc→o_
namespace Go.Proofs.YtpbpgjfdledgoaaGreatDoor
open Go.Proofs.Tryz
open Go.RowKit Go.Shelf Go.Sort Go.Joins Go.Deep
theorem kO {w:World}{g:Nat}{r:dx}(h:eP w g r):Calls prog 139 #[dP g] w fun e w'=>e= .returned (.tuple #[])∧eP w' g none∧ah (Own g) w w':=by
 obtain⟨x,y,hb⟩:=h.cells;have a:=af hb;have b:=h.lt;have d0:w.cell? ⟨g,0,none⟩=some x:=(by rw[bW _ _ _ _ _ _ hb];rfl);have d1:w.cell? ⟨g,1,none⟩=some y:=(by rw[bW _ _ _ _ _ _ hb];rfl);have f0:w.frozen? ⟨g,0,none⟩=false:=bF _ _ _ _ _ hb;have f1:w.frozen? ⟨g,1,none⟩=false:=bF _ _ _ _ _ hb;clear h hb;(go_enter func139,ntmps139);go_wp2;refine pP (nw rfl _ _ _) rfl ?_;refine⟨rfl,⟨oy a.o _ _,fun s h=>by cases h⟩,?_⟩;exact(((aA (S:=Own g) w).setCell (p:=⟨g,1,none⟩) (fun _=>(rfl:g=g)) _).setCell (p:=⟨g,0,none⟩) (fun _=>(rfl:g=g)) _)
theorem JH {w:World}{g:Nat}{r:dx}(h:eP w g r)(m:Int):Calls prog 140 #[dP g,qI m] w fun e w'=>e= .returned (qI (dc m r).1)∧eP w' g (dc m r).2∧ah (Own g) w w':=by
 obtain⟨p,hp⟩:=ay (bR r);have C:=af (gE h);have f:aj (dc m r=bif decide (p.1<0)||decide (m<p.1)then(0,none)else p):=af (by rw[hp];rfl)
 rw[←hp]at C;obtain⟨R,n⟩:=ay (dc m r);rw[←n]at f⊢;clear hp n h;(go_enter func140,ntmps140);(go_wp2_with fail);refine C.o.mono ?_;rintro e w1 ⟨rfl,s,q⟩;have k:=af s;have i:=af q;clear s q;by_cases h0:p.1<0
 ·have c:aj (R=(0,none)):=af (by rw[f.o,aM h0];rfl);go_wp2_with fail
  (with_reducible refine(kO k.o).mono ?_)
  rintro e w2 ⟨rfl,b,a⟩;have d:=af b;have j:=af (i.o.aK a);clear b a;go_wp2;go_ret;exact⟨by rw[c.o];rfl,by rw[c.o];exact d.o,j.o⟩
 ·by_cases l:m<p.1
  ·have c:aj (R=(0,none)):=af (by rw[f.o,aJ h0,aM l];rfl);go_wp2_with fail
   (with_reducible refine(kO k.o).mono ?_)
   rintro e w2 ⟨rfl,b,a⟩;have d:=af b;have j:=af (i.o.aK a);clear b a;go_wp2;go_ret;exact⟨by rw[c.o];rfl,by rw[c.o];exact d.o,j.o⟩
  ·have c:aj (R=p):=af (by rw[f.o,aJ h0,aJ l];rfl);go_wp2;go_ret;exact⟨by rw[c.o];rfl,by rw[c.o];exact k.o,i.o⟩
theorem kx (w:World)(a:cO):Calls prog 121 #[iE a] w (qG w ((.bool (dF a)))):=by
 obtain⟨E,d⟩:=ay (dF a);rw[←d];have b:aj (E=((decide (0≤a.s)&&decide (a.s≤15))&&((decide (0≤a.i)&&decide (a.i≤15))&&(decide (0≤a.g)&&decide (a.g≤1048575))))):=af (by rw[d];rfl);clear d;by_cases h0:0≤a.s
 case neg=>
  have c:aj (E=false):=af (by rw[b.o,aJ (show¬(0≤a.s)by omega)];simp);clear b;(go_enter func121,ntmps121);go_wp2;go_ret;exact⟨by rw[c.o];rfl,(aA w).alloc _⟩
 by_cases e:a.s≤15
 case neg=>
  have c:aj (E=false):=af (by rw[b.o,aJ (show¬(a.s≤15)by omega)];simp);clear b;(go_enter func121,ntmps121);go_wp2;go_ret;exact⟨by rw[c.o];rfl,(aA w).alloc _⟩
 by_cases f:0≤a.i
 case neg=>
  have c:aj (E=false):=af (by rw[b.o,aJ (show¬(0≤a.i)by omega)];simp);clear b;(go_enter func121,ntmps121);go_wp2;go_ret;exact⟨by rw[c.o];rfl,(aA w).alloc _⟩
 by_cases h:a.i≤15
 case neg=>
  have c:aj (E=false):=af (by rw[b.o,aJ (show¬(a.i≤15)by omega)];simp);clear b;(go_enter func121,ntmps121);go_wp2;go_ret;exact⟨by rw[c.o];rfl,(aA w).alloc _⟩
 by_cases j:0≤a.g
 case neg=>
  have c:aj (E=false):=af (by rw[b.o,aJ (show¬(0≤a.g)by omega)];simp);clear b;(go_enter func121,ntmps121);go_wp2;go_ret;exact⟨by rw[c.o];rfl,(aA w).alloc _⟩
 by_cases k:a.g<1048576
 case neg=>
  have c:aj (E=false):=af (by rw[b.o,aJ (show¬(a.g≤1048575)by omega)];simp);clear b;(go_enter func121,ntmps121);go_wp2;go_ret;exact⟨by rw[c.o];rfl,(aA w).alloc _⟩
 have c:aj (E=true):=af (by rw[b.o,aM (show 0≤a.s by omega),aM (show a.s≤15 by omega),aM (show 0≤a.i by omega),aM (show a.i≤15 by omega),aM (show 0≤a.g by omega),aM (show a.g≤1048575 by omega)];rfl);clear b;(go_enter func121,ntmps121);go_wp2;go_ret;exact⟨by rw[c.o];rfl,(aA w).alloc _⟩
theorem qt (w:World)(n lo hi:Int)(h:Bool):Calls prog 256 #[qI n,qI lo,qI hi,.bool h] w (qW w ((.bool (nT h n lo hi)))):=by
 obtain⟨E,b⟩:=ay (nT h n lo hi);rw[←b];cases h
 ·have a:aj (E=decide (n=0)):=af b;clear b;(go_enter func256,ntmps256);go_wp2;go_ret;exact⟨by rw[a.o];rfl,rfl⟩
 ·have a:aj (E=(decide (lo≤n)&&decide (n≤hi))):=af b;clear b;by_cases h0:lo≤n
  ·have c:aj (E=decide (n≤hi)):=af (by rw[a.o,aM h0,mF]);clear a;(go_enter func256,ntmps256);go_wp2;go_ret;exact⟨by rw[c.o];rfl,rfl⟩
  ·have c:aj (E=false):=af (by rw[a.o,aJ h0,iL]);clear a;(go_enter func256,ntmps256);go_wp2;go_ret;exact⟨by rw[c.o];rfl,rfl⟩
theorem Bu (w:World)(m:Int):Calls prog 195 #[qI m] w (qW w ((.bool (gW m)))):=by
 obtain⟨E,a⟩:=ay (gW m);rw[←a];by_cases c:1≤m
 case neg=>
  have b:aj (E=false):=af (by rw[a];unfold gW jo;rw[aJ c];rfl);clear a;(go_enter func195,ntmps195);go_wp2;go_ret;exact⟨by rw[b.o];rfl,rfl⟩
 by_cases d:m≤31
 case neg=>
  have b:aj (E=false):=af (by rw[a];unfold gW jo;rw[aJ d,jR];rfl);clear a;(go_enter func195,ntmps195);go_wp2;go_ret;exact⟨by rw[b.o];rfl,rfl⟩
 have e:Int.tmod m 2=m%2:=Ic (by omega);have b:aj (E=(m%2==0)):=af (by
  rw[a];unfold gW jo hasB;rw[aM c,aM d,Int.ediv_one];rcases Int.emod_two_eq m with h|h<;>rw[h]<;>rfl)
 clear a;(go_enter func195,ntmps195);go_wp2;go_ret;exact⟨by rw[b.o];rfl,rfl⟩
theorem Bv (w:World)(b:Bd):Calls prog 196 #[mr b] w (qG w ((.bool (cE b)))):=by
 obtain⟨E,G⟩:=ay (cE b);rw[←G];by_cases h0:0≤b.m
 case neg=>
  have T:aj (E=false):=af (by rw[G];unfold cE jo;rw[aJ h0];rfl);clear G;(go_enter func196,ntmps196);go_wp2;go_ret;exact⟨by rw[T.o];rfl,(aA w).alloc _⟩
 by_cases F:b.m≤31
 case neg=>
  have T:aj (E=false):=af (by rw[G];unfold cE jo;rw[aJ F,jR];rfl);clear G;(go_enter func196,ntmps196);go_wp2;go_ret;exact⟨by rw[T.o];rfl,(aA w).alloc _⟩
 have hm:i64 b.m:=⟨by omega,by omega⟩;have S:=af (fun W=>iw W b.m 1 hm (by unfold qO;omega));have B2:=af (fun W=>iw W b.m 2 hm (by unfold qO;omega));have B4:=af (fun W=>iw W b.m 4 hm (by unfold qO;omega));have B8:=af (fun W=>iw W b.m 8 hm (by unfold qO;omega));have t:=af (fun W=>iw W b.m 16 hm (by unfold qO;omega));have j:=af (fun W=>qt W b.x (-1073741824) 1073741824 (hasB b.m 1));have k:=af (fun W=>qt W b.y (-1073741824) 1073741824 (hasB b.m 1));have h:=af (fun W=>qt W b.vx (-1073741824) 1073741824 (hasB b.m 2));have i:=af (fun W=>qt W b.vy (-1073741824) 1073741824 (hasB b.m 2));have e:=af (fun W=>qt W b.hp (1) 1048576 (hasB b.m 4));have g:=af (fun W=>qt W b.pw (0) 1024 (hasB b.m 8));have f:=af (fun W=>qt W b.lf (1) 1048576 (hasB b.m 16));have d:E=(nT (hasB b.m 1) b.x (-1073741824) 1073741824&&(nT (hasB b.m 1) b.y (-1073741824) 1073741824&&(nT (hasB b.m 2) b.vx (-1073741824) 1073741824&&(nT (hasB b.m 2) b.vy (-1073741824) 1073741824&&(nT (hasB b.m 4) b.hp (1) 1048576&&(nT (hasB b.m 8) b.pw (0) 1024&&(nT (hasB b.m 16) b.lf (1) 1048576))))))):=(by rw[G];unfold cE jo;rw[aM h0,aM F];rfl);obtain⟨Y,B⟩:=ay (nT (hasB b.m 1) b.x (-1073741824) 1073741824);rw[←B]at j d;obtain⟨Z,C⟩:=ay (nT (hasB b.m 1) b.y (-1073741824) 1073741824);rw[←C]at k d;obtain⟨Q,r⟩:=ay (nT (hasB b.m 2) b.vx (-1073741824) 1073741824);rw[←r]at h d;obtain⟨R,s⟩:=ay (nT (hasB b.m 2) b.vy (-1073741824) 1073741824);rw[←s]at i d;obtain⟨O,n⟩:=ay (nT (hasB b.m 4) b.hp (1) 1048576);rw[←n]at e d;obtain⟨P,q⟩:=ay (nT (hasB b.m 8) b.pw (0) 1024);rw[←q]at g d;obtain⟨aq,p⟩:=ay (nT (hasB b.m 16) b.lf (1) 1048576);rw[←p]at f d;obtain⟨g1,K⟩:=ay (hasB b.m 1);rw[←K]at S j k;obtain⟨g2,L⟩:=ay (hasB b.m 2);rw[←L]at B2 h i;obtain⟨g4,M⟩:=ay (hasB b.m 4);rw[←M]at B4 e;obtain⟨g8,N⟩:=ay (hasB b.m 8);rw[←N]at B8 g;obtain⟨g16,A⟩:=ay (hasB b.m 16);rw[←A]at t f;have D:=af d;clear G d hm B C r s n q p K L M N A;(go_enter func196,ntmps196);go_upto_region 3 with fail
 refine au ?_;intro W hW;have X:aj (ah No w W):=af (by rw[hW];exact(aA w).alloc _);have z:ai W w.heap.size 0 11=some (fe b):=(by rw[hW];simp[go_sem]);have c3:=ak z 3 _ rfl;have c4:=ak z 4 _ rfl;have c5:=ak z 5 _ rfl;have H:=ak z 6 _ rfl;have I:=ak z 7 _ rfl;have J:=ak z 8 _ rfl;have c9:=ak z 9 _ rfl;have l:=ak z 10 _ rfl;simp only[bC]at c3 c4 c5 H I J c9 l;clear hW z h0 F;cases Y
 case false=>
  go_quiet (first|(go_at_call 197;with_reducible exact Calls.quiet_of_same (S.o _))|(go_at_call 256;first|(with_reducible exact Calls.quiet_of_same (j.o _))|(with_reducible exact Calls.quiet_of_same (k.o _))))
  go_wp2;go_ret;exact⟨by rw[D.o];simp,X.o.drewN _⟩
 cases Z
 case false=>
  go_quiet (first|(go_at_call 197;with_reducible exact Calls.quiet_of_same (S.o _))|(go_at_call 256;first|(with_reducible exact Calls.quiet_of_same (j.o _))|(with_reducible exact Calls.quiet_of_same (k.o _))))
  go_wp2;go_ret;exact⟨by rw[D.o];simp,X.o.drewN _⟩
 go_quiet (first|(go_at_call 197;with_reducible exact Calls.quiet_of_same (S.o _))|(go_at_call 256;first|(with_reducible exact Calls.quiet_of_same (j.o _))|(with_reducible exact Calls.quiet_of_same (k.o _))))
 rename_i n1
 go_upto_region 5 with fail
 refine au ?_;intro u a;have U:aj (ah No w u):=af (by rw[a];exact X.o.drewN _);replace c3:u.cell? ⟨w.heap.size,3,none⟩=some (qI b.m):=(by rw[a];exact c3);replace c4:u.cell? ⟨w.heap.size,4,none⟩=some (qI b.x):=(by rw[a];exact c4);replace c5:u.cell? ⟨w.heap.size,5,none⟩=some (qI b.y):=(by rw[a];exact c5);replace H:u.cell? ⟨w.heap.size,6,none⟩=some (qI b.vx):=(by rw[a];exact H);replace I:u.cell? ⟨w.heap.size,7,none⟩=some (qI b.vy):=(by rw[a];exact I);replace J:u.cell? ⟨w.heap.size,8,none⟩=some (qI b.hp):=(by rw[a];exact J);replace c9:u.cell? ⟨w.heap.size,9,none⟩=some (qI b.pw):=(by rw[a];exact c9);replace l:u.cell? ⟨w.heap.size,10,none⟩=some (qI b.lf):=(by rw[a];exact l);clear a;cases Q
 case false=>
  go_quiet (first|(go_at_call 197;with_reducible exact Calls.quiet_of_same (B2.o _))|(go_at_call 256;first|(with_reducible exact Calls.quiet_of_same (h.o _))|(with_reducible exact Calls.quiet_of_same (i.o _))))
  go_wp2;go_ret;exact⟨by rw[D.o];simp,U.o.drewN _⟩
 cases R
 case false=>
  go_quiet (first|(go_at_call 197;with_reducible exact Calls.quiet_of_same (B2.o _))|(go_at_call 256;first|(with_reducible exact Calls.quiet_of_same (h.o _))|(with_reducible exact Calls.quiet_of_same (i.o _))))
  go_wp2;go_ret;exact⟨by rw[D.o];simp,U.o.drewN _⟩
 go_quiet (first|(go_at_call 197;with_reducible exact Calls.quiet_of_same (B2.o _))|(go_at_call 256;first|(with_reducible exact Calls.quiet_of_same (h.o _))|(with_reducible exact Calls.quiet_of_same (i.o _))))
 rename_i av
 go_upto_region 7 with fail
 refine au ?_;intro v c;have V:aj (ah No w v):=af (by rw[c];exact U.o.drewN _);replace c3:v.cell? ⟨w.heap.size,3,none⟩=some (qI b.m):=(by rw[c];exact c3);replace c4:v.cell? ⟨w.heap.size,4,none⟩=some (qI b.x):=(by rw[c];exact c4);replace c5:v.cell? ⟨w.heap.size,5,none⟩=some (qI b.y):=(by rw[c];exact c5);replace H:v.cell? ⟨w.heap.size,6,none⟩=some (qI b.vx):=(by rw[c];exact H);replace I:v.cell? ⟨w.heap.size,7,none⟩=some (qI b.vy):=(by rw[c];exact I);replace J:v.cell? ⟨w.heap.size,8,none⟩=some (qI b.hp):=(by rw[c];exact J);replace c9:v.cell? ⟨w.heap.size,9,none⟩=some (qI b.pw):=(by rw[c];exact c9);replace l:v.cell? ⟨w.heap.size,10,none⟩=some (qI b.lf):=(by rw[c];exact l);clear c;cases O
 case false=>
  go_quiet (first|(go_at_call 197;first|(with_reducible exact Calls.quiet_of_same (B4.o _))|(with_reducible exact Calls.quiet_of_same (B8.o _))|(with_reducible exact Calls.quiet_of_same (t.o _)))|(go_at_call 256;first|(with_reducible exact Calls.quiet_of_same (e.o _))|(with_reducible exact Calls.quiet_of_same (g.o _))|(with_reducible exact Calls.quiet_of_same (f.o _))))
  go_wp2;go_ret;exact⟨by rw[D.o];simp,V.o.drewN _⟩
 cases P
 case false=>
  go_quiet (first|(go_at_call 197;first|(with_reducible exact Calls.quiet_of_same (B4.o _))|(with_reducible exact Calls.quiet_of_same (B8.o _))|(with_reducible exact Calls.quiet_of_same (t.o _)))|(go_at_call 256;first|(with_reducible exact Calls.quiet_of_same (e.o _))|(with_reducible exact Calls.quiet_of_same (g.o _))|(with_reducible exact Calls.quiet_of_same (f.o _))))
  go_wp2;go_ret;exact⟨by rw[D.o];simp,V.o.drewN _⟩
 go_quiet (first|(go_at_call 197;first|(with_reducible exact Calls.quiet_of_same (B4.o _))|(with_reducible exact Calls.quiet_of_same (B8.o _))|(with_reducible exact Calls.quiet_of_same (t.o _)))|(go_at_call 256;first|(with_reducible exact Calls.quiet_of_same (e.o _))|(with_reducible exact Calls.quiet_of_same (g.o _))|(with_reducible exact Calls.quiet_of_same (f.o _))))
 go_wp2;go_ret;exact⟨by rw[D.o];simp,V.o.drewN _⟩
theorem Rv {b:Bd}(h:cE b=true):i64 b.m:=by
 unfold cE at h;rw[mE]at h;exact eT h.1
theorem vZ (w:World)(b:Bd):Calls prog 194 #[mr b] w (qG w ((.bool (kR b)))):=by
 obtain⟨E,d⟩:=ay (kR b);rw[←d];have CI:=af (fun W=>kx W b.id);have CR:=af (fun W=>Bv W b);have hm:= @Rv b;unfold kR at d;obtain⟨t1,g⟩:=ay (dF b.id);obtain⟨t2,h⟩:=ay (cE b);rw[←g]at CI d;rw[←h]at CR d hm;have i:=af d;clear d g h;have r:ai (w.alloc (.cells (fe b).toArray 25)) w.heap.size 0 11=some (fe b):=(by simp[go_sem]);have n:=af r;clear r;(go_enter func194,ntmps194);go_upto_region 1 with fail
 refine au ?_;intro W hW;have t:aj (ah No w W):=af (by rw[hW];exact(aA w).alloc _);have j:ai W w.heap.size 0 11=some (fe b):=(by rw[hW];exact n.o);have s:=af j;have i0:ai W w.heap.size 0 3=some (bk b.id):=aE j 0 (bk b.id) rfl (by simp);clear hW j n;go_wp2_with fail
 (with_reducible refine(CI.o _).mono ?_)
 rintro e w1 ⟨rfl,a⟩;have p:=af (t.o.aK a);have C1:=a.ai s.o;clear a i0;cases t1
 ·go_wp2;go_ret;exact⟨by rw[i.o];simp,p.o⟩
 go_wp2_with fail
 (with_reducible refine(CR.o _).mono ?_)
 rintro e w2 ⟨rfl,c⟩;have q:=af (p.o.aK c);have l:=c.ai C1;have c3:=ak l 3 _ rfl;simp only[bC]at c3;clear c C1 l;cases t2
 ·go_wp2;go_ret;exact⟨by rw[i.o];simp,q.o⟩
 have k:=af (iw w2 b.m 1 (hm rfl) (by unfold qO;omega));obtain⟨g1,f⟩:=ay (hasB b.m 1);rw[←f]at k i;clear f hm;(go_wp2_with fail);refine k.o.mono ?_;rintro e u ⟨rfl,rfl⟩;go_wp2;go_ret;exact⟨by rw[i.o];simp,q.o⟩
theorem Bw (W:World)(a:cO):(binOp .eql 23 (iE a) (.agg #[qI 0,qI 0,qI 0])).run prog W= .ok (.bool (neq a cO.zero)) W:=by
 obtain⟨a0,b,a2⟩:=a;simp only[neq,cO.zero];simp[go_sem];simp only[Ej,Bool.and_true];rfl
theorem Mp (W:World)(b:Bd):(binOp .eql 25 (mr b) (.agg #[qI 0,qI 0,qI 0,qI 0,qI 0,qI 0,qI 0,qI 0,qI 0,qI 0,qI 0])).run prog W= .ok (.bool (pq b Bd.zero)) W:=L0 b Bd.zero W
theorem iR (w:World)(c:Cm):Calls prog 120 #[gH c] w (qG w ((.bool (bD c)))):=by
 obtain⟨E,C⟩:=ay (bD c);rw[←C];have J:=af C;clear C;have CI:=af (fun W=>kx W c.id);have I:=af (fun W=>vZ W c.b);have CR:=af (fun W=>Bv W c.b);have A:=af (fun W=>Bu W c.b.m);have B:=af (fun W=>Bu W c.m);have e1:=fun W=>Bw W c.id;have e2:=fun W=>Mp W c.b;have e3:=fun W=>Bw W c.b.id;obtain⟨t1,t⟩:=ay (dF c.id);obtain⟨t2,u⟩:=ay (kR c.b);obtain⟨t3,v⟩:=ay (cE c.b);obtain⟨t4,x⟩:=ay (gW c.b.m);obtain⟨t5,y⟩:=ay (gW c.m);obtain⟨N,F⟩:=ay (neq c.id cO.zero);obtain⟨Z,G⟩:=ay (pq c.b Bd.zero);obtain⟨M,D⟩:=ay (neq c.b.id cO.zero);have i:aj (E=bif c.k==1 then N&&(decide (c.m=0)&&t2)else
  bif c.k==2 then t1&&(decide (c.m=0)&&Z)else
  bif c.k==3 then t1&&(decide (c.m=0)&&(M&&(t4&&t3)))else
  bif c.k==4 then t1&&(Z&&t5)else false):=af (by rw[J.o,t,u,v,x,y,F,G,D];rfl)
 rw[←t]at CI;rw[←u]at I;rw[←v]at CR;rw[←x]at A;rw[←y]at B;rw[←F]at e1;rw[←G]at e2;rw[←D]at e3;clear t u v x y F G D J;have K:ai (w.alloc (.cells (ct c).toArray 27)) w.heap.size 0 16=some (ct c):=(by simp[go_sem]);have H:=af K;clear K;(go_enter func120,ntmps120);go_upto_region 1 with fail
 refine au ?_;intro W hW;have r:aj (ah No w W):=af (by rw[hW];exact(aA w).alloc _);have a:aj (ai W w.heap.size 0 16=some (ct c)):=af (by rw[hW];exact H.o);have i0:ai W w.heap.size 1 3=some (bk c.id):=aE a.o 1 (bk c.id) rfl (by simp);have i4:ai W w.heap.size 4 11=some (fe c.b):=aE a.o 4 (fe c.b) rfl (by simp);have i5:ai W w.heap.size 4 3=some (bk c.b.id):=aE a.o 4 (bk c.b.id) rfl (by simp);have p:=ak a.o 0 _ rfl;have g:=ak a.o 7 _ rfl;have d:=ak a.o 15 _ rfl;simp only[bC]at p g d;clear hW H;go_upto_region 3 with fail
 by_cases h:c.k=1
 case pos=>
  have b1:(c.k==1)=true:=(by rw[h];rfl);have q:(c.k==2)=false:=(by rw[h];rfl);have s:(c.k==3)=false:=(by rw[h];rfl);have z:(c.k==4)=false:=(by rw[h];rfl);have f:aj (E=(N&&(decide (c.m=0)&&t2))):=af (by rw[i.o,b1];rfl);clear i h;cases N
  case false=>
   go_wp2;go_ret;exact⟨by rw[f.o];simp,r.o⟩
  by_cases hm:c.m=0
  case neg=>
   have n:(c.m==0)=false:=eD.2 hm;rw[aJ hm]at f;clear hm;go_wp2;go_ret;exact⟨by rw[f.o];simp,r.o⟩
  have n:(c.m==0)=true:=ny.2 hm;rw[aM hm]at f;clear hm;go_wp2_with fail
  (with_reducible refine(I.o _).mono ?_)
  rintro e w1 ⟨rfl,j⟩;have l:=af (r.o.aK j);replace a:=af (j.ai a.o);clear i0 i4 i5 p g d j;have i4:ai w1 w.heap.size 4 11=some (fe c.b):=aE a.o 4 (fe c.b) rfl (by simp);have i5:ai w1 w.heap.size 4 3=some (bk c.b.id):=aE a.o 4 (bk c.b.id) rfl (by simp);have g:=ak a.o 7 _ rfl;have d:=ak a.o 15 _ rfl;simp only[bC]at g d;have i0:=i5;have p:=g;go_wp2;go_ret;exact⟨by rw[f.o];simp,l.o⟩
 by_cases h:c.k=2
 case pos=>
  have b1:(c.k==1)=false:=(by rw[h];rfl);have q:(c.k==2)=true:=(by rw[h];rfl);have s:(c.k==3)=false:=(by rw[h];rfl);have z:(c.k==4)=false:=(by rw[h];rfl);have f:aj (E=(t1&&(decide (c.m=0)&&Z))):=af (by rw[i.o,b1,q];rfl);clear i h;go_wp2_with fail
  (with_reducible refine(CI.o _).mono ?_)
  rintro e w1 ⟨rfl,j⟩;have l:=af (r.o.aK j);replace a:=af (j.ai a.o);clear i0 i4 i5 p g d j;have i4:ai w1 w.heap.size 4 11=some (fe c.b):=aE a.o 4 (fe c.b) rfl (by simp);have i5:ai w1 w.heap.size 4 3=some (bk c.b.id):=aE a.o 4 (bk c.b.id) rfl (by simp);have g:=ak a.o 7 _ rfl;have d:=ak a.o 15 _ rfl;simp only[bC]at g d;have i0:=i5;have p:=g;cases t1
  case false=>
   go_wp2;go_ret;exact⟨by rw[f.o];simp,l.o⟩
  by_cases hm:c.m=0
  case neg=>
   have n:(c.m==0)=false:=eD.2 hm;rw[aJ hm]at f;clear hm;go_wp2;go_ret;exact⟨by rw[f.o];simp,l.o⟩
  have n:(c.m==0)=true:=ny.2 hm;rw[aM hm]at f;clear hm;go_wp2;go_ret;exact⟨by rw[f.o];simp,l.o⟩
 by_cases h:c.k=3
 case pos=>
  have b1:(c.k==1)=false:=(by rw[h];rfl);have q:(c.k==2)=false:=(by rw[h];rfl);have s:(c.k==3)=true:=(by rw[h];rfl);have z:(c.k==4)=false:=(by rw[h];rfl);have f:aj (E=(t1&&(decide (c.m=0)&&(M&&(t4&&t3))))):=af (by rw[i.o,b1,q,s];rfl);clear i h;go_wp2_with fail
  (with_reducible refine(CI.o _).mono ?_)
  rintro e w1 ⟨rfl,j⟩;have l:=af (r.o.aK j);replace a:=af (j.ai a.o);clear i0 i4 i5 p g d j;have i4:ai w1 w.heap.size 4 11=some (fe c.b):=aE a.o 4 (fe c.b) rfl (by simp);have i5:ai w1 w.heap.size 4 3=some (bk c.b.id):=aE a.o 4 (bk c.b.id) rfl (by simp);have g:=ak a.o 7 _ rfl;have d:=ak a.o 15 _ rfl;simp only[bC]at g d;have i0:=i5;have p:=g;cases t1
  case false=>
   go_wp2;go_ret;exact⟨by rw[f.o];simp,l.o⟩
  by_cases hm:c.m=0
  case neg=>
   have n:(c.m==0)=false:=eD.2 hm;rw[aJ hm]at f;clear hm;go_wp2;go_ret;exact⟨by rw[f.o];simp,l.o⟩
  have n:(c.m==0)=true:=ny.2 hm;rw[aM hm]at f;clear hm;cases M
  case false=>
   go_wp2;go_ret;exact⟨by rw[f.o];simp,l.o⟩
  have S:w1.cell? ⟨w.heap.size,7,none⟩=some (qI c.b.m):=g;go_wp2_with fail
  (with_reducible refine(A.o _).mono ?_)
  rintro e w2 ⟨rfl,rfl⟩;cases t4
  case false=>
   go_wp2;go_ret;exact⟨by rw[f.o];simp,l.o⟩
  go_wp2_with fail
  (with_reducible refine(CR.o _).mono ?_)
  rintro e Q ⟨rfl,j⟩;have R:=af (l.o.aK j);replace a:=af (j.ai a.o);clear i0 i4 i5 p g d j;have i4:ai Q w.heap.size 4 11=some (fe c.b):=aE a.o 4 (fe c.b) rfl (by simp);have i5:ai Q w.heap.size 4 3=some (bk c.b.id):=aE a.o 4 (bk c.b.id) rfl (by simp);have g:=ak a.o 7 _ rfl;have d:=ak a.o 15 _ rfl;simp only[bC]at g d;have i0:=i5;have p:=g;go_wp2;go_ret;exact⟨by rw[f.o];simp,R.o⟩
 by_cases h:c.k=4
 case pos=>
  have b1:(c.k==1)=false:=(by rw[h];rfl);have q:(c.k==2)=false:=(by rw[h];rfl);have s:(c.k==3)=false:=(by rw[h];rfl);have z:(c.k==4)=true:=(by rw[h];rfl);have f:aj (E=(t1&&(Z&&t5))):=af (by rw[i.o,b1,q,s,z];rfl);clear i h;go_wp2_with fail
  (with_reducible refine(CI.o _).mono ?_)
  rintro e w1 ⟨rfl,j⟩;have l:=af (r.o.aK j);replace a:=af (j.ai a.o);clear i0 i4 i5 p g d j;have i4:ai w1 w.heap.size 4 11=some (fe c.b):=aE a.o 4 (fe c.b) rfl (by simp);have i5:ai w1 w.heap.size 4 3=some (bk c.b.id):=aE a.o 4 (bk c.b.id) rfl (by simp);have g:=ak a.o 7 _ rfl;have d:=ak a.o 15 _ rfl;simp only[bC]at g d;have i0:=i5;have p:=g;cases t1
  case false=>
   go_wp2;go_ret;exact⟨by rw[f.o];simp,l.o⟩
  cases Z
  case false=>
   go_wp2;go_ret;exact⟨by rw[f.o];simp,l.o⟩
  go_wp2_with fail
  (with_reducible refine(B.o _).mono ?_)
  rintro e w2 ⟨rfl,rfl⟩;go_wp2;go_ret;exact⟨by rw[f.o];simp,l.o⟩
 rename_i L O P
 have b1:(c.k==1)=false:=eD.2 L;have q:(c.k==2)=false:=eD.2 O;have s:(c.k==3)=false:=eD.2 P;have z:(c.k==4)=false:=eD.2 h;have f:aj (E=false):=af (by rw[i.o,b1,q,s,z];rfl);clear L O P h i;go_wp2;go_ret;exact⟨by rw[f.o];simp,r.o⟩
theorem JI (w:World)(a:cO)(hb:dF a=false):Calls prog 125 #[iE a] w (qG w ((ew (aO a)))):=by
 have CI:=af (fun W=>kx W a);have b:aO a= []:=(by unfold aO;rw[hb];rfl);rw[b];rw[hb]at CI;clear hb b;(go_enter func125,ntmps125);go_wp2_with fail
 (with_reducible refine(CI.o _).mono ?_)
 rintro e w1 ⟨rfl,c⟩;have d:aj (ah No w w1):=af (((aA w).alloc _).aK c);clear c;go_wp2;go_ret;exact⟨rfl,d.o⟩
theorem JJ (w:World)(a:cO)(hb:dF a=true):Calls prog 125 #[iE a] w (qG w ((ew (aO a)))):=by
 have CI:=af (fun W=>kx W a);have v:aO a=aG a.s++aG a.i++aG a.g:=(by unfold aO;rw[hb];rfl);obtain⟨R,r⟩:=ay (ew (aO a));rw[←r];rw[v]at r;rw[hb]at CI;have b:=hb;unfold dF at b;simp only[eA]at b;obtain⟨X0,d⟩:=ay (bB (aG a.s));obtain⟨K,f⟩:=ay (bB (aG a.i));obtain⟨L,j⟩:=ay (bB (aG a.g));obtain⟨M,l⟩:=ay (bB (aG a.s++aG a.i));obtain⟨B,m⟩:=ay (bB (aG a.s++aG a.i++aG a.g));have z:aj (R= .string B):=af (by rw[r,m];rfl);have x:=af (fun W=>aS d (cZ W a.s (eT b.1)));have C1:=af (fun W=>aS f (cZ W a.i (eT b.2.1)));have y:=af (fun W=>aS j (cZ W a.g (eT b.2.2)));have p:=fun W':World=>cg W' (aG a.s) (aG a.i) (by have:=aP a.s;omega) (by have:=aP a.i;omega);rw[←d, ←f, ←l]at p;have n:=fun W':World=>cg W' (aG a.s++aG a.i) (aG a.g) (by have:=aP a.s;have:=aP a.i;rw[cr];omega) (by have:=aP a.g;omega);rw[←j, ←l, ←m]at n;have u:aj (ai (w.alloc (.cells (bk a).toArray 23)) w.heap.size 0 3=some (bk a)):=af (by simp[go_sem]);clear hb b v r d f j l m;(go_enter func125,ntmps125);go_wp2_with fail
 (with_reducible refine(CI.o _).mono ?_)
 rintro e W ⟨rfl,c⟩;have A:aj (ah No w W):=af (((aA w).alloc _).aK c);have q:=c.ai u.o;have m0:=ak q 0 _ rfl;have m1:=ak q 1 _ rfl;have m2:=ak q 2 _ rfl;simp only[bC]at m0 m1 m2;have H:∀w',ah No W w'→w'.cell? ⟨w.heap.size,0,none⟩=some (qI a.s):=fun w' k=>k.cB m0;have I:∀w',ah No W w'→w'.cell? ⟨w.heap.size,1,none⟩=some (qI a.i):=fun w' k=>k.cB m1;have J:∀w',ah No W w'→w'.cell? ⟨w.heap.size,2,none⟩=some (qI a.g):=fun w' k=>k.cB m2;clear c u q m0 m1 m2 CI;go_upto_region 3 with fail
 go_region_held3 (fun w'=>ah No W w')
  (first|assumption|exact(aA W).drew|exact aA W)
  (first
    |(go_at_call 53
      have hc:=x.o
      with_reducible refine(hc _).mono ?_
      clear hc;rintro e E ⟨rfl,c⟩;have C:ah No W E:=ah.trans (by first|assumption|exact(aA W).drew|exact aA W) c (fun _ _ h=>h))
    |(go_at_call 53
      have hc:=C1.o
      with_reducible refine(hc _).mono ?_
      clear hc;rintro e F ⟨rfl,c⟩;have D:ah No W F:=ah.trans (by first|assumption|exact(aA W).drew|exact aA W) c (fun _ _ h=>h))
    |(go_at_call 53
      have hc:=y.o
      with_reducible refine(hc _).mono ?_
      clear hc;rintro e G ⟨rfl,c⟩;have t:ah No W G:=ah.trans (by first|assumption|exact(aA W).drew|exact aA W) c (fun _ _ h=>h)))
 all_goals go_wp2
 all_goals go_ret
 all_goals exact⟨by rw[z.o];rfl,A.o.aK t⟩
theorem l6 (w:World)(a:cO):Calls prog 125 #[iE a] w (qG w ((ew (aO a)))):=by
 cases hb:dF a with
 |false=>exact JI w a hb
 |true=>exact JJ w a hb
theorem Pf (w:World)(v:Value)(l:List cO)(hv:aW bN w v l)(hl:l.length≤1024):Calls prog 55 #[v] w (qG w ((ew (nG aO l)))):=by
 obtain⟨va,vc,rfl⟩:=hv.slice;have G:=af hv;have L:(l.length:Int)≤1024:=(by omega);obtain⟨R,x⟩:=ay (ew (nG aO l));rw[←x];have F:aj (R= .string (bB (nU l.length l))):=af x;obtain⟨X0,d⟩:=ay (bB (aG (l.length:Int)));have C:=af (aS d (cZ w (l.length:Int) ⟨by omega,by omega⟩));have u:aj (X0=bB (nU l.length (l.take 0))):=af (by rw[d];simp[nU]);have E:=af hl;clear hv x d hl;(go_enter func55,ntmps55);(go_wp2_with fail);refine C.o.mono ?_;rintro e w1 ⟨rfl,m⟩;have H:=af m;clear m;go_wp2
 go_loopw [3,4] (fun s q wr=>∃k:Nat,k≤l.length∧q=qI k∧s= .string (bB (nU l.length (l.take k)))∧ah No w wr) (fun _ q _=>l.length-(intOf q).toNat)
 case atStart=>exact⟨0,aX _,rfl,by rw[u.o],H.o⟩
 case round=>
  obtain⟨k,N,rfl,rfl,hK⟩:=hrel;have A:=af hK;have J:(0:Int)≤(k:Int):=(by omega);by_cases p:k<l.length
  ·have K:(k:Int)<(l.length:Int):=(by omega);have i:aW bN wr (.slice va l.length vc) l:=G.o.kept hK (fun _ _ h=>h);obtain⟨g,off,rfl,_,_,_⟩:=aW.addr bN i (by omega);have B:ai wr g (off+k*3) 3=some (bk l[k]):=aW.at bN i k p;obtain⟨a,r⟩:=ay (l[k]);rw[←r]at B;obtain⟨M,f⟩:=ay (bB (aO a));have D:=af (fun W=>aS f (l6 W a));have j:=C6 l.length (l.take k) a;rw[r, ←iK p, ←r]at j;have b:=fun W':World=>cg W' (nU l.length (l.take k)) (aO a) (by have:=KI l.length (l.take k) (by rw[fB];have:=E.o;omega);omega) (by have:=c6 a;omega);rw[←j, ←f]at b;obtain⟨S,hS⟩:=ay (bB (nU l.length (l.take k)));obtain⟨S',c⟩:∃S,S=bB (nU l.length (l.take (k+1))):=⟨_,rfl⟩;have t:=af c;rw[←hS, ←c]at b;rw[←hS];clear i r hK hS c j f;go_wp2_with fail
   (with_reducible refine(D.o _).mono ?_)
   rintro e O ⟨rfl,n⟩;have I:=af (A.o.aK n);clear n B;go_wp2;go_roundw
   case rel=>exact⟨k+1,by omega,by go_num,by rw[t.o],I.o⟩
   case measure=>simp[intOf];omega
  ·have y:k=l.length:=(by omega);have z:aj (R= .string (bB (nU l.length (l.take k)))):=af (by rw[F.o,y,jH]);obtain⟨S,hS⟩:=ay (bB (nU l.length (l.take k)));rw[←hS]at z⊢;clear hS hK;go_wp2;go_ret;exact⟨by rw[z.o];rfl,A.o⟩
def Pg (w:World)(g:Nat)(b:Bd)(s:Nm)(o:Value)(wc:World):Prop:=o= .string (bB s)∧ai wc g 0 11=some (fe b)∧ah No w wc
theorem v7 (w:World)(b:Bd)(hb:cE b=true):Calls prog 126 #[mr b] w (qG w ((ew (cV b)))):=by
 obtain⟨hm,hf⟩:=OI hb;have S:=af hm;have bE:aj (i64 b.x):=af (hf 4);have bF:aj (i64 b.y):=af (hf 5);have aU:aj (i64 b.vx):=af (hf 6);have aV:aj (i64 b.vy):=af (hf 7);have aQ:aj (i64 b.hp):=af (hf 8);have aT:aj (i64 b.pw):=af (hf 9);have aR:aj (i64 b.lf):=af (hf 10);clear hm hf hb;have bn:aj (ai (w.alloc (.cells (fe b).toArray 25)) w.heap.size 0 11=some (fe b)):=af (by simp[go_sem]);obtain⟨X0,I⟩:=ay (bB (aG b.m));have bk:=af (fun W=>aS I (cZ W b.m S.o));have X:=af I;clear I;obtain⟨gb,aE⟩:=ay (w.heap.size);(go_enter func126,ntmps126);go_upto_region 1 with fail
 refine au ?_;intro aD H;have c0:ai aD w.heap.size 0 11=some (fe b):=(by rw[H];exact bn.o);have bp:aj (ah No w aD):=af (by rw[H];exact(aA w).alloc _);rw[←aE]at c0⊢;have m3:=ak c0 3 _ rfl;simp only[bC]at m3;clear H bn aE;go_wp2_with fail
 (with_reducible refine(bk.o _).mono ?_)
 rintro e wc ⟨rfl,l⟩;have A:=af (bp.o.aK l);have d0:=l.ai c0;have m0:=ak d0 3 _ rfl;simp only[bC]at m0;clear l c0 bp bk m3;obtain⟨aD,O⟩:=ay (wc);subst O;obtain⟨T,n⟩:=ay (hasB b.m 1);have a:=af (fun W=>iw W b.m 1 S.o (by unfold qO;omega));rw[←n]at a;have i:=af n;clear n;go_wp2_with fail
 (with_reducible refine(a.o _).mono ?_)
 rintro e z ⟨rfl,rfl⟩;obtain⟨aD,O⟩:=ay (z);subst O;clear a;go_upto_if 9 with fail
 go_cut [3] (Pg w gb b (aG b.m++aC (hasB b.m 1) b.x++aC (hasB b.m 1) b.y))
 case first=>
  cases T with
  |false=>
   have E:aj ((aG b.m++aC (hasB b.m 1) b.x++aC (hasB b.m 1) b.y)=(aG b.m)):=af (by rw[←i.o];simp[aC]);clear i;(go_wp2_with fail);go_meet;exact⟨by rw[E.o, ←X.o],d0,A.o⟩
  |true=>
   have E:aj ((aG b.m++aC (hasB b.m 1) b.x++aC (hasB b.m 1) b.y)=(aG b.m)++aG b.x++aG b.y):=af (by rw[←i.o];rfl);have hlen:(aG b.m).length≤100:=by
    have:=aP b.m
    try simp only[ic]
    omega
   clear i;obtain⟨aM,c⟩:=ay (bB (aG b.x));have v:=af (fun W=>aS c (cZ W b.x bE.o));obtain⟨G,d⟩:=ay (bB ((aG b.m)++aG b.x));have f:=fun W':World=>cg W' ((aG b.m)) (aG b.x) (by omega) (by have:=aP b.x;omega);rw[←c, ←d, ←X.o]at f;have g:=ak d0 4 _ rfl;simp only[bC]at g;obtain⟨bI,q⟩:=ay (bB (aG b.y));have aX:=af (fun W=>aS q (cZ W b.y bF.o));obtain⟨aY,r⟩:=ay (bB ((aG b.m)++aG b.x++aG b.y));have s:=fun W':World=>cg W' ((aG b.m)++aG b.x) (aG b.y) (by have:=aP b.x;rw[cr];omega) (by have:=aP b.y;omega);rw[←q, ←r, ←d]at s;have p:=ak d0 5 _ rfl;simp only[bC]at p;have u:aj (aY=bB (aG b.m++aC (hasB b.m 1) b.x++aC (hasB b.m 1) b.y)):=af (by rw[r,E.o]);clear hlen E c d q r;obtain⟨w1,j⟩:=ay (aD);subst j;have bG:∀w',ah No w1 w'→w'.cell? ⟨gb,4,none⟩=some (qI b.x):=fun w' k=>k.cB g;have bH:∀w',ah No w1 w'→w'.cell? ⟨gb,5,none⟩=some (qI b.y):=fun w' k=>k.cB p;have aN:=af d0;clear g p d0;go_upto_region 3 with fail
   go_region_held3 (fun w'=>ah No w1 w')
    (first|assumption|exact(aA w1).drew|exact aA w1)
    (first
      |(go_at_call 53
        have hc:=v.o
        with_reducible refine(hc _).mono ?_
        clear hc;rintro e U ⟨rfl,l⟩;have aZ:ah No w1 U:=ah.trans (by first|assumption|exact(aA w1).drew|exact aA w1) l (fun _ _ h=>h))
      |(go_at_call 53
        have hc:=aX.o
        with_reducible refine(hc _).mono ?_
        clear hc;rintro e bg ⟨rfl,l⟩;have t:ah No w1 bg:=ah.trans (by first|assumption|exact(aA w1).drew|exact aA w1) l (fun _ _ h=>h)))
   all_goals go_wp2_with fail
   all_goals go_meet
   all_goals exact⟨by rw[←u.o],t.ai aN.o,A.o.aK t⟩
 case rest=>
  clear i;obtain⟨bq,j⟩:=ay (wc);subst j;obtain⟨rfl,d1,aF⟩:=hcut;have B:=af aF;have m1:=ak d1 3 _ rfl;simp only[bC]at m1;obtain⟨bK,J⟩:=ay (bB (aG b.m++aC (hasB b.m 1) b.x++aC (hasB b.m 1) b.y));rw[←J];have Y:=af J;clear aF J d0 A m0;obtain⟨T,n⟩:=ay (hasB b.m 2);have a:=af (fun W=>iw W b.m 2 S.o (by unfold qO;omega));rw[←n]at a;have i:=af n;clear n;go_wp2_with fail
  (with_reducible refine(a.o _).mono ?_)
  rintro e z ⟨rfl,rfl⟩;obtain⟨bq,j⟩:=ay (z);subst j;clear a;go_upto_if 21 with fail
  go_cut [3] (Pg w gb b (aG b.m++aC (hasB b.m 1) b.x++aC (hasB b.m 1) b.y++aC (hasB b.m 2) b.vx++aC (hasB b.m 2) b.vy))
  case first=>
   cases T with
   |false=>
    have E:aj ((aG b.m++aC (hasB b.m 1) b.x++aC (hasB b.m 1) b.y++aC (hasB b.m 2) b.vx++aC (hasB b.m 2) b.vy)=(aG b.m++aC (hasB b.m 1) b.x++aC (hasB b.m 1) b.y)):=af (by rw[←i.o];simp[aC]);clear i;(go_wp2_with fail);go_meet;exact⟨by rw[E.o, ←Y.o],d1,B.o⟩
   |true=>
    have E:aj ((aG b.m++aC (hasB b.m 1) b.x++aC (hasB b.m 1) b.y++aC (hasB b.m 2) b.vx++aC (hasB b.m 2) b.vy)=(aG b.m++aC (hasB b.m 1) b.x++aC (hasB b.m 1) b.y)++aG b.vx++aG b.vy):=af (by rw[←i.o];rfl);have hlen:(aG b.m++aC (hasB b.m 1) b.x++aC (hasB b.m 1) b.y).length≤100:=by
     have:=aP b.m
     try simp only[ic]
     have:=di (hasB b.m 1) b.x;have:=di (hasB b.m 1) b.y;omega
    clear i;obtain⟨aM,c⟩:=ay (bB (aG b.vx));have v:=af (fun W=>aS c (cZ W b.vx aU.o));obtain⟨G,d⟩:=ay (bB ((aG b.m++aC (hasB b.m 1) b.x++aC (hasB b.m 1) b.y)++aG b.vx));have f:=fun W':World=>cg W' ((aG b.m++aC (hasB b.m 1) b.x++aC (hasB b.m 1) b.y)) (aG b.vx) (by omega) (by have:=aP b.vx;omega);rw[←c, ←d, ←Y.o]at f;have g:=ak d1 6 _ rfl;simp only[bC]at g;obtain⟨bI,q⟩:=ay (bB (aG b.vy));have aX:=af (fun W=>aS q (cZ W b.vy aV.o));obtain⟨aY,r⟩:=ay (bB ((aG b.m++aC (hasB b.m 1) b.x++aC (hasB b.m 1) b.y)++aG b.vx++aG b.vy));have s:=fun W':World=>cg W' ((aG b.m++aC (hasB b.m 1) b.x++aC (hasB b.m 1) b.y)++aG b.vx) (aG b.vy) (by have:=aP b.vx;rw[cr];omega) (by have:=aP b.vy;omega);rw[←q, ←r, ←d]at s;have p:=ak d1 7 _ rfl;simp only[bC]at p;have u:aj (aY=bB (aG b.m++aC (hasB b.m 1) b.x++aC (hasB b.m 1) b.y++aC (hasB b.m 2) b.vx++aC (hasB b.m 2) b.vy)):=af (by rw[r,E.o]);clear hlen E c d q r;obtain⟨w1,j⟩:=ay (bq);subst j;have bG:∀w',ah No w1 w'→w'.cell? ⟨gb,6,none⟩=some (qI b.vx):=fun w' k=>k.cB g;have bH:∀w',ah No w1 w'→w'.cell? ⟨gb,7,none⟩=some (qI b.vy):=fun w' k=>k.cB p;have aN:=af d1;clear g p d1;go_upto_region 5 with fail
    go_region_held3 (fun w'=>ah No w1 w')
     (first|assumption|exact(aA w1).drew|exact aA w1)
     (first
       |(go_at_call 53
         have hc:=v.o
         with_reducible refine(hc _).mono ?_
         clear hc;rintro e U ⟨rfl,l⟩;have aZ:ah No w1 U:=ah.trans (by first|assumption|exact(aA w1).drew|exact aA w1) l (fun _ _ h=>h))
       |(go_at_call 53
         have hc:=aX.o
         with_reducible refine(hc _).mono ?_
         clear hc;rintro e bg ⟨rfl,l⟩;have t:ah No w1 bg:=ah.trans (by first|assumption|exact(aA w1).drew|exact aA w1) l (fun _ _ h=>h)))
    all_goals go_wp2_with fail
    all_goals go_meet
    all_goals exact⟨by rw[←u.o],t.ai aN.o,B.o.aK t⟩
  case rest=>
   clear i;obtain⟨bu,P⟩:=ay (wc);subst P;obtain⟨rfl,d2,aH⟩:=hcut;have C:=af aH;have m2:=ak d2 3 _ rfl;simp only[bC]at m2;obtain⟨bL,K⟩:=ay (bB (aG b.m++aC (hasB b.m 1) b.x++aC (hasB b.m 1) b.y++aC (hasB b.m 2) b.vx++aC (hasB b.m 2) b.vy));rw[←K];have Z:=af K;clear aH K d1 B m1;obtain⟨T,n⟩:=ay (hasB b.m 4);have a:=af (fun W=>iw W b.m 4 S.o (by unfold qO;omega));rw[←n]at a;have i:=af n;clear n;go_wp2_with fail
   (with_reducible refine(a.o _).mono ?_)
   rintro e z ⟨rfl,rfl⟩;obtain⟨bu,P⟩:=ay (z);subst P;clear a;go_upto_if 33 with fail
   go_cut [3] (Pg w gb b (aG b.m++aC (hasB b.m 1) b.x++aC (hasB b.m 1) b.y++aC (hasB b.m 2) b.vx++aC (hasB b.m 2) b.vy++aC (hasB b.m 4) b.hp))
   case first=>
    cases T with
    |false=>
     have E:aj ((aG b.m++aC (hasB b.m 1) b.x++aC (hasB b.m 1) b.y++aC (hasB b.m 2) b.vx++aC (hasB b.m 2) b.vy++aC (hasB b.m 4) b.hp)=(aG b.m++aC (hasB b.m 1) b.x++aC (hasB b.m 1) b.y++aC (hasB b.m 2) b.vx++aC (hasB b.m 2) b.vy)):=af (by rw[←i.o];simp[aC]);clear i;(go_wp2_with fail);go_meet;exact⟨by rw[E.o, ←Z.o],d2,C.o⟩
    |true=>
     have E:aj ((aG b.m++aC (hasB b.m 1) b.x++aC (hasB b.m 1) b.y++aC (hasB b.m 2) b.vx++aC (hasB b.m 2) b.vy++aC (hasB b.m 4) b.hp)=(aG b.m++aC (hasB b.m 1) b.x++aC (hasB b.m 1) b.y++aC (hasB b.m 2) b.vx++aC (hasB b.m 2) b.vy)++aG b.hp):=af (by rw[←i.o];rfl);have hlen:(aG b.m++aC (hasB b.m 1) b.x++aC (hasB b.m 1) b.y++aC (hasB b.m 2) b.vx++aC (hasB b.m 2) b.vy).length≤100:=by
      have:=aP b.m
      try simp only[ic]
      have:=di (hasB b.m 1) b.x;have:=di (hasB b.m 1) b.y;have:=di (hasB b.m 2) b.vx;have:=di (hasB b.m 2) b.vy;omega
     clear i;obtain⟨aM,c⟩:=ay (bB (aG b.hp));have v:=af (fun W=>aS c (cZ W b.hp aQ.o));obtain⟨G,d⟩:=ay (bB ((aG b.m++aC (hasB b.m 1) b.x++aC (hasB b.m 1) b.y++aC (hasB b.m 2) b.vx++aC (hasB b.m 2) b.vy)++aG b.hp));have f:=fun W':World=>cg W' ((aG b.m++aC (hasB b.m 1) b.x++aC (hasB b.m 1) b.y++aC (hasB b.m 2) b.vx++aC (hasB b.m 2) b.vy)) (aG b.hp) (by omega) (by have:=aP b.hp;omega);rw[←c, ←d, ←Z.o]at f;have g:=ak d2 8 _ rfl;simp only[bC]at g;have u:aj (G=bB (aG b.m++aC (hasB b.m 1) b.x++aC (hasB b.m 1) b.y++aC (hasB b.m 2) b.vx++aC (hasB b.m 2) b.vy++aC (hasB b.m 4) b.hp)):=af (by rw[d,E.o]);clear hlen E c d;obtain⟨w1,j⟩:=ay (bu);subst j;go_wp2_with fail
     (with_reducible refine(v.o _).mono ?_)
     rintro e U ⟨rfl,l⟩;have V:=af (l.ai d2);have aB:=af (C.o.aK l);clear l d2 g;(go_wp2_with fail);go_meet;exact⟨by rw[←u.o],V.o,aB.o⟩
   case rest=>
    clear i;obtain⟨bA,Q⟩:=ay (wc);subst Q;obtain⟨rfl,d3,aI⟩:=hcut;have D:=af aI;have m3:=ak d3 3 _ rfl;simp only[bC]at m3;obtain⟨bM,L⟩:=ay (bB (aG b.m++aC (hasB b.m 1) b.x++aC (hasB b.m 1) b.y++aC (hasB b.m 2) b.vx++aC (hasB b.m 2) b.vy++aC (hasB b.m 4) b.hp));rw[←L];have aq:=af L;clear aI L d2 C m2;obtain⟨T,n⟩:=ay (hasB b.m 8);have a:=af (fun W=>iw W b.m 8 S.o (by unfold qO;omega));rw[←n]at a;have i:=af n;clear n;go_wp2_with fail
    (with_reducible refine(a.o _).mono ?_)
    rintro e z ⟨rfl,rfl⟩;obtain⟨bA,Q⟩:=ay (z);subst Q;clear a;go_upto_if 41 with fail
    go_cut [3] (Pg w gb b (aG b.m++aC (hasB b.m 1) b.x++aC (hasB b.m 1) b.y++aC (hasB b.m 2) b.vx++aC (hasB b.m 2) b.vy++aC (hasB b.m 4) b.hp++aC (hasB b.m 8) b.pw))
    case first=>
     cases T with
     |false=>
      have E:aj ((aG b.m++aC (hasB b.m 1) b.x++aC (hasB b.m 1) b.y++aC (hasB b.m 2) b.vx++aC (hasB b.m 2) b.vy++aC (hasB b.m 4) b.hp++aC (hasB b.m 8) b.pw)=(aG b.m++aC (hasB b.m 1) b.x++aC (hasB b.m 1) b.y++aC (hasB b.m 2) b.vx++aC (hasB b.m 2) b.vy++aC (hasB b.m 4) b.hp)):=af (by rw[←i.o];simp[aC]);clear i;(go_wp2_with fail);go_meet;exact⟨by rw[E.o, ←aq.o],d3,D.o⟩
     |true=>
      have E:aj ((aG b.m++aC (hasB b.m 1) b.x++aC (hasB b.m 1) b.y++aC (hasB b.m 2) b.vx++aC (hasB b.m 2) b.vy++aC (hasB b.m 4) b.hp++aC (hasB b.m 8) b.pw)=(aG b.m++aC (hasB b.m 1) b.x++aC (hasB b.m 1) b.y++aC (hasB b.m 2) b.vx++aC (hasB b.m 2) b.vy++aC (hasB b.m 4) b.hp)++aG b.pw):=af (by rw[←i.o];rfl);have hlen:(aG b.m++aC (hasB b.m 1) b.x++aC (hasB b.m 1) b.y++aC (hasB b.m 2) b.vx++aC (hasB b.m 2) b.vy++aC (hasB b.m 4) b.hp).length≤100:=by
       have:=aP b.m
       try simp only[ic]
       have:=di (hasB b.m 1) b.x;have:=di (hasB b.m 1) b.y;have:=di (hasB b.m 2) b.vx;have:=di (hasB b.m 2) b.vy;have:=di (hasB b.m 4) b.hp;omega
      clear i;obtain⟨aM,c⟩:=ay (bB (aG b.pw));have v:=af (fun W=>aS c (cZ W b.pw aT.o));obtain⟨G,d⟩:=ay (bB ((aG b.m++aC (hasB b.m 1) b.x++aC (hasB b.m 1) b.y++aC (hasB b.m 2) b.vx++aC (hasB b.m 2) b.vy++aC (hasB b.m 4) b.hp)++aG b.pw));have f:=fun W':World=>cg W' ((aG b.m++aC (hasB b.m 1) b.x++aC (hasB b.m 1) b.y++aC (hasB b.m 2) b.vx++aC (hasB b.m 2) b.vy++aC (hasB b.m 4) b.hp)) (aG b.pw) (by omega) (by have:=aP b.pw;omega);rw[←c, ←d, ←aq.o]at f;have g:=ak d3 9 _ rfl;simp only[bC]at g;have u:aj (G=bB (aG b.m++aC (hasB b.m 1) b.x++aC (hasB b.m 1) b.y++aC (hasB b.m 2) b.vx++aC (hasB b.m 2) b.vy++aC (hasB b.m 4) b.hp++aC (hasB b.m 8) b.pw)):=af (by rw[d,E.o]);clear hlen E c d;obtain⟨w1,j⟩:=ay (bA);subst j;go_wp2_with fail
      (with_reducible refine(v.o _).mono ?_)
      rintro e U ⟨rfl,l⟩;have V:=af (l.ai d3);have aB:=af (D.o.aK l);clear l d3 g;(go_wp2_with fail);go_meet;exact⟨by rw[←u.o],V.o,aB.o⟩
    case rest=>
     clear i;obtain⟨bD,R⟩:=ay (wc);subst R;obtain⟨rfl,d4,aJ⟩:=hcut;have F:=af aJ;have m4:=ak d4 3 _ rfl;simp only[bC]at m4;obtain⟨bN,M⟩:=ay (bB (aG b.m++aC (hasB b.m 1) b.x++aC (hasB b.m 1) b.y++aC (hasB b.m 2) b.vx++aC (hasB b.m 2) b.vy++aC (hasB b.m 4) b.hp++aC (hasB b.m 8) b.pw));rw[←M];have av:=af M;clear aJ M d3 D m3;obtain⟨T,n⟩:=ay (hasB b.m 16);have a:=af (fun W=>iw W b.m 16 S.o (by unfold qO;omega));rw[←n]at a;have i:=af n;clear n;go_wp2_with fail
     (with_reducible refine(a.o _).mono ?_)
     rintro e z ⟨rfl,rfl⟩;obtain⟨bD,R⟩:=ay (z);subst R;clear a;go_upto_if 49 with fail
     go_cut [3] (Pg w gb b (aG b.m++aC (hasB b.m 1) b.x++aC (hasB b.m 1) b.y++aC (hasB b.m 2) b.vx++aC (hasB b.m 2) b.vy++aC (hasB b.m 4) b.hp++aC (hasB b.m 8) b.pw++aC (hasB b.m 16) b.lf))
     case first=>
      cases T with
      |false=>
       have E:aj ((aG b.m++aC (hasB b.m 1) b.x++aC (hasB b.m 1) b.y++aC (hasB b.m 2) b.vx++aC (hasB b.m 2) b.vy++aC (hasB b.m 4) b.hp++aC (hasB b.m 8) b.pw++aC (hasB b.m 16) b.lf)=(aG b.m++aC (hasB b.m 1) b.x++aC (hasB b.m 1) b.y++aC (hasB b.m 2) b.vx++aC (hasB b.m 2) b.vy++aC (hasB b.m 4) b.hp++aC (hasB b.m 8) b.pw)):=af (by rw[←i.o];simp[aC]);clear i;(go_wp2_with fail);go_meet;exact⟨by rw[E.o, ←av.o],d4,F.o⟩
      |true=>
       have E:aj ((aG b.m++aC (hasB b.m 1) b.x++aC (hasB b.m 1) b.y++aC (hasB b.m 2) b.vx++aC (hasB b.m 2) b.vy++aC (hasB b.m 4) b.hp++aC (hasB b.m 8) b.pw++aC (hasB b.m 16) b.lf)=(aG b.m++aC (hasB b.m 1) b.x++aC (hasB b.m 1) b.y++aC (hasB b.m 2) b.vx++aC (hasB b.m 2) b.vy++aC (hasB b.m 4) b.hp++aC (hasB b.m 8) b.pw)++aG b.lf):=af (by rw[←i.o];rfl);have hlen:(aG b.m++aC (hasB b.m 1) b.x++aC (hasB b.m 1) b.y++aC (hasB b.m 2) b.vx++aC (hasB b.m 2) b.vy++aC (hasB b.m 4) b.hp++aC (hasB b.m 8) b.pw).length≤100:=by
        have:=aP b.m
        try simp only[ic]
        have:=di (hasB b.m 1) b.x;have:=di (hasB b.m 1) b.y;have:=di (hasB b.m 2) b.vx;have:=di (hasB b.m 2) b.vy;have:=di (hasB b.m 4) b.hp;have:=di (hasB b.m 8) b.pw;omega
       clear i;obtain⟨aM,c⟩:=ay (bB (aG b.lf));have v:=af (fun W=>aS c (cZ W b.lf aR.o));obtain⟨G,d⟩:=ay (bB ((aG b.m++aC (hasB b.m 1) b.x++aC (hasB b.m 1) b.y++aC (hasB b.m 2) b.vx++aC (hasB b.m 2) b.vy++aC (hasB b.m 4) b.hp++aC (hasB b.m 8) b.pw)++aG b.lf));have f:=fun W':World=>cg W' ((aG b.m++aC (hasB b.m 1) b.x++aC (hasB b.m 1) b.y++aC (hasB b.m 2) b.vx++aC (hasB b.m 2) b.vy++aC (hasB b.m 4) b.hp++aC (hasB b.m 8) b.pw)) (aG b.lf) (by omega) (by have:=aP b.lf;omega);rw[←c, ←d, ←av.o]at f;have g:=ak d4 10 _ rfl;simp only[bC]at g;have u:aj (G=bB (aG b.m++aC (hasB b.m 1) b.x++aC (hasB b.m 1) b.y++aC (hasB b.m 2) b.vx++aC (hasB b.m 2) b.vy++aC (hasB b.m 4) b.hp++aC (hasB b.m 8) b.pw++aC (hasB b.m 16) b.lf)):=af (by rw[d,E.o]);clear hlen E c d;obtain⟨w1,j⟩:=ay (bD);subst j;go_wp2_with fail
       (with_reducible refine(v.o _).mono ?_)
       rintro e U ⟨rfl,l⟩;have V:=af (l.ai d4);have aB:=af (F.o.aK l);clear l d4 g;(go_wp2_with fail);go_meet;exact⟨by rw[←u.o],V.o,aB.o⟩
     case rest=>
      clear i;obtain⟨bJ,bf⟩:=ay (wc);subst bf;obtain⟨rfl,d5,aL⟩:=hcut;have aW:=af aL;have m5:=ak d5 3 _ rfl;simp only[bC]at m5;obtain⟨bO,N⟩:=ay (bB (aG b.m++aC (hasB b.m 1) b.x++aC (hasB b.m 1) b.y++aC (hasB b.m 2) b.vx++aC (hasB b.m 2) b.vy++aC (hasB b.m 4) b.hp++aC (hasB b.m 8) b.pw++aC (hasB b.m 16) b.lf));rw[←N];have aO:=af N;clear aL N d4 F m4;go_wp2;go_ret;exact⟨by rw[aO.o];rfl,aW.o⟩
theorem Mq (b:Bd):(ia b).length≤200:=by
 have:=c6 b.id;have:=j_ b;unfold ia;cases kR b
 ·exact aX _
 ·simp only[cond_true,ic];omega
theorem JK {b:Bd}(h:kR b=true):cE b=true:=by
 unfold kR at h;simp only[eA]at h
 first|exact h.2|exact h.1|exact h.2.2|exact h.2.1|exact h.1.2
theorem Mr (w:World)(x:Bd)(hb:kR x=false):Calls prog 124 #[mr x] w (qG w ((ew (ia x)))):=by
 have CI:=af (fun W=>vZ W x);have a:ia x= []:=(by unfold ia;rw[hb];rfl);rw[a];rw[hb]at CI;clear hb a;(go_enter func124,ntmps124);go_upto_region 1 with fail
 refine au ?_;intro W hW;have d:aj (ah No w W):=af (by rw[hW];exact(aA w).alloc _);have f:ai W w.heap.size 0 11=some (fe x):=(by rw[hW];simp[go_sem]);clear hW;go_wp2_with fail
 (with_reducible refine(CI.o _).mono ?_)
 rintro e w1 ⟨rfl,b⟩;have c:=af (d.o.aK b);clear b f CI;go_wp2;go_ret;exact⟨rfl,c.o⟩
theorem Ms (w:World)(x:Cm)(hb:bD x=false):Calls prog 54 #[gH x] w (qG w ((ew (cQ x)))):=by
 have CI:=af (fun W=>iR W x);have a:cQ x= []:=(by unfold cQ;rw[hb];rfl);rw[a];rw[hb]at CI;clear hb a;(go_enter func54,ntmps54);go_upto_region 1 with fail
 refine au ?_;intro W hW;have d:aj (ah No w W):=af (by rw[hW];exact(aA w).alloc _);have f:ai W w.heap.size 0 16=some (ct x):=(by rw[hW];simp[go_sem]);clear hW;go_wp2_with fail
 (with_reducible refine(CI.o _).mono ?_)
 rintro e w1 ⟨rfl,b⟩;have c:=af (d.o.aK b);clear b f CI;go_wp2;go_ret;exact⟨rfl,c.o⟩
theorem Mt (w:World)(x:Bd)(hb:kR x=true):Calls prog 124 #[mr x] w (qG w ((ew (ia x)))):=by
 have CI:=af (fun W=>vZ W x);have p:ia x=aO x.id++cV x:=(by unfold ia;rw[hb];rfl);obtain⟨R,i⟩:=ay (ew (ia x));rw[←i];rw[p]at i;have q:=af (JK hb);rw[hb]at CI;obtain⟨D,a⟩:=ay (bB (aO x.id));have t:=af (fun W=>aS a (l6 W x.id));obtain⟨E,b⟩:=ay (bB (cV x));have u:=af (fun W=>aS b (v7 W x q.o));obtain⟨v,d⟩:=ay (bB (aO x.id++cV x));have f:=fun W':World=>cg W' (aO x.id) (cV x) (by have:=c6 x.id;(try simp only[ic]);omega) (by have:=j_ x;omega);rw[←b, ←d, ←a]at f;have r:aj (R= .string v):=af (by rw[i,d];rfl);clear hb p i a b d;(go_enter func124,ntmps124);go_upto_region 1 with fail
 refine au ?_;intro n c;have m:aj (ah No w n):=af (by rw[c];exact(aA w).alloc _);have c0:ai n w.heap.size 0 11=some (fe x):=(by rw[c];simp[go_sem]);clear c;go_wp2_with fail
 (with_reducible refine(CI.o _).mono ?_)
 rintro e W ⟨rfl,g⟩;have s:=af (m.o.aK g);have j:=g.ai c0;have B:∀w',ah No W w'→ai w' w.heap.size 0 11=some (fe x):=fun w' k=>k.ai j;have C:∀w',ah No W w'→ai w' w.heap.size 0 3=some (bk x.id):=fun w' k=>aE (k.ai j) 0 (bk x.id) rfl (by simp);clear g c0 j CI m;go_upto_region 3 with fail
 go_region_held3 (fun w'=>ah No W w')
  (first|assumption|exact(aA W).drew|exact aA W)
  (first
    |(go_at_call 125
      have hc:=t.o
      with_reducible refine(hc _).mono ?_
      clear hc;rintro e z ⟨rfl,g⟩;have y:ah No W z:=ah.trans (by first|assumption|exact(aA W).drew|exact aA W) g (fun _ _ h=>h))
    |(go_at_call 126
      have hc:=u.o
      with_reducible refine(hc _).mono ?_
      clear hc;rintro e A ⟨rfl,g⟩;have l:ah No W A:=ah.trans (by first|assumption|exact(aA W).drew|exact aA W) g (fun _ _ h=>h)))
 all_goals go_wp2
 all_goals go_ret
 all_goals exact⟨by rw[r.o];rfl,s.o.aK l⟩
theorem JL (w:World)(b:Bd):Calls prog 124 #[mr b] w (qG w ((ew (ia b)))):=by
 cases hb:kR b with
 |false=>exact Mr w b hb
 |true=>exact Mt w b hb
theorem Ph (w:World)(x:Cm)(hb:bD x=true)(i:i64 x.k)(a:x.k=1):Calls prog 54 #[gH x] w (qG w ((ew (cQ x)))):=by
 have CI:=af (fun W=>iR W x);have e1:(x.k==1)=true:=(by rw[a];rfl);have s:cQ x=aG x.k++ia x.b:=(by unfold cQ;rw[hb,e1];simp only[cond_true]);obtain⟨R,j⟩:=ay (ew (cQ x));rw[←j];rw[s]at j;rw[hb]at CI;obtain⟨X0,f⟩:=ay (bB (aG x.k));have m:=af (fun W=>aS f (cZ W x.k i));obtain⟨B,c⟩:=ay (bB (ia x.b));have q:=af (fun W=>aS c (JL W x.b));obtain⟨A,g⟩:=ay (bB (aG x.k++ia x.b));have h:=fun W':World=>cg W' (aG x.k) (ia x.b) (by have:=aP x.k;(try simp only[ic]);omega) (by have:=Mq x.b;omega);rw[←c, ←g, ←f]at h;have t:aj (R= .string A):=af (by rw[j,g];rfl);clear hb i s j f c g a;(go_enter func54,ntmps54);go_upto_region 1 with fail
 refine au ?_;intro r d;have n:aj (ah No w r):=af (by rw[d];exact(aA w).alloc _);have c0:ai r w.heap.size 0 16=some (ct x):=(by rw[d];simp[go_sem]);clear d;go_wp2_with fail
 (with_reducible refine(CI.o _).mono ?_)
 rintro e W ⟨rfl,a⟩;have p:=af (n.o.aK a);have l:=a.ai c0;have m0:=ak l 0 _ rfl;simp only[bC]at m0;clear a c0 CI n;go_wp2_with fail
 (with_reducible refine(m.o _).mono ?_)
 rintro e z ⟨rfl,a⟩;have u:=af (p.o.aK a);have c1:=a.ai l;have m1:=a.cB m0;clear a l m0 m p;have y:ai z w.heap.size 4 11=some (fe x.b):=aE c1 4 (fe x.b) rfl (by simp);clear c1;go_wp2_with fail
 (with_reducible refine(q.o _).mono ?_)
 rintro e C ⟨rfl,a⟩;have v:=af (u.o.aK a);clear a y m1 q;go_wp2;go_ret;exact⟨by rw[t.o];rfl,v.o⟩
theorem Pj (w:World)(x:Cm)(hb:bD x=true)(p:i64 x.k)(a:x.k=3)(A:cE x.b=true):Calls prog 54 #[gH x] w (qG w ((ew (cQ x)))):=by
 have CI:=af (fun W=>iR W x);have e1:(x.k==1)=false:=(by rw[a];rfl);have e3:(x.k==3)=true:=(by rw[a];rfl);have B:=af A;have z:cQ x=aG x.k++aO x.id++cV x.b:=(by unfold cQ;rw[hb,e1,e3];simp only[cond_true,cond_false,o_]);obtain⟨R,q⟩:=ay (ew (cQ x));rw[←q];rw[z]at q;rw[hb]at CI;obtain⟨X0,i⟩:=ay (bB (aG x.k));have t:=af (fun W=>aS i (cZ W x.k p));obtain⟨M,d⟩:=ay (bB (aO x.id));have E:=af (fun W=>aS d (l6 W x.id));obtain⟨N,f⟩:=ay (bB (cV x.b));have F:=af (fun W=>aS f (v7 W x.b B.o));obtain⟨O,j⟩:=ay (bB (aG x.k++aO x.id));have m:=fun W':World=>cg W' (aG x.k) (aO x.id) (by have:=aP x.k;(try simp only[ic]);omega) (by have:=c6 x.id;omega);rw[←d, ←j, ←i]at m;obtain⟨G,l⟩:=ay (bB (aG x.k++aO x.id++cV x.b));have n:=fun W':World=>cg W' (aG x.k++aO x.id) (cV x.b) (by have:=aP x.k;have:=c6 x.id;(try simp only[ic]);omega) (by have:=j_ x.b;omega);rw[←f, ←l, ←j]at n;have C:aj (R= .string G):=af (by rw[q,l];rfl);clear hb p z q i d j f l A a;(go_enter func54,ntmps54);go_upto_region 1 with fail
 refine au ?_;intro y g;have u:aj (ah No w y):=af (by rw[g];exact(aA w).alloc _);have c0:ai y w.heap.size 0 16=some (ct x):=(by rw[g];simp[go_sem]);clear g;go_wp2_with fail
 (with_reducible refine(CI.o _).mono ?_)
 rintro e W ⟨rfl,a⟩;have v:=af (u.o.aK a);have r:=a.ai c0;have m0:=ak r 0 _ rfl;simp only[bC]at m0;clear a c0 CI u;go_wp2_with fail
 (with_reducible refine(t.o _).mono ?_)
 rintro e c ⟨rfl,a⟩;have D:=af (v.o.aK a);have c1:=a.ai r;have m1:=a.cB m0;clear a r m0 t v;have K:∀w',ah No c w'→ai w' w.heap.size 1 3=some (bk x.id):=fun w' k=>aE (k.ai c1) 1 (bk x.id) rfl (by simp);have L:∀w',ah No c w'→ai w' w.heap.size 4 11=some (fe x.b):=fun w' k=>aE (k.ai c1) 4 (fe x.b) rfl (by simp);clear c1;go_upto_region 8 with fail
 go_region_held3 (fun w'=>ah No c w')
  (first|assumption|exact(aA c).drew|exact aA c)
  (first
    |(go_at_call 125
      have hc:=E.o
      with_reducible refine(hc _).mono ?_
      clear hc;rintro e I ⟨rfl,a⟩;have H:ah No c I:=ah.trans (by first|assumption|exact(aA c).drew|exact aA c) a (fun _ _ h=>h))
    |(go_at_call 126
      have hc:=F.o
      with_reducible refine(hc _).mono ?_
      clear hc;rintro e J ⟨rfl,a⟩;have s:ah No c J:=ah.trans (by first|assumption|exact(aA c).drew|exact aA c) a (fun _ _ h=>h)))
 all_goals go_wp2
 all_goals go_ret
 all_goals exact⟨by rw[C.o];rfl,D.o.aK s⟩
theorem Pk (w:World)(x:Cm)(hb:bD x=true)(p:i64 x.k)(a:x.k=4)(hm:i64 x.m):Calls prog 54 #[gH x] w (qG w ((ew (cQ x)))):=by
 have CI:=af (fun W=>iR W x);have e1:(x.k==1)=false:=(by rw[a];rfl);have e3:(x.k==3)=false:=(by rw[a];rfl);have G:(x.k==4)=true:=(by rw[a];rfl);have A:=af hm;have z:cQ x=aG x.k++aO x.id++aG x.m:=(by unfold cQ;rw[hb,e1,e3,G];simp only[cond_true,cond_false,o_]);obtain⟨R,q⟩:=ay (ew (cQ x));rw[←q];rw[z]at q;rw[hb]at CI;obtain⟨X0,g⟩:=ay (bB (aG x.k));have t:=af (fun W=>aS g (cZ W x.k p));obtain⟨M,c⟩:=ay (bB (aO x.id));have D:=af (fun W=>aS c (l6 W x.id));obtain⟨N,d⟩:=ay (bB (aG x.m));have E:=af (fun W=>aS d (cZ W x.m A.o));obtain⟨O,i⟩:=ay (bB (aG x.k++aO x.id));have l:=fun W':World=>cg W' (aG x.k) (aO x.id) (by have:=aP x.k;(try simp only[ic]);omega) (by have:=c6 x.id;omega);rw[←c, ←i, ←g]at l;obtain⟨F,j⟩:=ay (bB (aG x.k++aO x.id++aG x.m));have n:=fun W':World=>cg W' (aG x.k++aO x.id) (aG x.m) (by have:=aP x.k;have:=c6 x.id;(try simp only[ic]);omega) (by have:=aP x.m;omega);rw[←d, ←j, ←i]at n;have B:aj (R= .string F):=af (by rw[q,j];rfl);clear hb p z q g c i d j hm a;(go_enter func54,ntmps54);go_upto_region 1 with fail
 refine au ?_;intro y f;have u:aj (ah No w y):=af (by rw[f];exact(aA w).alloc _);have c0:ai y w.heap.size 0 16=some (ct x):=(by rw[f];simp[go_sem]);clear f;go_wp2_with fail
 (with_reducible refine(CI.o _).mono ?_)
 rintro e W ⟨rfl,a⟩;have v:=af (u.o.aK a);have r:=a.ai c0;have m0:=ak r 0 _ rfl;simp only[bC]at m0;clear a c0 CI u;go_wp2_with fail
 (with_reducible refine(t.o _).mono ?_)
 rintro e b ⟨rfl,a⟩;have C:=af (v.o.aK a);have c1:=a.ai r;have m1:=a.cB m0;clear a r m0 t v;have K:∀w',ah No b w'→ai w' w.heap.size 1 3=some (bk x.id):=fun w' k=>aE (k.ai c1) 1 (bk x.id) rfl (by simp);have m15:=ak c1 15 _ rfl;simp only[bC]at m15;have L:∀w',ah No b w'→w'.cell? ⟨w.heap.size,15,none⟩=some (qI x.m):=fun w' k=>k.cB m15;clear c1 m15;go_upto_region 10 with fail
 go_region_held3 (fun w'=>ah No b w')
  (first|assumption|exact(aA b).drew|exact aA b)
  (first
    |(go_at_call 125
      have hc:=D.o
      with_reducible refine(hc _).mono ?_
      clear hc;rintro e I ⟨rfl,a⟩;have H:ah No b I:=ah.trans (by first|assumption|exact(aA b).drew|exact aA b) a (fun _ _ h=>h))
    |(go_at_call 53
      have hc:=E.o
      with_reducible refine(hc _).mono ?_
      clear hc;rintro e J ⟨rfl,a⟩;have s:ah No b J:=ah.trans (by first|assumption|exact(aA b).drew|exact aA b) a (fun _ _ h=>h)))
 all_goals go_wp2
 all_goals go_ret
 all_goals exact⟨by rw[B.o];rfl,C.o.aK s⟩
theorem Pm (w:World)(x:Cm)(hb:bD x=true)(h:i64 x.k)(n1:¬x.k=1)(n3:¬x.k=3)(s:¬x.k=4):Calls prog 54 #[gH x] w (qG w ((ew (cQ x)))):=by
 have CI:=af (fun W=>iR W x);have e1:(x.k==1)=false:=(by simpa using n1);have e3:(x.k==3)=false:=(by simpa using n3);have B:(x.k==4)=false:=(by simpa using s);have r:cQ x=aG x.k++aO x.id:=(by unfold cQ;rw[hb,e1,e3,B];simp only[cond_true,cond_false]);obtain⟨R,i⟩:=ay (ew (cQ x));rw[←i];rw[r]at i;rw[hb]at CI;obtain⟨X0,d⟩:=ay (bB (aG x.k));have l:=af (fun W=>aS d (cZ W x.k h));obtain⟨C,b⟩:=ay (bB (aO x.id));have p:=af (fun W=>aS b (l6 W x.id));obtain⟨A,f⟩:=ay (bB (aG x.k++aO x.id));have g:=fun W':World=>cg W' (aG x.k) (aO x.id) (by have:=aP x.k;(try simp only[ic]);omega) (by have:=c6 x.id;omega);rw[←b, ←f, ←d]at g;have t:aj (R= .string A):=af (by rw[i,f];rfl);clear hb h r i d b f n1 n3 s;(go_enter func54,ntmps54);go_upto_region 1 with fail
 refine au ?_;intro q c;have m:aj (ah No w q):=af (by rw[c];exact(aA w).alloc _);have c0:ai q w.heap.size 0 16=some (ct x):=(by rw[c];simp[go_sem]);clear c;go_wp2_with fail
 (with_reducible refine(CI.o _).mono ?_)
 rintro e W ⟨rfl,a⟩;have n:=af (m.o.aK a);have j:=a.ai c0;have m0:=ak j 0 _ rfl;simp only[bC]at m0;clear a c0 CI m;go_wp2_with fail
 (with_reducible refine(l.o _).mono ?_)
 rintro e z ⟨rfl,a⟩;have u:=af (n.o.aK a);have c1:=a.ai j;have m1:=a.cB m0;clear a j m0 l n;have y:ai z w.heap.size 1 3=some (bk x.id):=aE c1 1 (bk x.id) rfl (by simp);clear c1;go_wp2_with fail
 (with_reducible refine(p.o _).mono ?_)
 rintro e D ⟨rfl,a⟩;have v:=af (u.o.aK a);clear a y m1 p;go_wp2;go_ret;exact⟨by rw[t.o];rfl,v.o⟩
theorem JM (w:World)(x:Cm):Calls prog 54 #[gH x] w (qG w ((ew (cQ x)))):=by
 cases hb:bD x with
 |false=>exact Ms w x hb
 |true=>
  by_cases c:x.k=1
  ·exact Ph w x hb ⟨by omega,by omega⟩ c
  ·by_cases b:x.k=3
   ·refine Pj w x hb ⟨by omega,by omega⟩ b ?_;have e:=hb;unfold bD at e;rw[show(x.k==1)=false by rw[b];rfl,show(x.k==2)=false by rw[b];rfl,show(x.k==3)=true by rw[b];rfl]at e;simp only[cond_true,cond_false,eA]at e;exact e.2.2.2.2
   ·by_cases a:x.k=4
    ·refine Pk w x hb ⟨by omega,by omega⟩ a ?_;have e:=hb;unfold bD at e;rw[show(x.k==1)=false by rw[a];rfl,show(x.k==2)=false by rw[a];rfl,show(x.k==3)=false by rw[a];rfl,show(x.k==4)=true by rw[a];rfl]at e;simp only[cond_true,cond_false,eA]at e;have e2:=e.2.2;unfold gW at e2;rw[mE]at e2;exact eT e2.1
    ·refine Pm w x hb ?_ c b a;by_cases d:x.k=2
     ·exact⟨by omega,by omega⟩
     ·have e:=hb;unfold bD at e;rw[show(x.k==1)=false by simpa using c,show(x.k==2)=false by simpa using d,show(x.k==3)=false by simpa using b,show(x.k==4)=false by simpa using a]at e;cases e
def KO (w:World)(g:Nat)(v:Value)(r:dx)(e:Ending)(w':World):Prop:=e= .returned v∧eP w' g r∧ah (Own g) w w'
theorem eP.iM {w:World}{g:Nat}{r:dx}(h:eP w g r):w.cell? ⟨g,1,none⟩=some (.bool (!r.isSome)):=by
 cases r with
 |none=>simp[World.cell?,h.box,lE]
 |some s=>simp[World.cell?,h.box,lE]
theorem kP {w:World}{g:Nat}{r:dx}(h:eP w g r):Calls prog 137 #[dP g] w (KO w g (iE (aF r).1) (aF r).2):=by
 obtain⟨R,D⟩:=ay (aF r);rw[←D];unfold aF oI at D;have aJ:=h.lt;have H:=af h;clear h;obtain⟨p0,e0⟩:=ay (bR r);rw[←e0]at D;obtain⟨aZ,e1⟩:=ay (bR p0.2);rw[←e1]at D;obtain⟨bf,e2⟩:=ay (bR aZ.2);rw[←e2]at D;obtain⟨n0,r0⟩:=p0;obtain⟨n1,r1⟩:=aZ;obtain⟨F,r2⟩:=bf;simp only at e1 e2 D;have aN:=af e0;have aO:=af e1;have aP:=af e2;have G:=af D;clear e0 e1 e2 D;(go_enter func137,ntmps137);go_upto_region 2 with fail
 refine au ?_;intro M u;have aM:ah No w M:=(by rw[u];exact((aA w).alloc _).alloc _);have aQ:aj (ah (Own g) w M):=af aM.own;have Q:aj (M.heap[w.heap.size+1]?=some (.cells #[qI 0,qI 0,qI 0] 23 (0,0))):=af (by rw[u];exact lY w _ _);have aG:aj (M.heap[w.heap.size]?=some (.cells #[qI 0,qI 0,qI 0] 23 (0,0))):=af (by rw[u];exact((aA (S:=No) _).alloc _).heap (bT w _) (fun h=>h));obtain⟨gi,N⟩:=ay (w.heap.size+1);obtain⟨gr,O⟩:=ay (w.heap.size);have a:aj (w.heap.size≤gi∧w.heap.size≤gr∧gi≠gr∧gi≠g∧gr≠g):=af ⟨by omega,by omega,by omega,by omega,by omega⟩;rw[←N]at Q⊢;rw[←O]at aG⊢;have aT:=af (H.o.kept aM (fun h=>h));clear u N O H aJ aM;have ak:=af (gE aT.o);rw[←aN.o]at ak;have g0:=(show M.cell? ⟨gi,0,none⟩=some (qI 0)by rw[bW _ _ _ _ _ _ Q.o];rfl);clear g0;(go_wp2_with fail);refine ak.o.mono ?_;rintro e w1 ⟨rfl,E,j⟩;have i1:=j.heap Q.o a.o.2.2.2.1;have i2:w1.cell? ⟨gi,0,none⟩=some (qI 0):=(by rw[bW _ _ _ _ _ _ i1];rfl);have i3:w1.frozen? ⟨gi,0,none⟩=false:=bF _ _ _ _ _ i1;have d:=af i1;have A:=af E;have y:=af (aQ.o.aK j);have B:=af (j.heap aG.o a.o.2.2.2.2);clear ak E j i1;go_upto_region 3 with fail
 refine au ?_;intro X hW;have k:ah (Own gi) w1 X:=(by rw[hW];exact(aA (S:=Own gi) w1).setCell (p:=⟨gi,0,none⟩) (fun _=>(rfl:gi=gi)) _);have av:aj (X.heap[gi]?=some (.cells #[qI n0,qI 0,qI 0] 23 (0,0))):=af (by rw[hW];exact aB d.o _);have R1:=af (A.o.kept k (fun e=>a.o.2.2.2.1 e.symm));have aR:aj (ah (Own g) w X):=af (y.o.trans k (fun i hi e=>by have e:i=gi:=e;have:=a.o.1;omega));have aV:=af (k.heap B.o (fun e=>a.o.2.2.1 e.symm));clear hW k d A y B i2 i3 Q aT aQ aG aN;have C1:=af (gE R1.o);rw[←aO.o]at C1;have g1:=(show X.cell? ⟨gi,1,none⟩=some (qI 0)by rw[bW _ _ _ _ _ _ av.o];rfl);clear g1;(go_wp2_with fail);refine C1.o.mono ?_;rintro e w2 ⟨rfl,E,j⟩;have i1:=j.heap av.o a.o.2.2.2.1;have i2:w2.cell? ⟨gi,1,none⟩=some (qI 0):=(by rw[bW _ _ _ _ _ _ i1];rfl);have i3:w2.frozen? ⟨gi,1,none⟩=false:=bF _ _ _ _ _ i1;have d:=af i1;have A:=af E;have y:=af (aR.o.aK j);have B:=af (j.heap aV.o a.o.2.2.2.2);clear C1 E j i1;go_upto_region 4 with fail
 refine au ?_;intro Y hW;have k:ah (Own gi) w2 Y:=(by rw[hW];exact(aA (S:=Own gi) w2).setCell (p:=⟨gi,1,none⟩) (fun _=>(rfl:gi=gi)) _);have aC:aj (Y.heap[gi]?=some (.cells #[qI n0,qI n1,qI 0] 23 (0,0))):=af (by rw[hW];exact aB d.o _);have aU:=af (A.o.kept k (fun e=>a.o.2.2.2.1 e.symm));have aS:aj (ah (Own g) w Y):=af (y.o.trans k (fun i hi e=>by have e:i=gi:=e;have:=a.o.1;omega));have aW:=af (k.heap B.o (fun e=>a.o.2.2.1 e.symm));clear hW k d A y B i2 i3 av R1 aR aV aO;have aq:=af (gE aU.o);rw[←aP.o]at aq;have g2:=(show Y.cell? ⟨gi,2,none⟩=some (qI 0)by rw[bW _ _ _ _ _ _ aC.o];rfl);clear g2;(go_wp2_with fail);refine aq.o.mono ?_;rintro e Z ⟨rfl,E,j⟩;have i1:=j.heap aC.o a.o.2.2.2.1;have i2:Z.cell? ⟨gi,2,none⟩=some (qI 0):=(by rw[bW _ _ _ _ _ _ i1];rfl);have i3:Z.frozen? ⟨gi,2,none⟩=false:=bF _ _ _ _ _ i1;have d:=af i1;have A:=af E;have y:=af (aS.o.aK j);have B:=af (j.heap aW.o a.o.2.2.2.2);clear aq E j i1;go_upto_region 5 with fail
 refine au ?_;intro J hW;have k:ah (Own gi) Z J:=(by rw[hW];exact(aA (S:=Own gi) Z).setCell (p:=⟨gi,2,none⟩) (fun _=>(rfl:gi=gi)) _);have T:aj (J.heap[gi]?=some (.cells #[qI n0,qI n1,qI F] 23 (0,0))):=af (by rw[hW];exact aB d.o _);have z:=af (A.o.kept k (fun e=>a.o.2.2.2.1 e.symm));have I:aj (ah (Own g) w J):=af (y.o.trans k (fun i hi e=>by have e:i=gi:=e;have:=a.o.1;omega));have K:=af (k.heap B.o (fun e=>a.o.2.2.1 e.symm));clear hW k d A y B i2 i3 aC aU aS aW aP;cases r2 with
 |none=>
  have c:R=(cO.zero,none):=G.o;have l1:J.cell? ⟨g,1,none⟩=some (.bool true):=z.o.iM;have L:=af (kO z.o);clear G;(go_wp2_with fail);refine L.o.mono ?_;rintro e n ⟨rfl,t,f⟩;have z4:=f.heap K.o a.o.2.2.2.2;have P:Open n gr:=⟨_,_,z4⟩;have sz:(aL n gr).size=3:=(by unfold aL;rw[z4];rfl);have aE:=af t;have aD:=af (I.o.aK f);clear t f z4 L l1 z I T K;(go_wp2_with fail);have q:ai (n.setRow gr #[qI 0,qI 0,qI 0]) gr 0 3=some (bk R.1):=(by rw[aH _ _ _ _ _ P,c];rfl);have C:aj (eP (n.setRow gr #[qI 0,qI 0,qI 0]) g R.2∧ah (Own g) w (n.setRow gr #[qI 0,qI 0,qI 0])):=af ⟨by rw[c];exact aE.o.kept ((aA (S:=Own gr) n).setRow (fun _=>(rfl:gr=gr)) _) (fun e=>a.o.2.2.2.2 e.symm),aD.o.setRow (fun h=>absurd h (bY.2 a.o.2.1)) _⟩;refine aY (v:=iE R.1) ?_ rfl ⟨rfl,C.o.1,C.o.2⟩;simp[results,results137,go_sem,q]
 |some s=>
  have l1:J.cell? ⟨g,1,none⟩=some (.bool false):=z.o.iM;have aI:ai J gi 0 3=some [qI n0,qI n1,qI F]:=(by unfold ai;rw[T.o];rfl);have l:=af (fun W=>kx W ⟨n0,n1,F⟩);cases m:dF ⟨n0,n1,F⟩with
  |false=>
   have c:R=(cO.zero,none):=(by rw[G.o,m];rfl);rw[m]at l;clear G m;go_wp2_with fail
   (with_reducible refine(l.o _).mono ?_)
   rintro e x ⟨rfl,b⟩;have V:=af (z.o.kept b (fun h=>h));have U:aj (ah (Own g) w x):=af (I.o.mS b);have aX:=af (b.heap K.o (fun h=>h));have L:=af (kO V.o);clear b l1 aI l z I T K;(go_wp2_with fail);refine L.o.mono ?_;rintro e n ⟨rfl,t,f⟩;have z4:=f.heap aX.o a.o.2.2.2.2;have P:Open n gr:=⟨_,_,z4⟩;have sz:(aL n gr).size=3:=(by unfold aL;rw[z4];rfl);have aE:=af t;have aD:=af (U.o.aK f);clear t f z4 L V U aX;(go_wp2_with fail);have q:ai (n.setRow gr #[qI 0,qI 0,qI 0]) gr 0 3=some (bk R.1):=(by rw[aH _ _ _ _ _ P,c];rfl);have C:aj (eP (n.setRow gr #[qI 0,qI 0,qI 0]) g R.2∧ah (Own g) w (n.setRow gr #[qI 0,qI 0,qI 0])):=af ⟨by rw[c];exact aE.o.kept ((aA (S:=Own gr) n).setRow (fun _=>(rfl:gr=gr)) _) (fun e=>a.o.2.2.2.2 e.symm),aD.o.setRow (fun h=>absurd h (bY.2 a.o.2.1)) _⟩;refine aY (v:=iE R.1) ?_ rfl ⟨rfl,C.o.1,C.o.2⟩;simp[results,results137,go_sem,q]
  |true=>
   have c:R=(⟨n0,n1,F⟩,some s):=(by rw[G.o,m];rfl);rw[m]at l;clear G m;go_wp2_with fail
   (with_reducible refine(l.o _).mono ?_)
   rintro e x ⟨rfl,b⟩;have V:=af (z.o.kept b (fun h=>h));have U:aj (ah (Own g) w x):=af (I.o.mS b);have c5:=b.ai aI;have z5:=b.heap K.o (fun h=>h);have P:Open x gr:=⟨_,_,z5⟩;have sz:(aL x gr).size=3:=(by unfold aL;rw[z5];rfl);clear b l1 aI l z I T K z5;(go_wp2_with fail);have q:ai (x.setRow gr #[qI n0,qI n1,qI F]) gr 0 3=some (bk R.1):=(by rw[aH _ _ _ _ _ P,c];rfl);have C:aj (eP (x.setRow gr #[qI n0,qI n1,qI F]) g R.2∧ah (Own g) w (x.setRow gr #[qI n0,qI n1,qI F])):=af ⟨by rw[c];exact V.o.kept ((aA (S:=Own gr) x).setRow (fun _=>(rfl:gr=gr)) _) (fun e=>a.o.2.2.2.2 e.symm),U.o.setRow (fun h=>absurd h (bY.2 a.o.2.1)) _⟩;refine aY (v:=iE R.1) ?_ rfl ⟨rfl,C.o.1,C.o.2⟩;simp[results,results137,go_sem,q]
def l7 (r:dx):Bd×dx:=bif (bR r).2.isSome&&jo (bR r).1 0 31 then iy (bR r).1 (bR r).2 else(Bd.zero,none)
def l8 (h:Bool)(l:List Nat)(s:Bd×dx):Bd×dx:=bif h then l.foldl jy s else s
theorem Mu (m:Int)(r:dx):l8 (hasB m 16) [10] (l8 (hasB m 8) [9] (l8 (hasB m 4) [8] (l8 (hasB m 2) [6,7] (l8 (hasB m 1) [4,5] (⟨0,0,0,m,0,0,0,0,0,0,0⟩,r)))))=iy m r:=by
 unfold l8 iy;cases b:hasB m 1<;>cases c:hasB m 2<;>cases d:hasB m 4<;>cases e:hasB m 8<;>cases a:hasB m 16<;>simp[jy,Gu,y4]
theorem Mv (m:Int):(iy m none).2=none:=by
 unfold iy y4;cases hasB m 1<;>cases hasB m 2<;>cases hasB m 4<;>cases hasB m 8<;>cases hasB m 16<;>rfl
theorem Bx (r:dx):(l7 r).2=(cR r).2∧((cR r).2.isSome=true→(l7 r).1=(cR r).1):=by
 unfold l7 cR;cases h0:jo (bR r).1 0 31
 ·rw[jR,iL];exact⟨rfl,fun _=>rfl⟩
 ·cases b:(bR r).2 with
  |none=>
   rw[Mv];exact⟨rfl,fun h=>by cases h⟩
  |some s=>
   cases a:(iy (bR r).1 (some s)).2 with
   |none=>exact⟨a,fun h=>by cases h⟩
   |some t=>exact⟨rfl,fun _=>rfl⟩
structure kC (w wc:World)(g gi gr:Nat)(m:Int)(s:Bd×dx):Prop where
 rd:eP wc g s.2
 bx:wc.heap[gi]?=some (.cells (fe s.1).toArray 25 (0,0))
 z:wc.heap[gr]?=some (.cells (fe Bd.zero).toArray 25 (0,0))
 k:ah (Own g) w wc
 m:s.1.m=m
structure Bz (w:World)(g gi gr:Nat):Prop where
 ni:w.heap.size≤gi
 nr:w.heap.size≤gr
 ir:gi≠gr
 ig:gi≠g
 rg:gr≠g
theorem kC.De {w wc:World}{g gi gr:Nat}{m:Int}{s:Bd×dx}(h:kC w wc g gi gr m s):wc.cell? ⟨gi,3,none⟩=some (qI m):=by
 rw[bW _ _ _ _ _ _ h.bx, ←h.m];rfl
theorem kC.step {w wc w1:World}{g gi gr:Nat}{m:Int}{s:Bd×dx}(h:kC w wc g gi gr m s)(a:Bz w g gi gr)(d:eP w1 g (bR s.2).2)(b:ah (Own g) wc w1)(x:Fl):
 kC w (w1.setCell ⟨gi,iG x,none⟩ (qI (bR s.2).1)) g gi gr m (jy s (iG x)):=by
 have c:ah (Own gi) w1 (w1.setCell ⟨gi,iG x,none⟩ (qI (bR s.2).1)):=(aA (S:=Own gi) w1).setCell (p:=⟨gi,iG x,none⟩) (fun _=>(rfl:gi=gi)) _;refine⟨d.kept c (fun e=>a.ig e.symm),?_,c.heap (b.heap h.z a.rg) (fun e=>a.ir e.symm),(h.k.aK b).trans c (fun i hi e=>by have e:i=gi:=e;have:=a.ni;omega),by rw[←h.m];exact OJ _ x _⟩;show _=some (Obj.cells (fe (Gu s.1 (iG x) (bR s.2).1)).toArray _ _);rw[←Bf];exact aB (b.heap h.bx a.ig) _
theorem kC.open {w wc w1:World}{g gi gr:Nat}{m:Int}{s:Bd×dx}(h:kC w wc g gi gr m s)(a:Bz w g gi gr)(c:ah (Own g) wc w1)(x:Fl):
 w1.frozen? ⟨gi,iG x,none⟩=false∧∃v,w1.cell? ⟨gi,iG x,none⟩=some v:=by
 have b:=c.heap h.bx a.ig;refine⟨bF _ _ _ _ _ b,⟨(fe s.1).getD (iG x) undef,?_⟩⟩;rw[bW _ _ _ _ _ _ b,Ib,xQ,fw (show iG x<(fe s.1).length from by have:=x.2;unfold iG;show 4+x.1<11;omega)]
 rfl
theorem tL {w:World}{g:Nat}{r:dx}(h:eP w g r):Calls prog 138 #[dP g] w (KO w g (mr (l7 r).1) (l7 r).2):=by
 obtain⟨R,bE⟩:=ay (l7 r);rw[←bE];unfold l7 at bE;have bQ:=h.lt;have H:=af h;clear h;obtain⟨p,e0⟩:=ay (bR r);rw[←e0]at bE;obtain⟨m,r0⟩:=p;have bU:=af e0;have aD:=af bE;clear e0 bE;(go_enter func138,ntmps138);go_upto_region 1 with fail
 refine au ?_;intro bW aR;have bM:aj (ah No w bW):=af (by rw[aR];exact(aA w).alloc _);have bO:aj (bW.heap[w.heap.size]?=some (.cells (fe Bd.zero).toArray 25 (0,0))):=af (by rw[aR];exact bT w _);have bV:=af (H.o.kept bM.o (fun h=>h));obtain⟨gr,bG⟩:=ay (w.heap.size);have aq:aj (w.heap.size≤gr∧gr≠g):=af ⟨by omega,by omega⟩;rw[←bG]at bO⊢;have bL:=af (gE bV.o);rw[←bU.o]at bL;clear aR bG H bQ bU;(go_wp2_with fail);refine bL.o.mono ?_;rintro e w1 ⟨rfl,n,l⟩;have R1:=af n;have bN:=af (bM.o.own.aK l);have bP:=af (l.heap bO.o aq.o.2);clear n l bL bV bM bO;go_upto_region 2 with fail
 refine au ?_;intro aF aS;have bK:ah No w1 aF:=(by rw[aS];exact(aA w1).alloc _);have bf:aj (aF.heap[w1.heap.size]?=some (.cells (fe ⟨0,0,0,m,0,0,0,0,0,0,0⟩).toArray 25 (0,0))):=af (by rw[aS];exact bT w1 _);have aP:=af (R1.o.kept bK (fun h=>h));have aE:aj (ah (Own g) w aF):=af (bN.o.mS bK);have aG:=af (bK.heap bP.o (fun h=>h));have a:aj (Bz w g w1.heap.size gr):=af ⟨bN.o.size,aq.o.1,by have:=(bX.1 bP.o).1;omega,by have:=R1.o.lt;omega,aq.o.2⟩;obtain⟨gi,bF⟩:=ay (w1.heap.size);rw[←bF]at bf a⊢;clear aS bK bF R1 bN bP aq;have B:aj (kC w aF g gi gr m (⟨0,0,0,m,0,0,0,0,0,0,0⟩,r0)):=af ⟨aP.o,bf.o,aG.o,aE.o,rfl⟩;have m0:=B.o.De;have l1:=aP.o.iM;have L:aj (R=(Bd.zero,none)→Calls prog 139 #[dP g] aF fun e w'=>e= .returned (.tuple #[])∧eP w' g none∧ah (Own g) aF w'):=af (fun _=>kO aP.o);cases r0 with
 |none=>
  have t:R=(Bd.zero,none):=aD.o;have l1:aF.cell? ⟨g,1,none⟩=some (.bool true):=l1;have aC:=af (L.o t);clear aD L;(go_wp2_with fail);refine aC.o.mono ?_;rintro e C ⟨rfl,K,u⟩;have z4:=u.heap aG.o a.o.rg;have aZ:Open C gr:=⟨_,_,z4⟩;have sz:(aL C gr).size=11:=(by unfold aL;rw[z4];rfl);have bD:=af K;have bC:=af (aE.o.aK u);clear K u z4 aC aP aE bf aG B;(go_wp2_with fail);have M:ai (C.setRow gr #[qI 0,qI 0,qI 0,qI 0,qI 0,qI 0,qI 0,qI 0,qI 0,qI 0,qI 0]) gr 0 11=some (fe R.1):=(by rw[aH _ _ _ _ _ aZ,t];rfl);have Z:aj (eP (C.setRow gr #[qI 0,qI 0,qI 0,qI 0,qI 0,qI 0,qI 0,qI 0,qI 0,qI 0,qI 0]) g R.2∧ah (Own g) w (C.setRow gr #[qI 0,qI 0,qI 0,qI 0,qI 0,qI 0,qI 0,qI 0,qI 0,qI 0,qI 0])):=af ⟨by rw[t];exact bD.o.kept ((aA (S:=Own gr) C).setRow (fun _=>(rfl:gr=gr)) _) (fun e=>a.o.rg e.symm),bC.o.setRow (fun h=>absurd h (bY.2 a.o.nr)) _⟩;refine aY (v:=mr R.1) ?_ rfl ⟨rfl,Z.o.1,Z.o.2⟩;simp[results,results138,go_sem,M]
 |some bZ=>
  have l1:aF.cell? ⟨g,1,none⟩=some (.bool false):=l1;by_cases t0:m<0
  ·have t:R=(Bd.zero,none):=by
    rw[aD.o];have:jo m 0 31=false:=(by unfold jo;rw[aJ (by omega)];rfl);rw[this];rfl
   have aC:=af (L.o t);clear aD L;(go_wp2_with fail);refine aC.o.mono ?_;rintro e C ⟨rfl,K,u⟩;have z4:=u.heap aG.o a.o.rg;have aZ:Open C gr:=⟨_,_,z4⟩;have sz:(aL C gr).size=11:=(by unfold aL;rw[z4];rfl);have bD:=af K;have bC:=af (aE.o.aK u);clear K u z4 aC aP aE bf aG B;(go_wp2_with fail);have M:ai (C.setRow gr #[qI 0,qI 0,qI 0,qI 0,qI 0,qI 0,qI 0,qI 0,qI 0,qI 0,qI 0]) gr 0 11=some (fe R.1):=(by rw[aH _ _ _ _ _ aZ,t];rfl);have Z:aj (eP (C.setRow gr #[qI 0,qI 0,qI 0,qI 0,qI 0,qI 0,qI 0,qI 0,qI 0,qI 0,qI 0]) g R.2∧ah (Own g) w (C.setRow gr #[qI 0,qI 0,qI 0,qI 0,qI 0,qI 0,qI 0,qI 0,qI 0,qI 0,qI 0])):=af ⟨by rw[t];exact bD.o.kept ((aA (S:=Own gr) C).setRow (fun _=>(rfl:gr=gr)) _) (fun e=>a.o.rg e.symm),bC.o.setRow (fun h=>absurd h (bY.2 a.o.nr)) _⟩;refine aY (v:=mr R.1) ?_ rfl ⟨rfl,Z.o.1,Z.o.2⟩;simp[results,results138,go_sem,M]
  ·by_cases t1:31<m
   ·have t:R=(Bd.zero,none):=by
     rw[aD.o];have:jo m 0 31=false:=(by unfold jo;rw[aJ (show¬m≤31 by omega),jR]);rw[this];rfl
    have aC:=af (L.o t);clear aD L;(go_wp2_with fail);refine aC.o.mono ?_;rintro e C ⟨rfl,K,u⟩;have z4:=u.heap aG.o a.o.rg;have aZ:Open C gr:=⟨_,_,z4⟩;have sz:(aL C gr).size=11:=(by unfold aL;rw[z4];rfl);have bD:=af K;have bC:=af (aE.o.aK u);clear K u z4 aC aP aE bf aG B;(go_wp2_with fail);have M:ai (C.setRow gr #[qI 0,qI 0,qI 0,qI 0,qI 0,qI 0,qI 0,qI 0,qI 0,qI 0,qI 0]) gr 0 11=some (fe R.1):=(by rw[aH _ _ _ _ _ aZ,t];rfl);have Z:aj (eP (C.setRow gr #[qI 0,qI 0,qI 0,qI 0,qI 0,qI 0,qI 0,qI 0,qI 0,qI 0,qI 0]) g R.2∧ah (Own g) w (C.setRow gr #[qI 0,qI 0,qI 0,qI 0,qI 0,qI 0,qI 0,qI 0,qI 0,qI 0,qI 0])):=af ⟨by rw[t];exact bD.o.kept ((aA (S:=Own gr) C).setRow (fun _=>(rfl:gr=gr)) _) (fun e=>a.o.rg e.symm),bC.o.setRow (fun h=>absurd h (bY.2 a.o.nr)) _⟩;refine aY (v:=mr R.1) ?_ rfl ⟨rfl,Z.o.1,Z.o.2⟩;simp[results,results138,go_sem,M]
   ·have t:aj (R=iy m (some bZ)):=af (by
     rw[aD.o];have:jo m 0 31=true:=mO.2 ⟨by omega,by omega⟩;rw[this];rfl)
    have bg:aj (i64 m):=af ⟨by omega,by omega⟩;obtain⟨s,hs⟩:=ay (((⟨0,0,0,m,0,0,0,0,0,0,0⟩:Bd),some bZ));rw[←hs]at B;have bn:=af hs;clear aD L aP aE bf aG hs;obtain⟨T,G⟩:=ay (hasB m 1);have c:=af (fun W=>iw W m 1 bg.o (by unfold qO;omega));rw[←G]at c;have F:=af G;clear G;go_wp2_with fail
    (with_reducible refine(c.o _).mono ?_)
    rintro e aB ⟨rfl,rfl⟩;clear c;go_upto_if 26 with fail
    go_cut [3] (fun o wc=>o= .pointer (some ⟨gi,0,none⟩)∧kC w wc g gi gr m (l8 T [4,5] s))
    case first=>
     cases T with
     |false=>
      (go_wp2_with fail);go_meet;exact⟨rfl,B.o⟩
     |true=>
      obtain⟨wy,J⟩:=ay (aB);subst J;have D:=af (gE B.o.rd);obtain⟨p0,d⟩:=ay (bR s.2);rw[←d]at D;have q:=af d;clear d;(go_wp2_with fail);refine D.o.mono ?_;rintro e A ⟨rfl,n,l⟩;obtain⟨f0,v0,x0⟩:=B.o.open a.o l 0;have f0:A.frozen? ⟨gi,4,none⟩=false:=f0;have x0:A.cell? ⟨gi,4,none⟩=some v0:=x0;have j:aj (kC w (A.setCell ⟨gi,4,none⟩ (qI p0.1)) g gi gr m (jy s 4)):=af (by
       rw[q.o]at n⊢;exact B.o.step a.o n l 0)
      clear n l D q;go_upto_region 7 with fail
      refine au ?_;intro cn ak;rw[←ak]at j;clear ak f0 x0;obtain⟨bI,O⟩:=ay (jy s 4);rw[←O]at j;have aO:=af O;clear O;have aN:=af (gE j.o.rd);obtain⟨bH,N⟩:=ay (bR bI.2);rw[←N]at aN;have P:=af N;clear N;(go_wp2_with fail);refine aN.o.mono ?_;rintro e av ⟨rfl,n,l⟩;obtain⟨f1,v1,bJ⟩:=j.o.open a.o l 1;have f1:av.frozen? ⟨gi,5,none⟩=false:=f1;have bJ:av.cell? ⟨gi,5,none⟩=some v1:=bJ;have aQ:aj (kC w (av.setCell ⟨gi,5,none⟩ (qI bH.1)) g gi gr m (jy bI 5)):=af (by
       rw[P.o]at n⊢;exact j.o.step a.o n l 1)
      clear n l aN P;have E:aj (kC w (av.setCell ⟨gi,5,none⟩ (qI bH.1)) g gi gr m (l8 true [4,5] s)):=af (by
       show kC _ _ _ _ _ _ (jy (jy s 4) 5);rw[←aO.o];exact aQ.o)
      clear F;(go_wp2_with fail);go_meet;exact⟨rfl,E.o⟩
    case rest=>
     obtain⟨s1,aT⟩:=ay (l8 T [4,5] s);rw[←aT]at hcut;have bp:aj (s1=l8 (hasB m 1) [4,5] s):=af (by rw[aT,F.o]);obtain⟨wx,I⟩:=ay (wc);subst I;obtain⟨rfl,f⟩:=hcut;have Q:=af f;have m1:=f.De;clear f aT F m0 B l1;obtain⟨T,G⟩:=ay (hasB m 2);have c:=af (fun W=>iw W m 2 bg.o (by unfold qO;omega));rw[←G]at c;have F:=af G;clear G;go_wp2_with fail
     (with_reducible refine(c.o _).mono ?_)
     rintro e aB ⟨rfl,rfl⟩;clear c;go_upto_if 35 with fail
     go_cut [3] (fun o wc=>o= .pointer (some ⟨gi,0,none⟩)∧kC w wc g gi gr m (l8 T [6,7] s1))
     case first=>
      cases T with
      |false=>
       (go_wp2_with fail);go_meet;exact⟨rfl,Q.o⟩
      |true=>
       obtain⟨wy,J⟩:=ay (aB);subst J;have D:=af (gE Q.o.rd);obtain⟨p0,d⟩:=ay (bR s1.2);rw[←d]at D;have q:=af d;clear d;(go_wp2_with fail);refine D.o.mono ?_;rintro e A ⟨rfl,n,l⟩;obtain⟨f0,v0,x0⟩:=Q.o.open a.o l 2;have f0:A.frozen? ⟨gi,6,none⟩=false:=f0;have x0:A.cell? ⟨gi,6,none⟩=some v0:=x0;have j:aj (kC w (A.setCell ⟨gi,6,none⟩ (qI p0.1)) g gi gr m (jy s1 6)):=af (by
        rw[q.o]at n⊢;exact Q.o.step a.o n l 2)
       clear n l D q;go_upto_region 10 with fail
       refine au ?_;intro cn ak;rw[←ak]at j;clear ak f0 x0;obtain⟨bI,O⟩:=ay (jy s1 6);rw[←O]at j;have aO:=af O;clear O;have aN:=af (gE j.o.rd);obtain⟨bH,N⟩:=ay (bR bI.2);rw[←N]at aN;have P:=af N;clear N;(go_wp2_with fail);refine aN.o.mono ?_;rintro e av ⟨rfl,n,l⟩;obtain⟨f1,v1,bJ⟩:=j.o.open a.o l 3;have f1:av.frozen? ⟨gi,7,none⟩=false:=f1;have bJ:av.cell? ⟨gi,7,none⟩=some v1:=bJ;have aQ:aj (kC w (av.setCell ⟨gi,7,none⟩ (qI bH.1)) g gi gr m (jy bI 7)):=af (by
        rw[P.o]at n⊢;exact j.o.step a.o n l 3)
       clear n l aN P;have E:aj (kC w (av.setCell ⟨gi,7,none⟩ (qI bH.1)) g gi gr m (l8 true [6,7] s1)):=af (by
        show kC _ _ _ _ _ _ (jy (jy s1 6) 7);rw[←aO.o];exact aQ.o)
       clear F;(go_wp2_with fail);go_meet;exact⟨rfl,E.o⟩
     case rest=>
      obtain⟨s2,aU⟩:=ay (l8 T [6,7] s1);rw[←aU]at hcut;have bq:aj (s2=l8 (hasB m 2) [6,7] s1):=af (by rw[aU,F.o]);obtain⟨wx,I⟩:=ay (wc);subst I;obtain⟨rfl,f⟩:=hcut;have U:=af f;have m2:=f.De;clear f aU F m1 Q;obtain⟨T,G⟩:=ay (hasB m 4);have c:=af (fun W=>iw W m 4 bg.o (by unfold qO;omega));rw[←G]at c;have F:=af G;clear G;go_wp2_with fail
      (with_reducible refine(c.o _).mono ?_)
      rintro e aB ⟨rfl,rfl⟩;clear c;go_upto_if 44 with fail
      go_cut [3] (fun o wc=>o= .pointer (some ⟨gi,0,none⟩)∧kC w wc g gi gr m (l8 T [8] s2))
      case first=>
       cases T with
       |false=>
        (go_wp2_with fail);go_meet;exact⟨rfl,U.o⟩
       |true=>
        obtain⟨wy,J⟩:=ay (aB);subst J;have D:=af (gE U.o.rd);obtain⟨p0,d⟩:=ay (bR s2.2);rw[←d]at D;have q:=af d;clear d;(go_wp2_with fail);refine D.o.mono ?_;rintro e A ⟨rfl,n,l⟩;obtain⟨f0,v0,x0⟩:=U.o.open a.o l 4;have f0:A.frozen? ⟨gi,8,none⟩=false:=f0;have x0:A.cell? ⟨gi,8,none⟩=some v0:=x0;have j:aj (kC w (A.setCell ⟨gi,8,none⟩ (qI p0.1)) g gi gr m (jy s2 8)):=af (by
         rw[q.o]at n⊢;exact U.o.step a.o n l 4)
        clear n l D q;have E:aj (kC w (A.setCell ⟨gi,8,none⟩ (qI p0.1)) g gi gr m (l8 true [8] s2)):=af (by
         show kC _ _ _ _ _ _ (jy s2 8)
         skip
         exact j.o)
        clear F;(go_wp2_with fail);go_meet;exact⟨rfl,E.o⟩
      case rest=>
       obtain⟨aI,aV⟩:=ay (l8 T [8] s2);rw[←aV]at hcut;have bu:aj (aI=l8 (hasB m 4) [8] s2):=af (by rw[aV,F.o]);obtain⟨wx,I⟩:=ay (wc);subst I;obtain⟨rfl,f⟩:=hcut;have V:=af f;have m3:=f.De;clear f aV F m2 U;obtain⟨T,G⟩:=ay (hasB m 8);have c:=af (fun W=>iw W m 8 bg.o (by unfold qO;omega));rw[←G]at c;have F:=af G;clear G;go_wp2_with fail
       (with_reducible refine(c.o _).mono ?_)
       rintro e aB ⟨rfl,rfl⟩;clear c;go_upto_if 50 with fail
       go_cut [3] (fun o wc=>o= .pointer (some ⟨gi,0,none⟩)∧kC w wc g gi gr m (l8 T [9] aI))
       case first=>
        cases T with
        |false=>
         (go_wp2_with fail);go_meet;exact⟨rfl,V.o⟩
        |true=>
         obtain⟨wy,J⟩:=ay (aB);subst J;have D:=af (gE V.o.rd);obtain⟨p0,d⟩:=ay (bR aI.2);rw[←d]at D;have q:=af d;clear d;(go_wp2_with fail);refine D.o.mono ?_;rintro e A ⟨rfl,n,l⟩;obtain⟨f0,v0,x0⟩:=V.o.open a.o l 5;have f0:A.frozen? ⟨gi,9,none⟩=false:=f0;have x0:A.cell? ⟨gi,9,none⟩=some v0:=x0;have j:aj (kC w (A.setCell ⟨gi,9,none⟩ (qI p0.1)) g gi gr m (jy aI 9)):=af (by
          rw[q.o]at n⊢;exact V.o.step a.o n l 5)
         clear n l D q;have E:aj (kC w (A.setCell ⟨gi,9,none⟩ (qI p0.1)) g gi gr m (l8 true [9] aI)):=af (by
          show kC _ _ _ _ _ _ (jy aI 9)
          skip
          exact j.o)
         clear F;(go_wp2_with fail);go_meet;exact⟨rfl,E.o⟩
       case rest=>
        obtain⟨aM,aW⟩:=ay (l8 T [9] aI);rw[←aW]at hcut;have bA:aj (aM=l8 (hasB m 8) [9] aI):=af (by rw[aW,F.o]);obtain⟨wx,I⟩:=ay (wc);subst I;obtain⟨rfl,f⟩:=hcut;have X:=af f;have m4:=f.De;clear f aW F m3 V;obtain⟨T,G⟩:=ay (hasB m 16);have c:=af (fun W=>iw W m 16 bg.o (by unfold qO;omega));rw[←G]at c;have F:=af G;clear G;go_wp2_with fail
        (with_reducible refine(c.o _).mono ?_)
        rintro e aB ⟨rfl,rfl⟩;clear c;go_upto_if 56 with fail
        go_cut [3] (fun o wc=>o= .pointer (some ⟨gi,0,none⟩)∧kC w wc g gi gr m (l8 T [10] aM))
        case first=>
         cases T with
         |false=>
          (go_wp2_with fail);go_meet;exact⟨rfl,X.o⟩
         |true=>
          obtain⟨wy,J⟩:=ay (aB);subst J;have D:=af (gE X.o.rd);obtain⟨p0,d⟩:=ay (bR aM.2);rw[←d]at D;have q:=af d;clear d;(go_wp2_with fail);refine D.o.mono ?_;rintro e A ⟨rfl,n,l⟩;obtain⟨f0,v0,x0⟩:=X.o.open a.o l 6;have f0:A.frozen? ⟨gi,10,none⟩=false:=f0;have x0:A.cell? ⟨gi,10,none⟩=some v0:=x0;have j:aj (kC w (A.setCell ⟨gi,10,none⟩ (qI p0.1)) g gi gr m (jy aM 10)):=af (by
           rw[q.o]at n⊢;exact X.o.step a.o n l 6)
          clear n l D q;have E:aj (kC w (A.setCell ⟨gi,10,none⟩ (qI p0.1)) g gi gr m (l8 true [10] aM)):=af (by
           show kC _ _ _ _ _ _ (jy aM 10)
           skip
           exact j.o)
          clear F;(go_wp2_with fail);go_meet;exact⟨rfl,E.o⟩
        case rest=>
         obtain⟨bS,aX⟩:=ay (l8 T [10] aM);rw[←aX]at hcut;have bB:aj (bS=l8 (hasB m 16) [10] aM):=af (by rw[aX,F.o]);obtain⟨wx,I⟩:=ay (wc);subst I;obtain⟨rfl,f⟩:=hcut;have Y:=af f;have m5:=f.De;clear f aX F m4 X;have bk:aj (R=bS):=af (by rw[t.o,bB.o,bA.o,bu.o,bq.o,bp.o,bn.o,Mu]);clear t bB bA bu bq bp bn m5;obtain⟨b,cr⟩:=bS;have cq:ai wx gi 0 11=some [qI b.s,qI b.i,qI b.g,qI b.m,qI b.x,qI b.y,qI b.vx,qI b.vy,qI b.hp,qI b.pw,qI b.lf]:=(by unfold ai;rw[Y.o.bx];rfl);have z5:=Y.o.z;have aZ:Open wx gr:=⟨_,_,z5⟩;have sz:(aL wx gr).size=11:=(by unfold aL;rw[z5];rfl);have cg:=af Y.o.rd;have b_:=af Y.o.k;clear z5 Y;(go_wp2_with fail);have M:ai (wx.setRow gr #[qI b.s,qI b.i,qI b.g,qI b.m,qI b.x,qI b.y,qI b.vx,qI b.vy,qI b.hp,qI b.pw,qI b.lf]) gr 0 11=some (fe R.1):=(by rw[aH _ _ _ _ _ aZ,bk.o];rfl);have Z:aj (eP (wx.setRow gr #[qI b.s,qI b.i,qI b.g,qI b.m,qI b.x,qI b.y,qI b.vx,qI b.vy,qI b.hp,qI b.pw,qI b.lf]) g R.2∧ah (Own g) w (wx.setRow gr #[qI b.s,qI b.i,qI b.g,qI b.m,qI b.x,qI b.y,qI b.vx,qI b.vy,qI b.hp,qI b.pw,qI b.lf])):=af ⟨by rw[bk.o];exact cg.o.kept ((aA (S:=Own gr) wx).setRow (fun _=>(rfl:gr=gr)) _) (fun e=>a.o.rg e.symm),b_.o.setRow (fun h=>absurd h (bY.2 a.o.nr)) _⟩;refine aY (v:=mr R.1) ?_ rfl ⟨rfl,Z.o.1,Z.o.2⟩;simp[results,results138,go_sem,M]
theorem GR (r:dx):gX r=bif (l7 (aF r).2).2.isSome&&kR ((l7 (aF r).2).1.named (aF r).1)then((l7 (aF r).2).1.named (aF r).1,(l7 (aF r).2).2)else(Bd.zero,none):=by
 obtain⟨a,b⟩:=Bx (aF r).2;unfold gX;cases h:(cR (aF r).2).2.isSome with
 |true=>rw[a,b h,h]
 |false=>rw[a,h,iL,iL];rfl
theorem GS {w:World}{g:Nat}{r:dx}(h:eP w g r):Calls prog 136 #[dP g] w (KO w g (mr (gX r).1) (gX r).2):=by
 obtain⟨R,K⟩:=ay (gX r);rw[←K];rw[GR]at K;have aU:=h.lt;have H:=af h;clear h;obtain⟨p0,e0⟩:=ay (aF r);rw[←e0]at K;obtain⟨⟨n0,n1,y⟩,r0⟩:=p0;obtain⟨bE,e1⟩:=ay (l7 r0);simp only at K;rw[←e1]at K;obtain⟨⟨b0,b1,bA,m,n,p,q,t,u,x,a⟩,r1⟩:=bE;have aW:=af e0;have aX:=af e1;have P:aj (R=bif r1.isSome&&kR ⟨n0,n1,y,m,n,p,q,t,u,x,a⟩then(⟨n0,n1,y,m,n,p,q,t,u,x,a⟩,r1)else(Bd.zero,none)):=af K
 clear e0 e1 K;(go_enter func136,ntmps136);go_upto_region 1 with fail
 refine au ?_;intro bk L;have aN:aj (ah No w bk):=af (by rw[L];exact(aA w).alloc _);have aS:aj (bk.heap[w.heap.size]?=some (.cells (fe Bd.zero).toArray 25 (0,0))):=af (by rw[L];exact bT w _);have bf:=af (H.o.kept aN.o (fun h=>h));obtain⟨gr,aq⟩:=ay (w.heap.size);have A:aj (w.heap.size≤gr∧gr≠g):=af ⟨by omega,by omega⟩;rw[←aq]at aS⊢;have aM:=af (kP bf.o);rw[←aW.o]at aM;clear L aq H aU aW;(go_wp2_with fail);refine aM.o.mono ?_;rintro e w1 ⟨rfl,av,J⟩;have R1:=af av;have aO:=af (aN.o.own.aK J);have bn:=af (J.heap aS.o A.o.2);clear av J aM bf aN aS;go_upto_region 2 with fail
 refine au ?_;intro aR M;have aI:ah No w1 aR:=(by rw[M];exact(aA w1).alloc _);have aP:aj (aR.heap[w1.heap.size]?=some (.cells #[qI n0,qI n1,qI y] 23 (0,0))):=af (by rw[M];exact bT w1 _);have bg:=af (R1.o.kept aI (fun h=>h));have aZ:aj (ah (Own g) w aR):=af (aO.o.mS aI);have bp:=af (aI.heap bn.o (fun h=>h));obtain⟨gn,ak⟩:=ay (w1.heap.size);have Y:aj (w.heap.size≤gn∧gn≠g):=af ⟨by have:=aO.o.size;omega,by have:=R1.o.lt;omega⟩;rw[←ak]at aP⊢;have C1:=af (tL bg.o);rw[←aX.o]at C1;clear M aI ak R1 aO bn aX bg;(go_wp2_with fail);refine C1.o.mono ?_;rintro e w2 ⟨rfl,av,J⟩;have l:=af av;have D:=af (aZ.o.aK J);have F:=af (J.heap bp.o A.o.2);have aQ:=af (J.heap aP.o Y.o.2);clear av J C1 aZ bp aP;go_upto_region 3 with fail
 refine au ?_;intro E N;have aB:ah No w2 E:=(by rw[N];exact(aA w2).alloc _);have Q:aj (E.heap[w2.heap.size]?=some (.cells (fe ⟨b0,b1,bA,m,n,p,q,t,u,x,a⟩).toArray 25 (0,0))):=af (by rw[N];exact bT w2 _);have U:=af (l.o.kept aB (fun h=>h));have T:aj (ah (Own g) w E):=af (D.o.mS aB);have bq:=af (aB.heap F.o (fun h=>h));have bB:=aB.heap aQ.o (fun h=>h);obtain⟨gi,Z⟩:=ay (w2.heap.size);have z:aj (w.heap.size≤gi∧w.heap.size≤gr∧gi≠gr∧gi≠g∧gr≠g):=af ⟨by have:=D.o.size;omega,A.o.1,by have:=(bX.1 F.o).1;omega,by have:=l.o.lt;omega,A.o.2⟩;have aV:gn≠gi:=(by have:=(bX.1 aQ.o).1;omega);rw[←Z]at Q⊢;have bC:ai E gn 0 3=some [qI n0,qI n1,qI y]:=(by unfold ai;rw[bB];rfl);have bD:Open E gi:=⟨_,_,Q.o⟩;have bF:(aL E gi).size=11:=(by unfold aL;rw[Q.o];rfl);clear N aB Z l D F aQ A Y bB;go_upto_region 4 with fail
 refine au ?_;intro V O;have aJ:ah (Own gi) E V:=(by rw[O];exact(aA (S:=Own gi) E).setRow (fun _=>(rfl:gi=gi)) _);have aD:aj (V.heap[gi]?=some (.cells #[qI n0,qI n1,qI y,qI m,qI n,qI p,qI q,qI t,qI u,qI x,qI a] 25 (0,0))):=af (by
  rw[O,kX E gi _ _ _ _ Q.o];have e:aL E gi=(fe ⟨b0,b1,bA,m,n,p,q,t,u,x,a⟩).toArray:=(by unfold aL;rw[Q.o]);rw[e];rfl)
 have l:=af (U.o.kept aJ (fun e=>z.o.2.2.2.1 e.symm));have D:aj (ah (Own g) w V):=af (T.o.trans aJ (fun i hi e=>by have e:i=gi:=e;have:=z.o.1;omega));have F:=af (aJ.heap bq.o (fun e=>z.o.2.2.1 e.symm));clear O aJ bC bD bF aV U T bq Q;cases r1 with
 |none=>
  have c:R=(Bd.zero,none):=P.o;have l1:V.cell? ⟨g,1,none⟩=some (.bool true):=l.o.iM;have X:=af (kO l.o);clear P;(go_wp2_with fail);refine X.o.mono ?_;rintro e k ⟨rfl,C,d⟩;have z4:=d.heap F.o z.o.2.2.2.2;have aC:Open k gr:=⟨_,_,z4⟩;have sz:(aL k gr).size=11:=(by unfold aL;rw[z4];rfl);have U:=af C;have T:=af (D.o.aK d);clear C d z4 X l1 l D aD F;(go_wp2_with fail);have B:ai (k.setRow gr #[qI 0,qI 0,qI 0,qI 0,qI 0,qI 0,qI 0,qI 0,qI 0,qI 0,qI 0]) gr 0 11=some (fe R.1):=(by rw[aH _ _ _ _ _ aC,c];rfl);have I:aj (eP (k.setRow gr #[qI 0,qI 0,qI 0,qI 0,qI 0,qI 0,qI 0,qI 0,qI 0,qI 0,qI 0]) g R.2∧ah (Own g) w (k.setRow gr #[qI 0,qI 0,qI 0,qI 0,qI 0,qI 0,qI 0,qI 0,qI 0,qI 0,qI 0])):=af ⟨by rw[c];exact U.o.kept ((aA (S:=Own gr) k).setRow (fun _=>(rfl:gr=gr)) _) (fun e=>z.o.2.2.2.2 e.symm),T.o.setRow (fun h=>absurd h (bY.2 z.o.2.1)) _⟩;refine aY (v:=mr R.1) ?_ rfl ⟨rfl,I.o.1,I.o.2⟩;simp[results,results136,go_sem,B]
 |some s=>
  have l1:V.cell? ⟨g,1,none⟩=some (.bool false):=l.o.iM;have aT:ai V gi 0 11=some [qI n0,qI n1,qI y,qI m,qI n,qI p,qI q,qI t,qI u,qI x,qI a]:=(by unfold ai;rw[aD.o];rfl);have f:=af (fun W=>vZ W ⟨n0,n1,y,m,n,p,q,t,u,x,a⟩);cases j:kR ⟨n0,n1,y,m,n,p,q,t,u,x,a⟩with
  |false=>
   have c:R=(Bd.zero,none):=(by rw[P.o,j];rfl);rw[j]at f;clear P j;go_wp2_with fail
   (with_reducible refine(f.o _).mono ?_)
   rintro e G ⟨rfl,b⟩;have aG:=af (l.o.kept b (fun h=>h));have aE:aj (ah (Own g) w G):=af (D.o.mS b);have bu:=af (b.heap F.o (fun h=>h));have X:=af (kO aG.o);clear b l1 aT f l D aD F;(go_wp2_with fail);refine X.o.mono ?_;rintro e k ⟨rfl,C,d⟩;have z4:=d.heap bu.o z.o.2.2.2.2;have aC:Open k gr:=⟨_,_,z4⟩;have sz:(aL k gr).size=11:=(by unfold aL;rw[z4];rfl);have U:=af C;have T:=af (aE.o.aK d);clear C d z4 X aG aE bu;(go_wp2_with fail);have B:ai (k.setRow gr #[qI 0,qI 0,qI 0,qI 0,qI 0,qI 0,qI 0,qI 0,qI 0,qI 0,qI 0]) gr 0 11=some (fe R.1):=(by rw[aH _ _ _ _ _ aC,c];rfl);have I:aj (eP (k.setRow gr #[qI 0,qI 0,qI 0,qI 0,qI 0,qI 0,qI 0,qI 0,qI 0,qI 0,qI 0]) g R.2∧ah (Own g) w (k.setRow gr #[qI 0,qI 0,qI 0,qI 0,qI 0,qI 0,qI 0,qI 0,qI 0,qI 0,qI 0])):=af ⟨by rw[c];exact U.o.kept ((aA (S:=Own gr) k).setRow (fun _=>(rfl:gr=gr)) _) (fun e=>z.o.2.2.2.2 e.symm),T.o.setRow (fun h=>absurd h (bY.2 z.o.2.1)) _⟩;refine aY (v:=mr R.1) ?_ rfl ⟨rfl,I.o.1,I.o.2⟩;simp[results,results136,go_sem,B]
  |true=>
   have c:R=(⟨n0,n1,y,m,n,p,q,t,u,x,a⟩,some s):=(by rw[P.o,j];rfl);rw[j]at f;clear P j;go_wp2_with fail
   (with_reducible refine(f.o _).mono ?_)
   rintro e G ⟨rfl,b⟩;have aG:=af (l.o.kept b (fun h=>h));have aE:aj (ah (Own g) w G):=af (D.o.mS b);have c5:=b.ai aT;have z5:=b.heap F.o (fun h=>h);have aC:Open G gr:=⟨_,_,z5⟩;have sz:(aL G gr).size=11:=(by unfold aL;rw[z5];rfl);clear b l1 aT f l D aD F z5;(go_wp2_with fail);have B:ai (G.setRow gr #[qI n0,qI n1,qI y,qI m,qI n,qI p,qI q,qI t,qI u,qI x,qI a]) gr 0 11=some (fe R.1):=(by rw[aH _ _ _ _ _ aC,c];rfl);have I:aj (eP (G.setRow gr #[qI n0,qI n1,qI y,qI m,qI n,qI p,qI q,qI t,qI u,qI x,qI a]) g R.2∧ah (Own g) w (G.setRow gr #[qI n0,qI n1,qI y,qI m,qI n,qI p,qI q,qI t,qI u,qI x,qI a])):=af ⟨by rw[c];exact aG.o.kept ((aA (S:=Own gr) G).setRow (fun _=>(rfl:gr=gr)) _) (fun e=>z.o.2.2.2.2 e.symm),aE.o.setRow (fun h=>absurd h (bY.2 z.o.2.1)) _⟩;refine aY (v:=mr R.1) ?_ rfl ⟨rfl,I.o.1,I.o.2⟩;simp[results,results136,go_sem,B]
def Mw (k:Int)(r:dx):Cm×dx:=
 bif k==1 then(⟨k,0,0,0,(gX r).1,0⟩,(gX r).2)else
 bif k==2 then(⟨k,(aF r).1.s,(aF r).1.i,(aF r).1.g,Bd.zero,0⟩,(aF r).2)else
 bif k==3 then(⟨k,(aF r).1.s,(aF r).1.i,(aF r).1.g,(l7 (aF r).2).1,0⟩,(l7 (aF r).2).2)else
 bif k==4 then(⟨k,(aF r).1.s,(aF r).1.i,(aF r).1.g,Bd.zero,(bR (aF r).2).1⟩,(bR (aF r).2).2)else(⟨k,0,0,0,Bd.zero,0⟩,r)
theorem Pn (r:dx):c8 r=bif (Mw (bR r).1 (bR r).2).2.isSome&&bD (Mw (bR r).1 (bR r).2).1 then Mw (bR r).1 (bR r).2 else(Cm.zero,none):=by
 have key:∀(k:Int) (r:dx),(Mw k r).2=(dY k r).2∧((dY k r).2.isSome=true→(Mw k r).1=(dY k r).1):=by
  intro k r;obtain⟨a,b⟩:=Bx (aF r).2;unfold Mw dY;cases k==1
  ·cases k==2
   ·cases k==3
    ·cases k==4
     ·exact⟨rfl,fun _=>rfl⟩
     ·exact⟨rfl,fun _=>rfl⟩
    ·simp only[cond_true,cond_false];exact⟨a,fun h=>by rw[b h]⟩
   ·exact⟨rfl,fun _=>rfl⟩
  ·exact⟨rfl,fun _=>rfl⟩
 obtain⟨a,b⟩:=key (bR r).1 (bR r).2;unfold c8;cases h:(dY (bR r).1 (bR r).2).2.isSome with
 |true=>
  have e:Mw (bR r).1 (bR r).2=dY (bR r).1 (bR r).2:=Prod.ext (b h) a;rw[e,h]
 |false=>rw[a,h,iL,iL];rfl
structure uF (w:World)(g gi gr:Nat)(s:Cm×dx)(wc:World):Prop where
 rd:eP wc g s.2
 bx:wc.heap[gi]?=some (.cells (ct s.1).toArray 27 (0,0))
 z:wc.heap[gr]?=some (.cells (ct Cm.zero).toArray 27 (0,0))
 k:ah (Own g) w wc
theorem uF.read {w wc w1:World}{g gi gr:Nat}{c:Cm}{r r':dx}(h:uF w g gi gr (c,r) wc)(a:Bz w g gi gr)(d:eP w1 g r')(b:ah (Own g) wc w1):uF w g gi gr (c,r') w1:=
 ⟨d,b.heap h.bx a.ig,b.heap h.z a.rg,h.k.aK b⟩
theorem uF.put {w w1 w2:World}{g gi gr:Nat}{c c':Cm}{r:dx}(h:uF w g gi gr (c,r) w1)(a:Bz w g gi gr)(b:ah (Own gi) w1 w2)(hb:w2.heap[gi]?=some (.cells (ct c').toArray 27 (0,0))):uF w g gi gr (c',r) w2:=
 ⟨h.rd.kept b (fun e=>a.ig e.symm),hb,b.heap h.z (fun e=>a.ir e.symm),h.k.trans b (fun i hi e=>by have e:i=gi:=e;have:=a.ni;omega)⟩
theorem uF.opens {w w1:World}{g gi gr:Nat}{s:Cm×dx}(h:uF w g gi gr s w1):Open w1 gi∧(aL w1 gi).size=16∧aL w1 gi=(ct s.1).toArray:=
 ⟨⟨_,_,h.bx⟩,by unfold aL;rw[h.bx];rfl,by unfold aL;rw[h.bx]⟩
theorem uF.putRow {w w1:World}{g gi gr:Nat}{c c':Cm}{r:dx}(h:uF w g gi gr (c,r) w1)(a:Bz w g gi gr)(C:Array Value)(hC:C=(ct c').toArray):uF w g gi gr (c',r) (w1.setRow gi C):=
 h.put a ((aA (S:=Own gi) w1).setRow (fun _=>(rfl:gi=gi)) _) (by rw[kX w1 gi _ _ _ _ h.bx,hC])
theorem GU {w:World}{g:Nat}{r:dx}(h:eP w g r):Calls prog 63 #[dP g] w (KO w g (gH (c8 r).1) (c8 r).2):=by
 obtain⟨R,aD⟩:=ay (c8 r);rw[←aD];rw[Pn]at aD;have bO:=h.lt;have H:=af h;clear h;obtain⟨p0,e0⟩:=ay (bR r);rw[←e0]at aD;obtain⟨k,r0⟩:=p0;simp only at aD;obtain⟨X,bN⟩:=ay (Mw k r0);rw[←bN]at aD;have f:=af bN;have bS:=af e0;have Z:=af aD;clear e0 aD bN;(go_enter func63,ntmps63);go_upto_region 1 with fail
 refine au ?_;intro b_ aE;have bu:aj (ah No w b_):=af (by rw[aE];exact(aA w).alloc _);have bG:aj (b_.heap[w.heap.size]?=some (.cells (ct Cm.zero).toArray 27 (0,0))):=af (by rw[aE];exact bT w _);have bV:=af (H.o.kept bu.o (fun h=>h));obtain⟨gr,aT⟩:=ay (w.heap.size);have Y:aj (w.heap.size≤gr∧gr≠g):=af ⟨by omega,by omega⟩;rw[←aT]at bG⊢;have bp:=af (gE bV.o);rw[←bS.o]at bp;clear aE aT H bO bS;(go_wp2_with fail);refine bp.o.mono ?_;rintro e w1 ⟨rfl,u,l⟩;have R1:=af u;have bA:=af (bu.o.own.aK l);have bH:=af (l.heap bG.o Y.o.2);clear u l bp bV bu bG;go_upto_region 2 with fail
 refine au ?_;intro aQ aG;have bk:ah No w1 aQ:=(by rw[aG];exact(aA w1).alloc _);have aX:aj (aQ.heap[w1.heap.size]?=some (.cells (ct ⟨k,0,0,0,Bd.zero,0⟩).toArray 27 (0,0))):=af (by rw[aG];exact bT w1 _);have bZ:=af (R1.o.kept bk (fun h=>h));have bU:aj (ah (Own g) w aQ):=af (bA.o.mS bk);have cg:=af (bk.heap bH.o (fun h=>h));have a:aj (Bz w g w1.heap.size gr):=af ⟨bA.o.size,Y.o.1,by have:=(bX.1 bH.o).1;omega,by have:=R1.o.lt;omega,Y.o.2⟩;obtain⟨gi,aS⟩:=ay (w1.heap.size);rw[←aS]at aX a⊢;clear aG bk aS R1 bA bH Y;have j:aj (uF w g gi gr (⟨k,0,0,0,Bd.zero,0⟩,r0) aQ):=af ⟨bZ.o,aX.o,cg.o,bU.o⟩;have c0:aQ.cell? ⟨gi,0,none⟩=some (qI k):=(by rw[bW _ _ _ _ _ _ aX.o];rfl);clear bZ bU cg aX
 go_upto_block 0 with fail
 clear c0;go_cut [] (uF w g gi gr X)
 case first=>
  by_cases b:k=1
  ·have b1:(k==1)=true:=(by rw[b];rfl);have n:(k==2)=false:=(by rw[b];rfl);have q:(k==3)=false:=(by rw[b];rfl);have t:(k==4)=false:=(by rw[b];rfl);have B:aj (X=(⟨k,0,0,0,(gX r0).1,0⟩,(gX r0).2)):=af (by rw[f.o];unfold Mw;rw[b1,n,q,t];rfl);clear f b;have y:=af (GS j.o.rd);obtain⟨p0,c⟩:=ay (gX r0);rw[←c]at y B;have aC:=af c;clear c;(go_wp2_with fail);refine y.o.mono ?_;rintro e I ⟨rfl,u,l⟩;have O:=af (j.o.read a.o u l);obtain⟨aU,aW,d0⟩:=O.o.opens;obtain⟨⟨b0,bI,bJ,bK,bL,J,K,L,M,N,d⟩,r1⟩:=p0;have A:=af d0;clear u l y d0;(go_wp2_with fail);go_meet;rw[B.o];exact O.o.putRow a.o _ (by rw[A.o];rfl)
  have n1:¬k=1:=b;clear b;by_cases b:k=2
  ·have b1:(k==1)=false:=(by rw[b];rfl);have n:(k==2)=true:=(by rw[b];rfl);have q:(k==3)=false:=(by rw[b];rfl);have t:(k==4)=false:=(by rw[b];rfl);have B:aj (X=(⟨k,(aF r0).1.s,(aF r0).1.i,(aF r0).1.g,Bd.zero,0⟩,(aF r0).2)):=af (by rw[f.o];unfold Mw;rw[b1,n,q,t];rfl);clear f b;have y:=af (kP j.o.rd);obtain⟨p0,c⟩:=ay (aF r0);rw[←c]at y B;have aC:=af c;clear c;(go_wp2_with fail);refine y.o.mono ?_;rintro e I ⟨rfl,u,l⟩;have O:=af (j.o.read a.o u l);obtain⟨aU,aW,d0⟩:=O.o.opens;obtain⟨⟨n0,n1,aI⟩,r1⟩:=p0;have A:=af d0;clear u l y d0;(go_wp2_with fail);go_meet;rw[B.o];exact O.o.putRow a.o _ (by rw[A.o];rfl)
  have aI:¬k=2:=b;clear b;by_cases b:k=3
  ·have b1:(k==1)=false:=(by rw[b];rfl);have n:(k==2)=false:=(by rw[b];rfl);have q:(k==3)=true:=(by rw[b];rfl);have t:(k==4)=false:=(by rw[b];rfl);have B:aj (X=(⟨k,(aF r0).1.s,(aF r0).1.i,(aF r0).1.g,(l7 (aF r0).2).1,0⟩,(l7 (aF r0).2).2)):=af (by rw[f.o];unfold Mw;rw[b1,n,q,t];rfl);clear f b;have y:=af (kP j.o.rd);obtain⟨p0,c⟩:=ay (aF r0);rw[←c]at y B;have aC:=af c;clear c;(go_wp2_with fail);refine y.o.mono ?_;rintro e I ⟨rfl,u,l⟩;have O:=af (j.o.read a.o u l);obtain⟨aU,aW,d0⟩:=O.o.opens;obtain⟨⟨n0,n1,aI⟩,r1⟩:=p0;have A:=af d0;clear u l y d0;go_upto_region 9 with fail
   refine au ?_;intro bE P;have aP:aj (uF w g gi gr (⟨k,n0,n1,aI,Bd.zero,0⟩,r1) bE):=af (by rw[P];exact O.o.putRow a.o _ (by rw[A.o];rfl));clear P aU aW;have av:=af (tL aP.o.rd);obtain⟨bQ,D⟩:=ay (l7 r1);rw[←D]at av B;have bq:=af D;clear D;(go_wp2_with fail);refine av.o.mono ?_;rintro e bn ⟨rfl,u,l⟩;have Q1:=af (aP.o.read a.o u l);obtain⟨cr,s1,d1⟩:=Q1.o.opens;obtain⟨⟨b0,bI,bJ,bK,bL,J,K,L,M,N,d⟩,r2⟩:=bQ;have aO:=af d1;clear u l av d1;(go_wp2_with fail);go_meet;rw[B.o];exact Q1.o.putRow a.o _ (by rw[aO.o];rfl)
  have n3:¬k=3:=b;clear b;by_cases b:k=4
  ·have b1:(k==1)=false:=(by rw[b];rfl);have n:(k==2)=false:=(by rw[b];rfl);have q:(k==3)=false:=(by rw[b];rfl);have t:(k==4)=true:=(by rw[b];rfl);have B:aj (X=(⟨k,(aF r0).1.s,(aF r0).1.i,(aF r0).1.g,Bd.zero,(bR (aF r0).2).1⟩,(bR (aF r0).2).2)):=af (by rw[f.o];unfold Mw;rw[b1,n,q,t];rfl);clear f b;have y:=af (kP j.o.rd);obtain⟨p0,c⟩:=ay (aF r0);rw[←c]at y B;have aC:=af c;clear c;(go_wp2_with fail);refine y.o.mono ?_;rintro e I ⟨rfl,u,l⟩;have O:=af (j.o.read a.o u l);obtain⟨aU,aW,d0⟩:=O.o.opens;obtain⟨⟨n0,n1,aI⟩,r1⟩:=p0;have A:=af d0;clear u l y d0;go_upto_region 12 with fail
   refine au ?_;intro bE P;have aP:aj (uF w g gi gr (⟨k,n0,n1,aI,Bd.zero,0⟩,r1) bE):=af (by rw[P];exact O.o.putRow a.o _ (by rw[A.o];rfl));clear P aU aW;have av:=af (gE aP.o.rd);obtain⟨bQ,D⟩:=ay (bR r1);rw[←D]at av B;have bq:=af D;clear D;(go_wp2_with fail);refine av.o.mono ?_;rintro e bn ⟨rfl,u,l⟩;have Q1:=af (aP.o.read a.o u l);obtain⟨cr,s1,d1⟩:=Q1.o.opens;obtain⟨mm,r2⟩:=bQ;have cu:bn.cell? ⟨gi,15,none⟩=some (qI 0):=(by rw[bW _ _ _ _ _ _ Q1.o.bx];rfl);have f15:bn.frozen? ⟨gi,15,none⟩=false:=bF _ _ _ _ _ Q1.o.bx;have aO:=af d1;clear u l av d1;(go_wp2_with fail);go_meet;rw[B.o];exact Q1.o.put a.o ((aA (S:=Own gi) bn).setCell (p:=⟨gi,15,none⟩) (fun _=>(rfl:gi=gi)) _) (aB Q1.o.bx _)
  have cq:¬k=4:=b;clear b;have b1:(k==1)=false:=(by simpa using n1);have n:(k==2)=false:=(by simpa using aI);have q:(k==3)=false:=(by simpa using n3);have t:(k==4)=false:=(by simpa using cq);have B:aj (X=(⟨k,0,0,0,Bd.zero,0⟩,r0)):=af (by rw[f.o];unfold Mw;rw[b1,n,q,t];rfl);clear f n1 aI n3 cq;(go_wp2_with fail);go_meet;rw[B.o];exact j.o
 case rest=>
  obtain⟨aR,bP⟩:=ay (wc);subst bP;obtain⟨⟨V,cs,ci,U,⟨b0,b1,n,q,t,J,K,L,M,N,d⟩,cm⟩,r1⟩:=X;have aZ:aj (aR.heap[gi]?=some (.cells #[qI V,qI cs,qI ci,qI U,qI b0,qI b1,qI n,qI q,qI t,qI J,qI K,qI L,qI M,qI N,qI d,qI cm] 27 (0,0))):=af hcut.bx;have ak:aj (eP aR g r1):=af hcut.rd;have aJ:=af hcut.k;have aM:=af hcut.z;have Z:aj (R=bif r1.isSome&&bD ⟨V,cs,ci,U,⟨b0,b1,n,q,t,J,K,L,M,N,d⟩,cm⟩then(⟨V,cs,ci,U,⟨b0,b1,n,q,t,J,K,L,M,N,d⟩,cm⟩,r1)else(Cm.zero,none)):=af Z.o
  clear hcut j f;cases r1 with
  |none=>
   have x:R=(Cm.zero,none):=Z.o;have l1:aR.cell? ⟨g,1,none⟩=some (.bool true):=ak.o.iM;have aN:=af (kO ak.o);clear Z;(go_wp2_with fail);refine aN.o.mono ?_;rintro e G ⟨rfl,T,C⟩;have z4:=C.heap aM.o a.o.rg;have aV:Open G gr:=⟨_,_,z4⟩;have sz:(aL G gr).size=16:=(by unfold aL;rw[z4];rfl);have bC:=af T;have bB:=af (aJ.o.aK C);clear T C z4 aN l1 ak aJ aZ aM;(go_wp2_with fail);have Q:ai (G.setRow gr #[qI 0,qI 0,qI 0,qI 0,qI 0,qI 0,qI 0,qI 0,qI 0,qI 0,qI 0,qI 0,qI 0,qI 0,qI 0,qI 0]) gr 0 16=some (ct R.1):=(by rw[aH _ _ _ _ _ aV,x];rfl);have aq:aj (eP (G.setRow gr #[qI 0,qI 0,qI 0,qI 0,qI 0,qI 0,qI 0,qI 0,qI 0,qI 0,qI 0,qI 0,qI 0,qI 0,qI 0,qI 0]) g R.2∧ah (Own g) w (G.setRow gr #[qI 0,qI 0,qI 0,qI 0,qI 0,qI 0,qI 0,qI 0,qI 0,qI 0,qI 0,qI 0,qI 0,qI 0,qI 0,qI 0])):=af ⟨by rw[x];exact bC.o.kept ((aA (S:=Own gr) G).setRow (fun _=>(rfl:gr=gr)) _) (fun e=>a.o.rg e.symm),bB.o.setRow (fun h=>absurd h (bY.2 a.o.nr)) _⟩;refine aY (v:=gH R.1) ?_ rfl ⟨rfl,aq.o.1,aq.o.2⟩;simp[results,results63,go_sem,Q]
  |some s=>
   have l1:aR.cell? ⟨g,1,none⟩=some (.bool false):=ak.o.iM;have bM:ai aR gi 0 16=some [qI V,qI cs,qI ci,qI U,qI b0,qI b1,qI n,qI q,qI t,qI J,qI K,qI L,qI M,qI N,qI d,qI cm]:=(by unfold ai;rw[aZ.o];rfl);have E:=af (fun W=>iR W ⟨V,cs,ci,U,⟨b0,b1,n,q,t,J,K,L,M,N,d⟩,cm⟩);cases F:bD ⟨V,cs,ci,U,⟨b0,b1,n,q,t,J,K,L,M,N,d⟩,cm⟩with
   |false=>
    have x:R=(Cm.zero,none):=(by rw[Z.o,F];rfl);rw[F]at E;clear Z F;go_wp2_with fail
    (with_reducible refine(E.o _).mono ?_)
    rintro e I ⟨rfl,m⟩;have bg:=af (ak.o.kept m (fun h=>h));have bf:aj (ah (Own g) w I):=af (aJ.o.mS m);have cn:=af (m.heap aM.o (fun h=>h));have aN:=af (kO bg.o);clear m l1 bM E ak aJ aZ aM;(go_wp2_with fail);refine aN.o.mono ?_;rintro e G ⟨rfl,T,C⟩;have z4:=C.heap cn.o a.o.rg;have aV:Open G gr:=⟨_,_,z4⟩;have sz:(aL G gr).size=16:=(by unfold aL;rw[z4];rfl);have bC:=af T;have bB:=af (bf.o.aK C);clear T C z4 aN bg bf cn;(go_wp2_with fail);have Q:ai (G.setRow gr #[qI 0,qI 0,qI 0,qI 0,qI 0,qI 0,qI 0,qI 0,qI 0,qI 0,qI 0,qI 0,qI 0,qI 0,qI 0,qI 0]) gr 0 16=some (ct R.1):=(by rw[aH _ _ _ _ _ aV,x];rfl);have aq:aj (eP (G.setRow gr #[qI 0,qI 0,qI 0,qI 0,qI 0,qI 0,qI 0,qI 0,qI 0,qI 0,qI 0,qI 0,qI 0,qI 0,qI 0,qI 0]) g R.2∧ah (Own g) w (G.setRow gr #[qI 0,qI 0,qI 0,qI 0,qI 0,qI 0,qI 0,qI 0,qI 0,qI 0,qI 0,qI 0,qI 0,qI 0,qI 0,qI 0])):=af ⟨by rw[x];exact bC.o.kept ((aA (S:=Own gr) G).setRow (fun _=>(rfl:gr=gr)) _) (fun e=>a.o.rg e.symm),bB.o.setRow (fun h=>absurd h (bY.2 a.o.nr)) _⟩;refine aY (v:=gH R.1) ?_ rfl ⟨rfl,aq.o.1,aq.o.2⟩;simp[results,results63,go_sem,Q]
   |true=>
    have x:R=(⟨V,cs,ci,U,⟨b0,b1,n,q,t,J,K,L,M,N,d⟩,cm⟩,some s):=(by rw[Z.o,F];rfl);rw[F]at E;clear Z F;go_wp2_with fail
    (with_reducible refine(E.o _).mono ?_)
    rintro e I ⟨rfl,m⟩;have bg:=af (ak.o.kept m (fun h=>h));have bf:aj (ah (Own g) w I):=af (aJ.o.mS m);have c5:=m.ai bM;have z5:=m.heap aM.o (fun h=>h);have aV:Open I gr:=⟨_,_,z5⟩;have sz:(aL I gr).size=16:=(by unfold aL;rw[z5];rfl);clear m l1 bM E ak aJ aZ aM z5;(go_wp2_with fail);have Q:ai (I.setRow gr #[qI V,qI cs,qI ci,qI U,qI b0,qI b1,qI n,qI q,qI t,qI J,qI K,qI L,qI M,qI N,qI d,qI cm]) gr 0 16=some (ct R.1):=(by rw[aH _ _ _ _ _ aV,x];rfl);have aq:aj (eP (I.setRow gr #[qI V,qI cs,qI ci,qI U,qI b0,qI b1,qI n,qI q,qI t,qI J,qI K,qI L,qI M,qI N,qI d,qI cm]) g R.2∧ah (Own g) w (I.setRow gr #[qI V,qI cs,qI ci,qI U,qI b0,qI b1,qI n,qI q,qI t,qI J,qI K,qI L,qI M,qI N,qI d,qI cm])):=af ⟨by rw[x];exact bg.o.kept ((aA (S:=Own gr) I).setRow (fun _=>(rfl:gr=gr)) _) (fun e=>a.o.rg e.symm),bf.o.setRow (fun h=>absurd h (bY.2 a.o.nr)) _⟩;refine aY (v:=gH R.1) ?_ rfl ⟨rfl,aq.o.1,aq.o.2⟩;simp[results,results63,go_sem,Q]
