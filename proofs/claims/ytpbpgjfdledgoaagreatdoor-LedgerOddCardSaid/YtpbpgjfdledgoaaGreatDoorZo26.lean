/- Lemmas. -/
import Derived.Test.YtpbpgjfdledgoaaGreatDoorZo23
set_option linter.all false
set_option maxRecDepth 100000
set_option maxHeartbeats 8000000
open Option renaming getD_some→Sj
open List renaming length_nil→iP
open Int renaming natCast_zero→Sk
namespace Go.Proofs.YtpbpgjfdledgoaaGreatDoor
open Go.Proofs.Tryz
open Go.RowKit Go.Joins
def lE:dx→List Value
 |none=> [.string ⟨#[]⟩,.bool true]
 |some s=> [.string ⟨s.toArray⟩,.bool false]
structure bJ (w:World)(g:Nat)(r:dx):Prop where
 box:w.heap[g]?=some (.cells (lE r).toArray 198 (0,0))
 few:∀s,r=some s→(s.length:Int)≤140737488355328
theorem bJ.kept {S:Nat→Prop}{w w':World}{g:Nat}{r:dx}(h:bJ w g r)(k:ah S w w')(a:¬S g):bJ w' g r:=⟨k.heap h.box a,h.few⟩
theorem ah.own {w w':World}{g:Nat}(h:ah No w w'):ah (Own g) w w':=h.mono (fun _ _ h=>h.elim)
theorem bJ.cells {w:World}{g:Nat}{r:dx}(h:bJ w g r):∃x y,w.cell? ⟨g,0,none⟩=some x∧w.cell? ⟨g,1,none⟩=some y:=by
 cases r with
 |none=>exact⟨_,_,by simp[World.cell?,h.box,lE];rfl,by simp[World.cell?,h.box,lE];rfl⟩
 |some s=>exact⟨_,_,by simp[World.cell?,h.box,lE];rfl,by simp[World.cell?,h.box,lE];rfl⟩
theorem bJ.lt {w:World}{g:Nat}{r:dx}(h:bJ w g r):g<w.heap.size:=(bX.1 h.box).1
theorem bJ.size {w:World}{g:Nat}{s:Nm}(h:bJ w g (some s)):((⟨s.toArray⟩:ByteArray).size:Int)≤140737488355328:=by
 have:=h.few s rfl;have e:(⟨s.toArray⟩:ByteArray).size=s.length:=(by simp[ByteArray.size]);omega
theorem lF {w:World}{p:Nat}{x y:Value}{t:TypeId}(h:w.heap[p]?=some (.cells #[x,y] t (0,0)))(u v:Value):((w.setCell ⟨p,1,none⟩ v).setCell ⟨p,0,none⟩ u).heap[p]?=some (.cells #[u,v] t (0,0)):=
 aB (aB h v) u
theorem A8 {s:Nm} :bR (some s)=Qa s:=rfl
theorem QY {r:dx}(h:∀s,r=some s→(s.length:Int)≤140737488355328):∀s,(bR r).2=some s→(s.length:Int)≤140737488355328:=by
 intro s hs;cases r with
 |none=>cases hs
 |some t=>
  rw[A8]at hs;unfold Qa at hs;have:=h t rfl;cases a:jT t with
  |none=>rw[a]at hs;cases hs
  |some p=>
   obtain⟨n,k⟩:=p;rw[a]at hs;simp only[Option.some.injEq]at hs;subst hs;rw[jQ];omega
theorem fF {w:World}{g:Nat}{r:dx}(h:bJ w g r):Calls prog 57 #[dP g] w fun e w'=>e= .returned (qI (bR r).1)∧bJ w' g (bR r).2∧ah (Own g) w w':=by
 have H:=h.lt;have HH:=af h;cases r with
 |none=>
  have c1:w.cell? ⟨g,1,none⟩=some (.bool true):=(by simp[World.cell?,h.box,lE]);clear h;(go_enter func57,ntmps57);go_wp2;go_ret;exact⟨rfl,HH.o,aA _⟩
 |some s=>
  have x:=h.size;have c0:w.cell? ⟨g,0,none⟩=some (.string ⟨s.toArray⟩):=(by simp[World.cell?,h.box,lE]);have c1:w.cell? ⟨g,1,none⟩=some (.bool false):=(by simp[World.cell?,h.box,lE]);have y:aj (bR (some s)=Qa s):=af rfl;have f:=F8 w ⟨s.toArray⟩ x;have d:(⟨s.toArray⟩:ByteArray).data.toList=s:=(by simp);rw[d]at f;have m:=af (QY h.few);have j:(⟨s.toArray⟩:ByteArray).size=s.length:=(by simp[ByteArray.size]);obtain⟨T,q⟩:=ay (⟨s.toArray⟩:ByteArray);have a:=h.box;rw[lE, ←q]at a;rw[←q]at c0 f j d;cases i:jT s with
  |none=>
   rw[i]at f;have l:aj (bR (some s)=(0,none)):=af (by rw[y.o];unfold Qa;rw[i]);have t:=af a;have K:=af i;have C:=af f;clear h q i d a f j;(go_enter func57,ntmps57);(go_wp2_with fail);refine C.o.mono ?_;rintro e w1 ⟨rfl,c⟩;have u:=af c;have d0:=c.cB c0;have d1:=c.cB c1;have b:=af (c.heap t.o (fun h=>h));have f0:w1.frozen? ⟨g,0,none⟩=false:=bF _ _ _ _ _ b.o;have f1:w1.frozen? ⟨g,1,none⟩=false:=bF _ _ _ _ _ b.o;clear c c0 c1;simp only[vF];go_wp2;go_ret;refine⟨by rw[l.o];rfl,⟨?_,?_⟩,?_⟩
   ·rw[l.o];exact lF b.o _ _
   ·rw[l.o];intro s h;cases h
   ·exact((u.o.own.setCell (p:=⟨g,1,none⟩) (fun _=>(rfl:g=g)) _).setCell (p:=⟨g,0,none⟩) (fun _=>(rfl:g=g)) _)
  |some p=>
   obtain⟨n,k⟩:=p;rw[i]at f;obtain⟨I,J,E,F,G⟩:=Fk i;have l:aj (bR (some s)=(n,some (s.drop k))):=af (by rw[y.o];unfold Qa;rw[i]);have z:k≤T.size:=(by omega);have A:(k:Int)≤(T.size:Int):=(by omega);have D:(0:Int)≤(k:Int):=(by omega);have B:aj (T.extract k T.size=⟨(s.drop k).toArray⟩):=by
    refine af ?_;have v:(T.extract k T.size).data.toList=s.drop k:=(by rw[←fP,Lib.extract_toList,d,fA (by rw[jQ];omega)]);cases he:T.extract k T.size;rw[he]at v;simp only at v;congr 1;rw[←v]
   have t:=af a;have C:=af f;clear h q i d a f j;(go_enter func57,ntmps57);(go_wp2_with fail);refine C.o.mono ?_;rintro e w1 ⟨rfl,c⟩;have u:=af c;have d0:=c.cB c0;have d1:=c.cB c1;have b:=af (c.heap t.o (fun h=>h));have f0:w1.frozen? ⟨g,0,none⟩=false:=bF _ _ _ _ _ b.o;clear c c0 c1;simp only[vF];go_wp2;go_ret;refine⟨by rw[l.o];rfl,⟨?_,?_⟩,?_⟩
   ·rw[l.o,B.o];exact aB b.o _
   ·exact m.o
   ·exact(u.o.own.setCell (p:=⟨g,0,none⟩) (fun _=>(rfl:g=g)) _)
theorem S8 (w:World)(s:ByteArray)(hs:(s.size:Int)≤140737488355328):Calls prog 56 #[.string s] w fun e w'=>e= .returned (dP w.heap.size)∧bJ w' w.heap.size (some s.data.toList)∧ah No w w':=by
 have a:=af hs;clear hs;(go_enter func56,ntmps56);go_wp2;go_ret;refine⟨rfl,⟨?_,?_⟩,(aA w).alloc _⟩
 ·rw[bT];rfl
 ·intro t b;cases b;have:=a.o
  simpa using this
theorem Gi {w:World}{g:Nat}{r:dx}(h:bJ w g r):Calls prog 132 #[dP g] w fun e w'=>e= .returned (qI (((r.getD []).length:Nat):Int))∧w=w':=by
 cases r with
 |none=>
  have c0:w.cell? ⟨g,0,none⟩=some (.string ⟨#[]⟩):=(by simp[World.cell?,h.box,lE]);clear h;(go_enter func132,ntmps132);go_wp2;go_ret;exact⟨rfl,rfl⟩
 |some s=>
  have c0:w.cell? ⟨g,0,none⟩=some (.string ⟨s.toArray⟩):=(by simp[World.cell?,h.box,lE]);have a:aj ((⟨s.toArray⟩:ByteArray).size=s.length):=af (by simp[ByteArray.size]);obtain⟨T,b⟩:=ay (⟨s.toArray⟩:ByteArray);rw[←b]at c0 a;clear h b;(go_enter func132,ntmps132);go_wp2;go_ret;exact⟨by rw[Sj, ←a.o];rfl,rfl⟩
theorem Gj {w:World}{g:Nat}{r:dx}(h:bJ w g r):Calls prog 61 #[dP g] w fun e w'=>e= .returned (qI (bif AB r then 0 else 2))∧w=w':=by
 match r,h with
 |none,h=>
  have c0:w.cell? ⟨g,1,none⟩=some (.bool true):=(by simp[World.cell?,h.box,lE]);clear h;(go_enter func61,ntmps61);go_wp2;go_ret;exact⟨rfl,rfl⟩
 |some [],h=>
  have c0:w.cell? ⟨g,0,none⟩=some (.string ⟨#[]⟩):=(by simp[World.cell?,h.box,lE]);have c1:w.cell? ⟨g,1,none⟩=some (.bool false):=(by simp[World.cell?,h.box,lE]);clear h;(go_enter func61,ntmps61);go_wp2;go_ret;exact⟨rfl,rfl⟩
 |some (x::s),h=>
  have c0:w.cell? ⟨g,0,none⟩=some (.string ⟨(x::s).toArray⟩):=(by simp[World.cell?,h.box,lE]);have c1:w.cell? ⟨g,1,none⟩=some (.bool false):=(by simp[World.cell?,h.box,lE]);have hl:(⟨(x::s).toArray⟩:ByteArray).toList=x::s:=(by rw[fP]);obtain⟨T,a⟩:=ay (⟨(x::s).toArray⟩:ByteArray);rw[←a]at c0 hl;have b:T.toList.isEmpty=false:=(by rw[hl];rfl);have c:(!T.toList.isEmpty)=true:=(by rw[b];rfl);clear h a hl;(go_enter func61,ntmps61);go_wp2;go_ret;exact⟨rfl,rfl⟩
theorem bJ.bad {w:World}{g:Nat}{r:dx}(h:bJ w g r):bJ ((w.setCell ⟨g,1,none⟩ (.bool true)).setCell ⟨g,0,none⟩ (.string ⟨#[]⟩)) g none:=by
 refine⟨?_,fun s hs=>by cases hs⟩;cases r with
 |none=>exact lF h.box _ _
 |some s=>exact lF h.box _ _
theorem mW {w:World}{g:Nat}{r:dx}(h:bJ w g r)(m:Int):Calls prog 131 #[dP g,qI m] w fun e w'=>e= .returned (qI (dc m r).1)∧bJ w' g (dc m r).2∧ah (Own g) w w':=by
 have C:=af (fF h);have l:=h.lt;obtain⟨x,j⟩:=ay (bR r);have d:aj (dc m r=bif decide (x.1<0)||decide (m<x.1)then(0,none)else x):=af (by rw[j];rfl)
 rw[←j]at C;obtain⟨n,r'⟩:=x;clear h j;dsimp only at C d;by_cases i:n<0
 ·have c:aj (dc m r=(0,none)):=af (by rw[d.o,aM i];rfl);clear d;(go_enter func131,ntmps131);(go_wp2_with fail);refine C.o.mono ?_;rintro e w1 ⟨rfl,a,b⟩;have R1:=af a;have f:=af b;have f0:w1.frozen? ⟨g,0,none⟩=false:=bF _ _ _ _ _ a.box;have f1:w1.frozen? ⟨g,1,none⟩=false:=bF _ _ _ _ _ a.box;obtain⟨x0,q,d0,d1⟩:=a.cells;clear a b;go_wp2;go_ret;exact⟨by rw[c.o];rfl,by rw[c.o];exact R1.o.bad,((f.o.setCell (p:=⟨g,1,none⟩) (fun _=>(rfl:g=g)) _).setCell (p:=⟨g,0,none⟩) (fun _=>(rfl:g=g)) _)⟩
 ·by_cases k:m<n
  ·have c:aj (dc m r=(0,none)):=af (by rw[d.o,aJ i,aM k];rfl);clear d;(go_enter func131,ntmps131);(go_wp2_with fail);refine C.o.mono ?_;rintro e w1 ⟨rfl,a,b⟩;have R1:=af a;have f:=af b;have f0:w1.frozen? ⟨g,0,none⟩=false:=bF _ _ _ _ _ a.box;have f1:w1.frozen? ⟨g,1,none⟩=false:=bF _ _ _ _ _ a.box;obtain⟨x0,q,d0,d1⟩:=a.cells;clear a b;go_wp2;go_ret;exact⟨by rw[c.o];rfl,by rw[c.o];exact R1.o.bad,((f.o.setCell (p:=⟨g,1,none⟩) (fun _=>(rfl:g=g)) _).setCell (p:=⟨g,0,none⟩) (fun _=>(rfl:g=g)) _)⟩
  ·have c:aj (dc m r=(n,r')):=af (by rw[d.o,aJ i,aJ k];rfl);clear d;(go_enter func131,ntmps131);(go_wp2_with fail);refine C.o.mono ?_;rintro e w1 ⟨rfl,a,b⟩;have R1:=af a;have f:=af b;clear a b;go_wp2;go_ret;exact⟨by rw[c.o];rfl,by rw[c.o];exact R1.o,f.o⟩
def xG (r:dx):Bool:=!r.isSome
theorem ox {w:World}{g:Nat}{r:dx}(h:bJ w g r):Calls prog 133 #[dP g] w fun e w'=>e= .returned (.bool (xG r))∧w=w':=by
 have C1:=af (Gi h);have a:=af (Gj h)
 match r,C1,a with
 |none,C1,a=>
  clear h;(go_enter func133,ntmps133);(go_wp2_with fail);refine C1.o.mono ?_;rintro e w1 ⟨rfl,rfl⟩;simp only[Option.getD_none,iP,Sk];(go_wp2_with fail);refine a.o.mono ?_;rintro e w1 ⟨rfl,rfl⟩;simp only[AB,cond_false];go_wp2;go_ret;exact⟨rfl,rfl⟩
 |some [],C1,a=>
  clear h;(go_enter func133,ntmps133);(go_wp2_with fail);refine C1.o.mono ?_;rintro e w1 ⟨rfl,rfl⟩;simp only[Sj,iP,Sk];(go_wp2_with fail);refine a.o.mono ?_;rintro e w1 ⟨rfl,rfl⟩;simp only[AB,cond_true];go_wp2;go_ret;exact⟨rfl,rfl⟩
 |some (x::s),C1,a=>
  have hl:(((x::s).length:Nat):Int)≠0:=(by simp;omega);obtain⟨L,c⟩:=ay (((x::s).length:Nat):Int);have b:aj (Calls prog 132 #[dP g] w fun e w'=>e= .returned (qI L)∧w=w'):=(by rw[c];exact C1);have d:(L==0)=false:=(by rw[c];simpa using hl);clear h hl c C1;(go_enter func133,ntmps133);(go_wp2_with fail);refine b.o.mono ?_;rintro e w1 ⟨rfl,rfl⟩;go_wp2;go_ret;exact⟨rfl,rfl⟩
