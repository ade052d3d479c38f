/- Lemmas. -/
import Derived.Test.YtpbpgjfdledgoaaGreatDoorZo19
set_option linter.all false
set_option maxRecDepth 100000
set_option maxHeartbeats 8000000
namespace Go.Proofs.YtpbpgjfdledgoaaGreatDoor
open Go.Proofs.Tryz
open Go.RowKit
structure Rf where
 name:ByteArray
 sure:ByteArray
 loose:ByteArray
def wJ (r:Rf):List Value:= [.string r.name,.string r.sure,.string r.loose]
def kS:dX Rf:=⟨wJ,3,fun _=>rfl,fun a u h=>by simp[wJ]at h;rcases h with rfl|rfl|rfl<;>rfl,by decide⟩
structure bZ (w:World)(q base:Nat)(v:Value)(L:List Rf)(is:Bool)(room:Int)(dead:Bool):Prop where
 cells:w.heap[q]?=some (.cells #[v,.bool is,qI room,.bool dead] 73 (0,0))
 own:aI kS 169 w base v L
 ne:∀i,v.ownBlock=some i→i≠q
 few:L.length≤64
 low:base≤w.heap.size
theorem bZ.kept {S:Nat→Prop}{w w':World}{q base:Nat}{v:Value}{L:List Rf}{is:Bool}{room:Int}{dead:Bool}(h:bZ w q base v L is room dead)(k:ah S w w')(a:¬S q)(hv:∀i,v.ownBlock=some i→¬S i):bZ w' q base v L is room dead:=
 ⟨k.heap h.cells a,k.owns h.own hv,h.ne,h.few,aU h.low k.size⟩
def wq (n:ByteArray)(r:Rf):Bool:=r.name.toList==n.toList
def My (L:List Rf)(n:ByteArray):Int×Int:=
 bif decide ((n.size:Int)<1)then(0,1)else bif decide ((32:Int)<(n.size:Int))then(0,1)else
  bif gA (wq n) L== -1 then(0,6)else(gA (wq n) L,0)
section
variable {w:World}{q base:Nat}{v:Value}{L:List Rf}{is:Bool}{room:Int}{dead:Bool}
theorem BA (h:bZ w q base v L is room dead)(n:ByteArray)(i ec:Int)(e:My L n=(i,ec)):Calls prog 188 #[dP q,.string n] w (qW w (.tuple #[qI i,qI ec])):=by
 obtain⟨va,vc,rfl⟩:=aq h.own;have c0:w.cell? ⟨q,0,none⟩=some (.slice va L.length vc):=(by simp[World.cell?,h.cells]);have I:aW kS w (.slice va L.length vc) L:=h.own.reads;have hf:=h.few;clear h;unfold My at e;cases A:decide ((n.size:Int)<1)
 ·cases r:decide ((32:Int)<(n.size:Int))
  ·rw[A,r,aN,aN]at e;have y:=af e;clear e;(go_enter func188,ntmps188);go_wp2
   go_loopw [6] (fun x wr=>∃k:Nat,k≤L.length∧x=qI k∧(∀j,(h:j<k)→(r:j<L.length)→wq n L[j]=false)∧wr=w) (fun x _=>L.length-(intOf x).toNat)
   case atStart=>exact⟨0,aX _,rfl,fun j h=>absurd h (w5 _),rfl⟩
   case round=>
    obtain⟨k,E,rfl,t,rfl⟩:=hrel;have l:=af t;clear t;by_cases f:k<L.length
    ·have G:(k:Int)<(L.length:Int):=(by omega);have K:(0:Int)≤(k:Int):=(by omega);have H:(k:Int)≤64:=(by omega);obtain⟨g,off,rfl,_,_,_⟩:=aW.addr kS I (by omega);have c3:ai wr g (off+k*3) 3=some (wJ L[k]):=aW.at kS I k f;have d0:wr.cell? ⟨g,off+k*3,none⟩=some (.string L[k].name):=ak c3 0 _ rfl;cases hp:wq n L[k]
     ·have p:(L[k].name.toList==n.toList)=false:=hp;obtain⟨M,c⟩:=ay (L[k].name);rw[←c]at d0 p;have z:aj (∀j,(h:j<k+1)→(r:j<L.length)→wq n L[j]=false):=af (fun j h r=>by
       by_cases J:j<k
       ·exact l.o j J r
       ·obtain rfl:j=k:=(by omega);exact hp)
      clear c E hp c3;go_wp2;go_roundw
      case rel=>exact⟨k+1,by omega,by go_num,z.o,trivial⟩
      case measure=>simp[intOf];omega
     ·have p:(L[k].name.toList==n.toList)=true:=hp;obtain⟨M,c⟩:=ay (L[k].name);rw[←c]at d0 p;have a:gA (wq n) L=k:=by
       rcases jS (wq n) L with⟨_,s⟩|⟨u,F,b,d,C⟩
       ·rw[s _ (dw f)]at hp;cases hp
       ·rw[F];by_cases hc:u<k
        ·rw[l.o u hc b]at d;cases d
        ·by_cases D:k<u
         ·rw[C k D f]at hp;cases hp
         ·congr 1;omega
      have hval:i=(k:Int)∧ec=0:=by
       have m:=y.o;rw[a,show((k:Int)== -1)=false from beq_false_of_ne (by omega),aN]at m
       simp only[Prod.mk.injEq]at m;exact⟨m.1.symm,m.2.symm⟩
      obtain⟨rfl,rfl⟩:=hval;clear c hp a y E c3;go_wp2;refine aY (v:= .tuple #[qI k,qI 0]) ?_ rfl ⟨rfl,rfl⟩;simp[results,results188,go_sem, *]
    ·have G:¬(k:Int)<(L.length:Int):=(by omega);have a:gA (wq n) L= -1:=by
      rcases jS (wq n) L with⟨h0,_⟩|⟨u,_,b,d,_⟩
      ·exact h0
      ·rw[l.o u (by omega) b]at d;cases d
     have hval:i=0∧ec=6:=by
      have m:=y.o;rw[a]at m;have B:((0:Int),(6:Int))=(i,ec):=m;simp only[Prod.mk.injEq]at B;exact⟨B.1.symm,B.2.symm⟩
     obtain⟨rfl,rfl⟩:=hval;clear a y E f;go_wp2;refine aY (v:= .tuple #[qI 0,qI 6]) ?_ rfl ⟨rfl,rfl⟩;simp[results,results188,go_sem, *]
  ·rw[A,r,aN,bH]at e;simp only[Prod.mk.injEq]at e;obtain⟨rfl,rfl⟩:=e;(go_enter func188,ntmps188);go_wp2;refine aY (v:= .tuple #[qI 0,qI 1]) ?_ rfl ⟨rfl,rfl⟩;simp[results,results188,go_sem, *]
 ·rw[A,bH]at e;simp only[Prod.mk.injEq]at e;obtain⟨rfl,rfl⟩:=e;(go_enter func188,ntmps188);go_wp2;refine aY (v:= .tuple #[qI 0,qI 1]) ?_ rfl ⟨rfl,rfl⟩;simp[results,results188,go_sem, *]
end
def kW (L:List Rf)(dead:Bool)(n:ByteArray):Int×Int:=bif (My L n).2 !=1&&dead then(0,12)else My L n
section
variable {w:World}{q base:Nat}{v:Value}{L:List Rf}{is:Bool}{room:Int}{dead:Bool}
theorem bZ.c1 (h:bZ w q base v L is room dead):w.cell? ⟨q,1,none⟩=some (.bool is):=by simp[World.cell?,h.cells]
theorem bZ.c2 (h:bZ w q base v L is room dead):w.cell? ⟨q,2,none⟩=some (qI room):=by simp[World.cell?,h.cells]
theorem bZ.c3 (h:bZ w q base v L is room dead):w.cell? ⟨q,3,none⟩=some (.bool dead):=by simp[World.cell?,h.cells]
theorem bZ.opened (h:bZ w q base v L is room dead):Open w q:=⟨_,_,h.cells⟩
theorem bZ.su (h:bZ w q base v L is room dead)(r:Int):bZ (w.setCell ⟨q,2,none⟩ (qI r)) q base v L is r dead:=
 ⟨aB h.cells _,((aA (S:=Own q) w).setCell (p:=⟨q,2,none⟩) (fun _=>(rfl:q=q)) _).owns h.own (fun i hi e=>h.ne i hi e),h.ne,h.few,by simpa using h.low⟩
theorem bZ.zh (h:bZ w q base v L is room dead)(d:Bool):bZ (w.setCell ⟨q,3,none⟩ (.bool d)) q base v L is room d:=
 ⟨aB h.cells _,((aA (S:=Own q) w).setCell (p:=⟨q,3,none⟩) (fun _=>(rfl:q=q)) _).owns h.own (fun i hi e=>h.ne i hi e),h.ne,h.few,by simpa using h.low⟩
theorem gM (h:bZ w q base v L is room dead)(n:ByteArray)(i ec:Int)(a:kW L dead n=(i,ec)):Calls prog 100 #[dP q,.string n] w (qW w (.tuple #[qI i,qI ec])):=by
 obtain⟨⟨i1,e1⟩,c⟩:∃x,My L n=x:=⟨_,rfl⟩;unfold kW at a;rw[c]at a;have b:=af (BA h n i1 e1 c);have c3:=h.c3;clear h c;cases d:(e1 !=1)
 ·rw[d,iL,aN]at a;simp only[Prod.mk.injEq]at a;obtain⟨rfl,rfl⟩:=a;(go_enter func100,ntmps100);(go_wp2_with fail);refine b.o.mono ?_;rintro e w1 ⟨rfl,rfl⟩;go_wp2;refine aY (v:= .tuple #[qI i1,qI e1]) ?_ rfl ⟨rfl,rfl⟩;simp[results,results100,go_sem, *]
 ·rw[d,mF]at a;cases dead
  ·rw[aN]at a;simp only[Prod.mk.injEq]at a;obtain⟨rfl,rfl⟩:=a;(go_enter func100,ntmps100);(go_wp2_with fail);refine b.o.mono ?_;rintro e w1 ⟨rfl,rfl⟩;go_wp2;refine aY (v:= .tuple #[qI i1,qI e1]) ?_ rfl ⟨rfl,rfl⟩;simp[results,results100,go_sem, *]
  ·rw[bH]at a;simp only[Prod.mk.injEq]at a;obtain⟨rfl,rfl⟩:=a;(go_enter func100,ntmps100);(go_wp2_with fail);refine b.o.mono ?_;rintro e w1 ⟨rfl,rfl⟩;go_wp2;refine aY (v:= .tuple #[qI 0,qI 12]) ?_ rfl ⟨rfl,rfl⟩;simp[results,results100,go_sem, *]
theorem Dg (h:bZ w q base v L is room dead):Calls prog 103 #[dP q] w (qW w ((qI (bif dead then 12 else 0)))):=by
 have c3:=h.c3;cases dead
 all_goals
  (go_enter func103,ntmps103);go_wp2;go_ret;exact⟨rfl,rfl⟩
theorem Mz (h:bZ w q base v L false room dead)(s:ByteArray):Calls prog 101 #[dP q,.string s] w (qW w (.string s)):=by
 have c1:=h.c1;(go_enter func101,ntmps101);go_wp2;go_ret;exact⟨rfl,rfl⟩
theorem Pt (h:bZ w q base v L true room dead)(s:ByteArray)(hs:(s.size:Int)≤room)(b:room≤9223372036854775807):Calls prog 101 #[dP q,.string s] w fun e w'=>e= .returned (.string s)∧bZ w' q base v L true (room-s.size) dead∧ah (Own q) w w':=by
 have c1:=h.c1;have c2:=h.c2;have f2:=h.opened.frozen 2;have a:decide (room<(s.size:Int))=false:=aJ (by omega);have hw:IntKind.i64.wrap (room-(s.size:Int))=room-(s.size:Int):=(by rw[cI];omega);have c:wrap64 (room-(s.size:Int))=room-(s.size:Int):=jP _ ⟨by omega,by omega⟩;have H:=af h;clear h hs b;(go_enter func101,ntmps101);go_wp2;go_ret;exact⟨rfl,H.o.su _,(aA (S:=Own q) w).setCell (p:=⟨q,2,none⟩) (fun _=>(rfl:q=q)) _⟩
theorem MB {M:Nat}(h:bZ w q base v L true M dead)(s:ByteArray)(hs:(M:Int)<(s.size:Int)):Calls prog 101 #[dP q,.string s] w fun e w'=>e= .returned (.string (s.extract 0 M))∧bZ w' q base v L true 0 true∧ah (Own q) w w':=by
 have c1:=h.c1;have c2:=h.c2;have f2:=h.opened.frozen 2;have c3:=h.c3;have f3:=h.opened.frozen 3;have c:M<s.size:=(by omega);have a:(0:Int)≤(M:Int):=(by omega);have b:(M:Int)≤(s.size:Int):=(by omega);have d:(s.extract 0 M).size=M:=(by simp;omega);have hw:IntKind.i64.wrap ((M:Int)-(M:Int))=0:=(by rw[Int.sub_self];rfl);have H:=af h;clear h hs;(go_enter func101,ntmps101);go_wp2;go_ret;exact⟨rfl,(H.o.zh true).su 0,((aA (S:=Own q) w).setCell (p:=⟨q,3,none⟩) (fun _=>(rfl:q=q)) _).setCell (p:=⟨q,2,none⟩) (fun _=>(rfl:q=q)) _⟩
end
