/- Lemmas. -/
import Derived.Test.YtpbpgjfdledgoaaGreatDoorZo04
import Derived.Test.YtpbpgjfdledgoaaGreatDoorZo07
set_option linter.all false
set_option maxRecDepth 100000
set_option maxHeartbeats 8000000
namespace Go.Proofs.YtpbpgjfdledgoaaGreatDoor
open Go.Proofs.Tryz
open Go.RowKit
theorem Ak (ts:List Nm):ts.length*7≤bK ts:=by
 induction ts with
 |nil=>simp
 |cons t ts ih=>simp only[bK,List.map_cons,List.sum_cons,List.length_cons]at*;omega
theorem sw (ts:List Nm)(t:Nm):bK (ts++ [t])=bK ts+7+t.length:=by simp[bK];omega
theorem Nt (s:Nm)(k:Nat)(g:k≤(parse s).length):eB (s.drop (bK ((parse s).take k)))=(parse s)[k]?:=by
 obtain⟨r,c,f,d⟩:=x5 s;obtain⟨ts,b⟩:=ay (parse s);rw[←b]at c d g⊢;have hd:s.drop (bK (ts.take k))=frames (ts.drop k)++r:=by
  have e:frames ts=frames (ts.take k)++frames (ts.drop k):=(by rw[←tg,jN]);rw[c,e,eY,qV (oH _)]
 rw[hd];by_cases a:k<ts.length
 ·rw[mX a,n_,eY,uS _ _ (d _ (dw a)),fw a]
 ·rw[DC (by omega),zD (by omega)];exact f
theorem vg (ts:List Nm)(k:Nat):bK (ts.take k)≤bK ts:=by
 have e:bK ts=bK (ts.take k)+bK (ts.drop k):=(by rw[←og,jN]);omega
theorem Qw (w:World)(base:Nat)(U:Laid w base)(hb:base≤w.heap.size)(s:ByteArray)(hs:s.size≤4194304):
 Calls prog 84 #[.string s] w fun e w'=>∃v,e= .returned (.tuple #[v,qI (bK (parse s.data.toList))])∧gG w' w.heap.size v (parse s.data.toList).length (parse s.data.toList)∧ah No w w':=by
 obtain⟨i0,hi,R,S,T⟩:=fR Tryz.mN;have x:=zY s.data.toList;have z:=Nt s.data.toList;have D:s.data.toList.length=s.size:=(by simp);rw[D]at x;obtain⟨ts,H⟩:=ay (parse s.data.toList);rw[←H]at x z⊢;have P:=Ak ts;have N:=af z;have Y:=af U;have av:=af hb;clear H z U hb D;(go_enter func84,ntmps84);go_wp2
 go_loopw [4,5] (fun l q wr=>∃k:Nat,k≤ts.length∧q=qI (bK (ts.take k))∧gG wr w.heap.size l (ts.take k).length (ts.take k)∧ah No w wr) (fun _ q _=>s.size+1-(intOf q).toNat)
 case atStart=>exact⟨0,aX _,rfl,cJ _ _ _ _,aA _⟩
 case round=>
  obtain⟨k,au,rfl,b,hK⟩:=hrel;have a:=N.o k au;have hle:=vg ts k;obtain⟨At,c⟩:=ay (bK (ts.take k));rw[←c]at a hle⊢;have Lr:=af (Y.o.kept hK (fun _ h=>h.elim));by_cases n:k<ts.length
  ·rw[fw n]at a;have p:ts.take (k+1)=ts.take k++ [ts[k]]:=iK n;have y:bK (ts.take (k+1))=At+7+ts[k].length:=(by rw[p,sw,c]);have Q:=vg ts (k+1);have g:=af b;have I:=af hK;have G:(ts.take k).length=k:=(by rw[fB];omega);obtain⟨t,X⟩:=ay (ts[k]);rw[←X]at a p y;have B:=af (And.intro p y);have K:=af a;have f:aj (At≤s.size∧k*7≤s.size∧(ts.take k).length=k∧At+7+t.length≤s.size):=af ⟨by omega,by omega,G,by omega⟩;obtain⟨va,vc,rfl⟩:=aq b;have ak:(At:Int)+7+t.length≤4194304:=(by have:=f.o;omega);clear b hK p y X a G c Q hle x P;(go_wp2_with fail);refine(Nq wr base Lr.o s (by omega) At f.o.1 t K.o).mono ?_;rintro e w1 ⟨rfl,d⟩;have C:=af d;have r:=af (d.mM g.o);clear d;obtain⟨ai,u⟩:=ay (At+7+t.length);rw[←u];have A:=af u;clear u;obtain⟨m,hm⟩:=ay ((ts.take k).length);have L:=af hm;rw[←hm]at r⊢;clear hm;(go_wp2_with (at_builtin;refine xU _ rfl _ _ 67 rfl w.heap.size 9 i0 (.string ⟨#[]⟩) 1 16 underlying67 hi R S T rfl (by decide) _ _ _ rfl (r.o.alloc _) ⟨w1.heap.size,0,none⟩ 1 1 [encStr t] rfl rfl (oF _ _ _) (by simp[Value.oneCell',encStr]) (by have:=f.o;have:=L.o;unfold maxLen;omega) (by have:=f.o;have:=L.o;omega) (by have:=I.o.size;have:=C.o.size;simp;omega) ?_;intro v' w2 j F _));have M:=af j;have Z:aj (ah No w w2):=((I.o.aK C.o).alloc _).grown F (fun i hi n=>absurd n (bY.2 (r.o.lt i hi).1));clear j F;go_wp2;go_roundw
   case rel=>
    refine⟨k+1,by omega,by rw[B.o.2,A.o],?_,Z.o⟩;have h:=M.o;unfold gG;rw[B.o.1,cr,fI, ←L.o];exact h
   case measure=>
    show s.size+1-((ai:Nat):Int).toNat<s.size+1-((At:Nat):Int).toNat;have:=A.o;have:=f.o;omega
  ·have O:k=ts.length:=(by omega);subst O;rw[zD (bM _)]at a;rw[jH]at b c;have g:=af b;have I:=af hK;have K:=af a;have J:=af c;obtain⟨va,vc,rfl⟩:=aq b;clear b hK a c;(go_wp2_with fail);refine(Nr wr base Lr.o s (by omega) At (by omega) K.o).mono ?_;rintro e w1 ⟨ec,E,rfl,d⟩;have V:(ec !=0)=true:=(by simpa using E);have W:(ec==0)=false:=(by simpa using E);have C:=af d;clear d;go_wp2
   go_ret2
   exact⟨_,by rw[J.o];rfl,C.o.mM g.o,I.o.aK C.o⟩
