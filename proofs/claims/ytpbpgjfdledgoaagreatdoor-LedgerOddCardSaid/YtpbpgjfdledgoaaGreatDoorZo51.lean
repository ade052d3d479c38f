/- Lemmas. -/
import Derived.Test.YtpbpgjfdledgoaaGreatDoorZo45
import Derived.Test.YtpbpgjfdledgoaaGreatDoorZo16
set_option linter.all false
set_option maxRecDepth 100000
set_option maxHeartbeats 8000000
open Bool renaming and_eq_true_iff→P6
namespace Go.Proofs.YtpbpgjfdledgoaaGreatDoor
open Go.Proofs.Tryz
open Go.ChangeShapes Go.WideShapes Go.ChangeAt Go.RowKit Go.Joins Go.Deep
section
variable {H:Type}{enc:TypeId×Value→H}{w:World}{base:Nat}{spare:Nat→Bool}{held:Bool}{n:Nat}{cs:List Value}{x:DataW H×List MemPlace}
theorem k1:prog.cellsOf 3=1:=by kernel_rfl
theorem Vb:prog.cellsOf 23=3:=by kernel_rfl
theorem VG:prog.cellsOf 25=11:=by kernel_rfl
theorem VH:prog.cellsOf 27=16:=by kernel_rfl
theorem wf_i64 {a:Int}(h:(Lit.int .i64 a).wf=true):i64 a:=by
 have b:decide ((-9223372036854775808:Int)≤a)=true∧decide (a≤(9223372036854775807:Int))=true:=by
  have h0:(decide (IntKind.i64.min≤a)&&decide (a≤IntKind.i64.max))=true:=h;exact⟨(P6.1 h0).1,(P6.1 h0).2⟩
 exact⟨wY b.1,wY b.2⟩
theorem jC {y:DataW H×List MemPlace}{c:Value}(h:DataW.trod enc prog w base spare held n 3 [c]=some y):∃a,c=qI a∧i64 a:=by
 obtain⟨a,b,_,hw⟩:=DataW.trod_int underlying3 h;exact⟨a,by simpa using b,wf_i64 hw⟩
theorem EV (h:DataW.trod enc prog w base spare held n 23 cs=some x):∃a:cO,cs=bk a∧i64 a.s∧i64 a.i∧i64 a.g:=by
 obtain⟨f,j,k,m,_,hl,h0,b,d⟩:=trod_struct3 underlying23 h;rw[Vb]at hl
 match cs,hl with
 | [c0,c1,c2],_=>
   simp only[k1]at h0 b d;obtain⟨a0,rfl,w0⟩:=jC (c:=c0) h0;obtain⟨e,rfl,w1⟩:=jC (c:=c1) b;obtain⟨a2,rfl,w2⟩:=jC (c:=c2) d;exact⟨⟨a0,e,a2⟩,rfl,w0,w1,w2⟩
theorem TL (h:DataW.trod enc prog w base spare held n 25 cs=some x):∃b:Bd,cs=fe b∧b.ok:=by
 obtain⟨xs,m,_,_,hl,e,hf⟩:=DataW.trod_struct underlying25 h;rw[VG]at hl
 match cs,hl with
 | [c0,c1,c2,c3,c4,c5,A,B,C,c9,d],_=>
   match xs,e with
   | [x0,I,J,K,L,M,N,O,P],_=>
     have h0:=hf 0 _ rfl;have f:=hf 1 _ rfl;have j:=hf 2 _ rfl;have k:=hf 3 _ rfl;have l:=hf 4 _ rfl;have o:=hf 5 _ rfl;have p:=hf 6 _ rfl;have q:=hf 7 _ rfl;have r:=hf 8 _ rfl;simp[k1,Vb]at h0 f j k l o p q r;obtain⟨a,t,z0,D,z2⟩:=EV (cs:= [c0,c1,c2]) h0;simp only[bk,List.cons.injEq,and_true]at t;obtain⟨rfl,rfl,rfl⟩:=t;obtain⟨u,rfl,z3⟩:=jC (c:=c3) f;obtain⟨a2,rfl,z4⟩:=jC (c:=c4) j;obtain⟨a3,rfl,z5⟩:=jC (c:=c5) k;obtain⟨a4,rfl,E⟩:=jC (c:=A) l;obtain⟨a5,rfl,F⟩:=jC (c:=B) o;obtain⟨v,rfl,G⟩:=jC (c:=C) p;obtain⟨y,rfl,z9⟩:=jC (c:=c9) q;obtain⟨z,rfl,H⟩:=jC (c:=d) r;exact⟨⟨a.s,a.i,a.g,u,a2,a3,a4,a5,v,y,z⟩,rfl,z0,D,z2,z3,z4,z5,E,F,G,z9,H⟩
theorem TM (h:DataW.trod enc prog w base spare held n 27 cs=some x):∃o:Cm,cs=ct o∧o.ok:=by
 obtain⟨xs,m,_,_,hl,f,hf⟩:=DataW.trod_struct underlying27 h;rw[VH]at hl
 match cs,hl with
 | [c0,c1,c2,c3,d0,d1,d2,d3,d4,d5,d6,d7,d8,d9,Vz,d],_=>
   match xs,f with
   | [x0,y,z,A],_=>
     have h0:=hf 0 _ rfl;have j:=hf 1 _ rfl;have k:=hf 2 _ rfl;have l:=hf 3 _ rfl;simp[k1,Vb,VG]at h0 j k l;obtain⟨a0,rfl,z0⟩:=jC (c:=c0) h0;obtain⟨a,p,r,t,u⟩:=EV (cs:= [c1,c2,c3]) j;simp only[bk,List.cons.injEq,and_true]at p;obtain⟨rfl,rfl,rfl⟩:=p;obtain⟨b,hb,e⟩:=TL (cs:= [d0,d1,d2,d3,d4,d5,d6,d7,d8,d9,Vz]) k;simp only[fe,List.cons.injEq,and_true]at hb;obtain⟨rfl,rfl,rfl,rfl,rfl,rfl,rfl,rfl,rfl,rfl,rfl⟩:=hb;obtain⟨q,rfl,v⟩:=jC (c:=d) l;exact⟨⟨a0,a.s,a.i,a.g,b,q⟩,rfl,z0,r,t,u,e,v⟩
end
