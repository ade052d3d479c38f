/- Lemmas. -/
import Derived.Test.YtpbpgjfdledgoaaGreatDoorZo39
set_option linter.all false
set_option maxRecDepth 100000
set_option maxHeartbeats 8000000
namespace Go.Proofs.YtpbpgjfdledgoaaGreatDoor
open Go.Proofs.Tryz
open Go.RowKit Go.WideShapes
theorem eN {P:Program}{f:FuncId}{args:Array Value}{w:World}{Q:Ending→World→Prop}(h:∀W,W=w→Calls P f args W Q):Calls P f args w Q:=h w rfl
section
variable {w:World}{q base:Nat}{v:Value}{is:Bool}{room:Int}{dead:Bool}
theorem Di {L:List Rf}(h:bZ w q base v L is room dead)(n:ByteArray)(ec:Int)(b:My L n=(0,ec))(he:(ec !=0)=true):
 Calls prog 173 #[dP q,.string n] w (qW w (.tuple #[.string ⟨#[]⟩,qI ec])):=by
 have a:=af (BA h n _ _ b);clear h b;(go_enter func173,ntmps173);(go_wp2_with fail);refine a.o.mono ?_;rintro e w1 ⟨rfl,rfl⟩;go_wp2;refine aY (v:= .tuple #[.string ⟨#[]⟩,qI ec]) ?_ rfl ⟨rfl,rfl⟩;simp[results,results173,go_sem, *]
theorem Px {L A B:List Rf}{r:Rf}(h:bZ w q base v L is room dead)(d:L=A++r::B)(i:iJ r)(n:ByteArray)(c:My L n=((A.length:Int),0)):
 Calls prog 173 #[dP q,.string n] w (qG w ((.tuple #[.string (r.sure++r.loose),qI 0]))):=by
 obtain⟨g,vc,rfl,b,c3,_,_⟩:=h.row d;have c0:w.cell? ⟨q,0,none⟩=some (.slice (some ⟨g,0,none⟩) L.length vc):=(by simp[World.cell?,h.cells]);have d1:w.cell? ⟨g,A.length*3+1,none⟩=some (.string r.sure):=ak c3 1 _ rfl;have d2:w.cell? ⟨g,A.length*3+2,none⟩=some (.string r.loose):=ak c3 2 _ rfl;have j:(0:Int)≤(A.length:Int):=(by omega);have k:(A.length:Int)<(L.length:Int):=(by omega);have f:∀W:World,(Op.stringOp .add r.sure r.loose).run prog W= .ok (.string (r.sure++r.loose)) W:=fun W=>kD W _ _ (by unfold iJ at i;omega);have a:=af (BA h n _ _ c);clear h c i d b c3;(go_enter func173,ntmps173);(go_wp2_with fail);refine a.o.mono ?_;rintro e w1 ⟨rfl,rfl⟩;go_wp2
 go_quiet (fail)
 rename_i nq
 go_wp2;refine aY (v:= .tuple #[.string (r.sure++r.loose),qI 0]) ?_ rfl ⟨rfl,(aA _).drewN nq⟩;simp[results,results173,go_sem, *]
theorem Dj {L:List Rf}(h:bZ w q base v L is room dead)(n:ByteArray)(ec:Int)(b:My L n=(0,ec))(he:(ec !=0)=true):
 Calls prog 238 #[dP q,.string n] w (qW w (.tuple #[qI 0,qI 0,qI ec])):=by
 have a:=af (BA h n _ _ b);clear h b;(go_enter func238,ntmps238);(go_wp2_with fail);refine a.o.mono ?_;rintro e w1 ⟨rfl,rfl⟩;go_wp2;refine aY (v:= .tuple #[qI 0,qI 0,qI ec]) ?_ rfl ⟨rfl,rfl⟩;simp[results,results238,go_sem, *]
theorem Py {L A B:List Rf}{r:Rf}(h:bZ w q base v L is room dead)(f:L=A++r::B)(j:iJ r)(n:ByteArray)(d:My L n=((A.length:Int),0)):
 Calls prog 238 #[dP q,.string n] w (qG w ((.tuple #[qI ((r.sure++r.loose).size:Nat),qI r.sure.size,qI 0]))):=by
 obtain⟨g,vc,rfl,b,c3,_,_⟩:=h.row f;have c0:w.cell? ⟨q,0,none⟩=some (.slice (some ⟨g,0,none⟩) L.length vc):=(by simp[World.cell?,h.cells]);have d1:w.cell? ⟨g,A.length*3+1,none⟩=some (.string r.sure):=ak c3 1 _ rfl;have d2:w.cell? ⟨g,A.length*3+2,none⟩=some (.string r.loose):=ak c3 2 _ rfl;have k:(0:Int)≤(A.length:Int):=(by omega);have l:(A.length:Int)<(L.length:Int):=(by omega);have c:IntKind.i64.wrap ((r.sure.size:Int)+(r.loose.size:Int))=(((r.sure++r.loose).size:Nat):Int):=(by unfold iJ at j;rw[cI,qB];omega);obtain⟨N,i⟩:=ay ((r.sure++r.loose).size);rw[←i]at c⊢;have a:=af (BA h n _ _ d);clear h d j f b c3 i;(go_enter func238,ntmps238);(go_wp2_with fail);refine a.o.mono ?_;rintro e w1 ⟨rfl,rfl⟩;go_wp2
 go_quiet (fail)
 rename_i nq
 go_wp2;refine aY (v:= .tuple #[qI N,qI r.sure.size,qI 0]) ?_ rfl ⟨rfl,(aA _).drewN nq⟩;simp[results,results238,go_sem, *]
end
