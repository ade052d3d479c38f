/- Lemmas. -/
import Derived.Test.YtpbpgjfdledgoaaGreatDoorZo03
import Derived.Test.YtpbpgjfdledgoaaGreatDoorZo05
import Derived.Sort.KeysCollected
import Derived.Sort.OwnSorted
set_option linter.all false
set_option maxRecDepth 100000
set_option maxHeartbeats 8000000
open List renaming cons_lt_cons_iff→RQ
namespace Go.Proofs.YtpbpgjfdledgoaaGreatDoor
open Go.Proofs.Tryz
open Go.RowKit Go.Shelf Go.Sort Go.Maps
theorem Tryz.mN:(prog.info? 9).map (fun i=>(i.zero,i.size,i.bytes))=some (some (.string ⟨#[]⟩),1,16):=by kernel_rfl
def bA (fs:Fs):List Nm:=fs.map (·.1)
theorem CJ:∀(a b:List UInt8),bytesBefore a b=true→a<b
 | [],[],h=>by cases h
 | [],_::_,_=>List.nil_lt_cons _ _
 |_::_,[],h=>by cases h
 |a::r,b::s,h=>by
  unfold bytesBefore at h;simp only[Bool.or_eq_true,Bool.and_eq_true,decide_eq_true_eq,beq_iff_eq]at h;rcases h with h|⟨rfl,h⟩
  ·exact RQ.2 (.inl h)
  ·exact RQ.2 (.inr ⟨rfl,CJ r s h⟩)
theorem DT {fs:Fs}(h:dI fs):(bA fs).mergeSort leB=bA fs:=by
 refine List.mergeSort_of_pairwise ?_;unfold bA;rw[zI];refine List.Pairwise.imp (fun {p q} hb=>?_) h;simp only[leB,decide_eq_true_eq];exact List.le_of_lt (CJ _ _ hb)
theorem Fw (fs:Fs):strKeys (tf fs)=bA fs:=by
 unfold tf bA;show(fs.map _).map _=_;rw[nY];rfl
section
variable {w:World}{p b:Nat}{fs:Fs}{room:Int}{dead:Bool}
abbrev gG (w:World)(base:Nat)(v:Value)(n:Nat)(l:List Nm):Prop:=w.ownsRow base 9 1 v n (l.map encStr)
theorem o4 (hd:bu w p b fs room dead):Calls prog 31 #[dP p] w fun e w'=>∃v,e= .returned v∧gG w' w.heap.size v fs.length (bA fs)∧ah No w w':=by
 obtain⟨i0,hi,R,T,U⟩:=fR Tryz.mN;have r:=hd.own;have f:=hd.lt;have c0:=hd.cell0;have L:=r.lt;have V:=hd.few;have B:=af hd.rising;have Q:Maps.size (tf fs)=fs.length:=zP fs;(go_enter func31,ntmps31);go_wp2_with (at_range;refine wpList_range_own _ rfl _ 119 rfl 9 133 Tryz.keyed underlying119 _ b _ _ rfl r ?_;intro w0 H M av)
 go_frame
 go_loopw [3] (fun v wr=>∃(left:Lit→Bool) (cnt:Nat) (ss:List Nm),wr.ranges prog 9 cL b w.heap.size fs.length (tf fs) left cnt∧ss.length+cnt≤fs.length∧
  wr.ownsRow w.heap.size 9 1 v ss.length (ss.map encStr)∧Collected (tf fs) left ss∧ah No w wr)
  (fun _ wr=>wr.rangeLeft b w.heap.size)
 case atStart=>exact⟨_,_,[],H,by rw[Q];simp,cJ _ _ _ _,Collected.start _,(aA (S:=No) w).grown M (fun k m _=>by cases m)⟩
 case round=>
  obtain⟨left,cnt,ss,q,hcs,l,hC,hK⟩:=hrel;go_wp2_with (at_next;refine wpList_next_ranges _ rfl _ rfl 9 Tryz.keyed cL encStr (fun x:ByteArray×Int=> .agg #[.string x.1,qI x.2]) (fun key aD m=>by obtain⟨x,aB,_⟩:=Maps.keyOf_str underlying9 m;exact⟨x,aB⟩) (fun v y hv=>by obtain⟨s,n,rfl,_⟩:=q8 hv;exact⟨(s,n),rfl⟩) b w.heap.size _ _ _ _ rfl q ?_ ?_)
  ·intro aq N;have a:=hC.perm q.owns Tryz.keyed underlying9 N;rw[Fw]at a;have A:ss.length=fs.length:=(by have:=a.length_eq;simpa [bA]using this);have d:ss.mergeSort leB=bA fs:=(mergeSort_of_perm a).trans (DT B.o);rcases l.2 with⟨rfl,h0⟩|⟨g,cap,cur,rfl,j,hb,Y,Z,ai,ak⟩
   ·have hc:=Lf 0 wr;have aC:fs.length=0:=(by omega);clear a d A;(go_wp2_with (go_at_call 98;refine hc.mono ?_;rintro e w' ⟨rfl,rfl⟩));go_ret;refine⟨_,rfl,?_,hK⟩;have:fs= []:=qA aC;subst this;exact cJ _ _ _ _
   ·have hc:=Le g cap ss wr (holds_of_block hb (by simpa using ak)) (bX.1 hb).1 (by omega);have J:=af A;have i:=af d;clear a d A;(go_wp2_with (go_at_call 98;refine hc.mono ?_;rintro e w' ⟨rfl,aE,os,rfl⟩));go_ret;refine⟨_,rfl,?_,hK.grown (grownBy_sorted _) (fun k m f=>by cases m;exact absurd f (bY.2 j))⟩;have h:=ownsRow_sorted (n:=aE) (os:=os) (ts:=ss.mergeSort leB) (by simp) j hb Y Z ai;rw[i.o]at h;rw[←J.o];have e:(ss.mergeSort fun x y=>decide (x≤y))=bA fs:=i.o;rw[e];exact h
  ·intro x cs aF aD aH aI w2 C F O hv K t G D I au;obtain⟨x',ex,rfl,_⟩:=Maps.keyOf_str underlying9 F;obtain rfl:x=x':=encStr_inj ex;have c:=l.kept D (Or.inr (row_ne_iter l q).symm);have W:aj (ah No w w2):=hK.grown D (fun k m f=>by cases m;exact absurd f (Nat.lt_irrefl _));have X:aj (w2.heap.size=wr.heap.size):=I;have ay:=hK.size;clear I;(go_wp2_with (at_builtin;refine xU _ rfl _ _ 67 rfl w.heap.size 9 i0 (.string ⟨#[]⟩) 1 16 underlying67 hi R T U rfl (by decide) _ _ _ rfl (c.alloc _) ⟨w2.heap.size,0,none⟩ 1 1 [encStr x] rfl rfl (oF _ _ _) (by simp[Value.oneCell',encStr]) (by unfold maxLen;omega) (by omega) (by have:=X.o;simp;omega) ?_;intro v' aG z E P;go_frame));have u:=(t.alloc _).kept E (row_ne_low c L) (row_ne_iter c t);go_roundw
   case rel=>
    refine⟨_,C,ss++ [x],u,by simp;omega,by simpa using z,hC.step O K,?_⟩;exact(W.o.alloc _).grown E (fun k m f=>absurd f (bY.2 (c.lt k m).1))
   case measure=>rw[u.left_eq,q.left_eq];exact G
end
