/- Lemmas. -/
import Derived.Deep.RegionHeld3
import Derived.Test.YtpbpgjfdledgoaaGreatDoorZo01
set_option linter.all false
set_option maxRecDepth 100000
set_option maxHeartbeats 8000000
open Array renaming getD_eq_getD_getElem?→K4
open List renaming mem_range→M7
open Bool renaming and_eq_true→eA
namespace Go.Proofs.YtpbpgjfdledgoaaGreatDoor
section
open Go.RowKit
section
variable {P:Program}{ops:Array Oper}{Q:Exit→Act→World→Prop}{md:Region.Mode}{A S:World→Prop}{late:Nat→Bool}
def iB (late:Nat→Bool)(listed:Array Bool):Prop:=∀j,late j=true→listed.getD j false=false
theorem iB.set {listed:Array Bool}{i:Nat}(h:late i=false):iB late (listed.setIfInBounds i true)↔iB late listed:=by
 unfold iB;refine forall_congr' fun j=>forall_congr' fun b=>?_;have a:i≠j:=fun e=>(by rw[e,b]at h;cases h);simp only[K4,Array.getElem?_setIfInBounds_ne a]
def wpAnyL (P:Program)(md:Region.Mode)(ops:Array Oper)(Q:Exit→Act→World→Prop)(A S:World→Prop)(late:Nat→Bool):Nat→Array Bool→Act→World→Prop
 |0,listed,a,w=>Region.ready md ops listed= []∧Q .normal a w
 |fuel+1,listed,a,w=>
  (Region.ready md ops listed= []→Q .normal a w)∧
  ∀i∈Region.ready md ops listed,wpOp P ops Q i (fun a' w'=>(A w'∧(iB late (listed.setIfInBounds i true)→S w'))∧wpAnyL P md ops Q A S late fuel (listed.setIfInBounds i true) a' w') a w
theorem sW:∀(fuel:Nat) (listed:Array Bool) (a:Act) (w:World),wpAnyL P md ops Q A S late fuel listed a w→wpAny P md ops Q fuel listed a w
 |0,_,_,_,h=>h
 |fuel+1,_,_,_,h=>⟨h.1,fun i hi=>wpOp_mono (fun a' w' b=>sW fuel _ a' w' b.2) (h.2 i hi)⟩
def q7 (md:Region.Mode)(ops:Array Oper)(late:Nat→Bool)(i:Nat):Bool:=
 (List.range ops.size).all fun j=>!late j||match ops[j]? with
   |some oj=>oj.after.toList.any fun e=>Region.binds md e&&e.on==i
   |none=>true
theorem BS {i j:Nat}{oj:Oper}(h:q7 md ops late i=true)(b:ops[j]?=some oj)(hl:late j=true):∃e∈oj.after,Region.binds md e=true∧e.on=i:=by
 unfold q7 at h;rw[qD]at h;have:=h j (M7.2 (bX.1 b).1);rw[hl,b]at this;simp only[Bool.not_true,Bool.false_or]at this;rw[List.any_eq_true]at this;obtain⟨e,he,a⟩:=this;simp only[eA,beq_iff_eq]at a;exact⟨e,by simpa using he,a.1,a.2⟩
theorem wpAnyL_first {T:World→Prop}{i:Nat}{oi:Oper}{v:Value}(hi:ops[i]?=some oi)(s:∀(j:Nat) (o:Oper) cs b,ops[j]?=some o→o.op≠ .select cs b)
 (N:∀c a w,Q (.panic c) (a.put oi.dst v) w→Q (.panic c) a w) (u:late i=false) (g:(∀w,A w→T w)∨((∀w,S w→T w)∧q7 md ops late i=true)):
 ∀(fuel:Nat)(listed:Array Bool)(a:Act)(w:World),
  (∀j oj,ops[j]?=some oj→j≠i→listed.getD j true=false→(∀e∈oj.after,Region.binds md e=true→e.on≠i)→oi.apart ops oj=true)→
  i∈Region.ready md ops listed→YieldsIf P ops T oi v a→((∀w,A w→T w)∨iB late listed)→A w→(iB late listed→S w)→
  wpAnyL P md ops Q A S late fuel (listed.setIfInBounds i true) (a.put oi.dst v) w→wpAnyL P md ops Q A S late (fuel+1) listed a w:=by
 intro fuel;induction fuel with
 |zero=>
  intro listed a w _ x hy f hA hS H;refine⟨fun h=>(by rw[h]at x;cases x),fun j F=>?_⟩;by_cases d:j=i
  ·subst d;refine hy.wpOp hi ?_ ⟨⟨hA,fun h=>hS ((iB.set u).1 h)⟩,H⟩;rcases g with g|⟨g,_⟩
   ·exact g w hA
   ·rcases f with f|f
    ·exact f w hA
    ·exact g w (hS f)
  ·have:=ready_mono F d;rw[H.1]at this;cases this
 |succ fuel ih=>
  intro listed a w m x hy f hA hS H;refine⟨fun h=>(by rw[h]at x;cases x),fun j F=>?_⟩;by_cases d:j=i
  ·subst d;refine hy.wpOp hi ?_ ⟨⟨hA,fun h=>hS ((iB.set u).1 h)⟩,H⟩;rcases g with g|⟨g,_⟩
   ·exact g w hA
   ·rcases f with f|f
    ·exact f w hA
    ·exact g w (hS f)
  ·have t:=H.2 j (ready_mono F d);obtain⟨q,oj,p,B⟩:=mem_ready.1 F;have r:∀e∈oj.after,Region.binds md e=true→e.on≠i:=fun e he hb heq=>by
    have t:=B e he hb;have h0:=(mem_ready.1 x).1;rw[heq]at t;rcases Nat.lt_or_ge i listed.size with G|G
    ·simp[G]at h0 t;rw[h0]at t;cases t
    ·simp[Array.getElem?_eq_none G]at t
   have M:=wpOp_putIf p (m j oj p d q r) (fun cs b=>s i oi cs b hi) (fun cs b=>s j oj cs b p) N hy t;have n:∀k ok,ops[k]?=some ok→k≠i→(listed.setIfInBounds j true).getD k true=false→
    (∀e∈ok.after,Region.binds md e=true→e.on≠i)→oi.apart ops ok=true:=fun k ok O J E K=>by
    refine m k ok O J ?_ K;by_cases C:j=k
    ·subst C;exact q
    ·rw[getD_set_ne true C]at E;exact E
   have I:(∀w,A w→T w)∨iB late (listed.setIfInBounds j true):=by
    rcases g with g|⟨_,hw⟩
    ·exact .inl g
    ·rcases f with f|f
     ·exact .inl f
     ·refine .inr ?_;cases D:late j with
      |false=>exact(iB.set D).2 f
      |true=>
       obtain⟨e,he,hb,L⟩:=BS hw p D;exact absurd L (r e he hb)
   have l:(listed.setIfInBounds i true).setIfInBounds j true=(listed.setIfInBounds j true).setIfInBounds i true:=(Array.setIfInBounds_comm _ _ (Ne.symm d));refine wpOp_mono (fun a' w' y=>?_) M;have z:iB late (listed.setIfInBounds j true)→S w':=fun h=>y.2.1.2 (by rw[l];exact(iB.set u).2 h);refine⟨⟨y.2.1.1,z⟩,ih (listed.setIfInBounds j true) a' w' n (ready_mono x (Ne.symm d)) y.1 I y.2.1.1 z ?_⟩;rw[←l];exact y.2.2
theorem T3 {i d:Nat}{oi:Oper}{v:Value}{fuel:Nat}{listed:Array Bool}{a:Act}{w:World}(hi:ops[i]?=some oi)(hd:oi.dst=some d)
 (hs:Region.noSelect ops=true) (hf:Region.free md ops listed i=true) (e:(Region.ready md ops listed).contains i=true) (hl:(!late i&&q7 md ops late i)=true) (hn:iB late listed)
 (b:∀c a w,Q (.panic c) (a.put oi.dst v) w→Q (.panic c) a w) (hy:YieldsIf P ops S oi v a) (hA:A w) (hS:S w)
 (h:wpAnyL P md ops Q A S late fuel (listed.setIfInBounds i true) ⟨a.tmps.setIfInBounds d v,a.defers⟩ w):wpAnyL P md ops Q A S late (fuel+1) listed a w:=by
 simp only[eA,Bool.not_eq_true']at hl;exact wpAnyL_first (T:=S) hi (Region.noSelect_spec hs) b hl.1 (.inr ⟨fun _ h=>h,hl.2⟩) fuel listed a w (Region.free_spec hi hf) (by simpa using e) hy (.inr hn) hA (fun _=>hS) (by rw[hd];exact h)
theorem M8 {i d:Nat}{oi:Oper}{v:Value}{fuel:Nat}{listed:Array Bool}{a:Act}{w:World}(hi:ops[i]?=some oi)(hd:oi.dst=some d)
 (hs:Region.noSelect ops=true) (hf:Region.free md ops listed i=true) (e:(Region.ready md ops listed).contains i=true) (hl:late i=false)
 (b:∀c a w,Q (.panic c) (a.put oi.dst v) w→Q (.panic c) a w) (hy:YieldsIf P ops A oi v a) (hA:A w) (hS:iB late listed→S w)
 (h:wpAnyL P md ops Q A S late fuel (listed.setIfInBounds i true) ⟨a.tmps.setIfInBounds d v,a.defers⟩ w):wpAnyL P md ops Q A S late (fuel+1) listed a w:=
 wpAnyL_first (T:=A) hi (Region.noSelect_spec hs) b hl (.inl fun _ h=>h) fuel listed a w (Region.free_spec hi hf) (by simpa using e) hy (.inl fun _ h=>h) hA hS (by rw[hd];exact h)
def kf (P:Program)(md:Region.Mode)(ops:Array Oper)(Q:Exit→Act→World→Prop)(A S:World→Prop)(late:Nat→Bool)(fuel:Nat)(listed:Array Bool)(a:Act)(w:World)(rs:List Nat):Prop:=
 ∀i∈rs,wpOp P ops Q i (fun a' w'=>(A w'∧(iB late (listed.setIfInBounds i true)→S w'))∧wpAnyL P md ops Q A S late fuel (listed.setIfInBounds i true) a' w') a w
theorem kf.nil {fuel:Nat}{listed:Array Bool}{a:Act}{w:World} :kf P md ops Q A S late fuel listed a w []:=fun _ h=>by cases h
theorem kf.cons {fuel:Nat}{listed:Array Bool}{a:Act}{w:World}{i:Nat}{o:Oper}{rs:List Nat}(d:ops[i]?=some o)
 (h:∀b:Act→World→Prop,Shut (∀a w,A w→(iB late (listed.setIfInBounds i true)→S w)→wpAnyL P md ops Q A S late fuel (listed.setIfInBounds i true) a w→b a w)→if Region.wanted o (yielded ops a.tmps)=true then Oper.wp P o a w b Q else b (a.put o.dst undef) w)
 (hs:kf P md ops Q A S late fuel listed a w rs):kf P md ops Q A S late fuel listed a w (i::rs):=fun j c=>by
 rcases q4.1 c with rfl|c
 ·exact wpOp_step d (fun b hK=>h b (fun a w hA hS hW=>hK a w ⟨⟨hA,hS⟩,hW⟩))
 ·exact hs j c
theorem SN {rs:List Nat}{fuel:Nat}{listed:Array Bool}{a:Act}{w:World}(c:Region.ready md ops listed=rs)(b:rs≠ [])
 (h:kf P md ops Q A S late fuel listed a w rs):wpAnyL P md ops Q A S late (fuel+1) listed a w:=⟨fun h0=>absurd (c▸h0) b,c▸h⟩
theorem sZ {listed:Array Bool}{a:Act}{w:World}(b:Region.ready md ops listed= [])(h:Q .normal a w):∀fuel,wpAnyL P md ops Q A S late fuel listed a w
 |0=>⟨b,h⟩
 |_+1=>⟨fun _=>h,by rw[b];simp⟩
theorem dN {id:Nat}{a:Act}{w:World}(A S:World→Prop)(late:Nat→Bool)(hm:P.follows .mixedOrders=true)
 (h:wpAnyL P .any ops Q A S late ops.size (Array.replicate ops.size false) a w.drew):(Code.region id ops true).wp P Q a w:=
 wp_region_any hm (sW _ _ _ _ h)
end
end
section
theorem K5 {late:Nat→Bool}{listed:Array Bool}(h:((List.range listed.size).all fun j=>!late j||!listed.getD j false)=true):iB late listed:=by
 intro j a;by_cases hl:j<listed.size
 ·rw[qD]at h;have:=h j (M7.2 hl);rw[a]at this
  simpa using this
 ·simp[K4,hl]
theorem tY {K:Act→World→Prop}{x:Option Nat}{d:Nat}{a:Act}{v:Value}{w:World}(hd:x=some d)(h:K ⟨a.tmps.setIfInBounds d v,a.defers⟩ w):K (a.put x v) w:=by
 rw[hd];exact h
section
variable {P:Program}{md:Region.Mode}{ops:Array Oper}{Q:Exit→Act→World→Prop}{A S:World→Prop}{late:Nat→Bool}
def bQ (_:List Nat)(p:Prop):Prop:=p
theorem bQ.of {p:Prop}(l:List Nat)(h:bQ l p):p:=h
theorem bQ.nil {p:Prop}(h:bQ [] p):p:=h
theorem bQ.w {i d:Nat}{l:List Nat}{oi:Oper}{v:Value}{fuel:Nat}{listed:Array Bool}{a:Act}{w:World}(hy:∀w,A w→(execOp a.eval oi).run P w= .ok (.value v) w)(hA:A w)(hS:S w)
 (h:bQ l (wpAnyL P md ops Q A S late fuel (listed.setIfInBounds i true) ⟨a.tmps.setIfInBounds d v,a.defers⟩ w)) (hi:ops[i]?=some oi:=by exact rfl) (hd:oi.dst=some d:=by exact rfl)
 (hs:Region.noSelect ops=true:=by kernel_rfl) (hf:Region.free md ops listed i=true:=by kernel_rfl) (e:(Region.ready md ops listed).contains i=true:=by kernel_rfl) (hl:late i=false:=by exact rfl)
 (b:∀c a w,Q (.panic c) (a.put oi.dst v) w→Q (.panic c) a w:=by exact fun _ _ _ h=>h) (hw:Region.wanted oi (yielded ops a.tmps)=true:=by rfl):bQ (i::l) (wpAnyL P md ops Q A S late (fuel+1) listed a w):=
 M8 hi hd hs hf e hl b (Or.inl ⟨hw,hy⟩) hA (fun _=>hS) h
theorem bQ.l {i d:Nat}{l:List Nat}{oi:Oper}{v:Value}{fuel:Nat}{listed:Array Bool}{a:Act}{w:World}(hy:∀w,S w→(execOp a.eval oi).run P w= .ok (.value v) w)(hA:A w)(hS:S w)
 (h:bQ l (wpAnyL P md ops Q A S late fuel (listed.setIfInBounds i true) ⟨a.tmps.setIfInBounds d v,a.defers⟩ w)) (hi:ops[i]?=some oi:=by exact rfl) (hd:oi.dst=some d:=by exact rfl)
 (hs:Region.noSelect ops=true:=by kernel_rfl) (hf:Region.free md ops listed i=true:=by kernel_rfl) (e:(Region.ready md ops listed).contains i=true:=by kernel_rfl) (hl:(!late i&&q7 md ops late i)=true:=by kernel_rfl)
 (hn:((List.range listed.size).all fun j=>!late j||!listed.getD j false)=true:=by kernel_rfl)
 (b:∀c a w,Q (.panic c) (a.put oi.dst v) w→Q (.panic c) a w:=by exact fun _ _ _ h=>h) (hw:Region.wanted oi (yielded ops a.tmps)=true:=by rfl):bQ (i::l) (wpAnyL P md ops Q A S late (fuel+1) listed a w):=
 T3 hi hd hs hf e hl (K5 hn) b (Or.inl ⟨hw,hy⟩) hA hS h
theorem eZ {fuel:Nat}{listed:Array Bool}{a:Act}{w:World}(i:Nat){o:Oper}
 (h:∀b:Act→World→Prop,Shut (∀a w,A w→(iB late (listed.setIfInBounds i true)→S w)→wpAnyL P md ops Q A S late fuel (listed.setIfInBounds i true) a w→b a w)→if Region.wanted o (yielded ops a.tmps)=true then Oper.wp P o a w b Q else b (a.put o.dst undef) w)
 (c:ops[i]?=some o:=by exact rfl) (d:Region.ready md ops listed= [i]:=by kernel_rfl):wpAnyL P md ops Q A S late (fuel+1) listed a w:=
 SN (rs:= [i]) d (by simp) (kf.cons c h kf.nil)
end
end
