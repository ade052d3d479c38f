/- Lemmas. -/
import Derived.Test.YtpbpgjfdledgoaaGreatDoorZo01
import Derived.Shelf.SlSortCmp.QuietGrown
set_option linter.all false
set_option maxRecDepth 100000
set_option maxHeartbeats 8000000
namespace Go.Uf
open Go
section
variable {P:Program}{ops qP:Array Oper}{C:World→Prop}{Q:Exit→Act→World→Prop}{n:Nat}{o o':Oper}
def Ug (ops:Array Oper):Bool:=(List.range ops.size).all fun k=>match ops[k]? with|none=>true|some x=>x.after.all fun e=>!Region.binds .any e||decide (e.on<k)
def FW (ops:Array Oper)(n:Nat):Bool:=match ops[n]? with|none=>false|some x=>(List.range n).all fun j=>x.after.any fun e=>Region.binds .any e&&e.on==j
theorem mem_ready {listed:Array Bool}{i:Nat} :i∈Region.ready .any ops listed↔i<ops.size∧listed.getD i true=false∧∃x,ops[i]?=some x∧∀e∈x.after,Region.binds .any e=true→listed.getD e.on false=true:=by
 unfold Region.ready;rw[List.mem_filter,List.mem_range];constructor
 ·rintro⟨b,a⟩;rw[Bool.and_eq_true]at a;obtain⟨a,c⟩:=a;refine⟨b,by simpa using a,ops[i],Array.getElem?_eq_getElem b,fun e he hb=>?_⟩;rw[Array.getElem?_eq_getElem b]at c;simp only[Option.map_some,Option.getD_some,Array.all_eq_true']at c;have:=c e he;rw[hb]at this
  simpa using this
 ·rintro⟨b,a,x,d,c⟩;refine⟨b,?_⟩;rw[Bool.and_eq_true];refine⟨by rw[a];rfl,?_⟩;rw[d];simp only[Option.map_some,Option.getD_some,Array.all_eq_true'];intro e he;cases hb:Region.binds .any e
  ·rfl
  ·rw[c e he hb];rfl
theorem LG (hu:Ug ops=true){listed:Array Bool}(hs:listed.size=ops.size)(h:Region.ready .any ops listed= []):∀k i,i<k→i<ops.size→listed.getD i false=true:=by
 intro k;induction k with
 |zero=>intro i hi;omega
 |succ k ih=>
  intro i c hi;by_cases hl:listed.getD i false=true
  ·exact hl
  ·exfalso;have:i∈Region.ready .any ops listed:=by
    refine mem_ready.2 ⟨hi,?_,ops[i],Array.getElem?_eq_getElem hi,fun e he hb=>?_⟩
    ·have:i<listed.size:=(by omega);simp[Array.getD,this]at hl⊢;exact hl
    ·unfold Ug at hu;rw[List.all_eq_true]at hu;have a:=hu i (List.mem_range.2 hi);rw[Array.getElem?_eq_getElem hi]at a;simp only[Array.all_eq_true']at a;have b:=a e he;rw[hb]at b;have d:e.on<i:=(by simpa using b);exact ih e.on (by omega) (by omega)
   rw[h]at this;cases this
theorem NU (hl:FW ops n=true){listed:Array Bool}(h:n∈Region.ready .any ops listed):∀j,j<n→listed.getD j false=true:=by
 intro j g;obtain⟨_,_,x,i,c⟩:=mem_ready.1 h;unfold FW at hl;rw[i]at hl;simp only[List.all_eq_true]at hl;have b:=hl j (List.mem_range.2 g);rw[Array.any_eq_true']at b;obtain⟨e,he,a⟩:=b;rw[Bool.and_eq_true]at a;have d:=c e he a.1;have f:e.on=j:=by simpa using a.2
 rwa [f]at d
theorem D5 (a:qP=ops.setIfInBounds n o')(c:ops[n]?=some o)(hd:o'.dst=o.dst)(t:Array Value):yielded qP t=yielded ops t:=by
 funext j
 unfold yielded;rw[a];by_cases b:n=j
 ·subst b;have:=(Array.getElem?_eq_some_iff.1 c).1;rw[Array.getElem?_setIfInBounds_self_of_lt this,c];simp[hd]
 ·rw[Array.getElem?_setIfInBounds_ne b]
theorem uo (a:qP=ops.setIfInBounds n o')(c:ops[n]?=some o)(d:o'.after=o.after)(listed:Array Bool):Region.ready .any qP listed=Region.ready .any ops listed:=by
 unfold Region.ready;have e:qP.size=ops.size:=(by rw[a];simp);rw[e];refine List.filter_congr fun i _=>?_;by_cases b:n=i
 ·subst b;have:=(Array.getElem?_eq_some_iff.1 c).1;rw[a,Array.getElem?_setIfInBounds_self_of_lt this,c];simp[d]
 ·rw[a,Array.getElem?_setIfInBounds_ne b]
theorem IP (hn:ops.size=n+1)(q:ops[n]?=some o)(b:qP=ops.setIfInBounds n o')(y:o'.after=o.after)(hd:o.dst=none)(l:o'.dst=none)(J:o.guard=none)(hu:Ug ops=true)(hl:FW ops n=true):
 ∀(fuel:Nat)(listed:Array Bool)(a:Act)(w:World),C w→listed.size=ops.size→listed.getD n true=false→
  wpAnyQ P .any qP C (fun a'=>∀w',C w'→o.wp P a' w' (fun d e=>Q .normal d e) Q) fuel listed a→wpAny P .any ops Q fuel listed a w:=by
 intro fuel;have c:∀listed:Array Bool,listed.size=ops.size→listed.getD n true=false→Region.ready .any ops listed≠ []:=fun listed hs hf h0=>by
  have x:=LG hu hs h0 (n+1) n (by omega) (by omega);have:n<listed.size:=(by omega);simp[Array.getD,this]at x hf;rw[x]at hf;cases hf
 induction fuel with
 |zero=>
  intro listed a w hC hs hf h;have h0:=h.1;rw[uo b q y]at h0;exact absurd h0 (c _ hs hf)
 |succ fuel ih=>
  intro listed a w hC hs hf h;refine⟨fun h0=>absurd h0 (c _ hs hf),fun i hi=>?_⟩;have z:i∈Region.ready .any qP listed:=(by rw[uo b q y];exact hi);have u:=h.2 i z;by_cases g:i=n
  ·subst g;have A:i<ops.size:=(by omega);have B:qP[i]?=some o':=(by rw[b,Array.getElem?_setIfInBounds_self_of_lt A]);obtain⟨v,_,hK⟩:=yieldsIn_of_qOp B u;rw[l]at hK;have E:Region.ready .any ops (listed.setIfInBounds i true)= []:=by
    rw[List.eq_nil_iff_forall_not_mem];intro j t;obtain⟨x,s,_⟩:=mem_ready.1 t;have k:=NU hl hi;by_cases m:j=i
    ·subst m;have:j<listed.size:=(by omega);simp[Array.getD,this]at s
    ·have p:=k j (by omega);have H:j<listed.size:=(by omega);simp[Array.getD,H,Ne.symm m]at s p;rw[p]at s;cases s
   have I:∀w',C w'→o.wp P a w' (fun d e=>Q .normal d e) Q:=by
    have r:=E;rw[←uo b q y]at r;cases fuel with
    |zero=>exact hK.2
    |succ f=>exact hK.1 r
   unfold wpOp;simp only[q];have hw:Region.wanted o (yielded ops a.tmps)=true:=(by unfold Region.wanted;rw[J]);rw[if_pos hw];refine .inl (Oper.wp_mono (fun d e G=>?_) (I w hC));cases fuel with
   |zero=>exact⟨E,G⟩
   |succ f=>exact⟨fun _=>G,fun j t=>by rw[E]at t;cases t⟩
  ·have he:qP[i]?=ops[i]?:=(by rw[b,Array.getElem?_setIfInBounds_ne (fun h=>g h.symm)]);have D:qOp P ops C i (wpAnyQ P .any qP C (fun a'=>∀w',C w'→o.wp P a' w' (fun d e=>Q .normal d e) Q) fuel (listed.setIfInBounds i true)) a:=by
    unfold qOp at u⊢;rw[he,D5 b q (by rw[hd,l])]at u;exact u
   refine wpOp_of_qOp hC (fun a' w' F K=>ih _ a' w' F (by simpa using hs) ?_ K) D;rw[Array.getD_eq_getD_getElem?,Array.getElem?_setIfInBounds_ne g, ←Array.getD_eq_getD_getElem?];exact hf
theorem Az {id:Nat}{a:Act}{w:World}(hm:P.follows .mixedOrders=true)(hn:ops.size=n+1)(j:ops[n]?=some o)(b:qP=ops.setIfInBounds n o')(g:o'.after=o.after)(hd:o.dst=none)(e:o'.dst=none)(i:o.guard=none)(hu:Ug ops=true)(hl:FW ops n=true)(d:Region.lexB .any qP=true)(hC:C { w with drawn:=w.drawn+1 })
 (h:wpQuiet P qP C (fun a'=>∀w',C w'→o.wp P a' w' (fun c f=>Q .normal c f) Q) qP.toList a):(Code.region id ops true).wp P Q a w:=by
 simp only[Region.lexB,Bool.and_eq_true]at d;have k:qP.size=ops.size:=(by rw[b];simp);refine wp_region_any hm (IP hn j b g hd e i hu hl _ _ _ _ hC (by simp) (by simp[Array.getD,hn]) ?_);have:=wpAnyQ_lex (C:=C) (md:= .any) d.1 qP.toList 0 (Array.replicate qP.size false) a (by simp) (by simpa using d.2) h;rw[←k]
 simpa using this
open Go.Sort in
theorem rL {id:Nat}{a:Act}{w:World}{l l':List Oper}(hm:P.follows .mixedOrders=true)(hn:l.length=n+1)(i:l[n]?=some o)(d:l'=l.set n { o with op:= .move (.const undef) })(hd:o.dst=none)(g:o.guard=none)(hu:Ug l.toArray=true)(hl:FW l.toArray n=true)(f:Region.lexB .any l'.toArray=true)
 (h:wpQuiet P l'.toArray (fun w'=>∃p:GrownBy,w'=grow (w.drewN p.n) p.os) (fun a'=>∀n os,o.wp P a' (grow (w.drewN n) os) (fun b c=>Q .normal b c) Q) l' a):(Code.region id l.toArray true).wp P Q a w:=
 Az (n:=n) (o:=o) (o':= { o with op:= .move (.const undef) }) (C:=fun w'=>∃p:GrownBy,w'=grow (w.drewN p.n) p.os) hm (by simpa using hn) (by simpa using i) (by rw[d];simp) rfl hd hd g hu hl f ⟨⟨1,#[]⟩,by rw[grow_empty];rfl⟩ (by
  have e:(fun a':Act=>∀w',(∃p:GrownBy,w'=grow (w.drewN p.n) p.os)→o.wp P a' w' (fun b c=>Q .normal b c) Q)=(fun a'=>∀n os,o.wp P a' (grow (w.drewN n) os) (fun b c=>Q .normal b c) Q):=by
   funext a'
   exact propext ⟨fun h n os=>h _ ⟨⟨n,os⟩,rfl⟩,fun h w' ⟨p,hp⟩=>by rw[hp];exact h p.n p.os⟩
  rw[e];exact h)
end
end Go.Uf
