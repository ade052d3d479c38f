/- Lemmas. -/
import Derived.WalkSpells
import Derived.WalkLawsBesides
import Derived.Deep.Slices
import Derived.Deep.RegionLaw
import Derived.StillTailTactics
import Derived.Lib.Hide
set_option linter.all false
set_option maxRecDepth 100000
set_option maxHeartbeats 8000000
namespace Go.Proofs.YtpbpgjfdledgoaaGreatDoor
open Go.RowKit
structure ah (S:Nat→Prop)(w w':World):Prop where
 os:w'.os=w.os
 tape:w'.tape=w.tape
 output:w'.output=w.output
 size:w.heap.size≤w'.heap.size
 block:∀k,k<w.heap.size→¬S k→w'.heap[k]?=w.heap[k]?
def No:Nat→Prop:=fun _=>False
def Own (k:Nat):Nat→Prop:=fun i=>i=k
def Of (v:Value):Nat→Prop:=fun i=>v.ownBlock=some i
theorem ah.refl {S:Nat→Prop}(w:World):ah S w w:=⟨rfl,rfl,rfl,Nat.le_refl _,fun _ _ _=>rfl⟩
theorem ah.drew {S:Nat→Prop}{a w:World}(h:ah S a w):ah S a w.drew:=⟨h.os,h.tape,h.output,h.size,h.block⟩
theorem ah.drewN {S:Nat→Prop}{a w:World}(h:ah S a w)(n:Nat):ah S a (w.drewN n):=⟨h.os,h.tape,h.output,h.size,h.block⟩
theorem ah.trans {S T:Nat→Prop}{a b c:World}(h:ah S a b)(k:ah T b c)(d:∀i,i<a.heap.size→T i→S i):ah S a c:=
 ⟨k.os.trans h.os,k.tape.trans h.tape,k.output.trans h.output,Nat.le_trans h.size k.size,
   fun i hi hn=>(k.block i (Nat.lt_of_lt_of_le hi h.size) (fun e=>hn (d i hi e))).trans (h.block i hi hn)⟩
theorem ah.mono {S T:Nat→Prop}{a b:World}(h:ah S a b)(c:∀i,i<a.heap.size→S i→T i):ah T a b:=
 ⟨h.os,h.tape,h.output,h.size,fun i hi hn=>h.block i hi (fun hs=>hn (c i hi hs))⟩
theorem ah.alloc {S:Nat→Prop}{a w:World}(h:ah S a w)(o:Obj):ah S a (w.alloc o):=
 ⟨h.os,h.tape,h.output,Nat.le_trans h.size (by simp),fun k b hn=>(Below.heap_alloc _ _ _ (Nat.lt_of_lt_of_le b h.size)).trans (h.block k b hn)⟩
theorem ah.setCell {S:Nat→Prop}{a w:World}(h:ah S a w){p:Addr}(hp:p.block<a.heap.size→S p.block)(u:Value):ah S a (w.setCell p u):=
 ⟨h.os,h.tape,h.output,by simpa using h.size,fun k b hn=>(Below.heap_setCell _ _ _ _ (fun e=>by subst e;exact hn (hp b))).trans (h.block k b hn)⟩
theorem ah.setRow {S:Nat→Prop}{a w:World}(h:ah S a w){g:Nat}(hp:g<a.heap.size→S g)(cs:Array Value):ah S a (w.setRow g cs):=
 ⟨h.os,h.tape,h.output,by simpa using h.size,fun k b hn=>(setRow_other _ _ _ _ (fun e=>by subst e;exact hn (hp b))).trans (h.block k b hn)⟩
theorem ah.grown {S:Nat→Prop}{a w w':World}{row:Option Nat}(h:ah S a w)(b:w.grownBy w' row)(d:∀k,row=some k→k<a.heap.size→S k):ah S a w':=
 h.trans (T:=fun i=>row=some i) ⟨b.os,b.tape,b.output,b.size,fun k c hn=>b.block k c (fun e=>hn e.symm)⟩ (fun i hi e=>d i e hi)
theorem ah.below {a w:World}(h:ah No a w):Below a.heap.size a w:=⟨h.os,h.tape,h.output,h.size,fun k b=>h.block k b (fun h=>h)⟩
theorem ah.cell {S:Nat→Prop}{a w:World}(h:ah S a w){p:Addr}{v:Value}(hc:a.cell? p=some v)(hn:¬S p.block):w.cell? p=some v:=
 (World.cell?_of_block (w:=a) (h.block p.block (block_lt_of_cell hc) hn)).trans hc
theorem ah.heap {S:Nat→Prop}{a w:World}(h:ah S a w){k:Nat}{o:Obj}(hc:a.heap[k]?=some o)(hn:¬S k):w.heap[k]?=some o:=
 (h.block k (Array.getElem?_eq_some_iff.1 hc).1 hn).trans hc
theorem ah.owns {S:Nat→Prop}{a w:World}(h:ah S a w){base:Nat}{e:TypeId}{size:Nat}{v:Value}{n:Nat}{xs:List Value}
 (i:a.ownsRow base e size v n xs) (hn:∀k,v.ownBlock=some k→¬S k):w.ownsRow base e size v n xs:=by
 obtain⟨c,b⟩:=i;refine⟨c,?_⟩;rcases b with b|⟨g,cap,cur,rfl,d,f,r⟩
 ·exact .inl b
 ·exact .inr ⟨g,cap,cur,rfl,d,h.heap f (hn g rfl),r⟩
structure Reads (w:World)(size:Nat)(v:Value)(n:Nat)(xs:List Value):Prop where
 len:xs.length=n*size
 one:∀u∈xs,u.oneCell'=true
 shape:(v= .slice none 0 0∧n=0)∨∃a c,v= .slice (some a) n c∧n≤c∧c≤maxLen∧∀j u,xs[j]?=some u→w.cell? (a.add j)=some u
theorem Reads.nil (w:World)(size:Nat):Reads w size (.slice none 0 0) 0 []:=⟨by simp,by simp,.inl ⟨rfl,rfl⟩⟩
theorem Reads.fu {w:World}{base:Nat}{e:TypeId}{size:Nat}{v:Value}{n:Nat}{xs:List Value}(h:w.ownsRow base e size v n xs)(c:∀u∈xs,u.oneCell'=true):Reads w size v n xs:=by
 refine⟨h.1,c,?_⟩;rcases h.2 with d|⟨g,cap,cur,rfl,f,i,b,a,_⟩
 ·exact .inl d
 ·exact .inr ⟨_,_,rfl,b,a,h.cells rfl⟩
theorem Reads.kept {S:Nat→Prop}{a w:World}(h:ah S a w){size:Nat}{v:Value}{n:Nat}{xs:List Value}(g:Reads a size v n xs)(hn:∀k,v.ownBlock=some k→¬S k):Reads w size v n xs:=by
 obtain⟨e,f,d⟩:=g;refine⟨e,f,?_⟩;rcases d with d|⟨b,c,rfl,hc,hm,i⟩
 ·exact .inl d
 ·refine .inr ⟨b,c,rfl,hc,hm,fun j u hu=>h.cell (i j u hu) ?_⟩;have:(b.add j).block=b.block:=by unfold Addr.add;split<;>rfl
  rw[this];exact hn _ rfl
theorem Reads.slice {w:World}{size:Nat}{v:Value}{n:Nat}{xs:List Value}(h:Reads w size v n xs):∃a c,v= .slice a n c:=by
 rcases h.shape with⟨rfl,rfl⟩|⟨a,c,rfl,_⟩
 ·exact⟨_,_,rfl⟩
 ·exact⟨_,_,rfl⟩
theorem Reads.addr {w:World}{size:Nat}{v:Value}{n:Nat}{xs:List Value}(h:Reads w size v n xs)(d:0<xs.length):
 ∃b off c,v= .slice (some ⟨b,off,none⟩) n c∧n≤c∧c≤maxLen∧b<w.heap.size∧∀j u,xs[j]?=some u→w.cell? ⟨b,off+j,none⟩=some u:=by
 rcases h.shape with⟨rfl,rfl⟩|⟨⟨b,off,sp⟩,c,rfl,hc,hm,hcell⟩
 ·have:=h.len;omega
 ·have h0:=hcell 0 xs[0] (by simp[d]);have hb:=block_lt_of_cell h0;have a:sp=none:=by
   cases sp with
   |none=>rfl
   |some s=>
    simp only[Addr.add,if_true,World.cell?]at h0
    split at h0<;>simp at h0
  subst a;refine⟨b,off,c,rfl,hc,hm,by simpa [Addr.add]using hb,fun j u hu=>?_⟩;have:=hcell j u hu
  rwa [Addr.add_lit]at this
theorem Reads.take {w:World}{size:Nat}{a:Option Addr}{n c:Nat}{xs:List Value}(h:Reads w size (.slice a n c) n xs){m:Nat}(hm:m≤n):Reads w size (.slice a m c) m (xs.take (m*size)):=by
 have hl:=h.len;have e:m*size≤n*size:=Nat.mul_le_mul_right _ hm;refine⟨by rw[List.length_take,hl];omega,fun u hu=>h.one u (List.mem_of_mem_take hu),?_⟩;rcases h.shape with⟨he,rfl⟩|⟨d,c',he,hc,b,f⟩
 ·obtain rfl:m=0:=(by omega);exact .inl ⟨he,rfl⟩
 ·simp only[Value.slice.injEq,true_and]at he;obtain⟨rfl,rfl⟩:=he;refine .inr ⟨d,c,rfl,by omega,b,fun j u hu=>f j u ?_⟩;rw[List.getElem?_take]at hu
  split at hu
  ·exact hu
  ·cases hu
theorem oQ {P:Program}(w:World)(base:Nat)(t ty e:TypeId)(i:TypeInfo)(z:Value)(size bytes:Nat)(A:P.underlying t=some (.slice e))(hi:P.info? e=some i)(E:i.zero=some z)
 (h:i.size=size) (q:i.bytes=bytes) (F:z.cells.size=size) (C:0<size)
 (v:Value) (n:Nat) (xs:List Value) (b:w.ownsRow base e size v n xs) (x:Value) (m:Nat) (news:List Value) (l:Reads w size x m news)
 (o:n+m≤maxLen) (f:(n+m)*bytes≤140737488355328) (p:base≤w.heap.size):
 ∃v' w',(Builtin.append_ #[t,t] ty #[v,x]).run P w= .ok v' w'∧w'.ownsRow base e size v' (n+m) (xs++news)∧w.grownBy w' v.ownBlock∧
  (∀k,v'.ownBlock=some k→v.ownBlock=some k∨w.heap.size≤k)∧(v'= .slice none 0 0↔v= .slice none 0 0∧m=0):=by
 rcases l.shape with⟨rfl,rfl⟩|⟨a,c,rfl,R,N,hcell⟩
 ·have y:news= []:=List.eq_nil_of_length_eq_zero (by simpa using l.len);subst y;refine⟨v,w,run_append_owned_none w base t ty e i size A hi v n xs b,by simpa using b,⟨rfl,rfl,rfl,Nat.le_refl _,fun _ _ _=>rfl⟩,fun k r=> .inl r,by simp⟩
 ·obtain⟨v',w',B,I,L,J⟩:=run_append_own (P:=P) w base t ty e i z size bytes A hi E h q F C v n xs b a m c news l.len hcell l.one o f p;refine⟨v',w',B,I,L,?_,J⟩;intro k r;rcases b.2 with⟨rfl,rfl⟩|⟨g,cap,cur,rfl,M,T,S,K,hcs,D⟩
  ·rcases I.2 with⟨rfl,_⟩|⟨g',G,H,rfl,_,O,_⟩
   ·cases r
   ·simp[Value.ownBlock]at r;subst r;by_cases Q:g'<w.heap.size
    ·exfalso;by_cases hm:m=0
     ·have:=(J.2 ⟨rfl,hm⟩);simp at this
     ·subst h;subst q;have d:=run_append_nil (P:=P) w t ty e i z A hi E a m c news l.len hcell (by omega) (by simp only[maxLen]at o;omega) (by have hb:=f;simp only[Nat.zero_add]at hb;omega);rw[B]at d;simp only[Result.ok.injEq,Value.slice.injEq,Option.some.injEq,Addr.mk.injEq,and_true]at d;obtain⟨⟨rfl,_⟩,_⟩:=d;omega
    ·right;omega
  ·by_cases s:n+m≤cap
   ·obtain⟨w2,d,_⟩:=run_append_fits (P:=P) w base t ty e i size A hi h g n cap xs b a m c news l.len hcell l.one s;rw[B]at d;simp only[Result.ok.injEq]at d;obtain⟨rfl,_⟩:=d;exact .inl r
   ·subst h;subst q;have holds:∀j u,xs[j]?=some u→w.cell? ((⟨g,0,none⟩:Addr).add j)=some u:=b.cells (g:=g) rfl;have d:=run_append_grow (P:=P) w t ty e i z A hi E ⟨g,0,none⟩ n cap xs b.1 holds a m c news l.len hcell (by omega) (by simp only[maxLen]at o;omega) (growslice_fits (by omega) f);rw[B]at d;simp only[Result.ok.injEq]at d;obtain⟨rfl,_⟩:=d;simp[Value.ownBlock]at r;right;omega
theorem aQ {P:Program}{w:World}{ops:Array Oper}{rest:List Oper}{o:Oper}{a:Act}{Q:Exit→Act→World→Prop}(l:o.guard=none)(s x:Operand)(t:TypeId)
 (E:o.op= .call { callee:= .builtin .append,args:=#[s,x],argTypes:=#[t,t] })
 (base:Nat) (e:TypeId) (i:TypeInfo) (z:Value) (size bytes:Nat) (F:P.underlying t=some (.slice e)) (hi:P.info? e=some i) (H:i.zero=some z)
 (d:i.size=size) (j:i.bytes=bytes) (r:z.cells.size=size) (q:0<size)
 (v:Value) (n:Nat) (xs:List Value) (hs:a.eval s=v) (f:w.ownsRow base e size v n xs)
 (u:Value) (m:Nat) (news:List Value) (G:a.eval x=u) (p:Reads w size u m news)
 (g:n+m≤maxLen) (b:(n+m)*bytes≤140737488355328) (c:base≤w.heap.size)
 (h:∀v' w',w'.ownsRow base e size v' (n+m) (xs++news)→ah (Of v) w w'→(∀k,v'.ownBlock=some k→v.ownBlock=some k∨w.heap.size≤k)→
   Hid (v'= .slice none 0 0↔v= .slice none 0 0∧m=0)→wpList P ops Q rest (a.put o.dst v') w'):wpList P ops Q (o::rest) a w:=by
 refine wpList_plain l fun K hK=>?_;obtain⟨v',w',p,y,A,B,C⟩:=oQ (P:=P) w base t o.type e i z size bytes F hi H d j r q v n xs f u m news p g b c;unfold Oper.wp execOp;simp only[E,resolve,invoke,builtin,Sem.run_bind,Sem.run_pure,Result.andThen_ok,List.map_toArray,List.map_cons,List.map_nil,hs,G,p];exact hK _ _ (h v' w' y ((ah.refl w).grown A (fun k D _=>D)) B C)
theorem bL {P:Program}{w:World}{ops:Array Oper}{o:Oper}{a:Act}{K:Act→World→Prop}{Q:Exit→Act→World→Prop}{E:Prop}(l:o.guard=none)(s x:Operand)(t:TypeId)
 (F:o.op= .call { callee:= .builtin .append,args:=#[s,x],argTypes:=#[t,t] })
 (base:Nat) (e:TypeId) (i:TypeInfo) (z:Value) (size bytes:Nat) (G:P.underlying t=some (.slice e)) (hi:P.info? e=some i) (I:i.zero=some z)
 (d:i.size=size) (j:i.bytes=bytes) (r:z.cells.size=size) (q:0<size)
 (v:Value) (n:Nat) (xs:List Value) (hs:a.eval s=v) (f:w.ownsRow base e size v n xs)
 (u:Value) (m:Nat) (news:List Value) (H:a.eval x=u) (p:Reads w size u m news)
 (g:n+m≤maxLen) (b:(n+m)*bytes≤140737488355328) (c:base≤w.heap.size)
 (h:∀v' w',w'.ownsRow base e size v' (n+m) (xs++news)→ah (Of v) w w'→(∀k,v'.ownBlock=some k→v.ownBlock=some k∨w.heap.size≤k)→
   Hid (v'= .slice none 0 0↔v= .slice none 0 0∧m=0)→K (a.put o.dst v') w'):if Region.wanted o (yielded ops a.tmps)=true then Oper.wp P o a w K Q else E:=by
 have hw:Region.wanted o (yielded ops a.tmps)=true:=(by simp[Region.wanted,l]);rw[if_pos hw];obtain⟨v',w',p,y,A,B,C⟩:=oQ (P:=P) w base t o.type e i z size bytes G hi I d j r q v n xs f u m news p g b c;unfold Oper.wp execOp;simp only[F,resolve,invoke,builtin,Sem.run_bind,Sem.run_pure,Result.andThen_ok,List.map_toArray,List.map_cons,List.map_nil,hs,H,p];exact h v' w' y ((ah.refl w).grown A (fun k D _=>D)) B C
theorem aq {w:World}{base:Nat}{e:TypeId}{size:Nat}{v:Value}{n:Nat}{xs:List Value}(h:w.ownsRow base e size v n xs):∃a c,v= .slice a n c:=by
 rcases h.2 with⟨rfl,rfl⟩|⟨g,cap,_,rfl,_⟩
 ·exact⟨_,_,rfl⟩
 ·exact⟨_,_,rfl⟩
theorem Reads.drop {w:World}{size:Nat}{b off n c:Nat}{xs:List Value}(h:Reads w size (.slice (some ⟨b,off,none⟩) n c) n xs){m:Nat}(hm:m≤n)(d:Option Addr)(e:m<n→d=some ⟨b,off+m*size,none⟩)(hs:d=none→m=n∧c=m):
 Reads w size (.slice d (n-m) (c-m)) (n-m) (xs.drop (m*size)):=by
 have hl:=h.len;refine⟨by rw[List.length_drop,hl,Nat.sub_mul],fun u hu=>h.one u (List.mem_of_mem_drop hu),?_⟩;rcases h.shape with⟨he,_⟩|⟨l,c',he,hc,g,k⟩
 ·simp at he
 ·simp only[Value.slice.injEq,Option.some.injEq,true_and]at he;obtain⟨rfl,rfl⟩:=he;cases d with
  |none=>
   obtain⟨rfl,rfl⟩:=hs rfl;left;simp
  |some a=>
   right;refine⟨a,c-m,rfl,by omega,by omega,fun j u hu=>?_⟩;have i:j<(xs.drop (m*size)).length:=(List.getElem?_eq_some_iff.1 hu).1;rw[List.length_drop,hl]at i;have f:m<n:=by
    rcases Nat.lt_or_ge m n with h|h
    ·exact h
    ·obtain rfl:m=n:=(by omega);omega
   obtain rfl:=Option.some.inj (e f);rw[List.getElem?_drop]at hu;have:=k _ _ hu;rw[Addr.add_lit]at this⊢
   rwa [Nat.add_assoc]
theorem Reads.Dv {w:World}{size:Nat}{a:Option Addr}{n c:Nat}{xs:List Value}(h:Reads w size (.slice a n c) n xs){m:Nat}(hm:m≤n)(f:Option Addr)(b:(if c=m then a else a.map (·.add (m*size)))=f):
 Reads w size (.slice f (n-m) (c-m)) (n-m) (xs.drop (m*size)):=by
 have hl:=h.len;refine⟨by rw[List.length_drop,hl,Nat.sub_mul],fun u hu=>h.one u (List.mem_of_mem_drop hu),?_⟩;rcases h.shape with⟨he,hn⟩|⟨e,c',he,hc,g,k⟩
 ·simp only[Value.slice.injEq]at he;obtain⟨rfl,_,rfl⟩:=he;left;obtain rfl:m=0:=(by omega);subst b hn;exact⟨by simp,rfl⟩
 ·simp only[Value.slice.injEq,true_and]at he;obtain⟨rfl,rfl⟩:=he;right;by_cases d:c=m
  ·rw[if_pos d]at b;subst b;refine⟨e,c-m,rfl,by omega,by omega,fun j u hu=>?_⟩;have i:j<(xs.drop (m*size)).length:=(List.getElem?_eq_some_iff.1 hu).1;rw[List.length_drop,hl]at i;obtain rfl:m=n:=(by omega);omega
  ·rw[if_neg d]at b;subst b;refine⟨e.add (m*size),c-m,rfl,by omega,by omega,fun j u hu=>?_⟩;rw[List.getElem?_drop]at hu;rw[Go.Deep.add_add];exact k _ _ hu
theorem ah.aK {S:Nat→Prop}{w w1 w2:World}(h:ah S w w1)(k:ah S w1 w2):ah S w w2:=h.trans k (fun _ _ h=>h)
theorem ah.mS {S:Nat→Prop}{w w1 w2:World}(h:ah S w w1)(k:ah No w1 w2):ah S w w2:=h.trans k (fun _ _ h=>h.elim)
theorem ah.cB {w a:World}(k:ah No w a){p:Addr}{v:Value}(h:w.cell? p=some v):a.cell? p=some v:=k.cell h (fun h=>h)
theorem ah.mM {w a:World}(k:ah No w a){b:Nat}{e:TypeId}{s n:Nat}{v:Value}{xs:List Value}(h:w.ownsRow b e s v n xs):a.ownsRow b e s v n xs:=k.owns h (fun _ _ h=>h)
abbrev qI (n:Int):Value:= .int .i64 n
abbrev qG (w:World)(v:Value):Ending→World→Prop:=fun e a=>e= .returned v∧ah No w a
abbrev qW (w:World)(v:Value):Ending→World→Prop:=fun e a=>e= .returned v∧a=w
abbrev aA:= @ah.refl
def aj (p:Prop):Prop:=p
theorem aj.o {p:Prop}(h:aj p):p:=h
theorem aj.out {p:Prop}(h:aj p):p:=h
theorem af {p:Prop}(h:p):aj p:=h
theorem ay {α:Sort _}(a:α):∃x,x=a:=⟨_,rfl⟩
abbrev VK:= @Lib.hid
abbrev aJ:= @decide_eq_false
abbrev bX:= @Array.getElem?_eq_some_iff
abbrev aM:= @decide_eq_true
abbrev cr:= @List.length_append
abbrev eC:= @List.getElem?_eq_some_iff
abbrev iK:= @List.take_succ_eq_append_getElem
abbrev fw:= @List.getElem?_eq_getElem
abbrev cI:= @IntKind.wrap_i64
abbrev eD:= @beq_eq_false_iff_ne
abbrev aU:= @Nat.le_trans
abbrev aY:= @bodyPost_ret
abbrev aN:= @cond_false
abbrev bF:= @frozen_of_row
abbrev aX:= @Nat.zero_le
abbrev cJ:= @World.ownsRow_nil
abbrev bT:= @heap_alloc_new
abbrev dL:= @List.mem_of_getElem?
abbrev dA:= @List.mem_singleton
abbrev fA:= @List.take_of_length_le
abbrev dw:= @List.getElem_mem
abbrev bM:= @Nat.le_refl
abbrev eU:= @Nat.lt_of_lt_of_le
abbrev bW:= @cell_of_row
abbrev fP:= @ByteArray.toList_eq
abbrev eY:= @List.append_assoc
abbrev gZ:= @List.length_singleton
abbrev bH:= @cond_true
abbrev eE:= @List.length_map
abbrev fB:= @List.length_take
abbrev bY:= @Nat.not_lt
abbrev fI:= @List.map_append
abbrev fQ:= @List.mem_append
abbrev jN:= @List.take_append_drop
abbrev g_:= @List.length_cons
abbrev mX:= @List.drop_eq_getElem_cons
abbrev qA:= @List.eq_nil_of_length_eq_zero
abbrev mD:= @List.getElem?_set_self
abbrev jO:= @World.ownsRow_lit
abbrev jP:= @IntWalk.wrap64_in
abbrev iL:= @Bool.false_and
abbrev jH:= @List.take_length
abbrev kD:= @run_string_add_sum
abbrev jQ:= @List.length_drop
abbrev mY:= @Nat.mul_le_mul_right
abbrev nV:= @List.pairwise_append
abbrev jR:= @Bool.and_false
abbrev fR:= @info_parts
abbrev kE:= @List.append_nil
abbrev mZ:= @UInt8.toNat_ofNat'
abbrev m_:= @List.mem_cons_self
abbrev h_:= @Prod.mk.inj
abbrev qB:= @ByteArray.size_append
abbrev mE:= @Bool.and_eq_true
abbrev jq:= @List.mem_map
abbrev qC:= @List.getElem?_set_ne
abbrev sS:= @Int.eq_ofNat_of_zero_le
abbrev jI:= @Nat.zero_add
abbrev uK:= @List.getElem?_zip_eq_some
abbrev nW:= @Int.toNat_natCast
abbrev nh:= @block_lt_of_cell
abbrev qQ:= @List.mem_cons_of_mem
abbrev xQ:= @List.getD_eq_getElem?_getD
abbrev oR:= @List.getElem?_map
abbrev nj:= @Option.some.inj
abbrev kT:= @List.map_cons
abbrev sU:= @Nat.div_lt_iff_lt_mul
abbrev nk:= @List.length_set
abbrev qR:= @Array.length_toList
abbrev qT:= @List.flatMap_append
abbrev fJ:= @congrArg
abbrev nX:= @List.take_left'
abbrev kU:= @Nat.pow_succ
abbrev Cv:= @Int.mul_le_mul_of_nonneg_right
abbrev mF:= @Bool.true_and
abbrev xR:= @decide_eq_false_iff_not
abbrev qD:= @List.all_eq_true
abbrev oT:= @Bool.eq_iff_iff
abbrev zw:= @List.mem_or_eq_of_mem_set
abbrev E0:= @List.findIdx?_eq_some_iff_getElem
abbrev qE:= @Nat.min_eq_left
abbrev uL:= @List.getElem_of_mem
abbrev mG:= @Nat.mul_comm
abbrev qU:= @List.not_mem_nil
abbrev Cw:= @Int.tdiv_eq_ediv_of_nonneg
abbrev qV:= @List.drop_left'
abbrev qX:= @List.foldl_cons
abbrev mH:= @Int.le_refl
abbrev nY:= @List.map_map
abbrev sV:= @Option.map_some
abbrev xS:= @Nat.lt_of_le_of_lt
abbrev zx:= @World.cell?_of_block
abbrev xT:= @List.foldl_append
abbrev xU:= @wpList_append_own
abbrev xV:= @List.size_toArray
abbrev qY:= @Bool.false_or
abbrev E1:= @List.pairwise_iff_getElem
abbrev qF:= @Addr.add_lit
abbrev fC:= @if_neg
abbrev zy:= @List.getElem?_drop
abbrev zz:= @WideMaps.keyOf_string_mk
abbrev tP:= @Nat.add_sub_cancel
abbrev zA:= @run_convert_bytes_string
abbrev kX:= @setRow_heap
abbrev wK:= @Bool.or_eq_false_iff
abbrev wO:= @Nat.pow_le_pow_right
abbrev nu:= @Nat.succ_mul
abbrev nw:= @results_none
abbrev tQ:= @decide_eq_true_eq
abbrev tT:= @List.take_add_one
abbrev dM:= @if_pos
abbrev zB:= @ByteArray.size_extract
abbrev zC:= @Int.ediv_lt_iff_lt_mul
abbrev Dw:= @Nat.mod_two_eq_zero_or_one
abbrev Dx:= @List.getElem?_append_right
abbrev zD:= @List.getElem?_eq_none
abbrev wQ:= @of_decide_eq_false
abbrev H7:= @List.set_eq_take_append_cons_drop
abbrev oF:= @cell_one_new
abbrev H8:= @ByteArray.getElem_eq_getElem_data
abbrev oG:= @Nat.add_zero
abbrev wR:= @List.map_singleton
abbrev Dy:= @List.getElem?_append_left
abbrev Dz:= @List.findIdx?_eq_none_iff
abbrev qZ:= @Int.mul_nonneg
abbrev DA:= @Array.getElem?_eq_getElem
abbrev zE:= @List.getElem?_zipIdx
abbrev H9:= @Array.getElem?_setIfInBounds_ne
abbrev tU:= @UInt8.toNat_inj
abbrev wT:= @List.all_eq_false
abbrev DB:= @List.length_filterMap_le
abbrev wU:= @List.any_eq_false
abbrev wW:= @List.flatMap_cons
abbrev wY:= @of_decide_eq_true
abbrev pP:= @bodyPost_end
abbrev q4:= @List.mem_cons
abbrev q5:= @ByteArray.ext
abbrev H_:= @Nat.shiftLeft_add_eq_or_of_lt
abbrev Ia:= @List.getElem?_replicate_of_lt
abbrev ny:= @beq_iff_eq
abbrev tV:= @Int.mul_le_mul
abbrev DC:= @List.drop_of_length_le
abbrev zF:= @List.getElem?_take
abbrev zG:= @List.find?_eq_none
abbrev Ib:= @List.getElem?_toArray
abbrev wZ:= @List.mem_filter
abbrev w5:= @Nat.not_lt_zero
abbrev DE:= @Array.getElem?_toList
abbrev zH:= @List.ext_getElem?
abbrev zI:= @List.pairwise_map
abbrev Ic:= @Int.tmod_eq_emod_of_nonneg
abbrev zJ:= @decide_eq_decide
abbrev q6:= @Nat.le_succ
abbrev DF:= @List.drop_succ_cons
abbrev tW:= @callsIn_wide
abbrev tX:= @Nat.le_of_lt
abbrev DH:= @Nat.xor_lt_two_pow
abbrev Vd:= @Oper.semAt_some
abbrev DI:= @List.mem_replicate
abbrev DJ:= @List.length_zipIdx
abbrev zK:= @List.set_append
abbrev pQ:= @wpIn_wide
