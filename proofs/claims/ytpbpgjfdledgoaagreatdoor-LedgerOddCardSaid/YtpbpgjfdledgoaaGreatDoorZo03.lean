/- Lemmas. -/
import Derived.Test.YtpbpgjfdledgoaaGreatDoorZo01
import Derived.Test.YtpbpgjfdledgoaaGreatDoorProg
set_option linter.all false
set_option maxRecDepth 100000
set_option maxHeartbeats 8000000
open Array renaming ext_getElem?→T4,getElem?_modify→w6,getElem?_push→M9
open Nat renaming ne_of_lt→Qd,shiftRight_eq_div_pow→T5,testBit_xor→RJ,xor_assoc→E2,eq_of_testBit_eq→RL,lt_irrefl→M_
open Bool renaming false_eq_true→T6
open List renaming filter_eq_self→SQ,getD_cons_zero→Na,take_succ_cons→RM,take_zero→E3,pairwise_cons→RN,cons_append→nA
namespace Go.Proofs.YtpbpgjfdledgoaaGreatDoor
section
open Go.Proofs.Tryz
open Go.RowKit
def Open (w:World)(b:Nat):Prop:=∃(C:Array Value) (t:TypeId),w.heap[b]?=some (.cells C t (0,0))
def aL (w:World)(b:Nat):Array Value:=match w.heap[b]? with|some (.cells C _ _)=>C|_=>#[]
def splice (C:Array Value)(o:Nat)(l:List Value):Array Value:=(C.toList.take o++l++C.toList.drop (o+l.length)).toArray
def pR (a:Addr)(l:List Value):Sem Unit:=storeCells a l 0
theorem w9 (a:Addr)(x y:Value)(l:List Value):storeCells a (x::y::l) 0=pR a (x::y::l):=rfl
theorem zL {P:Program}(w:World)(b o:Nat)(l:List Value)(hf:Open w b)(e:o+l.length≤(aL w b).size)(c:l.all (·.oneCell')=true):
 (pR ⟨b,o,none⟩ l).run P w= .ok () (w.setRow b (splice (aL w b) o l)):=by
 obtain⟨a,t,h0⟩:=hf;have d:aL w b=a:=(by simp[aL,h0]);rw[d]at e⊢;exact run_storeCells_at (P:=P) b o t l 0 a w h0 (by omega) (fun v hv=>(qD.1 c) v hv)
def K6 (P:Program)(a:Addr)(l:List Value)(w:World):Result Unit:=(pR a l).run P w
open Classical in
theorem uM {P:Program}(w:World)(b o:Nat)(l:List Value):
 (pR ⟨b,o,none⟩ l).run P w=if Open w b∧o+l.length≤(aL w b).size∧l.all (·.oneCell')=true then .ok () (w.setRow b (splice (aL w b) o l))else K6 P ⟨b,o,none⟩ l w:=by
 by_cases h:Open w b∧o+l.length≤(aL w b).size∧l.all (·.oneCell')=true
 ·rw[dM h,zL w b o l h.1 h.2.1 h.2.2]
 ·rw[fC h];rfl
theorem Ie (C:Array Value)(l:List Value)(h:C.size=l.length):splice C 0 l=l.toArray:=by
 apply Array.ext';simp[splice, ←h]
theorem yT (w:World)(c C:Array Value)(t:TypeId)(n:Nat)(hn:n=w.heap.size):(w.alloc (.cells c t)).setRow n C=w.alloc (.cells C t):=by
 subst hn;unfold World.setRow World.alloc;congr 1;apply T4;intro k;simp only[w6,M9];by_cases a:k=w.heap.size
 ·subst a;simp
 ·simp[a,Ne.symm a]
theorem uN (w:World)(o:Obj)(C:Array Value)(n:Nat)(hn:n<w.heap.size):(w.alloc o).setRow n C=(w.setRow n C).alloc o:=by
 unfold World.setRow World.alloc;congr 1;apply T4;intro k;simp only[w6,M9,Array.size_modify];by_cases a:k=w.heap.size
 ·subst a;simp[Qd hn]
 ·simp[a]
theorem E4 (w:World)(b:Nat)(C:Array Value):w.drew.setRow b C=(w.setRow b C).drew:=rfl
theorem BU (w:World)(c:Array Value)(t:TypeId)(n:Nat)(hn:n=w.heap.size):Open (w.alloc (.cells c t)) n:=by
 subst hn;unfold Open World.alloc;simp
theorem yU (w:World)(o:Obj)(n:Nat)(hn:n<w.heap.size):Open (w.alloc o) n↔Open w n:=by
 unfold Open World.alloc;rw[M9];simp[Qd hn]
theorem K7 (w:World)(n:Nat):Open w.drew n↔Open w n:=Iff.rfl
theorem Ig (w:World)(m n:Nat):Open (w.drewN m) n↔Open w n:=Iff.rfl
theorem xX (w:World)(b n:Nat)(f:Array Value→Array Value):Open { w with heap:=w.heap.modify b fun| .cells c e fr=> .cells (f c) e fr|o=>o } n↔Open w n:=by
 unfold Open;simp only[w6];by_cases hb:b=n
 ·subst hb;simp only[if_true];cases h:w.heap[b]? with
  |none=>simp
  |some o=>
   cases o with
   |cells c t fr=>simp
   |_=>simp
 ·simp[hb]
theorem DK (w:World)(b i:Nat)(v:Value)(n:Nat):Open (w.setCell ⟨b,i,none⟩ v) n↔Open w n:=
 xX w b n (fun c=>c.setIfInBounds i v)
theorem eM (w:World)(b n:Nat)(C:Array Value):Open (w.setRow b C) n↔Open w n:=
 xX w b n (fun _=>C)
theorem zM (w:World)(b i:Nat)(C:Array Value)(hf:Open w b):(w.setRow b C).cell? ⟨b,i,none⟩=C[i]?:=by
 obtain⟨a,t,h0⟩:=hf;exact cell_setRow_same w b i a C t (0,0) h0
theorem iV (w:World)(b n i:Nat)(C:Array Value)(h:n≠b):(w.setRow b C).cell? ⟨n,i,none⟩=w.cell? ⟨n,i,none⟩:=
 cell_setRow_other w b C ⟨n,i,none⟩ h
theorem BV (w:World)(b:Nat)(C:Array Value)(a:Addr):(w.setRow b C).frozen? a=w.frozen? a:=by
 unfold World.frozen? World.setRow;simp only[w6];by_cases hb:b=a.block
 ·subst hb;simp only[if_true];cases h:w.heap[a.block]? with
  |none=>simp
  |some o=>
   cases o with
   |cells c t fr=>simp
   |_=>simp
 ·simp[hb]
theorem BW (w:World)(c:Array Value)(t:TypeId)(n:Nat)(hn:n=w.heap.size):aL (w.alloc (.cells c t)) n=c:=by
 subst hn;unfold aL World.alloc;simp
theorem yV (w:World)(o:Obj)(n:Nat)(hn:n<w.heap.size):aL (w.alloc o) n=aL w n:=by
 unfold aL World.alloc;rw[M9];simp[Qd hn]
theorem Cx (w:World)(n:Nat):aL w.drew n=aL w n:=rfl
theorem dO (w:World)(b:Nat)(C:Array Value)(hf:Open w b):aL (w.setRow b C) b=C:=by
 obtain⟨a,t,h0⟩:=hf;unfold aL;rw[kX w b a C t (0,0) h0]
theorem mw (w:World)(b n:Nat)(C:Array Value)(h:n≠b):aL (w.setRow b C) n=aL w n:=by
 unfold aL;rw[setRow_other w b n C h]
theorem w_ (w:World)(b i n:Nat)(v:Value)(h:n≠b):aL (w.setCell ⟨b,i,none⟩ v) n=aL w n:=by
 unfold aL World.setCell;simp only[w6];rw[fC (fun e=>h e.symm)]
theorem yX (w:World)(b i:Nat)(v:Value):aL (w.setCell ⟨b,i,none⟩ v) b=(aL w b).setIfInBounds i v:=by
 unfold aL World.setCell;simp only[w6,if_true];cases h:w.heap[b]? with
 |none=>simp
 |some o=>
  cases o with
  |cells c t fr=>simp
  |_=>simp
def ai (w:World)(b o n:Nat):Option (List Value):=match w.heap[b]? with
 |some (.cells C _ _)=>if o+n≤C.size then some ((C.toList.drop o).take n)else none
 |_=>none
def mT (a:Addr)(n:Nat):Sem (Array Value):=loadCellsFrom a 0 n #[]
theorem yY (a:Addr)(n:Nat):loadCellsFrom a 0 n #[]=mT a n:=rfl
def Nb (P:Program)(a:Addr)(n:Nat)(w:World):Result (Array Value):=(mT a n).run P w
theorem ak {w:World}{b o n:Nat}{l:List Value}(h:ai w b o n=some l)(j:Nat)(v:Value)(a:l[j]?=some v):w.cell? ⟨b,o+j,none⟩=some v:=by
 unfold ai at h
 split at h
 ·rename_i C t fr c
  split at h
  ·cases h;simp only[World.cell?,c];rw[zF]at a
   split at a
   ·simpa using a
   ·cases a
  ·cases h
 ·cases h
theorem zN {w:World}{b o n:Nat}{l:List Value}(h:ai w b o n=some l):l.length=n:=by
 unfold ai at h
 split at h
 ·split at h
  ·rename_i C _ _ a hs
   cases h;rw[fB,jQ,qR];omega
  ·cases h
 ·cases h
theorem zO {w:World}{b o:Nat}{l:List Value}(h:∀(j:Nat) (v:Value),l[j]?=some v→w.cell? ⟨b,o+j,none⟩=some v)(hl:0<l.length):ai w b o l.length=some l:=by
 have h0:=h 0 l[0] (by simp[hl]);unfold ai;simp only[World.cell?]at h0
 split at h0
 ·rename_i C t fr c
  have d:o+l.length≤C.size:=by
   have:=h (l.length-1) l[l.length-1] (by simp);simp only[World.cell?,c]at this;have:=(bX.1 (by simpa using this)).1;omega
  rw[c];simp only[d,if_true,Option.some.injEq];apply zH;intro j;rw[zF];by_cases a:j<l.length
  ·rw[dM a,zy];have:=h j l[j] (by simp[a]);simp only[World.cell?,c]at this;rw[fw a]
   simpa using this
  ·rw[fC a];simp;omega
 ·cases h0
theorem lN {P:Program}(w:World)(b o n:Nat):(mT ⟨b,o,none⟩ n).run P w=match ai w b o n with|some l=> .ok l.toArray w|none=>Nb P ⟨b,o,none⟩ n w:=by
 split
 ·rename_i l h
  have hl:=zN h;have:=run_loadCells_list (P:=P) w ⟨b,o,none⟩ l (fun j v hv=>by
   rw[qF];exact ak h j v hv)
  rw[hl]at this;exact this
 ·rfl
theorem oU (w:World)(c:Array Value)(t:TypeId)(b o n:Nat)(hn:b=w.heap.size):ai (w.alloc (.cells c t)) b o n=if o+n≤c.size then some ((c.toList.drop o).take n)else none:=by
 subst hn;unfold ai World.alloc;simp
theorem tZ (w:World)(ob:Obj)(b o n:Nat)(hn:b<w.heap.size):ai (w.alloc ob) b o n=ai w b o n:=by
 unfold ai World.alloc;rw[M9];simp[Qd hn]
theorem uO (w:World)(b o n:Nat):ai w.drew b o n=ai w b o n:=rfl
theorem BX (w:World)(m b o n:Nat):ai (w.drewN m) b o n=ai w b o n:=rfl
theorem cC (w:World)(b k o n:Nat)(C:Array Value)(h:k≠b):ai (w.setRow b C) k o n=ai w k o n:=by
 unfold ai;rw[setRow_other w b k C h]
theorem aH (w:World)(b o n:Nat)(C:Array Value)(hf:Open w b):ai (w.setRow b C) b o n=if o+n≤C.size then some ((C.toList.drop o).take n)else none:=by
 obtain⟨a,t,h0⟩:=hf;unfold ai;rw[kX w b a C t (0,0) h0]
theorem mI (w:World)(b i k o n:Nat)(v:Value)(h:k≠b):ai (w.setCell ⟨b,i,none⟩ v) k o n=ai w k o n:=by
 unfold ai World.setCell;simp only[w6];rw[fC (fun e=>h e.symm)]
theorem t_ (w:World)(b i o n:Nat)(v:Value):ai (w.setCell ⟨b,i,none⟩ v) b o n=(ai w b o n).map fun l=>if o≤i then l.set (i-o) v else l:=by
 unfold ai World.setCell;simp only[w6,if_true];cases h:w.heap[b]? with
 |none=>simp
 |some ob=>
  cases ob with
  |cells c t fr=>
   simp only[Option.map_some,Option.isSome_none,T6,if_false,Array.size_setIfInBounds]
   split
   ·rw[sV];congr 1;rw[Array.toList_setIfInBounds];by_cases a:o≤i
    ·rw[dM a,List.drop_set,fC (by omega),List.take_set]
    ·rw[fC a,List.drop_set_of_lt (by omega)]
   ·rfl
  |_=>simp
theorem au {P:Program}{c:Code}{Q:Exit→Act→World→Prop}{a:Act}{w:World}(h:∀W,W=w→c.wp P Q a W):c.wp P Q a w:=h w rfl
theorem ah.ai {a w:World}(h:ah No a w){b o n:Nat}{l:List Value}(hc:ai a b o n=some l):ai w b o n=some l:=by
 have hb:b<a.heap.size:=by
  unfold Proofs.YtpbpgjfdledgoaaGreatDoor.ai at hc
  split at hc
  ·rename_i c
   exact(bX.1 c).1
  ·cases hc
 unfold Proofs.YtpbpgjfdledgoaaGreatDoor.ai at hc⊢;rw[h.block b hb (fun h=>h)];exact hc
theorem ah.opened {a w:World}(h:ah No a w){b:Nat}(c:Open a b):Open w b:=by
 obtain⟨C,t,hc⟩:=c;exact⟨C,t,h.heap hc (fun h=>h)⟩
theorem Open.frozen {w:World}{b:Nat}(h:Open w b)(i:Nat):w.frozen? ⟨b,i,none⟩=false:=by
 obtain⟨C,t,hc⟩:=h;exact bF w b i _ _ hc
theorem ah.iu {a w:World}(h:ah No a w){b n:Nat}(c:Open a b)(hn:(aL a b).size=n):(aL w b).size=n:=by
 obtain⟨C,t,hc⟩:=c;have hw:=h.heap hc (fun h=>h);unfold aL at hn⊢;rw[hc]at hn;rw[hw];exact hn
theorem ah.row {a w:World}(h:ah No a w){b:Nat}(hb:a.heap.size≤b)(C:Array Value):ah No a (w.setRow b C):=
 h.setRow (S:=No) (fun c=>absurd c (bY.2 hb)) C
theorem Qe (k:IntKind)(n:Int):Value.oneCell' (.int k n)=true:=rfl
theorem Nc (b:Bool):Value.oneCell' (.bool b)=true:=rfl
theorem Ih (s:ByteArray):Value.oneCell' (.string s)=true:=rfl
theorem K8 (a:Option Addr)(n c:Nat):Value.oneCell' (.slice a n c)=true:=rfl
theorem E5 (a:Option Addr):Value.oneCell' (.pointer a)=true:=rfl
theorem Ii (L:List Value)(o:Nat)(l:List Value):splice L.toArray o l=(L.take o++l++L.drop (o+l.length)).toArray:=rfl
attribute [go_sem 2000] Ie w9 yY List.getElem?_toArray List.getElem?_cons_succ List.getElem?_cons_zero
attribute [go_sem] lN oU tZ uO BX cC aH mI t_ uM Ii yT uN E4 BU yU K7 Ig DK eM zM iV BV BW yV Cx dO mw yX w_ Qe Nc Ih K8 E5
structure Fi where
 s:ByteArray
 k:Nat
abbrev fV (f:Fi):Value:= .agg #[.string f.s,qI f.k]
def fD (f:Fi):DataW Unit:= .agg [.lit (.string f.s.data.toList),.lit (.int .i64 f.k)]
def cL (v:Value):Option (DataW Unit×List MemPlace):=
 match v with
 | .agg cs=>match cs.toList with
   | [.string s,.int .i64 n]=>some (.agg [.lit (.string s.data.toList),.lit (.int .i64 n)],[])
   |_=>none
 |_=>none
theorem nZ (f:Fi):cL (fV f)=some (fD f,[]):=rfl
theorem q8 {v:Value}{y:DataW Unit×List MemPlace}(h:cL v=some y):∃(s:ByteArray) (n:Int),v= .agg #[.string s,qI n]∧y=(.agg [.lit (.string s.data.toList),.lit (.int .i64 n)],[]):=by
 unfold cL at h
 split at h
 ·rename_i cs
  split at h
  ·rename_i s n hv
   refine⟨s,n,?_,(nj h).symm⟩;rw[←Array.toArray_toList (xs:=cs),hv]
  ·cases h
 ·cases h
theorem fW {s t:ByteArray}(h:s.data.toList=t.data.toList):s=t:=by
 cases s;cases t;simp at h;rw[h]
theorem pS {v:Value}{f:Fi}{ps:List MemPlace}(h:cL v=some (fD f,ps)):v=fV f:=by
 obtain⟨s,n,rfl,hy⟩:=q8 h;have d:f.s.data.toList=s.data.toList∧(f.k:Int)=n:=by
  have c:=fJ Prod.fst hy;unfold fD at c;injection c with c
  injection c with b a
  injection a with a _
  injection b with b
  injection a with a
  injection b with b
  injection a with _ a
  exact⟨b,a⟩
 rw[←fW d.1, ←d.2]
abbrev Nm:=List UInt8
abbrev Fs:=List (Nm×Fi)
def tf (fs:Fs):DataW Unit:= .map (fs.map fun p=>(.string p.1,fD p.2))
def kY (n:Nm)(p:Nm×Fi):Bool:=p.1==n
def eV (fs:Fs)(n:Nm):Option Fi:=(fs.find? (kY n)).map (·.2)
def kF (fs:Fs)(n:Nm):Fs:=fs.filter fun p=>!kY n p
def yZ (x:Nm×Fi):Fs→Fs
 | []=> [x]
 |y::r=>if bytesBefore x.1 y.1 then x::y::r else y::yZ x r
def gN (fs:Fs)(n:Nm)(f:Fi):Fs:=yZ (n,f) (kF fs n)
def dI (fs:Fs):Prop:=fs.Pairwise fun p q=>bytesBefore p.1 q.1=true
theorem E6 (x:Nm×Fi):∀fs:Fs,(yZ x fs).map (fun p=>((.string p.1:Lit),fD p.2))=DataW.insert (.string x.1,fD x.2) (fs.map fun p=>(.string p.1,fD p.2))
 | []=>rfl
 |y::r=>by
  unfold yZ;rw[kT];unfold DataW.insert;show _=if bytesBefore x.1 y.1=true then _ else _
  split
  ·rfl
  ·rw[kT,E6 x r]
theorem E7 (n:Nm)(fs:Fs):(kF fs n).map (fun p=>((.string p.1:Lit),fD p.2))=(fs.map fun p=>((.string p.1:Lit),fD p.2)).filter fun p=>!p.1.sameKey (.string n):=by
 unfold kF;rw[List.filter_map];rfl
theorem Qf (fs:Fs)(n:Nm)(f:Fi):(tf fs).put (.string n) (fD f)=tf (gN fs n f):=by
 unfold tf DataW.put gN;rw[E6,E7]
theorem Qg (fs:Fs)(n:Nm):(tf fs).del (.string n)=tf (kF fs n):=by
 unfold tf DataW.del;rw[E7]
theorem zP (fs:Fs):Maps.size (tf fs)=fs.length:=by simp[tf,Maps.size]
theorem E8 (n:Nm)(fs:Fs):(fs.map fun p=>((.string p.1:Lit),fD p.2)).find? (fun p=>p.1.sameKey (.string n))=(fs.find? (kY n)).map fun p=>((.string p.1:Lit),fD p.2):=by
 rw[List.find?_map];rfl
theorem Ij {fs:Fs}{n:Nm}{f:Fi}(h:eV fs n=some f)(a:DataW Unit):(tf fs).atKey (.string n) a=fD f:=by
 unfold tf DataW.atKey;simp only[E8];unfold eV at h;cases hf:fs.find? (kY n)with
 |none=>rw[hf]at h;cases h
 |some p=>
  rw[hf]at h;simp at h;simp[h]
theorem Qh {fs:Fs}{n:Nm}{f:Fi}(h:eV fs n=some f):Maps.has (tf fs) (.string n)=true:=Maps.has_true_of_atKey (Ij h)
theorem xY {fs:Fs}{n:Nm}(h:eV fs n=none)(a:DataW Unit):(tf fs).atKey (.string n) a=a:=by
 unfold tf DataW.atKey;simp only[E8];unfold eV at h;cases hf:fs.find? (kY n)with
 |none=>simp
 |some p=>rw[hf]at h;cases h
theorem DL {fs:Fs}{n:Nm}(h:eV fs n=none):Maps.has (tf fs) (.string n)=false:=Maps.has_false_of_atKey (xY h)
theorem q9 (x:Nm×Fi):∀fs:Fs,(yZ x fs).length=fs.length+1
 | []=>rfl
 |y::r=>by
  unfold yZ
  split
  ·rfl
  ·simp[q9 x r]
theorem E9 {x p:Nm×Fi} :∀ {fs:Fs},p∈yZ x fs↔p=x∨p∈fs
 | []=>by simp[yZ]
 |y::r=>by
  unfold yZ
  split
  ·simp
  ·simp only[List.mem_cons,E9 (fs:=r)];constructor
   ·rintro(h|h|h)
    ·exact .inr (.inl h)
    ·exact .inl h
    ·exact .inr (.inr h)
   ·rintro(h|h|h)
    ·exact .inr (.inl h)
    ·exact .inl h
    ·exact .inr (.inr h)
theorem E_ {fs:Fs}{n:Nm}{f:Fi}{p:Nm×Fi}(h:p∈gN fs n f):p=(n,f)∨p∈fs:=by
 rcases E9.1 h with h|h
 ·exact .inl h
 ·exact .inr (wZ.1 h).1
theorem Fa {fs:Fs}{n:Nm}{f:Fi}(h:eV fs n=some f):(n,f)∈fs:=by
 unfold eV at h;cases hf:fs.find? (kY n)with
 |none=>rw[hf]at h;cases h
 |some p=>
  rw[hf]at h;simp at h;have a:=List.find?_some hf;have b:=List.mem_of_find?_eq_some hf;have c:p.1=n:=(by simpa [kY]using a);have d:p=(n,f):=(by rw[←c, ←h]);rw[←d];exact b
theorem Ke (fs:Fs)(n:Nm):(kF fs n).length≤fs.length:=List.length_filter_le _ _
theorem Qi {fs:Fs}{n:Nm}{f:Fi}(h:eV fs n=some f):(kF fs n).length<fs.length:=by
 unfold kF;rw[List.length_filter_lt_length_iff_exists];exact⟨(n,f),Fa h,by simp[kY]⟩
theorem zQ (fs:Fs)(n:Nm)(f:Fi):(gN fs n f).length≤fs.length+1:=by
 unfold gN;rw[q9];have:=Ke fs n;omega
theorem kZ {fs:Fs}{n:Nm}{f g:Fi}(h:eV fs n=some g):(gN fs n f).length≤fs.length:=by
 unfold gN;rw[q9];exact Qi h
theorem Cy {fs:Fs}{n:Nm}(h:eV fs n=none):kF fs n=fs:=by
 unfold kF;rw[SQ];intro p hp;unfold eV at h;simp at h;cases a:kY n p
 ·rfl
 ·exact absurd a (by simpa using h p.1 p.2 hp)
def nB (f:Fi):Prop:=f.s.size≤4194304∧f.k≤f.s.size
structure bu (w:World)(p b:Nat)(fs:Fs)(room:Int)(dead:Bool):Prop where
 cells:w.heap[p]?=some (.cells #[.map (some b),qI room,.bool dead] 121 (0,0))
 own:w.ownsMap prog 9 cL b fs.length (tf fs)
 few:fs.length≤64
 ok:∀x∈fs,nB x.2
 nm:∀x∈fs,x.1.length≤32
 r0:0≤room
 r1:room≤9223372036854775807
theorem oV {S:Nat→Prop}{w w':World}{b n:Nat}{D:DataW Unit}(h:w.ownsMap prog 9 cL b n D)(k:ah S w w')(hb:¬S b):w'.ownsMap prog 9 cL b n D:=by
 obtain⟨es,clock,a,r⟩:=h;exact⟨es,clock,k.heap a hb,r⟩
theorem Cz {w:World}{b n:Nat}{fs:Fs}(h:w.ownsMap prog 9 cL b n (tf fs)):w.ownsMap prog 9 cL b fs.length (tf fs):=by
 obtain⟨es,clock,d,F,_,c⟩:=h;refine⟨es,clock,d,F,?_,c⟩;have a:=fJ Maps.size c;rw[zP]at a;rw[a];simp[Maps.size,length_sorted]
theorem bu.kept {S:Nat→Prop}{w w':World}{p b:Nat}{fs:Fs}{room:Int}{dead:Bool}(h:bu w p b fs room dead)(k:ah S w w')(hp:¬S p)(hb:¬S b):bu w' p b fs room dead:=
 ⟨k.heap h.cells hp,oV h.own k hb,h.few,h.ok,h.nm,h.r0,h.r1⟩
theorem bu.drew {w:World}{p b:Nat}{fs:Fs}{room:Int}{dead:Bool}(h:bu w p b fs room dead):bu w.drew p b fs room dead:=h.kept (aA (S:=No) w).drew (fun h=>h) (fun h=>h)
theorem bu.ne {w:World}{p b:Nat}{fs:Fs}{room:Int}{dead:Bool}(h:bu w p b fs room dead):p≠b:=by
 obtain⟨es,clock,a,_⟩:=h.own;rintro rfl;rw[h.cells]at a;cases a
theorem bu.lt {w:World}{p b:Nat}{fs:Fs}{room:Int}{dead:Bool}(h:bu w p b fs room dead):p<w.heap.size∧b<w.heap.size:=
 ⟨(bX.1 h.cells).1,h.own.lt⟩
theorem bu.zR {w:World}{p b:Nat}{fs:Fs}{room:Int}{dead:Bool}(h:bu w p b fs room dead){n:Nm}{f:Fi}(a:eV fs n=some f):nB f:=h.ok _ (Fa a)
theorem bu.cell0 {w:World}{p b:Nat}{fs:Fs}{room:Int}{dead:Bool}(h:bu w p b fs room dead):w.cell? ⟨p,0,none⟩=some (.map (some b)):=by simp[World.cell?,h.cells]
theorem bu.iM {w:World}{p b:Nat}{fs:Fs}{room:Int}{dead:Bool}(h:bu w p b fs room dead):w.cell? ⟨p,1,none⟩=some (qI room):=by simp[World.cell?,h.cells]
theorem bu.uP {w:World}{p b:Nat}{fs:Fs}{room:Int}{dead:Bool}(h:bu w p b fs room dead):w.cell? ⟨p,2,none⟩=some (.bool dead):=by simp[World.cell?,h.cells]
theorem bu.opened {w:World}{p b:Nat}{fs:Fs}{room:Int}{dead:Bool}(h:bu w p b fs room dead):Open w p:=⟨_,_,h.cells⟩
theorem bu.rising {w:World}{p b:Nat}{fs:Fs}{room:Int}{dead:Bool}(h:bu w p b fs room dead):dI fs:=by
 obtain⟨es,clock,_,F,_,a⟩:=h.own;have K:Maps.Keyed prog 9:=Maps.string_keyed underlying9;have d:=Maps.fit_apart K F;have e:ChangeMaps.StrKeys (es.toList.map (WideElems.rg prog 9 cL)):=by
  intro q f;have c:q∈((es.toList.map (WideElems.rg prog 9 cL)).foldr DataW.insert []):=mem_sorted.2 f;unfold tf at a;injection a with a
  rw[←a]at c;obtain⟨x,_,rfl⟩:=jq.1 c;exact⟨_,rfl⟩
 have hs:=ChangeMaps.sorted_sorted _ e d;unfold tf at a;injection a with a
 rw[←a,zI]at hs;exact hs
theorem Tryz.keyed:Maps.Keyed prog 9:=Maps.string_keyed underlying9
theorem Tryz.zT (w:World):(zeroValue 133).run prog w= .ok (.agg #[.string ⟨#[]⟩,qI 0]) w:=by kernel_rfl
abbrev Fi.none:Fi:=⟨⟨#[]⟩,0⟩
theorem qM {H:Type}{P:Program}{w:World}{ops:Array Oper}{rest:List Oper}{o:Oper}{a:Act}{Q:Exit→Act→World→Prop}
 (l:o.guard=none) (m x:Operand) (t:TypeId) (g:o.op=Op.lookup t m x false)
 (k e:TypeId) (K:Maps.Keyed P k) (p:P.underlying t=some (.map k e)) (R:Value→Option (DataW H×List MemPlace)) {z:Value} (r:(zeroValue e).run P w= .ok z w) (j:DataW H) (s:List MemPlace) (h:R z=some (j,s)) (b n:Nat) (D:DataW H)
 (hm:a.eval m= .map (some b)) (d:w.ownsMap P k R b n D) (key:Value) (i:Lit) (q:a.eval x=key) (c:keyOf P k key=some i)
 (hK:∀v ps,R v=some (D.atKey i j,ps)→wpList P ops Q rest (a.put o.dst v) w):
 wpList P ops Q (o::rest) a w:=by
 refine wpList_plain l fun u hK'=>?_;obtain⟨v,ps,f,hv⟩:=d.lookup K p r h c;unfold Oper.wp;simp[execOp,g,hm,q,f,Result.andThen];exact hK' _ _ (hK v ps hv)
section
variable {w:World}{ops:Array Oper}{rest:List Oper}{o:Oper}{a:Act}{Q:Exit→Act→World→Prop}{b:Nat}{fs:Fs}
theorem uQ (e:o.guard=none)(m x:Operand)(d:o.op=Op.lookup 119 m x true)(c:w.ownsMap prog 9 cL b fs.length (tf fs))(hm:a.eval m= .map (some b))
 (n:ByteArray) (g:a.eval x= .string n) (hn:n.size≤maxLen) (f:Fi) (hf:eV fs n.data.toList=some f) (hK:wpList prog ops Q rest (a.put o.dst (.tuple #[fV f,.bool true])) w):wpList prog ops Q (o::rest) a w:=by
 refine wpList_lookup_own_ok w e m x _ d _ _ Tryz.keyed underlying119 cL (Tryz.zT w) (fD Fi.none) [] (nZ Fi.none) b _ _ hm c _ _ g (zz underlying9 hn) ?_;intro v ps hv;rw[Ij hf]at hv;rw[Qh hf,pS hv];exact hK
theorem uR (e:o.guard=none)(m x:Operand)(d:o.op=Op.lookup 119 m x true)(c:w.ownsMap prog 9 cL b fs.length (tf fs))(hm:a.eval m= .map (some b))
 (n:ByteArray) (f:a.eval x= .string n) (hn:n.size≤maxLen) (hf:eV fs n.data.toList=none) (hK:wpList prog ops Q rest (a.put o.dst (.tuple #[fV Fi.none,.bool false])) w):wpList prog ops Q (o::rest) a w:=by
 refine wpList_lookup_own_ok w e m x _ d _ _ Tryz.keyed underlying119 cL (Tryz.zT w) (fD Fi.none) [] (nZ Fi.none) b _ _ hm c _ _ f (zz underlying9 hn) ?_;intro v ps hv;rw[xY hf]at hv;rw[DL hf,pS hv];exact hK
theorem xg (e:o.guard=none)(m x:Operand)(d:o.op=Op.lookup 119 m x false)(c:w.ownsMap prog 9 cL b fs.length (tf fs))(hm:a.eval m= .map (some b))
 (n:ByteArray) (g:a.eval x= .string n) (hn:n.size≤maxLen) (f:Fi) (hf:eV fs n.data.toList=some f) (hK:wpList prog ops Q rest (a.put o.dst (fV f)) w):wpList prog ops Q (o::rest) a w:=by
 refine qM e m x _ d _ _ Tryz.keyed underlying119 cL (Tryz.zT w) (fD Fi.none) [] (nZ Fi.none) b _ _ hm c _ _ g (zz underlying9 hn) ?_;intro v ps hv;rw[Ij hf]at hv;rw[pS hv];exact hK
theorem iC (i:o.guard=none)(m x v:Operand)(e:o.op=Op.mapUpdate 119 m x v)(c:w.ownsMap prog 9 cL b fs.length (tf fs))(d:fs.length≤64)(hm:a.eval m= .map (some b))
 (n:ByteArray) (l:a.eval x= .string n) (hn:n.size≤maxLen) (f:Fi) (hv:a.eval v=fV f)
 (hK:∀w',w'.ownsMap prog 9 cL b (gN fs n.data.toList f).length (tf (gN fs n.data.toList f))→ah (Own b) w w'→wpList prog ops Q rest (a.put o.dst undef) w'):wpList prog ops Q (o::rest) a w:=by
 refine wpList_mapUpdate_own w i m x v _ e _ _ Tryz.keyed underlying119 cL b _ _ hm c (xS d (by unfold maxLen;omega)) _ _ _ l hv (zz underlying9 hn) (fD f) [] (nZ f) ?_;intro w' g h;rw[Qf]at g;exact hK w' (Cz g) ((aA w).grown h (fun k j _=>by cases j;rfl))
theorem xh (g:o.guard=none)(m x:Operand)(d:o.op=Op.call { callee:=Callee.builtin Builtin.delete,args:=#[m,x],argTypes:=#[119,9] })(c:w.ownsMap prog 9 cL b fs.length (tf fs))(hm:a.eval m= .map (some b))
 (n:ByteArray) (i:a.eval x= .string n) (hn:n.size≤maxLen)
 (hK:∀w',w'.ownsMap prog 9 cL b (kF fs n.data.toList).length (tf (kF fs n.data.toList))→ah (Own b) w w'→wpList prog ops Q rest (a.put o.dst (.tuple #[])) w'):wpList prog ops Q (o::rest) a w:=by
 refine wpList_delete_own w g m x _ _ d _ Tryz.keyed underlying119 cL b _ _ hm c _ _ i (zz underlying9 hn) ?_;intro w' e f;rw[Qg]at e;exact hK w' (Cz e) ((aA w).grown f.grown (fun k h _=>by cases h;rfl))
end
end
section
open Go.Proofs.Tryz
def Nd:List Nat:= [0,498536548,997073096,651767980,1994146192,1802195444,1303535960,1342533948,3988292384,4027552580,3604390888,3412177804,2607071920,2262029012,2685067896,3183342108]
def Ik (k:Nat):Nat:=Nd.getD k 0
def n9 (c:Nat):Nat:=c/16^^^Ik (c%16)
def q_ (c x:Nat):Nat:=n9 (n9 (c^^^x))
def Fb (l:Nm)(c:Nat):Nat:=l.foldl (fun c x=>q_ c x.toNat) c
def pT (l:Nm):Nat:=4294967295-Fb l 4294967295
def gF (c:Nat):Nat:=bif c%2==1 then c/2^^^3988292384 else c/2
theorem Nf (k:Nat):Ik k<2^32:=by
 by_cases h:k<16
 ·have:∀k:Fin 16,Ik k.1<2^32:=(by decide);exact this ⟨k,h⟩
 ·have:Ik k=0:=by
   unfold Ik;rw[xQ,zD (by simp[Nd];omega)];rfl
  omega
theorem ua {c:Nat}(h:c<2^32):n9 c<2^32:=DH (by omega) (Nf _)
theorem Fc {c x:Nat}(h:c<2^32)(a:x<256):q_ c x<2^32:=ua (ua (DH h (by omega)))
theorem DM:∀(l:Nm) {c:Nat},c<2^32→Fb l c<2^32
 | [],_,h=>h
 |x::l,_,h=>DM l (Fc h x.toNat_lt)
theorem zU (a b:Nm)(c:Nat):Fb (a++b) c=Fb b (Fb a c):=xT ..
theorem Fe (a:Nm)(x:UInt8)(c:Nat):Fb (a++ [x]) c=q_ (Fb a c) x.toNat:=zU a [x] c
theorem Ng (a b:Nat):(a^^^b)/2=a/2^^^b/2:=by
 have:=Nat.shiftRight_xor_distrib (a:=a) (b:=b) (i:=1)
 simpa [T5]using this
theorem Qj (a b:Nat):(a^^^b)%2=(a%2+b%2)%2:=by
 have h:∀n:Nat,n%2=if n.testBit 0 then 1 else 0:=by
  intro n;rw[Nat.testBit_zero];rcases Dw n with h|h<;>simp[h]
 rw[h,h a,h b,RJ];cases a.testBit 0<;>cases b.testBit 0<;>rfl
theorem sj (a b:Nat):gF (a^^^b)=gF a^^^gF b:=by
 unfold gF;rw[Qj,Ng];rcases Dw a with h|h<;>rcases Dw b with k|k<;>rw[h,k]
 ·rfl
 ·show _^^^3988292384=_;rw[E2];rfl
 ·show a/2^^^b/2^^^3988292384=(a/2^^^3988292384)^^^b/2;rw[E2,E2,Nat.xor_comm (b/2)]
 ·show a/2^^^b/2=(a/2^^^3988292384)^^^(b/2^^^3988292384);rw[Nat.xor_comm (b/2),E2 (a/2) 3988292384, ←E2 3988292384 3988292384,Nat.xor_self,Nat.zero_xor]
theorem pU (q:Nat):gF (2*q)=q:=by
 unfold gF;have h:2*q%2=0:=(by omega);rw[h];simp
theorem Nh (c:Nat):c=(2*(2*(2*(2*(c/16)))))^^^(c%16):=by
 apply RL;intro i;have e:2*(2*(2*(2*(c/16))))=(c/16)*2^4:=(by omega);have e2:c/16=c >>> 4:=(by rw[T5]);have e3:c%16=c%2^4:=rfl;rw[e,RJ,e3,Nat.testBit_mod_two_pow, ←Nat.shiftLeft_eq,Nat.testBit_shiftLeft,e2,Nat.testBit_shiftRight];by_cases h:i<4
 ·have:¬4≤i:=(by omega);simp[h,this]
 ·have a:4≤i:=(by omega);have:4+(i-4)=i:=(by omega);simp[h,a,this]
theorem CA (c:Nat):gF (gF (gF (gF c)))=n9 c:=by
 have h:∀r:Fin 16,gF (gF (gF (gF r.1)))=Ik r.1:=(by decide);have a:=h ⟨c%16,by omega⟩;dsimp only at a
 conv=>lhs;rw[Nh c]
 rw[sj,pU,sj,pU,sj,pU,sj,pU,a];rfl
theorem Il (c:Nat):gF (gF (gF (gF (gF (gF (gF (gF c)))))))=n9 (n9 c):=by rw[CA,CA]
theorem zc (l:Nm):pT l<2^32:=by unfold pT;omega
def EX (n:Nat):Nm:= [UInt8.ofNat (n/65536),UInt8.ofNat (n/256),UInt8.ofNat n]
def EY (n:Nat):Nm:= [UInt8.ofNat (n/16777216),UInt8.ofNat (n/65536),UInt8.ofNat (n/256),UInt8.ofNat n]
def cM (t:Nm):Nm:=EX t.length++t++EY (pT (EX t.length++t))
def n3 (s:Nm):Nat:=(s.getD 0 0).toNat*65536+(s.getD 1 0).toNat*256+(s.getD 2 0).toNat
def eB (s:Nm):Option Nm:=
 if s.length<3 then none else if 65536<n3 s then none else if s.length<7+n3 s then none else
  if EY (pT (s.take (3+n3 s)))=(s.drop (3+n3 s)).take 4 then some ((s.drop 3).take (n3 s))else none
def Im:Nat→Nm→List Nm
 |0,_=> []
 |k+1,s=>match eB s with
  |none=> []
  |some t=>t::Im k (s.drop (t.length+7))
def parse (s:Nm):List Nm:=Im s.length s
def frames (ts:List Nm):Nm:=ts.flatMap cM
def bK (ts:List Nm):Nat:=(ts.map (·.length+7)).sum
theorem jZ (n:Nat):(EX n).length=3:=rfl
theorem ud (n:Nat):(EY n).length=4:=rfl
theorem dD (t:Nm):(cM t).length=t.length+7:=by simp[cM,jZ,ud];omega
theorem n_ (t:Nm)(ts:List Nm):frames (t::ts)=cM t++frames ts:=by simp[frames]
theorem tg (a b:List Nm):frames (a++b)=frames a++frames b:=by simp[frames]
theorem zV (t:Nm):frames [t]=cM t:=by simp[frames]
theorem oH (ts:List Nm):(frames ts).length=bK ts:=by
 induction ts with
 |nil=>rfl
 |cons t ts ih=>rw[n_,cr,dD,ih];simp[bK]
theorem og (a b:List Nm):bK (a++b)=bK a+bK b:=by simp[bK]
theorem Ni {n:Nat}(h:n<16777216)(r:Nm):n3 (EX n++r)=n:=by
 simp[n3,EX];omega
theorem Nj (s:Nm)(h:3≤s.length):EX (n3 s)=s.take 3:=by
 match s,h with
 |a::b::c::r,_=>
  simp only[n3,EX,Na,List.getD_cons_succ,RM,E3,List.cons.injEq,and_true];have d:=a.toNat_lt;have hb:=b.toNat_lt;have hc:=c.toNat_lt;refine⟨?_,?_,?_⟩
  ·apply tU.1;rw[mZ];omega
  ·apply tU.1;rw[mZ];omega
  ·apply tU.1;rw[mZ];omega
theorem uS (t r:Nm)(h:t.length≤65536):eB (cM t++r)=some t:=by
 have hn:n3 (cM t++r)=t.length:=by
  unfold cM;rw[eY,eY];exact Ni (by omega) _
 have hl:(cM t++r).length=t.length+7+r.length:=(by rw[cr,dD]);unfold eB;rw[hn,hl,fC (by omega),fC (by omega),fC (by omega)];have a:(cM t++r).take (3+t.length)=EX t.length++t:=by
  unfold cM;rw[eY,nX (by simp[jZ])]
 have b:(cM t++r).drop (3+t.length)=EY (pT (EX t.length++t))++r:=by
  unfold cM;rw[eY,qV (by simp[jZ])]
 have c:((cM t++r).drop 3).take t.length=t:=by
  unfold cM;rw[eY,eY,qV (jZ _),nX rfl]
 rw[a,b,c,nX (ud _),dM rfl]
theorem lQ {s t:Nm}(h:eB s=some t):t.length≤65536∧∃r,s=cM t++r:=by
 unfold eB at h
 split at h
 ·cases h
 rename_i c
 split at h
 ·cases h
 rename_i d
 split at h
 ·cases h
 rename_i f
 split at h
 ·rename_i a
  simp only[Option.some.injEq]at h;have hl:t.length=n3 s:=(by rw[←h,fB,jQ];omega);refine⟨by omega,s.drop (7+n3 s),?_⟩;have b:EX t.length++t=s.take (3+n3 s):=by
   rw[hl,Nj s (by omega), ←h,List.take_add]
  unfold cM;rw[b,a,eY];have e:(s.drop (3+n3 s)).take 4++s.drop (7+n3 s)=s.drop (3+n3 s):=by
   have:s.drop (7+n3 s)=(s.drop (3+n3 s)).drop 4:=(by rw[List.drop_drop];congr 1;omega);rw[this,jN]
  rw[e,jN]
 ·cases h
theorem xZ:∀(k m:Nat) (s:Nm),s.length≤k→s.length≤m→Im k s=Im m s
 |0,0,_,_,_=>rfl
 |0,m+1,s,h,_=>by
  have:s= []:=qA (by omega);subst this;rfl
 |k+1,0,s,_,h=>by
  have:s= []:=qA (by omega);subst this;rfl
 |k+1,m+1,s,b,c=>by
  unfold Im;cases hf:eB s with
  |none=>rfl
  |some t=>
   obtain⟨_,r,a⟩:=lQ hf;have hs:s.length=t.length+7+r.length:=(by rw[a,cr,dD]);dsimp only;rw[xZ k m (s.drop (t.length+7)) (by rw[jQ];omega) (by rw[jQ];omega)]
theorem pV {s:Nm}(h:eB s=none):parse s= []:=by
 unfold parse;cases hs:s.length with
 |zero=>rfl
 |succ k=>unfold Im;rw[h]
theorem zW {s t:Nm}(h:eB s=some t):parse s=t::parse (s.drop (t.length+7)):=by
 obtain⟨_,r,a⟩:=lQ h;have hs:s.length=t.length+7+r.length:=(by rw[a,cr,dD]);unfold parse;cases hl:s.length with
 |zero=>omega
 |succ k=>
  rw[Im,h];dsimp only;rw[xZ k (s.drop (t.length+7)).length (s.drop (t.length+7)) (by rw[jQ];omega) (bM _)]
theorem zX (t r:Nm)(h:t.length≤65536):parse (cM t++r)=t::parse r:=by
 rw[zW (uS t r h),qV (dD t)]
theorem uT:∀(ts:List Nm) (r:Nm),(∀t∈ts,t.length≤65536)→parse (frames ts++r)=ts++parse r
 | [],_,_=>rfl
 |t::ts,r,h=>by
  rw[n_,eY,zX _ _ (h t (by simp)),uT ts r (fun x a=>h x (by simp[a]))];rfl
theorem K9 (ts:List Nm)(h:∀t∈ts,t.length≤65536):parse (frames ts)=ts:=by
 have:=uT ts [] h;rw[kE]at this;rw[this,pV (by rfl),kE]
theorem x5 (s:Nm):∃r,s=frames (parse s)++r∧eB r=none∧∀t∈parse s,t.length≤65536:=by
 suffices h:∀(k:Nat) (s:Nm),s.length≤k→∃r,s=frames (parse s)++r∧eB r=none∧∀t∈parse s,t.length≤65536 from h s.length s (bM _)
 intro k;induction k with
 |zero=>
  intro s hs;have:s= []:=qA (by omega);subst this;exact⟨[],rfl,rfl,fun t a=>absurd a qU⟩
 |succ k ih=>
  intro s hs;cases hf:eB s with
  |none=>exact⟨s,by rw[pV hf];rfl,hf,by rw[pV hf];exact fun t a=>absurd a qU⟩
  |some t=>
   obtain⟨a,r,b⟩:=lQ hf;have hl:s.length=t.length+7+r.length:=(by rw[b,cr,dD]);obtain⟨r',d,e,f⟩:=ih r (by omega);have hp:parse s=t::parse r:=(by rw[b];exact zX t r a);refine⟨r',by rw[hp,n_,eY, ←d,b],e,?_⟩;rw[hp];intro x c;rcases q4.1 c with rfl|c
   ·exact a
   ·exact f x c
theorem zY (s:Nm):bK (parse s)≤s.length:=by
 obtain⟨r,h,_⟩:=x5 s;rw[←oH]
 conv=>rhs;rw[h]
 rw[cr];omega
end
section
open Go.Proofs.Tryz
open Go.WideAt Go.WideShapes
theorem uf {A B:Fs}{x:Nm×Fi}(h:dI (A++x::B)):(∀a∈A,bytesBefore a.1 x.1=true)∧(∀c∈B,bytesBefore x.1 c.1=true):=by
 unfold dI at h;rw[nV]at h;obtain⟨_,b,d⟩:=h;rw[RN]at b;exact⟨fun a e=>d a e x (by simp),fun c hc=>b.1 c hc⟩
theorem mU {a b:Nm}(h:bytesBefore a b=true):a≠b:=by
 rintro rfl;rw[bytes_irrefl]at h;cases h
theorem uU {a b:Nm}(h:bytesBefore a b=true):bytesBefore b a=false:=by
 cases hb:bytesBefore b a
 ·rfl
 ·have:=bytes_trans _ _ _ h hb;rw[bytes_irrefl]at this;cases this
theorem ru {A B:Fs}{n:Nm}{f:Fi}(h:dI (A++(n,f)::B)):eV (A++(n,f)::B) n=some f:=by
 obtain⟨b,_⟩:=uf h;unfold eV;rw[List.find?_append];have:A.find? (kY n)=none:=by
  rw[zG];intro a c
  simpa [kY]using mU (b a c)
 rw[this];simp[kY]
theorem Ff {A B:Fs}{n:Nm}{f:Fi}(h:dI (A++(n,f)::B)):kF (A++(n,f)::B) n=A++B:=by
 obtain⟨c,d⟩:=uf h;unfold kF;rw[List.filter_append,List.filter_cons];have e1:A.filter (fun p=>!kY n p)=A:=by
  rw[SQ];intro a b
  simpa [kY]using mU (c a b)
 have e2:B.filter (fun p=>!kY n p)=B:=by
  rw[SQ];intro a b;have:=mU (d a b)
  simpa [kY]using fun e=>this e.symm
 rw[e1,e2];simp[kY]
theorem zZ {n:Nm}{f:Fi}{B:Fs}(d:∀c∈B,bytesBefore n c.1=true):∀ {A:Fs},(∀a∈A,bytesBefore a.1 n=true)→yZ (n,f) (A++B)=A++(n,f)::B
 | [],_=>by
   cases B with
   |nil=>rfl
   |cons c B=>
    have:=d c (by simp);simp[yZ,this]
 |a::A,b=>by
  have h:=uU (b a (by simp));have ih:=zZ (f:=f) d (A:=A) (fun x e=>b x (by simp[e]));simp only[nA,yZ,h,T6,if_false,ih]
theorem rz {A B:Fs}{n:Nm}{f g:Fi}(h:dI (A++(n,f)::B)):gN (A++(n,f)::B) n g=A++(n,g)::B:=by
 obtain⟨a,b⟩:=uf h;unfold gN;rw[Ff h];exact zZ b a
theorem CB {fs:Fs}(h:dI fs){n:Nm}(b:eV fs n=none):∃A B,fs=A++B∧(∀a∈A,bytesBefore a.1 n=true)∧(∀c∈B,bytesBefore n c.1=true):=by
 induction fs with
 |nil=>exact⟨[],[],rfl,by simp,by simp⟩
 |cons x r ih=>
  have j:x.1≠n:=by
   intro e;unfold eV at b;simp at b;have:=b.1;simp[kY,e]at this
  have i:eV r n=none:=by
   unfold eV at b⊢;simp at b⊢;exact b.2
  unfold dI at h;rw[RN]at h;rcases bytes_total x.1 n j with hb|hb
  ·obtain⟨A,B,rfl,f,g⟩:=ih h.2 i;exact⟨x::A,B,rfl,fun a d=>by
    rcases q4.1 d with rfl|d
    ·exact hb
    ·exact f a d,g⟩
  ·exact⟨[],x::r,rfl,by simp,fun c hc=>by
    rcases q4.1 hc with rfl|hc
    ·exact hb
    ·exact bytes_trans _ _ _ hb (h.1 c hc)⟩
theorem rA {A B:Fs}{n:Nm}{f:Fi}(d:∀a∈A,bytesBefore a.1 n=true)(g:∀c∈B,bytesBefore n c.1=true):gN (A++B) n f=A++(n,f)::B:=by
 have h:eV (A++B) n=none:=by
  unfold eV;simp;refine⟨fun a x b=>?_,fun a x b=>?_⟩
  ·simpa [kY]using mU (d _ b)
  ·have:=mU (g _ b)
   simpa [kY]using fun e=>this e.symm
 unfold gN;rw[Cy h];exact zZ g d
def ug (keep:Int)(f:Fi):Nat:=f.k+(max 0 (min keep ((f.s.size:Int)-f.k))).toNat
def xj (keep:Int)(f:Fi):Fi:=⟨f.s.extract 0 (ug keep f),ug keep f⟩
def j7 (keep:Int)(p:Nm×Fi):Nm×Fi:=(p.1,xj keep p.2)
theorem CD (keep:Int){f:Fi}(h:f.k≤f.s.size):ug keep f≤f.s.size:=by unfold ug;omega
theorem K_ (keep:Int){f:Fi}(h:nB f):nB (xj keep f):=by
 have b:=CD keep h.2;have a:(xj keep f).s.size=ug keep f:=(by simp[xj];omega);refine⟨?_,?_⟩
 ·rw[a];exact aU b h.1
 ·rw[a];exact bM _
theorem uV (keep:Int)(fs:Fs)(k:Nat)(a:k≤fs.length):((fs.take k).map (j7 keep)++fs.drop k).length=fs.length:=by simp;omega
theorem Fg (keep:Int)(fs:Fs)(k:Nat):((fs.take k).map (j7 keep)++fs.drop k).map (·.1)=fs.map (·.1):=by
 rw[fI,nY];have:((fun x:Nm×Fi=>x.1)∘j7 keep)=fun x=>x.1:=rfl;rw[this, ←fI,jN]
theorem uW {fs gs:Fs}(h:fs.map (·.1)=gs.map (·.1))(d:dI fs):dI gs:=by
 have c:(fs.map (·.1)).Pairwise (fun a b=>bytesBefore a b=true):=(by rw[zI];exact d);rw[h,zI]at c;exact c
theorem Io (keep:Int){fs:Fs}(c:dI fs)(k:Nat)(b:k<fs.length):
 eV ((fs.take k).map (j7 keep)++fs.drop k) fs[k].1=some fs[k].2∧gN ((fs.take k).map (j7 keep)++fs.drop k) fs[k].1 (xj keep fs[k].2)=(fs.take (k+1)).map (j7 keep)++fs.drop (k+1):=by
 have a:dI ((fs.take k).map (j7 keep)++fs.drop k):=uW (Fg keep fs k).symm c;have e:(fs.take k).map (j7 keep)++fs.drop k=(fs.take k).map (j7 keep)++(fs[k].1,fs[k].2)::fs.drop (k+1):=(by rw[mX b]);rw[e]at a⊢;refine⟨ru a,?_⟩;rw[rz a,iK b,fI,eY];rfl
end
section
open Go.Proofs.Tryz
open Go.RowKit
def gP (fs:Fs)(n:ByteArray):Fi×Int:=
 bif decide ((n.size:Int)<1)then(Fi.none,1)else bif decide ((32:Int)<(n.size:Int))then(Fi.none,1)else
  match eV fs n.data.toList with
  |some f=>(f,0)
  |none=>(Fi.none,6)
def cu (fs:Fs)(dead:Bool)(n:ByteArray):Fi×Int:=bif (gP fs n).2 !=1&&dead then(Fi.none,12)else gP fs n
theorem oh (fs:Fs)(n:ByteArray):(gP fs n=(Fi.none,1))∨(gP fs n=(Fi.none,6)∧eV fs n.data.toList=none∧1≤n.size∧n.size≤32)∨∃f,gP fs n=(f,0)∧eV fs n.data.toList=some f∧1≤n.size∧n.size≤32:=by
 unfold gP;cases a:decide ((n.size:Int)<1)
 ·cases b:decide ((32:Int)<(n.size:Int))
  ·have e1:=wQ a;have e2:=wQ b;cases c:eV fs n.data.toList with
   |none=>exact .inr (.inl ⟨rfl,rfl,by omega,by omega⟩)
   |some f=>exact .inr (.inr ⟨f,rfl,rfl,by omega,by omega⟩)
  ·exact .inl rfl
 ·exact .inl rfl
abbrev dP (p:Nat):Value:= .pointer (some ⟨p,0,none⟩)
section
variable {w:World}{p b:Nat}{fs:Fs}{room:Int}{dead:Bool}
theorem Qk (w:World):Calls prog 17 #[] w fun e w'=>e= .returned (dP (w.heap.size+1))∧bu w' (w.heap.size+1) w.heap.size [] 4611686018427387904 false∧ah No w w':=by
 have a:= @run_makeMap prog;(go_enter func17,ntmps17);go_wp2;go_ret;refine⟨rfl,⟨?_,?_,by simp,by simp,by simp,by omega,by omega⟩,((aA (S:=No) w).alloc _).alloc _⟩
 ·have:=bT (w.alloc (.map #[] 0)) (.cells #[.map (some w.heap.size),qI 4611686018427387904,.bool false] 121)
  simpa using this
 ·exact oV (S:=No) (World.ownsMap_made (H:=Unit) w prog 9 cL) ((aA _).alloc _) (fun h=>h)
theorem rB (hd:bu w p b fs room dead)(n:ByteArray)(k:Fi)(ec:Int)(a:gP fs n=(k,ec)):Calls prog 99 #[dP p,.string n] w (qG w (.tuple #[fV k,qI ec])):=by
 have c0:=hd.cell0;have lp:=hd.lt.1;have c:=af hd.own;unfold gP at a;cases g:decide ((n.size:Int)<1)
 ·cases i:decide ((32:Int)<(n.size:Int))
  ·have hn:n.size≤maxLen:=by
    have:=wQ i;unfold maxLen;omega
   have j:=af hn;clear hn;rw[g,i,aN,aN]at a;cases d:eV fs n.data.toList with
   |none=>
    rw[d]at a;simp only[Prod.mk.injEq]at a;have e:=af d;clear d;obtain⟨rfl,rfl⟩:=a;(go_enter func99,ntmps99);(go_wp2_with (at_lookup;refine uR rfl _ _ rfl (oV c.o ((aA (S:=No) w).alloc _) (fun h=>h)) rfl n rfl j.o e.o ?_));go_wp2;refine aY (v:= .tuple #[fV Fi.none,qI 6]) ?_ rfl ⟨rfl,((aA (S:=No) w).alloc _).alloc _⟩;simp[results,results99,go_sem, *]
   |some f=>
    rw[d]at a;simp only[Prod.mk.injEq]at a;have e:=af d;clear d;obtain⟨rfl,rfl⟩:=a;(go_enter func99,ntmps99);(go_wp2_with (at_lookup;refine uQ rfl _ _ rfl (oV c.o ((aA (S:=No) w).alloc _) (fun h=>h)) rfl n rfl j.o f e.o ?_));go_wp2;refine aY (v:= .tuple #[fV f,qI 0]) ?_ rfl ⟨rfl,((aA (S:=No) w).alloc _).alloc _⟩;simp[results,results99,go_sem, *]
  ·rw[g,i,aN,bH]at a;simp only[Prod.mk.injEq]at a;obtain⟨rfl,rfl⟩:=a;(go_enter func99,ntmps99);go_wp2;refine aY (v:= .tuple #[fV Fi.none,qI 1]) ?_ rfl ⟨rfl,(aA (S:=No) w).alloc _⟩;simp[results,results99,go_sem, *]
 ·rw[g,bH]at a;simp only[Prod.mk.injEq]at a;obtain⟨rfl,rfl⟩:=a;(go_enter func99,ntmps99);go_wp2;refine aY (v:= .tuple #[fV Fi.none,qI 1]) ?_ rfl ⟨rfl,(aA (S:=No) w).alloc _⟩;simp[results,results99,go_sem, *]
theorem iD (hd:bu w p b fs room dead)(n:ByteArray)(j:Fi)(ec:Int)(c:cu fs dead n=(j,ec)):Calls prog 164 #[dP p,.string n] w (qG w (.tuple #[fV j,qI ec])):=by
 obtain⟨⟨f1,e1⟩,i⟩:∃x,gP fs n=x:=⟨_,rfl⟩;unfold cu at c;rw[i]at c;have g:=af i;have d:=af hd;clear hd i;cases k:(e1 !=1)
 ·rw[k,iL,aN]at c;simp only[Prod.mk.injEq]at c;obtain⟨rfl,rfl⟩:=c;(go_enter func164,ntmps164);(go_wp2_with fail);refine(rB (d.o.kept ((aA (S:=No) w).alloc _) (fun h=>h) (fun h=>h)) n _ _ g.o).mono ?_;rintro e w1 ⟨rfl,a⟩;have m:ai w1 w.heap.size 0 2=some [.string ⟨#[]⟩,qI 0]:=a.ai (by simp[go_sem]);have l:Open w1 w.heap.size:=a.opened (by simp[go_sem]);have n1:(aL w1 w.heap.size).size=2:=a.iu (by simp[go_sem]) (by simp[go_sem]);have l1:w.heap.size<w1.heap.size:=(by have:=a.size;simp at this;omega);have f:=af a;clear a;go_wp2;refine aY (v:= .tuple #[fV f1,qI e1]) ?_ rfl ⟨rfl,(((((aA (S:=No) w).alloc _).aK f.o).row (bM _) _).alloc _)⟩;simp[results,results164,go_sem, *]
 ·rw[k,mF]at c;cases dead
  ·rw[aN]at c;simp only[Prod.mk.injEq]at c;obtain⟨rfl,rfl⟩:=c;(go_enter func164,ntmps164);(go_wp2_with fail);refine(rB (d.o.kept ((aA (S:=No) w).alloc _) (fun h=>h) (fun h=>h)) n _ _ g.o).mono ?_;rintro e w1 ⟨rfl,a⟩;have l:Open w1 w.heap.size:=a.opened (by simp[go_sem]);have n1:(aL w1 w.heap.size).size=2:=a.iu (by simp[go_sem]) (by simp[go_sem]);have l1:w.heap.size<w1.heap.size:=(by have:=a.size;simp at this;omega);have d1:=(d.o.kept (((aA (S:=No) w).alloc _).aK a) (fun h=>h) (fun h=>h));have c2:=d1.uP;have l2:=d1.lt.1;have f:=af a;clear a d1;go_wp2;refine aY (v:= .tuple #[fV f1,qI e1]) ?_ rfl ⟨rfl,(((((aA (S:=No) w).alloc _).aK f.o).row (bM _) _).alloc _)⟩;simp[results,results164,go_sem, *]
  ·rw[bH]at c;simp only[Prod.mk.injEq]at c;obtain⟨rfl,rfl⟩:=c;(go_enter func164,ntmps164);(go_wp2_with fail);refine(rB (d.o.kept ((aA (S:=No) w).alloc _) (fun h=>h) (fun h=>h)) n _ _ g.o).mono ?_;rintro e w1 ⟨rfl,a⟩;have l:Open w1 w.heap.size:=a.opened (by simp[go_sem]);have n1:(aL w1 w.heap.size).size=2:=a.iu (by simp[go_sem]) (by simp[go_sem]);have l1:w.heap.size<w1.heap.size:=(by have:=a.size;simp at this;omega);have d1:=(d.o.kept (((aA (S:=No) w).alloc _).aK a) (fun h=>h) (fun h=>h));have c2:=d1.uP;have l2:=d1.lt.1;have f:=af a;clear a d1;go_wp2;refine aY (v:= .tuple #[fV Fi.none,qI 12]) ?_ rfl ⟨rfl,(((((aA (S:=No) w).alloc _).aK f.o).row (bM _) _).alloc _)⟩;simp[results,results164,go_sem, *]
theorem z6 (hd:bu w p b fs room dead)(n:ByteArray)(c:Fi)(ec:Int)(g:gP fs n=(c,ec)):Calls prog 32 #[dP p,.string n] w (qG w (.tuple #[.string c.s,qI ec])):=by
 have d:=af hd;clear hd;(go_enter func32,ntmps32);(go_wp2_with fail);refine(rB d.o n _ _ g).mono ?_;rintro e w1 ⟨rfl,a⟩;have f:=af a;clear a;go_wp2;refine aY (v:= .tuple #[.string c.s,qI ec]) ?_ rfl ⟨rfl,f.o.alloc _⟩;simp[results,results32,go_sem, *]
theorem Fh (hd:bu w p b fs room dead)(n:ByteArray)(a:Fi)(ec:Int)(g:gP fs n=(a,ec)):Calls prog 106 #[dP p,.string n] w (qG w (.tuple #[qI a.s.size,qI a.k,qI ec])):=by
 have d:=af hd;clear hd;(go_enter func106,ntmps106);(go_wp2_with fail);refine(rB d.o n _ _ g).mono ?_;rintro e w1 ⟨rfl,c⟩;have f:=af c;clear c;go_wp2_with fail
 go_region
 all_goals
  go_wp2;refine aY (v:= .tuple #[qI a.s.size,qI a.k,qI ec]) ?_ rfl ⟨rfl,(f.o.alloc _).drew⟩;simp[results,results106,go_sem, *]
end
def Two (p b:Nat):Nat→Prop:=fun i=>i=p∨i=b
abbrev kg (f:Fi)(s:ByteArray):Fi:=⟨f.s++s,f.k⟩
section
variable {w:World}{p b:Nat}{fs:Fs}{room:Int}{dead:Bool}
theorem om (fs:Fs)(dead:Bool)(n:ByteArray):cu fs dead n=(Fi.none,1)∨(dead=true∧cu fs dead n=(Fi.none,12)∧1≤n.size∧n.size≤32)∨(dead=false∧cu fs dead n=(Fi.none,6)∧eV fs n.data.toList=none∧1≤n.size∧n.size≤32)∨∃f,dead=false∧cu fs dead n=(f,0)∧eV fs n.data.toList=some f∧1≤n.size∧n.size≤32:=by
 unfold cu;rcases oh fs n with h|⟨h,c,a,b⟩|⟨f,h,c,a,b⟩
 ·rw[h];exact .inl rfl
 ·rw[h];cases dead
  ·exact .inr (.inr (.inl ⟨rfl,rfl,c,a,b⟩))
  ·exact .inr (.inl ⟨rfl,rfl,a,b⟩)
 ·rw[h];cases dead
  ·exact .inr (.inr (.inr ⟨f,rfl,rfl,c,a,b⟩))
  ·exact .inr (.inl ⟨rfl,rfl,a,b⟩)
theorem bu.turned {w':World}{a:Fs}(h:bu w p b fs room dead)(g:ah (Own b) w w')(i:w'.ownsMap prog 9 cL b a.length (tf a))(c:a.length≤64)(f:∀x∈a,nB x.2)(d:∀x∈a,x.1.length≤32):bu w' p b a room dead:=
 ⟨g.heap h.cells (fun e=>h.ne e),i,c,f,d,h.r0,h.r1⟩
theorem bu.uX (h:bu w p b fs room dead){n:ByteArray}{f:Fi}(hn:n.size≤32)(hf:nB f):(∀x∈gN fs n.data.toList f,nB x.2)∧∀x∈gN fs n.data.toList f,x.1.length≤32:=by
 refine⟨fun x a=>?_,fun x a=>?_⟩
 ·rcases E_ a with rfl|a
  ·exact hf
  ·exact h.ok x a
 ·rcases E_ a with rfl|a
  ·simpa using hn
  ·exact h.nm x a
theorem bu.Ql (h:bu w p b fs room dead)(n:Nm):(∀x∈kF fs n,nB x.2)∧∀x∈kF fs n,x.1.length≤32:=
 ⟨fun x a=>h.ok x (wZ.1 a).1,fun x a=>h.nm x (wZ.1 a).1⟩
theorem z7 (hd:bu w p b fs room dead)(n:ByteArray)(f:Fi)(ec:Int)(g:cu fs dead n=(f,ec))(he:(ec==0)=false):Calls prog 88 #[dP p,.string n] w (qG w (qI ec)):=by
 have c:=af hd;clear hd;(go_enter func88,ntmps88);(go_wp2_with fail);refine(iD c.o n _ _ g).mono ?_;rintro e w1 ⟨rfl,a⟩;have d:=af a;clear a;go_wp2;go_ret;exact⟨rfl,d.o.alloc _⟩
theorem Qm (hd:bu w p b fs room dead)(n:ByteArray)(f:Fi)(y:cu fs dead n=(f,0))(l:eV fs n.data.toList=some f)(hn:n.size≤32):Calls prog 88 #[dP p,.string n] w fun e w'=>e= .returned (qI 0)∧bu w' p b (gN fs n.data.toList ⟨f.s,f.s.size⟩) room dead∧ah (Own b) w w':=by
 have m:=af hd;have t:=af hn;have i:=af (hd.uX hn (f:=⟨f.s,f.s.size⟩) ⟨(hd.zR l).1,bM _⟩);have g:=af (kZ (f:=⟨f.s,f.s.size⟩) l);clear hd hn l;(go_enter func88,ntmps88);(go_wp2_with fail);refine(iD m.o n _ _ y).mono ?_;rintro e w1 ⟨rfl,a⟩;have k:=af (m.o.kept a (fun h=>h) (fun h=>h));have c0:=k.o.cell0;have l1:=k.o.lt.1;have u:=af a;clear a;go_wp2;refine au ?_;intro W hW;have q:aj (ah No w1 W):=(by rw[hW];exact(aA (S:=No) w1).alloc _);have d:aj (bu W p b fs room dead):=k.o.kept q.o (fun h=>h) (fun h=>h);have z:ai W w1.heap.size 0 2=some [.string f.s,qI f.s.size]:=(by rw[hW];simp[go_sem]);have x:=d.o.cell0;clear hW c0 l1
 go_still_tail 6,(by kernel_rfl)
 change wpList _ _ _ _ _ (World.drew _)
 refine iC rfl (.tmp 22) (.tmp 23) (.tmp 24) rfl d.o.drew.own d.o.few rfl n rfl (aU t.o (by unfold maxLen;omega)) ⟨f.s,f.s.size⟩ rfl ?_;intro w2 j c;have r:=af (d.o.drew.turned c j (aU g.o d.o.few) i.o.1 i.o.2);have v:=af ((((u.o.aK q.o).mono (T:=Own b) (fun _ _ h=>h.elim)).drew).aK c);clear j c;go_wp2;go_ret;exact⟨rfl,r.o,v.o⟩
theorem ze (h:bu w p b fs room dead):(Builtin.len_ #[119] 3 #[.map (some b)]).run prog w= .ok (qI fs.length) w:=by
 have:=h.own.len underlying119 3;rw[zP]at this;exact this
theorem aB {w:World}{p i:Nat}{cs:Array Value}{t:TypeId}(h:w.heap[p]?=some (.cells cs t (0,0)))(v:Value):(w.setCell ⟨p,i,none⟩ v).heap[p]?=some (.cells (cs.setIfInBounds i v) t (0,0)):=by
 have hp:=(bX.1 h).1;simp[World.setCell,w6,h]
theorem bu.su (h:bu w p b fs room dead)(r:Int)(h0:0≤r)(a:r≤9223372036854775807):bu (w.setCell ⟨p,1,none⟩ (qI r)) p b fs r dead:=
 ⟨aB h.cells _,oV h.own ((aA (S:=Own p) w).setCell (p:=⟨p,1,none⟩) (fun _=>(rfl:p=p)) _) (fun e=>h.ne (Eq.symm e)),h.few,h.ok,h.nm,h0,a⟩
theorem bu.zh (h:bu w p b fs room dead)(d:Bool):bu (w.setCell ⟨p,2,none⟩ (.bool d)) p b fs room d:=
 ⟨aB h.cells _,oV h.own ((aA (S:=Own p) w).setCell (p:=⟨p,2,none⟩) (fun _=>(rfl:p=p)) _) (fun e=>h.ne (Eq.symm e)),h.few,h.ok,h.nm,h.r0,h.r1⟩
theorem z8 (hd:bu w p b fs room false)(n s:ByteArray)(f:Fi)(ec:Int)(Q:cu fs false n=(f,ec))(B:ec=0∨ec=6∧fs.length<64)(hn:n.size≤32)(hf:nB f)(G:(f.s.size:Int)+s.size≤4194304)(Y:(s.size:Int)≤room)
 (q:(gN fs n.data.toList (kg f s)).length≤64):
 Calls prog 82 #[dP p,.string n,.string s] w fun e w'=>e= .returned (qI 0)∧bu w' p b (gN fs n.data.toList (kg f s)) (room-s.size) false∧ah (Two p b) w w':=by
 have H:=af hd;have L:=af hn;have C:=hf.1;have E:=hd.r0;have F:=hd.r1;have hw:IntKind.i64.wrap (4194304-(f.s.size:Int))=4194304-(f.s.size:Int):=(by rw[cI];omega);have V:IntKind.i64.wrap (room-(s.size:Int))=room-(s.size:Int):=(by rw[cI];omega);have Z:decide (4194304-(f.s.size:Int)<(s.size:Int))=false:=aJ (by omega);have ak:(f.s++s).size=f.s.size+s.size:=(by simp);have l:=af (hd.uX hn (f:=kg f s) ⟨by show(f.s++s).size≤_;omega,by have:=hf.2;show f.k≤(f.s++s).size;omega⟩);have m:aj (0≤room-(s.size:Int)∧room-(s.size:Int)≤9223372036854775807):=by constructor<;>omega
 have x:=af q;have U:(0:Int)≤(s.size:Int):=(by omega);have hex:s.extract 0 s.size=s:=(by simp);have J:∀W:World,(Op.stringOp .add f.s s).run prog W= .ok (.string (f.s++s)) W:=fun W=>kD W _ _ (by omega);have D:decide ((s.size:Int)<(s.size:Int))=false:=aJ (by omega);clear hd hn C E F hf q;rcases B with rfl|⟨rfl,hlen⟩
 all_goals
  try have R:decide ((64:Int)≤(fs.length:Int))=false:=aJ (by omega)
  try clear hlen
  (go_enter func82,ntmps82);(go_wp2_with fail);refine(iD H.o n _ _ Q).mono ?_;rintro e w1 ⟨rfl,c⟩;have g:=af (H.o.kept c (fun h=>h) (fun h=>h));have c0:=g.o.cell0;have c1:=g.o.iM;have l1:=g.o.lt.1;have M:=af c;clear c;have hl:=fun ob=>ze (g.o.kept ((aA (S:=No) w1).alloc ob) (fun h=>h) (fun h=>h));go_wp2;refine au ?_;intro W hW;have y:aj (ah No w1 W):=(by rw[hW];exact(aA (S:=No) w1).alloc _);have K:aj (bu W p b fs room false):=g.o.kept y.o (fun h=>h) (fun h=>h);have v:W.heap[w1.heap.size]?=some (.cells #[.string f.s,qI f.k] 133 (0,0)):=(by rw[hW];exact bT _ _);have O:W.cell? ⟨w1.heap.size,0,none⟩=some (.string f.s):=(by simp[World.cell?,v]);have P:W.frozen? ⟨w1.heap.size,0,none⟩=false:=bF W w1.heap.size 0 _ _ v;clear hW c0 l1 c1 hl
  go_still_tail 7,(by kernel_rfl)
  change wpList _ _ _ _ _ (World.drew _)
  go_wp2;refine au ?_;intro u a;have I:aj (ah No w1 u):=(by rw[a];exact(y.o.drew).setCell (p:=⟨w1.heap.size,0,none⟩) (fun h=>absurd h (M_ _)) _);have t:aj (bu u p b fs room false):=g.o.kept I.o (fun h=>h) (fun h=>h);have A:ai u w1.heap.size 0 2=some [.string (f.s++s),qI f.k]:=by
   have h:u.heap[w1.heap.size]?=some (.cells #[.string (f.s++s),qI f.k] 133 (0,0)):=(by rw[a];exact aB (w:=W) (i:=0) v (.string (f.s++s)));unfold ai;rw[h];rfl
  have z:=t.o.cell0;clear a v O P y K
  go_still_tail 6,(by kernel_rfl)
  change wpList _ _ _ _ _ (World.drew _)
  refine iC rfl (.tmp 57) (.tmp 58) (.tmp 59) rfl t.o.drew.own t.o.few rfl n rfl (aU L.o (by unfold maxLen;omega)) (kg f (s)) rfl ?_;intro X r d;have j:=af (t.o.drew.turned d r x.o l.o.1 l.o.2);have N:aj (ah (Two p b) w X):=(((M.o.aK I.o).mono (T:=Two p b) (fun _ _ h=>h.elim)).drew).trans d (fun _ _ h=> .inr h);have c1:=j.o.iM;have f1:=j.o.opened.frozen 1;have f2:=j.o.opened.frozen 2;have c2:=j.o.uP;clear r d A z;go_wp2;go_ret;exact⟨rfl,j.o.su _ m.o.1 m.o.2,N.o.setCell (p:=⟨p,1,none⟩) (fun _=> .inl rfl) _⟩
theorem x6 {M:Nat}(hd:bu w p b fs M false)(n s:ByteArray)(f:Fi)(ec:Int)(P:cu fs false n=(f,ec))(B:ec=0∨ec=6∧fs.length<64)(hn:n.size≤32)(hf:nB f)(E:(f.s.size:Int)+s.size≤4194304)(Q:(M:Int)<(s.size:Int))
 (m:(gN fs n.data.toList (kg f (s.extract 0 M))).length≤64):
 Calls prog 82 #[dP p,.string n,.string s] w fun e w'=>e= .returned (qI 12)∧bu w' p b (gN fs n.data.toList (kg f (s.extract 0 M))) 0 true∧ah (Two p b) w w':=by
 have F:=af hd;have J:=af hn;have C:=hf.1;have hw:IntKind.i64.wrap (4194304-(f.s.size:Int))=4194304-(f.s.size:Int):=(by rw[cI];omega);have X:IntKind.i64.wrap ((M:Int)-(M:Int))=0:=(by rw[Int.sub_self];rfl);have ak:decide (4194304-(f.s.size:Int)<(s.size:Int))=false:=aJ (by omega);have r:(s.extract 0 M).size=M:=(by simp;omega);have Y:(f.s++s.extract 0 M).size=f.s.size+M:=(by rw[qB,r]);have l:=af (hd.uX hn (f:=kg f (s.extract 0 M)) ⟨by show(f.s++s.extract 0 M).size≤_;omega,by have:=hf.2;show f.k≤(f.s++s.extract 0 M).size;omega⟩);have x:=af m;have U:(0:Int)≤(M:Int):=(by omega);have V:(M:Int)≤(s.size:Int):=(by omega);have H:∀W:World,(Op.stringOp .add f.s (s.extract 0 M)).run prog W= .ok (.string (f.s++s.extract 0 M)) W:=fun W=>kD W _ _ (by omega);have D:decide ((M:Int)<(s.size:Int))=true:=aM Q;clear hd hn C hf m Y r;rcases B with rfl|⟨rfl,hlen⟩
 all_goals
  try have R:decide ((64:Int)≤(fs.length:Int))=false:=aJ (by omega)
  try clear hlen
  (go_enter func82,ntmps82);(go_wp2_with fail);refine(iD F.o n _ _ P).mono ?_;rintro e w1 ⟨rfl,c⟩;have g:=af (F.o.kept c (fun h=>h) (fun h=>h));have c0:=g.o.cell0;have c1:=g.o.iM;have l1:=g.o.lt.1;have K:=af c;clear c;have hl:=fun ob=>ze (g.o.kept ((aA (S:=No) w1).alloc ob) (fun h=>h) (fun h=>h));go_wp2;refine au ?_;intro W hW;have y:aj (ah No w1 W):=(by rw[hW];exact(aA (S:=No) w1).alloc _);have I:aj (bu W p b fs M false):=g.o.kept y.o (fun h=>h) (fun h=>h);have v:W.heap[w1.heap.size]?=some (.cells #[.string f.s,qI f.k] 133 (0,0)):=(by rw[hW];exact bT _ _);have N:W.cell? ⟨w1.heap.size,0,none⟩=some (.string f.s):=(by simp[World.cell?,v]);have O:W.frozen? ⟨w1.heap.size,0,none⟩=false:=bF W w1.heap.size 0 _ _ v;clear hW c0 l1 c1 hl
  go_still_tail 7,(by kernel_rfl)
  change wpList _ _ _ _ _ (World.drew _)
  go_wp2;refine au ?_;intro u a;have G:aj (ah No w1 u):=(by rw[a];exact(y.o.drew).setCell (p:=⟨w1.heap.size,0,none⟩) (fun h=>absurd h (M_ _)) _);have t:aj (bu u p b fs M false):=g.o.kept G.o (fun h=>h) (fun h=>h);have A:ai u w1.heap.size 0 2=some [.string (f.s++s.extract 0 M),qI f.k]:=by
   have h:u.heap[w1.heap.size]?=some (.cells #[.string (f.s++s.extract 0 M),qI f.k] 133 (0,0)):=(by rw[a];exact aB (w:=W) (i:=0) v (.string (f.s++s.extract 0 M)));unfold ai;rw[h];rfl
  have z:=t.o.cell0;clear a v N O y I
  go_still_tail 6,(by kernel_rfl)
  change wpList _ _ _ _ _ (World.drew _)
  refine iC rfl (.tmp 57) (.tmp 58) (.tmp 59) rfl t.o.drew.own t.o.few rfl n rfl (aU J.o (by unfold maxLen;omega)) (kg f (s.extract 0 M)) rfl ?_;intro Z q d;have j:=af (t.o.drew.turned d q x.o l.o.1 l.o.2);have L:aj (ah (Two p b) w Z):=(((K.o.aK G.o).mono (T:=Two p b) (fun _ _ h=>h.elim)).drew).trans d (fun _ _ h=> .inr h);have c1:=j.o.iM;have f1:=j.o.opened.frozen 1;have f2:=j.o.opened.frozen 2;have c2:=j.o.uP;clear q d A z;go_wp2;go_ret;exact⟨rfl,(j.o.su 0 (by omega) (by omega)).zh true,(L.o.setCell (p:=⟨p,1,none⟩) (fun _=> .inl rfl) _).setCell (p:=⟨p,2,none⟩) (fun _=> .inl rfl) _⟩
end
section
variable {w:World}{p b:Nat}{fs:Fs}{room:Int}{dead:Bool}
theorem z_ (hd:bu w p b fs room dead)(n:ByteArray)(s:ByteArray)(f:Fi)(ec:Int)(g:cu fs dead n=(f,ec))(he:ec=1∨ec=12):Calls prog 82 #[dP p,.string n,.string s] w (qG w (qI ec)):=by
 have c:=af hd;clear hd;rcases he with rfl|rfl
 all_goals
  (go_enter func82,ntmps82);(go_wp2_with fail);refine(iD c.o n _ _ g).mono ?_;rintro e w1 ⟨rfl,a⟩;have d:=af a;clear a;go_wp2;go_ret;exact⟨rfl,d.o.alloc _⟩
theorem DN (hd:bu w p b fs room dead)(n:ByteArray)(s:ByteArray)(i:Fi)(ec:Int)(j:cu fs dead n=(i,ec))(he:ec=6)(d:64≤fs.length):Calls prog 82 #[dP p,.string n,.string s] w (qG w (qI 8)):=by
 have f:=af hd;clear hd;subst he;have k:decide ((64:Int)≤(fs.length:Int))=true:=aM (by omega);clear d;(go_enter func82,ntmps82);(go_wp2_with fail);refine(iD f.o n _ _ j).mono ?_;rintro e w1 ⟨rfl,a⟩;have c:=f.o.kept a (fun h=>h) (fun h=>h);have hl:=fun ob=>ze (c.kept ((aA (S:=No) w1).alloc ob) (fun h=>h) (fun h=>h));have c0:=c.cell0;have l1:=c.lt.1;clear c;have g:=af a;clear a;go_wp2;go_ret;exact⟨rfl,g.o.alloc _⟩
theorem uY (hd:bu w p b fs room dead)(n:ByteArray)(s:ByteArray)(c:Fi)(ec:Int)(k:cu fs dead n=(c,ec))(g:ec=0∨ec=6∧fs.length<64)(hf:c.s.size≤4194304)(d:4194304<(c.s.size:Int)+s.size):Calls prog 82 #[dP p,.string n,.string s] w (qG w (qI 8)):=by
 have i:=af hd;clear hd;have hw:IntKind.i64.wrap (4194304-(c.s.size:Int))=4194304-(c.s.size:Int):=(by rw[cI];omega);have m:decide (4194304-(c.s.size:Int)<(s.size:Int))=true:=aM (by omega);clear hf d;rcases g with rfl|⟨rfl,hlen⟩
 all_goals
  try have l:decide ((64:Int)≤(fs.length:Int))=false:=aJ (by omega)
  try clear hlen
  (go_enter func82,ntmps82);(go_wp2_with fail);refine(iD i.o n _ _ k).mono ?_;rintro e w1 ⟨rfl,a⟩;have f:=i.o.kept a (fun h=>h) (fun h=>h);have hl:=fun ob=>ze (f.kept ((aA (S:=No) w1).alloc ob) (fun h=>h) (fun h=>h));have c0:=f.cell0;have l1:=f.lt.1;clear f;have j:=af a;clear a;go_wp2;go_ret;exact⟨rfl,j.o.alloc _⟩
theorem pW (hd:bu w p b fs room dead)(n:ByteArray)(k:Int)(f:Fi)(ec:Int)(g:cu fs dead n=(f,ec))(he:(ec !=0)=true):Calls prog 85 #[dP p,.string n,qI k] w (qG w (qI ec)):=by
 have c:=af hd;clear hd;(go_enter func85,ntmps85);(go_wp2_with fail);refine(iD c.o n _ _ g).mono ?_;rintro e w1 ⟨rfl,a⟩;have d:=af a;clear a;go_wp2;go_ret;exact⟨rfl,d.o.alloc _⟩
theorem Aa (hd:bu w p b fs room dead)(n:ByteArray)(k:Int)(f:Fi)(ec:Int)(h:cu fs dead n=(f,ec))(he:ec=0)(c:k<0∨(f.s.size:Int)<k):Calls prog 85 #[dP p,.string n,qI k] w (qG w (qI 5)):=by
 have g:=af hd;clear hd;subst he;rcases c with c|c
 ·have i:decide (k<0)=true:=aM c;clear c;(go_enter func85,ntmps85);(go_wp2_with fail);refine(iD g.o n _ _ h).mono ?_;rintro e w1 ⟨rfl,a⟩;have d:=af a;clear a;go_wp2;go_ret;exact⟨rfl,d.o.alloc _⟩
 ·have i:decide (k<0)=false:=aJ (by omega);have j:decide ((f.s.size:Int)<k)=true:=aM c;clear c;(go_enter func85,ntmps85);(go_wp2_with fail);refine(iD g.o n _ _ h).mono ?_;rintro e w1 ⟨rfl,a⟩;have d:=af a;clear a;go_wp2;go_ret;exact⟨rfl,d.o.alloc _⟩
theorem Fj (hd:bu w p b fs room dead)(n:ByteArray)(f:Fi)(D:cu fs dead n=(f,0))(r:eV fs n.data.toList=some f)(hn:n.size≤32)(K:Nat)(hK:K≤f.s.size):Calls prog 85 #[dP p,.string n,qI K] w fun e w'=>e= .returned (qI 0)∧bu w' p b (gN fs n.data.toList ⟨f.s.extract 0 K,min f.k K⟩) room dead∧ah (Own b) w w':=by
 have u:=af hd;have z:=af hn;have t:(f.s.extract 0 K).size=K:=(by simp;omega);have c:=af (hd.uX hn (f:=⟨f.s.extract 0 K,min f.k K⟩) ⟨by show(f.s.extract 0 K).size≤_;have:=(hd.zR r).1;omega,by show min f.k K≤(f.s.extract 0 K).size;omega⟩);have a:=af (kZ (f:=⟨f.s.extract 0 K,min f.k K⟩) r);have H:decide ((K:Int)<0)=false:=aJ (by omega);have I:decide ((f.s.size:Int)<(K:Int))=false:=aJ (by omega);have L:(0:Int)≤(K:Int):=(by omega);have M:(K:Int)≤(f.s.size:Int):=(by omega);clear hd hn r t;obtain⟨J,x⟩:=ay (min f.k K);rw[←x]at c a⊢;have d:(¬K<f.k∧J=f.k)∨(K<f.k∧J=K):=(by omega);clear x hK;rcases d with⟨hc,rfl⟩|⟨hc,rfl⟩
 all_goals
  (go_enter func85,ntmps85);(go_wp2_with fail);refine(iD u.o n _ _ D).mono ?_;rintro e w1 ⟨rfl,g⟩;have q:=af (u.o.kept g (fun h=>h) (fun h=>h));have c0:=q.o.cell0;have l1:=q.o.lt.1;have A:=af g;clear g;go_wp2;refine au ?_;intro W hW;have v:aj (ah No w1 W):=(by rw[hW];exact(aA (S:=No) w1).alloc _);have j:aj (bu W p b fs room dead):=q.o.kept v.o (fun h=>h) (fun h=>h);have m:W.heap[w1.heap.size]?=some (.cells #[.string f.s,qI f.k] 133 (0,0)):=(by rw[hW];exact bT _ _);have G:ai W w1.heap.size 0 2=some [.string f.s,qI f.k]:=(by unfold ai;rw[m];rfl);have E:W.cell? ⟨w1.heap.size,0,none⟩=some (.string f.s):=(by simp[World.cell?,m]);have F:W.cell? ⟨w1.heap.size,1,none⟩=some (qI f.k):=(by simp[World.cell?,m]);have C:=j.o.cell0;clear hW m c0 l1
  go_still_tail 14,(by kernel_rfl)
  change wpList _ _ _ _ _ (World.drew _)
  refine iC rfl (.tmp 30) (.tmp 31) (.tmp 40) rfl j.o.drew.own j.o.few rfl n rfl (aU z.o (by unfold maxLen;omega)) ⟨f.s.extract 0 _,_⟩ rfl ?_;intro w2 l i;have y:=af (j.o.drew.turned i l (aU a.o j.o.few) c.o.1 c.o.2);have B:=af ((((A.o.aK v.o).mono (T:=Own b) (fun _ _ h=>h.elim)).drew).aK i);clear l i;go_wp2;go_ret;exact⟨rfl,y.o,B.o⟩
theorem uh (hd:bu w p b fs room dead)(n:ByteArray)(f:Fi)(ec:Int)(g:cu fs dead n=(f,ec))(he:(ec==0)=false):Calls prog 87 #[dP p,.string n] w (qG w (qI ec)):=by
 have c:=af hd;clear hd;(go_enter func87,ntmps87);(go_wp2_with fail);refine(iD c.o n _ _ g).mono ?_;rintro e w1 ⟨rfl,a⟩;have d:=af a;clear a;go_wp2;go_ret;exact⟨rfl,d.o.alloc _⟩
theorem La (hd:bu w p b fs room dead)(n:ByteArray)(f:Fi)(s:cu fs dead n=(f,0))(hn:n.size≤32):Calls prog 87 #[dP p,.string n] w fun e w'=>e= .returned (qI 0)∧bu w' p b (kF fs n.data.toList) room dead∧ah (Own b) w w':=by
 have k:=af hd;have m:=af hn;have i:=af (hd.Ql n.data.toList);have g:=af (Ke fs n.data.toList);clear hd hn;(go_enter func87,ntmps87);(go_wp2_with fail);refine(iD k.o n _ _ s).mono ?_;rintro e w1 ⟨rfl,a⟩;have d:=af (k.o.kept a (fun h=>h) (fun h=>h));have c0:=d.o.cell0;have l1:=d.o.lt.1;have q:=af a;clear a;(go_wp2_with (at_delete;refine xh rfl _ _ rfl (d.o.kept ((aA (S:=No) w1).alloc _) (fun h=>h) (fun h=>h)).own rfl n rfl (aU m.o (by unfold maxLen;omega)) ?_;intro w2 j c));have l:=af ((d.o.kept ((aA (S:=No) w1).alloc _) (fun h=>h) (fun h=>h)).turned c j (aU g.o d.o.few) i.o.1 i.o.2);have r:=af (((q.o.mono (T:=Own b) (fun _ _ h=>h.elim)).alloc _).aK c);clear j c;go_wp2;go_ret;exact⟨rfl,l.o,r.o⟩
end
structure dX (α:Type) where
 cells:α→List Value
 size:Nat
 len:∀a,(cells a).length=size
 one:∀a,∀u∈cells a,u.oneCell'=true
 pos:0<size
section
variable {α:Type}(C:dX α)
def rowsOf (l:List α):List Value:=l.flatMap C.cells
theorem dJ (a:α)(l:List α):rowsOf C (a::l)=C.cells a++rowsOf C l:=by simp[rowsOf]
theorem bE (a b:List α):rowsOf C (a++b)=rowsOf C a++rowsOf C b:=by simp[rowsOf]
theorem fL (a:α):rowsOf C [a]=C.cells a:=by simp[rowsOf]
theorem bV (l:List α):(rowsOf C l).length=l.length*C.size:=by
 induction l with
 |nil=>simp[rowsOf]
 |cons a l ih=>rw[dJ,cr,ih,C.len,g_,nu];omega
theorem ko (l:List α):∀u∈rowsOf C l,u.oneCell'=true:=by
 intro u hu;simp only[rowsOf,List.mem_flatMap]at hu;obtain⟨a,_,b⟩:=hu;exact C.one a u b
theorem oo (l:List α)(k:Nat):(rowsOf C l).take (k*C.size)=rowsOf C (l.take k):=by
 by_cases a:k≤l.length
 ·have e:rowsOf C l=rowsOf C (l.take k)++rowsOf C (l.drop k):=(by rw[←bE,jN]);rw[e,nX (by rw[bV,fB,qE a])]
 ·have:l.length*C.size≤k*C.size:=mY _ (by omega);rw[fA (by rw[bV];omega),fA (by omega)]
theorem iN (l:List α)(k:Nat):(rowsOf C l).drop (k*C.size)=rowsOf C (l.drop k):=by
 by_cases a:k≤l.length
 ·have e:rowsOf C l=rowsOf C (l.take k)++rowsOf C (l.drop k):=(by rw[←bE,jN]);rw[e,qV (by rw[bV,fB,qE a])]
 ·have:l.length*C.size≤k*C.size:=mY _ (by omega);rw[DC (by rw[bV];omega),DC (by omega)];rfl
theorem xk (l:List α)(i:Nat)(h:i<l.length)(j:Nat)(a:j<C.size):(rowsOf C l)[i*C.size+j]?=(C.cells l[i])[j]?:=by
 rw[←zy,iN,mX h,dJ,Dy (by rw[C.len];exact a)]
theorem Ab (l:List α)(i:Nat)(h:i<l.length)(a:α):rowsOf C (l.set i a)=(rowsOf C l).take (i*C.size)++C.cells a++(rowsOf C l).drop ((i+1)*C.size):=by
 rw[oo,iN,H7,dM h,bE,dJ,eY]
abbrev aW (w:World)(v:Value)(l:List α):Prop:=Reads w C.size v l.length (rowsOf C l)
theorem aW.at {w:World}{b off n c:Nat}{l:List α}(h:Reads w C.size (.slice (some ⟨b,off,none⟩) n c) n (rowsOf C l))(i:Nat)(hi:i<l.length):ai w b (off+i*C.size) C.size=some (C.cells l[i]):=by
 have e:i*C.size+C.size≤l.length*C.size:=(by rw[←nu];exact mY _ hi);have hp:=C.pos;obtain⟨b',a,c',he,_,_,_,f⟩:=h.addr (by rw[bV];omega);simp only[Value.slice.injEq,Option.some.injEq,Addr.mk.injEq,and_true,true_and]at he;obtain⟨⟨rfl,rfl⟩,rfl⟩:=he;have hl:=C.len l[i];rw[←hl];refine zO (fun j v hv=>?_) (by rw[hl];exact hp);have d:j<C.size:=(by rw[←hl];exact(eC.1 hv).1);rw[hl,Nat.add_assoc];exact f _ _ (by rw[xk C l i hi j d];exact hv)
theorem aW.addr {w:World}{a:Option Addr}{c:Nat}{l:List α}(h:aW C w (.slice a l.length c) l)(hl:0<l.length):∃b off,a=some ⟨b,off,none⟩∧l.length≤c∧c≤maxLen∧b<w.heap.size:=by
 have:0<l.length*C.size:=Nat.mul_pos hl C.pos;obtain⟨b,off,c',he,d,e,f,_⟩:=Reads.addr h (by rw[bV];exact this);simp only[Value.slice.injEq,true_and]at he;obtain⟨rfl,rfl⟩:=he;exact⟨b,off,rfl,d,e,f⟩
theorem aW.len {w:World}{v:Value}{l:List α}(h:aW C w v l):l.length≤maxLen:=by
 rcases h.shape with⟨_,h0⟩|⟨_,c',he,a,b,_⟩
 ·simp[h0]
 ·omega
end
def gA {α:Type}(pr:α→Bool)(l:List α):Int:=match l.findIdx? pr with|some k=>k|none=> -1
theorem Ac {α:Type}(pr:α→Bool)(l:List α)(k:Nat)(c:k<l.length)(a:∀j,(h:j<k)→(d:j<l.length)→pr l[j]=false)(hp:pr l[k]=true):gA pr l=k:=by
 have:l.findIdx? pr=some k:=by
  rw[E0];exact⟨c,hp,fun j b=>by simpa using a j b (by omega)⟩
 simp[gA,this]
theorem uZ {α:Type}(pr:α→Bool)(l:List α)(a:∀j,(d:j<l.length)→pr l[j]=false):gA pr l= -1:=by
 have:l.findIdx? pr=none:=by
  rw[Dz];intro x c;obtain⟨j,b,rfl⟩:=uL c;exact a j b
 simp[gA,this]
theorem jS {α:Type}(pr:α→Bool)(l:List α):(gA pr l= -1∧∀a∈l,pr a=false)∨∃k:Nat,gA pr l=k∧∃d:k<l.length,pr l[k]=true∧∀j,(h:j<k)→(c:j<l.length)→pr l[j]=false:=by
 cases hf:l.findIdx? pr with
 |none=>
  refine .inl ⟨by simp[gA,hf],?_⟩;rw[Dz]at hf;exact hf
 |some k=>
  have c:=hf;rw[E0]at hf;obtain⟨d,hp,b⟩:=hf;exact .inr ⟨k,by simp[gA,c],d,hp,fun j e _=>by simpa using b j e⟩
end
section
open Go.Proofs.Tryz
def oW:Nat→Nat→Nat
 |0,_=>0
 |k+1,m=>bif m==0 then 0 else oW k (m/256)+1
def Lb (m:Nat):Nat:=oW 8 m
def dB (m:Nat):Nat→Nm
 |0=> []
 |k+1=>dB (m/256) k++ [UInt8.ofNat (m%256)]
def mag (n:Int):Nat:=bif decide (n<0)then(-(n+1)).toNat else n.toNat
def aG (n:Int):Nm:=UInt8.ofNat ((bif decide (n<0)then 128 else 0)+Lb (mag n))::dB (mag n) (Lb (mag n))
def gV (s:Nm):Nat:=s.foldl (fun n x=>256*n+x.toNat) 0
def fq (h:UInt8)(t:Nm):Bool:=decide (8<h.toNat%128)||(decide (t.length<h.toNat%128)||((decide (0<h.toNat%128)&&((t.getD 0 0).toNat==0))||(decide (h.toNat%128=8)&&decide (127<(t.getD 0 0).toNat))))
def jY (h:UInt8)(t:Nm):Int:=bif decide (127<h.toNat)then -(gV (t.take (h.toNat%128)):Int)-1 else(gV (t.take (h.toNat%128)):Int)
def jT:Nm→Option (Int×Nat)
 | []=>none
 |h::t=>bif fq h t then none else some (jY h t,1+h.toNat%128)
theorem dG:∀(k m:Nat),(dB m k).length=k
 |0,_=>rfl
 |k+1,m=>by simp[dB,dG k]
theorem jr (s:Nm)(x:UInt8):gV (s++ [x])=256*gV s+x.toNat:=by simp[gV]
theorem Ad:∀(k m:Nat),m<256^k→gV (dB m k)=m
 |0,m,h=>by
  have:m=0:=(by simpa using h);subst this;rfl
 |k+1,m,h=>by
  have a:m/256<256^k:=(by rw[sU (by omega)];rw[kU]at h;exact h);have b:(UInt8.ofNat (m%256)).toNat=m%256:=(by simp);rw[dB,jr,Ad k _ a,b];omega
theorem DP {α:Type}{P:List α→Prop}(h0:P [])(a:∀s x,P s→P (s++ [x]))(s:List α):P s:=by
 have:∀t:List α,P t.reverse:=by
  intro t;induction t with
  |nil=>exact h0
  |cons x t ih=>rw[List.reverse_cons];exact a _ _ ih
 have h:=this s.reverse
 rwa [List.reverse_reverse]at h
theorem zi (s:Nm):gV s<256^s.length:=by
 induction s using DP with
 |h0=>simp[gV]
 |a s x ih=>
  have b:=x.toNat_lt;rw[jr,cr,gZ,kU];omega
theorem Kf:∀(k m:Nat),oW k m≤k
 |0,_=>bM _
 |k+1,m=>by
  unfold oW;cases m==0
  ·have:=Kf k (m/256);simp only[cond_false];omega
  ·simp
theorem xo (m:Nat):Lb m≤8:=Kf 8 m
theorem Kg:∀(k m:Nat),m<256^k→m<256^oW k m
 |0,m,h=>h
 |k+1,m,h=>by
  unfold oW;by_cases h0:m=0
  ·subst h0;simp
  ·have hb:(m==0)=false:=(by simpa using h0);have a:m/256<256^k:=(by rw[sU (by omega)];rw[kU]at h;exact h);have:=Kg k _ a;rw[hb,aN,kU];omega
theorem Nk:(256:Nat)^8=18446744073709551616:=by decide
theorem SR {m:Nat}(h:m<18446744073709551616):m<256^Lb m:=Kg 8 m (by rw[Nk];exact h)
theorem Kh:∀(k m:Nat),0<oW k m→256^(oW k m-1)≤m
 |0,m,h=>absurd h (M_ _)
 |k+1,m,h=>by
  unfold oW at h⊢;by_cases h0:m=0
  ·subst h0;simp at h
  ·have hb:(m==0)=false:=(by simpa using h0);rw[hb,aN]at h⊢;rw[tP];by_cases a:oW k (m/256)=0
   ·rw[a];simp;omega
   ·have:=Kh k (m/256) (by omega);have e:oW k (m/256)=oW k (m/256)-1+1:=(by omega);rw[e,kU];omega
theorem CF (k m:Nat)(h:m≠0):oW (k+1) m=oW k (m/256)+1:=by
 have hb:(m==0)=false:=(by simpa using h);rw[oW,hb,aN]
theorem pX {n:Int}(h:¬n<0):mag n=n.toNat:=by unfold mag;rw[aJ h];rfl
theorem zj {n:Int}(h:n<0):mag n=(-(n+1)).toNat:=by unfold mag;rw[aM h];rfl
theorem SS {n:Int}(a: -9223372036854775808≤n)(b:n≤9223372036854775807):mag n<9223372036854775808:=by
 by_cases h:n<0
 ·rw[zj h];omega
 ·rw[pX h];omega
theorem x7 (n:Int):(aG n).length=1+Lb (mag n):=by unfold aG;rw[g_,dG];omega
theorem aP (n:Int):(aG n).length≤9:=by have:=xo (mag n);rw[x7];omega
theorem Ip (m k:Nat)(b:0<k)(hm:m<256^k):((dB m k).getD 0 0).toNat=m/256^(k-1):=by
 induction k generalizing m with
 |zero=>omega
 |succ k ih=>
  rw[tP];cases k with
  |zero=>
   simp only[dB,List.nil_append,Na];simp at hm⊢;omega
  |succ k=>
   have a:m/256<256^(k+1):=(by rw[sU (by omega)];rw[kU]at hm;exact hm);have e:=ih (m/256) (by omega) a;rw[dB];have hl:(dB (m/256) (k+1)).length=k+1:=dG _ _;rw[xQ,Dy (by omega), ←xQ,e,tP,Nat.div_div_eq_div_mul,kU,mG]
theorem Lc (n:Int)(l: -9223372036854775808≤n)(o:n≤9223372036854775807)(r:Nm):jT (aG n++r)=some (n,(aG n).length):=by
 have hm:=SS l o;have j:mag n<18446744073709551616:=(by omega);have hs:=xo (mag n);obtain⟨M,g⟩:=ay (mag n);obtain⟨S,hS⟩:=ay (Lb (mag n));have a:(UInt8.ofNat ((bif decide (n<0)then 128 else 0)+S)).toNat=(bif decide (n<0)then 128 else 0)+S:=by
  rw[←hS]at hs;cases decide (n<0)
  ·simp only[cond_false];rw[mZ];omega
  ·simp only[cond_true];rw[mZ];omega
 have i:((bif decide (n<0)then 128 else 0)+S)%128=S:=by
  rw[←hS]at hs;cases decide (n<0)
  ·simp only[cond_false];omega
  ·simp only[cond_true];omega
 have hlen:=x7 n;unfold aG at hlen⊢;rw[←hS, ←g]at hlen⊢;rw[nA,jT];have c:M<256^S:=(by rw[g,hS];exact SR j);have d:(dB M S).length=S:=dG S M;have b:fq (UInt8.ofNat ((bif decide (n<0)then 128 else 0)+S)) (dB M S++r)=false:=by
  unfold fq;rw[a,i,aJ (by omega),qY,aJ (by rw[cr,d];omega),qY];by_cases h0:S=0
  ·rw[aJ (by omega),aJ (by omega)];rfl
  ·have p:((dB M S++r).getD 0 0).toNat=M/256^(S-1):=by
    rw[xQ,Dy (by omega), ←xQ];exact Ip M S (by omega) c
   rw[p];have h:256^(S-1)≤M:=by
    have:=Kh 8 (mag n) (by have:=hS;unfold Lb at this;omega);rw[g,hS];exact this
   have f:0<256^(S-1):=Nat.pow_pos (by omega);have l:0<M/256^(S-1):=Nat.div_pos h f;have k:(M/256^(S-1)==0)=false:=by
    rw[eD];omega
   rw[k,jR,qY];by_cases m:S=8
   ·rw[m];have:M/256^(8-1)≤127:=by
     have e:(256:Nat)^(8-1)=72057594037927936:=(by decide);rw[e];omega
    rw[aJ (by omega:¬127<M/256^(8-1)),jR]
   ·rw[aJ m,iL]
 rw[b,aN];have hval:jY (UInt8.ofNat ((bif decide (n<0)then 128 else 0)+S)) (dB M S++r)=n:=by
  unfold jY;rw[a,i,nX d,Ad S M c,g];by_cases hn:n<0
  ·rw[aM hn,zj hn];simp only[cond_true];rw[aM (by omega),bH];omega
  ·rw[aJ hn,pX hn];simp only[cond_false];rw[aJ (by omega),aN];omega
 rw[hval,a,i,hlen]
theorem Fk {s:Nm}{n:Int}{k:Nat}(h:jT s=some (n,k)): -9223372036854775808≤n∧n≤9223372036854775807∧1≤k∧k≤s.length∧k≤9:=by
 cases s with
 |nil=>cases h
 |cons x t=>
  rw[jT]at h;cases hb:fq x t with
  |true=>rw[hb]at h;cases h
  |false=>
   rw[hb,aN]at h;simp only[Option.some.injEq,Prod.mk.injEq]at h;obtain⟨rfl,rfl⟩:=h;unfold fq at hb;rw[wK,wK,wK]at hb;obtain⟨o,hl,h0,j⟩:=hb;simp only[decide_eq_false_iff_not,Nat.not_lt]at o hl;obtain⟨K,hK⟩:=ay (x.toNat%128);rw[←hK]at o hl h0 j⊢;have p:gV (t.take K)<9223372036854775808:=by
    by_cases l:K=8
    ·rw[aM l,mF,xR]at j;subst l
     match t,hl with
     | [a,b,c,d,e,f,g,i],_|a::b::c::d::e::f::g::i::_::_,_=>
       have:=a.toNat_lt;have:=b.toNat_lt;have:=c.toNat_lt;have:=d.toNat_lt;have:=e.toNat_lt;have:=f.toNat_lt;have:=g.toNat_lt;have:=i.toNat_lt;simp only[Na,Nat.not_lt]at j;simp only[gV,RM,E3,List.foldl_cons,List.foldl_nil];omega
    ·have:=zi (t.take K);have m:(t.take K).length=K:=(by rw[fB];omega);rw[m]at this;have r:256^K≤256^7:=wO (by omega) (by omega);have q:(256:Nat)^7=72057594037927936:=(by decide);omega
   unfold jY;rw[←hK,g_];cases decide (127<x.toNat)
   ·simp only[cond_false];omega
   ·simp only[cond_true];omega
end
section
open Go.Proofs.Tryz
open Go.RowKit
structure Bd where
 s:Int
 i:Int
 g:Int
 m:Int
 x:Int
 y:Int
 vx:Int
 vy:Int
 hp:Int
 pw:Int
 lf:Int
def Bd.zero:Bd:=⟨0,0,0,0,0,0,0,0,0,0,0⟩
structure cO where
 s:Int
 i:Int
 g:Int
def Bd.id (b:Bd):cO:=⟨b.s,b.i,b.g⟩
structure Cm where
 k:Int
 s:Int
 i:Int
 g:Int
 b:Bd
 m:Int
def Cm.id (c:Cm):cO:=⟨c.s,c.i,c.g⟩
structure Ht where
 s:Int
 i:Int
 g:Int
 n:Int
abbrev fe (b:Bd):List Value:= [qI b.s,qI b.i,qI b.g,qI b.m,qI b.x,qI b.y,qI b.vx,qI b.vy,qI b.hp,qI b.pw,qI b.lf]
abbrev bk (b:cO):List Value:= [qI b.s,qI b.i,qI b.g]
abbrev ct (c:Cm):List Value:= [qI c.k,qI c.s,qI c.i,qI c.g,qI c.b.s,qI c.b.i,qI c.b.g,qI c.b.m,qI c.b.x,qI c.b.y,qI c.b.vx,qI c.b.vy,qI c.b.hp,qI c.b.pw,qI c.b.lf,qI c.m]
def bN:dX cO:=⟨bk,3,fun _=>rfl,fun a u h=>by simp[bk]at h;rcases h with rfl|rfl|rfl<;>rfl,by decide⟩
def k_:dX Cm:=⟨ct,16,fun _=>rfl,fun a u h=>by simp[ct]at h;rcases h with rfl|rfl|rfl|rfl|rfl|rfl|rfl|rfl|rfl|rfl|rfl|rfl|rfl|rfl|rfl|rfl<;>rfl,by decide⟩
def i64 (n:Int):Prop:= -9223372036854775808≤n∧n≤9223372036854775807
structure Bd.ok (b:Bd):Prop where
 s:i64 b.s
 i:i64 b.i
 g:i64 b.g
 m:i64 b.m
 x:i64 b.x
 y:i64 b.y
 vx:i64 b.vx
 vy:i64 b.vy
 hp:i64 b.hp
 pw:i64 b.pw
 lf:i64 b.lf
structure Cm.ok (c:Cm):Prop where
 k:i64 c.k
 s:i64 c.s
 i:i64 c.i
 g:i64 c.g
 b:c.b.ok
 m:i64 c.m
def neq (a b:cO):Bool:=decide (a.s=b.s)&&(decide (a.i=b.i)&&decide (a.g=b.g))
def SU (a b c:Int):Int:=bif a==0 then(bif b==0 then c else b)else a
theorem u6 (a b:cO):neq a b=true↔a=b:=by
 unfold neq;obtain⟨s,i,g⟩:=a;obtain⟨d,c,g'⟩:=b;simp
def hasB (m c:Int):Bool:=decide (m/c%2=1)
theorem jU (m:Int):(BitVec.ofInt 64 m).toNat=(m%18446744073709551616).toNat:=by simp[BitVec.toNat_ofInt]
theorem Qn (M k:Nat):M&&&2^k=bif M.testBit k then 2^k else 0:=by
 apply RL;intro i;rw[Nat.testBit_and,Nat.testBit_two_pow];by_cases h:k=i
 ·subst h;cases M.testBit k<;>simp
 ·rw[aJ h,jR];cases M.testBit k
  ·simp
  ·simp[h]
theorem Qo (m:Int)(k:Nat)(c:Int)(hc:c=((2^k:Nat):Int))(b:0≤c)(d:c<9223372036854775808):bits .and .i64 m c=bif (m%18446744073709551616).toNat.testBit k then c else 0:=by
 have a:(BitVec.ofInt 64 c).toNat=2^k:=by
  rw[jU];omega
 show IntKind.i64.wrap ((BitVec.ofInt 64 m&&&BitVec.ofInt 64 c).toNat:Int)=_;rw[BitVec.toNat_and,a,jU,Qn];cases((m%18446744073709551616).toNat.testBit k)
 ·simp[IntKind.wrap_i64]
 ·simp only[cond_true];rw[cI, ←hc];omega
theorem SV (m:Int)(k:Nat)(c:Int)(hd:(m%18446744073709551616).toNat/2^k%2=(m/c%2).toNat):(m%18446744073709551616).toNat.testBit k=hasB m c:=by
 unfold hasB;rw[Nat.testBit_eq_decide_div_mod_eq,hd];have h:m/c%2=0∨m/c%2=1:=(by omega);rcases h with h|h<;>rw[h]<;>rfl
theorem jt (m:Int):bits .and .i64 m 1=(bif hasB m 1 then 1 else 0)∧bits .and .i64 m 2=(bif hasB m 2 then 2 else 0)∧bits .and .i64 m 4=(bif hasB m 4 then 4 else 0)∧bits .and .i64 m 8=(bif hasB m 8 then 8 else 0)∧bits .and .i64 m 16=(bif hasB m 16 then 16 else 0):=by
 have go:∀(k:Nat) (c:Int),c=((2^k:Nat):Int)→0≤c→c<9223372036854775808→(m%18446744073709551616).toNat/2^k%2=(m/c%2).toNat→bits .and .i64 m c=(bif hasB m c then c else 0):=by
  intro k c hc h0 a hd;rw[Qo m k c hc h0 a,SV m k c hd]
 exact⟨go 0 1 (by decide) (by omega) (by omega) (by omega),go 1 2 (by decide) (by omega) (by omega) (by omega),go 2 4 (by decide) (by omega) (by omega) (by omega),go 3 8 (by decide) (by omega) (by omega) (by omega),go 4 16 (by decide) (by omega) (by omega) (by omega)⟩
end
