/- Lemmas. -/
import Derived.Test.YtpbpgjfdledgoaaGreatDoorZo08
import Derived.Lib.ItoaLen
set_option linter.all false
set_option maxRecDepth 100000
set_option maxHeartbeats 8000000
namespace Go.Proofs.YtpbpgjfdledgoaaGreatDoor
open Go.Proofs.Tryz
open Go.RowKit Go.Shelf Go.Sort
theorem ah.vk {w w':World}(h:Below w.heap.size w w'):ah No w w':=⟨h.os,h.tape,h.output,h.size,fun k a _=>h.block k a⟩
theorem Ir (w:World)(n:Nat)(os:Array Obj):ah No w (grow (w.drewN n) os):=
 ⟨rfl,rfl,rfl,by show _≤(w.heap++os).size;simp,fun k a _=>by show(w.heap++os)[k]?=_;rw[Array.getElem?_append_left a]⟩
def iO (name:Nm)(n:Nat):Nm:=name++ [46]++Lib.repeatL [48] (8-(Lib.itoa n).length)++Lib.itoa n
def aZ (name:ByteArray)(n:Nat):ByteArray:=⟨(iO name.data.toList n).toArray⟩
abbrev lT:TypeId:=137
def iW (l:List Nat):List Value:=l.map fun(n:Nat)=>qI n
theorem o5 (w:World)(base:Nat)(u:Laid w base)(l:Nat)(name:ByteArray)(D:(name.size:Int)≤1000)(hc:w.cell? ⟨l,1,none⟩=some (.string name))(n:Nat)(hn:(n:Int)≤4611686018427387904):
 Calls prog 83 #[dP l,qI n] w (qG w ((.string (aZ name n)))):=by
 have r:(Lib.itoa (n:Int)).length≤20:=by
  rw[Lib.itoa_nonneg,Lib.decDigits_length];exact Lib.nDigits_le20 _ (by omega)
 obtain⟨I,g⟩:=ay (⟨(Lib.itoa (n:Int)).toArray⟩:ByteArray);have f:I.size=(Lib.itoa (n:Int)).length:=(by rw[g];rfl);obtain⟨M,v⟩:=ay (8-I.size);obtain⟨Z,i⟩:=ay (⟨(Lib.repeatL [48] M).toArray⟩:ByteArray);have k:Z.size=M:=(by rw[i];show(Lib.repeatL [48] M).length=M;rw[Lib.repeatL_length];simp);have C:max 0 (8-(I.size:Int))=(M:Int):=(by omega);have E:IntKind.i64.wrap (8-(I.size:Int))=8-(I.size:Int):=(by rw[cI];omega);have c:∀W:World,(Op.stringOp .add name ⟨#[46]⟩).run prog W= .ok (.string (name++⟨#[46]⟩)) W:=fun W=>kD W _ _ (by have:(⟨#[46]⟩:ByteArray).size=1:=rfl;omega);obtain⟨A,hA⟩:=ay (name++⟨#[46]⟩);have j:A.size=name.size+1:=(by rw[hA,qB];rfl);have m:∀W:World,(Op.stringOp .add A Z).run prog W= .ok (.string (A++Z)) W:=fun W=>kD W _ _ (by omega);have q:∀W:World,(Op.stringOp .add (A++Z) I).run prog W= .ok (.string (A++Z++I)) W:=fun W=>kD W _ _ (by rw[qB];omega);rw[←hA]at c;have d:aj (A++Z++I=aZ name n):=by
  refine af (fW ?_);unfold aZ iO;rw[hA,i,v,f,g];simp[ByteArray.data_append]
 have x:=af g;have z:=af i;have y:=af u;have hl:=nh hc;dsimp only at hl;clear r g f v i k hA j u;(go_enter func83,ntmps83);(go_wp2_with fail);refine(Tryz.strconv_Itoa n (by omega) (by omega) w y.o.pow).mono ?_;rintro e w1 ⟨rfl,k1,s,a⟩;rw[←x.o];have t:aj (ah No w w1):=(by rw[a];exact af (Ir w k1 s));clear a;have c1:=t.o.cB hc;clear hc;go_wp2_with fail
 go_region_held3 (fun w'=>w'.cell? ⟨l,1,none⟩=some (.string name)) (exact c1)
  (first
    |(go_at_call 166
      refine(Tryz.strings_Repeat ⟨#[48]⟩ M _ (by omega) (by show 1*M≤_;omega)).mono ?_;rintro e w2 ⟨rfl,b⟩;rw[←z.o];have B:aj (ah No w w2):=af (t.o.drew.aK (ah.vk b));have c2:=(ah.vk b).cell (p:=⟨l,1,none⟩) c1 (fun h=>h);clear c1 b;have c1:=c2;clear c2))
 go_wp2;rw[d.o];go_ret;exact⟨rfl,B.o⟩
theorem vm (l:List Nat):(iW l).length=l.length:=by simp[iW]
theorem kG (a b:List Nat):iW (a++b)=iW a++iW b:=by simp[iW]
theorem lq (u:Value)(l:List Nat)(h:u∈iW l):u.oneCell'=true:=by
 unfold iW at h;obtain⟨n,_,rfl⟩:=jq.1 h;rfl
abbrev rC (w:World)(v:Value)(l:List Nat):Prop:=Reads w 1 v l.length (iW l)
abbrev aV (w:World)(base:Nat)(v:Value)(l:List Nat):Prop:=w.ownsRow base 3 1 v l.length (iW l)
theorem rC.cell {w:World}{v:Value}{l:List Nat}(h:rC w v l)(hl:0<l.length):∃b off c,v= .slice (some ⟨b,off,none⟩) l.length c∧l.length≤c∧c≤maxLen∧b<w.heap.size∧∀(j n:Nat),l[j]?=some n→w.cell? ⟨b,off+j,none⟩=some (qI n):=by
 obtain⟨b,off,c,hv,a,d,e,f⟩:=h.addr (by rw[vm];exact hl);exact⟨b,off,c,hv,a,d,e,fun j n g=>f j _ (by unfold iW;rw[oR,g];rfl)⟩
def nC (l:List Nat):Nat:=l.getLastD 0
theorem Fy {l:List Nat}(h:0<l.length):l[l.length-1]?=some (nC l):=by
 cases l with
 |nil=>cases h
 |cons a r=>rw[nC, ←List.getLast?_eq_getElem?,List.getLastD_eq_getLast?];simp[List.getLast?]
structure Lg where
 name:ByteArray
 aD:List Nat
 next:Nat
def nD (l p b:Nat)(v:Value):Nat→Prop:=fun i=>i=l∨i=p∨i=b∨v.ownBlock=some i
structure jV (w:World)(base l p:Nat)(v:Value)(g:Lg):Prop where
 cells:w.heap[l]?=some (.cells #[dP p,.string g.name,v,qI g.next] lT (0,0))
 rd:rC w v g.aD
 ne:0<g.aD.length
 nm:g.name.size≤16
 few:∀n∈g.aD,n≤4611686018427387904
 nx:g.next≤4611686018427387904
 bl:base≤l
 bv:∀k,v.ownBlock=some k→base≤k
 vl:¬v.ownBlock=some l
 lp:l≠p
section
variable {w:World}{base l p:Nat}{v:Value}{g:Lg}
theorem jV.cell0 (h:jV w base l p v g):w.cell? ⟨l,0,none⟩=some (dP p):=by simp[World.cell?,h.cells]
theorem jV.iM (h:jV w base l p v g):w.cell? ⟨l,1,none⟩=some (.string g.name):=by simp[World.cell?,h.cells]
theorem jV.uP (h:jV w base l p v g):w.cell? ⟨l,2,none⟩=some v:=by simp[World.cell?,h.cells]
theorem jV.Fz (h:jV w base l p v g):w.cell? ⟨l,3,none⟩=some (qI g.next):=by simp[World.cell?,h.cells]
theorem jV.opened (h:jV w base l p v g):Open w l:=⟨_,_,h.cells⟩
theorem jV.lt (h:jV w base l p v g):l<w.heap.size:=(bX.1 h.cells).1
theorem jV.kept {S:Nat→Prop}{w':World}(h:jV w base l p v g)(k:ah S w w')(hl:¬S l)(hv:∀i,v.ownBlock=some i→¬S i):jV w' base l p v g:=
 ⟨k.heap h.cells hl,h.rd.kept k hv,h.ne,h.nm,h.few,h.nx,h.bl,h.bv,h.vl,h.lp⟩
theorem jV.no {w':World}(h:jV w base l p v g)(k:ah No w w'):jV w' base l p v g:=h.kept k (fun h=>h) (fun _ _ h=>h)
end
theorem rD {w:World}{base l p:Nat}{v:Value}{g:Lg}(n:Laid w base)(f:jV w base l p v g):
 Calls prog 89 #[dP l] w (qG w ((.string (aZ g.name (nC g.aD))))):=by
 obtain⟨b,off,c,rfl,t,u,z,r⟩:=rC.cell f.rd f.ne;have c1:=f.iM;have c2:=f.uP;have hn:=f.ne;have a:=r _ _ (Fy hn);have hle:nC g.aD≤4611686018427387904:=f.few _ (dL (Fy hn));have j:aj ((g.name.size:Int)≤1000):=(by have:=f.nm;exact af (by omega));obtain⟨N,q⟩:=ay (g.aD.length);rw[←q]at c2 a t hn;have s:=af n;have x:=f.lt;unfold maxLen at u;have y:IntKind.i64.wrap ((N:Int)-1)=(N:Int)-1:=(by rw[cI];omega);have i1:(0:Int)≤(N:Int)-1:=(by omega);have i2:(N:Int)-1<(N:Int):=(by omega);have j1:(1:Int)≤(N:Int):=(by omega);have j2:1≤N:=(by omega);have i3:((N:Int)-1).toNat=N-1:=(by omega);obtain⟨nm,d⟩:=ay (g.name);obtain⟨F,m⟩:=ay (nC g.aD);rw[←d, ←m];rw[←m]at a hle;rw[←d]at c1 j;clear r n f q d m;(go_enter func89,ntmps89);go_wp2_with fail
 go_region_held3 (fun w'=>w'.cell? ⟨l,2,none⟩=some (.slice (some ⟨b,off,none⟩) N c)∧w'.cell? ⟨b,off+(N-1),none⟩=some (qI F)) (exact⟨c2,a⟩)
  (first
    |(go_at_call 83
      refine(o5 w.drew base (s.o.kept ((aA (S:=No) w).drew) (fun _ h=>h.elim)) l nm j.o c1 F (by omega)).mono ?_;rintro e w2 ⟨rfl,i⟩;have k:aj (ah No w w2):=af (((aA (S:=No) w).drew).aK i);have d2:=k.o.cB c2;have d3:=k.o.cB a;clear i c2 a;have c2:=d2;have a:=d3;clear d2 d3))
 go_wp2;go_ret;exact⟨rfl,k.o⟩
