/- Lemmas. -/
import Derived.Test.YtpbpgjfdledgoaaGreatDoorZo13
import Derived.Test.YtpbpgjfdledgoaaGreatDoorZo15
import Derived.Stop.LaidErr
set_option linter.all false
set_option maxRecDepth 100000
set_option maxHeartbeats 8000000
open List renaming length_cons→iY,length_nil→iP,cons_append→nA,nil_append→tD
open ByteArray renaming data_append→vz,data_extract→RW
open Nat renaming div_div_eq_div_mul→RX
namespace Go.Proofs.YtpbpgjfdledgoaaGreatDoor
section
open Go.Proofs.Tryz
open Go.ChangeShapes Go.WideShapes Go.ChangeAt Go.RowKit Go.Joins Go.Deep
theorem Ua:prog.globalNamed "hedgerow/frame.nibble" =some 0:=by kernel_rfl
theorem Ub:prog.globalNamed "internal/strconv.uint64pow10" =some 5:=by kernel_rfl
abbrev gD:List (String×DataW Unit):=Rows.ledgerNoneRow.laid
theorem QA {W:World}(h:laidMetH prog gD W):Laid W W.heap.size:=by
 rw[MakeChecks.laidMetH_plain _ _ _ (by kernel_rfl)]at h;have hn:Lib.TabIs prog W "hedgerow/frame.nibble" .u32 (Nd.map fun n:Nat=>(n:Int)):=
  Lib.tabIs_of_head Ua (by kernel_rfl:(prog.globals[0]?).map (·.type)=some 347) underlying347 underlying301 (by kernel_rfl) (by kernel_rfl) h
 have hp:Lib.TabIs prog W "internal/strconv.uint64pow10" .u64 Lib.pow10Tab:=
  Lib.tabIs_of_head Ub (by kernel_rfl:(prog.globals[5]?).map (·.type)=some 384) underlying384 underlying263 (by kernel_rfl) (by kernel_rfl) h.tail.tail.tail
 have hc:∀i,i<16→W.cell? ⟨0,i,none⟩=some (.int .u32 (Ik i)):=by
  intro i hi;have:=hn.cell Ua i (by simpa [Nd]using hi);rw[this];congr 2;have a:∀j:Fin 16,(Nd.map fun n:Nat=>(n:Int)).getD j.1 0=((Ik j.1:Nat):Int):=(by decide);exact a ⟨i,hi⟩
 exact⟨hc,hp,nh (hc 0 (by decide)),nh (hp.cell Ub 0 (by decide))⟩
theorem FI {H:Type}{enc:TypeId×Value→H}{os:Os}{f:FuncId}{fn:Func}{s:ChangeSpec}{x:List (DataW H)×List (DataW H)×List MemPlace}(args:Array Value)
 (b:((World.laidAll prog os gD).forCall (fun _ _=>0) ⟨#[],args,[]⟩).variablesZipB prog=true)
 (e:(((World.laidAll prog os gD).forCall (fun _ _=>0) ⟨#[],args,[]⟩).heap.toList.drop prog.globals.size).take ((begin prog (fun _ _=>0) default).world.heap.size-prog.globals.size)=(begin prog (fun _ _=>0) default).world.heap.toList.drop prog.globals.size)
 (a:Input.okWideB prog ((World.laidAll prog os gD).forCall (fun _ _=>0) ⟨#[],args,[]⟩) f ⟨#[],args,[]⟩=true)
 (g:DataW.whole enc prog ((World.laidAll prog os gD).forCall (fun _ _=>0) ⟨#[],args,[]⟩).memory fn.params.toList s.vars false args.toList 8=some x)
 (c:(OpenSpec.ofChange s).bare.sizedB enc prog fn false ((World.laidAll prog os gD).forCall (fun _ _=>0) ⟨#[],args,[]⟩).memory args 8=true)
 (hf:(World.holding prog os ⟨#[],#[],[]⟩).layFits prog gD []=true)
 (hi:(World.holding prog os ⟨#[],#[],[]⟩).layIfaces prog gD (World.laidAll prog os gD)=true):
 ∃(w:World) (tape:Tape) (i:Input),w.os=os∧(w.forCall tape i).Shaped Tryz.checked.prog∧i.vars= []∧Input.okWide Tryz.checked.prog (w.forCall tape i) .any w.heap.size f i∧
  (OpenSpec.ofChange s).preRow enc Tryz.checked.prog fn [] false gD (w.forCall tape i).memory i.args∧({} :Assume).holds Tryz.checked.prog (lone (Frame.enter Tryz.checked.prog f i.args .normal) [] (w.forCall tape i)):=
 DW (C:=Tryz.checked) false (World.laidAll prog os gD) args (World.laidAll_os _ _ _) (World.shaped_of_ZipB b e) a
  (OpenSpec.preRow_of_cond 8 g (by simp) (fun k d=>by cases d) c (by rw[MakeChecks.laidMetH_plain _ _ _ (by kernel_rfl)];exact laidMet_laidAll _ hf hi))
end
section
open Go.Proofs.Tryz
open Go.RowKit
def yj:Nat→Nat→Nm
 |0,_=> []
 |k+1,n=>yj k (n/10)++ [UInt8.ofNat (48+n%10)]
theorem jv:∀k n:Nat,(yj k n).length=k
 |0,_=>rfl
 |k+1,n=>by unfold yj;rw[cr,jv k];rfl
theorem Iz (m:Nat):Lib.repeatL [48] m=List.replicate m 48:=by
 induction m with
 |zero=>rfl
 |succ m ih=>rw[Lib.repeatL,ih,List.replicate_succ];rfl
theorem DX:∀(k n:Nat),1≤k→n<10^k→(Lib.decDigits n).length≤k∧List.replicate (k-(Lib.decDigits n).length) 48++Lib.decDigits n=yj k n
 |0,_,h,_=>by omega
 |1,n,_,h=>by
  have a:n<10:=(by simpa using h);rw[Lib.decDigits_one a];refine⟨bM _,?_⟩;simp[yj,Nat.mod_eq_of_lt a]
 |k+2,n,_,h=>by
  by_cases a:n<10
  ·obtain⟨_,ih⟩:=DX (k+1) 0 (by omega) (Nat.pow_pos (by omega));rw[Lib.decDigits_one (by omega:(0:Nat)<10)]at ih;rw[Lib.decDigits_one a];refine⟨by simp,?_⟩;have e:n/10=0:=(by omega);have e2:n%10=n:=(by omega);rw[yj,e, ←ih,e2];simp only[iY,iP,Nat.zero_add];rw[show k+2-1=k+1-1+1 by omega,List.replicate_succ'];rfl
  ·have b:n/10<10^(k+1):=by
    rw[sU (by omega)];rw[kU]at h;exact h
   obtain⟨hl,ih⟩:=DX (k+1) (n/10) (by omega) b;rw[Lib.decDigits,dif_neg a];refine⟨by rw[cr];simp;omega,?_⟩;rw[yj, ←ih,cr];simp only[iY,iP,Nat.zero_add];rw[show k+2-((Lib.decDigits (n/10)).length+1)=k+1-(Lib.decDigits (n/10)).length by omega,eY]
theorem o7 (name:Nm){n:Nat}(h:n<100000000):iO name n=name++ [46]++yj 8 n:=by
 unfold iO;rw[Lib.itoa_nonneg,Iz,eY,(DX 8 n (by omega) (by simpa using h)).2]
theorem DY:∀(x u v:Nm),bytesBefore (x++u) (x++v)=bytesBefore u v
 | [],_,_=>rfl
 |a::x,u,v=>by
  simp only[nA,bytesBefore,DY x u v];simp
theorem Kn:∀(x y u v:Nm),x.length=y.length→bytesBefore x y=true→bytesBefore (x++u) (y++v)=true
 | [],[],_,_,_,h=>by simp[bytesBefore]at h
 |a::x,b::y,u,v,hl,h=>by
  simp only[nA,bytesBefore,Bool.or_eq_true,Bool.and_eq_true]at h⊢;rcases h with h|⟨c,d⟩
  ·exact .inl h
  ·exact .inr ⟨c,Kn x y u v (by simpa using hl) d⟩
theorem NG {a b:Nat}(h:a<b)(hb:b<10):(UInt8.ofNat (48+a)<UInt8.ofNat (48+b)):=by
 have:∀(a b:Fin 10),a<b→UInt8.ofNat (48+a.1)<UInt8.ofNat (48+b.1):=(by decide);exact this ⟨a,by omega⟩ ⟨b,hb⟩ h
theorem Ap:∀(k a b:Nat),a<b→b<10^k→bytesBefore (yj k a) (yj k b)=true
 |0,a,b,h,hb=>by simp at hb;omega
 |k+1,a,b,h,hb=>by
  unfold yj;have c:b/10<10^k:=by
   rw[sU (by omega)];rw[kU]at hb;exact hb
  by_cases he:a/10=b/10
  ·rw[he,DY];have hd:=NG (a:=a%10) (b:=b%10) (by omega) (by omega);unfold bytesBefore;rw[aM hd];rfl
  ·exact Kn _ _ _ _ (by rw[jv,jv]) (Ap k _ _ (by omega) c)
theorem p6 (name:Nm){a b:Nat}(h:a<b)(hb:b<100000000):bytesBefore (iO name a) (iO name b)=true:=by
 rw[o7 name (by omega:a<100000000),o7 name hb,DY];exact Ap 8 a b h (by simpa using hb)
theorem FJ:∀(k n acc:Nat),n<10^k→Lib.decFrom acc (yj k n)=some (acc*10^k+n)
 |0,n,acc,h=>by simp at h;subst h;simp[yj,Lib.decFrom]
 |k+1,n,acc,h=>by
  have b:n/10<10^k:=by
   rw[sU (by omega)];rw[kU]at h;exact h
  have snoc:∀(l:Nm) (a m:Nat) (c:UInt8) (d:Nat),Lib.decFrom a l=some m→Lib.digitVal c=some d→Lib.decFrom a (l++ [c])=some (m*10+d):=by
   intro l;induction l with
   |nil=>intro a m c d h hd;simp[Lib.decFrom]at h;subst h;simp[Lib.decFrom,hd]
   |cons x l ih=>
    intro a m c d h hd;simp only[nA,Lib.decFrom]at h⊢;cases e:Lib.digitVal x with
    |none=>rw[e]at h;cases h
    |some y=>rw[e]at h;exact ih _ _ _ _ h hd
  have hd:Lib.digitVal (UInt8.ofNat (48+n%10))=some (n%10):=by
   have:∀j:Fin 10,Lib.digitVal (UInt8.ofNat (48+j.1))=some j.1:=(by decide);exact this ⟨n%10,by omega⟩
  unfold yj;rw[snoc _ _ _ _ _ (FJ k (n/10) acc b) hd,kU,Nat.add_mul,Nat.mul_assoc];congr 1;omega
theorem rF (name:Nm){n:Nat}(h:n<100000000):iX name (iO name n)=some n:=by
 rw[o7 name h];unfold iX;have hp:Lib.hasPrefix (name++ [46]++yj 8 n) (name++ [46])=true:=(by simp[Lib.hasPrefix]);have c:Lib.trimPrefix (name++ [46]++yj 8 n) (name++ [46])=yj 8 n:=(by unfold Lib.trimPrefix;rw[hp];simp);rw[hp,c,bH,jv,aM rfl,bH];unfold Lib.decNat;have a:(yj 8 n).isEmpty=false:=by
  have:=jv 8 n;cases b:yj 8 n with
  |nil=>rw[b]at this;cases this
  |cons _ _=>rfl
 rw[a,FJ 8 n 0 (by simpa using h)];simp
theorem IA {name:ByteArray}{a b:Nat}(d:a<100000000)(hb:b<100000000)(h:iO name.data.toList a=iO name.data.toList b):a=b:=by
 have c:=rF name.data.toList d;rw[h,rF _ hb]at c;exact(nj c).symm
theorem vA (name:Nm){n:Nat}(h:n<100000000):(iO name n).length=name.length+9:=by
 rw[o7 name h,cr,cr,jv];rfl
structure Sg where
 first:Nat
 recs:List Nm
 k:Nat
def Sg.next (s:Sg):Nat:=s.first+s.recs.length
def wI (L:List Nm):ByteArray:=⟨(frames L).toArray⟩
def Sg.file (nm:ByteArray)(s:Sg):Nm×Fi:=(iO nm.data.toList s.first,⟨wI s.recs,s.k⟩)
theorem jX (L:List Nm):(wI L).size=bK L:=by
 show(frames L).toArray.size=_;rw[xV,oH]
theorem NH (L:List Nm)(t:Nm):wI L++bI (bB t)=wI (L++ [t]):=by
 unfold wI bI bB;rw[tg,zV];apply q5;rw[vz];simp
theorem kr (t:Nm):(bI (bB t)).size=t.length+7:=by
 show(cM (bB t).data.toList).toArray.size=_;rw[xV,dD];simp[bB]
def rG:List Sg→Prop
 |a::b::r=>a.next=b.first∧rG (b::r)
 |_=>True
theorem rH {z c:Sg}(a:c.first=z.first):∀ {A:List Sg},rG (A++ [z])→rG (A++ [c])
 | [],_=>trivial
 | [_],h=>⟨by rw[a];exact h.1,trivial⟩
 |_::b::r,h=>⟨h.1,rH a (A:=b::r) h.2⟩
theorem rI {z a w:Sg}(c:a.first=z.first)(hw:a.next=w.first):∀ {A:List Sg},rG (A++ [z])→rG (A++ [a]++ [w])
 | [],_=>⟨hw,trivial⟩
 | [_],h=>⟨by rw[c];exact h.1,hw,trivial⟩
 |_::b::r,h=>⟨h.1,rI c hw (A:=b::r) h.2⟩
theorem yo:∀ {X Y:List Sg},rG (X++Y)→rG Y
 | [],_,h=>h
 | [_],[],_=>trivial
 | [_],_::_,h=>h.2
 |_::b::X,_,h=>yo (X:=b::X) h.2
structure Good (nm:ByteArray)(A:List Sg)(z:Sg)(g:Lg)(d:Ds):Prop where
 g:g=⟨nm,(A++ [z]).map Sg.first,z.next⟩
 fs:d.fs=(A++ [z]).map (Sg.file nm)
 dead:d.dead=false
 room:4611686018427387904-70000*(z.next:Int)≤d.room
 up:(A++ [z]).Pairwise fun a b=>a.first<b.first
 lim:z.next≤1000000
 SZ:1≤nm.size
 P_:nm.size≤16
 few:A.length<64
 full:∀a∈A,4096≤bK a.recs∧bK a.recs≤100000∧a.k=bK a.recs
 zs:bK z.recs≤100000
 short:∀s∈A++ [z],∀X t,s.recs=X++ [t]→bK X<4096
 link:rG (A++ [z])
 rl:∀s∈A++ [z],∀t∈s.recs,t.length≤65536
 zk:z.k≤bK z.recs
section
variable {nm:ByteArray}{A:List Sg}{z:Sg}{g:Lg}{d:Ds}
theorem Good.low (h:Good nm A z g d):∀s∈A++ [z],s.first≤z.first:=by
 intro s hs;rcases fQ.1 hs with hs|hs
 ·exact tX ((nV.1 h.up).2.2 s hs z (by simp))
 ·rw[dA.1 hs];exact bM _
theorem Good.TS (h:Good nm A z g d):∀s∈A++ [z],s.first<100000000:=by
 intro s hs;have:=h.low s hs;have:=h.lim;unfold Sg.next at this;omega
theorem Lu {S:List Sg}(nm:ByteArray)(up:S.Pairwise fun a b=>a.first<b.first)(d:∀s∈S,s.first<100000000):dI (S.map (Sg.file nm)):=by
 unfold dI;rw[zI];refine List.Pairwise.imp_of_mem ?_ up;intro a b e hb c;exact p6 _ c (d b hb)
theorem Good.rising (h:Good nm A z g d):dI d.fs:=by rw[h.fs];exact Lu nm h.up h.TS
theorem ku (nm:ByteArray){n:Nat}(h:n<100000000):(aZ nm n).size=nm.size+9:=by
 show(iO nm.data.toList n).toArray.size=_;rw[xV,vA _ h];simp
theorem Aq {fs:Fs}{n:ByteArray}{f:Fi}(b:1≤n.size)(c:n.size≤32)(a:eV fs n.data.toList=some f):gP fs n=(f,0):=by
 unfold gP;rw[aJ (by omega),aN,aJ (by omega),aN,a]
theorem DZ {fs:Fs}{n:ByteArray}(b:1≤n.size)(c:n.size≤32)(a:eV fs n.data.toList=none):gP fs n=(Fi.none,6):=by
 unfold gP;rw[aJ (by omega),aN,aJ (by omega),aN,a]
theorem Good.find (h:Good nm A z g d){X Y:List Sg}{s:Sg}(hs:A++ [z]=X++s::Y):gP d.fs (aZ nm s.first)=(⟨wI s.recs,s.k⟩,0):=by
 have hm:s∈A++ [z]:=(by rw[hs];simp);have a:=h.TS s hm;refine Aq (by rw[ku _ a];omega) (by rw[ku _ a];have:=h.P_;omega) ?_;have b:=h.rising;rw[h.fs,hs,fI,kT]at b;rw[h.fs,hs,fI,kT];exact ru b
theorem Good.open (h:Good nm A z g d){X Y:List Sg}{s:Sg}(hs:A++ [z]=X++s::Y):cu d.fs d.dead (aZ nm s.first)=(⟨wI s.recs,s.k⟩,0):=by
 unfold cu;rw[h.dead,jR,aN,h.find hs]
theorem Good.last (h:Good nm A z g d):g.last=aZ nm z.first:=by
 unfold Lg.last;rw[h.g];show aZ nm (nC ((A++ [z]).map Sg.first))=_;rw[fI];simp[nC]
theorem Good.look (h:Good nm A z g d){X Y:List Sg}{s:Sg}(hs:A++ [z]=X++s::Y):d.look (aZ nm s.first)=⟨wI s.recs,s.k⟩:=by unfold Ds.look;rw[h.find hs]
theorem Good.put (h:Good nm A z g d)(f:Fi):gN d.fs (aZ nm z.first).data.toList f=A.map (Sg.file nm)++ [(iO nm.data.toList z.first,f)]:=by
 have a:=h.rising;rw[h.fs,fI,kT,List.map_nil]at a;rw[h.fs,fI,kT,List.map_nil];exact rz a
theorem vB {S:List Sg}{nm:ByteArray}{n:Nat}(hn:n<100000000)(c:∀s∈S,s.first<100000000∧s.first≠n):eV (S.map (Sg.file nm)) (iO nm.data.toList n)=none:=by
 unfold eV;rw[Option.map_eq_none_iff,zG];intro p hp;obtain⟨s,hs,rfl⟩:=jq.1 hp;obtain⟨a,b⟩:=c s hs;intro he;exact b (IA a hn (by simpa [kY,Sg.file]using he))
def nF (A:List Sg)(z:Sg)(t:Nm):List Sg×Sg:=
 bif decide (bK z.recs<4096)then(A,⟨z.first,z.recs++ [t],z.k⟩)else(A++ [⟨z.first,z.recs,bK z.recs⟩],⟨z.next,[t],0⟩)
theorem FK {α:Type}{X Y:List α}{a b:α}(h:X++ [a]=Y++ [b]):X=Y∧a=b:=by
 have:=List.append_inj' h rfl;exact⟨this.1,by simpa using this.2⟩
theorem FL (h:Good nm A z g d)(s:ByteArray)(hs:(s.size:Int)≤70000)(c:70000≤d.room):d.append g.last s=(0,⟨A.map (Sg.file nm)++ [(iO nm.data.toList z.first,⟨wI z.recs++s,z.k⟩)],d.room-s.size,false⟩):=by
 unfold Ds.append;rw[h.last,h.open (X:=A) (Y:= []) rfl];dsimp only;have a:decide ((4194304:Nat)<(wI z.recs).size+s.size)=false:=aJ (by rw[jX];have:=h.zs;omega);have b:decide ((s.size:Int)≤d.room)=true:=aM (by omega);rw[a,b,h.put];rfl
theorem sD (h:Good nm A z g d):d.sync g.last=(0,d.with (A.map (Sg.file nm)++ [(iO nm.data.toList z.first,⟨wI z.recs,bK z.recs⟩)])):=by
 unfold Ds.sync;rw[h.last,h.open (X:=A) (Y:= []) rfl];dsimp only;rw[h.put,jX];rfl
theorem Good.synced (h:Good nm A z g d):Good nm A ⟨z.first,z.recs,bK z.recs⟩ g (d.sync g.last).2:=by
 rw[sD h];refine⟨by rw[h.g];simp;rfl,by simp[Sg.file],h.dead,h.room,?_,h.lim,h.SZ,h.P_,h.few,h.full,h.zs,?_,rH (z:=z) (by rfl) h.link,?_,bM _⟩
 ·have:=h.up;rw[nV]at this⊢;exact⟨this.1,by simp,fun a c b hb=>by rw[dA.1 hb];exact this.2.2 a c z (by simp)⟩
 ·intro s hs;rcases fQ.1 hs with hs|hs
  ·exact h.short s (by simp[hs])
  ·rw[dA.1 hs];exact h.short z (by simp)
 ·intro s hs;rcases fQ.1 hs with hs|hs
  ·exact h.rl s (by simp[hs])
  ·rw[dA.1 hs];exact h.rl z (by simp)
theorem FM (h:Good nm A z g d)(t:Nm)(G:t.length≤65536)(hn:z.next+1≤1000000)(hf:bK z.recs<4096∨A.length<63):
 ∃g' F,g.lay d (bB t)=(0,g',F)∧Good nm (nF A z t).1 (nF A z t).2 g' F:=by
 have E:70000+70000≤d.room:=(by have:=h.room;omega);have v:((bI (bB t)).size:Int)≤70000:=(by rw[kr];omega);have w:d.look g.last=⟨wI z.recs,z.k⟩:=(by rw[h.last];exact h.look (X:=A) (Y:= []) rfl);unfold Lg.lay;rw[w];dsimp only;rw[jX];by_cases o:bK z.recs<4096
 ·rw[aM o,bH,FL h _ v (by omega)];dsimp only;refine⟨_,_,rfl,?_⟩;have he:nF A z t=(A,⟨z.first,z.recs++ [t],z.k⟩):=(by unfold nF;rw[aM o,bH]);rw[he];dsimp only;have j:Sg.next ⟨z.first,z.recs++ [t],z.k⟩=z.next+1:=(by simp[Sg.next];omega);refine⟨?_,?_,rfl,?_,?_,by rw[j];exact hn,h.SZ,h.P_,h.few,h.full,by show bK (z.recs++ [t])≤_;rw[sw];omega,?_,rH (z:=z) (by rfl) h.link,?_,by show z.k≤bK (z.recs++ [t]);have:=h.zk;rw[sw];omega⟩
  ·rw[h.g,j];simp
  ·rw[NH];simp[Sg.file]
  ·rw[j,kr];have:=h.room;show _≤d.room-_;omega
  ·have:=h.up;rw[nV]at this⊢;exact⟨this.1,by simp,fun a l b hb=>by rw[dA.1 hb];exact this.2.2 a l z (by simp)⟩
  ·intro s hs X t' i;rcases fQ.1 hs with hs|hs
   ·exact h.short s (by simp[hs]) X t' i
   ·rw[dA.1 hs]at i;obtain⟨rfl,_⟩:=FK (show z.recs++ [t]=X++ [t']from i);exact o
  ·intro s hs x i;rcases fQ.1 hs with hs|hs
   ·exact h.rl s (by simp[hs]) x i
   ·rw[dA.1 hs]at i;rcases fQ.1 (show x∈z.recs++ [t]from i)with i|i
    ·exact h.rl z (by simp) x i
    ·rw[dA.1 i];exact G
 ·have M:1≤z.recs.length:=by
   cases L:z.recs with
   |nil=>rw[L]at o;exact absurd (by decide) o
   |cons _ _=>simp
  have hA:A.length<63:=by rcases hf with hf|hf<;>omega
  have hS:=h.synced;have y:g.next=z.next:=(by rw[h.g]);rw[aJ o,aN,y,aJ (by have:=h.lim;omega),aN];have r:z.next<100000000:=(by have:=h.lim;omega);have p:g.file z.next=aZ nm z.next:=(by rw[h.g];rfl);have C:eV (d.sync g.last).2.fs (aZ nm z.next).data.toList=none:=by
   rw[hS.fs];exact vB r (fun s hs=>⟨hS.TS s hs,by have:=hS.low s hs;show s.first≠z.first+z.recs.length;have e:(Sg.mk z.first z.recs (bK z.recs)).first=z.first:=rfl;omega⟩)
  have D:cu (d.sync g.last).2.fs (d.sync g.last).2.dead (aZ nm z.next)=(Fi.none,6):=by
   unfold cu;rw[hS.dead,jR,aN];exact DZ (by rw[ku _ r];omega) (by rw[ku _ r];have:=h.P_;omega) C
  have q:∀f,gN (d.sync g.last).2.fs (aZ nm z.next).data.toList f=(d.sync g.last).2.fs++ [(iO nm.data.toList z.next,f)]:=by
   intro f;have:=rA (A:=(d.sync g.last).2.fs) (B:= []) (n:=iO nm.data.toList z.next) (f:=f) (fun a l=>by
    rw[hS.fs]at l;obtain⟨s,hs,rfl⟩:=jq.1 l;refine p6 _ ?_ r;have:=hS.low s hs;show s.first<z.first+z.recs.length;have e:(Sg.mk z.first z.recs (bK z.recs)).first=z.first:=rfl;omega) (fun c hc=>absurd hc qU)
   rw[kE]at this;exact this
  have hlen:(d.sync g.last).2.fs.length=A.length+1:=(by rw[hS.fs];simp);have m:(d.sync g.last).2.room=d.room:=(by rw[sD h]);have u:(d.sync g.last).2.append (aZ nm z.next) (bI (bB t))=(0,⟨(d.sync g.last).2.fs++ [(iO nm.data.toList z.next,⟨bI (bB t),0⟩)],d.room-(bI (bB t)).size,false⟩):=by
   unfold Ds.append;rw[D];dsimp only;have H:decide (64≤(d.sync g.last).2.fs.length)=false:=aJ (by omega);have I:decide ((4194304:Nat)<Fi.none.s.size+(bI (bB t)).size)=false:=aJ (by have:Fi.none.s.size=0:=rfl;omega);have J:decide (((bI (bB t)).size:Int)≤(d.sync g.last).2.room)=true:=aM (by omega);rw[H,I,J,q,m];have K:kg Fi.none (bI (bB t))=⟨bI (bB t),0⟩:=by
    show(⟨(⟨#[]⟩:ByteArray)++bI (bB t),0⟩:Fi)=_;congr 1
   rw[K];rfl
  rw[p,u];dsimp only;refine⟨_,_,rfl,?_⟩;have he:nF A z t=(A++ [⟨z.first,z.recs,bK z.recs⟩],⟨z.next,[t],0⟩):=(by unfold nF;rw[aJ o,aN]);rw[he];dsimp only;have j:Sg.next ⟨z.next,[t],0⟩=z.next+1:=rfl;refine⟨?_,?_,rfl,?_,?_,by rw[j];exact hn,h.SZ,h.P_,by simp;omega,?_,?_,?_,?_,?_,aX _⟩
  ·rw[h.g,j];simp
  ·rw[hS.fs];have:wI [t]=bI (bB t):=(by unfold wI bI bB;rw[zV]);simp[Sg.file,this]
  ·rw[j,kr];have:=h.room;show _≤d.room-_;omega
  ·rw[nV];refine⟨hS.up,by simp,fun a l b hb=>?_⟩;rw[dA.1 hb];have:=hS.low a l;show a.first<z.first+z.recs.length;have e:(Sg.mk z.first z.recs (bK z.recs)).first=z.first:=rfl;omega
  ·intro a l;rcases fQ.1 l with l|l
   ·exact h.full a l
   ·rw[dA.1 l];exact⟨by show 4096≤bK z.recs;omega,h.zs,rfl⟩
  ·show bK [t]≤_;simp[bK];omega
  ·intro s hs X t' i;rcases fQ.1 hs with hs|hs
   ·exact hS.short s hs X t' i
   ·rw[dA.1 hs]at i;obtain⟨rfl,_⟩:=FK (show []++ [t]=X++ [t']from i);decide
  ·exact rI (z:=z) (by rfl) (by rfl) h.link
  ·intro s hs x i;rcases fQ.1 hs with hs|hs
   ·exact hS.rl s hs x i
   ·rw[dA.1 hs]at i;rw[dA.1 (show x∈ [t]from i)];exact G
end
def cA (S:List Sg):List Nm:=S.flatMap Sg.recs
theorem iQ (A:List Sg)(z:Sg):cA (A++ [z])=cA A++z.recs:=by simp[cA]
theorem xw (A:List Sg)(z:Sg)(t:Nm):cA ((nF A z t).1++ [(nF A z t).2])=cA (A++ [z])++ [t]:=by
 unfold nF;cases decide (bK z.recs<4096)<;>simp[cA]
theorem o8 (A:List Sg)(z:Sg)(t:Nm):(nF A z t).2.next=z.next+1:=by
 unfold nF;cases decide (bK z.recs<4096)
 ·rfl
 ·simp[Sg.next];omega
theorem FN (A:List Sg)(z:Sg)(t:Nm):(nF A z t).1.length≤A.length+1:=by
 unfold nF;cases decide (bK z.recs<4096)<;>simp
theorem um (A:List Sg)(z:Sg)(t:Nm):((nF A z t).1++ [(nF A z t).2]).head?.map Sg.first=(A++ [z]).head?.map Sg.first:=by
 unfold nF;cases decide (bK z.recs<4096)<;>cases A<;>simp
section
variable {nm:ByteArray}{A:List Sg}{z:Sg}{g:Lg}{d:Ds}
theorem yp:∀(L:List Nm) {A:List Sg}{z:Sg}{g:Lg}{d:Ds},Good nm A z g d→(∀t∈L,t.length≤65536)→z.next+L.length≤1000000→A.length+L.length≤63→
 ∃A' a g' b,layAll (L.map bB) g d=(0,g',b)∧Good nm A' a g' b∧cA (A'++ [a])=cA (A++ [z])++L∧a.next=z.next+L.length∧A'.length≤A.length+L.length∧(A'++ [a]).head?.map Sg.first=(A++ [z]).head?.map Sg.first
 | [],A,z,g,d,h,_,_,_=>⟨A,z,g,d,rfl,h,by simp,by simp,by simp,rfl⟩
 |t::L,A,z,g,d,h,hl,hn,l=>by
  simp only[iY]at hn l;obtain⟨g1,d1,he,e⟩:=FM h t (hl t (by simp)) (by omega) (.inr (by omega));have c:=o8 A z t;have hy:=FN A z t;obtain⟨A',a,g',b,f,i,j,m,n,k⟩:=yp L e (fun x c=>hl x (by simp[c])) (by omega) (by omega);refine⟨A',a,g',b,?_,i,?_,?_,?_,?_⟩
  ·rw[kT,layAll,he];exact f
  ·rw[j,xw,eY];rfl
  ·simp only[iY];omega
  ·simp only[iY];omega
  ·rw[k,um]
theorem yq (h:Good nm A z g d)(L:List Nm)(hl:∀t∈L,t.length≤65536)(hn:z.next+L.length≤1000000)(f:A.length+L.length≤63):
 ∃A' a g' b,g.append d (L.map bB)=(0,g',b)∧Good nm A' a g' b∧cA (A'++ [a])=cA (A++ [z])++L∧a.next=z.next+L.length∧A'.length≤A.length+L.length∧(A'++ [a]).head?.map Sg.first=(A++ [z]).head?.map Sg.first:=by
 obtain⟨A',a,g',b,c,e⟩:=yp L h hl hn f;refine⟨A',a,g',b,?_,e⟩;unfold Lg.append;have:(L.map bB).any jJ=false:=by
  rw[wU];intro x j;obtain⟨t,i,rfl⟩:=jq.1 j;have:=hl t i;simp[jJ,jW];omega
 rw[this,aN,c]
theorem NI (L:List Nm):(wI L).data.toList=frames L:=by simp[wI]
theorem IB (h:Good nm A z g d):gQ d nm=(0,(A++ [z]).map Sg.first,d):=by
 have hs:eO nm.data.toList (bA d.fs)=(A++ [z]).map Sg.first:=by
  unfold eO bA;rw[h.fs,nY];have a:=h.TS;generalize A++ [z]=S at a;induction S with
  |nil=>rfl
  |cons s S ih=>
   rw[kT,List.filterMap_cons];have:iX nm.data.toList (((·.1)∘Sg.file nm) s)=some s.first:=rF _ (a s (by simp));rw[this,ih (fun x b=>a x (by simp[b]))];rfl
 unfold gQ;rw[hs];have:((A++ [z]).map Sg.first).isEmpty=false:=by cases A<;>rfl
 rw[this,aN]
theorem Lv {X Y:Fs}{n:Nm}{f:Fi}(h:dI (X++(n,f)::Y)):gN (X++(n,f)::Y) n f=X++(n,f)::Y:=rz h
theorem IC (h:Good nm A z g d){X Y:List Sg}{s:Sg}(hs:A++ [z]=X++s::Y):(d.truncate (aZ nm s.first) (bK s.recs)).2=d:=by
 have b:s.k≤bK s.recs:=by
  have hm:s∈A++ [z]:=(by rw[hs];simp);rcases fQ.1 hm with hm|hm
  ·rw[(h.full s hm).2.2];exact bM _
  ·rw[dA.1 hm];exact h.zk
 unfold Ds.truncate;rw[h.open hs];dsimp only;rw[jX,aJ (by omega:¬((bK s.recs:Int)<0)),aJ (by omega:¬((bK s.recs:Int)<(bK s.recs:Int)))];have c:(wI s.recs).extract 0 (bK s.recs)=wI s.recs:=by
  rw[←jX];apply q5;rw[RW];exact Array.extract_size
 have hm:min s.k (bK s.recs)=s.k:=qE b;have hp:gN d.fs (aZ nm s.first).data.toList ⟨wI s.recs,s.k⟩=d.fs:=by
  have a:=h.rising;rw[h.fs,hs,fI,kT]at a⊢;exact Lv a
 show(bif (0:Int)==0 then(bif false||false then(5,d)else(0,d.with (gN d.fs (aZ nm s.first).data.toList ⟨(wI s.recs).extract 0 ((bK s.recs:Int)).toNat,min s.k ((bK s.recs:Int)).toNat⟩)))else(0,d)).2=d
 rw[nW,c,hm,hp];rfl
theorem FP (h:Good nm A z g d):∀(Y X:List Sg) (n:Nat),A++ [z]=X++Y→(Y.head?.map Sg.first).getD n=n→
 (Y.map Sg.first).foldl (c7 nm) ⟨true,X.map Sg.first,n,cA X,d⟩=⟨true,(X++Y).map Sg.first,(Y.getLast?.map Sg.next).getD n,cA (X++Y),d⟩
 | [],X,n,_,_=>by simp
 |s::Y,X,n,c,hn=>by
  have hn:s.first=n:=(by simpa using hn);have a:c7 nm ⟨true,X.map Sg.first,n,cA X,d⟩ s.first=⟨true,(X++ [s]).map Sg.first,s.next,cA (X++ [s]),d⟩:=by
   unfold c7 lu.recs;dsimp only;rw[h.look c,NI,K9 _ (h.rl s (by rw[c];simp)),jX,IC h c,aM hn,aM rfl, ←hn];simp[cA,Sg.next]
  rw[kT,qX,a,FP h Y (X++ [s]) s.next (by rw[c];simp) ?_]
  ·cases Y with
   |nil=>simp
   |cons b Y=>
    obtain⟨q,e⟩:∃q,(b::Y).getLast?=some q:=⟨_,List.getLast?_eq_some_getLast (by simp)⟩;rw[List.getLast?_cons_cons,e,eY];rfl
  ·cases Y with
   |nil=>rfl
   |cons b Y=>
    have hl:=h.link;rw[c]at hl;have:=(yo hl).1
    simpa using this.symm
theorem Lw (h:Good nm A z g d):mJ nm ((A++ [z]).map Sg.first) (kH nm ((A++ [z]).map Sg.first) d)=(g,cA (A++ [z]),(d.sync g.last).2):=by
 have a:kH nm ((A++ [z]).map Sg.first) d=⟨true,(A++ [z]).map Sg.first,z.next,cA (A++ [z]),d⟩:=by
  unfold kH;have:=FP h (A++ [z]) [] (((A++ [z]).map Sg.first).headD 0) rfl (by cases A<;>simp)
  simpa [cA]using this
 unfold mJ;rw[a];dsimp only;have b:(⟨nm,(A++ [z]).map Sg.first,z.next⟩:Lg)=g:=h.g.symm;have hl:aZ nm (nC ((A++ [z]).map Sg.first))=g.last:=(by unfold Lg.last;rw[h.g]);rw[b,hl,List.drop_length];rfl
end
end
section
open Go.Proofs.Tryz
open Go.RowKit Go.Joins Go.Deep
def rJ:Nat→Nat→Nat
 |0,c=>c
 |k+1,c=>rJ k (gF c)
theorem Ar:∀(k c:Nat),rJ (k+1) c=gF (rJ k c)
 |0,_=>rfl
 |k+1,c=>by rw[rJ,Ar k];rfl
theorem IE (c x:Nat):rJ 8 (c^^^x)=q_ c x:=by
 unfold q_;rw[←Il];rfl
theorem NJ {c:Nat}(h:c<2^32):gF c<2^32:=by
 unfold gF;cases c%2==1
 ·show c/2<_;omega
 ·exact DH (by omega) (by decide)
theorem FQ:∀(k:Nat) {c:Nat},c<2^32→rJ k c<2^32
 |0,_,h=>h
 |k+1,_,h=>FQ k (NJ h)
theorem FR (Q:Nat)(a:Q<2^32):(Q%2=1∧∃Y,Y=gF Q∧bits .xor .u32 ((Q:Int)/2) 3988292384=(Y:Int))∨(Q%2=0∧∃Y,Y=gF Q∧(Q:Int)/2=(Y:Int)):=by
 rcases Dw Q with h|h
 ·refine .inr ⟨h,_,rfl,?_⟩;unfold gF;rw[h];show _=((Q/2:Nat):Int);omega
 ·refine .inl ⟨h,_,rfl,?_⟩;have:=u32_xor_nat (Q/2) 3988292384 (by omega) (by omega);rw[show((Q:Int)/2)=((Q/2:Nat):Int)by omega];unfold gF;rw[h];exact this
theorem NK (w:World)(s:ByteArray)(hs:(s.size:Int)≤9223372036854775806):Calls prog 282 #[.string s] w (qW w ((.int .u32 (pT s.data.toList)))):=by
 (go_enter func282,ntmps282);go_wp2
 go_loop [3,4] (fun c i=>∃j:Nat,j≤s.size∧i=qI j∧c= .int .u32 (Fb (s.data.toList.take j) 4294967295)) (fun _ i=>s.size-(intOf i).toNat)
 case atStart=>exact⟨0,aX _,rfl,rfl⟩
 case round=>
  obtain⟨j,G,rfl,rfl⟩:=hrel;have a:=DM (s.data.toList.take j) (c:=4294967295) (by decide);by_cases p:j<s.size
  ·have g:=CG s j p;obtain⟨Q,h⟩:=ay (Fb (s.data.toList.take j) 4294967295);have C:=af h;rw[←h]at a;have n:=s[j].toNat_lt;obtain⟨t,f⟩:=ay (s[j]);have v:s[j]'p=t:=f.symm;rw[←f]at n g;obtain⟨X,u,r,e1,e0⟩:=u_ Q t.toNat a n;have y:aj (rJ 8 X=Fb (s.data.toList.take (j+1)) 4294967295):=(by rw[g,Fe, ←h,u,IE];exact af rfl);have h0:(0:Int)≤(j:Int):=(by omega);have D:(j:Int)<(s.size:Int):=(by omega);have E:(j:Int)+1≤9223372036854775807:=(by omega);rw[←h];clear h u g f;go_wp2
   go_loop [3,5] (fun c k=>∃m:Nat,m≤8∧k=qI m∧c= .int .u32 (rJ m X)) (fun _ k=>8-(intOf k).toNat)
   case atStart=>exact⟨0,aX _,rfl,rfl⟩
   case round=>
    obtain⟨m,hm,rfl,rfl⟩:=hrel;have hl:=FQ m r;by_cases z:m<8
    ·have d:=af (Ar m X);obtain⟨Y,q⟩:=ay (rJ m X);rw[←q]at hl d;rw[←q];have F:(m:Int)<8:=(by omega);rcases FR Y hl with⟨A,Z,l,e2⟩|⟨A,Z,l,e2⟩
     ·have e3:(Y:Int)%2=1:=(by omega);have b:aj (Z=rJ (m+1) X):=af (by rw[d.o,l]);clear l q;go_wp2
      go_round
      case rel=>exact⟨m+1,by omega,by go_num,by rw[←b.o]⟩
      case measure=>simp[intOf];omega
     ·have e3:(Y:Int)%2=0:=(by omega);have b:aj (Z=rJ (m+1) X):=af (by rw[d.o,l]);clear l q;go_wp2
      go_round
      case rel=>exact⟨m+1,by omega,by go_num,by rw[←b.o]⟩
      case measure=>simp[intOf];omega
    ·obtain rfl:m=8:=(by omega);rw[y.o]at hl⊢;go_wp2
     go_round
     case rel=>exact⟨j+1,by omega,by go_num,rfl⟩
     case measure=>simp[intOf];omega
  ·obtain rfl:j=s.size:=(by omega);have B:s.data.toList.take s.size=s.data.toList:=fA (by simp);rw[B]at a⊢;obtain⟨R,e⟩:=ay (Fb s.data.toList 4294967295);have x:aj ((pT s.data.toList:Int)=4294967295-(R:Int)):=(by rw[e];unfold pT;exact af (by omega));rw[←e]at a⊢;clear e;go_wp2;go_ret;exact⟨by rw[x.o];rfl,rfl⟩
def M4:Nat→Nat→Nm
 |0,_=> []
 |k+1,n=>M4 k (n/256)++ [UInt8.ofNat n]
theorem Au:∀(k n:Nat),(M4 k n).length=k
 |0,_=>rfl
 |k+1,n=>by unfold M4;rw[cr,Au k];rfl
theorem Vf (n:Nat):M4 3 n=EX n:=by
 unfold EX;simp only[M4,tD,nA,List.cons.injEq,and_true];rw[RX]
theorem Vg (n:Nat):M4 4 n=EY n:=by
 unfold EY;simp only[M4,tD,nA,List.cons.injEq,and_true];simp only[RX,Nat.reduceMul,and_self]
theorem NL (W:World)(g:Nat)(b:Nat)(c:Nat)(h:ai W g 0 1=some [.int .u8 ((b%256:Nat):Int)]):(convert 184 9 (.slice (some ⟨g,0,none⟩) 1 c)).run prog W= .ok (.string ⟨#[UInt8.ofNat b]⟩) W:=by
 rw[zA _ _ _ _ _ _ _ underlying184 underlying5 underlying9,
  run_bytesToString _ _ _ _ [((b%256:Nat):Int)] ?_,oZ]
 ·have e:UInt8.ofNat (b%256)=UInt8.ofNat b:=(by apply tU.1;rw[mZ,mZ];omega);show Result.ok (Value.string ⟨([UInt8.ofNat (Int.toNat ((b%256:Nat):Int))]).toArray⟩) W=_;rw[nW,e]
 ·show(mT _ _).run prog _=_;rw[lN,h];rfl
theorem FT (k:Nat):∀(n:Nat) (c:Int) (w:World),c=(k:Int)→k≤8→(n:Int)≤9223372036854775807→Calls prog 281 #[qI n,qI c] w (qG w ((.string ⟨(M4 k n).toArray⟩))):=by
 induction k with
 |zero=>
  intro n c w a _ _;have K:c=0:=a;subst K;clear a;(go_enter func281,ntmps281);(go_wp2_with fail);go_ret;exact⟨rfl,aA _⟩
 |succ k ih=>
  intro n c w a v hn;have G:¬c=0:=(by omega);have E:c-1=(k:Int):=(by omega);have z:(1:Int)≤c:=(by omega);have A:c≤8:=(by omega);have h0:(0:Int)≤(n:Int):=(by omega);obtain⟨q,L,l⟩:∃q:Nat,(n:Int)/256=(q:Int)∧q=n/256:=⟨n/256,by omega,rfl⟩;obtain⟨b,hb,i⟩:∃b:Nat,(n:Int)%256=(b:Int)∧b=n%256:=⟨n%256,by omega,rfl⟩;have u:(b:Int)%256=(b:Int):=(by omega);have J:(n:Int).tmod 256=(b:Int):=(by rw[Ic h0,hb]);have B:IntKind.u8.wrap (b:Int)=(b:Int):=(by rw[IntKind.wrap_u8];exact u);have I:IntKind.i64.wrap (q:Int)=(q:Int):=(by rw[cI];omega);have F:IntKind.i64.wrap (k:Int)=(k:Int):=(by rw[cI];omega);obtain⟨H,m⟩:=ay (⟨(M4 k q).toArray⟩:ByteArray);obtain⟨T,p⟩:=ay (⟨#[UInt8.ofNat n]⟩:ByteArray);have D:∀(W:World) (g:Nat),ai W g 0 1=some [.int .u8 (b:Int)]→(convert 184 9 (.slice (some ⟨g,0,none⟩) 1 1)).run prog W= .ok (.string T) W:=fun W g h=>by
   rw[p];refine NL W g n 1 ?_;rw[h,i]
  have s:H.size=k:=(by rw[m];show(M4 k q).toArray.size=k;rw[xV,Au]);have t:T.size=1:=(by rw[p];rfl);have y:∀W:World,(Op.stringOp .add H T).run prog W= .ok (.string (H++T)) W:=fun W=>kD W _ _ (by omega);have j:ai (w.alloc (.cells #[.int .u8 (b:Int)] 5)).drew w.heap.size 0 1=some [.int .u8 (b:Int)]:=(by simp[go_sem]);have HH:=af m;have f:aj ((H++T)=⟨(M4 (k+1) n).toArray⟩):=by
   refine af (fW ?_);rw[m,p,M4,l];simp[vz]
  have r:=af (fun W=>ih q (k:Int) W rfl (by omega) (by omega));clear a ih l i m p s t v;(go_enter func281,ntmps281);go_wp2_with fail
  go_region_with (go_at_call 281;refine(r.o _).mono ?_;rintro e w1 ⟨rfl,d⟩;rw[←HH.o];(try have C:=d.ai j);have x:=af d;clear d)
  all_goals
   go_wp2;rw[f.o];go_ret;exact⟨rfl,by first|exact(((aA w).alloc _).drew).aK x.out|exact(((aA w).drew).aK x.out).alloc _⟩
theorem Vh (t:Nm):(bI (bB t)).size=t.length+7:=kr t
theorem Av (w:World)(s:ByteArray)(hs:(s.size:Int)≤65536):Calls prog 237 #[.string s] w (qG w ((.tuple #[.string (bI s),qI 0]))):=by
 have hd:decide ((65536:Int)<(s.size:Int))=false:=aJ (by omega);obtain⟨H,h⟩:=ay (⟨(EX s.size).toArray⟩:ByteArray);have j:H.size=3:=(by rw[h];rfl);have b:∀W:World,(Op.stringOp .add H s).run prog W= .ok (.string (H++s)) W:=fun W=>kD W _ _ (by omega);obtain⟨C,hC⟩:=ay (pT (H++s).data.toList);obtain⟨T,i⟩:=ay (⟨(EY C).toArray⟩:ByteArray);have l:T.size=4:=(by rw[i];rfl);have k:(H++s).size=3+s.size:=(by rw[qB];omega);have c:∀W:World,(Op.stringOp .add (H++s) T).run prog W= .ok (.string (H++s++T)) W:=fun W=>kD W _ _ (by omega);have a:aj ((H++s++T)=bI s):=by
  refine af (fW ?_);have e2:s.data.toList.length=s.size:=(by simp);rw[i,hC];unfold bI cM;rw[e2];simp[vz,h]
 have v:(C:Int)<4294967296:=(by rw[hC];have:=zc (H++s).data.toList;omega);have u:(0:Int)≤(C:Int):=(by omega);have HH:=af h;have q:=af i;have p:=af hC;have g:((H++s).size:Int)≤9223372036854775806:=(by omega);obtain⟨U,m⟩:∃U:ByteArray,H++s=U:=⟨_,rfl⟩;rw[m]at a p g c;have n:∀W:World,(Op.stringOp .add H s).run prog W= .ok (.string U) W:=fun W=>(by rw[b W,m]);clear h j l i hC k b m;(go_enter func237,ntmps237);(go_wp2_with fail);refine(FT 3 s.size 3 _ rfl (by omega) (by omega)).mono ?_;rintro e w1 ⟨rfl,d⟩;rw[Vf, ←HH.o];have r:=af d;clear d;(go_wp2_with fail);refine(NK _ U g).mono ?_;rintro e w2 ⟨rfl,rfl⟩;rw[←p.o];(go_wp2_with fail);refine(FT 4 C 4 _ rfl (by omega) (by omega)).mono ?_;rintro e w2 ⟨rfl,f⟩;rw[Vg, ←q.o];have t:aj (ah No w w2):=r.o.aK f;clear f;go_wp2;rw[a.o]
 go_ret2
 exact⟨rfl,t.o⟩
theorem Lx (j:Nat)(h:j<10):(⟨#[48,49,50,51,52,53,54,55,56,57]⟩:ByteArray).extract j (j+1)=⟨#[UInt8.ofNat (48+j)]⟩:=by
 have:∀j:Fin 10,(⟨#[48,49,50,51,52,53,54,55,56,57]⟩:ByteArray).extract j.1 (j.1+1)=⟨#[UInt8.ofNat (48+j.1)]⟩:=(by decide);exact this ⟨j,h⟩
theorem IG (k:Nat):∀(n:Nat) (c:Int) (w:World),c=(k:Int)→k≤8→(n:Int)≤9223372036854775807→Calls prog 229 #[qI n,qI c] w fun e w'=>e= .returned (.string ⟨(yj k n).toArray⟩)∧∃m,w'=w.drewN m:=by
 induction k with
 |zero=>
  intro n c w a _ _;have K:c=0:=a;subst K;clear a;(go_enter func229,ntmps229);(go_wp2_with fail);go_ret;exact⟨rfl,0,rfl⟩
 |succ k ih=>
  intro n c w a s hn;have E:¬c=0:=(by omega);have C:c-1=(k:Int):=(by omega);have x:(1:Int)≤c:=(by omega);have y:c≤8:=(by omega);have h0:(0:Int)≤(n:Int):=(by omega);obtain⟨q,F,h⟩:∃q:Nat,(n:Int)/10=(q:Int)∧q=n/10:=⟨n/10,by omega,rfl⟩;obtain⟨b,hb,g⟩:∃b:Nat,(n:Int)%10=(b:Int)∧b=n%10:=⟨n%10,by omega,rfl⟩;have J:(n:Int).tmod 10=(b:Int):=(by rw[Ic h0,hb]);have I:(n:Int).tdiv 10=(q:Int):=(by rw[Cw h0,F]);have G:IntKind.i64.wrap (q:Int)=(q:Int):=(by rw[cI];omega);have D:IntKind.i64.wrap (k:Int)=(k:Int):=(by rw[cI];omega);have B:IntKind.i64.wrap ((b:Int)+1)=(b:Int)+1:=(by rw[cI];omega);have v:(0:Int)≤(b:Int):=(by omega);have z:(b:Int)+1≤10:=(by omega);have r:b<10:=(by omega);have A:b+1≤10:=(by omega);have t:(b:Int)≤(b:Int)+1:=(by omega);have hcut:=Lx b r;obtain⟨H,f⟩:=ay (⟨(yj k q).toArray⟩:ByteArray);obtain⟨T,i⟩:=ay (⟨#[UInt8.ofNat (48+b)]⟩:ByteArray);rw[←i]at hcut;have l:H.size=k:=(by rw[f];show(yj k q).toArray.size=k;rw[xV,jv]);have p:T.size=1:=(by rw[i];rfl);have u:∀W:World,(Op.stringOp .add H T).run prog W= .ok (.string (H++T)) W:=fun W=>kD W _ _ (by omega);have HH:=af f;have d:aj ((H++T)=⟨(yj (k+1) n).toArray⟩):=by
   refine af (fW ?_);rw[f,i,yj,h,g];simp[vz]
  have j:aj (∀W,Calls prog 229 #[qI q,qI k] W fun e w'=>e= .returned (.string H)∧∃m,w'=W.drewN m):=af (fun W=>by rw[f];exact ih q (k:Int) W rfl (by omega) (by omega));clear a ih h g f i l p s;(go_enter func229,ntmps229);go_wp2_with fail
  go_quiet (first|(go_at_call 229;with_reducible exact Calls.quiet_of (j.o _)))
  go_wp2;rw[d.o];go_ret;exact⟨rfl,_,rfl⟩
theorem mV (w:World)(nm:ByteArray)(k:nm.size≤100)(n:Nat)(hn:n<100000000):Calls prog 171 #[.string nm,qI n] w fun e w'=>e= .returned (.string (aZ nm n))∧∃m,w'=w.drewN m:=by
 obtain⟨D,d⟩:=ay (⟨(yj 8 n).toArray⟩:ByteArray);have f:D.size=8:=(by rw[d];show(yj 8 n).toArray.size=8;rw[xV,jv]);have b:∀W:World,(Op.stringOp .add nm ⟨#[46]⟩).run prog W= .ok (.string (nm++⟨#[46]⟩)) W:=fun W=>kD W _ _ (by have:(⟨#[46]⟩:ByteArray).size=1:=rfl;omega);have g:(nm++⟨#[46]⟩).size=nm.size+1:=(by rw[qB];rfl);have c:∀W:World,(Op.stringOp .add (nm++⟨#[46]⟩) D).run prog W= .ok (.string (nm++⟨#[46]⟩++D)) W:=fun W=>kD W _ _ (by omega);have a:aj ((nm++⟨#[46]⟩++D)=aZ nm n):=by
  refine af (fW ?_);show _=(iO nm.data.toList n).toArray.toList;rw[o7 _ hn,d];simp[vz]
 obtain⟨U,h⟩:∃U:ByteArray,nm++⟨#[46]⟩=U:=⟨_,rfl⟩;rw[h]at a c;have i:∀W:World,(Op.stringOp .add nm ⟨#[46]⟩).run prog W= .ok (.string U) W:=fun W=>(by rw[b W,h]);have j:=af d;clear b g f d h;(go_enter func171,ntmps171);(go_wp2_with fail);refine(IG 8 n 8 _ rfl (by omega) (by omega)).mono ?_;rintro e w1 ⟨rfl,m,rfl⟩;rw[←j.o];go_wp2;rw[a.o];go_ret;exact⟨rfl,_,rfl⟩
end
section
open Go.Proofs.Tryz
open Go.RowKit Go.Shelf Go.Joins Go.Deep
theorem FU {S:Nm}(a:3≤S.length)(hn:n3 S≤65536)(hl:n3 S+7≤S.length):eB S=bif decide (cM ((S.drop 3).take (n3 S))=S.take (7+n3 S))then some ((S.drop 3).take (n3 S))else none:=by
 obtain⟨n,d⟩:=ay (n3 S);have e3:=Nj S a;unfold eB;rw[fC (by omega),fC (by omega),fC (by omega)];rw[←d]at hn hl e3⊢;have f:((S.drop 3).take n).length=n:=(by rw[fB,jQ];omega);have hA:S.take 3++(S.drop 3).take n=S.take (3+n):=(by rw[List.take_add]);have b:S.take (7+n)=S.take (3+n)++(S.drop (3+n)).take 4:=(by rw[show 7+n=3+n+4 by omega,List.take_add]);have c:cM ((S.drop 3).take n)=S.take (3+n)++EY (pT (S.take (3+n))):=by
  unfold cM;rw[f,e3,hA]
 rw[c,b];by_cases h:EY (pT (S.take (3+n)))=(S.drop (3+n)).take 4
 ·rw[dM h,h,aM rfl];rfl
 ·rw[fC h,aJ (fun e=>h (List.append_cancel_left e))];rfl
theorem D1 {S:Nm}(h:S.length<3):eB S=none:=by unfold eB;rw[dM h]
theorem II {S:Nm}(h:65536<n3 S):eB S=none:=by
 unfold eB;by_cases a:S.length<3
 ·rw[dM a]
 ·rw[fC a,dM h]
theorem IJ {S:Nm}(h:S.length<n3 S+7):eB S=none:=by
 unfold eB;by_cases a:S.length<3
 ·rw[dM a]
 ·by_cases b:65536<n3 S
  ·rw[fC a,dM b]
  ·rw[fC a,fC b,dM (by omega)]
theorem QB (s:ByteArray)(at':Nat)(h:at'+3≤s.size):n3 (s.data.toList.drop at')=(s[at']'(by omega)).toNat*65536+(s[at'+1]'(by omega)).toNat*256+(s[at'+2]'(by omega)).toNat:=by
 have hs:s.data.toList.length=s.size:=(by rw[qR];rfl);have g:∀j,j<3→∀a:at'+j<s.size,(s.data.toList.drop at').getD j 0=s[at'+j]:=fun j _ a=>by
  rw[xQ,zy,fw (by rw[hs];exact a)];simp[ByteArray.getElem_eq_getElem_data]
 unfold n3;rw[g 0 (by omega) (by omega),g 1 (by omega) (by omega),g 2 (by omega) (by omega)];rfl
def fT (w:World)(s:ByteArray)(at':Nat)(e:Ending)(w':World):Prop:=ah No w w'∧match eB (s.data.toList.drop at')with
 |some t=>e= .returned (.tuple #[.string (bB t),.int .i64 (at'+7+t.length:Nat),.int .i64 0])
 |none=>∃ec:Int,ec≠0∧e= .returned (.tuple #[.string ⟨#[]⟩,.int .i64 0,.int .i64 ec])
theorem fT.no {w w':World}{s:ByteArray}{at':Nat}{ec:Int}(h:eB (s.data.toList.drop at')=none)(he:ec≠0)(k:ah No w w'):fT w s at' (.returned (.tuple #[.string ⟨#[]⟩,qI 0,qI ec])) w':=by
 unfold fT;rw[h];exact⟨k,ec,he,rfl⟩
theorem fT.yes {w w':World}{s:ByteArray}{at':Nat}{t:Nm}(h:eB (s.data.toList.drop at')=some t)(k:ah No w w'):fT w s at' (.returned (.tuple #[.string (bB t),qI (at'+7+t.length:Nat),qI 0])) w':=by
 unfold fT;rw[h];exact⟨k,rfl⟩
theorem IK (w:World)(s:ByteArray)(at':Nat)(aq:at'≤s.size)(hs:(s.size:Int)≤4611686018427387904):Calls prog 231 #[.string s,qI at'] w (fT w s at'):=by
 have hs:(s.size:Int)≤4611686018427387904:=hs;have j:s.data.toList.length=s.size:=(by rw[qR];rfl);have m:(s.data.toList.drop at').length=s.size-at':=(by rw[jQ,j]);have a0:(0:Int)≤(at':Int):=(by omega);have ai:(at':Int)≤(s.size:Int):=(by omega);have w0:IntKind.i64.wrap ((s.size:Int)-(at':Int))=(s.size:Int)-(at':Int):=(by rw[cI];omega);by_cases ak:(s.size:Int)-(at':Int)<3
 ·have a:=af (fT.no (s:=s) (at':=at') (ec:=4) (D1 (by omega)) (by decide) (aA w));clear j m;(go_enter func231,ntmps231);go_wp2;refine aY (v:= .tuple #[.string ⟨#[]⟩,qI 0,qI 4]) ?_ rfl a.o;simp[results,results231]
 have A:at'+3≤s.size:=(by omega);have b0:at'<s.size:=eU (by omega) A;have b1:at'+1<s.size:=eU (by omega) A;have G:at'+2<s.size:=eU (by omega) A;have g:=QB s at' A;obtain⟨N,H⟩:=ay (n3 (s.data.toList.drop at'));obtain⟨x0,n⟩:=ay (s[at']'b0);obtain⟨C,p⟩:=ay (s[at'+1]'b1);obtain⟨D,q⟩:=ay (s[at'+2]'G);rw[←H, ←n, ←p, ←q]at g;have z0:=x0.toNat_lt;have Z:=C.toNat_lt;have z2:=D.toNat_lt;have P:s[at']'b0=x0:=n.symm;have j1:s[at'+1]'b1=C:=p.symm;have j2:s[at'+2]'G=D:=q.symm;have t1:((at':Int)+1).toNat=at'+1:=(by omega);have t2:((at':Int)+2).toNat=at'+2:=(by omega);have k1:∀h,s[((at':Int)+1).toNat]'h=C:=fun h=>(by simp only[t1];exact j1);have Q:∀h,s[((at':Int)+2).toNat]'h=D:=fun h=>(by simp only[t2];exact j2);have w1:IntKind.i64.wrap ((at':Int)+1)=(at':Int)+1:=(by rw[cI];omega);have w2:IntKind.i64.wrap ((at':Int)+2)=(at':Int)+2:=(by rw[cI];omega);have p0:(at':Int)<(s.size:Int):=(by omega);have R:(at':Int)+1<(s.size:Int):=(by omega);have U:(at':Int)+2<(s.size:Int):=(by omega);have V:(0:Int)≤(at':Int)+1:=(by omega);have Y:(0:Int)≤(at':Int)+2:=(by omega);have r:=af H;clear t1 t2;have L:=af g;have d:=af (And.intro j m);clear H n p q j m;(go_enter func231,ntmps231);have O:(x0.toNat:Int)*65536+(C.toNat:Int)*256+(D.toNat:Int)=(N:Int):=(by omega);go_upto_region 5 with fail
 go_cut [7] (fun v wx=>v=qI N∧wx=w.drew)
 case first=>
  go_region
  (go_wp2_with fail);go_meet;exact⟨fJ (Value.int .i64) (by omega),rfl⟩
 case rest=>
  obtain⟨hv,hw⟩:=hcut;subst hv;subst hw;have M:=af g;clear g z0 Z z2 P j1 j2 k1 Q w1 w2 p0 R U V Y;clear O b0 b1 G;by_cases hb:65536<(N:Int)
  ·have a:=af (fT.no (s:=s) (at':=at') (ec:=2) (II (by have:=r.o;omega)) (by decide) ((aA w).drew));go_wp2;refine aY (v:= .tuple #[.string ⟨#[]⟩,qI 0,qI 2]) ?_ rfl a.o;simp[results,results231]
  by_cases hc:(s.size:Int)-(at':Int)<(N:Int)+7
  ·have a:=af (fT.no (s:=s) (at':=at') (ec:=4) (IJ (by have:=r.o;have:=d.o.2;omega)) (by decide) ((aA w).drew));go_wp2;refine aY (v:= .tuple #[.string ⟨#[]⟩,qI 0,qI 4]) ?_ rfl a.o;simp[results,results231]
  have m1:IntKind.i64.wrap ((at':Int)+3)=(at':Int)+3:=(by rw[cI];omega);have m2:IntKind.i64.wrap ((at':Int)+3+(N:Int))=(at':Int)+3+(N:Int):=(by rw[cI];omega);have m3:IntKind.i64.wrap ((at':Int)+7)=(at':Int)+7:=(by rw[cI];omega);have m4:IntKind.i64.wrap ((at':Int)+7+(N:Int))=(at':Int)+7+(N:Int):=(by rw[cI];omega);have g1:(0:Int)≤(at':Int)+3:=(by omega);have g2:(at':Int)+3≤(at':Int)+3+(N:Int):=(by omega);have g3:(at':Int)+3+(N:Int)≤(s.size:Int):=(by omega);have g4:(at':Int)≤(at':Int)+7+(N:Int):=(by omega);have g5:(at':Int)+7+(N:Int)≤(s.size:Int):=(by omega);obtain⟨T,I⟩:=ay (s.extract (at'+3) (at'+3+N));obtain⟨X,J⟩:=ay (s.extract at' (at'+7+N));have c:T.data.toList=((s.data.toList.drop at').drop 3).take N:=by
   rw[I, ←fP,Lib.extract_toList,List.drop_drop,Nat.add_sub_cancel_left]
  have u:X.data.toList=(s.data.toList.drop at').take (7+N):=by
   rw[J, ←fP,Lib.extract_toList,show at'+7+N-at'=7+N by omega]
  have i:T.data.toList.length=N:=(by rw[c,fB,jQ,d.o.2];omega);have t:(T.size:Int)≤65536:=(by rw[qR]at i;have e:T.size=N:=i;omega);have l:=af (fun W=>Av W T t);obtain⟨F,B⟩:=ay (bI T);rw[←B]at l;have z:aj (eB (s.data.toList.drop at')=bif decide (F=X)then some (((s.data.toList.drop at').drop 3).take N)else none):=af (by
   have h:=FU (S:=s.data.toList.drop at') (by have:=d.o.2;omega) (by have:=r.o;omega) (by have:=r.o;have:=d.o.2;omega);rw[←r.o]at h;have e:decide (F=X)=decide (cM (((s.data.toList.drop at').drop 3).take N)=(s.data.toList.drop at').take (7+N)):=by
    rw[←c, ←u];refine zJ.2 ⟨fun e=>by rw[←e,B];rfl,fun e=>?_⟩;apply fW;rw[B];exact e
   rw[h,e])
  have f:aj (bB (((s.data.toList.drop at').drop 3).take N)=T∧(((s.data.toList.drop at').drop 3).take N).length=N):=af ⟨by rw[←c];rfl,by rw[←c];exact i⟩;clear B c u i t;by_cases b:F=X
  ·have K:(F.toList==X.toList)=true:=(by rw[b];simp);have a:aj (∀w',ah No w w'→fT w s at' (.returned (.tuple #[.string T,qI ((at':Int)+7+(N:Int)),qI 0])) w'):=af (fun w' k=>by
    have h:=z.o;rw[aM b]at h;have y:=fT.yes h k;rw[f.o.1,f.o.2]at y;have e:((at'+7+N:Nat):Int)=(at':Int)+7+(N:Int):=(by omega);rw[e]at y;exact y)
   clear b z f;rw[J]at K;rw[I]at l a;go_wp2_with fail
   (with_reducible refine(l.o _).mono ?_)
   rintro e w1 ⟨rfl,x⟩;have E:=af (((aA w).drew).aK x);clear x l;go_wp2;refine aY (v:= .tuple #[.string (s.extract (at'+3) (at'+3+N)),qI ((at':Int)+7+(N:Int)),qI 0]) ?_ rfl (a.o _ E.o);simp[results,results231]
  ·have K:(F.toList==X.toList)=false:=eD.2 (fun e=>b (fW (by rw[←fP, ←fP];exact e)));have a:aj (∀w',ah No w w'→fT w s at' (.returned (.tuple #[.string ⟨#[]⟩,qI 0,qI 3])) w'):=af (fun w' k=>by
    have h:=z.o;rw[aJ b]at h;exact fT.no h (by decide) k)
   clear b z f;rw[J]at K;rw[I]at l;go_wp2_with fail
   (with_reducible refine(l.o _).mono ?_)
   rintro e w1 ⟨rfl,x⟩;have E:=af (((aA w).drew).aK x);clear x l;go_wp2;refine aY (v:= .tuple #[.string ⟨#[]⟩,qI 0,qI 3]) ?_ rfl (a.o _ E.o);simp[results,results231]
end
section
open Go.Proofs.Tryz
open Go.RowKit
def Ds.wide (d:Ds):Ds:=⟨d.fs,4611686018427387904,d.dead⟩
def Live (nm:ByteArray)(A:List Sg)(z:Sg)(g:Lg)(d:Ds):Prop:=Good nm A z g d.wide
structure QC (nm:ByteArray)(A:List Sg)(z:Sg)(t:Nm)(m:Nat)(d:Ds):Prop where
 good:Good nm A z ⟨nm,(A++ [z]).map Sg.first,z.next⟩ ⟨(A++ [z]).map (Sg.file nm),4611686018427387904,false⟩
 fs:d.fs=A.map (Sg.file nm)++ [(iO nm.data.toList z.first,⟨wI z.recs++bB ((cM t).take m),z.k⟩)]
 lt:m<(cM t).length
 tl:t.length≤65536
theorem Good.wide {nm:ByteArray}{A:List Sg}{z:Sg}{g:Lg}{d:Ds}(h:Good nm A z g d):Live nm A z g d:=
 ⟨h.g,h.fs,h.dead,by show _≤(4611686018427387904:Int);omega,h.up,h.lim,h.SZ,h.P_,h.few,h.full,h.zs,h.short,h.link,h.rl,h.zk⟩
theorem QD (L:List Nm):wI L++bB []=wI L:=by
 apply q5;rw[vz];simp[bB]
theorem Live.half {nm:ByteArray}{A:List Sg}{z:Sg}{g:Lg}{d:Ds}(h:Live nm A z g d):QC nm A z [] 0 d:=by
 refine⟨⟨rfl,rfl,rfl,by show _≤(4611686018427387904:Int);omega,h.up,h.lim,h.SZ,h.P_,h.few,h.full,h.zs,h.short,h.link,h.rl,h.zk⟩,?_,by rw[dD];simp,by simp⟩;have:=h.fs;show d.fs=_;rw[show d.fs=d.wide.fs from rfl,this,List.take_zero,QD,fI]
 rfl
section
variable {d:Ds}{g:Lg}
theorem xx {α:Type}{b:Bool}{x y z:α}(h:(bif b then x else y)=z):(b=true∧x=z)∨(b=false∧y=z):=by
 cases b
 ·exact .inr ⟨rfl,h⟩
 ·exact .inl ⟨rfl,h⟩
theorem yt (n s:ByteArray)(e:Ds)(h:d.wide.append n s=(0,e)):d.append n s=bif decide ((s.size:Int)≤d.room)then(0,⟨e.fs,d.room-s.size,false⟩)else(12,⟨gN d.fs n.data.toList (kg (cu d.fs d.dead n).1 (s.extract 0 d.room.toNat)),0,true⟩):=by
 unfold Ds.append at h⊢;simp only[Ds.wide]at h;rcases xx h with⟨c1,h⟩|⟨c1,h⟩
 ·have a:=fJ Prod.fst h;simp only at a;rw[a]at c1;cases c1
 ·rw[c1,aN];rcases xx h with⟨c2,h⟩|⟨c2,h⟩
  ·cases fJ Prod.fst h
  ·refine(fJ (fun b:Bool=>bif b then((8:Int),d)else _) c2).trans ?_
   rw[aN];rcases xx h with⟨c3,h⟩|⟨c3,h⟩
   ·have a:=fJ Prod.snd h;simp only at a;rw[←a]
   ·cases fJ Prod.fst h
theorem xA (n:ByteArray):(d.wide.sync n).1=(d.sync n).1∧(d.wide.sync n).2=(d.sync n).2.wide∧(d.sync n).2.room=d.room:=by
 unfold Ds.sync;simp only[Ds.wide];cases(cu d.fs d.dead n).2==0
 ·exact⟨rfl,rfl,rfl⟩
 ·exact⟨rfl,rfl,rfl⟩
theorem CQ (n:ByteArray):d.wide.look n=d.look n:=rfl
theorem NM (s:ByteArray)(g':Lg)(q:Ds)(h:g.lay d.wide s=(0,g',q)):
 (∃r,g.lay d s=(0,g',⟨q.fs,r,false⟩))∨
 (∃(F:Fs) (n:ByteArray) (m:Nat),m<(bI s).size∧g.lay d s=(12,g,⟨gN F n.data.toList (kg (cu F d.dead n).1 ((bI s).extract 0 m)),0,true⟩)∧
   ((d.look g.last).s.size<4096∧F=d.fs∧n=g.last∨¬(d.look g.last).s.size<4096∧F=(d.sync g.last).2.fs∧n=g.file g.next∧(d.sync g.last).2.dead=d.dead)):=by
 unfold Lg.lay at h⊢;rw[CQ]at h;have l:∀r:Int,¬((bI s).size:Int)≤r→r.toNat<(bI s).size:=fun r j=>by
  have h0:0<(bI s).size:=by
   show 0<(cM s.data.toList).toArray.size;rw[xV,dD];omega
  omega
 by_cases o:(d.look g.last).s.size<4096
 ·rw[aM o,bH]at h⊢;obtain⟨ap,f⟩:=ay (d.wide.append g.last (bI s));rw[←f]at h;obtain⟨c,e⟩:=ap;simp only at h;cases hc:c==0 with
  |false=>
   rw[hc,aN]at h;have b:=fJ Prod.fst h;simp only at b;rw[b]at hc;cases hc
  |true=>
   rw[hc,bH]at h;have k:c=0:=(by simpa using hc);subst k;have j:=yt g.last (bI s) e f.symm;have b:=fJ Prod.snd h;simp only[Prod.mk.injEq]at b;obtain⟨b,p⟩:=b;by_cases a:((bI s).size:Int)≤d.room
   ·rw[aM a,bH]at j;left;refine⟨d.room-(bI s).size,?_⟩;rw[j, ←b, ←p];rfl
   ·rw[aJ a,aN]at j;right;refine⟨d.fs,g.last,d.room.toNat,l _ a,?_,.inl ⟨o,rfl,rfl⟩⟩;rw[j];rfl
 ·rw[aJ o,aN]at h⊢;cases t:decide (99999999<g.next)with
  |true=>rw[t,bH]at h;cases fJ Prod.fst h
  |false=>
   rw[t,aN]at h;rw[aN];obtain⟨_,s2,u⟩:=xA (d:=d) g.last;rw[s2]at h;obtain⟨ap,f⟩:=ay ((d.sync g.last).2.wide.append (g.file g.next) (bI s));rw[←f]at h;obtain⟨c,e⟩:=ap;simp only at h;cases hc:c==0 with
   |false=>
    rw[hc,aN]at h;have b:=fJ Prod.fst h;simp only at b;rw[b]at hc;cases hc
   |true=>
    rw[hc,bH]at h;have k:c=0:=(by simpa using hc);subst k;have j:=yt (d:=(d.sync g.last).2) (g.file g.next) (bI s) e f.symm;have b:=fJ Prod.snd h;simp only[Prod.mk.injEq]at b;obtain⟨b,p⟩:=b;have i:(d.sync g.last).2.dead=d.dead:=by
     unfold Ds.sync;cases(cu d.fs d.dead g.last).2==0<;>rfl
    by_cases a:((bI s).size:Int)≤(d.sync g.last).2.room
    ·rw[aM a,bH]at j;left;refine⟨(d.sync g.last).2.room-(bI s).size,?_⟩;rw[j, ←b, ←p];rfl
    ·rw[aJ a,aN]at j;right;refine⟨(d.sync g.last).2.fs,g.file g.next,(d.sync g.last).2.room.toNat,l _ a,?_,.inr ⟨o,rfl,rfl,i⟩⟩;rw[j,i];rfl
end
section
variable {nm:ByteArray}{A:List Sg}{z:Sg}{g:Lg}{d:Ds}
theorem yu (t:Nm)(m:Nat):(bI (bB t)).extract 0 m=bB ((cM t).take m):=by
 have a:bI (bB t)=bB (cM t):=(by unfold bI bB;simp);rw[a];apply q5;rw[RW];simp[bB]
def D2 (A:List Sg)(z:Sg):List Sg×Sg:=bif decide (bK z.recs<4096)then(A,z)else(A++ [⟨z.first,z.recs,bK z.recs⟩],⟨z.next,[],0⟩)
theorem NP (A:List Sg)(z:Sg):cA ((D2 A z).1++ [(D2 A z).2])=cA (A++ [z]):=by
 unfold D2;cases decide (bK z.recs<4096)<;>simp[cA]
theorem NQ (h:Live nm A z g d)(t:Nm)(J:t.length≤65536)(hn:z.next+1≤1000000)(j:A.length<62):
 (∃g' l,g.lay d (bB t)=(0,g',l)∧Live nm (nF A z t).1 (nF A z t).2 g' l)∨
 (∃m l,g.lay d (bB t)=(12,g,l)∧l.dead=true∧QC nm (D2 A z).1 (D2 A z).2 t m l):=by
 obtain⟨g',l,hl,K⟩:=FM h t J hn (.inr (by omega));have E:d.dead=false:=h.dead;rcases NM (d:=d) (bB t) g' l hl with⟨r,w⟩|⟨F,n,m,hm,w,D⟩
 ·left;refine⟨g',_,w,?_⟩;have C:=K.wide;have e:l.wide=(⟨l.fs,r,false⟩:Ds).wide:=by
   unfold Ds.wide;rw[K.dead]
  unfold Live at C⊢;rw[e]at C;exact C
 ·right;have u:m<(cM t).length:=(by rw[kr]at hm;rw[dD];exact hm);refine⟨m,_,w,rfl,?_⟩;have G:d.look g.last=⟨wI z.recs,z.k⟩:=(by rw[←CQ,h.last];exact Good.look h (X:=A) (Y:= []) rfl);rw[G]at D;simp only[jX]at D;rcases D with⟨q,rfl,rfl⟩|⟨q,rfl,rfl,M⟩
  ·have e1:D2 A z=(A,z):=(by unfold D2;rw[aM q,bH]);rw[e1];refine⟨(h.half).good,?_,u,J⟩;have L:=Good.open h (X:=A) (Y:= []) rfl;have hp:=Good.put h;simp only[Ds.wide]at L hp;simp only;rw[h.last,L,hp,yu]
  ·have e1:D2 A z=(A++ [⟨z.first,z.recs,bK z.recs⟩],⟨z.next,[],0⟩):=(by unfold D2;rw[aJ q,aN]);rw[e1];have hS:=h.synced;obtain⟨_,s2,_⟩:=xA (d:=d) g.last;rw[s2]at hS;have N:1≤z.recs.length:=by
    cases w:z.recs with
    |nil=>rw[w]at q;exact absurd (by decide) q
    |cons _ _=>simp
   have y:z.next<100000000:=(by have:=h.lim;omega);have o:g.file g.next=aZ nm z.next:=(by rw[h.g];rfl);have H:eV (d.sync g.last).2.fs (aZ nm z.next).data.toList=none:=by
    have i:=hS.fs;simp only[Ds.wide]at i;rw[i];exact vB y (fun s hs=>⟨hS.TS s hs,by have:=hS.low s hs;show s.first≠z.first+z.recs.length;have e:(Sg.mk z.first z.recs (bK z.recs)).first=z.first:=rfl;omega⟩)
   have I:cu (d.sync g.last).2.fs d.dead (aZ nm z.next)=(Fi.none,6):=by
    unfold cu;rw[E,jR,aN];exact DZ (by rw[ku _ y];omega) (by rw[ku _ y];have:=h.P_;omega) H
   have v:∀f,gN (d.sync g.last).2.fs (aZ nm z.next).data.toList f=(d.sync g.last).2.fs++ [(iO nm.data.toList z.next,f)]:=by
    intro f;have:=rA (A:=(d.sync g.last).2.fs) (B:= []) (n:=iO nm.data.toList z.next) (f:=f) (fun a j=>by
     have i:=hS.fs;simp only[Ds.wide]at i;rw[i]at j;obtain⟨s,hs,rfl⟩:=jq.1 j;refine p6 _ ?_ y;have:=hS.low s hs;show s.first<z.first+z.recs.length;have e:(Sg.mk z.first z.recs (bK z.recs)).first=z.first:=rfl;omega) (fun c hc=>absurd hc qU)
    rw[kE]at this;exact this
   refine⟨⟨rfl,rfl,rfl,by show _≤(4611686018427387904:Int);omega,?_,by show z.next+0≤_;omega,h.SZ,h.P_,by simp;omega,?_,by simp[bK],?_,?_,?_,aX _⟩,?_,u,J⟩
   ·rw[nV];refine⟨hS.up,by simp,fun a j b hb=>?_⟩;rw[dA.1 hb];have:=hS.low a j;show a.first<z.first+z.recs.length;have e:(Sg.mk z.first z.recs (bK z.recs)).first=z.first:=rfl;omega
   ·intro a j;rcases fQ.1 j with j|j
    ·exact h.full a j
    ·rw[dA.1 j];exact⟨by show 4096≤bK z.recs;omega,h.zs,rfl⟩
   ·intro s hs X t' p;rcases fQ.1 hs with hs|hs
    ·exact hS.short s hs X t' p
    ·rw[dA.1 hs]at p;have:=fJ List.length p;simp at this
   ·exact rI (z:=z) (by rfl) (by rfl) h.link
   ·intro s hs x p;rcases fQ.1 hs with hs|hs
    ·exact hS.rl s hs x p
    ·rw[dA.1 hs]at p;cases p
   ·simp only;rw[o,I,v,yu];have i:=hS.fs;simp only[Ds.wide]at i;rw[i];have hw:kg Fi.none (bB ((cM t).take m))=⟨wI []++bB ((cM t).take m),0⟩:=by
     show(⟨(⟨#[]⟩:ByteArray)++bB ((cM t).take m),0⟩:Fi)=_;rfl
    rw[hw]
end
section
variable {nm:ByteArray}{A:List Sg}{z:Sg}{d:Ds}{t:Nm}{m:Nat}
end
end
section
open Go.Proofs.Tryz
open Go.ChangeShapes Go.WideShapes Go.ChangeAt Go.RowKit Go.Joins Go.Deep
set_option maxRecDepth 100000
theorem NR (os:Os)(args:Array Value):((World.laidAll prog os gD).forCall (fun _ _=>0) ⟨#[],args,[]⟩).variablesZipB prog=true:=by kernel_rfl
theorem Lz (os:Os)(args:Array Value):(((World.laidAll prog os gD).forCall (fun _ _=>0) ⟨#[],args,[]⟩).heap.toList.drop prog.globals.size).take ((begin prog (fun _ _=>0) default).world.heap.size-prog.globals.size)=(begin prog (fun _ _=>0) default).world.heap.toList.drop prog.globals.size:=by kernel_rfl
theorem LA (os:Os):(World.holding prog os ⟨#[],#[],[]⟩).layFits prog gD []=true:=by kernel_rfl
theorem FV (os:Os):(World.holding prog os ⟨#[],#[],[]⟩).layIfaces prog gD (World.laidAll prog os gD)=true:=by kernel_rfl
set_option maxRecDepth 100000
theorem QE:laidOutB Tryz.pinned.checked.prog=true:=by kernel_rfl
theorem QF:mapsRowed Tryz.pinned.checked.prog=true:=by kernel_rfl
theorem NS:(Tryz.pinned.checked.prog).stopsHeard=true:=by kernel_rfl
end
