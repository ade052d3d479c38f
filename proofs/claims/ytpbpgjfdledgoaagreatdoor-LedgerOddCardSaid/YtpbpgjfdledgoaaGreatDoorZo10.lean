/- Lemmas. -/
import Derived.Test.YtpbpgjfdledgoaaGreatDoorZo09
import Derived.Lib.SmallJoins
import Derived.Deep.Onto
set_option linter.all false
set_option maxRecDepth 100000
set_option maxHeartbeats 8000000
open Bool renaming or_eq_true→RS,and_eq_true→eA
open List renaming mem_reverse→Nu
namespace Go.Proofs.YtpbpgjfdledgoaaGreatDoor
open Go.Proofs.Tryz
open Go.RowKit Go.Shelf Go.Sort Go.Joins
def Qx (c:UInt8):Bool:=(decide (97≤c.toNat)&&decide (c.toNat≤122))||(decide (48≤c.toNat)&&decide (c.toNat≤57))
def pY (name:ByteArray):Bool:=name.data.toList.all Qx&&(decide (1≤name.size)&&decide (name.size≤16))
theorem yd (w:World)(e:TypeId)(s:ByteArray):ah No w (Lib.bytesWorld w e s):=ah.vk (below_bytesWorld w.heap.size w e s (bM _))
theorem Lk (w:World)(name:ByteArray)(hn:(name.size:Int)≤140737488355328)(r:Bool)(H:pY name=r):Calls prog 80 #[.string name] w (qG w (.bool r)):=by
 have y:=Lib.run_convert_string_bytes (P:=prog) w 9 184 5 name underlying9 underlying184 underlying5;have hcell:=Lib.bytesWorld_cell w 5 name;have i:=yd w 5 name;generalize grownCap w name.size 0 5=cap at y;generalize Lib.bytesWorld w 5 name=W at y hcell i;have f:=af hcell;have z:=af i;have E:=af H;clear hcell i H;(go_enter func80,ntmps80);go_wp2
 go_loop [8] (fun q=>∃k:Nat,k≤name.size∧q=qI k∧(name.data.toList.take k).all Qx=true) (fun q=>name.size-(intOf q).toNat)
 case atStart=>exact⟨0,aX _,rfl,rfl⟩
 case round=>
  obtain⟨k,L,rfl,a⟩:=hrel;by_cases d:k<name.size
  ·have hc:=f.o k d;have e:k<name.data.toList.length:=(by simpa using d);have l:name.data.toList.take (k+1)=name.data.toList.take k++ [name.data.toList[k]]:=iK e;have G:name.data.toList.getD k 0=name.data.toList[k]:=(by simp[List.getD,d]);have b:name.data.toList[k]∈name.data.toList:=dw e;rw[G]at hc;obtain⟨c,x⟩:=ay (name.data.toList[k]);rw[←x]at hc l b;have K:=c.toNat_lt;obtain⟨n,j⟩:=ay (c.toNat);rw[←j]at hc K;have J:(0:Int)≤(k:Int):=(by omega);have A:=af l;have m:=af a;have s:=af b;have t:=af j;clear x G l a b j;have g:(n<48∨(57<n∧n<97)∨122<n)∨(48≤n∧n≤57)∨(97≤n∧n≤122):=(by omega);rcases g with v|h
   ·have p:aj (r=false):=by
     refine af ?_;rw[←E.o];unfold pY;have:name.data.toList.all Qx=false:=by
      rw[wT];refine⟨c,s.o,?_⟩;unfold Qx;have:=t.o;simp only[RS,eA,decide_eq_true_eq];omega
     rw[this,iL]
    rcases v with hb|⟨hb,u⟩|hb
    all_goals
     (try have B:(n:Int)<97:=by omega)
     (try have B:¬(n:Int)<97:=by omega)
     (try have a2:(122:Int)<(n:Int):=by omega)
     (try have a2:¬(122:Int)<(n:Int):=by omega)
     (try have a3:(n:Int)<48:=by omega)
     (try have a3:¬(n:Int)<48:=by omega)
     (try have a4:(57:Int)<(n:Int):=by omega)
     (try have a4:¬(57:Int)<(n:Int):=by omega)
     go_wp2;go_ret;exact⟨by rw[p.o];rfl,z.o⟩
   ·have D:aj ((name.data.toList.take (k+1)).all Qx=true):=by
     refine af ?_;rw[A.o,List.all_append,m.o];have:Qx c=true:=by
      unfold Qx;have:=t.o;simp only[RS,eA,decide_eq_true_eq];omega
     simp[this]
    rcases h with⟨hb,u⟩|⟨hb,u⟩
    all_goals
     (try have B:(n:Int)<97:=by omega)
     (try have B:¬(n:Int)<97:=by omega)
     (try have a2:(122:Int)<(n:Int):=by omega)
     (try have a2:¬(122:Int)<(n:Int):=by omega)
     (try have a3:(n:Int)<48:=by omega)
     (try have a3:¬(n:Int)<48:=by omega)
     (try have a4:(57:Int)<(n:Int):=by omega)
     (try have a4:¬(57:Int)<(n:Int):=by omega)
     go_wp2
     go_round
     case rel=>exact⟨k+1,by omega,by go_num,D.o⟩
     case measure=>simp[intOf];omega
  ·obtain rfl:k=name.size:=(by omega);have p:aj (r=(decide (1≤name.size)&&decide (name.size≤16))):=by
    refine af ?_;rw[←E.o];unfold pY;rw[fA (by simp)]at a;rw[a,mF]
   clear a d;by_cases C:1≤name.size
   ·by_cases F:name.size≤16
    ·have b1:(1:Int)≤(name.size:Int):=(by omega);have I:(name.size:Int)≤16:=(by omega);go_wp2;go_ret;exact⟨by rw[p.o,aM C,aM F];rfl,z.o⟩
    ·have b1:(1:Int)≤(name.size:Int):=(by omega);have I:¬(name.size:Int)≤16:=(by omega);go_wp2;go_ret;exact⟨by rw[p.o,aM C,aJ F];rfl,z.o⟩
   ·have b1:¬(1:Int)≤(name.size:Int):=(by omega);go_wp2;go_ret;exact⟨by rw[p.o,aJ C];rfl,z.o⟩
def iX (name f:Nm):Option Nat:=
 bif Lib.hasPrefix f (name++ [46])then(bif decide ((Lib.trimPrefix f (name++ [46])).length=8)then Lib.decNat (Lib.trimPrefix f (name++ [46]))else none)else none
def eO (name:Nm)(fs:List Nm):List Nat:=fs.filterMap (iX name)
def sx:Nm:= [48,49,50,51,52,53,54,55,56,57]
theorem CL (c:UInt8):sx.contains c=(Lib.digitVal c).isSome:=by
 have h:∀n:Fin 256,sx.contains (UInt8.ofNat n.1)=(Lib.digitVal (UInt8.ofNat n.1)).isSome:=(by decide);have:=h ⟨c.toNat,c.toNat_lt⟩
 simpa using this
theorem pZ:∀(l:Nm) (a:Nat),(Lib.decFrom a l).isSome=l.all sx.contains
 | [],a=>rfl
 |c::l,a=>by
  rw[Lib.decFrom,List.all_cons,CL];cases h:Lib.digitVal c with
  |none=>rfl
  |some d=>simp[pZ l]
theorem dropWhile_nil (p:UInt8→Bool):∀l:Nm,l.dropWhile p= []↔∀c∈l,p c=true
 | []=>by simp
 |c::l=>by
  rw[List.dropWhile_cons];cases h:p c
  ·simp[h]
  ·simp[h,dropWhile_nil p l]
theorem FA (l cs:Nm):Lib.trimS l cs= []↔l.all cs.contains=true:=by
 unfold Lib.trimS Lib.trimLeftS Lib.trimRightS;constructor
 ·intro h;rw[dropWhile_nil]at h;rw[qD];intro c hc;by_cases hm:c∈(l.reverse.dropWhile (cs.contains ·)).reverse
  ·exact h c hm
  ·have b:c∈l.reverse:=Nu.2 hc;rw[←List.takeWhile_append_dropWhile (p:=(cs.contains ·)) (l:=l.reverse)]at b;rcases fQ.1 b with a|a
   ·exact(qD.1 (List.all_takeWhile (l:=l.reverse) (p:=(cs.contains ·)))) c a
   ·exact absurd (Nu.2 a) hm
 ·intro h;rw[qD]at h;have:l.reverse.dropWhile (cs.contains ·)= []:=by
   rw[dropWhile_nil];intro c hc;exact h c (Nu.1 hc)
  rw[this];rfl
theorem FB {l:Nm}{n:Nat}(h:Lib.decNat l=some n):Lib.atoi l=some (n:Int):=by
 cases l with
 |nil=>cases h
 |cons c r=>
  have hd:(Lib.digitVal c).isSome=true:=by
   unfold Lib.decNat at h;have a:(Lib.decFrom 0 (c::r)).isSome=true:=by
    simp at h;rw[h];rfl
   rw[pZ,List.all_cons,CL]at a;simp only[eA]at a;exact a.1
  have d:(c==45)=false:=by
   cases b:(c==45)
   ·rfl
   ·rw[eq_of_beq b]at hd;cases hd
  have e:(c==43)=false:=by
   cases b:(c==43)
   ·rfl
   ·rw[eq_of_beq b]at hd;cases hd
  simp[Lib.atoi,d,e,h]
theorem CN {l:Nm}{n:Nat}(h:Lib.decNat l=some n)(hl:l.length=8):n<100000000:=by
 have step:∀(l:Nm) (a n:Nat),Lib.decFrom a l=some n→n<(a+1)*10^l.length:=by
  intro l;induction l with
  |nil=>
   intro a n h;simp[Lib.decFrom]at h;simp;omega
  |cons c r ih=>
   intro a n h;rw[Lib.decFrom]at h;cases hd:Lib.digitVal c with
   |none=>rw[hd]at h;cases h
   |some d=>
    rw[hd]at h;have b:=ih _ _ h;have e:d≤9:=by
     unfold Lib.digitVal at hd
     split at hd
     ·simp at hd;omega
     ·cases hd
    have f:(a*10+d+1)*10^r.length≤((a+1)*10)*10^r.length:=mY _ (by omega);rw[g_,kU,mG (10^r.length), ←Nat.mul_assoc];omega
 unfold Lib.decNat at h
 split at h
 ·cases h
 ·have:=step l 0 n h;rw[hl]at this
  simpa using this
theorem Al {name f:Nm}{n:Nat}(h:iX name f=some n):n<100000000:=by
 unfold iX at h;cases b:Lib.hasPrefix f (name++ [46])
 ·rw[b]at h;cases h
 ·rw[b,bH]at h;by_cases a:(Lib.trimPrefix f (name++ [46])).length=8
  ·rw[aM a,bH]at h;exact CN h a
  ·rw[aJ a,aN]at h;cases h
theorem Tryz.sA:(prog.info? 3).map (fun i=>(i.zero,i.size,i.bytes))=some (some (qI 0),1,8):=by kernel_rfl
theorem DV {w:World}{l p b:Nat}{d:Ds}(hd:qN w p b d)(name:ByteArray)(bG:(name.size:Int)≤1000)(c0:w.cell? ⟨l,0,none⟩=some (dP p))(c1:w.cell? ⟨l,1,none⟩=some (.string name)):
 Calls prog 81 #[dP l] w fun e w'=>∃v,e= .returned v∧aV w' w.heap.size v (eO name.data.toList (bA d.fs))∧ah No w w':=by
 obtain⟨i0,hi,aP,aQ,aR⟩:=fR Tryz.sA;have aN:=nh c0;dsimp only at aN;have aY:=af hd;have z:aj (∀f∈d.fs,f.1.length≤32):=af hd.nm;have G:aj (d.fs.length≤64):=af hd.few;obtain⟨P,aH⟩:=ay (name++⟨#[46]⟩);have aT:∀W:World,(Op.stringOp .add name ⟨#[46]⟩).run prog W= .ok (.string P) W:=fun W=>(by rw[aH];exact kD W _ _ (by have:(⟨#[46]⟩:ByteArray).size=1:=rfl;omega));have aS:aj (P.data.toList=name.data.toList++ [46]):=(by rw[aH];exact af (by simp[ByteArray.data_append]));clear hd aH;(go_enter func81,ntmps81);(go_wp2_with fail);refine(o4 aY.o).mono ?_;rintro e w1 ⟨v,rfl,hv,C⟩;have aD:=af hv;have aE:=af C;have d1:=C.cB c1;clear c1 hv C;have c1:=d1;clear d1;obtain⟨va,vc,rfl⟩:=aq aD.o;clear c0;go_wp2
 go_loopw [3,16] (fun o q wr=>∃k:Nat,k≤d.fs.length∧q=qI k∧aV wr w1.heap.size o (eO name.data.toList ((bA d.fs).take k))∧ah No w1 wr) (fun _ q _=>d.fs.length-(intOf q).toNat)
 case atStart=>exact⟨0,aX _,rfl,cJ _ _ _ _,aA _⟩
 case round=>
  obtain⟨k,bM,rfl,I,hK⟩:=hrel;by_cases M:k<d.fs.length
  ·obtain⟨g,cap,ai,bu,bB⟩:=Fx aD.o (by omega);simp only[Value.slice.injEq,true_and]at ai;obtain⟨rfl,rfl⟩:=ai;have bf:=hK.cB (CK aD.o k M);have c2:=hK.cB c1;have r:=z.o _ (dw M);have E:eO name.data.toList ((bA d.fs).take (k+1))=eO name.data.toList ((bA d.fs).take k)++(iX name.data.toList d.fs[k].1).toList:=by
    unfold eO;rw[iK (by simpa [bA]using M),List.filterMap_append];simp only[bA,List.getElem_map];cases D:iX name.data.toList d.fs[k].1<;>simp[D]
   obtain⟨f,hf⟩:=ay (d.fs[k].1);rw[←hf]at bf r E;have aO:(eO name.data.toList ((bA d.fs).take k)).length≤64:=by
    refine aU (DB _ _) ?_;rw[fB];have:=G.o;omega
   obtain⟨os,Y⟩:=ay (eO name.data.toList ((bA d.fs).take k));rw[←Y]at I E aO;have A:=af E;have O:=af I;have y:=af hK;have bD:(0:Int)≤(k:Int):=(by omega);have bE:(k:Int)<(d.fs.length:Int):=(by omega);have C:(k:Int)≤64:=(by have:=G.o;omega);have bC:g<wr.heap.size:=(by have:=y.o.size;omega);have bF:l<wr.heap.size:=(by have:=y.o.size;have:=aE.o.size;omega);obtain⟨bK,oc,rfl⟩:=aq I;have j:=Tryz.strings_CutPrefix ⟨f.toArray⟩ P wr;obtain⟨hp,L⟩:=ay (Lib.hasPrefix (⟨f.toArray⟩:ByteArray).data.toList P.data.toList);obtain⟨tp,F⟩:=ay (⟨(Lib.trimPrefix (⟨f.toArray⟩:ByteArray).data.toList P.data.toList).toArray⟩:ByteArray);rw[←L, ←F]at j;replace j:=j.mono (R':=fun e w'=>e= .returned (.tuple #[.string tp,.bool hp])∧wr=w') (fun e w' ⟨bg,bk⟩=>⟨bg,bk.symm⟩);have D:iX name.data.toList f=bif hp then(bif decide (tp.size=8)then Lib.decNat tp.data.toList else none)else none:=by
    unfold iX;rw[L,F,aS.o];rfl
   have bJ:tp.size≤32:=by
    rw[F,aS.o];show(Lib.trimPrefix f _).length≤32;unfold Lib.trimPrefix
    split
    ·rw[jQ];omega
    ·exact r
   have K:=af D;clear hf Y E I hK r L F D;cases hp with
   |false=>
    have J:aj (iX name.data.toList f=none):=af (by rw[K.o];rfl);(go_wp2_with (go_at_call 161;refine j.mono ?_;rintro e w' ⟨rfl,rfl⟩));go_roundw
    case rel=>
     refine⟨k+1,by omega,by go_num,?_,y.o⟩;rw[A.o,J.o]
     simpa using O.o
    case measure=>simp[intOf];omega
   |true=>
    by_cases Q:tp.size=8
    ·have B:(tp.size:Int)=8:=(by omega);have aG:((tp.size:Int) !=8)=false:=(by simp[B]);have bn:((tp.size:Int)==8)=true:=(by simp[B]);obtain⟨T,S⟩:=ay (⟨(Lib.trimS tp.data.toList sx).toArray⟩:ByteArray);have Z:=Any.strings_Trim_laid Tryz.Qq (by kernel_rfl) tp ⟨#[48,49,50,51,52,53,54,55,56,57]⟩ wr (by omega) (by decide) (ascii_of_all (by decide));have m:Calls prog 162 #[.string tp,.string ⟨#[48,49,50,51,52,53,54,55,56,57]⟩] wr fun e w'=>e= .returned (.string T)∧Below wr.heap.size wr w':=(by rw[S];exact Z);have a:=pZ tp.data.toList 0;have N:tp.data.toList.isEmpty=false:=by
      cases hl:tp.data.toList with
      |nil=>
       have:tp.data.toList.length=8:=(by simpa using Q);rw[hl]at this;cases this
      |cons=>rfl
     have u:Lib.decNat tp.data.toList=Lib.decFrom 0 tp.data.toList:=(by unfold Lib.decNat;rw[N];rfl);have H:aj (iX name.data.toList f=Lib.decFrom 0 tp.data.toList):=af (by rw[K.o,aM Q,bH,bH,u]);clear Z;cases c:Lib.decFrom 0 tp.data.toList with
     |none=>
      have s:(T.toList.isEmpty)=false:=by
       rw[fP,S];cases av:Lib.trimS tp.data.toList sx with
       |nil=>
        rw[FA, ←a,c]at av;cases av
       |cons=>rfl
      have bp:(!T.toList.isEmpty)=true:=(by rw[s];rfl);have bq:¬T.toList= []:=(by intro h;rw[h]at s;cases s);have J:aj (iX name.data.toList f=none):=af (by rw[H.o,c]);clear S a N u c Q;(go_wp2_with (go_at_call 161;refine j.mono ?_;rintro e w' ⟨rfl,rfl⟩));refine m.mono ?_;rintro e w2 ⟨rfl,t⟩;have au:aj (ah No wr w2):=af (ah.vk t);clear t m;go_wp2;go_roundw
      case rel=>
       refine⟨k+1,by omega,by go_num,?_,y.o.aK au.o⟩;rw[A.o,J.o]
       simpa using au.o.mM O.o
      case measure=>simp[intOf];omega
     |some n=>
      have s:T=⟨#[]⟩:=by
       rw[S];have av:Lib.trimS tp.data.toList sx= []:=(by rw[FA, ←a,c];rfl);rw[av]
      have bI:n<100000000:=CN (l:=tp.data.toList) (by rw[u,c]) (by simpa using Q);have U:=FB (l:=tp.data.toList) (n:=n) (by rw[u,c]);have J:aj (iX name.data.toList f=some n):=af (by rw[H.o,c]);have aB:=af U;subst s;clear S a N u c Q U;(go_wp2_with (go_at_call 161;refine j.mono ?_;rintro e w' ⟨rfl,rfl⟩));refine m.mono ?_;rintro e w2 ⟨rfl,t⟩;have au:aj (ah No wr w2):=af (ah.vk t);clear t m;(go_wp2_with fail);refine(Tryz.strconv_Atoi tp n (by omega) aB.o w2).mono ?_;rintro e aW ⟨rfl,t3,ak⟩;have aF:aj (ah No wr aW):=(by rw[ak];exact af (au.o.aK (yd w2 _ t3)));have R:=af (aF.o.mM O.o);clear ak;(go_wp2_with (at_builtin;refine xU _ rfl _ _ 135 rfl w1.heap.size 3 i0 (qI 0) 1 8 underlying135 hi aP aQ aR rfl (by decide) _ _ _ rfl (R.o.alloc _) ⟨aW.heap.size,0,none⟩ 1 1 [qI n] rfl rfl (oF _ _ _) (by simp[Value.oneCell']) (by unfold maxLen;omega) (by omega) (by have:=y.o.size;have:=aF.o.size;simp;omega) ?_;intro v' bL x V _));have aC:=af x;have aZ:aj (ah No w1 bL):=af (((y.o.aK aF.o).alloc _).grown V (fun i aI X=>absurd X (bY.2 (R.o.lt i aI).1)));clear x V;go_wp2;go_roundw
      case rel=>
       refine⟨k+1,by omega,by go_num,?_,aZ.o⟩;unfold aV;rw[A.o,J.o,cr,kG];exact aC.o
      case measure=>simp[intOf];omega
    ·have J:aj (iX name.data.toList f=none):=af (by rw[K.o,aJ Q];rfl);have B:¬(tp.size:Int)=8:=(by omega);have aG:((tp.size:Int) !=8)=true:=(by simpa using B);(go_wp2_with (go_at_call 161;refine j.mono ?_;rintro e w' ⟨rfl,rfl⟩));go_roundw
     case rel=>
      refine⟨k+1,by omega,by go_num,?_,y.o⟩;rw[A.o,J.o]
      simpa using O.o
     case measure=>simp[intOf];omega
  ·have aL:k=d.fs.length:=(by omega);subst aL;have r:(bA d.fs).take d.fs.length=bA d.fs:=fA (by simp[bA]);rw[r]at I;have O:=af I;have y:=af hK;obtain⟨bK,oc,rfl⟩:=aq I;clear I hK r;go_wp2;go_ret;exact⟨_,rfl,O.o.mono aE.o.size,aE.o.aK y.o⟩
def Lg.last (g:Lg):ByteArray:=aZ g.name (nC g.aD)
def Lg.file (g:Lg)(n:Nat):ByteArray:=aZ g.name n
def bI (s:ByteArray):ByteArray:=⟨(cM s.data.toList).toArray⟩
def Ds.look (d:Ds)(n:ByteArray):Fi:=(gP d.fs n).1
def Lg.sync (g:Lg)(d:Ds):Int×Ds:=d.sync g.last
def Lg.lay (g:Lg)(d:Ds)(s:ByteArray):Int×Lg×Ds:=
 bif decide ((d.look g.last).s.size<4096)then
  (bif (d.append g.last (bI s)).1==0 then(0,⟨g.name,g.aD,g.next+1⟩,(d.append g.last (bI s)).2)else((d.append g.last (bI s)).1,g,(d.append g.last (bI s)).2))
 else bif decide (99999999<g.next)then(8,g,d)else
  (bif ((d.sync g.last).2.append (g.file g.next) (bI s)).1==0 then(0,⟨g.name,g.aD++ [g.next],g.next+1⟩,((d.sync g.last).2.append (g.file g.next) (bI s)).2)
   else(((d.sync g.last).2.append (g.file g.next) (bI s)).1,g,((d.sync g.last).2.append (g.file g.next) (bI s)).2))
structure j8 (w:World)(base l p b:Nat)(v:Value)(g:Lg)(d:Ds):Prop where
 log:jV w base l p v g
 disk:qN w p b d
 bp:base≤p
 bb:base≤b
 vp:¬v.ownBlock=some p
 vb:¬v.ownBlock=some b
 lb:l≠b
section
variable {w:World}{base l p b:Nat}{v:Value}{g:Lg}{d:Ds}
theorem j8.no {w':World}(h:j8 w base l p b v g d)(k:ah No w w'):j8 w' base l p b v g d:=
 ⟨h.log.no k,h.disk.kept k (fun h=>h) (fun h=>h),h.bp,h.bb,h.vp,h.vb,h.lb⟩
theorem j8.kept {S:Nat→Prop}{w':World}(h:j8 w base l p b v g d)(k:ah S w w')(hS:∀i,nD l p b v i→¬S i):j8 w' base l p b v g d:=
 ⟨h.log.kept k (hS l (.inl rfl)) (fun i hi=>hS i (.inr (.inr (.inr hi)))),h.disk.kept k (hS p (.inr (.inl rfl))) (hS b (.inr (.inr (.inl rfl)))),h.bp,h.bb,h.vp,h.vb,h.lb⟩
theorem j8.mz {w':World}{a:Ds}(h:j8 w base l p b v g d)(k:ah (Two p b) w w')(hd:qN w' p b a):j8 w' base l p b v g a:=
 ⟨h.log.kept k (fun hs=>by rcases hs with e|e;exact h.log.lp e;exact h.lb e) (fun i hi hs=>by rcases hs with e|e;exact h.vp (e▸hi);exact h.vb (e▸hi)),hd,h.bp,h.bb,h.vp,h.vb,h.lb⟩
theorem sB {w':World}(k:ah (Two p b) w w'):ah (nD l p b v) w w':=k.mono (fun i _ h=>by rcases h with h|h;exact .inr (.inl h);exact .inr (.inr (.inl h)))
theorem SX {w':World}(k:ah No w w'):ah (nD l p b v) w w':=k.mono (fun _ _ h=>h.elim)
theorem j8.laid {w':World}(h:j8 w base l p b v g d)(a:Laid w base)(k:ah (nD l p b v) w w'):Laid w' base:=
 a.kept k (fun i hi=>by rcases hi with e|e|e|e;exact e▸h.log.bl;exact e▸h.bp;exact e▸h.bb;exact h.log.bv i e)
theorem vo (h:jV w base l p v g)(F:Nat)(a:g.aD[0]?=some F):Calls prog 72 #[dP l] w (qW w (qI F)):=by
 obtain⟨q,off,c,rfl,e,f,i,b⟩:=rC.cell h.rd h.ne;have c2:=h.uP;have d0:w.cell? ⟨q,off,none⟩=some (qI F):=b 0 F a;have hn:=h.ne;have d:(0:Int)<(g.aD.length:Int):=(by omega);clear b a h;(go_enter func72,ntmps72);go_wp2;go_ret;exact⟨rfl,rfl⟩
theorem ye (n:Laid w base)(h:j8 w base l p b v g d)(ec:Int)(j:Ds)(m:g.sync d=(ec,j)):
 Calls prog 30 #[dP l] w fun e w'=>e= .returned (qI ec)∧j8 w' base l p b v g j∧ah (Two p b) w w':=by
 have c0:=h.log.cell0;have H:=af h;have r:=af n;have q:=af m;have t:=h.log.lt;clear h n m;(go_enter func30,ntmps30);go_wp2_with fail
 go_region_held3 (fun w'=>w'.cell? ⟨l,0,none⟩=some (dP p)) (exact c0)
  (first
    |(go_at_call 89
      refine(rD (r.o.kept ((aA (S:=No) w).drew) (fun _ h=>h.elim)) (H.o.log.no ((aA (S:=No) w).drew))).mono ?_;rintro e w1 ⟨rfl,f⟩;have i:aj (ah No w w1):=af (((aA (S:=No) w).drew).aK f);have H1:=af (H.o.no i.o);have d0:=i.o.cB c0;clear f c0;have c0:=d0;clear d0)
    |(go_at_call 88
      refine(Aj H1.o.disk _ ec j q.o).mono ?_;rintro e w2 ⟨rfl,c,a⟩;have s:aj (ah (Two p b) w w2):=af ((i.o.mono (fun _ _ h=>h.elim)).aK a);have k:=af (H1.o.mz a c);have c0:=k.o.log.cell0;clear a c))
 go_wp2;go_ret;exact⟨rfl,k.o,s.o⟩
def o6 (w:World)(v v':Value):Prop:=∀k,v'.ownBlock=some k→v.ownBlock=some k∨w.heap.size≤k
def Km (w:World)(base l p b:Nat)(v:Value)(ec:Int)(g':Lg)(a:Ds)(e:Ending)(w':World):Prop:=
 e= .returned (qI ec)∧∃v',j8 w' base l p b v' g' a∧aV w' base v' g'.aD∧o6 w v v'∧ah (nD l p b v) w w'
theorem j8.SY {n:Nat}(h:j8 w base l p b v g d)(hn:n≤4611686018427387904):j8 (w.setCell ⟨l,3,none⟩ (qI n)) base l p b v ⟨g.name,g.aD,n⟩ d:=
 have k:ah (Own l) w (w.setCell ⟨l,3,none⟩ (qI n)):=(aA (S:=Own l) w).setCell (p:=⟨l,3,none⟩) (fun _=>(rfl:l=l)) _
 ⟨⟨aB h.log.cells _,h.log.rd.kept k (fun _ hi e=>h.log.vl (e▸hi)),h.log.ne,h.log.nm,h.log.few,hn,h.log.bl,h.log.bv,h.log.vl,h.log.lp⟩,
   h.disk.kept k (fun e=>h.log.lp e.symm) (fun e=>h.lb e.symm),h.bp,h.bb,h.vp,h.vb,h.lb⟩
theorem j8.pushed (h:j8 w base l p b v g d)(hb:base≤w.heap.size){w':World}{v':Value}(k:ah (Of v) w w')(r:w'.ownsRow base 3 1 v' (g.aD.length+1) (iW g.aD++ [qI g.next]))
 (a:o6 w v v') (hn:g.next+1≤4611686018427387904):
 j8 ((w'.setCell ⟨l,2,none⟩ v').setCell ⟨l,3,none⟩ (qI ((g.next+1:Nat):Int))) base l p b v' ⟨g.name,g.aD++ [g.next],g.next+1⟩ d∧
 aV ((w'.setCell ⟨l,2,none⟩ v').setCell ⟨l,3,none⟩ (qI ((g.next+1:Nat):Int))) base v' (g.aD++ [g.next])∧
 ah (nD l p b v) w ((w'.setCell ⟨l,2,none⟩ v').setCell ⟨l,3,none⟩ (qI ((g.next+1:Nat):Int))):=by
 have ne:∀q,q<w.heap.size→¬v.ownBlock=some q→¬v'.ownBlock=some q:=fun q s hv m=>by rcases a q m with e|e;exact hv e;omega
 have lv:=ne l h.log.lt h.log.vl;have pv:=ne p h.disk.lt.1 h.vp;have bv:=ne b h.disk.lt.2 h.vb;have o:ah (Own l) w' ((w'.setCell ⟨l,2,none⟩ v').setCell ⟨l,3,none⟩ (qI ((g.next+1:Nat):Int))):=((aA (S:=Own l) w').setCell (p:=⟨l,2,none⟩) (fun _=>(rfl:l=l)) _).setCell (p:=⟨l,3,none⟩) (fun _=>(rfl:l=l)) _;have hc:=k.heap h.log.cells (fun e=>h.log.vl e);have j:aV w' base v' (g.aD++ [g.next]):=by
  unfold aV;rw[cr,kG];exact r
 have c:aV ((w'.setCell ⟨l,2,none⟩ v').setCell ⟨l,3,none⟩ (qI ((g.next+1:Nat):Int))) base v' (g.aD++ [g.next]):=o.owns j (fun i hi e=>lv (e▸hi));refine⟨⟨⟨aB (aB hc v') _,Reads.fu c (fun u hu=>lq u _ hu),by simp,h.log.nm,?_,hn,h.log.bl,?_,lv,h.log.lp⟩,?_,h.bp,h.bb,pv,bv,h.lb⟩,c,?_⟩
 ·intro n f;rcases fQ.1 f with e|e
  ·exact h.log.few n e
  ·rw[dA.1 e];omega
 ·intro i hi;rcases a i hi with e|e
  ·exact h.log.bv i e
  ·omega
 ·exact(h.disk.kept k (fun e=>h.vp e) (fun e=>h.vb e)).kept o (fun e=>h.log.lp e.symm) (fun e=>h.lb e.symm)
 ·exact(k.mono (fun i _ e=> .inr (.inr (.inr e)))).trans o (fun i _ e=> .inl e)
theorem Qy (cv:Laid w base)(hb:base≤w.heap.size)(h:j8 w base l p b v g d)(bR:aV w base v g.aD)(s:ByteArray)(hs:(s.size:Int)≤65536)(bg:g.next+1≤4611686018427387904)(aQ:g.aD.length≤1000000)
 (ec:Int) (g':Lg) (cu:Ds) (bu:g.lay d s=(ec,g',cu)):Calls prog 97 #[dP l,.string s] w (Km w base l p b v ec g' cu):=by
 have b_:=af hb;obtain⟨i0,hi,bS,bT,bU⟩:=fR Tryz.sA;obtain⟨va,vc,rfl⟩:=aq bR;obtain⟨⟨ak,cC⟩,c⟩:∃x,gP d.fs g.last=x:=⟨_,rfl⟩;have cw:ak.s.size≤4194304:=by
  rcases oh d.fs g.last with hc|⟨hc,_⟩|⟨f,hc,cD,_⟩
  ·rw[hc]at c;obtain⟨rfl,rfl⟩:=h_ c;decide
  ·rw[hc]at c;obtain⟨rfl,rfl⟩:=h_ c;decide
  ·rw[hc]at c;obtain⟨rfl,rfl⟩:=h_ c;exact(h.disk.zR cD).1
 have L:d.look g.last=ak:=(by unfold Ds.look;rw[c]);unfold Lg.lay at bu;rw[L]at bu;have bn:=af bu;have C:=af c;have H:=af h;have bp:=af cv;have bD:=af bR;have D:=af bg;have aC:=af aQ;obtain⟨F,bK⟩:=ay (bI s);have bY:=af bK;have aL:(⟨(cM s.data.toList).toArray⟩:ByteArray)=F:=bK.symm;have c0:=h.log.cell0;have cH:=h.log.lt;clear hb bu c h cv bR bg aQ L bK;(go_enter func97,ntmps97);(go_wp2_with fail);refine(Nn w base bp.o b_.o s hs).mono ?_;rintro e w1 ⟨rfl,I⟩;rw[aL];have H1:=af (H.o.no I);have cg:=af I;have cr:=af (bp.o.kept I (fun _ h=>h.elim));have d0:=I.cB c0;clear I c0 aL;have bP:l<w1.heap.size:=H1.o.log.lt;go_wp2_with fail
 go_region_held3 (fun w'=>w'.cell? ⟨l,0,none⟩=some (dP p)) (exact d0)
  (first
    |(go_at_call 89
      refine(rD (cr.o.kept ((aA (S:=No) w1).drew) (fun _ h=>h.elim)) (H1.o.log.no ((aA (S:=No) w1).drew))).mono ?_;rintro e w2 ⟨rfl,aR⟩;have bG:aj (ah No w w2):=af ((cg.o.drew).aK aR);have bA:=af (H.o.no bG.o);have c0:=bA.o.log.cell0;clear aR d0;have d0:=c0;clear c0)
    |(go_at_call 106
      refine(Fh bA.o.disk _ ak cC C.o).mono ?_;rintro e bk ⟨rfl,aS⟩;have U:=af (bG.o.aK aS);have T:=af (H.o.no U.o);have c0:=T.o.log.cell0;clear aS d0;have d0:=c0;clear c0))
 have bq:=af (bp.o.kept U.o (fun _ h=>h.elim));have aY:l<bk.heap.size:=T.o.log.lt;clear cg bG H1 bA cr bP C;by_cases R:ak.s.size<4096
 ·have bf:(ak.s.size:Int)<4096:=(by omega);obtain⟨⟨P,da⟩,j⟩:∃x,d.append g.last (bI s)=x:=⟨_,rfl⟩;have m:=bn.o;rw[aM R,bH,j]at m;dsimp only at m;rw[←bY.o]at j;have B:=af j;have y:=af m;clear j m bn R;go_wp2_with fail
  go_region_held3 (fun w'=>w'.cell? ⟨l,0,none⟩=some (dP p)) (exact d0)
   (first
     |(go_at_call 89
       refine(rD (bq.o.kept ((aA (S:=No) bk).drew) (fun _ h=>h.elim)) (T.o.log.no ((aA (S:=No) bk).drew))).mono ?_;rintro e bV ⟨rfl,J⟩;have W:aj (ah No w bV):=af ((U.o.drew).aK J);have N:=af (H.o.no W.o);have c0:=N.o.log.cell0;clear J d0;have d0:=c0;clear c0)
     |(go_at_call 82
       refine(uk N.o.disk _ F P da B.o).mono ?_;rintro e M ⟨rfl,G,t⟩;have X:aj (ah (Two p b) w M):=af ((W.o.mono (fun _ _ h=>h.elim)).aK t);have u:=af (N.o.mz t G);have aE:aj (aV M base (.slice va g.aD.length vc) g.aD):=af (X.o.owns bD.o (fun i hi hs=>by rcases hs with e|e;exact H.o.vp (e▸hi);exact H.o.vb (e▸hi)))
       have c0:=u.o.log.cell0;clear t G d0;have d0:=c0;clear c0))
  have c3:=u.o.log.Fz;have f3:=u.o.log.opened.frozen 3;have aZ:l<M.heap.size:=u.o.log.lt;clear W N bq T U aY B;by_cases r:P=0
  ·subst r;have h0:((0:Int) !=0)=false:=rfl;have bO:(g.next:Int)+1≤4611686018427387904:=(by have:=D.o;omega);have bN:(0:Int)≤(g.next:Int):=(by omega);go_wp2;go_ret;have a:=y.o;have e1:((0:Int)==0)=true:=rfl;rw[e1,bH]at a;simp only[Prod.mk.injEq]at a;obtain⟨rfl,rfl,rfl⟩:=a;exact⟨rfl,_,u.o.SY D.o,((aA (S:=Own l) M).setCell (p:=⟨l,3,none⟩) (fun _=>(rfl:l=l)) _).owns aE.o (fun i hi hs=>u.o.log.vl (hs▸hi)),fun k Q=> .inl Q,(sB X.o).setCell (p:=⟨l,3,none⟩) (fun _=> .inl rfl) _⟩
  ·have h0:(P !=0)=true:=(by simpa using r);have bJ:(P==0)=false:=(by simpa using r);go_wp2;go_ret;have a:=y.o;rw[bJ,aN]at a;simp only[Prod.mk.injEq]at a;obtain⟨rfl,rfl,rfl⟩:=a;exact⟨rfl,_,u.o,aE.o,fun k Q=> .inl Q,sB X.o⟩
 ·have bf:¬(ak.s.size:Int)<4096:=(by omega);have m:=bn.o;rw[aJ R,aN]at m;have y:=af m;have c3:=T.o.log.Fz;clear m bn R;by_cases E:99999999<g.next
  ·have bM:(99999999:Int)<(g.next:Int):=(by omega);go_wp2;go_ret;have a:=y.o;rw[aM E,bH]at a;simp only[Prod.mk.injEq]at a;obtain⟨rfl,rfl,rfl⟩:=a;exact⟨rfl,_,T.o,U.o.mM bD.o,fun k Q=> .inl Q,SX U.o⟩
  ·have bM:¬(99999999:Int)<(g.next:Int):=(by omega);have a:=y.o;rw[aJ E,aN]at a;obtain⟨⟨es,ds⟩,ai⟩:∃x,d.sync g.last=x:=⟨_,rfl⟩;rw[ai]at a;dsimp only at a;obtain⟨⟨P,da⟩,j⟩:∃x,ds.append (g.file g.next) (bI s)=x:=⟨_,rfl⟩;rw[j]at a;dsimp only at a;rw[←bY.o]at j;have av:=af a;have B:=af j;have aH:=af ai;clear a j ai y E;go_wp2_with fail
   go_region_held3 (fun w'=>w'.cell? ⟨l,0,none⟩=some (dP p)) (exact d0)
    (first
      |(go_at_call 89
        refine(rD (bq.o.kept ((aA (S:=No) bk).drew) (fun _ h=>h.elim)) (T.o.log.no ((aA (S:=No) bk).drew))).mono ?_;rintro e bV ⟨rfl,J⟩;have W:aj (ah No w bV):=af ((U.o.drew).aK J);have N:=af (H.o.no W.o);have c0:=N.o.log.cell0;clear J d0;have d0:=c0;clear c0)
      |(go_at_call 88
        refine(Aj N.o.disk _ es ds aH.o).mono ?_;rintro e M ⟨rfl,G,t⟩;have X:aj (ah (Two p b) w M):=af ((W.o.mono (fun _ _ h=>h.elim)).aK t);have u:=af (N.o.mz t G);have ct:=af (H.o.laid bp.o (sB X.o));have c0:=u.o.log.cell0;clear t G d0;have d0:=c0;clear c0))
   clear c3;have c3:=u.o.log.Fz;have c1:=u.o.log.iM;have aZ:l<M.heap.size:=u.o.log.lt;have bQ:aj ((g.name.size:Int)≤1000):=af (by have:=H.o.log.nm;omega);clear W N bq T U aY aH;go_wp2_with fail
   go_region_held3 (fun w'=>w'.cell? ⟨l,0,none⟩=some (dP p)∧w'.cell? ⟨l,3,none⟩=some (qI g.next)) (exact⟨d0,c3⟩)
    (first
      |(go_at_call 83
        refine(o5 _ base (ct.o.kept ((aA (S:=No) M).drew) (fun _ h=>h.elim)) l g.name bQ.o c1 g.next (by have:=D.o;omega)).mono ?_;rintro e cA ⟨rfl,aT⟩;have K:ah No M cA:=((aA (S:=No) M).drew).aK aT;have cn:aj (ah (Two p b) w cA):=af (X.o.mS K);have au:=af (u.o.no K);have e0:=au.o.log.cell0;have e3:=au.o.log.Fz;clear aT K d0 c3 c1;have d0:=e0;have c3:=e3;clear e0 e3)
      |(go_at_call 82
        refine(uk au.o.disk _ F P da B.o).mono ?_;rintro e A ⟨rfl,aP,Y⟩;have aI:=af (cn.o.aK Y);have O:=af (au.o.mz Y aP);have e0:=O.o.log.cell0;have e3:=O.o.log.Fz;clear Y aP d0 c3;have d0:=e0;have c3:=e3;clear e0 e3))
   have aF:aj (aV A base (.slice va g.aD.length vc) g.aD):=af (aI.o.owns bD.o (fun i hi hs=>by rcases hs with e|e;exact H.o.vp (e▸hi);exact H.o.vb (e▸hi)))
   have cE:l<A.heap.size:=O.o.log.lt;clear cn au X u ct aZ B;by_cases r:P=0
   ·subst r;have h0:((0:Int) !=0)=false:=rfl;have c2:=O.o.log.uP;have f2:=O.o.log.opened.frozen 2;(go_wp2_with fail);have bC:aj (ah No A ((A.alloc (.cells #[qI g.next] 3)).drew)):=af (((aA (S:=No) A).alloc _).drew);have aG:aj (aV ((A.alloc (.cells #[qI g.next] 3)).drew) base (.slice va g.aD.length vc) g.aD):=af (bC.o.mM aF.o);have bE:aj (Reads ((A.alloc (.cells #[qI g.next] 3)).drew) 1 (.slice (some ⟨A.heap.size,0,none⟩) 1 1) 1 [qI g.next]):=af (Reads.kept (S:=No) ((aA _).drew) (Reads.fu (jO A #[qI g.next] 1 (aX _) (by unfold maxLen;omega) rfl) (by simp[Value.oneCell'])) (fun _ _ h=>h));have aB:aj (base≤A.heap.size):=af (by have:=b_.o;have:=aI.o.size;omega)
    go_region_law (refine bL rfl (.tmp 79) (.tmp 84) 135 rfl base 3 i0 _ 1 8 underlying135 hi bS bT bU rfl (by decide) (.slice va g.aD.length vc) g.aD.length (iW g.aD) rfl aG.o _ 1 [qI g.next] rfl bE.o (by have:=aC.o;unfold maxLen;omega) (by have:=aC.o;omega) (by have:=aB.o;simp;omega) ?_
                   intro v' V Z aW aO _;obtain⟨wa,wc,rfl⟩:=aq Z;have cq:aj (ah (Of (.slice va g.aD.length vc)) A V):=af ((bC.o.mono (fun _ _ h=>h.elim)).aK aW);have bZ:aj (o6 A (.slice va g.aD.length vc) (.slice wa (g.aD.length+1) wc)):=af (fun q cI=>by rcases aO q cI with e|e;exact .inl e;exact .inr (aU bC.o.size e))
                   have bB:=af (O.o.pushed aB.o cq.o Z bZ.o D.o);have z:=cq.o.heap O.o.log.cells (fun e=>O.o.log.vl e);have cJ:V.cell? ⟨l,2,none⟩=some (.slice va g.aD.length vc):=(by rw[bW V l 2 _ _ _ z];rfl);have cK:V.cell? ⟨l,3,none⟩=some (qI g.next):=(by rw[bW V l 3 _ _ _ z];rfl);have cL:=bF V l 2 _ _ z;have cN:=bF V l 3 _ _ z;have cF:l<V.heap.size:=(bX.1 z).1;clear z Z aW aO)
    all_goals
     have bO:(g.next:Int)+1≤4611686018427387904:=(by have:=D.o;omega);have bN:(0:Int)≤(g.next:Int):=(by omega);go_wp2;go_ret;have n:=av.o;have e1:((0:Int)==0)=true:=rfl;rw[e1,bH]at n;simp only[Prod.mk.injEq]at n;obtain⟨rfl,rfl,rfl⟩:=n;exact⟨rfl,_,bB.o.1,bB.o.2.1,fun k Q=>by rcases bZ.o k Q with e|e;exact .inl e;exact .inr (aU aI.o.size e),(sB aI.o).aK bB.o.2.2⟩
   ·have h0:(P !=0)=true:=(by simpa using r);have bJ:(P==0)=false:=(by simpa using r);go_wp2;go_ret;have n:=av.o;rw[bJ,aN]at n;simp only[Prod.mk.injEq]at n;obtain⟨rfl,rfl,rfl⟩:=n;exact⟨rfl,_,O.o,aF.o,fun k Q=> .inl Q,sB aI.o⟩
end
