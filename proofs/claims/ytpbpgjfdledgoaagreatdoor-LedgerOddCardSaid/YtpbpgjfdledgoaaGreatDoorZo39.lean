/- Lemmas. -/
import Derived.Test.YtpbpgjfdledgoaaGreatDoorZo38
set_option linter.all false
set_option maxRecDepth 100000
set_option maxHeartbeats 8000000
open List renaming mem_map_of_mem→SF,nil_append→tD,drop_left→SG
open ByteArray renaming data_append→vz
namespace Go.Proofs.YtpbpgjfdledgoaaGreatDoor
open Go.Proofs.Tryz
open Go.RowKit Go.WideShapes
def jA (r:Rf):Fi:=⟨r.sure++r.loose,r.sure.size⟩
def Cq (r:Rf):Nm×Fi:=(r.name.data.toList,jA r)
abbrev dn (L:List Rf):Fs:=L.map Cq
theorem Rw {n:ByteArray}{r:Rf} :wq n r=true↔r.name=n:=by
 unfold wq;rw[ny,fP,fP];exact⟨fW,fun h=>by rw[h]⟩
theorem EB (n:ByteArray)(r:Rf):kY n.data.toList (Cq r)=wq n r:=by
 unfold kY wq Cq;rw[fP,fP]
theorem sJ (L:List Rf)(n:ByteArray):(gP (dn L) n=(Fi.none,1)∧My L n=(0,1))∨
 (gP (dn L) n=(Fi.none,6)∧My L n=(0,6)∧eV (dn L) n.data.toList=none∧1≤n.size∧n.size≤32)∨
 ∃A r B,L=A++r::B∧r.name=n∧gP (dn L) n=(jA r,0)∧My L n=((A.length:Int),0)∧eV (dn L) n.data.toList=some (jA r)∧1≤n.size∧n.size≤32:=by
 unfold gP My;cases g:decide ((n.size:Int)<1)
 ·cases i:decide ((32:Int)<(n.size:Int))
  ·have e1:=wQ g;have e2:=wQ i;simp only[cond_false];rcases jS (wq n) L with⟨h,a⟩|⟨k,h,f,hp,hb⟩
   ·refine .inr (.inl ?_);have b:eV (dn L) n.data.toList=none:=by
     unfold eV;rw[List.find?_map,Option.map_map,Option.map_eq_none_iff,zG];intro r c;show¬kY n.data.toList (Cq r)=true;rw[EB,a r c];decide
    rw[b,h];exact⟨rfl,rfl,rfl,by omega,by omega⟩
   ·refine .inr (.inr ⟨L.take k,L[k],L.drop (k+1),?_,Rw.1 hp,?_⟩)
    ·rw[←mX f,jN]
    ·have b:eV (dn L) n.data.toList=some (jA L[k]):=by
      unfold eV;have e:dn L=dn (L.take k)++Cq L[k]::dn (L.drop (k+1)):=by
       rw[←kT, ←fI, ←mX f,jN]
      rw[e,List.find?_append];have:(dn (L.take k)).find? (kY n.data.toList)=none:=by
       rw[zG];intro x l;obtain⟨r,c,rfl⟩:=jq.1 l;rw[EB];obtain⟨j,d,rfl⟩:=uL c;rw[List.getElem_take,hb j (by simp at d;omega) (by simp at d;omega)];decide
      rw[this,List.find?_cons,EB,hp];rfl
     rw[b,h,show((k:Int)== -1)=false from beq_false_of_ne (by omega),fB,qE (by omega)]
     exact⟨rfl,rfl,rfl,by omega,by omega⟩
  ·exact .inl ⟨rfl,rfl⟩
 ·exact .inl ⟨rfl,rfl⟩
theorem sK (L:List Rf)(dead:Bool)(n:ByteArray):(∃ec,cu (dn L) dead n=(Fi.none,ec)∧kW L dead n=(0,ec)∧(ec=1∨ec=12))∨
 (dead=false∧cu (dn L) dead n=(Fi.none,6)∧kW L dead n=(0,6)∧eV (dn L) n.data.toList=none∧1≤n.size∧n.size≤32)∨
 ∃A r B,dead=false∧L=A++r::B∧r.name=n∧cu (dn L) dead n=(jA r,0)∧kW L dead n=((A.length:Int),0)∧eV (dn L) n.data.toList=some (jA r)∧1≤n.size∧n.size≤32:=by
 unfold cu kW;rcases sJ L n with⟨a,b⟩|⟨a,b,c,hn⟩|⟨A,r,B,d,e,a,b,c,hn⟩
 ·rw[a,b];exact .inl ⟨1,rfl,rfl,.inl rfl⟩
 ·rw[a,b];cases dead
  ·exact .inr (.inl ⟨rfl,rfl,rfl,c,hn⟩)
  ·exact .inl ⟨12,rfl,rfl,.inr rfl⟩
 ·rw[a,b];cases dead
  ·exact .inr (.inr ⟨A,r,B,rfl,d,e,rfl,rfl,c,hn⟩)
  ·exact .inl ⟨12,rfl,rfl,.inr rfl⟩
theorem wu (A:List Rf)(r:Rf)(B:List Rf):dn (A++r::B)=dn A++(r.name.data.toList,jA r)::dn B:=by
 simp[dn,Cq]
theorem EC {A B:List Rf}{r x:Rf}(h:dI (dn (A++r::B)))(a:x.name=r.name):gN (dn (A++r::B)) r.name.data.toList (jA x)=dn (A++x::B):=by
 rw[wu]at h⊢;rw[rz h,wu,a]
theorem Rx {A B:List Rf}{r:Rf}(h:dI (dn (A++r::B))):kF (dn (A++r::B)) r.name.data.toList=dn (A++B):=by
 rw[wu]at h⊢;rw[Ff h];simp[dn]
theorem Ry {L:List Rf}(h:dI (dn L)){n:ByteArray}(f:eV (dn L) n.data.toList=none):∃A B,L=A++B∧(∀a∈A,bytesBefore a.name.data.toList n.data.toList=true)∧(∀c∈B,bytesBefore c.name.data.toList n.data.toList=false)∧
 ∀x:Rf,x.name=n→gN (dn L) n.data.toList (jA x)=dn (A++x::B):=by
 obtain⟨A',B',he,b,d⟩:=CB h f;obtain⟨A,B,rfl,rfl,rfl⟩:=List.map_eq_append_iff.1 he;refine⟨A,B,rfl,fun a e=>b (Cq a) (SF e),fun c hc=>uU (d (Cq c) (SF hc)),fun x g=>?_⟩;rw[he,rA b d,wu,g]
theorem KS (n s:ByteArray):jA ⟨n,s,⟨#[]⟩⟩=⟨s,s.size⟩:=by
 unfold jA;have:s++(⟨#[]⟩:ByteArray)=s:=by
  apply q5;simp[vz]
 rw[this]
theorem G5 (a b:ByteArray)(m:Nat):(a++b).extract 0 (a.size+m)=a++b.extract 0 m:=by
 apply q5;simp only[ByteArray.data_extract,vz];rw[Array.extract_append];have c:a.data.size=a.size:=rfl;have d:a.data.extract 0 (a.size+m)=a.data:=by
  rw[Array.extract_eq_self_of_le];omega
 rw[d,c];simp
theorem Tryz.Pu:(prog.info? 169).map (fun i=>(i.zero,i.size,i.bytes))=some (some (.agg (wJ ⟨⟨#[]⟩,⟨#[]⟩,⟨#[]⟩⟩).toArray),3,48):=by kernel_rfl
theorem lJ:∀(x y:List UInt8),Op.bytesLess x y=bytesBefore x y
 | [],[]=>rfl
 | [],_::_=>rfl
 |_::_,[]=>rfl
 |a::x,b::y=>by rw[Op.bytesLess,bytesBefore,lJ x y]
section
variable {w:World}{q base:Nat}{v:Value}{is:Bool}{room:Int}{dead:Bool}
def sM (w:World)(q base:Nat)(L:List Rf)(is:Bool)(room:Int)(dead:Bool)(w':World):Prop:=∃v',bZ w' q base v' L is room dead∧(∀i,v'.ownBlock=some i→w.heap.size≤i)∧ah (Own q) w w'
theorem bZ.Rz {w2:World}{L L':List Rf}{v2:Value}(h:bZ w2 q base v L is room dead)(b:aI kS 169 w2 base v2 L')(a:∀i,v2.ownBlock=some i→i≠q)(hf:L'.length≤64):bZ (w2.setCell ⟨q,0,none⟩ v2) q base v2 L' is room dead:=
 ⟨aB h.cells _,((aA (S:=Own q) w2).setCell (p:=⟨q,0,none⟩) (fun _=>(rfl:q=q)) _).owns b (fun i hi e=>a i hi e),a,hf,by simpa using h.low⟩
theorem zn {w w2:World}{L L':List Rf}{v2:Value}(h:bZ w q base v L is room dead)(b:ah No w w2)(a:aI kS 169 w2 w.heap.size v2 L')(hf:L'.length≤64):
 sM w q base L' is room dead (w2.setCell ⟨q,0,none⟩ v2):=by
 have c:q<w.heap.size:=(bX.1 h.cells).1;refine⟨v2,(h.kept b (fun h=>h) (fun _ _ h=>h)).Rz (aI.base a h.low) (fun i hi e=>by have:=(a.lt i hi).1;omega) hf,fun i hi=>(a.lt i hi).1,(b.mono (T:=Own q) (fun _ _ h=>h.elim)).setCell (p:=⟨q,0,none⟩) (fun _=>(rfl:q=q)) _⟩
theorem RA {L A B:List Rf}(h:bZ w q base v L is room dead)(bA:L=A++B)(x:Rf)(hA:∀a∈A,bytesBefore a.name.data.toList x.name.data.toList=true)(bH:∀c∈B,bytesBefore c.name.data.toList x.name.data.toList=false)(aN:L.length<64):
 Calls prog 102 #[dP q,.agg (wJ x).toArray] w fun e w'=>e= .returned (.tuple #[])∧sM w q base (A++x::B) is room dead w':=by
 obtain⟨i0,hi,D,E,F⟩:=fR Tryz.Pu;have cg:q<w.heap.size:=(bX.1 h.cells).1;obtain⟨va,vc,rfl⟩:=aq h.own;have O:aj (L.length=A.length+B.length):=(by show _=_;rw[bA,cr]);have H:=af h;have bL:=af hA;have bN:=af bH;have t:=af aN;have bg:=af bA;clear h hA bH aN bA;(go_enter func102,ntmps102);(go_wp2_with fail);refine au ?_;intro W hW;have bI:ah No w W:=(by rw[hW];exact(aA _).alloc _);have aS:ai W w.heap.size 0 3=some [.string x.name,.string x.sure,.string x.loose]:=(by rw[hW];simp[go_sem,wJ]);have aY:W.heap.size=w.heap.size+1:=(by rw[hW];simp);have J:=af bI;have bk:=af aS;have Z:=af aY;clear hW bI aS aY;go_wp2
 go_loopw [4,5] (fun o i wr=>∃k:Nat,k≤A.length∧i=qI k∧wr.ownsRow W.heap.size 169 3 o k (rowsOf kS (A.take k))∧ah No W wr) (fun _ i _=>A.length-(intOf i).toNat)
 case atStart=>exact⟨0,aX _,rfl,cJ _ _ _ _,aA _⟩
 case round=>
  obtain⟨k,aB,rfl,U,hK⟩:=hrel;have bp:=af (H.o.kept (J.o.aK hK) (fun h=>h) (fun _ _ h=>h));have c0:wr.cell? ⟨q,0,none⟩=some (.slice va L.length vc):=(by simp[World.cell?,bp.o.cells]);have bx:=hK.ai bk.o;have b0:wr.cell? ⟨w.heap.size,0,none⟩=some (.string x.name):=ak bx 0 _ rfl;have aD:aW kS wr (.slice va L.length vc) L:=bp.o.own.reads;have aP:=O.o;have Y:=t.o;obtain⟨aE,oc,rfl⟩:=aq U;have aV:(A.take k).length=k:=(by rw[fB,qE aB]);have bO:=af aV;have p:=af U;have bf:=af hK;have G:aj (W.heap.size≤wr.heap.size):=hK.size;clear U hK aV;have bW:(0:Int)≤(k:Int):=(by omega);have bJ:(k:Int)≤64:=(by omega);by_cases M:k<A.length
  ·have bC:(k:Int)<(L.length:Int):=(by omega);have b_:decide ((k:Int)<(L.length:Int))=true:=aM bC;have aT:k<L.length:=(by omega);have he:L[k]=A[k]:=by
    have:=bg.o;subst this;exact List.getElem_append_left M
   obtain⟨g,off,rfl,_,_,cq⟩:=aW.addr kS aD (by omega);have c3:ai wr g (off+k*3) 3=some (wJ A[k]):=(by rw[←he];exact aW.at kS aD k aT);have aC:Op.bytesLess A[k].name.toList x.name.toList=true:=(by rw[lJ,fP,fP];exact bL.o _ (dw M));obtain⟨a,bB⟩:=ay (A[k]);have Ht:aj (A.take (k+1)=A.take k++ [a]):=(by show _=_;rw[bB,iK M]);rw[←bB]at c3 aC;have d0:wr.cell? ⟨g,off+k*3,none⟩=some (.string a.name):=ak c3 0 _ rfl;unfold wJ at c3;have aF:=af M;clear bB he aD M aT aP Y aB;go_wp2
   go_quiet (fail)
   rename_i nq
   go_wp2_with (at_builtin;refine aQ rfl (.tmp 26) (.tmp 34) 71 rfl W.heap.size 169 i0 _ 3 48 underlying71 hi D E F rfl (by decide) (.slice aE k oc) k (rowsOf kS (A.take k)) rfl ((((aA (S:=No) wr).drewN nq).mM p.o).alloc _) (.slice (some ⟨wr.heap.size,0,none⟩) 1 1) 1 (wJ a) rfl (jw kS (wr.drewN nq) 169 a) ?c1 ?c2 ?c3 ?c4)
   case c1=>unfold maxLen;omega
   case c2=>omega
   case c3=>have:=G.o;simp;omega
   case c4=>
    intro v2 w2 b r _ _;have bn:aj (w2.ownsRow W.heap.size 169 3 v2 (k+1) (rowsOf kS (A.take (k+1)))):=by
     show World.ownsRow _ _ _ _ _ _ _;rw[Ht.o,bE,fL];exact b
    have K:aj (ah No W w2):=((bf.o.drewN nq).alloc _).trans r (fun i hi s=>absurd hi (bY.2 (p.o.lt i s).1));clear b r;go_wp2;go_roundw
    case rel=>exact⟨k+1,aF.o,by go_num,bn.o,K.o⟩
    case measure=>have:=aF.o;simp[intOf];omega
  ·obtain rfl:k=A.length:=(by omega);have aR:A.take A.length=A:=jH;rw[aR]at p;have bF:(va=none∧L.length=0∧vc=0)∨∃g,va=some ⟨g,0,none⟩:=by
    rcases bp.o.own.2 with⟨X,bD⟩|⟨g,cap,_,X,_⟩
    ·simp only[Value.slice.injEq]at X;exact .inl X
    ·simp only[Value.slice.injEq,true_and]at X;exact .inr ⟨g,X.1⟩
   have bG:(va=none∧L= []∧A= []∧B= []∧vc=0)∨(∃g,va=some ⟨g,0,none⟩∧decide (A.length<L.length)=false)∨∃g,va=some ⟨g,0,none⟩∧∃a:Rf,(A.length:Int)<(L.length:Int)∧decide (A.length<L.length)=true∧Op.bytesLess a.name.toList x.name.toList=false∧wr.cell? ⟨g,A.length*3,none⟩=some (.string a.name):=by
    rcases bF with⟨X,h0,bS⟩|⟨g,rfl⟩
    ·exact .inl ⟨X,qA h0,qA (by omega),qA (by omega),bS⟩
    ·refine .inr ?_;by_cases aU:A.length<L.length
     ·refine .inr ⟨g,rfl,L[A.length],by omega,aM (by omega),?_,?_⟩
      ·rw[lJ,fP,fP];refine bN.o _ ?_;have:=bg.o;subst this;rw[List.getElem_append_right (bM _)];exact dw _
      ·have c3:ai wr g (0+A.length*3) 3=some (wJ L[A.length]):=aW.at kS aD _ aU;have:=ak c3 0 _ rfl
       simpa using this
     ·exact .inl ⟨g,rfl,aJ (by omega)⟩
   have aZ:L.length≤vc:=by
    rcases aD.shape with⟨X,bD⟩|⟨_,_,X,bD,_⟩
    ·omega
    ·simp only[Value.slice.injEq,true_and]at X;omega
   have bP:=af aZ;have aO:A.length≤L.length:=(by omega);have bU:(A.length:Int)≤(L.length:Int):=(by omega);have bT:(A.length:Int)≤(vc:Int):=(by omega);have bV:(L.length:Int)≤(vc:Int):=(by omega);clear aR M aB aZ aD Y aP bF;have cn:=af b0;rcases bG with⟨rfl,rfl,rfl,rfl,rfl⟩|⟨g,rfl,bG⟩|⟨g,rfl,a,bq,bu,bR,d0⟩
   ·go_wp2
    go_quiet (fail)
    rename_i nq
    go_wp2_with (at_builtin;refine aQ rfl (.tmp 38) (.tmp 40) 71 rfl W.heap.size 169 i0 _ 3 48 underlying71 hi D E F rfl (by decide) (.slice aE 0 oc) 0 [] rfl ((((aA (S:=No) wr).drewN nq).mM p.o).alloc _) (.slice (some ⟨wr.heap.size,0,none⟩) 1 1) 1 (wJ x) rfl (jw kS (wr.drewN nq) 169 x) ?c1 ?c2 ?c3 ?c4)
    case c1=>unfold maxLen;omega
    case c2=>omega
    case c3=>have:=G.o;simp;omega
    case c4=>
     intro v2 w2 b r _ _;have K:aj (ah No W w2):=((bf.o.drewN nq).alloc _).trans r (fun i hi s=>absurd hi (bY.2 (p.o.lt i s).1));have av:=af (H.o.kept (J.o.aK K.o) (fun h=>h) (fun _ _ h=>h));have aH:w2.cell? ⟨q,0,none⟩=some (.slice none 0 0):=(by simp[World.cell?,av.o.cells]);obtain⟨a2,d2,R⟩:=aq b;subst R;have f:aj (w2.ownsRow W.heap.size 169 3 (.slice a2 1 d2) 1 (wJ x)):=b;clear b r c0 b0 bx;go_wp2_with (at_builtin;refine aQ rfl (.tmp 42) (.tmp 48) 71 rfl W.heap.size 169 i0 _ 3 48 underlying71 hi D E F rfl (by decide) (.slice a2 1 d2) 1 (wJ x) rfl f.o (.slice none 0 0) 0 [] rfl (Reads.nil _ _) ?c1 ?c2 ?c3 ?c4)
     case c1=>unfold maxLen;omega
     case c2=>omega
     case c3=>exact K.o.size
     case c4=>
      intro v3 V l y _ _;have I:aj (ah No W V):=K.o.trans y (fun i hi s=>absurd hi (bY.2 (f.o.lt i s).1));have j:aj (aI kS 169 V W.heap.size v3 ([]++ [x])):=by
       show World.ownsRow _ _ _ _ _ _ _;rw[tD,fL];exact l
      have aL:V.cell? ⟨q,0,none⟩=some (.slice none 0 0):=(by simp[World.cell?,(H.o.kept (J.o.aK I.o) (fun h=>h) (fun _ _ h=>h)).cells]);have f3:=(H.o.kept (J.o.aK I.o) (fun h=>h) (fun _ _ h=>h)).opened.frozen 0;have Q:aj (w.heap.size≤W.heap.size):=(by show _≤_;have:=Z.o;omega);have bK:=I.o.size;clear l y;obtain⟨a3,n3,d3,T⟩:∃a n c,v3= .slice a n c:=by
       obtain⟨a,c,he⟩:=aq j.o;exact⟨a,_,c,he⟩
      subst T;go_wp2;refine pP (nw rfl _ _ _) rfl ⟨rfl,zn (w:=w) H.o (J.o.aK I.o) (aI.base j.o Q.o) (show [x].length≤64 by simp)⟩
   ·go_wp2
    go_quiet (fail)
    rename_i nq
    go_wp2_with (at_builtin;refine aQ rfl (.tmp 38) (.tmp 40) 71 rfl W.heap.size 169 i0 _ 3 48 underlying71 hi D E F rfl (by decide) (.slice aE A.length oc) A.length (rowsOf kS A) rfl ((((aA (S:=No) wr).drewN nq).mM p.o).alloc _) (.slice (some ⟨wr.heap.size,0,none⟩) 1 1) 1 (wJ x) rfl (jw kS (wr.drewN nq) 169 x) ?c1 ?c2 ?c3 ?c4)
    case c1=>have:=t.o;unfold maxLen;omega
    case c2=>have:=t.o;omega
    case c3=>have:=G.o;simp;omega
    case c4=>
     intro v2 w2 b r _ _;have K:aj (ah No W w2):=((bf.o.drewN nq).alloc _).trans r (fun i hi s=>absurd hi (bY.2 (p.o.lt i s).1));have bQ:aj (ah (Of (.slice aE A.length oc)) wr w2):=(((aA wr).drewN nq).alloc _).aK r;have av:=af (H.o.kept (J.o.aK K.o) (fun h=>h) (fun _ _ h=>h));have aH:w2.cell? ⟨q,0,none⟩=some (.slice (some ⟨g,0,none⟩) L.length vc):=(by simp[World.cell?,av.o.cells]);have r2:=av.o.own.reads;have d:=r2.Dv (m:=A.length) aO _ rfl;have u:rowsOf kS (L.drop A.length)=rowsOf kS B:=(by rw[bg.o,SG]);rw[iN,u]at d;obtain⟨aG,z⟩:=ay (if vc=A.length then some (⟨g,0,none⟩:Addr)else some ⟨g,A.length*3,none⟩)
     have N:aj (Reads w2 3 (.slice aG (L.length-A.length) (vc-A.length)) (L.length-A.length) (rowsOf kS B)):=by
      show Reads _ _ _ _ _;rw[z];have e:(if vc=A.length then some (⟨g,0,none⟩:Addr)else some ⟨g,A.length*3,none⟩)=(if vc=A.length then some ⟨g,0,none⟩else Option.map (fun x:Addr=>x.add (A.length*kS.size)) (some ⟨g,0,none⟩)):=by
       split
       ·rfl
       ·rw[sV,qF,jI];rfl
      rw[e];exact d
     have P:=af z;obtain⟨a2,d2,R⟩:=aq b;subst R;have f:=af b;clear b r c0 b0 bx r2 d u z;go_wp2_with (at_builtin;rw[←P.o];refine aQ rfl (.tmp 42) (.tmp 48) 71 rfl W.heap.size 169 i0 _ 3 48 underlying71 hi D E F rfl (by decide) (.slice a2 (A.length+1) d2) (A.length+1) (rowsOf kS A++wJ x) rfl f.o (.slice aG (L.length-A.length) (vc-A.length)) (L.length-A.length) (rowsOf kS B) rfl N.o ?c1 ?c2 ?c3 ?c4)
     case c1=>have:=t.o;unfold maxLen;omega
     case c2=>have:=t.o;omega
     case c3=>exact K.o.size
     case c4=>
      intro v3 V l y _ _;have I:aj (ah No W V):=K.o.trans y (fun i hi s=>absurd hi (bY.2 (f.o.lt i s).1));have j:aj (aI kS 169 V W.heap.size v3 (A++x::B)):=by
       show World.ownsRow _ _ _ _ _ _ _;have e1:(A++x::B).length=A.length+1+(L.length-A.length):=(by have:=O.o;simp;omega);rw[e1,bE,dJ];exact l
      have C:aj ((A++x::B).length≤64):=(by show _≤_;have:=O.o;have:=t.o;simp;omega);have aL:V.cell? ⟨q,0,none⟩=some (.slice (some ⟨g,0,none⟩) L.length vc):=(by simp[World.cell?,(H.o.kept (J.o.aK I.o) (fun h=>h) (fun _ _ h=>h)).cells]);have f3:=(H.o.kept (J.o.aK I.o) (fun h=>h) (fun _ _ h=>h)).opened.frozen 0;have Q:aj (w.heap.size≤W.heap.size):=(by show _≤_;have:=Z.o;omega);have bK:=I.o.size;clear l y N P;obtain⟨a3,n3,d3,T⟩:∃a n c,v3= .slice a n c:=by
       obtain⟨a,c,he⟩:=aq j.o;exact⟨a,_,c,he⟩
      subst T;go_wp2;refine pP (nw rfl _ _ _) rfl ⟨rfl,zn (w:=w) H.o (J.o.aK I.o) (aI.base j.o Q.o) C.o⟩
   ·go_wp2
    go_quiet (fail)
    rename_i nq
    clear bq bu;go_wp2_with (at_builtin;refine aQ rfl (.tmp 38) (.tmp 40) 71 rfl W.heap.size 169 i0 _ 3 48 underlying71 hi D E F rfl (by decide) (.slice aE A.length oc) A.length (rowsOf kS A) rfl ((((aA (S:=No) wr).drewN nq).mM p.o).alloc _) (.slice (some ⟨wr.heap.size,0,none⟩) 1 1) 1 (wJ x) rfl (jw kS (wr.drewN nq) 169 x) ?c1 ?c2 ?c3 ?c4)
    case c1=>have:=t.o;unfold maxLen;omega
    case c2=>have:=t.o;omega
    case c3=>have:=G.o;simp;omega
    case c4=>
     intro v2 w2 b r _ _;have K:aj (ah No W w2):=((bf.o.drewN nq).alloc _).trans r (fun i hi s=>absurd hi (bY.2 (p.o.lt i s).1));have bQ:aj (ah (Of (.slice aE A.length oc)) wr w2):=(((aA wr).drewN nq).alloc _).aK r;have av:=af (H.o.kept (J.o.aK K.o) (fun h=>h) (fun _ _ h=>h));have aH:w2.cell? ⟨q,0,none⟩=some (.slice (some ⟨g,0,none⟩) L.length vc):=(by simp[World.cell?,av.o.cells]);have r2:=av.o.own.reads;have d:=r2.Dv (m:=A.length) aO _ rfl;have u:rowsOf kS (L.drop A.length)=rowsOf kS B:=(by rw[bg.o,SG]);rw[iN,u]at d;obtain⟨aG,z⟩:=ay (if vc=A.length then some (⟨g,0,none⟩:Addr)else some ⟨g,A.length*3,none⟩)
     have N:aj (Reads w2 3 (.slice aG (L.length-A.length) (vc-A.length)) (L.length-A.length) (rowsOf kS B)):=by
      show Reads _ _ _ _ _;rw[z];have e:(if vc=A.length then some (⟨g,0,none⟩:Addr)else some ⟨g,A.length*3,none⟩)=(if vc=A.length then some ⟨g,0,none⟩else Option.map (fun x:Addr=>x.add (A.length*kS.size)) (some ⟨g,0,none⟩)):=by
       split
       ·rfl
       ·rw[sV,qF,jI];rfl
      rw[e];exact d
     have P:=af z;obtain⟨a2,d2,R⟩:=aq b;subst R;have f:=af b;clear b r c0 b0 bx r2 d u z;go_wp2_with (at_builtin;rw[←P.o];refine aQ rfl (.tmp 42) (.tmp 48) 71 rfl W.heap.size 169 i0 _ 3 48 underlying71 hi D E F rfl (by decide) (.slice a2 (A.length+1) d2) (A.length+1) (rowsOf kS A++wJ x) rfl f.o (.slice aG (L.length-A.length) (vc-A.length)) (L.length-A.length) (rowsOf kS B) rfl N.o ?c1 ?c2 ?c3 ?c4)
     case c1=>have:=t.o;unfold maxLen;omega
     case c2=>have:=t.o;omega
     case c3=>exact K.o.size
     case c4=>
      intro v3 V l y _ _;have I:aj (ah No W V):=K.o.trans y (fun i hi s=>absurd hi (bY.2 (f.o.lt i s).1));have j:aj (aI kS 169 V W.heap.size v3 (A++x::B)):=by
       show World.ownsRow _ _ _ _ _ _ _;have e1:(A++x::B).length=A.length+1+(L.length-A.length):=(by have:=O.o;simp;omega);rw[e1,bE,dJ];exact l
      have C:aj ((A++x::B).length≤64):=(by show _≤_;have:=O.o;have:=t.o;simp;omega);have aL:V.cell? ⟨q,0,none⟩=some (.slice (some ⟨g,0,none⟩) L.length vc):=(by simp[World.cell?,(H.o.kept (J.o.aK I.o) (fun h=>h) (fun _ _ h=>h)).cells]);have f3:=(H.o.kept (J.o.aK I.o) (fun h=>h) (fun _ _ h=>h)).opened.frozen 0;have Q:aj (w.heap.size≤W.heap.size):=(by show _≤_;have:=Z.o;omega);have bK:=I.o.size;clear l y N P;obtain⟨a3,n3,d3,T⟩:∃a n c,v3= .slice a n c:=by
       obtain⟨a,c,he⟩:=aq j.o;exact⟨a,_,c,he⟩
      subst T;go_wp2;refine pP (nw rfl _ _ _) rfl ⟨rfl,zn (w:=w) H.o (J.o.aK I.o) (aI.base j.o Q.o) C.o⟩
theorem Pv {L A B:List Rf}{r:Rf}(h:bZ w q base v L is room dead)(P:L=A++r::B):
 Calls prog 230 #[dP q,qI A.length] w fun e w'=>e= .returned (.tuple #[])∧sM w q base (A++B) is room dead w':=by
 obtain⟨i0,hi,K,M,N⟩:=fR Tryz.Pu;have hlen:L.length=A.length+1+B.length:=(by rw[P];simp;omega);obtain⟨g,vc,rfl,J,aF,_,_⟩:=D4 h.own (by omega);have D:=h.few;have c0:w.cell? ⟨q,0,none⟩=some (.slice (some ⟨g,0,none⟩) L.length vc):=(by simp[World.cell?,h.cells]);have Z:=h.own.reads;have F:L.take A.length=A:=(by rw[P,nX];rfl);have E:L.drop (A.length+1)=B:=(by rw[P,show A++r::B=(A++ [r])++B by simp,qV (by simp)]);have W:=af (Z.take (m:=A.length) (by omega));rw[oo,F]at W;have H:=af h;have f:=af D;have s:=af hlen;have Q:=af E;have aD:(A.length:Int)≤(L.length:Int):=(by omega);have aB:(A.length:Int)≤(vc:Int):=(by omega);have av:(A.length:Int)+1≤(L.length:Int):=(by omega);have aA:(A.length:Int)+1≤(vc:Int):=(by omega);have aE:(L.length:Int)≤(vc:Int):=(by omega);have hA0:(A.length:Int)≤64:=(by omega);have aC:(0:Int)≤(A.length:Int):=(by omega);have ai:=af J;clear h D Z P hlen F E J;(go_enter func230,ntmps230);go_wp2_with (at_builtin;refine aQ rfl (.tmp 5) (.tmp 11) 71 rfl w.heap.size 169 i0 _ 3 48 underlying71 hi K M N rfl (by decide) (.slice none 0 0) 0 [] rfl (cJ _ _ _ _) (.slice (some ⟨g,0,none⟩) A.length vc) A.length (rowsOf kS A) rfl W.o ?c1 ?c2 ?c3 ?c4)
 case c1=>have:=f.o;have:=s.o;unfold maxLen;omega
 case c2=>have:=f.o;have:=s.o;omega
 case c3=>exact bM _
 case c4=>
  intro v2 w2 d G _ _;have R:aj (ah No w w2):=G.mono (fun i _ h=>by cases h);have X:=af (H.o.kept R.o (fun h=>h) (fun _ _ h=>h));have ak:w2.cell? ⟨q,0,none⟩=some (.slice (some ⟨g,0,none⟩) L.length vc):=(by simp[World.cell?,X.o.cells]);have b:=X.o.own.reads.Dv (m:=A.length+1) (by have:=s.o;omega) _ rfl;rw[iN,Q.o]at b;obtain⟨Y,u⟩:=ay (if vc=A.length+1 then some (⟨g,0,none⟩:Addr)else some ⟨g,(A.length+1)*3,none⟩)
  have z:aj (Reads w2 3 (.slice Y (L.length-(A.length+1)) (vc-(A.length+1))) (L.length-(A.length+1)) (rowsOf kS B)):=by
   show Reads _ _ _ _ _;rw[u];have e:(if vc=A.length+1 then some (⟨g,0,none⟩:Addr)else some ⟨g,(A.length+1)*3,none⟩)=(if vc=A.length+1 then some ⟨g,0,none⟩else Option.map (fun x:Addr=>x.add ((A.length+1)*kS.size)) (some ⟨g,0,none⟩)):=by
    split
    ·rfl
    ·rw[sV,qF,jI];rfl
   rw[e];exact b
  have C:=af u;obtain⟨a2,O,d2,rfl,p⟩:∃a n c,v2= .slice a n c∧n=A.length:=by
   obtain⟨a,c,he⟩:=aq d;exact⟨a,_,c,he,by omega⟩
  have j:aj (w2.ownsRow w.heap.size 169 3 (.slice a2 O d2) O (rowsOf kS A)):=by
   show World.ownsRow _ _ _ _ _ _ _;have h:=d
   try simp only[Nat.zero_add,tD]at h
   rw[p];rw[p]at h;exact h
  have t:=af p;clear d G c0 b u p;go_wp2_with (at_builtin;rw[←C.o];refine aQ rfl (.tmp 13) (.tmp 20) 71 rfl w.heap.size 169 i0 _ 3 48 underlying71 hi K M N rfl (by decide) (.slice a2 O d2) O (rowsOf kS A) rfl j.o (.slice Y (L.length-(A.length+1)) (vc-(A.length+1))) (L.length-(A.length+1)) (rowsOf kS B) rfl z.o ?c1 ?c2 ?c3 ?c4)
  case c1=>have:=f.o;have:=s.o;have:=t.o;unfold maxLen;omega
  case c2=>have:=f.o;have:=s.o;have:=t.o;omega
  case c3=>exact R.o.size
  case c4=>
   intro v3 V l I _ _;have S:aj (ah No w V):=R.o.trans I (fun i hi U=>absurd hi (bY.2 (j.o.lt i U).1));have k:aj (aI kS 169 V w.heap.size v3 (A++B)):=by
    show World.ownsRow _ _ _ _ _ _ _;have e1:(A++B).length=O+(L.length-(A.length+1)):=(by have:=s.o;have:=t.o;simp;omega);rw[e1,bE];exact l
   have y:aj ((A++B).length≤64):=(by show _≤_;have:=s.o;have:=f.o;simp;omega);have au:V.cell? ⟨q,0,none⟩=some (.slice (some ⟨g,0,none⟩) L.length vc):=(by simp[World.cell?,(H.o.kept S.o (fun h=>h) (fun _ _ h=>h)).cells]);have f3:=(H.o.kept S.o (fun h=>h) (fun _ _ h=>h)).opened.frozen 0;clear l I z C;obtain⟨a3,n3,d3,T⟩:∃a n c,v3= .slice a n c:=by
    obtain⟨a,c,he⟩:=aq k.o;exact⟨a,_,c,he⟩
   subst T;go_wp2;refine pP (nw rfl _ _ _) rfl ⟨rfl,zn (w:=w) H.o S.o k.o y.o⟩
end
def QS (q:Nat)(v:Value):Nat→Prop:=fun i=>i=q∨v.ownBlock=some i
def iJ (r:Rf):Prop:=r.sure.size+r.loose.size≤4194304
section
variable {w:World}{q base:Nat}{v:Value}{is:Bool}{room:Int}{dead:Bool}
theorem bZ.UB {w2:World}{g vc:Nat}{L A B:List Rf}{r:Rf}(h:bZ w2 q base (.slice (some ⟨g,0,none⟩) L.length vc) L is room dead)(a:L=A++r::B)(x:Rf):
 bZ (w2.setRow g (splice (aL w2 g) (A.length*3) (wJ x))) q base (.slice (some ⟨g,0,none⟩) L.length vc) (A++x::B) is room dead∧ah (QS q (.slice (some ⟨g,0,none⟩) L.length vc)) w2 (w2.setRow g (splice (aL w2 g) (A.length*3) (wJ x))):=by
 have b:g≠q:=h.ne g rfl;have hlen:L.length=(A++x::B).length:=(by rw[a];simp);have hs:L.set A.length x=A++x::B:=(by rw[a];simp);have d:=Ay h.own A.length (by rw[a];simp) x;rw[hs]at d;have c:ah (Own g) w2 (w2.setRow g (splice (aL w2 g) (A.length*3) (wJ x))):=(aA w2).setRow (S:=Own g) (fun _=>rfl) _;exact⟨⟨c.heap h.cells (fun e=>b e.symm),d,h.ne,by rw[←hlen];exact h.few,aU h.low c.size⟩,c.mono (fun i _ hi=> .inr (by cases hi;rfl))⟩
theorem bZ.row {L A B:List Rf}{r:Rf}(h:bZ w q base v L is room dead)(a:L=A++r::B):∃g vc,v= .slice (some ⟨g,0,none⟩) L.length vc∧A.length<L.length∧ai w g (A.length*3) 3=some (wJ r)∧Open w g∧A.length*3+3≤(aL w g).size:=by
 have hlen:L.length=A.length+1+B.length:=(by rw[a];simp;omega);obtain⟨g,vc,rfl,f,b,c,hs⟩:=D4 h.own (by omega);refine⟨g,vc,rfl,by omega,?_,c,?_⟩
 ·have d:aW kS w (.slice (some ⟨g,0,none⟩) L.length vc) L:=h.own.reads;have c3:ai w g (0+A.length*3) 3=some (wJ (L[A.length]'(by omega))):=aW.at kS d A.length (by omega);have e:L[A.length]'(by omega)=r:=by
   subst a;simp
  rw[e,jI]at c3;exact c3
 ·rw[hs];have:kS.size=3:=rfl;rw[this];omega
theorem Pw {L A B:List Rf}{r:Rf}(h:bZ w q base v L is room dead)(b:L=A++r::B)(hf:iJ r)(n:ByteArray)(i:kW L dead n=((A.length:Int),0)):
 Calls prog 34 #[dP q,.string n] w fun e w'=>e= .returned (qI 0)∧bZ w' q base v (A++⟨n,r.sure++r.loose,⟨#[]⟩⟩::B) is room dead∧ah (QS q v) w w':=by
 obtain⟨g,vc,rfl,d,c3,s,p⟩:=h.row b;have c0:w.cell? ⟨q,0,none⟩=some (.slice (some ⟨g,0,none⟩) L.length vc):=(by simp[World.cell?,h.cells]);have d1:w.cell? ⟨g,A.length*3+1,none⟩=some (.string r.sure):=ak c3 1 _ rfl;have d2:w.cell? ⟨g,A.length*3+2,none⟩=some (.string r.loose):=ak c3 2 _ rfl;have j:∀W:World,(Op.stringOp .add r.sure r.loose).run prog W= .ok (.string (r.sure++r.loose)) W:=fun W=>kD W _ _ (by unfold iJ at hf;omega);have l:(0:Int)≤(A.length:Int):=(by omega);have m:(A.length:Int)<(L.length:Int):=(by omega);have a:=af (gM h n _ _ i);have H:=af h;have k:=af b;clear h hf i b c3 d;(go_enter func34,ntmps34);(go_wp2_with fail);refine a.o.mono ?_;rintro e w1 ⟨rfl,rfl⟩;go_wp2
 go_still_tail 25,(by kernel_rfl)
 change wpList _ _ _ _ _ (World.drew _)
 go_wp2;go_ret;obtain⟨f,c⟩:=H.o.UB k.o ⟨n,r.sure++r.loose,⟨#[]⟩⟩;exact⟨rfl,f.kept ((aA (S:=No) _).drew) (fun h=>h) (fun _ _ h=>h),c.drew⟩
theorem Dh {L:List Rf}(h:bZ w q base v L is room dead)(n:ByteArray)(ec:Int)(b:kW L dead n=(0,ec))(he:(ec==0)=false):
 Calls prog 34 #[dP q,.string n] w (qW w (qI ec)):=by
 have a:=af (gM h n _ _ b);clear h b;(go_enter func34,ntmps34);(go_wp2_with fail);refine a.o.mono ?_;rintro e w1 ⟨rfl,rfl⟩;go_wp2;go_ret;exact⟨rfl,rfl⟩
def G6 (is:Bool)(room:Int)(dead:Bool)(s b:ByteArray)(room':Int)(a:Bool):Prop:=
 (is=false∧b=s∧room'=room∧a=dead)∨(is=true∧(s.size:Int)≤room∧room≤9223372036854775807∧b=s∧room'=room-s.size∧a=dead)∨
   (is=true∧∃M:Nat,room=M∧(M:Int)<s.size∧b=s.extract 0 M∧room'=0∧a=true)
theorem G7 {L:List Rf}(h:bZ w q base v L is room dead)(s b:ByteArray)(room':Int)(a:Bool)(hf:G6 is room dead s b room' a):
 Calls prog 101 #[dP q,.string s] w fun e w'=>e= .returned (.string b)∧bZ w' q base v L is room' a∧ah (Own q) w w':=by
 rcases hf with⟨rfl,rfl,rfl,rfl⟩|⟨rfl,c,d,rfl,rfl,rfl⟩|⟨rfl,M,rfl,c,rfl,rfl,rfl⟩
 ·exact(Mz h b).mono (by rintro e w' ⟨rfl,rfl⟩;exact⟨rfl,h,aA _⟩)
 ·exact Pt h b c d
 ·exact MB h s c
theorem G8 {L:List Rf}(h:bZ w q base v L is room dead)(n s:ByteArray)(ec:Int)(b:kW L dead n=(0,ec))(he:ec=1∨ec=12):
 Calls prog 33 #[dP q,.string n,.string s] w (qW w (qI ec)):=by
 have a:=af (gM h n _ _ b);clear h b;rcases he with rfl|rfl
 all_goals
  (go_enter func33,ntmps33);(go_wp2_with fail);refine a.o.mono ?_;rintro e w1 ⟨rfl,rfl⟩;go_wp2;go_ret;exact⟨rfl,rfl⟩
theorem ED {L:List Rf}(h:bZ w q base v L is room dead)(n s:ByteArray)(c:kW L dead n=(0,6))(hs:64≤L.length∨L.length<64∧4194304<s.size):
 Calls prog 33 #[dP q,.string n,.string s] w (qW w (qI 8)):=by
 have a:=af (gM h n _ _ c);obtain⟨va,vc,rfl⟩:=aq h.own;have c0:w.cell? ⟨q,0,none⟩=some (.slice va L.length vc):=(by simp[World.cell?,h.cells]);clear h c;rcases hs with hs|⟨hs,b⟩
 ·have d:decide ((64:Int)≤(L.length:Int))=true:=aM (by omega);clear hs;(go_enter func33,ntmps33);(go_wp2_with fail);refine a.o.mono ?_;rintro e w1 ⟨rfl,rfl⟩;go_wp2;go_ret;exact⟨rfl,rfl⟩
 ·have d:decide ((64:Int)≤(L.length:Int))=false:=aJ (by omega);have f:decide ((4194304:Int)<(s.size:Int))=true:=aM (by omega);clear hs b;(go_enter func33,ntmps33);(go_wp2_with fail);refine a.o.mono ?_;rintro e w1 ⟨rfl,rfl⟩;go_wp2;go_ret;exact⟨rfl,rfl⟩
theorem yL {L A B:List Rf}{b:Bool}{room':Int}(h:bZ w q base v L is room dead)(r:L=A++B)(n s f:ByteArray)(p:kW L dead n=(0,6))(d:L.length<64)(hs:s.size≤4194304)(hf:G6 is room dead s f room' b)
 (hA:∀a∈A,bytesBefore a.name.data.toList n.data.toList=true) (m:∀c∈B,bytesBefore c.name.data.toList n.data.toList=false):
 Calls prog 33 #[dP q,.string n,.string s] w fun e w'=>e= .returned (qI (bif b then 12 else 0))∧sM w q base (A++⟨n,⟨#[]⟩,f⟩::B) is room' b w':=by
 have j:=af (gM h n _ _ p);obtain⟨va,vc,rfl⟩:=aq h.own;have c0:w.cell? ⟨q,0,none⟩=some (.slice va L.length vc):=(by simp[World.cell?,h.cells]);have J:decide ((64:Int)≤(L.length:Int))=false:=aJ (by omega);have K:decide ((4194304:Int)<(s.size:Int))=false:=aJ (by omega);have H:=af h;have D:=af hf;have g:=af d;have C:=af r;have y:=af hA;have z:=af m;clear h p hs d hf hA m r;(go_enter func33,ntmps33);(go_wp2_with fail);refine j.o.mono ?_;rintro e w1 ⟨rfl,rfl⟩;(go_wp2_with fail);refine(G7 H.o s f room' b D.o).mono ?_;rintro e w2 ⟨rfl,r2,t⟩;have G:=af r2;have k:=af t;clear r2 t;(go_wp2_with fail);refine(RA G.o C.o ⟨n,⟨#[]⟩,f⟩ y.o z.o g.o).mono ?_;rintro e I ⟨rfl,v3,x,n3,u⟩;have l:=af x;have E:aj (ah (Own q) w1 I):=k.o.aK u;have F:aj (∀i,v3.ownBlock=some i→w1.heap.size≤i):=af (fun i hi=>aU k.o.size (n3 i hi));clear x u n3;(go_wp2_with fail);refine(Dg l.o).mono ?_;rintro e M ⟨rfl,rfl⟩;go_wp2;go_ret;exact⟨rfl,v3,l.o,F.o,E.o⟩
theorem yM {α:Type}(C:dX α)(l:List α)(j:Nat)(b:j<l.length)(i:Nat)(hi:i<C.size)(a:α)(u:Value)(h:C.cells a=(C.cells l[j]).set i u):(rowsOf C l).set (j*C.size+i) u=rowsOf C (l.set j a):=by
 have e:rowsOf C l=rowsOf C (l.take j)++(C.cells l[j]++rowsOf C (l.drop (j+1))):=by
  rw[←dJ, ←mX b, ←bE,jN]
 have e2:rowsOf C (l.set j a)=rowsOf C (l.take j)++(C.cells a++rowsOf C (l.drop (j+1))):=by
  rw[H7,dM b,bE,dJ]
 have hl:(rowsOf C (l.take j)).length=j*C.size:=(by rw[bV,fB,qE (by omega)]);rw[e,e2,h,List.set_append_right _ _ (by omega),hl,Nat.add_sub_cancel_left,List.set_append_left _ _ (by rw[C.len];exact hi)]
theorem bZ.UC {w2:World}{g vc:Nat}{L A B:List Rf}{r:Rf}(h:bZ w2 q base (.slice (some ⟨g,0,none⟩) L.length vc) L is room dead)(a:L=A++r::B)(s:ByteArray):
 bZ (w2.setCell ⟨g,A.length*3+2,none⟩ (.string s)) q base (.slice (some ⟨g,0,none⟩) L.length vc) (A++⟨r.name,r.sure,s⟩::B) is room dead∧ah (QS q (.slice (some ⟨g,0,none⟩) L.length vc)) w2 (w2.setCell ⟨g,A.length*3+2,none⟩ (.string s)):=by
 have b:g≠q:=h.ne g rfl;have hlen:L.length=(A++⟨r.name,r.sure,s⟩::B:List Rf).length:=(by rw[a];simp);have hs:L.set A.length ⟨r.name,r.sure,s⟩=A++⟨r.name,r.sure,s⟩::B:=(by rw[a];simp);have hA:A.length<L.length:=(by rw[a];simp);have e:L[A.length]'hA=r:=by
  subst a;simp
 have d:=(h.own.stored (A.length*3+2) (.string s)).1;have e1:(rowsOf kS L).set (A.length*3+2) (.string s)=rowsOf kS (A++⟨r.name,r.sure,s⟩::B):=by
  rw[←hs];exact yM kS L A.length hA 2 (by decide) _ _ (by rw[e];rfl)
 rw[e1]at d;have c:ah (Own g) w2 (w2.setCell ⟨g,A.length*3+2,none⟩ (.string s)):=(aA w2).setCell (S:=Own g) (p:=⟨g,A.length*3+2,none⟩) (fun _=>rfl) _;have f:aI kS 169 (w2.setCell ⟨g,A.length*3+2,none⟩ (.string s)) base (.slice (some ⟨g,0,none⟩) L.length vc) (A++⟨r.name,r.sure,s⟩::B):=by
  unfold aI;rw[←hlen];exact d
 exact⟨⟨c.heap h.cells (fun e=>b e.symm),f,h.ne,by rw[←hlen];exact h.few,aU h.low c.size⟩,c.mono (fun i _ hi=> .inr (by cases hi;rfl))⟩
theorem G9 {L A B:List Rf}{r:Rf}(h:bZ w q base v L is room dead)(f:L=A++r::B)(i:iJ r)(n s:ByteArray)(d:kW L dead n=((A.length:Int),0))(hs:s.size≤4194304)(a:4194304<r.sure.size+r.loose.size+s.size):
 Calls prog 33 #[dP q,.string n,.string s] w (qG w (qI 8)):=by
 obtain⟨g,vc,rfl,c,c3,_,_⟩:=h.row f;have c0:w.cell? ⟨q,0,none⟩=some (.slice (some ⟨g,0,none⟩) L.length vc):=(by simp[World.cell?,h.cells]);have d1:w.cell? ⟨g,A.length*3+1,none⟩=some (.string r.sure):=ak c3 1 _ rfl;have d2:w.cell? ⟨g,A.length*3+2,none⟩=some (.string r.loose):=ak c3 2 _ rfl;have j:(0:Int)≤(A.length:Int):=(by omega);have k:(A.length:Int)<(L.length:Int):=(by omega);unfold iJ at i;have l:IntKind.i64.wrap ((r.sure.size:Int)+(r.loose.size:Int))=(r.sure.size:Int)+(r.loose.size:Int):=(by rw[cI];omega);have m:IntKind.i64.wrap (4194304-(s.size:Int))=4194304-(s.size:Int):=(by rw[cI];omega);have p:decide (4194304-(s.size:Int)<(r.sure.size:Int)+(r.loose.size:Int))=true:=aM (by omega);have b:=af (gM h n _ _ d);clear h d f c3 c i a hs;(go_enter func33,ntmps33);(go_wp2_with fail);refine b.o.mono ?_;rintro e w1 ⟨rfl,rfl⟩;go_wp2
 go_quiet (fail)
 rename_i nq
 go_wp2;go_ret;exact⟨rfl,(aA _).drewN nq⟩
theorem yN {L A B:List Rf}{r:Rf}{a:Bool}{room':Int}(h:bZ w q base v L is room dead)(i:L=A++r::B)(n s b:ByteArray)(p:kW L dead n=((A.length:Int),0))(c:r.sure.size+r.loose.size+s.size≤4194304)(l:b.size≤s.size)(hf:G6 is room dead s b room' a):
 Calls prog 33 #[dP q,.string n,.string s] w fun e w'=>e= .returned (qI (bif a then 12 else 0))∧bZ w' q base v (A++⟨r.name,r.sure,r.loose++b⟩::B) is room' a∧ah (QS q v) w w':=by
 obtain⟨g,vc,rfl,k,c3,_,_⟩:=h.row i;have c0:w.cell? ⟨q,0,none⟩=some (.slice (some ⟨g,0,none⟩) L.length vc):=(by simp[World.cell?,h.cells]);have d1:w.cell? ⟨g,A.length*3+1,none⟩=some (.string r.sure):=ak c3 1 _ rfl;have d2:w.cell? ⟨g,A.length*3+2,none⟩=some (.string r.loose):=ak c3 2 _ rfl;have D:(0:Int)≤(A.length:Int):=(by omega);have E:(A.length:Int)<(L.length:Int):=(by omega);have F:IntKind.i64.wrap ((r.sure.size:Int)+(r.loose.size:Int))=(r.sure.size:Int)+(r.loose.size:Int):=(by rw[cI];omega);have G:IntKind.i64.wrap (4194304-(s.size:Int))=4194304-(s.size:Int):=(by rw[cI];omega);have J:decide (4194304-(s.size:Int)<(r.sure.size:Int)+(r.loose.size:Int))=false:=aJ (by omega);have t:∀W:World,(Op.stringOp .add r.loose b).run prog W= .ok (.string (r.loose++b)) W:=fun W=>kD W _ _ (by omega);have d:=af (gM h n _ _ p);have H:=af h;have m:=af i;have y:=af hf;clear h p i c3 k c l hf;(go_enter func33,ntmps33);(go_wp2_with fail);refine d.o.mono ?_;rintro e w1 ⟨rfl,rfl⟩;go_wp2
 go_quiet (fail)
 rename_i nq
 (go_wp2_with fail);refine(G7 (H.o.kept ((aA (S:=No) w1).drewN nq) (fun h=>h) (fun _ _ h=>h)) s b room' a y.o).mono ?_;rintro e w2 ⟨rfl,r2,x⟩;have f:=af r2;have z:aj (ah (Own q) w1 w2):=((aA w1).drewN nq).aK x;clear r2 x c0 d1 d2;have c0:w2.cell? ⟨q,0,none⟩=some (.slice (some ⟨g,0,none⟩) L.length vc):=(by simp[World.cell?,f.o.cells]);obtain⟨g',I,he,_,c3,u,C⟩:=f.o.row m.o;simp only[Value.slice.injEq,Option.some.injEq,Addr.mk.injEq,and_true,true_and]at he;obtain⟨rfl,rfl⟩:=he;have d2:w2.cell? ⟨g,A.length*3+2,none⟩=some (.string r.loose):=ak c3 2 _ rfl;have f2:=u.frozen (A.length*3+2);clear c3 u C;go_wp2
 go_still_tail 17,(by kernel_rfl)
 change wpList _ _ _ _ _ (World.drew _)
 (go_wp2_with fail);have j:=f.o.UC m.o (r.loose++b);refine(Dg (j.1.kept ((aA (S:=No) _).drew) (fun h=>h) (fun _ _ h=>h))).mono ?_;rintro e K ⟨rfl,rfl⟩;go_wp2;go_ret;exact⟨rfl,j.1.kept ((aA (S:=No) _).drew) (fun h=>h) (fun _ _ h=>h),((z.o.mono (T:=QS q _) (fun _ _ h=> .inl h)).aK j.2).drew⟩
end
section
variable {w:World}{q base:Nat}{v:Value}{is:Bool}{room:Int}{dead:Bool}
theorem yO {L:List Rf}(h:bZ w q base v L is room dead)(n:ByteArray)(ec:Int)(b:kW L dead n=(0,ec))(he:(ec==0)=false):
 Calls prog 172 #[dP q,.string n] w (qW w (qI ec)):=by
 have a:=af (gM h n _ _ b);clear h b;(go_enter func172,ntmps172);(go_wp2_with fail);refine a.o.mono ?_;rintro e w1 ⟨rfl,rfl⟩;go_wp2;go_ret;exact⟨rfl,rfl⟩
theorem JT {L A B:List Rf}{r:Rf}(h:bZ w q base v L is room dead)(c:L=A++r::B)(n:ByteArray)(b:kW L dead n=((A.length:Int),0)):
 Calls prog 172 #[dP q,.string n] w fun e w'=>e= .returned (qI 0)∧sM w q base (A++B) is room dead w':=by
 have a:=af (gM h n _ _ b);have H:=af h;have d:=af c;clear h b c;(go_enter func172,ntmps172);(go_wp2_with fail);refine a.o.mono ?_;rintro e w1 ⟨rfl,rfl⟩;(go_wp2_with fail);refine(Pv H.o d.o).mono ?_;rintro e w2 ⟨rfl,r2⟩;have f:=af r2;clear r2;go_wp2;go_ret;exact⟨rfl,f.o⟩
theorem tN {L:List Rf}(h:bZ w q base v L is room dead)(n:ByteArray)(k ec:Int)(b:kW L dead n=(0,ec))(he:(ec !=0)=true):
 Calls prog 175 #[dP q,.string n,qI k] w (qW w (qI ec)):=by
 have a:=af (gM h n _ _ b);clear h b;(go_enter func175,ntmps175);(go_wp2_with fail);refine a.o.mono ?_;rintro e w1 ⟨rfl,rfl⟩;go_wp2;go_ret;exact⟨rfl,rfl⟩
theorem zb {L A B:List Rf}{r:Rf}(h:bZ w q base v L is room dead)(f:L=A++r::B)(i:iJ r)(n:ByteArray)(k:Int)(d:kW L dead n=((A.length:Int),0))(a:k<0∨(r.sure.size:Int)+r.loose.size<k):
 Calls prog 175 #[dP q,.string n,qI k] w (qG w (qI 5)):=by
 obtain⟨g,vc,rfl,c,c3,_,_⟩:=h.row f;have c0:w.cell? ⟨q,0,none⟩=some (.slice (some ⟨g,0,none⟩) L.length vc):=(by simp[World.cell?,h.cells]);have m:(0:Int)≤(A.length:Int):=(by omega);have p:(A.length:Int)<(L.length:Int):=(by omega);unfold iJ at i;have s:IntKind.i64.wrap ((r.sure.size:Int)+(r.loose.size:Int))=(r.sure.size:Int)+(r.loose.size:Int):=(by rw[cI];omega);have b:=af (gM h n _ _ d);have t:q<w.heap.size∧g<w.heap.size:=⟨(bX.1 h.cells).1,(h.own.lt g rfl).2⟩;obtain⟨u,x⟩:=t;unfold wJ at c3;clear h d f c i;rcases a with a|a
 ·have j:decide (k<0)=true:=aM a;clear a;(go_enter func175,ntmps175);(go_wp2_with fail);refine b.o.mono ?_;rintro e w1 ⟨rfl,rfl⟩;go_wp2;go_ret;exact⟨rfl,(aA _).alloc _⟩
 ·have j:decide (k<0)=false:=aJ (by omega);have l:decide ((r.sure.size:Int)+(r.loose.size:Int)<k)=true:=aM a;clear a;(go_enter func175,ntmps175);(go_wp2_with fail);refine b.o.mono ?_;rintro e w1 ⟨rfl,rfl⟩;go_wp2;go_ret;exact⟨rfl,(aA _).alloc _⟩
def BD (n:ByteArray)(r:Rf)(K:Nat):Rf:=bif decide (K≤r.sure.size)then⟨n,r.sure.extract 0 K,⟨#[]⟩⟩else⟨r.name,r.sure,r.loose.extract 0 (K-r.sure.size)⟩
theorem EE {L A B:List Rf}{r:Rf}(h:bZ w q base v L is room dead)(p:L=A++r::B)(u:iJ r)(n:ByteArray)(K:Nat)(y:kW L dead n=((A.length:Int),0))(hK:K≤r.sure.size+r.loose.size):
 Calls prog 175 #[dP q,.string n,qI K] w fun e w'=>e= .returned (qI 0)∧bZ w' q base v (A++BD n r K::B) is room dead∧ah (QS q v) w w':=by
 obtain⟨g,vc,rfl,t,c3,D,C⟩:=h.row p;have c0:w.cell? ⟨q,0,none⟩=some (.slice (some ⟨g,0,none⟩) L.length vc):=(by simp[World.cell?,h.cells]);have P:(0:Int)≤(A.length:Int):=(by omega);have Q:(A.length:Int)<(L.length:Int):=(by omega);unfold iJ at u;have R:IntKind.i64.wrap ((r.sure.size:Int)+(r.loose.size:Int))=(r.sure.size:Int)+(r.loose.size:Int):=(by rw[cI];omega);have Z:decide ((K:Int)<0)=false:=aJ (by omega);have O:decide ((r.sure.size:Int)+(r.loose.size:Int)<K)=false:=aJ (by omega);have I:(0:Int)≤(K:Int):=(by omega);have k:=af (gM h n _ _ y);have H:=af h;have x:=af p;have V:q<w.heap.size:=(bX.1 h.cells).1;have X:g<w.heap.size:=(h.own.lt g rfl).2;unfold wJ at c3;have b:=af D;have l:=af C;clear h y p t D C;by_cases hc:K≤r.sure.size
 ·have e:BD n r K=⟨n,r.sure.extract 0 K,⟨#[]⟩⟩:=(by unfold BD;rw[aM hc];rfl);have s:decide ((K:Int)≤(r.sure.size:Int))=true:=aM (by omega);have M:(K:Int)≤(r.sure.size:Int):=(by omega);rw[e];clear e hc u hK;(go_enter func175,ntmps175);(go_wp2_with fail);refine k.o.mono ?_;rintro e w1 ⟨rfl,rfl⟩;go_wp2;refine au ?_;intro W hW;have a:aj (ah No w1 W):=(by rw[hW];exact(aA (S:=No) w1).alloc _);have j:=af (H.o.kept a.o (fun h=>h) (fun _ _ h=>h));have i:ai W w1.heap.size 0 3=some [.string r.name,.string r.sure,.string r.loose]:=(by rw[hW];simp[go_sem]);have E:W.cell? ⟨w1.heap.size,1,none⟩=some (.string r.sure):=ak i 1 _ rfl;have m:W.cell? ⟨q,0,none⟩=some (.slice (some ⟨g,0,none⟩) L.length vc):=(by simp[World.cell?,j.o.cells]);have d:Open W g:=a.o.opened b.o;have N:A.length*3+3≤(aL W g).size:=(by rw[a.o.iu b.o rfl];exact l.o);clear hW c0 c3 i
  go_still_tail 12,(by kernel_rfl)
  change wpList _ _ _ _ _ (World.drew _)
  go_wp2;go_ret;obtain⟨f,c⟩:=j.o.UB x.o ⟨n,r.sure.extract 0 K,⟨#[]⟩⟩;exact⟨rfl,f.kept ((aA (S:=No) _).drew) (fun h=>h) (fun _ _ h=>h),(((a.o.mono (T:=QS q _) (fun _ _ h=>h.elim)).aK c)).drew⟩
 ·have e:BD n r K=⟨r.name,r.sure,r.loose.extract 0 (K-r.sure.size)⟩:=(by unfold BD;rw[aJ hc];rfl);have s:decide (K≤r.sure.size)=false:=aJ (by omega);obtain⟨J,z⟩:=ay (K-r.sure.size);have U:IntKind.i64.wrap ((K:Int)-(r.sure.size:Int))=(J:Int):=(by rw[cI];omega);have F:(0:Int)≤(J:Int):=(by omega);have G:(J:Int)≤(r.loose.size:Int):=(by omega);rw[e, ←z];clear e hc u hK z;(go_enter func175,ntmps175);(go_wp2_with fail);refine k.o.mono ?_;rintro e w1 ⟨rfl,rfl⟩;go_wp2;refine au ?_;intro W hW;have a:aj (ah No w1 W):=(by rw[hW];exact(aA (S:=No) w1).alloc _);have j:=af (H.o.kept a.o (fun h=>h) (fun _ _ h=>h));have i:ai W w1.heap.size 0 3=some [.string r.name,.string r.sure,.string r.loose]:=(by rw[hW];simp[go_sem]);have E:W.cell? ⟨w1.heap.size,1,none⟩=some (.string r.sure):=ak i 1 _ rfl;have Y:W.cell? ⟨w1.heap.size,2,none⟩=some (.string r.loose):=ak i 2 _ rfl;have m:W.cell? ⟨q,0,none⟩=some (.slice (some ⟨g,0,none⟩) L.length vc):=(by simp[World.cell?,j.o.cells]);have d:Open W g:=a.o.opened b.o;have f2:=d.frozen (A.length*3+2);have d2:W.cell? ⟨g,A.length*3+2,none⟩=some (.string r.loose):=ak (a.o.ai c3) 2 _ rfl;clear hW c0 c3 i d
  go_still_tail 15,(by kernel_rfl)
  change wpList _ _ _ _ _ (World.drew _)
  go_wp2;go_ret;obtain⟨f,c⟩:=j.o.UC x.o (r.loose.extract 0 J);exact⟨rfl,f.kept ((aA (S:=No) _).drew) (fun h=>h) (fun _ _ h=>h),(((a.o.mono (T:=QS q _) (fun _ _ h=>h.elim)).aK c)).drew⟩
end
