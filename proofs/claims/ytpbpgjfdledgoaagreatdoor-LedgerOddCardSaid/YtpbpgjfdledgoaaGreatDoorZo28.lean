/- Lemmas. -/
import Derived.Test.YtpbpgjfdledgoaaGreatDoorZo23
set_option linter.all false
set_option maxRecDepth 100000
set_option maxHeartbeats 8000000
open Bool renaming and_assoc→yD,and_true→Ba,not_false→tG,not_true→jj
open Nat renaming zero_add→bC
namespace Go.Proofs.YtpbpgjfdledgoaaGreatDoor
open Go.Proofs.Tryz
open Go.RowKit Go.Joins Go.Deep
theorem qj (w:World)(h:Bool)(n lo hi:Int):Calls prog 141 #[.bool h,qI n,qI lo,qI hi] w (qW w ((.bool (nT h n lo hi)))):=by
 cases h with
 |false=>
  by_cases h0:n=0
  ·subst h0;(go_enter func141,ntmps141);go_wp2;go_ret;exact⟨rfl,rfl⟩
  ·have hb:(n==0)=false:=(by simpa using h0);have a:aj (nT false n lo hi=false):=af (by unfold nT;rw[aN,aJ h0]);rw[a.o];clear h0;(go_enter func141,ntmps141);go_wp2;go_ret;exact⟨rfl,rfl⟩
 |true=>
  by_cases b:lo≤n
  ·by_cases c:n≤hi
   ·have a:aj (nT true n lo hi=true):=af (by unfold nT jo;rw[aM b,aM c];rfl);rw[a.o];(go_enter func141,ntmps141);go_wp2;go_ret;exact⟨rfl,rfl⟩
   ·have a:aj (nT true n lo hi=false):=af (by unfold nT jo;rw[aM b,aJ c];rfl);rw[a.o];(go_enter func141,ntmps141);go_wp2;go_ret;exact⟨rfl,rfl⟩
  ·have a:aj (nT true n lo hi=false):=af (by unfold nT jo;rw[aJ b];rfl);rw[a.o];(go_enter func141,ntmps141);go_wp2;go_ret;exact⟨rfl,rfl⟩
theorem Gm (w:World)(m:Int):Calls prog 143 #[qI m] w (qW w ((.bool (gW m)))):=by
 have hs:=(jt m).1;have a:aj (gW m=((decide (0<m)&&decide (m≤31))&&!hasB m 1)):=af (by
  unfold gW jo;rw[show decide (1≤m)=decide (0<m)from zJ.2 (by omega)])
 rw[a.o];by_cases c:0<m
 ·by_cases d:m≤31
  ·rw[aM c,aM d];cases b:hasB m 1
   ·have e:bits .and .i64 m 1=0:=(by rw[hs,b];rfl);clear hs b a;(go_enter func143,ntmps143);go_wp2;go_ret;exact⟨rfl,rfl⟩
   ·have e:bits .and .i64 m 1=1:=(by rw[hs,b];rfl);clear hs b a;(go_enter func143,ntmps143);go_wp2;go_ret;exact⟨rfl,rfl⟩
  ·rw[aM c,aJ d,jR,iL];clear hs a;(go_enter func143,ntmps143);go_wp2;go_ret;exact⟨rfl,rfl⟩
 ·rw[aJ c,iL,iL];clear hs a;(go_enter func143,ntmps143);go_wp2;go_ret;exact⟨rfl,rfl⟩
def fO (b:Bool):Int:=bif b then 0 else 1
theorem fU (w:World)(a:cO):Calls prog 65 #[iE a] w fun e w'=>e= .returned (qI (fO (dF a)))∧Grown w w':=by
 obtain⟨s,i,g⟩:=a;have C1:=af (fun W=>qj W true s 0 15);have c:=af (fun W=>qj W true i 0 15);have C3:=af (fun W=>qj W true g 0 1048575);have b:aj (dF ⟨s,i,g⟩=(nT true s 0 15&&(nT true i 0 15&&nT true g 0 1048575))):=af rfl;obtain⟨k,f⟩:=ay (nT true s 0 15);obtain⟨B2,h⟩:=ay (nT true i 0 15);obtain⟨l,j⟩:=ay (nT true g 0 1048575);rw[←f]at C1 b;rw[←h]at c b;rw[←j]at C3 b;rw[b.o];clear f h j b;have d:=af (((Grown.same w).alloc (.cells #[qI s,qI i,qI g] 23)));cases k with
 |false=>
  (go_enter func65,ntmps65);(go_wp2_with fail);refine(C1.o _).mono ?_;rintro e w1 ⟨rfl,hw⟩;have hw:=hw.symm;subst hw;go_wp2;go_ret;exact⟨rfl,d.o⟩
 |true=>
  cases B2 with
  |false=>
   (go_enter func65,ntmps65);(go_wp2_with fail);refine(C1.o _).mono ?_;rintro e w1 ⟨rfl,hw⟩;have hw:=hw.symm;subst hw;(go_wp2_with fail);refine(c.o _).mono ?_;rintro e w1 ⟨rfl,hw⟩;have hw:=hw.symm;subst hw;go_wp2;go_ret;exact⟨rfl,d.o⟩
  |true=>
   cases l with
   |false=>
    (go_enter func65,ntmps65);(go_wp2_with fail);refine(C1.o _).mono ?_;rintro e w1 ⟨rfl,hw⟩;have hw:=hw.symm;subst hw;(go_wp2_with fail);refine(c.o _).mono ?_;rintro e w1 ⟨rfl,hw⟩;have hw:=hw.symm;subst hw;(go_wp2_with fail);refine(C3.o _).mono ?_;rintro e w1 ⟨rfl,hw⟩;have hw:=hw.symm;subst hw;go_wp2;go_ret;exact⟨rfl,d.o⟩
   |true=>
    (go_enter func65,ntmps65);(go_wp2_with fail);refine(C1.o _).mono ?_;rintro e w1 ⟨rfl,hw⟩;have hw:=hw.symm;subst hw;(go_wp2_with fail);refine(c.o _).mono ?_;rintro e w1 ⟨rfl,hw⟩;have hw:=hw.symm;subst hw;(go_wp2_with fail);refine(C3.o _).mono ?_;rintro e w1 ⟨rfl,hw⟩;have hw:=hw.symm;subst hw;go_wp2;go_ret;exact⟨rfl,d.o⟩
theorem Ej (p:Prop) [Decidable p](b:Bool)(w:World):(if p then(Result.ok (Value.bool b) w:Result Value)else .ok (.bool false) w)= .ok (.bool (decide p&&b)) w:=by
 by_cases h:p<;>simp[h]
theorem Jc (p:Prop) [Decidable p](b:Bool)(w:World):(if p then(Result.ok (Value.bool b) w:Result Value)else .ok (.bool true) w)= .ok (.bool (!decide p||b)) w:=by
 by_cases h:p<;>simp[h]
theorem L0 (a b:Bd)(w:World):(binOp .eql 25 (mr a) (mr b)).run prog w= .ok (.bool (pq a b)) w:=by
 obtain⟨a0,e,a2,a3,a4,a5,f,g,h,a9,c⟩:=a;obtain⟨b0,b1,i,j,k,l,m,n,o,p,d⟩:=b;simp only[pq,neq,Bd.id];simp[go_sem];simp only[Ej,yD,Ba];rfl
theorem L3 (a b:Bd)(w:World):(binOp .neq 25 (mr a) (mr b)).run prog w= .ok (.bool (!pq a b)) w:=by
 obtain⟨a0,e,a2,a3,a4,a5,f,g,h,a9,c⟩:=a;obtain⟨b0,b1,i,j,k,l,m,n,o,p,d⟩:=b;simp only[pq,neq,Bd.id];simp[go_sem];simp only[Jc,Bool.or_false,Bool.or_assoc];rfl
theorem L4 (a b:Cm)(w:World):(binOp .eql 27 (gH a) (gH b)).run prog w= .ok (.bool (jc a b)) w:=by
 obtain⟨a0,e,a2,a3,⟨x0,i,j,k,l,m,n,o,p,q,c⟩,a5⟩:=a;obtain⟨b0,b1,f,g,⟨r,s,t,u,v,x,y,z,A,B,d⟩,h⟩:=b;simp only[jc,pq,neq,Bd.id,Cm.id];simp[go_sem];simp only[Ej,yD,Ba];rfl
theorem C0 (a b:Cm)(w:World):(binOp .neq 27 (gH a) (gH b)).run prog w= .ok (.bool (!jc a b)) w:=by
 obtain⟨a0,e,a2,a3,⟨x0,i,j,k,l,m,n,o,p,q,c⟩,a5⟩:=a;obtain⟨b0,b1,f,g,⟨r,s,t,u,v,x,y,z,A,B,d⟩,h⟩:=b;simp only[jc,pq,neq,Bd.id,Cm.id];simp[go_sem];simp only[Jc,Bool.or_false,Bool.or_assoc];rfl
structure Wi where
 h:Bool
 n:Int
 lo:Int
 hi:Int
def U3:dX Wi:=⟨fun t=> [.bool t.h,qI t.n,qI t.lo,qI t.hi],4,fun _=>rfl,fun a u h=>by simp at h;rcases h with rfl|rfl|rfl|rfl<;>rfl,by decide⟩
def TW (b:Bd):List Wi:= [⟨hasB b.m 1,b.x, -1073741824,1073741824⟩,⟨hasB b.m 1,b.y, -1073741824,1073741824⟩,⟨hasB b.m 2,b.vx, -1073741824,1073741824⟩,⟨hasB b.m 2,b.vy, -1073741824,1073741824⟩,⟨hasB b.m 4,b.hp,1,1048576⟩,⟨hasB b.m 8,b.pw,0,1024⟩,⟨hasB b.m 16,b.lf,1,1048576⟩]
theorem S_ (b:Bd):cE b=(jo b.m 0 31&&(TW b).all (fun t=>nT t.h t.n t.lo t.hi)):=by
 simp only[cE,TW,List.all_cons,List.all_nil,Ba]
theorem Q0 (b:Bd):(TW b).length=7:=rfl
def Q5 (W:World)(p v:Bool)(x y:Value)(w':World):Prop:=x= .bool p∧y= .bool v∧Grown W w'
def Uo (W:World)(l:List Wi)(x y z:Value)(w':World):Prop:=∃g,x= .slice (some ⟨g,0,none⟩) 7 7∧y=qI 7∧z=qI 0∧Reads w' U3.size (.slice (some ⟨g,0,none⟩) 7 7) 7 (rowsOf U3 l)∧Grown W w'
theorem L5 (w:World)(b:Bd)(hm:jo b.m 0 31=true):Calls prog 144 #[mr b] w fun e w'=>e= .returned (.bool (cE b))∧Grown w w':=by
 obtain⟨bJ,bK⟩:=mO.1 hm;obtain⟨B,A⟩:=ay (cE b);rw[←A];have u:aj (B=(TW b).all (fun t=>nT t.h t.n t.lo t.hi)):=af (by rw[A,S_,hm,mF]);have C1:=af (fun W=>Ud W b);have P:=af (fun W=>Vi W b);have Q:=af (fun W=>Vj W b);have R:=af (fun W=>Vk W b);have s:=af (fun W=>Ue W b);have i:aj (TW b= [⟨hasB b.m 1,b.x, -1073741824,1073741824⟩,⟨hasB b.m 1,b.y, -1073741824,1073741824⟩,⟨hasB b.m 2,b.vx, -1073741824,1073741824⟩,⟨hasB b.m 2,b.vy, -1073741824,1073741824⟩,⟨hasB b.m 4,b.hp,1,1048576⟩,⟨hasB b.m 8,b.pw,0,1024⟩,⟨hasB b.m 16,b.lf,1,1048576⟩]):=af rfl;have v:=af (Q0 b);obtain⟨b1,E⟩:=ay (hasB b.m 1);obtain⟨V,F⟩:=ay (hasB b.m 2);obtain⟨bB,G⟩:=ay (hasB b.m 4);obtain⟨bD,H⟩:=ay (hasB b.m 8);obtain⟨U,r⟩:=ay (hasB b.m 16);rw[←E]at C1 i;rw[←F]at P i;rw[←G]at Q i;rw[←H]at R i;rw[←r]at s i;obtain⟨l,hl⟩:=ay (TW b);rw[←hl]at i u v;clear E F G H r hl A hm;(go_enter func144,ntmps144);go_upto_region 1 with fail
 refine au ?_;intro W hW;have aK:aj (Grown w W):=af (by rw[hW];exact(Grown.same w).alloc _);have c:ai W w.heap.size 0 11=some (fe b):=(by rw[hW];simp[go_sem]);obtain⟨gb,L⟩:=ay (w.heap.size);rw[←L]at c⊢;clear hW L;have c3:=ak c 3 _ rfl;have c4:=ak c 4 _ rfl;have c5:=ak c 5 _ rfl;have X:=ak c 6 _ rfl;have Y:=ak c 7 _ rfl;have Z:=ak c 8 _ rfl;have c9:=ak c 9 _ rfl;have z:=ak c 10 _ rfl;simp only[bC]at c3 c4 c5 X Y Z c9 z;have aV:∀w',Grown W w'→ai w' gb 0 11=some (fe b):=fun w' k=>k.keeps.ai c;have aP:=af (fun w' (k:Grown W w')=>k.keeps.cB c4);have aQ:=af (fun w' (k:Grown W w')=>k.keeps.cB c5);have aR:=af (fun w' (k:Grown W w')=>k.keeps.cB X);have aS:=af (fun w' (k:Grown W w')=>k.keeps.cB Y);have aT:=af (fun w' (k:Grown W w')=>k.keeps.cB Z);have aU:=af (fun w' (k:Grown W w')=>k.keeps.cB c9);have C:=af (fun w' (k:Grown W w')=>k.keeps.cB z);clear c;go_upto_region 3 with fail
 go_cut [3,4] (Q5 W b1 V)
 case first=>
  go_region_held3 (fun w'=>Grown W w')
   (first|assumption|exact(Grown.same W).drew|(refine Grown.alloc ?_ _;assumption))
   (first
     |(go_at_call 199
       have hc:=C1.o
       with_reducible refine(hc _).mono ?_
       clear hc;rintro e w1 ⟨rfl,d⟩;have ah:Grown W w1:=Grown.trans (by first|assumption|exact(Grown.same W).drew) d)
     |(go_at_call 199
       have hc:=P.o
       with_reducible refine(hc _).mono ?_
       clear hc;rintro e w2 ⟨rfl,d⟩;have aq:Grown W w2:=Grown.trans (by first|assumption|exact(Grown.same W).drew) d))
  all_goals go_wp2_with fail
  all_goals go_meet
  all_goals exact⟨rfl,rfl,by assumption⟩
 case rest=>
  obtain⟨rfl,rfl,I⟩:=hcut;obtain⟨a,aF⟩:=ay (wc);subst aF;have GB:=af I;have bf:∀w',Grown a w'→w'.cell? ⟨gb,4,none⟩=some (qI b.x):=fun w' k=>aP.o w' (GB.o.trans k);have bg:∀w',Grown a w'→w'.cell? ⟨gb,5,none⟩=some (qI b.y):=fun w' k=>aQ.o w' (GB.o.trans k);have bk:∀w',Grown a w'→w'.cell? ⟨gb,6,none⟩=some (qI b.vx):=fun w' k=>aR.o w' (GB.o.trans k);have bn:∀w',Grown a w'→w'.cell? ⟨gb,7,none⟩=some (qI b.vy):=fun w' k=>aS.o w' (GB.o.trans k);have bp:∀w',Grown a w'→w'.cell? ⟨gb,8,none⟩=some (qI b.hp):=fun w' k=>aT.o w' (GB.o.trans k);have bq:∀w',Grown a w'→w'.cell? ⟨gb,9,none⟩=some (qI b.pw):=fun w' k=>aU.o w' (GB.o.trans k);have S:∀w',Grown a w'→w'.cell? ⟨gb,10,none⟩=some (qI b.lf):=fun w' k=>C.o w' (GB.o.trans k);have D:=af aV;have aZ:∀w',Grown a w'→ai w' gb 0 11=some (fe b):=fun w' k=>D.o w' (GB.o.trans k);clear aV I aP aQ aR aS aT aU C c3 c4 c5 X Y Z c9 z;go_upto_region 4 with fail
  go_cut [50,51,52] (Uo a l)
  case first=>
   go_region_held3 (fun w'=>Grown a w')
    (first|assumption|exact(Grown.same a).drew|(refine Grown.alloc ?_ _;assumption))
    (first
      |(go_at_call 199
        have hc:=Q.o
        with_reducible refine(hc _).mono ?_
        clear hc;rintro e w1 ⟨rfl,d⟩;have ah:Grown a w1:=Grown.trans (by first|assumption|exact(Grown.same a).drew) d)
      |(go_at_call 199
        have hc:=R.o
        with_reducible refine(hc _).mono ?_
        clear hc;rintro e w2 ⟨rfl,d⟩;have aq:Grown a w2:=Grown.trans (by first|assumption|exact(Grown.same a).drew) d)
      |(go_at_call 199
        have hc:=s.o
        with_reducible refine(hc _).mono ?_
        clear hc;rintro e aI ⟨rfl,d⟩;have av:Grown a aI:=Grown.trans (by first|assumption|exact(Grown.same a).drew) d))
   all_goals go_wp2_with fail
   all_goals go_meet
   all_goals refine⟨aI.heap.size,rfl,rfl,rfl,?_,av.alloc _⟩
   all_goals rw[i.o]
   all_goals exact Reads.fu (jO (base:=0) (size:=4) aI _ 7 (aX _) (by unfold maxLen;omega) rfl) (ko U3 [⟨b1,b.x, -1073741824,1073741824⟩,⟨b1,b.y, -1073741824,1073741824⟩,⟨V,b.vx, -1073741824,1073741824⟩,⟨V,b.vy, -1073741824,1073741824⟩,⟨bB,b.hp,1,1048576⟩,⟨bD,b.pw,0,1024⟩,⟨U,b.lf,1,1048576⟩])
  case rest=>
   obtain⟨g,rfl,rfl,rfl,O,J⟩:=hcut;obtain⟨bA,aB⟩:=ay (wc);subst aB;have bu:=af O;have aL:=af (aK.o.trans (GB.o.trans J));have aM:=af v.o;have CI:=af (fun W (t:Wi)=>qj W t.h t.n t.lo t.hi);clear bf bg bk bn bp bq S aZ O J D C1 P Q R s v i aK GB;go_wp2
   go_loopw [52] (fun q wr=>∃k:Nat,k≤7∧q=qI k∧(∀j,(h:j<k)→(aY:j<l.length)→nT l[j].h l[j].n l[j].lo l[j].hi=true)∧Grown bA wr) (fun q _=>7-(intOf q).toNat)
   case atStart=>exact⟨0,by omega,rfl,fun j h=>by omega,Grown.same _⟩
   case round=>
    obtain⟨k,bI,rfl,p,hK⟩:=hrel;obtain⟨bM,aG⟩:=ay (wr);subst aG;have K:=af hK;have f:=af p;clear p;by_cases aD:k<7
    ·have N:(k:Int)<7:=(by omega);have bH:(0:Int)≤(k:Int):=(by omega);have M:k<l.length:=(by rw[aM.o];exact aD);have bE:ai bM g (k*4) 4=some [.bool l[k].h,qI l[k].n,qI l[k].lo,qI l[k].hi]:=by
      have h:=hK.keeps.ai (aW.at U3 (n:=7) bu.o k M);rw[jI]at h;exact h
     obtain⟨x,aH⟩:=ay (l[k]);rw[←aH]at bE;have aO:=af aH;have aJ:=af (fun W=>CI.o W x);obtain⟨T,aA⟩:=ay (nT x.h x.n x.lo x.hi);rw[←aA]at aJ;have aN:=af aA;clear aH hK aA;(go_wp2_with fail);refine(aJ.o _).mono ?_;rintro e w1 ⟨rfl,hw⟩;have hw:=hw.symm;subst hw;cases T with
     |false=>
      have A:B=false:=by
       rw[u.o,wT];refine⟨l[k],dw M,?_⟩;rw[←aO.o, ←aN.o];simp
      subst A;go_wp2;go_ret;exact⟨rfl,aL.o.trans (K.o.alloc _)⟩
     |true=>
      have aE:aj (nT l[k].h l[k].n l[k].lo l[k].hi=true):=af (by rw[←aO.o, ←aN.o]);go_wp2;go_roundw
      case rel=>
       refine⟨k+1,by omega,by go_num,fun j h aY=>?_,K.o.alloc _⟩;by_cases aC:j=k
       ·subst aC;exact aE.o
       ·exact f.o j (by omega) aY
      case measure=>simp[intOf];omega
    ·have bG:k=7:=(by omega);subst bG;have A:B=true:=by
      rw[u.o,qD];intro t bL;obtain⟨j,bF,rfl⟩:=uL bL;exact f.o j (by have:=aM.o;omega) bF
     subst A;have N:¬((7:Int)<7):=(by omega);go_wp2;go_ret;exact⟨rfl,aL.o.trans K.o⟩
theorem Ot (w:World)(b:Bd)(hm:jo b.m 0 31=false):Calls prog 144 #[mr b] w fun e w'=>e= .returned (.bool (cE b))∧Grown w w':=by
 have a:aj (cE b=false):=af (by unfold cE;rw[hm,iL]);rw[a.o];have c:=af ((Grown.same w).alloc (.cells (fe b).toArray 25));by_cases h0:b.m<0
 ·clear hm a;(go_enter func144,ntmps144);go_wp2;go_ret;exact⟨rfl,c.o⟩
 ·have d:31<b.m:=by
   by_cases h:31<b.m
   ·exact h
   ·have:=(mO (n:=b.m) (lo:=0) (hi:=31)).2 ⟨by omega,by omega⟩;rw[this]at hm;cases hm
  clear hm a;(go_enter func144,ntmps144);go_wp2;go_ret;exact⟨rfl,c.o⟩
theorem yE (w:World)(b:Bd):Calls prog 144 #[mr b] w fun e w'=>e= .returned (.bool (cE b))∧Grown w w':=by
 cases hm:jo b.m 0 31 with
 |true=>exact L5 w b hm
 |false=>exact Ot w b hm
theorem uw (W:World)(a:cO):(binOp .neq 23 (iE a) (.agg #[qI 0,qI 0,qI 0])).run prog W= .ok (.bool (!neq a cO.zero)) W:=LD a.s a.i a.g 0 0 0 W
theorem C2 (W:World)(b:Bd):(binOp .neq 25 (mr b) (.agg #[qI 0,qI 0,qI 0,qI 0,qI 0,qI 0,qI 0,qI 0,qI 0,qI 0,qI 0])).run prog W= .ok (.bool (!pq b Bd.zero)) W:=L3 b Bd.zero W
theorem rQ (w:World)(b:Bd):Calls prog 142 #[mr b] w fun e w'=>e= .returned (qI (fO (kR b)))∧Grown w w':=by
 have CR:=af (fun W=>yE W b);have f:=af (fun W=>Ud W b);have CI:=af (fun W=>fU W b.id);have d:aj (kR b=(cE b&&(hasB b.m 1&&dF b.id))):=af rfl;obtain⟨R,n⟩:=ay (cE b);obtain⟨H,k⟩:=ay (hasB b.m 1);obtain⟨I,l⟩:=ay (dF b.id);rw[←n]at CR d;rw[←k]at f d;rw[←l]at CI d;rw[d.o];clear n k l d;have j:ai (w.alloc (.cells (fe b).toArray 25)) w.heap.size 0 11=some (fe b):=(by simp[go_sem]);have g:=af ((Grown.same w).alloc (.cells (fe b).toArray 25));have i:=af j;clear j;cases R with
 |false=>
  (go_enter func142,ntmps142);(go_wp2_with fail);refine(CR.o _).mono ?_;rintro e w1 ⟨rfl,a⟩;have c:=af (g.o.trans a);clear a;go_wp2;go_ret;exact⟨rfl,c.o⟩
 |true=>
  cases H with
  |false=>
   (go_enter func142,ntmps142);(go_wp2_with fail);refine(CR.o _).mono ?_;rintro e w1 ⟨rfl,a⟩;have c:=af (g.o.trans a);have c1:=a.keeps.ai i.o;clear a;(go_wp2_with fail);refine(f.o _).mono ?_;rintro e w2 ⟨rfl,a⟩;have h:=af (c.o.trans a);clear a;go_wp2;go_ret;exact⟨rfl,h.o⟩
  |true=>
   (go_enter func142,ntmps142);(go_wp2_with fail);refine(CR.o _).mono ?_;rintro e w1 ⟨rfl,a⟩;have c:=af (g.o.trans a);have c1:=a.keeps.ai i.o;clear a;(go_wp2_with fail);refine(f.o _).mono ?_;rintro e w2 ⟨rfl,a⟩;have h:=af (c.o.trans a);have c2:ai w2 w.heap.size 0 3=some (bk b.id):=aE (a.keeps.ai c1) 0 (bk b.id) rfl (by simp);clear a c1;(go_wp2_with fail);refine(CI.o _).mono ?_;rintro e q ⟨rfl,a⟩;have p:=af (h.o.trans a);clear a;go_wp2;go_ret;exact⟨rfl,p.o⟩
section
variable (w:World)(c:Cm)
theorem Ca (f:¬c.k=1)(g:¬c.k=2)(h:¬c.k=3)(i:¬c.k=4):Calls prog 66 #[gH c] w fun e w'=>e= .returned (qI (fO (bD c)))∧Grown w w':=by
 have m:aj (fO (bD c)=1):=af (by unfold bD;rw[eD.2 f,eD.2 g,eD.2 h,eD.2 i];rfl);rw[m.o];have b1:(c.k==1)=false:=(by simpa using f);have s:(c.k==2)=false:=(by simpa using g);have t:(c.k==3)=false:=(by simpa using h);have u:(c.k==4)=false:=(by simpa using i);have CI:=af (fun W=>fU W c.id);clear m f g h i;(go_enter func66,ntmps66);go_upto_region 1 with fail
 refine au ?_;intro W hW;have n:aj (Grown w W):=af (by rw[hW];exact(Grown.same w).alloc _);have d:ai W w.heap.size 0 16=some (ct c):=(by rw[hW];simp[go_sem]);obtain⟨gc,a⟩:=ay (w.heap.size);rw[←a]at d⊢;clear hW a;have i0:ai W gc 1 3=some (bk c.id):=aE d 1 (bk c.id) rfl (by simp);(go_wp2_with fail);refine(CI.o _).mono ?_;rintro e w1 ⟨rfl,j⟩;have p:=af (n.o.trans j);have cc:=j.keeps.ai d;have q:=ak cc 0 _ rfl;have l:=ak cc 15 _ rfl;have r:=ak cc 7 _ rfl;have i1:ai w1 gc 1 3=some (bk c.id):=aE cc 1 (bk c.id) rfl (by simp);have i4:ai w1 gc 4 11=some (fe c.b):=aE cc 4 (fe c.b) rfl (by simp);have i5:ai w1 gc 4 3=some (bk c.b.id):=aE cc 4 (bk c.b.id) rfl (by simp);simp only[bC]at q l r;clear cc d i0 j;go_wp2;go_ret;exact⟨rfl,p.o⟩
theorem Jd (f:c.k=1):Calls prog 66 #[gH c] w fun e w'=>e= .returned (qI (fO (bD c)))∧Grown w w':=by
 obtain⟨E,p⟩:=ay (fO (bD c));rw[←p];have n:=af p;have h:aj (bD c=(neq c.id cO.zero&&(decide (c.m=0)&&kR c.b))):=af (by unfold bD;rw[ny.2 f];rfl);have b1:(c.k==1)=true:=(by simpa using f);have z:(c.k==2)=false:=(by rw[f];rfl);have A:(c.k==3)=false:=(by rw[f];rfl);have B:(c.k==4)=false:=(by rw[f];rfl);have CI:=af (fun W=>fU W c.id);have t:=af (fun W=>rQ W c.b);have d:∀W:World,(binOp .neq 23 (iE c.id) (.agg #[qI 0,qI 0,qI 0])).run prog W= .ok (.bool (!neq c.id cO.zero)) W:=fun W=>uw W c.id;obtain⟨N,q⟩:=ay (neq c.id cO.zero);rw[←q]at d;rw[←q]at h;obtain⟨K,hK⟩:=ay (kR c.b);rw[←hK]at t;rw[←hK]at h;clear q hK p f;(go_enter func66,ntmps66);go_upto_region 1 with fail
 refine au ?_;intro W hW;have u:aj (Grown w W):=af (by rw[hW];exact(Grown.same w).alloc _);have j:ai W w.heap.size 0 16=some (ct c):=(by rw[hW];simp[go_sem]);obtain⟨gc,i⟩:=ay (w.heap.size);rw[←i]at j⊢;clear hW i;have i0:ai W gc 1 3=some (bk c.id):=aE j 1 (bk c.id) rfl (by simp);(go_wp2_with fail);refine(CI.o _).mono ?_;rintro e w1 ⟨rfl,g⟩;have l:=af (u.o.trans g);have cc:=g.keeps.ai j;have x:=ak cc 0 _ rfl;have s:=ak cc 15 _ rfl;have y:=ak cc 7 _ rfl;have i1:ai w1 gc 1 3=some (bk c.id):=aE cc 1 (bk c.id) rfl (by simp);have i4:ai w1 gc 4 11=some (fe c.b):=aE cc 4 (fe c.b) rfl (by simp);have i5:ai w1 gc 4 3=some (bk c.b.id):=aE cc 4 (bk c.b.id) rfl (by simp);simp only[bC]at x s y;clear cc j i0 g;cases N with
 |false=>
  simp only[tG]at d;go_wp2;go_ret;exact⟨by rw[n.o,h.o];rfl,l.o⟩
 |true=>
  simp only[jj]at d;by_cases hm:c.m=0
  ·have r:(c.m !=0)=false:=(by rw[hm];rfl);have a:=af (aM hm);clear hm;(go_wp2_with fail);refine(t.o _).mono ?_;rintro e w2 ⟨rfl,g⟩;have v:=af (l.o.trans g);clear g;go_wp2;go_ret;exact⟨by rw[n.o,h.o,a.o];rfl,v.o⟩
  ·have r:(c.m !=0)=true:=(by simpa using hm);have a:=af (aJ hm);clear hm;go_wp2;go_ret;exact⟨by rw[n.o,h.o,a.o];rfl,l.o⟩
theorem Je (f:c.k=2):Calls prog 66 #[gH c] w fun e w'=>e= .returned (qI (fO (bD c)))∧Grown w w':=by
 obtain⟨E,n⟩:=ay (fO (bD c));rw[←n];have l:=af n;have g:aj (bD c=(dF c.id&&(decide (c.m=0)&&pq c.b Bd.zero))):=af (by unfold bD;rw[f];rfl);have b1:(c.k==1)=false:=(by rw[f];rfl);have y:(c.k==2)=true:=(by simpa using f);have z:(c.k==3)=false:=(by rw[f];rfl);have A:(c.k==4)=false:=(by rw[f];rfl);have CI:=af (fun W=>fU W c.id);have d:∀W:World,(binOp .neq 25 (mr c.b) (.agg #[qI 0,qI 0,qI 0,qI 0,qI 0,qI 0,qI 0,qI 0,qI 0,qI 0,qI 0])).run prog W= .ok (.bool (!pq c.b Bd.zero)) W:=fun W=>C2 W c.b;obtain⟨I,p⟩:=ay (dF c.id);rw[←p]at CI;rw[←p]at g;obtain⟨N,q⟩:=ay (pq c.b Bd.zero);rw[←q]at d;rw[←q]at g;clear q p n f;(go_enter func66,ntmps66);go_upto_region 1 with fail
 refine au ?_;intro W hW;have u:aj (Grown w W):=af (by rw[hW];exact(Grown.same w).alloc _);have i:ai W w.heap.size 0 16=some (ct c):=(by rw[hW];simp[go_sem]);obtain⟨gc,h⟩:=ay (w.heap.size);rw[←h]at i⊢;clear hW h;have i0:ai W gc 1 3=some (bk c.id):=aE i 1 (bk c.id) rfl (by simp);(go_wp2_with fail);refine(CI.o _).mono ?_;rintro e w1 ⟨rfl,r⟩;have j:=af (u.o.trans r);have cc:=r.keeps.ai i;have v:=ak cc 0 _ rfl;have t:=ak cc 15 _ rfl;have x:=ak cc 7 _ rfl;have i1:ai w1 gc 1 3=some (bk c.id):=aE cc 1 (bk c.id) rfl (by simp);have i4:ai w1 gc 4 11=some (fe c.b):=aE cc 4 (fe c.b) rfl (by simp);have i5:ai w1 gc 4 3=some (bk c.b.id):=aE cc 4 (bk c.b.id) rfl (by simp);simp only[bC]at v t x;clear cc i i0 r;by_cases hm:c.m=0
 ·have s:(c.m !=0)=false:=(by rw[hm];rfl);have a:=af (aM hm);clear hm;cases N with
  |false=>
   simp only[tG]at d;go_wp2;go_ret;exact⟨by rw[l.o,g.o,a.o];cases I<;>rfl,j.o⟩
  |true=>
   simp only[jj]at d;go_wp2;go_ret;exact⟨by rw[l.o,g.o,a.o];cases I<;>rfl,j.o⟩
 ·have s:(c.m !=0)=true:=(by simpa using hm);have a:=af (aJ hm);clear hm;go_wp2;go_ret;exact⟨by rw[l.o,g.o,a.o];cases I<;>rfl,j.o⟩
theorem Jf (g:c.k=4):Calls prog 66 #[gH c] w fun e w'=>e= .returned (qI (fO (bD c)))∧Grown w w':=by
 obtain⟨E,n⟩:=ay (fO (bD c));rw[←n];have l:=af n;have f:aj (bD c=(dF c.id&&(pq c.b Bd.zero&&gW c.m))):=af (by unfold bD;rw[g];rfl);have b1:(c.k==1)=false:=(by rw[g];rfl);have y:(c.k==2)=false:=(by rw[g];rfl);have z:(c.k==3)=false:=(by rw[g];rfl);have A:(c.k==4)=true:=(by simpa using g);have CI:=af (fun W=>fU W c.id);have s:aj (∀W,Calls prog 143 #[qI c.m] W fun e w'=>e= .returned (.bool (gW c.m))∧Grown W w'):=af (fun W=>(Gm W c.m).mono fun e w' ⟨he,hw⟩=>⟨he,by rw[hw];exact Grown.same W⟩);have a:∀W:World,(binOp .neq 25 (mr c.b) (.agg #[qI 0,qI 0,qI 0,qI 0,qI 0,qI 0,qI 0,qI 0,qI 0,qI 0,qI 0])).run prog W= .ok (.bool (!pq c.b Bd.zero)) W:=fun W=>C2 W c.b;obtain⟨I,p⟩:=ay (dF c.id);rw[←p]at CI;rw[←p]at f;obtain⟨N,q⟩:=ay (pq c.b Bd.zero);rw[←q]at a;rw[←q]at f;obtain⟨S,hS⟩:=ay (gW c.m);rw[←hS]at s;rw[←hS]at f;clear q p hS n g;(go_enter func66,ntmps66);go_upto_region 1 with fail
 refine au ?_;intro W hW;have t:aj (Grown w W):=af (by rw[hW];exact(Grown.same w).alloc _);have i:ai W w.heap.size 0 16=some (ct c):=(by rw[hW];simp[go_sem]);obtain⟨gc,h⟩:=ay (w.heap.size);rw[←h]at i⊢;clear hW h;have i0:ai W gc 1 3=some (bk c.id):=aE i 1 (bk c.id) rfl (by simp);(go_wp2_with fail);refine(CI.o _).mono ?_;rintro e w1 ⟨rfl,d⟩;have u:=af (t.o.trans d);have cc:=d.keeps.ai i;have v:=ak cc 0 _ rfl;have r:=ak cc 15 _ rfl;have x:=ak cc 7 _ rfl;have i1:ai w1 gc 1 3=some (bk c.id):=aE cc 1 (bk c.id) rfl (by simp);have i4:ai w1 gc 4 11=some (fe c.b):=aE cc 4 (fe c.b) rfl (by simp);have i5:ai w1 gc 4 3=some (bk c.b.id):=aE cc 4 (bk c.b.id) rfl (by simp);simp only[bC]at v r x;clear cc i i0 d;(go_wp2_with fail);refine(s.o _).mono ?_;rintro e w2 ⟨rfl,d⟩;have j:=af (u.o.trans d);have j4:=d.keeps.ai i4;clear d;cases S with
 |false=>
  go_wp2;go_ret;exact⟨by rw[l.o,f.o];cases I<;>cases N<;>rfl,j.o⟩
 |true=>
  cases N with
  |false=>
   simp only[tG]at a;go_wp2;go_ret;exact⟨by rw[l.o,f.o];cases I<;>rfl,j.o⟩
  |true=>
   simp only[jj]at a;go_wp2;go_ret;exact⟨by rw[l.o,f.o];cases I<;>rfl,j.o⟩
theorem Jg (h:c.k=3):Calls prog 66 #[gH c] w fun e w'=>e= .returned (qI (fO (bD c)))∧Grown w w':=by
 obtain⟨E,p⟩:=ay (fO (bD c));rw[←p];have i:=af p;have f:aj (bD c=(dF c.id&&(decide (c.m=0)&&(neq c.b.id cO.zero&&(gW c.b.m&&cE c.b))))):=af (by unfold bD;rw[h];rfl);have b1:(c.k==1)=false:=(by rw[h];rfl);have C:(c.k==2)=false:=(by rw[h];rfl);have D:(c.k==3)=true:=(by simpa using h);have F:(c.k==4)=false:=(by rw[h];rfl);have CI:=af (fun W=>fU W c.id);have v:aj (∀W,Calls prog 143 #[qI c.b.m] W fun e w'=>e= .returned (.bool (gW c.b.m))∧Grown W w'):=af (fun W=>(Gm W c.b.m).mono fun e w' ⟨he,hw⟩=>⟨he,by rw[hw];exact Grown.same W⟩);have CR:=af (fun W=>yE W c.b);have g:∀W:World,(binOp .neq 23 (iE c.b.id) (.agg #[qI 0,qI 0,qI 0])).run prog W= .ok (.bool (!neq c.b.id cO.zero)) W:=fun W=>uw W c.b.id;obtain⟨I,q⟩:=ay (dF c.id);rw[←q]at CI;rw[←q]at f;obtain⟨N,r⟩:=ay (neq c.b.id cO.zero);rw[←r]at g;rw[←r]at f;obtain⟨S,hS⟩:=ay (gW c.b.m);rw[←hS]at v;rw[←hS]at f;obtain⟨R,s⟩:=ay (cE c.b);rw[←s]at CR;rw[←s]at f;clear r q hS s p h;(go_enter func66,ntmps66);go_upto_region 1 with fail
 refine au ?_;intro W hW;have z:aj (Grown w W):=af (by rw[hW];exact(Grown.same w).alloc _);have l:ai W w.heap.size 0 16=some (ct c):=(by rw[hW];simp[go_sem]);obtain⟨gc,j⟩:=ay (w.heap.size);rw[←j]at l⊢;clear hW j;have i0:ai W gc 1 3=some (bk c.id):=aE l 1 (bk c.id) rfl (by simp);(go_wp2_with fail);refine(CI.o _).mono ?_;rintro e w1 ⟨rfl,d⟩;have n:=af (z.o.trans d);have cc:=d.keeps.ai l;have A:=ak cc 0 _ rfl;have u:=ak cc 15 _ rfl;have B:=ak cc 7 _ rfl;have i1:ai w1 gc 1 3=some (bk c.id):=aE cc 1 (bk c.id) rfl (by simp);have i4:ai w1 gc 4 11=some (fe c.b):=aE cc 4 (fe c.b) rfl (by simp);have i5:ai w1 gc 4 3=some (bk c.b.id):=aE cc 4 (bk c.b.id) rfl (by simp);simp only[bC]at A u B;clear cc l i0 d;by_cases hm:c.m=0
 ·have t:(c.m !=0)=false:=(by rw[hm];rfl);have a:=af (aM hm);clear hm;cases N with
  |false=>
   simp only[tG]at g;go_wp2;go_ret;exact⟨by rw[i.o,f.o,a.o];cases I<;>rfl,n.o⟩
  |true=>
   simp only[jj]at g;(go_wp2_with fail);refine(v.o _).mono ?_;rintro e w2 ⟨rfl,d⟩;have x:=af (n.o.trans d);have j4:=d.keeps.ai i4;clear d;cases S with
   |false=>
    go_wp2;go_ret;exact⟨by rw[i.o,f.o,a.o];cases I<;>rfl,x.o⟩
   |true=>
    (go_wp2_with fail);refine(CR.o _).mono ?_;rintro e G ⟨rfl,d⟩;have y:=af (x.o.trans d);clear d;cases R with
    |false=>
     go_wp2;go_ret;exact⟨by rw[i.o,f.o,a.o];cases I<;>rfl,y.o⟩
    |true=>
     go_wp2;go_ret;exact⟨by rw[i.o,f.o,a.o];cases I<;>rfl,y.o⟩
 ·have t:(c.m !=0)=true:=(by simpa using hm);have a:=af (aJ hm);clear hm;go_wp2;go_ret;exact⟨by rw[i.o,f.o,a.o];cases I<;>rfl,n.o⟩
theorem dh:Calls prog 66 #[gH c] w fun e w'=>e= .returned (qI (fO (bD c)))∧Grown w w':=by
 by_cases a:c.k=1
 ·exact Jd w c a
 by_cases b:c.k=2
 ·exact Je w c b
 by_cases d:c.k=3
 ·exact Jg w c d
 by_cases f:c.k=4
 ·exact Jf w c f
 exact Ca w c a b d f
end
