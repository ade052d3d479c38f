/- Lemmas. -/
import Derived.Test.YtpbpgjfdledgoaaGreatDoorZo27
import Derived.Test.YtpbpgjfdledgoaaGreatDoorZo28
set_option linter.all false
set_option maxRecDepth 100000
set_option maxHeartbeats 8000000
open Option renaming isSome_none→Gn,isSome_some→tH,map_eq_some_iff→Sq
open Bool renaming not_false→tG,true_and→C4,not_true→jj,and_eq_true→eA,and_true→Ba
open List renaming mem_cons→rR,not_mem_nil→Ou,size_toArray→Ov,length_cons→iY,length_nil→iP,push_toArray→Ow,append_toArray→Ox,nil_append→tD,cons_append→nA,setIfInBounds_toArray→cw,set_cons_zero→b_,set_cons_succ→cn,length_append→ic,getElem?_cons_succ→KF,getElem?_cons_zero→KG
open Nat renaming zero_add→bC,lt_of_not_le→Oy,add_comm→Oz
open Array renaming replicate_succ→OA,replicate_zero→OB
namespace Go.Proofs.YtpbpgjfdledgoaaGreatDoor
section
open Go.Proofs.Tryz
open Go.RowKit Go.Joins Go.Deep
theorem lW (r:dx):dc (-1) r=(0,none):=by
 unfold dc;by_cases h:(bR r).1<0
 ·rw[aM h];rfl
 ·rw[aJ h,aM (by omega)];rfl
def dU {α:Type}(b:Bool)(x z:α)(r:dx):α×dx:=bif r.isSome&&b then(x,r)else(z,none)
theorem Gp {w:World}{g:Nat}{r:dx}(h:bJ w g r)(x:cO)(b:Bool)(hb:(r.isSome&&b)=false):Calls prog 134 #[dP g,iE x,qI (fO b)] w fun e w'=>e= .returned (iE cO.zero)∧bJ w' g none∧ah (Own g) w w':=by
 have A:=h.lt;(go_enter func134,ntmps134);go_upto_region 1 with fail
 refine au ?_;intro W hW;have n:aj (ah No w W):=af (by rw[hW];exact((aA w).alloc _).alloc _);have ob:Open W (w.heap.size+1):=(by rw[hW];simp[go_sem]);have sb:(aL W (w.heap.size+1)).size=3:=(by rw[hW];simp[go_sem]);have i:w.heap.size+1<W.heap.size:=(by rw[hW];simp);have z:=af (h.kept n.o (fun h=>h));obtain⟨gr,j⟩:=ay (w.heap.size+1);have c:¬gr=g:=(by omega);have y:aj (w.heap.size≤gr):=af (by omega);rw[←j]at ob sb i⊢;clear hW j h;(go_wp2_with fail);refine(ox z.o).mono ?_;rintro e w1 ⟨rfl,rfl⟩;have l:=af (mW z.o (-1));rw[lW r]at l;cases r with
 |none=>
  simp only[xG,Gn,tG];(go_wp2_with fail);refine l.o.mono ?_;rintro e w2 ⟨rfl,f,a⟩;have p:=af f;have m:=af (n.o.own.aK a);have q:Open w2 gr:=by
   obtain⟨C,t,hc⟩:=ob;exact⟨C,t,a.heap hc c⟩
  have u:(aL w2 gr).size=3:=by
   obtain⟨C,t,hc⟩:=ob;have hw:=a.heap hc c;unfold aL at sb⊢;rw[hc]at sb;rw[hw];exact sb
  have k:gr<w2.heap.size:=eU i a.size;have d:¬g=gr:=fun e=>c e.symm;clear ob sb i f a;go_wp2;refine aY (v:=iE cO.zero) (by simp[results,results134,go_sem,cO.zero, *]) rfl ⟨rfl,?_,?_⟩
  ·exact(p.o.kept ((aA (S:=Own gr) w2).setRow (fun _=>(rfl:gr=gr)) _) d).kept ((aA (S:=No) _).alloc _) (fun h=>h)
  ·exact(m.o.setRow (fun h=>absurd h (bY.2 y.o)) _).alloc _
 |some s=>
  simp only[tH,C4]at hb;subst hb;simp only[xG,tH,jj,fO,cond_false];(go_wp2_with fail);refine l.o.mono ?_;rintro e w2 ⟨rfl,f,a⟩;have p:=af f;have m:=af (n.o.own.aK a);have q:Open w2 gr:=by
   obtain⟨C,t,hc⟩:=ob;exact⟨C,t,a.heap hc c⟩
  have u:(aL w2 gr).size=3:=by
   obtain⟨C,t,hc⟩:=ob;have hw:=a.heap hc c;unfold aL at sb⊢;rw[hc]at sb;rw[hw];exact sb
  have k:gr<w2.heap.size:=eU i a.size;have d:¬g=gr:=fun e=>c e.symm;clear ob sb i f a;go_wp2;refine aY (v:=iE cO.zero) (by simp[results,results134,go_sem,cO.zero, *]) rfl ⟨rfl,?_,?_⟩
  ·exact(p.o.kept ((aA (S:=Own gr) w2).setRow (fun _=>(rfl:gr=gr)) _) d).kept ((aA (S:=No) _).alloc _) (fun h=>h)
  ·exact(m.o.setRow (fun h=>absurd h (bY.2 y.o)) _).alloc _
theorem Jh {w:World}{g:Nat}{s:Nm}(h:bJ w g (some s))(x:cO):Calls prog 134 #[dP g,iE x,qI 0] w fun e w'=>e= .returned (iE x)∧bJ w' g (some s)∧ah (Own g) w w':=by
 have l:=h.lt;(go_enter func134,ntmps134);go_upto_region 1 with fail
 refine au ?_;intro W hW;have i:aj (ah No w W):=af (by rw[hW];exact((aA w).alloc _).alloc _);have ob:Open W (w.heap.size+1):=(by rw[hW];simp[go_sem]);have sb:(aL W (w.heap.size+1)).size=3:=(by rw[hW];simp[go_sem]);have k:ai W w.heap.size 0 3=some (bk x):=(by rw[hW];simp[go_sem]);have d:w.heap.size+1<W.heap.size:=(by rw[hW];simp);have f:=af (h.kept i.o (fun h=>h));obtain⟨gr,a⟩:=ay (w.heap.size+1);obtain⟨m,b⟩:=ay (w.heap.size);have c:¬g=gr:=(by omega);have j:aj (w.heap.size≤gr):=af (by omega);rw[←a]at ob sb d⊢;rw[←b]at k⊢;clear hW a b h;(go_wp2_with fail);refine(ox f.o).mono ?_;rintro e w1 ⟨rfl,rfl⟩;simp only[xG,tH,jj];go_wp2;refine aY (v:=iE x) (by simp[results,results134,go_sem, *]) rfl ⟨rfl,?_,?_⟩
 ·exact f.o.kept ((aA (S:=Own gr) W).setRow (fun _=>(rfl:gr=gr)) _) c
 ·exact i.o.own.setRow (fun h=>absurd h (bY.2 j.o)) _
theorem Gq {w:World}{g:Nat}{r:dx}(h:bJ w g r)(x:cO)(b:Bool):Calls prog 134 #[dP g,iE x,qI (fO b)] w fun e w'=>e= .returned (iE (dU b x cO.zero r).1)∧bJ w' g (dU b x cO.zero r).2∧ah (Own g) w w':=by
 unfold dU;cases hb:r.isSome&&b with
 |false=>exact Gp h x b hb
 |true=>
  rw[mE]at hb;obtain⟨a,rfl⟩:=hb;cases r with
  |none=>cases a
  |some s=>exact Jh h x
theorem y8 {w:World}{g:Nat}{r:dx}(h:bJ w g r)(x:Bd)(b:Bool)(hb:(r.isSome&&b)=false):Calls prog 198 #[dP g,mr x,qI (fO b)] w fun e w'=>e= .returned (mr Bd.zero)∧bJ w' g none∧ah (Own g) w w':=by
 have A:=h.lt;(go_enter func198,ntmps198);go_upto_region 1 with fail
 refine au ?_;intro W hW;have n:aj (ah No w W):=af (by rw[hW];exact((aA w).alloc _).alloc _);have ob:Open W (w.heap.size+1):=(by rw[hW];simp[go_sem]);have sb:(aL W (w.heap.size+1)).size=11:=(by rw[hW];simp[go_sem]);have i:w.heap.size+1<W.heap.size:=(by rw[hW];simp);have z:=af (h.kept n.o (fun h=>h));obtain⟨gr,j⟩:=ay (w.heap.size+1);have c:¬gr=g:=(by omega);have y:aj (w.heap.size≤gr):=af (by omega);rw[←j]at ob sb i⊢;clear hW j h;(go_wp2_with fail);refine(ox z.o).mono ?_;rintro e w1 ⟨rfl,rfl⟩;have l:=af (mW z.o (-1));rw[lW r]at l;cases r with
 |none=>
  simp only[xG,Gn,tG];(go_wp2_with fail);refine l.o.mono ?_;rintro e w2 ⟨rfl,f,a⟩;have p:=af f;have m:=af (n.o.own.aK a);have q:Open w2 gr:=by
   obtain⟨C,t,hc⟩:=ob;exact⟨C,t,a.heap hc c⟩
  have u:(aL w2 gr).size=11:=by
   obtain⟨C,t,hc⟩:=ob;have hw:=a.heap hc c;unfold aL at sb⊢;rw[hc]at sb;rw[hw];exact sb
  have k:gr<w2.heap.size:=eU i a.size;have d:¬g=gr:=fun e=>c e.symm;clear ob sb i f a;go_wp2;refine aY (v:=mr Bd.zero) (by simp[results,results198,go_sem,Bd.zero, *]) rfl ⟨rfl,?_,?_⟩
  ·exact(p.o.kept ((aA (S:=Own gr) w2).setRow (fun _=>(rfl:gr=gr)) _) d).kept ((aA (S:=No) _).alloc _) (fun h=>h)
  ·exact(m.o.setRow (fun h=>absurd h (bY.2 y.o)) _).alloc _
 |some s=>
  simp only[tH,C4]at hb;subst hb;simp only[xG,tH,jj,fO,cond_false];(go_wp2_with fail);refine l.o.mono ?_;rintro e w2 ⟨rfl,f,a⟩;have p:=af f;have m:=af (n.o.own.aK a);have q:Open w2 gr:=by
   obtain⟨C,t,hc⟩:=ob;exact⟨C,t,a.heap hc c⟩
  have u:(aL w2 gr).size=11:=by
   obtain⟨C,t,hc⟩:=ob;have hw:=a.heap hc c;unfold aL at sb⊢;rw[hc]at sb;rw[hw];exact sb
  have k:gr<w2.heap.size:=eU i a.size;have d:¬g=gr:=fun e=>c e.symm;clear ob sb i f a;go_wp2;refine aY (v:=mr Bd.zero) (by simp[results,results198,go_sem,Bd.zero, *]) rfl ⟨rfl,?_,?_⟩
  ·exact(p.o.kept ((aA (S:=Own gr) w2).setRow (fun _=>(rfl:gr=gr)) _) d).kept ((aA (S:=No) _).alloc _) (fun h=>h)
  ·exact(m.o.setRow (fun h=>absurd h (bY.2 y.o)) _).alloc _
theorem Bb {w:World}{g:Nat}{s:Nm}(h:bJ w g (some s))(x:Bd):Calls prog 198 #[dP g,mr x,qI 0] w fun e w'=>e= .returned (mr x)∧bJ w' g (some s)∧ah (Own g) w w':=by
 have l:=h.lt;(go_enter func198,ntmps198);go_upto_region 1 with fail
 refine au ?_;intro W hW;have i:aj (ah No w W):=af (by rw[hW];exact((aA w).alloc _).alloc _);have ob:Open W (w.heap.size+1):=(by rw[hW];simp[go_sem]);have sb:(aL W (w.heap.size+1)).size=11:=(by rw[hW];simp[go_sem]);have k:ai W w.heap.size 0 11=some (fe x):=(by rw[hW];simp[go_sem]);have d:w.heap.size+1<W.heap.size:=(by rw[hW];simp);have f:=af (h.kept i.o (fun h=>h));obtain⟨gr,a⟩:=ay (w.heap.size+1);obtain⟨m,b⟩:=ay (w.heap.size);have c:¬g=gr:=(by omega);have j:aj (w.heap.size≤gr):=af (by omega);rw[←a]at ob sb d⊢;rw[←b]at k⊢;clear hW a b h;(go_wp2_with fail);refine(ox f.o).mono ?_;rintro e w1 ⟨rfl,rfl⟩;simp only[xG,tH,jj];go_wp2;refine aY (v:=mr x) (by simp[results,results198,go_sem, *]) rfl ⟨rfl,?_,?_⟩
 ·exact f.o.kept ((aA (S:=Own gr) W).setRow (fun _=>(rfl:gr=gr)) _) c
 ·exact i.o.own.setRow (fun h=>absurd h (bY.2 j.o)) _
theorem qJ {w:World}{g:Nat}{r:dx}(h:bJ w g r)(x:Bd)(b:Bool):Calls prog 198 #[dP g,mr x,qI (fO b)] w fun e w'=>e= .returned (mr (dU b x Bd.zero r).1)∧bJ w' g (dU b x Bd.zero r).2∧ah (Own g) w w':=by
 unfold dU;cases hb:r.isSome&&b with
 |false=>exact y8 h x b hb
 |true=>
  rw[mE]at hb;obtain⟨a,rfl⟩:=hb;cases r with
  |none=>cases a
  |some s=>exact Bb h x
theorem Ek {w:World}{g:Nat}{r:dx}(h:bJ w g r)(x:Cm)(b:Bool)(hb:(r.isSome&&b)=false):Calls prog 130 #[dP g,gH x,qI (fO b)] w fun e w'=>e= .returned (gH Cm.zero)∧bJ w' g none∧ah (Own g) w w':=by
 have A:=h.lt;(go_enter func130,ntmps130);go_upto_region 1 with fail
 refine au ?_;intro W hW;have n:aj (ah No w W):=af (by rw[hW];exact((aA w).alloc _).alloc _);have ob:Open W (w.heap.size+1):=(by rw[hW];simp[go_sem]);have sb:(aL W (w.heap.size+1)).size=16:=(by rw[hW];simp[go_sem]);have i:w.heap.size+1<W.heap.size:=(by rw[hW];simp);have z:=af (h.kept n.o (fun h=>h));obtain⟨gr,j⟩:=ay (w.heap.size+1);have c:¬gr=g:=(by omega);have y:aj (w.heap.size≤gr):=af (by omega);rw[←j]at ob sb i⊢;clear hW j h;(go_wp2_with fail);refine(ox z.o).mono ?_;rintro e w1 ⟨rfl,rfl⟩;have l:=af (mW z.o (-1));rw[lW r]at l;cases r with
 |none=>
  simp only[xG,Gn,tG];(go_wp2_with fail);refine l.o.mono ?_;rintro e w2 ⟨rfl,f,a⟩;have p:=af f;have m:=af (n.o.own.aK a);have q:Open w2 gr:=by
   obtain⟨C,t,hc⟩:=ob;exact⟨C,t,a.heap hc c⟩
  have u:(aL w2 gr).size=16:=by
   obtain⟨C,t,hc⟩:=ob;have hw:=a.heap hc c;unfold aL at sb⊢;rw[hc]at sb;rw[hw];exact sb
  have k:gr<w2.heap.size:=eU i a.size;have d:¬g=gr:=fun e=>c e.symm;clear ob sb i f a;go_wp2;refine aY (v:=gH Cm.zero) (by simp[results,results130,go_sem,Cm.zero,Bd.zero, *]) rfl ⟨rfl,?_,?_⟩
  ·exact(p.o.kept ((aA (S:=Own gr) w2).setRow (fun _=>(rfl:gr=gr)) _) d).kept ((aA (S:=No) _).alloc _) (fun h=>h)
  ·exact(m.o.setRow (fun h=>absurd h (bY.2 y.o)) _).alloc _
 |some s=>
  simp only[tH,C4]at hb;subst hb;simp only[xG,tH,jj,fO,cond_false];(go_wp2_with fail);refine l.o.mono ?_;rintro e w2 ⟨rfl,f,a⟩;have p:=af f;have m:=af (n.o.own.aK a);have q:Open w2 gr:=by
   obtain⟨C,t,hc⟩:=ob;exact⟨C,t,a.heap hc c⟩
  have u:(aL w2 gr).size=16:=by
   obtain⟨C,t,hc⟩:=ob;have hw:=a.heap hc c;unfold aL at sb⊢;rw[hc]at sb;rw[hw];exact sb
  have k:gr<w2.heap.size:=eU i a.size;have d:¬g=gr:=fun e=>c e.symm;clear ob sb i f a;go_wp2;refine aY (v:=gH Cm.zero) (by simp[results,results130,go_sem,Cm.zero,Bd.zero, *]) rfl ⟨rfl,?_,?_⟩
  ·exact(p.o.kept ((aA (S:=Own gr) w2).setRow (fun _=>(rfl:gr=gr)) _) d).kept ((aA (S:=No) _).alloc _) (fun h=>h)
  ·exact(m.o.setRow (fun h=>absurd h (bY.2 y.o)) _).alloc _
theorem Gr {w:World}{g:Nat}{s:Nm}(h:bJ w g (some s))(x:Cm):Calls prog 130 #[dP g,gH x,qI 0] w fun e w'=>e= .returned (gH x)∧bJ w' g (some s)∧ah (Own g) w w':=by
 have l:=h.lt;(go_enter func130,ntmps130);go_upto_region 1 with fail
 refine au ?_;intro W hW;have i:aj (ah No w W):=af (by rw[hW];exact((aA w).alloc _).alloc _);have ob:Open W (w.heap.size+1):=(by rw[hW];simp[go_sem]);have sb:(aL W (w.heap.size+1)).size=16:=(by rw[hW];simp[go_sem]);have k:ai W w.heap.size 0 16=some (ct x):=(by rw[hW];simp[go_sem]);have d:w.heap.size+1<W.heap.size:=(by rw[hW];simp);have f:=af (h.kept i.o (fun h=>h));obtain⟨gr,a⟩:=ay (w.heap.size+1);obtain⟨m,b⟩:=ay (w.heap.size);have c:¬g=gr:=(by omega);have j:aj (w.heap.size≤gr):=af (by omega);rw[←a]at ob sb d⊢;rw[←b]at k⊢;clear hW a b h;(go_wp2_with fail);refine(ox f.o).mono ?_;rintro e w1 ⟨rfl,rfl⟩;simp only[xG,tH,jj];go_wp2;refine aY (v:=gH x) (by simp[results,results130,go_sem, *]) rfl ⟨rfl,?_,?_⟩
 ·exact f.o.kept ((aA (S:=Own gr) W).setRow (fun _=>(rfl:gr=gr)) _) c
 ·exact i.o.own.setRow (fun h=>absurd h (bY.2 j.o)) _
theorem kK {w:World}{g:Nat}{r:dx}(h:bJ w g r)(x:Cm)(b:Bool):Calls prog 130 #[dP g,gH x,qI (fO b)] w fun e w'=>e= .returned (gH (dU b x Cm.zero r).1)∧bJ w' g (dU b x Cm.zero r).2∧ah (Own g) w w':=by
 unfold dU;cases hb:r.isSome&&b with
 |false=>exact Ek h x b hb
 |true=>
  rw[mE]at hb;obtain⟨a,rfl⟩:=hb;cases r with
  |none=>cases a
  |some s=>exact Gr h x
theorem Q6 {w:World}{b:Nat}(h:Open w b):b<w.heap.size:=by
 obtain⟨C,t,hc⟩:=h;exact(bX.1 hc).1
theorem ah.lP {w w':World}{g b:Nat}(k:ah (Own g) w w')(o:Open w b)(hn:¬b=g):Open w' b:=by
 obtain⟨C,t,hc⟩:=o;exact⟨C,t,k.heap hc hn⟩
theorem ah.gY {w w':World}{g b n:Nat}(k:ah (Own g) w w')(o:Open w b)(hs:(aL w b).size=n)(hn:¬b=g):(aL w' b).size=n:=by
 obtain⟨C,t,hc⟩:=o;have hw:=k.heap hc hn;unfold aL at hs⊢;rw[hc]at hs;rw[hw];exact hs
theorem ah.nM {w w':World}{g b o n:Nat}{l:List Value}(k:ah (Own g) w w')(h:Proofs.YtpbpgjfdledgoaaGreatDoor.ai w b o n=some l)(hb:b<w.heap.size)(hn:¬b=g):Proofs.YtpbpgjfdledgoaaGreatDoor.ai w' b o n=some l:=by
 unfold Proofs.YtpbpgjfdledgoaaGreatDoor.ai at h⊢;rw[k.block b hb hn];exact h
theorem nN (w:World)(a:cO):Calls prog 51 #[iE a] w (qG w ((ew (aO a)))):=by
 have CI:=af (fun W=>fU W a);obtain⟨R,j⟩:=ay (ew (aO a));rw[←j];have k:=af j;clear j;cases hb:dF a with
 |false=>
  have hp:aO a= []:=(by unfold aO;rw[hb];rfl);rw[hb]at CI;simp only[fO,cond_false]at CI;have d:=af hp;clear hb hp;(go_enter func51,ntmps51);go_wp2_with fail
  (with_reducible refine(CI.o _).mono ?_)
  rintro e w1 ⟨rfl,b⟩;have f:aj (ah No w w1):=af (((aA w).alloc _).aK b.keeps);clear b;go_wp2;go_ret;exact⟨by rw[k.o,d.o];rfl,f.o⟩
 |true=>
  have hp:=CS hb;have d:=af hp;have h:=hb;unfold dF at h;simp only[eA]at h;obtain⟨m,p,q⟩:=h;have c:aj (∀n∈ [a.s,a.i,a.g],i64 n):=af (by
   intro n hn;simp only[rR,Ou,or_false]at hn;rcases hn with rfl|rfl|rfl
   ·exact eT m
   ·exact eT p
   ·exact eT q)
  rw[hb]at CI;simp only[fO,cond_true]at CI;have l:ai (w.alloc (.cells #[qI a.s,qI a.i,qI a.g] 23)) w.heap.size 0 3=some (bk a):=(by simp[go_sem]);have t:=af l;have u:=af ((aA (S:=No) w).alloc (.cells #[qI a.s,qI a.i,qI a.g] 23));clear hb hp m p q l;(go_enter func51,ntmps51);go_wp2_with fail
  (with_reducible refine(CI.o _).mono ?_)
  rintro e w1 ⟨rfl,b⟩;have f:=af (u.o.aK b.keeps);have cc:=b.keeps.ai t.o;have c0:=ak cc 0 _ rfl;have c1:=ak cc 1 _ rfl;have c2:=ak cc 2 _ rfl;simp only[bC]at c0 c1 c2;clear b cc;(go_wp2_with fail);refine(qi _ _ [a.s,a.i,a.g] (LY.lit w1 [a.s,a.i,a.g] 3 (by simp)) (by simp) c.o).mono ?_;rintro e w2 ⟨rfl,r⟩;have v:=af ((f.o.alloc _).aK r);clear r;go_wp2;go_ret;exact⟨by rw[k.o,d.o];simp[gJ],v.o⟩
theorem lX {w:World}{g:Nat}{r:dx}(h:bJ w g r):Calls prog 60 #[dP g] w fun e w'=>e= .returned (iE (aF r).1)∧bJ w' g (aF r).2∧ah (Own g) w w':=by
 obtain⟨R,H⟩:=ay (aF r);rw[←H];have V:aj (R=dU (dF (oI r).1) (oI r).1 cO.zero (oI r).2):=af (by
  rw[H];unfold aF dU;rfl)
 have F:aj (oI r=(⟨(bR r).1,(bR (bR r).2).1,(bR (bR (bR r).2).2).1⟩,(bR (bR (bR r).2).2).2)):=af rfl;have aO:=h.lt;have P:=af (h.kept ((aA (S:=No) w).alloc (.cells #[qI 0,qI 0,qI 0] 23)) (fun h=>h));have X:=af (ah.own (g:=g) ((aA (S:=No) w).alloc (.cells #[qI 0,qI 0,qI 0] 23)));have O0:aj (Open (w.alloc (.cells #[qI 0,qI 0,qI 0] 23)) w.heap.size∧(aL (w.alloc (.cells #[qI 0,qI 0,qI 0] 23)) w.heap.size).size=3):=af ⟨by simp[go_sem],by simp[go_sem]⟩;obtain⟨a,I⟩:=ay (bR r);obtain⟨b,hb⟩:=ay (bR a.2);obtain⟨c,hc⟩:=ay (bR b.2);rw[←I, ←hb, ←hc]at F;have Q:=af I;have T:=af hb;have U:=af hc;clear I hb hc H h;(go_enter func60,ntmps60);(go_wp2_with fail);refine(fF P.o).mono ?_;rintro e w1 ⟨rfl,t,l⟩;rw[←Q.o]at t⊢;have R1:=af t;have Y:=af (X.o.aK l);have C:aj (Open w1 w.heap.size∧(aL w1 w.heap.size).size=3):=af ⟨l.lP O0.o.1 (by omega),l.gY O0.o.1 O0.o.2 (by omega)⟩;clear t l;(go_wp2_with fail);refine(fF R1.o).mono ?_;rintro e w2 ⟨rfl,k,d⟩;rw[←T.o]at k⊢;have aq:=af k;have Z:=af (Y.o.aK d);have D:aj (Open w2 w.heap.size∧(aL w2 w.heap.size).size=3):=af ⟨d.lP C.o.1 (by omega),d.gY C.o.1 C.o.2 (by omega)⟩;clear k d;(go_wp2_with fail);refine(fF aq.o).mono ?_;rintro e z ⟨rfl,u,m⟩;rw[←U.o]at u⊢;have G:=af u;have ak:=af (Z.o.aK m);have O3:aj (Open z w.heap.size∧(aL z w.heap.size).size=3):=af ⟨m.lP D.o.1 (by omega),m.gY D.o.1 D.o.2 (by omega)⟩;have y:w.heap.size<z.heap.size:=Q6 O3.o.1;clear u m;go_upto_region 2 with fail
 refine au ?_;intro W hW;obtain⟨x,L⟩:=ay (⟨a.1,b.1,c.1⟩:cO);have E:ai W z.heap.size 0 3=some (bk x):=(by rw[hW,L];simp[go_sem]);have or:Open W w.heap.size:=(by rw[hW];simp[go_sem,O3.o.1,y]);have sr:(aL W w.heap.size).size=3:=(by rw[hW];simp[go_sem,O3.o.2,y]);have aB:z.heap.size<W.heap.size:=(by rw[hW];simp);have aJ:aj (bJ W g c.2):=af (by rw[hW];exact G.o.kept ((aA (S:=No) _).alloc _) (fun h=>h));have aE:aj (ah (Own g) w W):=af (by rw[hW];exact ak.o.alloc _);have aD:aj (dU (dF x) x cO.zero c.2=R):=af (by rw[V.o,F.o,L]);have K:g<z.heap.size:=G.o.lt;obtain⟨q,p⟩:=ay (z.heap.size);obtain⟨gr,n⟩:=ay (w.heap.size);have nx:¬q=g:=(by omega);have nr:¬gr=g:=(by omega);have O:q≠gr:=(by omega);have aC:aj (w.heap.size≤gr):=af (by omega);rw[←p]at E aB⊢;rw[←n]at or sr⊢;have CI:=af (fun W=>fU W x);clear hW L p n y K X Y Z ak O0 C D O3 R1 aq G P Q T U F V;have B:ai W q 0 3=some (bk x)∧Open W gr∧(aL W gr).size=3:=⟨E,or,sr⟩
 go_region_held3 (fun w'=>ai w' q 0 3=some (bk x)∧Open w' gr∧(aL w' gr).size=3)
  (first|exact B|exact f|exact j|exact⟨(cC _ _ _ _ _ _ O).trans j.1,(eM _ _ _ _).2 j.2.1,by rw[dO _ _ _ j.2.1];rfl⟩)
  (first
    |(go_at_call 65
      have hc:=CI.o
      with_reducible refine(hc _).mono ?_
      clear hc;rintro e w1 ⟨rfl,A⟩;have f:ai w1 q 0 3=some (bk x)∧Open w1 gr∧(aL w1 gr).size=3:=⟨A.keeps.ai E,A.keeps.opened or,A.keeps.iu or sr⟩;have aM:=af ((aJ.o.kept (aA (S:=No) W).drew (fun h=>h)).kept A.keeps (fun h=>h));have aG:=af (aE.o.drew.mS A.keeps);have M:q<w1.heap.size:=eU aB A.keeps.size)
    |(go_at_call 134
      refine(Gq aM.o x (dF x)).mono ?_;rintro e w2 ⟨rfl,k,d⟩;rw[aD.o]at k⊢;have j:ai w2 q 0 3=some (bk x)∧Open w2 gr∧(aL w2 gr).size=3:=⟨d.nM f.1 M nx,d.lP f.2.1 nr,d.gY f.2.1 f.2.2 nr⟩;have aN:=af k;have aI:=af (aG.o.aK d)))
 all_goals go_wp2_with fail
 all_goals
  have N:¬g=gr:=fun e=>nr e.symm;have J:ai (w2.setRow gr #[qI R.1.s,qI R.1.i,qI R.1.g]) gr 0 3=some (bk R.1):=(by rw[aH _ _ _ _ _ j.2.1];rfl);have av:aj (bJ (w2.setRow gr #[qI R.1.s,qI R.1.i,qI R.1.g]) g R.2∧ah (Own g) w (w2.setRow gr #[qI R.1.s,qI R.1.i,qI R.1.g])):=af ⟨aN.o.kept ((aA (S:=Own gr) w2).setRow (fun _=>(rfl:gr=gr)) _) N,aI.o.setRow (fun h=>absurd h (bY.2 aC.o)) _⟩;refine aY (v:=iE R.1) ?_ rfl ⟨rfl,av.o.1,av.o.2⟩;clear B f j or sr E;simp[results,results60,go_sem,J]
end
section
open Go.Proofs.Tryz
open Go.RowKit Go.Shelf Go.Sort Go.Joins Go.Deep
attribute [local go_sem] Oper.semAt_some
def L6 (u:TypeId):Prop:=u=266∨u=320
structure BR (A B:World):Prop where
 os:B.os=A.os
 tape:B.tape=A.tape
 output:B.output=A.output
 size:A.heap.size≤B.heap.size
 own:∀(k:Nat) (D:Array Value) (u:TypeId) (o:Nat×Nat),A.heap[k]?=some (Obj.cells D u o)→L6 u→B.heap[k]?=A.heap[k]?
 mask:∀(k:Nat) (D:Array Value) (o:Nat×Nat),A.heap[k]?=some (Obj.cells D 25 o)→B.cell? ⟨k,3,none⟩=A.cell? ⟨k,3,none⟩∧∃D',B.heap[k]?=some (Obj.cells D' 25 o)
theorem BR.trans {A B C:World}(h:BR A B)(k:BR B C):BR A C:=
 ⟨k.os.trans h.os,k.tape.trans h.tape,k.output.trans h.output,aU h.size k.size,fun i D u o hi hu=>(k.own i D u o ((h.own i D u o hi hu).trans hi) hu).trans (h.own i D u o hi hu),fun i D o hi=>by
   obtain⟨a,D',b⟩:=h.mask i D o hi;obtain⟨c,d⟩:=k.mask i D' o b;exact⟨c.trans a,d⟩⟩
theorem BR.put (W:World)(l:Nat)(o o':Obj)(h:W.heap[l]?=some o)(hc:o.isCells=false)(_:o.isWalk=false):BR W (W.putObj l o'):=
 have g:=grownBy_putObj' W l o'
 have ne:∀(k:Nat) (D:Array Value) (u:TypeId) (b:Nat×Nat),W.heap[k]?=some (Obj.cells D u b)→k≠l:=fun k D u b a e=>by
  subst e;rw[h]at a;cases a;cases hc
 ⟨g.os,g.tape,g.output,g.size,fun k D u b a _=>World.putObj_heap_other (ne k D u b a),fun k D b a=>by
   have e:=World.putObj_heap_other (w:=W) (o:=o') (ne k D _ b a);exact⟨zx (w:=W) e,D,e.trans a⟩⟩
def nl:List (Int×Nat):= [(1,4),(1,5),(2,6),(2,7),(4,8),(8,9),(16,10)]
def mB (m:Int):List Nat:=(nl.filter fun p=>hasB m p.1).map (·.2)
def OC (gb:Nat)(x:Nat):Array Value:=#[.pointer (some ⟨gb,x,none⟩)]
structure OD (gB gb:Nat)(m:Int)(W:World):Prop where
 box:W.heap[gB]?=some (.cells #[dP gb] 266 (0,0))
 cell:W.cell? ⟨gb,3,none⟩=some (qI m)
 Uq:∃D o,W.heap[gb]?=some (.cells D 25 o)
theorem OD.no {gB gb:Nat}{m:Int}{A B:World}(h:OD gB gb m A)(k:ah No A B):OD gB gb m B:=by
 obtain⟨D,o,hb⟩:=h.Uq;exact⟨k.heap h.box (fun h=>h),k.cB h.cell,D,o,k.heap hb (fun h=>h)⟩
theorem OD.kp {gB gb:Nat}{m:Int}{A B:World}(h:OD gB gb m A)(k:BR A B):OD gB gb m B:=by
 obtain⟨D,o,hb⟩:=h.Uq;obtain⟨a,D',b⟩:=k.mask gb D o hb;exact⟨(k.own gB _ _ _ h.box (.inl rfl)).trans h.box,a.trans h.cell,D',o,b⟩
theorem yF (w:World)(gb:Nat):Calls prog 192 #[dP gb] w fun e w'=>e= .returned (.func (.func 254) #[] #[.pointer (some ⟨w.heap.size,0,none⟩)])∧w'=w.alloc (.cells #[dP gb] 266):=by
 (go_enter func192,ntmps192);go_wp2;go_ret;exact⟨rfl,rfl⟩
theorem Ji (m:Int)(k:Nat)(f:k<nl.length):bits .and .i64 m nl[k].1=(bif hasB m nl[k].1 then nl[k].1 else 0)∧(nl[k].1 !=0)=true:=by
 obtain⟨b,c,d,e,a⟩:=jt m
 match k,f with
 |0,_=>exact⟨b,rfl⟩
 |1,_=>exact⟨b,rfl⟩
 |2,_=>exact⟨c,rfl⟩
 |3,_=>exact⟨c,rfl⟩
 |4,_=>exact⟨d,rfl⟩
 |5,_=>exact⟨e,rfl⟩
 |6,_=>exact⟨a,rfl⟩
def OE (gb:Nat):List Value:= [qI 1,.pointer (some ⟨gb,4,none⟩),qI 1,.pointer (some ⟨gb,5,none⟩),qI 2,.pointer (some ⟨gb,6,none⟩),qI 2,.pointer (some ⟨gb,7,none⟩),qI 4,.pointer (some ⟨gb,8,none⟩),qI 8,.pointer (some ⟨gb,9,none⟩),qI 16,.pointer (some ⟨gb,10,none⟩)]
theorem Q7 (gb k:Nat)(a:k<nl.length):((OE gb).drop (k*2)).take 2= [qI nl[k].1,.pointer (some ⟨gb,nl[k].2,none⟩)]:=by
 match k,a with
 |0,_=>rfl
 |1,_=>rfl
 |2,_=>rfl
 |3,_=>rfl
 |4,_=>rfl
 |5,_=>rfl
 |6,_=>rfl
def Ur (W:World)(J a:List Nat→World→Prop)(pre:List Nat)(e:Ending)(W':World):Prop:=∃b:Bool,e= .returned (.bool b)∧((b=true∧J pre W'∧BR W W')∨(b=false∧a pre W'))
theorem Gs (n:Nat)(aU:1≤n)(l gB gb:Nat)(m:Int)(J U:List Nat→World→Prop)
 (aD:∀pre A B,J pre A→ah No A B→J pre B)
 (aF:∀pre x W,J pre W→pre.length<7→pre++ [x] <+: mB m→YieldAt Fence.wide (n-1) prog l (OC gb x) W fun e W'=>(e= .returned (.bool true)∧J (pre++ [x]) W'∧BR W W')∨(e= .returned (.bool false)∧U (pre++ [x]) W'))
 (W:World) (hit:OD gB gb m W) (h0:J [] W):
 CallsIn Fence.wide n prog 254 #[.func (.yield l) #[] #[],.pointer (some ⟨gB,0,none⟩)] W fun e W'=>(∃v,e= .returned v)∧(J (mB m) W'∨∃pre,U pre W'):=by
 have aI:=af aF;have P:=af aD;have aB:=af hit;have G:W.cell? ⟨gB,0,none⟩=some (dP gb):=(by rw[bW W gB 0 _ _ _ hit.box];rfl);have lb:gB<W.heap.size:=(bX.1 hit.box).1;clear aF aD hit;refine callsIn_of_wp func254 rfl trivial ?_ rfl;simp only[ntmps254,Ov,iY,iP,Nat.reduceAdd,Nat.reduceSub,OA,OB,Ow,Ox,tD,nA];refine(pQ (n:=n)).2 ?_;have aO:∀w',ah No W w'→w'.cell? ⟨gB,0,none⟩=some (dP gb):=fun w' k=>k.cB G;go_wp2
 go_region_held3 (fun w'=>ah No W w')
  (first|exact(aA W).drew|exact((aA W).alloc _).drew) (fail)
 go_wp2;refine au ?_;intro aC r;have V:aj (ah No W aC):=af (by rw[r];exact((aA W).alloc _).drew);have R1:aj (aC.heap[W.heap.size]?=some (.cells (OE gb).toArray 320 (0,0))):=af (by rw[r];exact bT W _);obtain⟨g,aG⟩:=ay (W.heap.size);rw[←aG]at R1⊢;have aL:=af (P.o _ _ _ h0 V.o);have aJ:=af (aB.o.no V.o);clear r aG G lb aO V aB h0;refine(pQ (n:=n)).1 ?_
 gi_loopw [35] (fun q wr=>∃(k:Nat) (pre:List Nat),k≤7∧q=qI k∧pre=((nl.take k).filter fun p=>hasB m p.1).map (·.2)∧J pre wr∧OD gB gb m wr∧wr.heap[g]?=some (.cells (OE gb).toArray 320 (0,0))) (fun q _=>7-(intOf q).toNat)
 case atStart=>exact⟨0,[],aX _,rfl,rfl,aL.o,aJ.o,R1.o⟩
 case round=>
  obtain⟨k,pre,aT,rfl,j,E,D,F⟩:=hrel;have Y:=af j;have T:=af E;have y:=af D;have C:=af F;have aS:(0:Int)≤(k:Int):=(by omega);clear j E D F;by_cases ak:k<7
  ·have I:(k:Int)<7:=(by omega);have t:k<nl.length:=ak;obtain⟨c,aq⟩:=Ji m k t;have a:ai wr g (k*2) 2=some [qI nl[k].1,.pointer (some ⟨gb,nl[k].2,none⟩)]:=by
    rw[←Q7 gb k t];unfold ai;rw[C.o];have:k*2+2≤(OE gb).toArray.size:=(by simp[OE];omega);simp only[this,if_true]
   have w:aj (((nl.take (k+1)).filter fun p=>hasB m p.1).map (·.2)=pre++(bif hasB m nl[k].1 then [nl[k].2]else [])):=af (by
    rw[iK t,List.filter_append,fI, ←Y.o];cases hb:hasB m nl[k].1<;>simp[hb])
   have Q:aj (((nl.take (k+1)).filter fun p=>hasB m p.1).map (·.2) <+: mB m):=af (by
    unfold mB;exact((List.take_prefix (k+1) nl).filter _).map _)
   have R:aj (pre.length≤k):=af (by
    rw[Y.o,eE];have:=List.length_filter_le (fun p:Int×Nat=>hasB m p.1) (nl.take k);rw[fB]at this;omega)
   obtain⟨bit,f⟩:=ay (nl[k].1);obtain⟨off,i⟩:=ay (nl[k].2);rw[←f]at c aq a w;rw[←i]at a w;obtain⟨b,hb⟩:=ay (hasB m bit);rw[←hb]at c w;have aH:wr.cell? ⟨gB,0,none⟩=some (dP gb):=(by rw[bW wr gB 0 _ _ _ y.o.box];rfl);have av:=y.o.cell;have L:gB<wr.heap.size:=(bX.1 y.o.box).1;have M:gb<wr.heap.size:=nh av;have N:g<wr.heap.size:=(bX.1 C.o).1;clear f i hb;cases b with
   |false=>
    have aV:bits .and .i64 m bit=0:=c;clear c;have z:aj (ah No wr (wr.alloc (.cells #[qI bit,.pointer (some ⟨gb,off,none⟩)] 320)).drew):=af ((aA wr).alloc _).drew
    gi_wp2
    refine(pQ (n:=n)).2 ?_
    go_quiet (fail)
    have X:aj (ah No wr ((wr.alloc (.cells #[qI bit,.pointer (some ⟨gb,off,none⟩)] 320)).drewN nq)):=af (((aA wr).alloc _).drewN _);have Z:aj (pre=((nl.take (k+1)).filter fun p=>hasB m p.1).map (·.2)):=af (by rw[w.o];simp)
    gi_wp2
    go_roundw
    case rel=>exact⟨k+1,pre,by omega,by go_num,Z.o,P.o _ _ _ T.o X.o,y.o.no X.o,X.o.heap C.o (fun h=>h)⟩
    case measure=>simp[intOf];omega
   |true=>
    have aV:bits .and .i64 m bit=bit:=c;clear c;have z:aj (ah No wr (wr.alloc (.cells #[qI bit,.pointer (some ⟨gb,off,none⟩)] 320)).drew):=af ((aA wr).alloc _).drew;obtain⟨fn,tmps,assign,body,hy,aE⟩:=aI.o pre off _ (P.o _ _ _ T.o z.o) (by have:=R.o;omega) (by
     have d:=Q.o;rw[w.o]at d;exact d)
    have S:=af (aE.mono (R':=Ur (wr.alloc (.cells #[qI bit,.pointer (some ⟨gb,off,none⟩)] 320)).drew J U (pre++ [off])) (fun e W' h=>by
     rcases h with⟨he,d,O⟩|⟨he,d⟩
     ·exact⟨true,he,.inl ⟨rfl,d,O⟩⟩
     ·exact⟨false,he,.inr ⟨rfl,d⟩⟩))
    unfold OC at hy;clear aE
    gi_wp2
    gi_region_with ((refine S.o.mono ?_;rintro e aW ⟨b,rfl,u⟩))
    all_goals
     have Z:aj (pre++ [off]=((nl.take (k+1)).filter fun p=>hasB m p.1).map (·.2)):=af (by rw[w.o];rfl);rcases u with⟨rfl,H,s⟩|⟨rfl,K⟩
     ·have aM:=af H;have aK:=af ((y.o.no z.o).kp s);have aP:=af ((s.own g _ _ _ (z.o.heap C.o (fun h=>h)) (.inr rfl)).trans (z.o.heap C.o (fun h=>h)));clear hy H s aH av L M N a
      gi_wp2
      go_roundw
      case rel=>exact⟨k+1,_,by omega,by go_num,Z.o,aM.o,aK.o,aP.o⟩
      case measure=>simp[intOf];omega
     ·have aQ:=af K;clear hy K aH av L M N a
      gi_wp2
      refine aY (nw rfl _ _ _) rfl ?_;exact⟨⟨_,rfl⟩,.inr ⟨_,aQ.o⟩⟩
  ·have aR:k=7:=(by omega);subst aR;have I:¬((7:Int)<7):=(by omega);have aN:aj (J (mB m) wr):=af (by
    have d:=Y.o;rw[fA (by decide)]at d;have O:=T.o;rw[d]at O;exact O)
   gi_wp2
   refine pP (nw rfl _ _ _) rfl ?_;exact⟨⟨_,rfl⟩,.inl aN.o⟩
attribute [local go_sem] Oper.semAt_some
section
variable {F:Fence}{n:Nat}{P:Program}
theorem range_one {α:Type}{g:Operand}{i:Tmp}{assign body:Code}{Q:Exit→Act→World→Prop}{T:Array Value}{w:World}
 (q:F.round=none) (j:1≤n) {e:Nat}{lb:Array Value} (z:Act.eval ⟨T,[]⟩ g= .func (.func e) #[] lb) (k:F.fn e) (eg:∀args w,(callFunc e args).run P w= .ok (.enter e args) w)
 {e1:α→Value}{Kp:World→World→Prop}{S r:List α→Prop}{N:Nat} (f:SeqStopsK F (n-1) P e lb (fun x=>#[e1 x]) Kp S r N w)
 (p:∀ {A B C:World},Kp A B→Kp B C→Kp A C) (m:∀(W:World) (l:Nat) (o o':Obj),w.heap.size≤l→W.heap[l]?=some o→o.isCells=false→o.isWalk=false→Kp W (W.putObj l o'))
 (I:List α→World→Prop) (y:OwnFrom w.heap.size I) (h0:I [] w) (d:Nat) (v:α→Value)
 (a:∀(l:Nat) (x:α) (W:World) (K:Act→World→Prop),K ⟨(T.setIfInBounds i (e1 x)).setIfInBounds d (v x),[]⟩ W→
   assign.wpIn (F.inRound l) (n-1-1) P (Exit.then K (fun _ _ _=>False)) ⟨T.setIfInBounds i (e1 x),[]⟩ W)
 (b:∀(l:Nat) (pre:List α) (x:α) (W:World),I pre W→pre.length<N→body.wpIn (F.inRound l) (n-1-1) P (ownPostG w.heap.size Kp I (fun _ _ _=>False) (pre++ [x]) W) ⟨(T.setIfInBounds i (e1 x)).setIfInBounds d (v x),[]⟩ W)
 (c:∀(D:Nat) (xs:List α) (W:World),w.heap.size≤D→S xs→I xs W→W.heap[D]?=some (.deferred (some []))→Q .normal ⟨T,[{ target:= .collected D,args:=#[] }]⟩ W):
 (Code.rangeFunc g #[i] assign body).wpIn F n P Q ⟨T,[]⟩ w:=
 wpIn_rangeFunc_ownG q j z k eg f p m (Below.refl _ _) (fun _=>rfl) I (fun _ _ _=>False) y (fun _ _ _ _ _ hs _ _=>hs) h0 _ (fun l x W K hK=>by simpa using a l x W K hK) b
  (fun D xs W j s t u=>c D xs W j s t u) (fun _ _ _ _ _ _ h _=>h.elim)
end
def Bc (b:Bd):Nat→Int
 |4=>b.x
 |5=>b.y
 |6=>b.vx
 |7=>b.vy
 |8=>b.hp
 |9=>b.pw
 |10=>b.lf
 |_=>0
abbrev Fl:=Fin 7
def iG (x:Fl):Nat:=4+x.1
theorem OG (b:Bd)(x:Fl):(fe b)[iG x]?=some (qI (Bc b (iG x))):=by
 match x with
 |0=>rfl
 |1=>rfl
 |2=>rfl
 |3=>rfl
 |4=>rfl
 |5=>rfl
 |6=>rfl
theorem OH (b:Bd):aG b.m++(mB b.m).flatMap (fun o=>aG (Bc b o))=cV b:=by
 unfold cV aC mB nl;cases c:hasB b.m 1<;>cases d:hasB b.m 2<;>cases e:hasB b.m 4<;>cases f:hasB b.m 8<;>cases a:hasB b.m 16<;>simp[List.filter,c,d,e,f,a,Bc]
theorem OI {b:Bd}(h:cE b=true):i64 b.m∧∀o,i64 (Bc b o):=by
 unfold cE at h;simp only[eA]at h;obtain⟨a,c,d,e,f,g,i,j⟩:=h;refine⟨eT a,fun o=>?_⟩;unfold Bc
 split
 ·exact(jh c).1
 ·exact(jh d).1
 ·exact(jh e).1
 ·exact(jh f).1
 ·exact(jh g).1
 ·exact(jh i).1
 ·exact(jh j).1
 ·exact⟨by omega,by omega⟩
theorem tI (w2:World)(gB gb:Nat)(m:Int)(hit:OD gB gb m w2):
 SeqStopsK Fence.wide (8-1) prog 254 #[.pointer (some ⟨gB,0,none⟩)] (fun x:Fl=>#[.pointer (some ⟨gb,iG x,none⟩)]) BR (fun xs=>xs.map iG=mB m) (fun _=>True) 7 w2:=fun l J o W hW s _ u h0=>by
 have g:ah No w2 W:=⟨hW.os,hW.tape,hW.output,hW.size,fun k g _=>hW.block k g⟩;refine(Gs (8-1) (by decide) l gB gb m (fun pre W=>∃ys:List Fl,pre=ys.map iG∧J ys W) (fun pre W=>∃ys:List Fl,o ys W) ?_ ?_ W (hit.no g) ⟨[],rfl,h0⟩).mono ?_
 ·rintro pre A B ⟨ys,d,a⟩ k;exact⟨ys,d,s ys A B none a ⟨k.os,k.tape,k.output,k.size,fun i hi _=>k.block i hi (fun h=>h)⟩ (fun r e=>by cases e)⟩
 ·rintro pre x W ⟨ys,rfl,a⟩ b j;have n:x∈mB m:=j.subset (by simp);have v:4≤x∧x≤10:=by
   unfold mB at n;obtain⟨p,hp,rfl⟩:=jq.1 n;have c:=(wZ.1 hp).1;simp only[nl,rR,Ou,or_false]at c;rcases c with rfl|rfl|rfl|rfl|rfl|rfl|rfl<;>simp
  obtain⟨i,rfl⟩:∃i:Fl,x=iG i:=⟨⟨x-4,by omega⟩,by simp[iG];omega⟩;obtain⟨fn,tmps,assign,body,hy,t⟩:=u ys i W a (by rw[eE]at b;exact b);refine⟨fn,tmps,assign,body,hy,t.mono ?_⟩;rintro e W' (⟨he,f,q⟩|⟨he,f⟩)
  ·exact .inl ⟨he,⟨ys++ [i],by simp,f⟩,q⟩
  ·exact .inr ⟨he,_,f⟩
 ·rintro e W' ⟨hv,⟨ys,d,a⟩|⟨pre,ys,h⟩⟩
  ·exact⟨hv,.inl ⟨ys,d.symm,a⟩⟩
  ·exact⟨hv,.inr ⟨ys,trivial,h⟩⟩
theorem Jj (a b:Nm):bB a++bB b=bB (a++b):=by
 apply fW;simp[bB,ByteArray.data_append]
theorem cg (W:World)(a b:Nm)(c:a.length≤1000000)(hb:b.length≤1000000):(Op.stringOp .add (bB a) (bB b)).run prog W= .ok (.string (bB (a++b))) W:=by
 rw[←Jj];exact kD W _ _ (by rw[jW,jW];omega)
theorem Q8 (b:Bd)(l:List Nat):(l.flatMap (fun o=>aG (Bc b o))).length≤l.length*9:=by
 induction l with
 |nil=>simp
 |cons o l ih=>
  have:=aP (Bc b o);rw[wW,cr,g_];omega
def lG (b:Bd)(pre:List Fl):Nm:=aG b.m++(pre.map iG).flatMap (fun o=>aG (Bc b o))
theorem Gt (b:Bd)(pre:List Fl)(x:Fl):lG b (pre++ [x])=lG b pre++aG (Bc b (iG x)):=by simp[lG]
theorem L7 (b:Bd)(pre:List Fl)(h:pre.length<7):(lG b pre).length≤100:=by
 have a:=Q8 b (pre.map iG);have c:=aP b.m;rw[eE]at a;unfold lG;rw[cr];omega
theorem BR.fu {g:Nat}{A B:World}{C:Array Value}{t:TypeId}{o:Nat×Nat}(k:ah (Own g) A B)(h:A.heap[g]?=some (.cells C t o))(b:¬L6 t)(c:t≠25):BR A B:=
 ⟨k.os,k.tape,k.output,k.size,fun i D u d hi hu=>k.block i (bX.1 hi).1 (fun e=>by
   have e:i=g:=e;subst e;rw[h]at hi;cases hi;exact b hu),fun i D d hi=>by
   have a:¬i=g:=fun e=>by
    subst e;rw[h]at hi;cases hi;exact c rfl
   have e:=k.block i (bX.1 hi).1 a;exact⟨zx (w:=A) e,D,e.trans hi⟩⟩
theorem L8 {gs:Nat}{w2 W W':World}{row:Option Nat}(h:ah (Own gs) w2 W)(a:W.grownBy W' row)(b:∀r,row=some r→w2.heap.size≤r):ah (Own gs) w2 W':=
 h.trans ((aA (S:=fun i=>row=some i) W).grown a (fun k e _=>e)) (fun i hi e=>by have:=b i e;omega)
theorem lH {g:Nat}{W W':World}{row:Option Nat}{C:Array Value}{t:TypeId}{o:Nat×Nat}(h:W.heap[g]?=some (.cells C t o))(b:W.grownBy W' row)(c:∀r,row=some r→∃o,W.heap[r]?=some o∧o.isCells=false):W'.heap[g]?=some (.cells C t o):=
 (b.block g (bX.1 h).1 (fun e=>by
   obtain⟨d,a,hc⟩:=c g e.symm;rw[h]at a;cases a;cases hc)).trans h
theorem Cb {g D:Nat}{A B:World}{C:Array Value}{t:TypeId}{o:Nat×Nat}(k:ah (Own g) A B)(h:A.heap[g]?=some (.cells C t o)):KeepsFrom D A B:=
 ⟨k.size,fun i ob _ a hc=>(k.block i (bX.1 a).1 (fun e=>by
   have e:i=g:=e;subst e;rw[h]at a;cases a;cases hc)).trans a⟩
theorem iz (W:World)(n:Int)(hn:i64 n):Calls prog 48 #[.slice (some ⟨W.heap.size,0,none⟩) 1 1] (W.alloc (.cells #[qI n] 3)) fun e w'=>e= .returned (.string (bB (aG n)))∧ah No (W.alloc (.cells #[qI n] 3)) w':=by
 have h:=qi _ _ [n] (LY.lit W [n] 3 (by simp)) (by simp) (by intro x a;rw[dA]at a;rw[a];exact hn);refine Calls.mono h ?_;rintro e w' ⟨rfl,b⟩;exact⟨by simp[gJ];rfl,b⟩
theorem Q9 (W:World)(n m:Int)(hn:i64 n)(hm:i64 m):Calls prog 48 #[.slice (some ⟨W.heap.size,0,none⟩) 2 2] (W.alloc (.cells #[qI n,qI m] 3)) fun e w'=>e= .returned (.string (bB (aG n++aG m)))∧ah No (W.alloc (.cells #[qI n,qI m] 3)) w':=by
 have h:=qi _ _ [n,m] (LY.lit W [n,m] 3 (by simp)) (by simp) (by intro x a;simp only[rR,Ou,or_false]at a;rcases a with rfl|rfl;exact hn;exact hm)
 refine Calls.mono h ?_;rintro e w' ⟨rfl,b⟩;exact⟨by simp[gJ];rfl,b⟩
theorem yG (w:World)(b:Bd)(G:cE b=true):Calls prog 117 #[mr b] w (qG w ((ew (cV b)))):=by
 obtain⟨hm,hf⟩:=OI G;have aL:=af hf;have aN:=af hm;obtain⟨R,U⟩:=ay (ew (cV b));rw[←U];have aQ:=af U;clear G hm hf U;refine(tW (n:=8)).1 ?_;refine callsIn_of_wp_marks func117 rfl trivial ?_ rfl;refine(pQ (n:=8)).2 ?_;simp only[ntmps117,Ov,iY,iP,Nat.reduceAdd,Nat.reduceSub,OA,OB,Ow,Ox,tD,nA];go_upto_region 1 with fail
 refine au ?_;intro B u;have J:aj (B.heap[w.heap.size]?=some (.cells (fe b).toArray 25 (0,0))):=af (by rw[u];exact bT w _);have av:aj (ah No w B):=af (by rw[u];exact(aA w).alloc _);obtain⟨gb,v⟩:=ay (w.heap.size);rw[←v]at J⊢;have N:=af v;clear u v;have c3:B.cell? ⟨gb,3,none⟩=some (qI b.m):=(by rw[bW _ _ _ _ _ _ J.o];rfl);go_wp2_with fail
 (with_reducible refine(iz B b.m aN.o).mono ?_)
 rintro e w1 ⟨rfl,y⟩;have L:aj (w1.heap[gb]?=some (.cells (fe b).toArray 25 (0,0))):=af (y.heap (((aA (S:=No) B).alloc _).heap J.o (fun h=>h)) (fun h=>h));have aC:aj (ah No w w1):=af ((av.o.alloc _).aK y);have aW:gb<w1.heap.size:=(bX.1 L.o).1;clear y c3 av J;go_wp2_with fail
 (with_reducible refine(yF _ _).mono ?_)
 rintro e w2 ⟨rfl,d⟩;have aE:aj (w2.heap[w1.heap.size]?=some (.cells #[.string (bB (aG b.m))] 9 (0,0))):=af (by rw[d];exact((aA (S:=No) _).alloc _).heap (bT w1 _) (fun h=>h));have B2:aj (w2.heap[gb]?=some (.cells (fe b).toArray 25 (0,0))):=af (by rw[d];exact(((aA (S:=No) w1).alloc _).alloc _).heap L.o (fun h=>h));have aD:aj (ah No w w2):=af (by rw[d];exact(aC.o.alloc _).alloc _);have aq:aj (OD (w1.alloc (.cells #[.string (bB (aG b.m))] 9)).heap.size gb b.m w2):=af ⟨by rw[d];exact bT _ _,by rw[bW _ _ _ _ _ _ B2.o];rfl,_,_,B2.o⟩;obtain⟨gB,C⟩:=ay ((w1.alloc (.cells #[.string (bB (aG b.m))] 9)).heap.size);obtain⟨gs,D⟩:=ay (w1.heap.size);have ai:aj (w.heap.size≤gs∧gb≠gs):=af ⟨by have:=N.o;omega,by omega⟩;rw[←C]at aq⊢;rw[←D]at aE⊢;have O:=af (tI w2 gB gb b.m aq.o);clear d C D aW L aC;(go_wp2_with fail);refine(pQ (n:=8)).1 ?_;refine range_one (α:=Fl) (e1:=fun x=> .pointer (some ⟨gb,iG x,none⟩)) (Kp:=BR) (n:=8) rfl (by decide) rfl trivial (enters_of func254 (by kernel_rfl) rfl)
  O.o (fun h k=>h.trans k) (fun W l o o' c f g aV=>BR.put W l o o' f g aV)
  (fun pre W=>W.heap[gs]?=some (.cells #[.string (bB (lG b pre))] 9 (0,0))∧W.heap[gb]?=some (.cells (fe b).toArray 25 (0,0))∧ah (Own gs) w2 W) ?own ?start 4 (fun x=> .pointer (some ⟨gb,iG x,none⟩)) ?assign ?body ?done
 case own=>
  rintro pre W W' row ⟨c,f,g⟩ V Y;exact⟨lH c V (fun r e=>(Y r e).2),lH f V (fun r e=>(Y r e).2),L8 g V (fun r e=>(Y r e).1)⟩
 case start=>exact⟨by have h:=aE.o;rw[h];simp[lG],B2.o,aA _⟩
 case assign=>
  intro l x W K hK;have P:=af hK;clear hK;simp only[cw,b_,cn]
  gi_wp2
  exact P.o
 case body=>
  rintro aY pre x W ⟨c,f,g⟩ F;have A:=af c;have Z:=af f;have aM:=af g;have hle:=L7 b pre F;have j:=Gt b pre x;obtain⟨o,X⟩:=ay (iG x);have aF:W.cell? ⟨gb,o,none⟩=some (qI (Bc b o)):=by
   rw[bW _ _ _ _ _ _ f,X];exact(by simpa using OG b x)
  rw[←X]at j⊢;have T:=af (aL.o o);obtain⟨n,hn⟩:=ay (Bc b o);rw[←hn]at aF j T;have a:=fun W':World=>cg W' (lG b pre) (aG n) (by omega) (by have:=aP n;omega);rw[←j]at a;obtain⟨S,hS⟩:=ay (bB (lG b pre));obtain⟨S',t⟩:∃S,S=bB (lG b (pre++ [x])):=⟨_,rfl⟩;have Q:=af t;rw[←t]at a;rw[←hS]at a c A;have c0:W.cell? ⟨gs,0,none⟩=some (.string S):=(by rw[bW _ _ _ _ _ _ c];rfl);have f0:W.frozen? ⟨gs,0,none⟩=false:=bF _ _ _ _ _ c;have ls:gs<W.heap.size:=(bX.1 c).1;have lg:gb<W.heap.size:=(bX.1 f).1;have aI:=af (iz W.drew n T.o);have CE:=af (iz W n T.o);clear c f g hle j X hn hS t F
  gi_wp2
  gi_region_with ((refine⟨trivial,(CallsIn.inRound aY (tW.2 aI.o)).mono ?_⟩
                   rintro e z ⟨rfl,E⟩;have d5:=((((aA (S:=No) W).drew).alloc _).aK E);have d0:=d5.cB c0;have aT:=d5.size;have db:=af (d5.heap Z.o (fun h=>h));have ds:=af (d5.heap A.o (fun h=>h));have aS:z.frozen? ⟨gs,0,none⟩=false:=bF _ _ _ _ _ ds.o;have dk:=af d5;clear E d5))
  all_goals
   have I:ah (Own gs) W (z.setCell ⟨gs,0,none⟩ (.string S')):=dk.o.own.setCell (p:=⟨gs,0,none⟩) (fun _=>(rfl:gs=gs)) _;have M:aj (KeepsFrom w2.heap.size W (z.setCell ⟨gs,0,none⟩ (.string S'))∧BR W (z.setCell ⟨gs,0,none⟩ (.string S'))∧((z.setCell ⟨gs,0,none⟩ (.string S')).heap[gs]?=some (.cells #[.string (bB (lG b (pre++ [x])))] 9 (0,0))∧(z.setCell ⟨gs,0,none⟩ (.string S')).heap[gb]?=some (.cells (fe b).toArray 25 (0,0))∧ah (Own gs) w2 (z.setCell ⟨gs,0,none⟩ (.string S')))):=af
    ⟨Cb I A.o,BR.fu I A.o (by unfold L6;decide) (by decide),by rw[←Q.o];exact aB ds.o _,I.heap Z.o (fun e=>ai.o.2 e),aM.o.aK I⟩
   clear I a d0 aT aS aF c0 f0 ls lg
   gi_wp2
   exact⟨M.o.1,M.o.2.1,M.o.2.2⟩
 case done=>
  rintro q xs W aH H ⟨c,f,g⟩ s;have ak:aj (bB (lG b xs)=bB (cV b)):=af (by unfold lG;rw[H,OH]);have c0:W.cell? ⟨gs,0,none⟩=some (.string (bB (cV b))):=(by rw[bW _ _ _ _ _ _ c,ak.o];rfl);obtain⟨S,hS⟩:=ay (bB (cV b));rw[←hS]at c0;have A:=af hS;have aJ:=af s;have aR:aj (ah No w W):=af (aD.o.trans g (fun i hi e=>by have e:i=gs:=e;have:=ai.o.1;omega));have aO:aj (w.heap.size≤q):=af (aU aD.o.size aH);clear c f g H hS s aH ak;(go_wp2_with fail);have aX:ah (fun i=>i=q) W (W.putObj q (.deferred none)):=(aA W).grown (grownBy_putObj' W q _) (fun k e _=>by cases e;rfl);refine⟨by simp,.inl ⟨_,_,rfl,run_takeDeferred aJ.o,?_⟩⟩;refine⟨_,results_tmp rfl _ _ _,?_,aR.o.trans aX (fun i hi e=>by have e:i=q:=e;have:=aO.o;omega)⟩;rw[aQ.o];show Ending.returned (.string S)=_;rw[A.o];rfl
attribute [local go_sem] Oper.semAt_some
theorem lY (w:World)(x y:Obj):((w.alloc x).alloc y).heap[w.heap.size+1]?=some y:=by
 have e:(w.alloc x).heap.size=w.heap.size+1:=(by simp);rw[←e];exact bT _ _
def Gu (b:Bd)(o:Nat)(v:Int):Bd:=match o with
 |4=>⟨b.s,b.i,b.g,b.m,v,b.y,b.vx,b.vy,b.hp,b.pw,b.lf⟩
 |5=>⟨b.s,b.i,b.g,b.m,b.x,v,b.vx,b.vy,b.hp,b.pw,b.lf⟩
 |6=>⟨b.s,b.i,b.g,b.m,b.x,b.y,v,b.vy,b.hp,b.pw,b.lf⟩
 |7=>⟨b.s,b.i,b.g,b.m,b.x,b.y,b.vx,v,b.hp,b.pw,b.lf⟩
 |8=>⟨b.s,b.i,b.g,b.m,b.x,b.y,b.vx,b.vy,v,b.pw,b.lf⟩
 |9=>⟨b.s,b.i,b.g,b.m,b.x,b.y,b.vx,b.vy,b.hp,v,b.lf⟩
 |10=>⟨b.s,b.i,b.g,b.m,b.x,b.y,b.vx,b.vy,b.hp,b.pw,v⟩
 |_=>b
def jy (s:Bd×dx)(o:Nat):Bd×dx:=(Gu s.1 o (bR s.2).1,(bR s.2).2)
def tJ (m:Int)(r:dx)(l:List Nat):Bd×dx:=l.foldl jy (⟨0,0,0,m,0,0,0,0,0,0,0⟩,r)
theorem L9 (m:Int)(r:dx):tJ m r (mB m)=iy m r:=by
 unfold tJ iy mB nl;cases b:hasB m 1<;>cases c:hasB m 2<;>cases d:hasB m 4<;>cases e:hasB m 8<;>cases a:hasB m 16<;>simp[List.filter,b,c,d,e,a,jy,Gu,y4]
theorem Bf (b:Bd)(x:Fl)(v:Int):((fe b).toArray.setIfInBounds (iG x) (qI v))=(fe (Gu b (iG x) v)).toArray:=by
 match x with
 |0=>rfl
 |1=>rfl
 |2=>rfl
 |3=>rfl
 |4=>rfl
 |5=>rfl
 |6=>rfl
theorem OJ (b:Bd)(x:Fl)(v:Int):(Gu b (iG x) v).m=b.m:=by
 match x with
 |0=>rfl
 |1=>rfl
 |2=>rfl
 |3=>rfl
 |4=>rfl
 |5=>rfl
 |6=>rfl
def L_ (g h:Nat):Nat→Prop:=fun i=>i=g∨i=h
theorem BR.Us {g gb:Nat}{A B:World}{C D D':Array Value}{t:TypeId}{o o':Nat×Nat}(k:ah (L_ g gb) A B)(h:A.heap[g]?=some (.cells C t o))(c:¬L6 t)(d:t≠25)
 (hb:A.heap[gb]?=some (.cells D 25 o')) (a:B.heap[gb]?=some (.cells D' 25 o')) (hd:D'[3]?=D[3]?):BR A B:=
 ⟨k.os,k.tape,k.output,k.size,fun i D u f hi hu=>k.block i (bX.1 hi).1 (fun e=>by
   rcases e with e|e
   ·subst e;rw[h]at hi;cases hi;exact c hu
   ·subst e;rw[hb]at hi;cases hi
    revert hu
    unfold L6;decide),fun i E f hi=>by
   by_cases he:i=gb
   ·subst he;rw[hb]at hi;cases hi;refine⟨?_,D',a⟩;simp only[World.cell?,hb,a,hd]
   ·have b:¬L_ g gb i:=fun e=>by
     rcases e with e|e
     ·subst e;rw[h]at hi;cases hi;exact d rfl
     ·exact he e
    have e:=k.block i (bX.1 hi).1 b;exact⟨zx (w:=A) e,E,e.trans hi⟩⟩
theorem Cc {g gb D:Nat}{A B:World}{C C':Array Value}{t t':TypeId}{o o':Nat×Nat}(k:ah (L_ g gb) A B)(h:A.heap[g]?=some (.cells C t o))(hb:A.heap[gb]?=some (.cells C' t' o')):KeepsFrom D A B:=
 ⟨k.size,fun i ob _ a hc=>(k.block i (bX.1 a).1 (fun e=>by
   rcases e with e|e
   ·subst e;rw[h]at a;cases a;cases hc
   ·subst e;rw[hb]at a;cases a;cases hc)).trans a⟩
structure Ma (w2 W:World)(g gb gq gr:Nat)(s:Bd×dx):Prop where
 rd:bJ W g s.2
 bx:W.heap[gb]?=some (.cells (fe s.1).toArray 25 (0,0))
 q:W.heap[gq]?=some (.cells #[dP g] 103 (0,0))
 r:W.heap[gr]?=some (.cells (fe Bd.zero).toArray 25 (0,0))
 k:ah (L_ g gb) w2 W
theorem Ma.grown {w2 W W':World}{row:Option Nat}{g gb gq gr:Nat}{s:Bd×dx}(h:Ma w2 W g gb gq gr s)(a:W.grownBy W' row)(b:∀r,row=some r→w2.heap.size≤r∧∃o,W.heap[r]?=some o∧o.isCells=false):Ma w2 W' g gb gq gr s:=
 ⟨⟨lH h.rd.box a (fun r e=>(b r e).2),h.rd.few⟩,lH h.bx a (fun r e=>(b r e).2),lH h.q a (fun r e=>(b r e).2),lH h.r a (fun r e=>(b r e).2),
   h.k.trans ((aA (S:=fun i=>row=some i) W).grown a (fun k e _=>e)) (fun i hi e=>by have:=(b i e).1;omega)⟩
theorem Gv {w:World}{g:Nat}{r:dx}(h:bJ w g r)(hm:jo (bR r).1 0 31=true):Calls prog 129 #[dP g] w fun e w'=>e= .returned (mr (cR r).1)∧bJ w' g (cR r).2∧ah (Own g) w w':=by
 obtain⟨R,bu⟩:=ay (cR r);rw[←bu];have bI:aj (R=dU true (iy (bR r).1 (bR r).2).1 Bd.zero (iy (bR r).1 (bR r).2).2):=af (by
  rw[bu];unfold cR dU;rw[hm,Ba,mF])
 have aF:=h.lt;obtain⟨bC,bD⟩:=mO.1 hm;have H:=af h;obtain⟨a,bA⟩:=ay (bR r);rw[←bA]at bI bC bD;have ct:=af bA;clear bA bu h hm;refine(tW (n:=8)).1 ?_;refine callsIn_of_wp_marks func129 rfl trivial ?_ rfl;refine(pQ (n:=8)).2 ?_;simp only[ntmps129,Ov,iY,iP,Nat.reduceAdd,Nat.reduceSub,OA,OB,Ow,Ox,tD,nA];go_upto_region 1 with fail
 refine au ?_;intro Y f;have aO:aj (Y.heap[w.heap.size]?=some (.cells #[dP g] 103 (0,0))):=af (by rw[f];exact((aA (S:=No) _).alloc _).heap (bT w _) (fun h=>h));have bp:aj (Y.heap[w.heap.size+1]?=some (.cells (fe Bd.zero).toArray 25 (0,0))):=af (by rw[f];exact lY w _ _);have aN:aj (ah No w Y):=af (by rw[f];exact((aA w).alloc _).alloc _);have M:w.heap.size+1<Y.heap.size:=(by rw[f];simp);obtain⟨gq,aD⟩:=ay (w.heap.size);obtain⟨gr,aE⟩:=ay (w.heap.size+1);have aJ:¬gq=g:=(by omega);have A:¬gr=g:=(by omega);have O:aj (w.heap.size≤gq∧w.heap.size≤gr∧gq≠gr):=af ⟨by omega,by omega,by omega⟩;rw[←aE]at bp M⊢;rw[←aD]at aO⊢;have T:=af (H.o.kept aN.o (fun h=>h));have c0:Y.cell? ⟨gq,0,none⟩=some (dP g):=(by rw[bW _ _ _ _ _ _ aO.o];rfl);clear f aD aE H;go_wp2_with fail
 (with_reducible refine(fF T.o).mono ?_)
 rintro e w1 ⟨rfl,J,j⟩;rw[←ct.o]at J⊢;have F:=af J;have bn:=af j;have Q1:=af (j.heap aO.o aJ);have R1:=af (j.heap bp.o A);have bG:gr<w1.heap.size:=eU M j.size;clear J j c0 aO bp M T;go_upto_region 2 with fail
 refine au ?_;intro G I;have N:aj (G.heap[w1.heap.size]?=some (.cells (fe ⟨0,0,0,a.1,0,0,0,0,0,0,0⟩).toArray 25 (0,0))):=af (by rw[I];exact bT w1 _);have X:ah No w1 G:=(by rw[I];exact(aA w1).alloc _);have bM:=af (aN.o.own.aK (bn.o.mS X));have U:=af (F.o.kept X (fun h=>h));have Q3:=af (X.heap Q1.o (fun h=>h));have bP:=af (X.heap R1.o (fun h=>h));have bB:=F.o.lt;obtain⟨gb,aC⟩:=ay (w1.heap.size);have aG:gb≠gr∧gb≠g∧gb≠gq∧w.heap.size≤gb:=⟨by omega,by omega,by have:=O.o;have:=(bX.1 Q1.o).1;omega,by have:=aN.o.size;have:=bn.o.size;omega⟩;have aM:=af aG;rw[←aC]at N⊢;have c3:G.cell? ⟨gb,3,none⟩=some (qI a.1):=(by rw[bW _ _ _ _ _ _ N.o];rfl);have t1:¬a.1<0:=(by omega);have t2:¬(31:Int)<a.1:=(by omega);clear I X aC aG bB Q1 R1 bG F aN bn;go_wp2_with fail
 (with_reducible refine(yF _ _).mono ?_)
 rintro e w2 ⟨rfl,L⟩;have B:ah No G w2:=(by rw[L];exact(aA G).alloc _);have bk:aj (OD G.heap.size gb a.1 w2):=af ⟨by rw[L];exact bT _ _,B.cB c3,_,_,B.heap N.o (fun h=>h)⟩;have A2:aj (Ma w2 w2 g gb gq gr (⟨0,0,0,a.1,0,0,0,0,0,0,0⟩,a.2)):=af ⟨U.o.kept B (fun h=>h),B.heap N.o (fun h=>h),B.heap Q3.o (fun h=>h),B.heap bP.o (fun h=>h),aA _⟩;have bL:=af (bM.o.mS B);obtain⟨gB,av⟩:=ay (G.heap.size);rw[←av]at bk⊢;have aW:=af (tI w2 gB gb a.1 bk.o);clear L B c3 av N U Q3 bP bM bk;(go_wp2_with fail);refine(pQ (n:=8)).1 ?_;refine range_one (α:=Fl) (e1:=fun x=> .pointer (some ⟨gb,iG x,none⟩)) (Kp:=BR) (n:=8) rfl (by decide) rfl trivial (enters_of func254 (by kernel_rfl) rfl)
  aW.o (fun h k=>h.trans k) (fun W l o o' cM cC cD cE=>BR.put W l o o' cC cD cE)
  (fun pre W=>Ma w2 W g gb gq gr (tJ a.1 a.2 (pre.map iG))) ?own ?start 4 (fun x=> .pointer (some ⟨gb,iG x,none⟩)) ?assign ?body ?done
 case own=>
  intro pre W W' row h cF cH;exact h.grown cF cH
 case start=>exact A2.o
 case assign=>
  intro l x W K hK;have aX:=af hK;clear hK;simp only[cw,b_,cn]
  gi_wp2
  exact aX.o
 case body=>
  intro cI pre x W ak aF;have d:=af ak;have bg:aj (tJ a.1 a.2 ((pre++ [x]).map iG)=jy (tJ a.1 a.2 (pre.map iG)) (iG x)):=af (by simp[tJ]);obtain⟨s,hs⟩:=ay (tJ a.1 a.2 (pre.map iG));rw[←hs]at d bg;have aV:=af (Bf s.1 x (bR s.2).1);have D:=af (OJ s.1 x (bR s.2).1);have E:aj (jy s (iG x)=(Gu s.1 (iG x) (bR s.2).1,(bR s.2).2)):=af rfl;obtain⟨p,hp⟩:=ay (bR s.2);rw[←hp]at aV D E;have cK:=af hp;have Q:aj (iG x<11):=af (by have:=x.2;unfold iG;omega);obtain⟨o,bV⟩:=ay (iG x);rw[←bV]at aV D E bg Q⊢;have c0:W.cell? ⟨gq,0,none⟩=some (dP g):=(by rw[bW _ _ _ _ _ _ d.o.q];rfl);have CR:=af (fF d.o.rd);rw[←hp]at CR;clear ak hs hp bV aF
  gi_wp2
  refine⟨trivial,(CallsIn.inRound cI (tW.2 CR.o)).mono ?_⟩;rintro e c ⟨rfl,t,b⟩;have aY:=aM.o.1;have P:=aM.o.2.1;have aZ:=aM.o.2.2.1;have Z:=b.heap d.o.bx P;have cJ:=af Z;have cN:c.cell? ⟨gb,o,none⟩=some ((fe s.1).getD o undef):=by
   rw[bW _ _ _ _ _ _ Z,Ib,xQ,fw (show o<(fe s.1).length from Q.o)]
   rfl
  have f5:c.frozen? ⟨gb,o,none⟩=false:=bF _ _ _ _ _ Z;have bZ:ah (L_ g gb) W c:=b.mono (fun _ _ e=> .inl e);have z:ah (Own gb) c (c.setCell ⟨gb,o,none⟩ (qI p.1)):=(aA (S:=Own gb) c).setCell (p:=⟨gb,o,none⟩) (fun _=>(rfl:gb=gb)) _;have aP:ah (L_ g gb) W (c.setCell ⟨gb,o,none⟩ (qI p.1)):=bZ.setCell (p:=⟨gb,o,none⟩) (fun _=> .inr rfl) _;have bq:(c.setCell ⟨gb,o,none⟩ (qI p.1)).heap[gb]?=some (.cells (fe (Gu s.1 o p.1)).toArray 25 (0,0)):=by
   rw[←aV.o];exact aB Z _
  have aT:aj (KeepsFrom w2.heap.size W (c.setCell ⟨gb,o,none⟩ (qI p.1))∧BR W (c.setCell ⟨gb,o,none⟩ (qI p.1))∧Ma w2 (c.setCell ⟨gb,o,none⟩ (qI p.1)) g gb gq gr (tJ a.1 a.2 ((pre++ [x]).map iG))):=af
   ⟨Cc aP d.o.rd.box d.o.bx,BR.Us aP d.o.rd.box (by unfold L6;decide) (by decide) d.o.bx bq (by
     have h:=D.o;simp[fe,h]),
     by
      rw[bg.o,E.o];exact⟨t.kept z (fun e=>P e.symm),bq,z.heap (b.heap d.o.q aJ) (fun e=>aZ e.symm),z.heap (b.heap d.o.r A) (fun e=>aY e.symm),d.o.k.aK aP⟩⟩
  clear c0 t b Z bZ z aP bq
  gi_wp2
  exact⟨aT.o.1,aT.o.2.1,aT.o.2.2⟩
 case done=>
  intro q xs W bY aI ak C;have bK:aj (tJ a.1 a.2 (xs.map iG)=iy a.1 a.2):=af (by rw[aI,L9]);have d:=af ak;obtain⟨s,hs⟩:=ay (tJ a.1 a.2 (xs.map iG));rw[←hs]at d bK;have bf:aj (R=dU true s.1 Bd.zero s.2):=af (by rw[bI.o,bK.o]);have bH:=af C;have c0:W.cell? ⟨gq,0,none⟩=some (dP g):=(by rw[bW _ _ _ _ _ _ d.o.q];rfl);have cA:ai W gb 0 11=some (fe s.1):=by
   unfold ai;rw[d.o.bx];rfl
  have cs:=qJ d.o.rd s.1 true;rw[←bf.o]at cs;have cr:aj (Calls prog 198 #[dP g,.agg (fe s.1).toArray,qI 0] W fun e w'=>e= .returned (mr R.1)∧bJ w' g R.2∧ah (Own g) W w'):=af cs;clear ak hs aI C cs;(go_wp2_with fail);refine cr.o.mono ?_;rintro e c ⟨rfl,t,b⟩;have aR:=b.heap d.o.r A;have bQ:=af aR;have ob:Open c gr:=⟨_,_,aR⟩;have sb:(aL c gr).size=11:=(by unfold aL;rw[aR];rfl);have V:=af t;have aS:aj (c.heap[q]?=some (.deferred (some []))):=af (b.heap bH.o (fun e=>by
   have e:q=g:=e;have h:=d.o.rd.box;rw[←e,bH.o]at h;cases h))
  have cv:aj (ah (Own g) w c):=af ((bL.o.trans (d.o.k) (fun i hi e=>by
   rcases e with e|e
   ·exact e
   ·have:=aM.o.2.2.2;omega)).aK b)
  have cu:aj (w.heap.size≤q):=af (aU bL.o.size bY);clear c0 cA t b aR bY;(go_wp2_with fail);obtain⟨u,v⟩:=ay (c.setRow gr #[qI R.1.s,qI R.1.i,qI R.1.g,qI R.1.m,qI R.1.x,qI R.1.y,qI R.1.vx,qI R.1.vy,qI R.1.hp,qI R.1.pw,qI R.1.lf]);have z:ah (Own gr) c u:=(by rw[v];exact(aA (S:=Own gr) c).setRow (fun _=>(rfl:gr=gr)) _);have bS:u.heap[gr]?=some (.cells (fe R.1).toArray 25 (0,0)):=by
   rw[v];exact kX c gr _ _ _ _ bQ.o
  have aH:q≠gr:=fun e=>by
   have h:=bQ.o;rw[←e,aS.o]at h;cases h
  have bE:q≠g:=fun e=>by
   have h:=V.o.box;rw[←e,aS.o]at h;cases h
  have d6:=z.heap aS.o aH;have cg:=V.o.kept z (fun e=>A e.symm);have bN:ah (Own g) w u:=cv.o.trans z (fun i hi e=>by have e:i=gr:=e;have:=O.o.2.1;omega);have aQ:ah (fun i=>i=q) u (u.putObj q (.deferred none)):=(aA u).grown (grownBy_putObj' u q _) (fun k e _=>by cases e;rfl);have bU:ai (u.putObj q (.deferred none)) gr 0 11=some (fe R.1):=by
   unfold ai;rw[aQ.heap bS (fun e=>aH e.symm)];rfl
  have cq:=cg.kept aQ (fun e=>bE e.symm);have bO:ah (Own g) w (u.putObj q (.deferred none)):=bN.trans aQ (fun i hi e=>by have e:i=q:=e;have:=cu.o;omega);rw[←v];refine⟨by simp,.inl ⟨_,_,rfl,run_takeDeferred d6,?_⟩⟩;obtain⟨cL,aq⟩:=ay (u.putObj q (.deferred none));rw[←aq]at bU cq bO⊢;refine⟨mr R.1,?_,rfl,cq,bO⟩;clear aq aQ d6 cg bN z bS v ob sb;simp[results,results129,go_sem,bU]
theorem Gw {w:World}{g:Nat}{r:dx}(h:bJ w g r)(hm:jo (bR r).1 0 31=false):Calls prog 129 #[dP g] w fun e w'=>e= .returned (mr Bd.zero)∧bJ w' g none∧ah (Own g) w w':=by
 have Y:=h.lt;have H:=af h;obtain⟨a,K⟩:=ay (bR r);rw[←K]at hm;have T:aj (a.1<0∨31<a.1):=af (by
  by_cases h0:a.1<0
  ·exact .inl h0
  ·by_cases X:31<a.1
   ·exact .inr X
   ·have:=(mO (n:=a.1) (lo:=0) (hi:=31)).2 ⟨by omega,by omega⟩;rw[this]at hm;cases hm)
 have R:=af K;clear K h hm;(go_enter func129,ntmps129);go_upto_region 1 with fail
 refine au ?_;intro t b;have C:aj (t.heap[w.heap.size]?=some (.cells #[dP g] 103 (0,0))):=af (by rw[b];exact((aA (S:=No) _).alloc _).heap (bT w _) (fun h=>h));have I:aj (t.heap[w.heap.size+1]?=some (.cells (fe Bd.zero).toArray 25 (0,0))):=af (by rw[b];exact lY w _ _);have B:aj (ah No w t):=af (by rw[b];exact((aA w).alloc _).alloc _);have k:w.heap.size+1<t.heap.size:=(by rw[b];simp);obtain⟨gq,x⟩:=ay (w.heap.size);obtain⟨gr,y⟩:=ay (w.heap.size+1);have O:¬gq=g:=(by omega);have l:¬gr=g:=(by omega);have m:aj (w.heap.size≤gq∧w.heap.size≤gr∧gq≠gr):=af ⟨by omega,by omega,by omega⟩;rw[←y]at I k⊢;rw[←x]at C⊢;have p:=af (H.o.kept B.o (fun h=>h));have c0:t.cell? ⟨gq,0,none⟩=some (dP g):=(by rw[bW _ _ _ _ _ _ C.o];rfl);clear b x y H;go_wp2_with fail
 (with_reducible refine(fF p.o).mono ?_)
 rintro e w1 ⟨rfl,j,c⟩;rw[←R.o]at j⊢;have d:=af j;have G:=af c;have Q1:=af (c.heap C.o O);have R1:=af (c.heap I.o l);have N:gr<w1.heap.size:=eU k c.size;clear j c c0 C I k p;go_upto_region 2 with fail
 refine au ?_;intro D f;have P:aj (D.heap[w1.heap.size]?=some (.cells (fe ⟨0,0,0,a.1,0,0,0,0,0,0,0⟩).toArray 25 (0,0))):=af (by rw[f];exact bT w1 _);have s:ah No w1 D:=(by rw[f];exact(aA w1).alloc _);have U:=af (B.o.own.aK (G.o.mS s));have q:=af (d.o.kept s (fun h=>h));have Q3:=af (s.heap Q1.o (fun h=>h));have Q:=af (s.heap R1.o (fun h=>h));have M:=d.o.lt;obtain⟨gb,u⟩:=ay (w1.heap.size);have z:gb≠gr∧gb≠g∧gb≠gq∧w.heap.size≤gb:=⟨by omega,by omega,by have:=m.o;have:=(bX.1 Q1.o).1;omega,by have:=B.o.size;have:=G.o.size;omega⟩;have ak:=af z;rw[←u]at P⊢;have c3:D.cell? ⟨gb,3,none⟩=some (qI a.1):=(by rw[bW _ _ _ _ _ _ P.o];rfl);have W:=q;have CC:=af (mW q.o (-1));rw[lW]at CC;have Z:=Q.o;have c0:D.cell? ⟨gq,0,none⟩=some (dP g):=(by rw[bW _ _ _ _ _ _ Q3.o];rfl);clear f s u z M Q1 R1 N d B G;rcases T.o with t1|t1
 all_goals
  try(have t2:¬a.1<0:=by omega)
  (go_wp2_with fail);refine CC.o.mono ?_;rintro e F ⟨rfl,A,i⟩;have E:=i.heap Q.o l;have aq:=af E;have ob:Open F gr:=⟨_,_,E⟩;have sb:(aL F gr).size=11:=(by unfold aL;rw[E];rfl);have J:=af A;have V:=af (U.o.aK i);clear A i E Z c0 c3;go_wp2;have L:ai (F.setRow gr #[qI 0,qI 0,qI 0,qI 0,qI 0,qI 0,qI 0,qI 0,qI 0,qI 0,qI 0]) gr 0 11=some (fe Bd.zero):=(by rw[aH _ _ _ _ _ ob];rfl);refine aY (v:=mr Bd.zero) ?_ rfl ⟨rfl,J.o.kept ((aA (S:=Own gr) F).setRow (fun _=>(rfl:gr=gr)) _) (fun e=>l e.symm),V.o.setRow (fun h=>absurd h (bY.2 m.o.2.1)) _⟩;clear ob sb;simp[results,results129,go_sem,L]
theorem vQ {w:World}{g:Nat}{r:dx}(h:bJ w g r):Calls prog 129 #[dP g] w fun e w'=>e= .returned (mr (cR r).1)∧bJ w' g (cR r).2∧ah (Own g) w w':=by
 cases hm:jo (bR r).1 0 31 with
 |true=>exact Gv h hm
 |false=>
  have e:cR r=(Bd.zero,none):=(by unfold cR;rw[hm,iL];rfl);rw[e];exact Gw h hm
theorem c6 (a:cO):(aO a).length≤27:=by
 unfold aO;cases dF a
 ·simp
 ·have b:=aP a.s;have c:=aP a.i;have d:=aP a.g;simp only[cond_true,ic];omega
theorem di (h:Bool)(n:Int):(aC h n).length≤9:=by
 unfold aC;cases h
 ·simp
 ·exact aP n
theorem j_ (b:Bd):(cV b).length≤72:=by
 unfold cV;have h0:=aP b.m;have a:=di (hasB b.m 1) b.x;have c:=di (hasB b.m 1) b.y;have d:=di (hasB b.m 2) b.vx;have e:=di (hasB b.m 2) b.vy;have f:=di (hasB b.m 4) b.hp;have g:=di (hasB b.m 8) b.pw;have h:=di (hasB b.m 16) b.lf;simp only[ic];omega
theorem aS {f:FuncId}{args:Array Value}{L:Nm}{X:ByteArray}(a:X=bB L){W:World}(h:Calls prog f args W (qG W (ew L))):Calls prog f args W (qG W (.string X)):=by
 refine h.mono ?_;rintro e w' ⟨rfl,b⟩;exact⟨by rw[a];rfl,b⟩
theorem Mb (w:World)(b:Bd):Calls prog 116 #[mr b] w (qG w ((ew (ia b)))):=by
 obtain⟨R,i⟩:=ay (ew (ia b));rw[←i];have f:=af (fun W=>rQ W b);cases hb:kR b with
 |false=>
  have l:aj (R= .string (bB [])):=af (by rw[i];unfold ia;rw[hb];rfl);rw[hb]at f;simp only[fO,cond_false]at f;clear hb i;(go_enter func116,ntmps116);go_wp2_with fail
  (with_reducible refine(f.o _).mono ?_)
  rintro e w1 ⟨rfl,g⟩;have u:aj (ah No w w1):=af (((aA w).alloc _).aK g.keeps);clear g;go_wp2;go_ret;exact⟨by rw[l.o];rfl,u.o⟩
 |true=>
  obtain⟨r,y,z⟩:=AF hb;obtain⟨D,a⟩:=ay (bB (aO b.id));obtain⟨E,c⟩:=ay (bB (cV b));obtain⟨x,d⟩:=ay (bB (aO b.id++cV b));have l:aj (R= .string x):=af (by rw[i,d];unfold ia;rw[hb];rfl);have j:=fun W':World=>cg W' (aO b.id) (cV b) (by have:=c6 b.id;omega) (by have:=j_ b;omega);rw[←a, ←c, ←d]at j;have C1:=af (fun W=>aS a (nN W b.id));have s:=af (fun W=>aS c (yG W b r));rw[hb]at f;simp only[fO,cond_true]at f;have q:ai (w.alloc (.cells (fe b).toArray 25)) w.heap.size 0 11=some (fe b):=(by simp[go_sem]);have t:=af q;clear hb i a c d r y z q;(go_enter func116,ntmps116);go_wp2_with fail
  (with_reducible refine(f.o _).mono ?_)
  rintro e W ⟨rfl,g⟩;have v:aj (ah No w W):=af (((aA w).alloc _).aK g.keeps);have m:=g.keeps.ai t.o;have i0:ai W w.heap.size 0 3=some (bk b.id):=aE m 0 (bk b.id) rfl (by simp);have B:∀w',ah No W w'→ai w' w.heap.size 0 11=some (fe b):=fun w' k=>k.ai m;have C:∀w',ah No W w'→ai w' w.heap.size 0 3=some (bk b.id):=fun w' k=>k.ai i0;clear g m i0;go_upto_region 3 with fail
  go_region_held3 (fun w'=>ah No W w')
   (first|assumption|exact(aA W).drew)
   (first
     |(go_at_call 51
       have hc:=C1.o
       with_reducible refine(hc _).mono ?_
       clear hc;rintro e w1 ⟨rfl,p⟩;have A:ah No W w1:=ah.trans (by first|assumption|exact(aA W).drew) p (fun _ _ h=>h))
     |(go_at_call 117
       have hc:=s.o
       with_reducible refine(hc _).mono ?_
       clear hc;rintro e w2 ⟨rfl,p⟩;have n:ah No W w2:=ah.trans (by first|assumption|exact(aA W).drew) p (fun _ _ h=>h)))
  all_goals go_wp2
  all_goals go_ret
  all_goals exact⟨by rw[l.o];rfl,v.o.aK n⟩
theorem Jk {w:World}{g:Nat}{r:dx}(h:bJ w g r):Calls prog 128 #[dP g] w fun e w'=>e= .returned (mr (gX r).1)∧bJ w' g (gX r).2∧ah (Own g) w w':=by
 obtain⟨R,aE⟩:=ay (gX r);rw[←aE];obtain⟨a,aG⟩:=ay (aF r);obtain⟨b,hb⟩:=ay (cR a.2);obtain⟨x,aJ⟩:=ay (b.1.named a.1);have bp:aj (dU (kR x) x Bd.zero b.2=R):=af (by
  rw[aE,aJ,hb,aG];unfold gX dU;rfl)
 have bf:=af aG;have bg:=af hb;have Z:=af aJ;have CI:=af (fun W=>rQ W x);have bE:=h.lt;have H:=af h;clear aE aG hb aJ h;(go_enter func128,ntmps128);go_upto_region 1 with fail
 refine au ?_;intro aW t;have aU:aj (aW.heap[w.heap.size]?=some (.cells (fe Bd.zero).toArray 25 (0,0))):=af (by rw[t];exact bT w _);have T0:ah No w aW:=(by rw[t];exact(aA w).alloc _);have F:=af (H.o.kept T0 (fun h=>h));have aQ:=af T0;obtain⟨gr,N⟩:=ay (w.heap.size);have j:¬gr=g:=(by omega);have bn:aj (w.heap.size≤gr):=af (by omega);rw[←N]at aU⊢;clear t T0 N H;go_wp2_with fail
 (with_reducible refine(lX F.o).mono ?_)
 rintro e w1 ⟨rfl,B,A⟩;rw[←bf.o]at B⊢;have p:=af B;have aR:=af (aQ.o.own.aK A);have R1:=af (A.heap aU.o j);clear B A F;go_upto_region 2 with fail
 refine au ?_;intro aX u;have ak:aj (aX.heap[w1.heap.size]?=some (.cells (bk a.1).toArray 23 (0,0))):=af (by rw[u];exact bT w1 _);have U:ah No w1 aX:=(by rw[u];exact(aA w1).alloc _);have G:=af (p.o.kept U (fun h=>h));have aS:=af (aR.o.mS U);have aV:=af (U.heap R1.o (fun h=>h));obtain⟨gi,M⟩:=ay (w1.heap.size);have aO:¬gi=g:=(by have:=p.o.lt;omega);have bH:gi≠gr:=(by have:=(bX.1 R1.o).1;omega);rw[←M]at ak⊢;clear u U M p aR R1;go_wp2_with fail
 (with_reducible refine(vQ G.o).mono ?_)
 rintro e T ⟨rfl,C,l⟩;rw[←bg.o]at C⊢;have q:=af C;have av:=af (aS.o.aK l);have aB:=af (l.heap aV.o j);have aq:=af (l.heap ak.o aO);clear C l G aS aV ak;go_upto_region 3 with fail
 refine au ?_;intro n z;have B4:aj (n.heap[T.heap.size]?=some (.cells (fe b.1).toArray 25 (0,0))):=af (by rw[z];exact bT T _);have J:ah No T n:=(by rw[z];exact(aA T).alloc _);have I:=af (q.o.kept J (fun h=>h));have aT:=af (av.o.mS J);have aC:=af (J.heap aB.o (fun h=>h));have aP:=af (J.heap aq.o (fun h=>h));obtain⟨gb,L⟩:=ay (T.heap.size);have P:¬gb=g:=(by have:=q.o.lt;omega);have Q:gb≠gr:=(by have:=(bX.1 aB.o).1;omega);have bG:gb≠gi:=(by have:=(bX.1 aq.o).1;omega);have Y:aj (w.heap.size≤gb):=af (by have:=av.o.size;omega);rw[←L]at B4⊢;have ci:ai n gi 0 3=some (bk a.1):=(by unfold ai;rw[aP.o];rfl);have ob:Open n gb:=⟨_,_,B4.o⟩;have db:aL n gb=(fe b.1).toArray:=(by unfold aL;rw[B4.o]);have lb:=(bX.1 B4.o).1;clear z J L q av aB aq;go_upto_region 4 with fail
 refine au ?_;intro W hW;have f:W=n.setRow gb (fe x).toArray:=(by rw[hW,Z.o];rfl);have aD:ai W gb 0 11=some (fe x):=(by rw[f,aH _ _ _ _ _ ob];rfl);have or:Open W gr:=(by rw[f];exact(eM _ _ _ _).2 ⟨_,_,aC.o⟩);have sr:(aL W gr).size=11:=(by rw[f,mw _ _ _ _ (fun e=>Q e.symm)];unfold aL;rw[aC.o];rfl);have V:ah (Own gb) n W:=(by rw[f];exact(aA (S:=Own gb) n).setRow (fun _=>(rfl:gb=gb)) _);have bB:aj (bJ W g b.2):=af (I.o.kept V (fun e=>P e.symm));have bq:aj (ah (Own g) w W):=af (aT.o.trans V (fun i hi e=>by have e:i=gb:=e;have:=Y.o;omega));have bF:gb<W.heap.size:=eU lb V.size;clear hW f ci ob db lb V I aT aC aP B4 aQ;have K:ai W gb 0 11=some (fe x)∧Open W gr∧(aL W gr).size=11:=⟨aD,or,sr⟩
 go_region_held3 (fun w'=>ai w' gb 0 11=some (fe x)∧Open w' gr∧(aL w' gr).size=11)
  (first|exact K|exact c|exact d|exact⟨(cC _ _ _ _ _ _ Q).trans d.1,(eM _ _ _ _).2 d.2.1,by rw[dO _ _ _ d.2.1];rfl⟩)
  (first
    |(go_at_call 142
      have hc:=CI.o
      with_reducible refine(hc _).mono ?_
      clear hc;rintro e X ⟨rfl,E⟩;have c:ai X gb 0 11=some (fe x)∧Open X gr∧(aL X gr).size=11:=⟨E.keeps.ai aD,E.keeps.opened or,E.keeps.iu or sr⟩;have bC:=af ((bB.o.kept (aA (S:=No) W).drew (fun h=>h)).kept E.keeps (fun h=>h));have bu:=af (bq.o.drew.mS E.keeps);have aM:gb<X.heap.size:=eU bF E.keeps.size)
    |(go_at_call 198
      refine(qJ bC.o x (kR x)).mono ?_;rintro e D ⟨rfl,O,k⟩;rw[bp.o]at O⊢;have d:ai D gb 0 11=some (fe x)∧Open D gr∧(aL D gr).size=11:=⟨k.nM c.1 aM P,k.lP c.2.1 j,k.gY c.2.1 c.2.2 j⟩;have bD:=af O;have bA:=af (bu.o.aK k)))
 all_goals go_wp2_with fail
 all_goals
  have aN:¬g=gr:=fun e=>j e.symm;have aI:ai (D.setRow gr #[qI R.1.s,qI R.1.i,qI R.1.g,qI R.1.m,qI R.1.x,qI R.1.y,qI R.1.vx,qI R.1.vy,qI R.1.hp,qI R.1.pw,qI R.1.lf]) gr 0 11=some (fe R.1):=(by rw[aH _ _ _ _ _ d.2.1];rfl);have aZ:aj (bJ (D.setRow gr #[qI R.1.s,qI R.1.i,qI R.1.g,qI R.1.m,qI R.1.x,qI R.1.y,qI R.1.vx,qI R.1.vy,qI R.1.hp,qI R.1.pw,qI R.1.lf]) g R.2∧ah (Own g) w (D.setRow gr #[qI R.1.s,qI R.1.i,qI R.1.g,qI R.1.m,qI R.1.x,qI R.1.y,qI R.1.vx,qI R.1.vy,qI R.1.hp,qI R.1.pw,qI R.1.lf])):=af ⟨bD.o.kept ((aA (S:=Own gr) D).setRow (fun _=>(rfl:gr=gr)) _) aN,bA.o.setRow (fun h=>absurd h (bY.2 bn.o)) _⟩;refine aY (v:=mr R.1) ?_ rfl ⟨rfl,aZ.o.1,aZ.o.2⟩;clear K c d or sr aD;simp[results,results128,go_sem,aI]
structure kL (w W:World)(g gb gr:Nat)(y:Cm)(st:dx):Prop where
 rd:bJ W g st
 bx:W.heap[gb]?=some (.cells (ct y).toArray 27 (0,0))
 r:W.heap[gr]?=some (.cells (ct Cm.zero).toArray 27 (0,0))
 k:ah (Own g) w W
section
variable {w W W':World}{g gb gr:Nat}{y y':Cm}{st st':dx}
theorem kL.call (h:kL w W g gb gr y st)(k:ah (Own g) W W')(a:bJ W' g st')(nb:¬gb=g)(nr:¬gr=g):kL w W' g gb gr y st':=
 ⟨a,k.heap h.bx nb,k.heap h.r nr,h.k.aK k⟩
theorem kL.put (h:kL w W g gb gr y st)(k:ah (Own gb) W W')(hb:W'.heap[gb]?=some (.cells (ct y').toArray 27 (0,0)))(nb:¬gb=g)(nr:gb≠gr)(hw:w.heap.size≤gb):kL w W' g gb gr y' st:=
 ⟨h.rd.kept k (fun e=>nb e.symm),hb,k.heap h.r (fun e=>nr e.symm),h.k.trans k (fun i hi e=>by have e:i=gb:=e;omega)⟩
theorem kL.row (h:kL w W g gb gr y st)(nb:¬gb=g)(nr:gb≠gr)(hw:w.heap.size≤gb)(y':Cm):kL w (W.setRow gb (ct y').toArray) g gb gr y' st:=
 h.put ((aA (S:=Own gb) W).setRow (fun _=>(rfl:gb=gb)) _) (kX W gb _ _ _ _ h.bx) nb nr hw
theorem kL.opened (h:kL w W g gb gr y st):Open W gb:=⟨_,_,h.bx⟩
theorem kL.C5 (h:kL w W g gb gr y st):aL W gb=(ct y).toArray:=by unfold aL;rw[h.bx]
theorem kL.lt (h:kL w W g gb gr y st):gb<W.heap.size:=(bX.1 h.bx).1
theorem kL.cell (h:kL w W g gb gr y st)(j:Nat):W.cell? ⟨gb,j,none⟩=(ct y)[j]?:=by rw[bW _ _ _ _ _ _ h.bx];simp
end
theorem El {w:World}{g:Nat}{r:dx}(h:bJ w g r)(f:¬(bR r).1=1∧¬(bR r).1=2∧¬(bR r).1=3∧¬(bR r).1=4):Calls prog 58 #[dP g] w fun e w'=>e= .returned (gH (c8 r).1)∧bJ w' g (c8 r).2∧ah (Own g) w w':=by
 obtain⟨R,V⟩:=ay (c8 r);rw[←V];have K:aj (dU (bD (dY (bR r).1 (bR r).2).1) (dY (bR r).1 (bR r).2).1 Cm.zero (dY (bR r).1 (bR r).2).2=R):=af (by
  rw[V];unfold c8 dU;rfl)
 obtain⟨a,X⟩:=ay (bR r);rw[←X]at K f;have aD:dY a.1 a.2=(⟨a.1,0,0,0,Bd.zero,0⟩,a.2):=(by unfold dY;rw[eD.2 f.1,eD.2 f.2.1,eD.2 f.2.2.1,eD.2 f.2.2.2];rfl);rw[aD]at K;obtain⟨x,Z⟩:=ay (⟨a.1,0,0,0,Bd.zero,0⟩:Cm);obtain⟨J,A⟩:=ay (a.2);have aM:aj (dU (bD x) x Cm.zero J=R):=af (by rw[Z,A];exact K.o);have O:=af Z;have N:=af A;clear aD K Z A;have aC:=af X;have CI:=af (fun W=>dh W x);have aT:=h.lt;have H:=af h;have b1:(a.1==1)=false:=(by simpa using f.1);have aV:(a.1==2)=false:=(by simpa using f.2.1);have aW:(a.1==3)=false:=(by simpa using f.2.2.1);have aX:(a.1==4)=false:=(by simpa using f.2.2.2);clear V X h f;(go_enter func58,ntmps58);go_upto_region 1 with fail
 refine au ?_;intro aF q;have Q:aj (aF.heap[w.heap.size]?=some (.cells (ct Cm.zero).toArray 27 (0,0))):=af (by rw[q];exact bT w _);have T0:ah No w aF:=(by rw[q];exact(aA w).alloc _);have D:=af (H.o.kept T0 (fun h=>h));have aE:=af T0;obtain⟨gr,G⟩:=ay (w.heap.size);have l:¬gr=g:=(by omega);have aI:aj (w.heap.size≤gr):=af (by omega);rw[←G]at Q⊢;clear q T0 G H;go_wp2_with fail
 (with_reducible refine(fF D.o).mono ?_)
 rintro e w1 ⟨rfl,z,u⟩;rw[←aC.o]at z⊢;have n:=af z;have P:=af (aE.o.own.aK u);have R1:=af (u.heap Q.o l);clear z u D Q;go_upto_region 2 with fail
 refine au ?_;intro T t;have L:ah No w1 T:=(by rw[t];exact(aA w1).alloc _);have A2:aj (kL w T g w1.heap.size gr ⟨a.1,0,0,0,Bd.zero,0⟩ a.2):=af ⟨n.o.kept L (fun h=>h),by rw[t];exact bT w1 _,L.heap R1.o (fun h=>h),P.o.mS L⟩;obtain⟨gb,F⟩:=ay (w1.heap.size);have aq:¬gb=g:=(by have:=n.o.lt;omega);have av:gb≠gr:=(by have:=(bX.1 R1.o).1;omega);have aJ:aj (w.heap.size≤gb):=af (by have:=P.o.size;omega);rw[←F]at A2⊢;have c0:T.cell? ⟨gb,0,none⟩=some (qI a.1):=A2.o.cell 0;clear t L F n P R1 aE aC;go_upto_region 13 with fail
 refine au ?_;intro W hW;have p:aj (kL w W g gb gr x J):=af (by rw[hW,O.o,N.o];exact A2.o);have U:ai W gb 0 16=some (ct x):=(by unfold ai;rw[p.o.bx];rfl);have or:Open W gr:=⟨_,_,p.o.r⟩;have sr:(aL W gr).size=16:=(by unfold aL;rw[p.o.r];rfl);have aQ:=af p.o.rd;have aN:=af p.o.k;have aU:=p.o.lt;clear hW p c0;have E:ai W gb 0 16=some (ct x)∧Open W gr∧(aL W gr).size=16:=⟨U,or,sr⟩
 go_region_held3 (fun w'=>ai w' gb 0 16=some (ct x)∧Open w' gr∧(aL w' gr).size=16)
  (first|exact E|exact c|exact d|exact⟨(cC _ _ _ _ _ _ av).trans d.1,(eM _ _ _ _).2 d.2.1,by rw[dO _ _ _ d.2.1];rfl⟩)
  (first
    |(go_at_call 66
      have hc:=CI.o
      with_reducible refine(hc _).mono ?_
      clear hc;rintro e M ⟨rfl,C⟩;have c:ai M gb 0 16=some (ct x)∧Open M gr∧(aL M gr).size=16:=⟨C.keeps.ai U,C.keeps.opened or,C.keeps.iu or sr⟩;have aR:=af ((aQ.o.kept (aA (S:=No) W).drew (fun h=>h)).kept C.keeps (fun h=>h));have aO:=af (aN.o.drew.mS C.keeps);have ak:gb<M.heap.size:=eU aU C.keeps.size)
    |(go_at_call 130
      refine(kK aR.o x (bD x)).mono ?_;rintro e B ⟨rfl,I,j⟩;rw[aM.o]at I⊢;have d:ai B gb 0 16=some (ct x)∧Open B gr∧(aL B gr).size=16:=⟨j.nM c.1 ak aq,j.lP c.2.1 l,j.gY c.2.1 c.2.2 l⟩;have aS:=af I;have aP:=af (aO.o.aK j)))
 all_goals go_wp2_with fail
 all_goals
  have aB:¬g=gr:=fun e=>l e.symm;have Y:ai (B.setRow gr #[qI R.1.k,qI R.1.s,qI R.1.i,qI R.1.g,qI R.1.b.s,qI R.1.b.i,qI R.1.b.g,qI R.1.b.m,qI R.1.b.x,qI R.1.b.y,qI R.1.b.vx,qI R.1.b.vy,qI R.1.b.hp,qI R.1.b.pw,qI R.1.b.lf,qI R.1.m]) gr 0 16=some (ct R.1):=(by rw[aH _ _ _ _ _ d.2.1];rfl);have aG:aj (bJ (B.setRow gr #[qI R.1.k,qI R.1.s,qI R.1.i,qI R.1.g,qI R.1.b.s,qI R.1.b.i,qI R.1.b.g,qI R.1.b.m,qI R.1.b.x,qI R.1.b.y,qI R.1.b.vx,qI R.1.b.vy,qI R.1.b.hp,qI R.1.b.pw,qI R.1.b.lf,qI R.1.m]) g R.2∧ah (Own g) w (B.setRow gr #[qI R.1.k,qI R.1.s,qI R.1.i,qI R.1.g,qI R.1.b.s,qI R.1.b.i,qI R.1.b.g,qI R.1.b.m,qI R.1.b.x,qI R.1.b.y,qI R.1.b.vx,qI R.1.b.vy,qI R.1.b.hp,qI R.1.b.pw,qI R.1.b.lf,qI R.1.m])):=af ⟨aS.o.kept ((aA (S:=Own gr) B).setRow (fun _=>(rfl:gr=gr)) _) aB,aP.o.setRow (fun h=>absurd h (bY.2 aI.o)) _⟩;refine aY (v:=gH R.1) ?_ rfl ⟨rfl,aG.o.1,aG.o.2⟩;clear E c d or sr U;simp[results,results58,go_sem,Y]
theorem Mc {w:World}{g:Nat}{r:dx}(h:bJ w g r)(u:(bR r).1=1):Calls prog 58 #[dP g] w fun e w'=>e= .returned (gH (c8 r).1)∧bJ w' g (c8 r).2∧ah (Own g) w w':=by
 obtain⟨R,aC⟩:=ay (c8 r);rw[←aC];have G:aj (dU (bD (dY (bR r).1 (bR r).2).1) (dY (bR r).1 (bR r).2).1 Cm.zero (dY (bR r).1 (bR r).2).2=R):=af (by
  rw[aC];unfold c8 dU;rfl)
 obtain⟨a,aD⟩:=ay (bR r);rw[←aD]at G u;have aP:dY a.1 a.2=(⟨a.1,0,0,0,(gX a.2).1,0⟩,(gX a.2).2):=(by unfold dY;rw[u];rfl);rw[aP]at G;obtain⟨q,aF⟩:=ay (gX a.2);rw[←aF]at G;have aU:=af aF;obtain⟨x,aG⟩:=ay (⟨a.1,0,0,0,q.1,0⟩:Cm);obtain⟨P,C⟩:=ay (q.2);have aV:aj (dU (bD x) x Cm.zero P=R):=af (by rw[aG,C];exact G.o);have Y:=af aG;have X:=af C;clear aP G aG C aF;have aO:=af aD;have CI:=af (fun W=>dh W x);have bn:=h.lt;have H:=af h;have b1:(a.1==1)=true:=(by rw[u];rfl);have bq:(a.1==2)=false:=(by rw[u];rfl);have bu:(a.1==3)=false:=(by rw[u];rfl);have bA:(a.1==4)=false:=(by rw[u];rfl);clear aC aD h u;(go_enter func58,ntmps58);go_upto_region 1 with fail
 refine au ?_;intro aR p;have ak:aj (aR.heap[w.heap.size]?=some (.cells (ct Cm.zero).toArray 27 (0,0))):=af (by rw[p];exact bT w _);have T0:ah No w aR:=(by rw[p];exact(aA w).alloc _);have I:=af (H.o.kept T0 (fun h=>h));have aQ:=af T0;obtain⟨gr,L⟩:=ay (w.heap.size);have f:¬gr=g:=(by omega);have aT:aj (w.heap.size≤gr):=af (by omega);rw[←L]at ak⊢;clear p T0 L H;go_wp2_with fail
 (with_reducible refine(fF I.o).mono ?_)
 rintro e w1 ⟨rfl,A,z⟩;rw[←aO.o]at A⊢;have l:=af A;have Z:=af (aQ.o.own.aK z);have R1:=af (z.heap ak.o f);clear A z I ak;go_upto_region 2 with fail
 refine au ?_;intro aq t;have U:ah No w1 aq:=(by rw[t];exact(aA w1).alloc _);have A2:aj (kL w aq g w1.heap.size gr ⟨a.1,0,0,0,Bd.zero,0⟩ a.2):=af ⟨l.o.kept U (fun h=>h),by rw[t];exact bT w1 _,U.heap R1.o (fun h=>h),Z.o.mS U⟩;obtain⟨gb,K⟩:=ay (w1.heap.size);have D:¬gb=g:=(by have:=l.o.lt;omega);have O:gb≠gr:=(by have:=(bX.1 R1.o).1;omega);have V:aj (w.heap.size≤gb):=af (by have:=Z.o.size;omega);rw[←K]at A2⊢;have c0:aq.cell? ⟨gb,0,none⟩=some (qI a.1):=A2.o.cell 0;clear t U K l Z R1 aQ aO;go_wp2_with fail
 (with_reducible refine(Jk A2.o.rd).mono ?_)
 rintro e Q ⟨rfl,B,M⟩;rw[←aU.o]at B⊢;have T:=af (A2.o.call M B D f);have aN:=T.o.opened;have aB:=T.o.C5;have aI:=T.o.lt;clear B M;go_upto_region 13 with fail
 refine au ?_;intro W hW;have n:aj (kL w W g gb gr x P):=af (by rw[hW,Y.o,X.o];exact T.o.row D O V.o ⟨a.1,0,0,0,q.1,0⟩);have av:ai W gb 0 16=some (ct x):=(by unfold ai;rw[n.o.bx];rfl);have or:Open W gr:=⟨_,_,n.o.r⟩;have sr:(aL W gr).size=16:=(by unfold aL;rw[n.o.r];rfl);have bf:=af n.o.rd;have aW:=af n.o.k;have bp:=n.o.lt;clear hW n c0 aN aB aI;have J:ai W gb 0 16=some (ct x)∧Open W gr∧(aL W gr).size=16:=⟨av,or,sr⟩
 go_region_held3 (fun w'=>ai w' gb 0 16=some (ct x)∧Open w' gr∧(aL w' gr).size=16)
  (first|exact J|exact c|exact d|exact⟨(cC _ _ _ _ _ _ O).trans d.1,(eM _ _ _ _).2 d.2.1,by rw[dO _ _ _ d.2.1];rfl⟩)
  (first
    |(go_at_call 66
      have hc:=CI.o
      with_reducible refine(hc _).mono ?_
      clear hc;rintro e Q ⟨rfl,F⟩;have c:ai Q gb 0 16=some (ct x)∧Open Q gr∧(aL Q gr).size=16:=⟨F.keeps.ai av,F.keeps.opened or,F.keeps.iu or sr⟩;have bg:=af ((bf.o.kept (aA (S:=No) W).drew (fun h=>h)).kept F.keeps (fun h=>h));have aX:=af (aW.o.drew.mS F.keeps);have aJ:gb<Q.heap.size:=eU bp F.keeps.size)
    |(go_at_call 130
      refine(kK bg.o x (bD x)).mono ?_;rintro e E ⟨rfl,N,j⟩;rw[aV.o]at N⊢;have d:ai E gb 0 16=some (ct x)∧Open E gr∧(aL E gr).size=16:=⟨j.nM c.1 aJ D,j.lP c.2.1 f,j.gY c.2.1 c.2.2 f⟩;have bk:=af N;have aZ:=af (aX.o.aK j)))
 all_goals go_wp2_with fail
 all_goals
  have aM:¬g=gr:=fun e=>f e.symm;have aE:ai (E.setRow gr #[qI R.1.k,qI R.1.s,qI R.1.i,qI R.1.g,qI R.1.b.s,qI R.1.b.i,qI R.1.b.g,qI R.1.b.m,qI R.1.b.x,qI R.1.b.y,qI R.1.b.vx,qI R.1.b.vy,qI R.1.b.hp,qI R.1.b.pw,qI R.1.b.lf,qI R.1.m]) gr 0 16=some (ct R.1):=(by rw[aH _ _ _ _ _ d.2.1];rfl);have aS:aj (bJ (E.setRow gr #[qI R.1.k,qI R.1.s,qI R.1.i,qI R.1.g,qI R.1.b.s,qI R.1.b.i,qI R.1.b.g,qI R.1.b.m,qI R.1.b.x,qI R.1.b.y,qI R.1.b.vx,qI R.1.b.vy,qI R.1.b.hp,qI R.1.b.pw,qI R.1.b.lf,qI R.1.m]) g R.2∧ah (Own g) w (E.setRow gr #[qI R.1.k,qI R.1.s,qI R.1.i,qI R.1.g,qI R.1.b.s,qI R.1.b.i,qI R.1.b.g,qI R.1.b.m,qI R.1.b.x,qI R.1.b.y,qI R.1.b.vx,qI R.1.b.vy,qI R.1.b.hp,qI R.1.b.pw,qI R.1.b.lf,qI R.1.m])):=af ⟨bk.o.kept ((aA (S:=Own gr) E).setRow (fun _=>(rfl:gr=gr)) _) aM,aZ.o.setRow (fun h=>absurd h (bY.2 aT.o)) _⟩;refine aY (v:=gH R.1) ?_ rfl ⟨rfl,aS.o.1,aS.o.2⟩;clear J c d or sr av;simp[results,results58,go_sem,aE]
theorem Md {w:World}{g:Nat}{r:dx}(h:bJ w g r)(u:(bR r).1=2):Calls prog 58 #[dP g] w fun e w'=>e= .returned (gH (c8 r).1)∧bJ w' g (c8 r).2∧ah (Own g) w w':=by
 obtain⟨R,aC⟩:=ay (c8 r);rw[←aC];have G:aj (dU (bD (dY (bR r).1 (bR r).2).1) (dY (bR r).1 (bR r).2).1 Cm.zero (dY (bR r).1 (bR r).2).2=R):=af (by
  rw[aC];unfold c8 dU;rfl)
 obtain⟨a,aD⟩:=ay (bR r);rw[←aD]at G u;have aP:dY a.1 a.2=(⟨a.1,(aF a.2).1.s,(aF a.2).1.i,(aF a.2).1.g,Bd.zero,0⟩,(aF a.2).2):=(by unfold dY;rw[u];rfl);rw[aP]at G;obtain⟨p,hp⟩:=ay (aF a.2);rw[←hp]at G;have aU:=af hp;obtain⟨x,aG⟩:=ay (⟨a.1,p.1.s,p.1.i,p.1.g,Bd.zero,0⟩:Cm);obtain⟨P,C⟩:=ay (p.2);have aV:aj (dU (bD x) x Cm.zero P=R):=af (by rw[aG,C];exact G.o);have Y:=af aG;have X:=af C;clear aP G aG C hp;have aO:=af aD;have CI:=af (fun W=>dh W x);have bn:=h.lt;have H:=af h;have b1:(a.1==1)=false:=(by rw[u];rfl);have bq:(a.1==2)=true:=(by rw[u];rfl);have bu:(a.1==3)=false:=(by rw[u];rfl);have bA:(a.1==4)=false:=(by rw[u];rfl);clear aC aD h u;(go_enter func58,ntmps58);go_upto_region 1 with fail
 refine au ?_;intro aR q;have ak:aj (aR.heap[w.heap.size]?=some (.cells (ct Cm.zero).toArray 27 (0,0))):=af (by rw[q];exact bT w _);have T0:ah No w aR:=(by rw[q];exact(aA w).alloc _);have I:=af (H.o.kept T0 (fun h=>h));have aQ:=af T0;obtain⟨gr,L⟩:=ay (w.heap.size);have f:¬gr=g:=(by omega);have aT:aj (w.heap.size≤gr):=af (by omega);rw[←L]at ak⊢;clear q T0 L H;go_wp2_with fail
 (with_reducible refine(fF I.o).mono ?_)
 rintro e w1 ⟨rfl,A,z⟩;rw[←aO.o]at A⊢;have l:=af A;have Z:=af (aQ.o.own.aK z);have R1:=af (z.heap ak.o f);clear A z I ak;go_upto_region 2 with fail
 refine au ?_;intro aq t;have U:ah No w1 aq:=(by rw[t];exact(aA w1).alloc _);have A2:aj (kL w aq g w1.heap.size gr ⟨a.1,0,0,0,Bd.zero,0⟩ a.2):=af ⟨l.o.kept U (fun h=>h),by rw[t];exact bT w1 _,U.heap R1.o (fun h=>h),Z.o.mS U⟩;obtain⟨gb,K⟩:=ay (w1.heap.size);have D:¬gb=g:=(by have:=l.o.lt;omega);have O:gb≠gr:=(by have:=(bX.1 R1.o).1;omega);have V:aj (w.heap.size≤gb):=af (by have:=Z.o.size;omega);rw[←K]at A2⊢;have c0:aq.cell? ⟨gb,0,none⟩=some (qI a.1):=A2.o.cell 0;clear t U K l Z R1 aQ aO;go_wp2_with fail
 (with_reducible refine(lX A2.o.rd).mono ?_)
 rintro e Q ⟨rfl,B,M⟩;rw[←aU.o]at B⊢;have T:=af (A2.o.call M B D f);have aN:=T.o.opened;have aB:=T.o.C5;have aI:=T.o.lt;clear B M;go_upto_region 13 with fail
 refine au ?_;intro W hW;have n:aj (kL w W g gb gr x P):=af (by rw[hW,Y.o,X.o];exact T.o.row D O V.o ⟨a.1,p.1.s,p.1.i,p.1.g,Bd.zero,0⟩);have av:ai W gb 0 16=some (ct x):=(by unfold ai;rw[n.o.bx];rfl);have or:Open W gr:=⟨_,_,n.o.r⟩;have sr:(aL W gr).size=16:=(by unfold aL;rw[n.o.r];rfl);have bf:=af n.o.rd;have aW:=af n.o.k;have bp:=n.o.lt;clear hW n c0 aN aB aI;have J:ai W gb 0 16=some (ct x)∧Open W gr∧(aL W gr).size=16:=⟨av,or,sr⟩
 go_region_held3 (fun w'=>ai w' gb 0 16=some (ct x)∧Open w' gr∧(aL w' gr).size=16)
  (first|exact J|exact c|exact d|exact⟨(cC _ _ _ _ _ _ O).trans d.1,(eM _ _ _ _).2 d.2.1,by rw[dO _ _ _ d.2.1];rfl⟩)
  (first
    |(go_at_call 66
      have hc:=CI.o
      with_reducible refine(hc _).mono ?_
      clear hc;rintro e Q ⟨rfl,F⟩;have c:ai Q gb 0 16=some (ct x)∧Open Q gr∧(aL Q gr).size=16:=⟨F.keeps.ai av,F.keeps.opened or,F.keeps.iu or sr⟩;have bg:=af ((bf.o.kept (aA (S:=No) W).drew (fun h=>h)).kept F.keeps (fun h=>h));have aX:=af (aW.o.drew.mS F.keeps);have aJ:gb<Q.heap.size:=eU bp F.keeps.size)
    |(go_at_call 130
      refine(kK bg.o x (bD x)).mono ?_;rintro e E ⟨rfl,N,j⟩;rw[aV.o]at N⊢;have d:ai E gb 0 16=some (ct x)∧Open E gr∧(aL E gr).size=16:=⟨j.nM c.1 aJ D,j.lP c.2.1 f,j.gY c.2.1 c.2.2 f⟩;have bk:=af N;have aZ:=af (aX.o.aK j)))
 all_goals go_wp2_with fail
 all_goals
  have aM:¬g=gr:=fun e=>f e.symm;have aE:ai (E.setRow gr #[qI R.1.k,qI R.1.s,qI R.1.i,qI R.1.g,qI R.1.b.s,qI R.1.b.i,qI R.1.b.g,qI R.1.b.m,qI R.1.b.x,qI R.1.b.y,qI R.1.b.vx,qI R.1.b.vy,qI R.1.b.hp,qI R.1.b.pw,qI R.1.b.lf,qI R.1.m]) gr 0 16=some (ct R.1):=(by rw[aH _ _ _ _ _ d.2.1];rfl);have aS:aj (bJ (E.setRow gr #[qI R.1.k,qI R.1.s,qI R.1.i,qI R.1.g,qI R.1.b.s,qI R.1.b.i,qI R.1.b.g,qI R.1.b.m,qI R.1.b.x,qI R.1.b.y,qI R.1.b.vx,qI R.1.b.vy,qI R.1.b.hp,qI R.1.b.pw,qI R.1.b.lf,qI R.1.m]) g R.2∧ah (Own g) w (E.setRow gr #[qI R.1.k,qI R.1.s,qI R.1.i,qI R.1.g,qI R.1.b.s,qI R.1.b.i,qI R.1.b.g,qI R.1.b.m,qI R.1.b.x,qI R.1.b.y,qI R.1.b.vx,qI R.1.b.vy,qI R.1.b.hp,qI R.1.b.pw,qI R.1.b.lf,qI R.1.m])):=af ⟨bk.o.kept ((aA (S:=Own gr) E).setRow (fun _=>(rfl:gr=gr)) _) aM,aZ.o.setRow (fun h=>absurd h (bY.2 aT.o)) _⟩;refine aY (v:=gH R.1) ?_ rfl ⟨rfl,aS.o.1,aS.o.2⟩;clear J c d or sr av;simp[results,results58,go_sem,aE]
theorem Me {w:World}{g:Nat}{r:dx}(h:bJ w g r)(A:(bR r).1=3):Calls prog 58 #[dP g] w fun e w'=>e= .returned (gH (c8 r).1)∧bJ w' g (c8 r).2∧ah (Own g) w w':=by
 obtain⟨R,aJ⟩:=ay (c8 r);rw[←aJ];have J:aj (dU (bD (dY (bR r).1 (bR r).2).1) (dY (bR r).1 (bR r).2).1 Cm.zero (dY (bR r).1 (bR r).2).2=R):=af (by
  rw[aJ];unfold c8 dU;rfl)
 obtain⟨a,aM⟩:=ay (bR r);rw[←aM]at J A;have aX:dY a.1 a.2=(⟨a.1,(aF a.2).1.s,(aF a.2).1.i,(aF a.2).1.g,(cR (aF a.2).2).1,0⟩,(cR (aF a.2).2).2):=(by unfold dY;rw[A];rfl);rw[aX]at J;obtain⟨p,hp⟩:=ay (aF a.2);rw[←hp]at J;have bn:=af hp;obtain⟨q,aO⟩:=ay (cR p.2);rw[←aO]at J;have bp:=af aO;obtain⟨x,aP⟩:=ay (⟨a.1,p.1.s,p.1.i,p.1.g,q.1,0⟩:Cm);obtain⟨Y,F⟩:=ay (q.2);have bq:aj (dU (bD x) x Cm.zero Y=R):=af (by rw[aP,F];exact J.o);have av:=af aP;have aq:=af F;clear aX J aP F hp aO;have aW:=af aM;have CI:=af (fun W=>dh W x);have bH:=h.lt;have H:=af h;have b1:(a.1==1)=false:=(by rw[A];rfl);have bK:(a.1==2)=false:=(by rw[A];rfl);have bL:(a.1==3)=true:=(by rw[A];rfl);have bM:(a.1==4)=false:=(by rw[A];rfl);clear aJ aM h A;(go_enter func58,ntmps58);go_upto_region 1 with fail
 refine au ?_;intro bf u;have aC:aj (bf.heap[w.heap.size]?=some (.cells (ct Cm.zero).toArray 27 (0,0))):=af (by rw[u];exact bT w _);have T0:ah No w bf:=(by rw[u];exact(aA w).alloc _);have N:=af (H.o.kept T0 (fun h=>h));have aZ:=af T0;obtain⟨gr,T⟩:=ay (w.heap.size);have f:¬gr=g:=(by omega);have bk:aj (w.heap.size≤gr):=af (by omega);rw[←T]at aC⊢;clear u T0 T H;go_wp2_with fail
 (with_reducible refine(fF N.o).mono ?_)
 rintro e w1 ⟨rfl,C,B⟩;rw[←aW.o]at C⊢;have n:=af C;have aB:=af (aZ.o.own.aK B);have R1:=af (B.heap aC.o f);clear C B N aC;go_upto_region 2 with fail
 refine au ?_;intro aD z;have ak:ah No w1 aD:=(by rw[z];exact(aA w1).alloc _);have A2:aj (kL w aD g w1.heap.size gr ⟨a.1,0,0,0,Bd.zero,0⟩ a.2):=af ⟨n.o.kept ak (fun h=>h),by rw[z];exact bT w1 _,ak.heap R1.o (fun h=>h),aB.o.mS ak⟩;obtain⟨gb,Q⟩:=ay (w1.heap.size);have j:¬gb=g:=(by have:=n.o.lt;omega);have G:gb≠gr:=(by have:=(bX.1 R1.o).1;omega);have M:aj (w.heap.size≤gb):=af (by have:=aB.o.size;omega);rw[←Q]at A2⊢;have c0:aD.cell? ⟨gb,0,none⟩=some (qI a.1):=A2.o.cell 0;clear z ak Q n aB R1 aZ aW;go_wp2_with fail
 (with_reducible refine(lX A2.o.rd).mono ?_)
 rintro e Z ⟨rfl,D,U⟩;rw[←bn.o]at D⊢;have L:=af (A2.o.call U D j f);have aU:=L.o.opened;have aG:=L.o.C5;have aQ:=L.o.lt;clear D U;go_upto_region 9 with fail
 refine au ?_;intro bG P;have A6:aj (kL w bG g gb gr ⟨a.1,p.1.s,p.1.i,p.1.g,Bd.zero,0⟩ p.2):=af (by rw[P];exact L.o.row j G M.o ⟨a.1,p.1.s,p.1.i,p.1.g,Bd.zero,0⟩);clear P aU aG aQ c0 L A2;go_wp2_with fail
 (with_reducible refine(vQ A6.o.rd).mono ?_)
 rintro e bN ⟨rfl,E,V⟩;rw[←bp.o]at E⊢;have B7:=af (A6.o.call V E j f);have aV:=B7.o.opened;have aI:=B7.o.C5;have aR:=B7.o.lt;clear E V;go_upto_region 13 with fail
 refine au ?_;intro W hW;have t:aj (kL w W g gb gr x Y):=af (by rw[hW,av.o,aq.o];exact B7.o.row j G M.o ⟨a.1,p.1.s,p.1.i,p.1.g,q.1,0⟩);have aE:ai W gb 0 16=some (ct x):=(by unfold ai;rw[t.o.bx];rfl);have or:Open W gr:=⟨_,_,t.o.r⟩;have sr:(aL W gr).size=16:=(by unfold aL;rw[t.o.r];rfl);have bC:=af t.o.rd;have bu:=af t.o.k;have bI:=t.o.lt;clear hW t aV aI aR;have O:ai W gb 0 16=some (ct x)∧Open W gr∧(aL W gr).size=16:=⟨aE,or,sr⟩
 go_region_held3 (fun w'=>ai w' gb 0 16=some (ct x)∧Open w' gr∧(aL w' gr).size=16)
  (first|exact O|exact c|exact d|exact⟨(cC _ _ _ _ _ _ G).trans d.1,(eM _ _ _ _).2 d.2.1,by rw[dO _ _ _ d.2.1];rfl⟩)
  (first
    |(go_at_call 66
      have hc:=CI.o
      with_reducible refine(hc _).mono ?_
      clear hc;rintro e Z ⟨rfl,K⟩;have c:ai Z gb 0 16=some (ct x)∧Open Z gr∧(aL Z gr).size=16:=⟨K.keeps.ai aE,K.keeps.opened or,K.keeps.iu or sr⟩;have bE:=af ((bC.o.kept (aA (S:=No) W).drew (fun h=>h)).kept K.keeps (fun h=>h));have bA:=af (bu.o.drew.mS K.keeps);have aS:gb<Z.heap.size:=eU bI K.keeps.size)
    |(go_at_call 130
      refine(kK bE.o x (bD x)).mono ?_;rintro e I ⟨rfl,X,l⟩;rw[bq.o]at X⊢;have d:ai I gb 0 16=some (ct x)∧Open I gr∧(aL I gr).size=16:=⟨l.nM c.1 aS j,l.lP c.2.1 f,l.gY c.2.1 c.2.2 f⟩;have bF:=af X;have bB:=af (bA.o.aK l)))
 all_goals go_wp2_with fail
 all_goals
  have aT:¬g=gr:=fun e=>f e.symm;have aN:ai (I.setRow gr #[qI R.1.k,qI R.1.s,qI R.1.i,qI R.1.g,qI R.1.b.s,qI R.1.b.i,qI R.1.b.g,qI R.1.b.m,qI R.1.b.x,qI R.1.b.y,qI R.1.b.vx,qI R.1.b.vy,qI R.1.b.hp,qI R.1.b.pw,qI R.1.b.lf,qI R.1.m]) gr 0 16=some (ct R.1):=(by rw[aH _ _ _ _ _ d.2.1];rfl);have bg:aj (bJ (I.setRow gr #[qI R.1.k,qI R.1.s,qI R.1.i,qI R.1.g,qI R.1.b.s,qI R.1.b.i,qI R.1.b.g,qI R.1.b.m,qI R.1.b.x,qI R.1.b.y,qI R.1.b.vx,qI R.1.b.vy,qI R.1.b.hp,qI R.1.b.pw,qI R.1.b.lf,qI R.1.m]) g R.2∧ah (Own g) w (I.setRow gr #[qI R.1.k,qI R.1.s,qI R.1.i,qI R.1.g,qI R.1.b.s,qI R.1.b.i,qI R.1.b.g,qI R.1.b.m,qI R.1.b.x,qI R.1.b.y,qI R.1.b.vx,qI R.1.b.vy,qI R.1.b.hp,qI R.1.b.pw,qI R.1.b.lf,qI R.1.m])):=af ⟨bF.o.kept ((aA (S:=Own gr) I).setRow (fun _=>(rfl:gr=gr)) _) aT,bB.o.setRow (fun h=>absurd h (bY.2 bk.o)) _⟩;refine aY (v:=gH R.1) ?_ rfl ⟨rfl,bg.o.1,bg.o.2⟩;clear O c d or sr aE;simp[results,results58,go_sem,aN]
theorem Mf {w:World}{g:Nat}{r:dx}(h:bJ w g r)(A:(bR r).1=4):Calls prog 58 #[dP g] w fun e w'=>e= .returned (gH (c8 r).1)∧bJ w' g (c8 r).2∧ah (Own g) w w':=by
 obtain⟨R,aN⟩:=ay (c8 r);rw[←aN];have J:aj (dU (bD (dY (bR r).1 (bR r).2).1) (dY (bR r).1 (bR r).2).1 Cm.zero (dY (bR r).1 (bR r).2).2=R):=af (by
  rw[aN];unfold c8 dU;rfl)
 obtain⟨a,aO⟩:=ay (bR r);rw[←aO]at J A;have bf:dY a.1 a.2=(⟨a.1,(aF a.2).1.s,(aF a.2).1.i,(aF a.2).1.g,Bd.zero,(bR (aF a.2).2).1⟩,(bR (aF a.2).2).2):=(by unfold dY;rw[A];rfl);rw[bf]at J;obtain⟨p,hp⟩:=ay (aF a.2);rw[←hp]at J;have bq:=af hp;obtain⟨q,aQ⟩:=ay (bR p.2);rw[←aQ]at J;have bu:=af aQ;obtain⟨x,aR⟩:=ay (⟨a.1,p.1.s,p.1.i,p.1.g,Bd.zero,q.1⟩:Cm);obtain⟨Z,F⟩:=ay (q.2);have bA:aj (dU (bD x) x Cm.zero Z=R):=af (by rw[aR,F];exact J.o);have aC:=af aR;have av:=af F;clear bf J aR F hp aQ;have aZ:=af aO;have CI:=af (fun W=>dh W x);have bL:=h.lt;have H:=af h;have b1:(a.1==1)=false:=(by rw[A];rfl);have bN:(a.1==2)=false:=(by rw[A];rfl);have bO:(a.1==3)=false:=(by rw[A];rfl);have bP:(a.1==4)=true:=(by rw[A];rfl);clear aN aO h A;(go_enter func58,ntmps58);go_upto_region 1 with fail
 refine au ?_;intro bk u;have aE:aj (bk.heap[w.heap.size]?=some (.cells (ct Cm.zero).toArray 27 (0,0))):=af (by rw[u];exact bT w _);have T0:ah No w bk:=(by rw[u];exact(aA w).alloc _);have N:=af (H.o.kept T0 (fun h=>h));have bg:=af T0;obtain⟨gr,T⟩:=ay (w.heap.size);have f:¬gr=g:=(by omega);have bp:aj (w.heap.size≤gr):=af (by omega);rw[←T]at aE⊢;clear u T0 T H;go_wp2_with fail
 (with_reducible refine(fF N.o).mono ?_)
 rintro e w1 ⟨rfl,C,B⟩;rw[←aZ.o]at C⊢;have n:=af C;have aD:=af (bg.o.own.aK B);have R1:=af (B.heap aE.o f);clear C B N aE;go_upto_region 2 with fail
 refine au ?_;intro aG z;have aq:ah No w1 aG:=(by rw[z];exact(aA w1).alloc _);have A2:aj (kL w aG g w1.heap.size gr ⟨a.1,0,0,0,Bd.zero,0⟩ a.2):=af ⟨n.o.kept aq (fun h=>h),by rw[z];exact bT w1 _,aq.heap R1.o (fun h=>h),aD.o.mS aq⟩;obtain⟨gb,Q⟩:=ay (w1.heap.size);have j:¬gb=g:=(by have:=n.o.lt;omega);have G:gb≠gr:=(by have:=(bX.1 R1.o).1;omega);have M:aj (w.heap.size≤gb):=af (by have:=aD.o.size;omega);rw[←Q]at A2⊢;have c0:aG.cell? ⟨gb,0,none⟩=some (qI a.1):=A2.o.cell 0;clear z aq Q n aD R1 bg aZ;go_wp2_with fail
 (with_reducible refine(lX A2.o.rd).mono ?_)
 rintro e ak ⟨rfl,D,U⟩;rw[←bq.o]at D⊢;have L:=af (A2.o.call U D j f);have aW:=L.o.opened;have aJ:=L.o.C5;have aS:=L.o.lt;clear D U;go_upto_region 12 with fail
 refine au ?_;intro bI P;have A6:aj (kL w bI g gb gr ⟨a.1,p.1.s,p.1.i,p.1.g,Bd.zero,0⟩ p.2):=af (by rw[P];exact L.o.row j G M.o ⟨a.1,p.1.s,p.1.i,p.1.g,Bd.zero,0⟩);clear P aW aJ aS c0 L A2;go_wp2_with fail
 (with_reducible refine(fF A6.o.rd).mono ?_)
 rintro e aX ⟨rfl,E,V⟩;rw[←bu.o]at E⊢;have B7:=af (A6.o.call V E j f);have Y:=B7.o.opened;have aM:=B7.o.C5;have aT:=B7.o.lt;clear E V;have bK:aX.cell? ⟨gb,15,none⟩=some (qI 0):=B7.o.cell 15;have f7:aX.frozen? ⟨gb,15,none⟩=false:=Y.frozen 15;go_upto_region 13 with fail
 refine au ?_;intro W hW;have t:aj (kL w W g gb gr x Z):=af (by rw[hW,aC.o,av.o];exact B7.o.put ((aA (S:=Own gb) aX).setCell (p:=⟨gb,15,none⟩) (fun _=>(rfl:gb=gb)) _) (aB B7.o.bx _) j G M.o);have aI:ai W gb 0 16=some (ct x):=(by unfold ai;rw[t.o.bx];rfl);have or:Open W gr:=⟨_,_,t.o.r⟩;have sr:(aL W gr).size=16:=(by unfold aL;rw[t.o.r];rfl);have bF:=af t.o.rd;have bB:=af t.o.k;have bM:=t.o.lt;clear hW t Y aM aT bK f7;have O:ai W gb 0 16=some (ct x)∧Open W gr∧(aL W gr).size=16:=⟨aI,or,sr⟩
 go_region_held3 (fun w'=>ai w' gb 0 16=some (ct x)∧Open w' gr∧(aL w' gr).size=16)
  (first|exact O|exact c|exact d|exact⟨(cC _ _ _ _ _ _ G).trans d.1,(eM _ _ _ _).2 d.2.1,by rw[dO _ _ _ d.2.1];rfl⟩)
  (first
    |(go_at_call 66
      have hc:=CI.o
      with_reducible refine(hc _).mono ?_
      clear hc;rintro e ak ⟨rfl,K⟩;have c:ai ak gb 0 16=some (ct x)∧Open ak gr∧(aL ak gr).size=16:=⟨K.keeps.ai aI,K.keeps.opened or,K.keeps.iu or sr⟩;have bG:=af ((bF.o.kept (aA (S:=No) W).drew (fun h=>h)).kept K.keeps (fun h=>h));have bC:=af (bB.o.drew.mS K.keeps);have aU:gb<ak.heap.size:=eU bM K.keeps.size)
    |(go_at_call 130
      refine(kK bG.o x (bD x)).mono ?_;rintro e I ⟨rfl,X,l⟩;rw[bA.o]at X⊢;have d:ai I gb 0 16=some (ct x)∧Open I gr∧(aL I gr).size=16:=⟨l.nM c.1 aU j,l.lP c.2.1 f,l.gY c.2.1 c.2.2 f⟩;have bH:=af X;have bE:=af (bC.o.aK l)))
 all_goals go_wp2_with fail
 all_goals
  have aV:¬g=gr:=fun e=>f e.symm;have aP:ai (I.setRow gr #[qI R.1.k,qI R.1.s,qI R.1.i,qI R.1.g,qI R.1.b.s,qI R.1.b.i,qI R.1.b.g,qI R.1.b.m,qI R.1.b.x,qI R.1.b.y,qI R.1.b.vx,qI R.1.b.vy,qI R.1.b.hp,qI R.1.b.pw,qI R.1.b.lf,qI R.1.m]) gr 0 16=some (ct R.1):=(by rw[aH _ _ _ _ _ d.2.1];rfl);have bn:aj (bJ (I.setRow gr #[qI R.1.k,qI R.1.s,qI R.1.i,qI R.1.g,qI R.1.b.s,qI R.1.b.i,qI R.1.b.g,qI R.1.b.m,qI R.1.b.x,qI R.1.b.y,qI R.1.b.vx,qI R.1.b.vy,qI R.1.b.hp,qI R.1.b.pw,qI R.1.b.lf,qI R.1.m]) g R.2∧ah (Own g) w (I.setRow gr #[qI R.1.k,qI R.1.s,qI R.1.i,qI R.1.g,qI R.1.b.s,qI R.1.b.i,qI R.1.b.g,qI R.1.b.m,qI R.1.b.x,qI R.1.b.y,qI R.1.b.vx,qI R.1.b.vy,qI R.1.b.hp,qI R.1.b.pw,qI R.1.b.lf,qI R.1.m])):=af ⟨bH.o.kept ((aA (S:=Own gr) I).setRow (fun _=>(rfl:gr=gr)) _) aV,bE.o.setRow (fun h=>absurd h (bY.2 bp.o)) _⟩;refine aY (v:=gH R.1) ?_ rfl ⟨rfl,bn.o.1,bn.o.2⟩;clear O c d or sr aI;simp[results,results58,go_sem,aP]
theorem Gx {w:World}{g:Nat}{r:dx}(h:bJ w g r):Calls prog 58 #[dP g] w fun e w'=>e= .returned (gH (c8 r).1)∧bJ w' g (c8 r).2∧ah (Own g) w w':=by
 by_cases a:(bR r).1=1
 ·exact Mc h a
 by_cases b:(bR r).1=2
 ·exact Md h b
 by_cases c:(bR r).1=3
 ·exact Me h c
 by_cases d:(bR r).1=4
 ·exact Mf h d
 exact El h ⟨a,b,c,d⟩
theorem OL (W:World)(n:Int)(hn:i64 n):Calls prog 48 #[.slice (some ⟨W.heap.size,0,none⟩) 1 1] (W.alloc (.cells #[qI n] 3)).drew fun e w'=>e= .returned (.string (bB (aG n)))∧ah No (W.alloc (.cells #[qI n] 3)).drew w':=iz W.drew n hn
theorem ez {f:FuncId}{args:Array Value}{L:Nm}{X:ByteArray}(a:X=bB L){W:World}(h:Calls prog f args W (qG W ((.string (bB L))))):Calls prog f args W (qG W (.string X)):=by
 rw[a];exact h
theorem Q_ (W:World)(v:Value)(n:Int)(h:LY W v [n])(hn:i64 n):Calls prog 48 #[v] W (qG W ((.string (bB (aG n))))):=by
 refine(qi _ _ [n] h (by simp) (by intro x a;rw[dA]at a;rw[a];exact hn)).mono ?_;rintro e w' ⟨rfl,b⟩;exact⟨by simp[gJ];rfl,b⟩
theorem Gy (b:Bd):(ia b).length≤99:=by
 unfold ia;cases kR b
 ·simp
 ·have a:=c6 b.id;have c:=j_ b;simp only[cond_true,ic];omega
theorem Mg {c:Cm}(h:bD c=true):c.k=1∨c.k=2∨c.k=3∨c.k=4:=by
 by_cases a:c.k=1
 ·exact .inl a
 by_cases b:c.k=2
 ·exact .inr (.inl b)
 by_cases d:c.k=3
 ·exact .inr (.inr (.inl d))
 by_cases e:c.k=4
 ·exact .inr (.inr (.inr e))
 unfold bD at h;rw[eD.2 a,eD.2 b,eD.2 d,eD.2 e]at h;cases h
theorem Mh (w:World)(c:Cm)(hb:bD c=false):Calls prog 49 #[gH c] w (qG w ((ew (cQ c)))):=by
 obtain⟨R,b⟩:=ay (ew (cQ c));rw[←b];have a:=af (fun W=>dh W c);have f:aj (R= .string (bB [])):=af (by rw[b];unfold cQ;rw[hb];rfl);rw[hb]at a;simp only[fO,cond_false]at a;clear hb b;(go_enter func49,ntmps49);go_wp2_with fail
 (with_reducible refine(a.o _).mono ?_)
 rintro e w1 ⟨rfl,d⟩;have g:aj (ah No w w1):=af (((aA w).alloc _).aK d.keeps);clear d;go_wp2;go_ret;exact⟨by rw[f.o];rfl,g.o⟩
theorem OM (w:World)(c:Cm)(hb:bD c=true)(h:c.k=1):Calls prog 49 #[gH c] w (qG w ((ew (cQ c)))):=by
 obtain⟨R,n⟩:=ay (ew (cQ c));rw[←n];have m:=af (fun W=>dh W c);have r:cQ c=aG c.k++ia c.b:=(by unfold cQ;rw[hb,h];rfl);have b1:(c.k==1)=true:=(by rw[h];rfl);have D:(c.k==3)=false:=(by rw[h];rfl);have E:(c.k==4)=false:=(by rw[h];rfl);obtain⟨X0,a⟩:=ay (bB (aG c.k));have t:=af (fun W=>ez a (iz W c.k (by rw[h];exact⟨by omega,by omega⟩)));obtain⟨C,d⟩:=ay (bB (ia c.b));obtain⟨B,f⟩:=ay (bB (aG c.k++ia c.b));have x:aj (R= .string B):=af (by rw[n,f,r];rfl);have j:=fun W':World=>cg W' (aG c.k) (ia c.b) (by have:=aP c.k;omega) (by have:=Gy c.b;omega);rw[←a, ←d, ←f]at j;have u:=af (fun W=>aS d (Mb W c.b));rw[hb]at m;simp only[fO,cond_true]at m;have q:ai (w.alloc (.cells (ct c).toArray 27)) w.heap.size 0 16=some (ct c):=(by simp[go_sem]);have v:=af q;clear hb n r q a d f h;(go_enter func49,ntmps49);go_wp2_with fail
 (with_reducible refine(m.o _).mono ?_)
 rintro e w1 ⟨rfl,p⟩;have y:aj (ah No w w1):=af (((aA w).alloc _).aK p.keeps);have c1:=p.keeps.ai v.o;have C1:=af c1;have s:=ak c1 0 _ rfl;simp only[bC]at s;clear p c1;go_wp2_with fail
 (with_reducible refine(t.o _).mono ?_)
 rintro e W ⟨rfl,g⟩;have A:aj (ah No w W):=af ((y.o.alloc _).aK g);have i:ai W w.heap.size 0 16=some (ct c):=g.ai (((aA (S:=No) w1).alloc _).ai C1.o);have m0:=ak i 0 _ rfl;have i0:ai W w.heap.size 1 3=some (bk c.id):=aE i 1 (bk c.id) rfl (by simp);have i4:ai W w.heap.size 4 11=some (fe c.b):=aE i 4 (fe c.b) rfl (by simp);have m15:=ak i 15 _ rfl;simp only[bC]at m0 m15;clear g s;clear m15 i;go_wp2_with fail
 (with_reducible refine(u.o _).mono ?_)
 rintro e F ⟨rfl,l⟩;have z:=af (A.o.aK l);clear l;go_wp2;go_ret;exact⟨by rw[x.o];rfl,z.o⟩
theorem OO (w:World)(c:Cm)(hb:bD c=true)(h:c.k=2):Calls prog 49 #[gH c] w (qG w ((ew (cQ c)))):=by
 obtain⟨R,n⟩:=ay (ew (cQ c));rw[←n];have m:=af (fun W=>dh W c);have r:cQ c=aG c.k++aO c.id:=(by unfold cQ;rw[hb,h];rfl);have b1:(c.k==1)=false:=(by rw[h];rfl);have D:(c.k==3)=false:=(by rw[h];rfl);have E:(c.k==4)=false:=(by rw[h];rfl);obtain⟨X0,a⟩:=ay (bB (aG c.k));have t:=af (fun W=>ez a (iz W c.k (by rw[h];exact⟨by omega,by omega⟩)));obtain⟨C,d⟩:=ay (bB (aO c.id));obtain⟨B,f⟩:=ay (bB (aG c.k++aO c.id));have x:aj (R= .string B):=af (by rw[n,f,r];rfl);have j:=fun W':World=>cg W' (aG c.k) (aO c.id) (by have:=aP c.k;omega) (by have:=c6 c.id;omega);rw[←a, ←d, ←f]at j;have u:=af (fun W=>aS d (nN W c.id));rw[hb]at m;simp only[fO,cond_true]at m;have q:ai (w.alloc (.cells (ct c).toArray 27)) w.heap.size 0 16=some (ct c):=(by simp[go_sem]);have v:=af q;clear hb n r q a d f h;(go_enter func49,ntmps49);go_wp2_with fail
 (with_reducible refine(m.o _).mono ?_)
 rintro e w1 ⟨rfl,p⟩;have y:aj (ah No w w1):=af (((aA w).alloc _).aK p.keeps);have c1:=p.keeps.ai v.o;have C1:=af c1;have s:=ak c1 0 _ rfl;simp only[bC]at s;clear p c1;go_wp2_with fail
 (with_reducible refine(t.o _).mono ?_)
 rintro e W ⟨rfl,g⟩;have A:aj (ah No w W):=af ((y.o.alloc _).aK g);have i:ai W w.heap.size 0 16=some (ct c):=g.ai (((aA (S:=No) w1).alloc _).ai C1.o);have m0:=ak i 0 _ rfl;have i0:ai W w.heap.size 1 3=some (bk c.id):=aE i 1 (bk c.id) rfl (by simp);have i4:ai W w.heap.size 4 11=some (fe c.b):=aE i 4 (fe c.b) rfl (by simp);have m15:=ak i 15 _ rfl;simp only[bC]at m0 m15;clear g s;clear m15 i;go_wp2_with fail
 (with_reducible refine(u.o _).mono ?_)
 rintro e F ⟨rfl,l⟩;have z:=af (A.o.aK l);clear l;go_wp2;go_ret;exact⟨by rw[x.o];rfl,z.o⟩
theorem OP (w:World)(c:Cm)(hb:bD c=true)(a:c.k=3):Calls prog 49 #[gH c] w (qG w ((ew (cQ c)))):=by
 obtain⟨R,t⟩:=ay (ew (cQ c));rw[←t];have s:=af (fun W=>dh W c);have y:cQ c=aG c.k++(aO c.id++cV c.b):=(by unfold cQ;rw[hb,a];rfl);have b1:(c.k==1)=false:=(by rw[a];rfl);have T:(c.k==3)=true:=(by rw[a];rfl);have U:(c.k==4)=false:=(by rw[a];rfl);have r:cE c.b=true:=by
  unfold bD at hb;rw[a]at hb;simp only[(by decide:((3:Int)==1)=false),(by decide:((3:Int)==2)=false),cond_false,beq_self_eq_true,cond_true,eA]at hb;exact hb.2.2.2.2
 obtain⟨X0,d⟩:=ay (bB (aG c.k));have A:=af (fun W=>ez d (iz W c.k (by rw[a];exact⟨by omega,by omega⟩)));obtain⟨O,f⟩:=ay (bB (aO c.id));obtain⟨P,g⟩:=ay (bB (cV c.b));obtain⟨Q,i⟩:=ay (bB (aG c.k++aO c.id));obtain⟨H,j⟩:=ay (bB (aG c.k++aO c.id++cV c.b));have E:aj (R= .string H):=af (by rw[t,j,y,eY];rfl);have q:=fun W':World=>cg W' (aG c.k) (aO c.id) (by have:=aP c.k;omega) (by have:=c6 c.id;omega);rw[←d, ←f, ←i]at q;have l:=fun W':World=>cg W' (aG c.k++aO c.id) (cV c.b) (by have:=aP c.k;have:=c6 c.id;rw[cr];omega) (by have:=j_ c.b;omega);rw[←g, ←i, ←j]at l;have B:=af (fun W=>aS f (nN W c.id));have D:=af (fun W=>aS g (yG W c.b r));rw[hb]at s;simp only[fO,cond_true]at s;have x:ai (w.alloc (.cells (ct c).toArray 27)) w.heap.size 0 16=some (ct c):=(by simp[go_sem]);have C:=af x;clear hb t y x d f g i j a r;(go_enter func49,ntmps49);go_wp2_with fail
 (with_reducible refine(s.o _).mono ?_)
 rintro e w1 ⟨rfl,v⟩;have F:aj (ah No w w1):=af (((aA w).alloc _).aK v.keeps);have c1:=v.keeps.ai C.o;have C1:=af c1;have z:=ak c1 0 _ rfl;simp only[bC]at z;clear v c1;go_wp2_with fail
 (with_reducible refine(A.o _).mono ?_)
 rintro e W ⟨rfl,n⟩;have G:aj (ah No w W):=af ((F.o.alloc _).aK n);have p:ai W w.heap.size 0 16=some (ct c):=n.ai (((aA (S:=No) w1).alloc _).ai C1.o);have m0:=ak p 0 _ rfl;have i0:ai W w.heap.size 1 3=some (bk c.id):=aE p 1 (bk c.id) rfl (by simp);have i4:ai W w.heap.size 4 11=some (fe c.b):=aE p 4 (fe c.b) rfl (by simp);have m15:=ak p 15 _ rfl;simp only[bC]at m0 m15;clear n z;have L:∀w',ah No W w'→ai w' w.heap.size 1 3=some (bk c.id):=fun w' k=>k.ai i0;have M:∀w',ah No W w'→ai w' w.heap.size 4 11=some (fe c.b):=fun w' k=>k.ai i4;have N:∀w',ah No W w'→w'.cell? ⟨w.heap.size,15,none⟩=some (qI c.m):=fun w' k=>k.cB m15;clear m15 p i0 i4;go_upto_region 8 with fail
 go_region_held3 (fun w'=>ah No W w')
  (first|assumption|exact(aA W).drew|exact((aA W).alloc _).drew|(refine ah.alloc ?_ _;assumption))
  (first
    |(go_at_call 51
      have hc:=B.o
      with_reducible refine(hc _).mono ?_
      clear hc;rintro e J ⟨rfl,a⟩;have I:ah No W J:=ah.trans (by first|assumption|exact(aA W).drew|exact((aA W).alloc _).drew|(refine ah.alloc ?_ _;assumption)) a (fun _ _ h=>h))
    |(go_at_call 117
      have hc:=D.o
      with_reducible refine(hc _).mono ?_
      clear hc;rintro e K ⟨rfl,a⟩;have u:ah No W K:=ah.trans (by first|assumption|exact(aA W).drew|exact((aA W).alloc _).drew|(refine ah.alloc ?_ _;assumption)) a (fun _ _ h=>h)))
 all_goals go_wp2
 all_goals go_ret
 all_goals exact⟨by rw[E.o];rfl,G.o.aK u⟩
theorem OQ (w:World)(c:Cm)(hb:bD c=true)(a:c.k=4):Calls prog 49 #[gH c] w (qG w ((ew (cQ c)))):=by
 obtain⟨R,y⟩:=ay (ew (cQ c));rw[←y];have u:=af (fun W=>dh W c);have B:cQ c=aG c.k++(aO c.id++aG c.m):=(by unfold cQ;rw[hb,a];rfl);have b1:(c.k==1)=false:=(by rw[a];rfl);have Z:(c.k==3)=false:=(by rw[a];rfl);have aq:(c.k==4)=true:=(by rw[a];rfl);have f:i64 c.m:=by
  unfold bD at hb;rw[a]at hb;simp only[(by decide:((4:Int)==1)=false),(by decide:((4:Int)==2)=false),(by decide:((4:Int)==3)=false),cond_false,beq_self_eq_true,cond_true,eA]at hb;have x:=hb.2.2;unfold gW at x;rw[mE]at x;exact eT x.1
 obtain⟨X0,i⟩:=ay (bB (aG c.k));have E:=af (fun W=>ez i (iz W c.k (by rw[a];exact⟨by omega,by omega⟩)));obtain⟨V,j⟩:=ay (bB (aO c.id));obtain⟨X,d⟩:=ay (bB (aG c.m));obtain⟨Y,l⟩:=ay (bB (aG c.k++aO c.id));obtain⟨O,n⟩:=ay (bB (aG c.k++aO c.id++aG c.m));have K:aj (R= .string O):=af (by rw[y,n,B,eY];rfl);have s:=fun W':World=>cg W' (aG c.k) (aO c.id) (by have:=aP c.k;omega) (by have:=c6 c.id;omega);rw[←i, ←j, ←l]at s;have p:=fun W':World=>cg W' (aG c.k++aO c.id) (aG c.m) (by have:=aP c.k;have:=c6 c.id;rw[cr];omega) (by have:=aP c.m;omega);rw[←d, ←l, ←n]at p;have F:=af (fun W=>aS j (nN W c.id));have J:=af (fun W=>ez d (iz W c.m f));have H:=af (fun W=>ez d (OL W c.m f));have I:=af (fun W' v (h:LY W' v [c.m])=>ez d (Q_ W' v c.m h f));rw[hb]at u;simp only[fO,cond_true]at u;have A:ai (w.alloc (.cells (ct c).toArray 27)) w.heap.size 0 16=some (ct c):=(by simp[go_sem]);have G:=af A;clear hb y B A i j d l n a f;(go_enter func49,ntmps49);go_wp2_with fail
 (with_reducible refine(u.o _).mono ?_)
 rintro e w1 ⟨rfl,z⟩;have L:aj (ah No w w1):=af (((aA w).alloc _).aK z.keeps);have c1:=z.keeps.ai G.o;have C1:=af c1;have C:=ak c1 0 _ rfl;simp only[bC]at C;clear z c1;go_wp2_with fail
 (with_reducible refine(E.o _).mono ?_)
 rintro e W ⟨rfl,q⟩;have M:aj (ah No w W):=af ((L.o.alloc _).aK q);have r:ai W w.heap.size 0 16=some (ct c):=q.ai (((aA (S:=No) w1).alloc _).ai C1.o);have m0:=ak r 0 _ rfl;have i0:ai W w.heap.size 1 3=some (bk c.id):=aE r 1 (bk c.id) rfl (by simp);have i4:ai W w.heap.size 4 11=some (fe c.b):=aE r 4 (fe c.b) rfl (by simp);have m15:=ak r 15 _ rfl;simp only[bC]at m0 m15;clear q C;have Q:∀w',ah No W w'→ai w' w.heap.size 1 3=some (bk c.id):=fun w' k=>k.ai i0;have T:∀w',ah No W w'→ai w' w.heap.size 4 11=some (fe c.b):=fun w' k=>k.ai i4;have U:∀w',ah No W w'→w'.cell? ⟨w.heap.size,15,none⟩=some (qI c.m):=fun w' k=>k.cB m15;clear m15 r i0 i4;go_upto_region 10 with fail
 go_region_held3 (fun w'=>ah No W w')
  (first|assumption|exact(aA W).drew|exact((aA W).alloc _).drew|(refine ah.alloc ?_ _;assumption))
  (first
    |(go_at_call 51
      have hc:=F.o
      with_reducible refine(hc _).mono ?_
      clear hc;rintro e D ⟨rfl,a⟩;have P:ah No W D:=ah.trans (by first|assumption|exact(aA W).drew|exact((aA W).alloc _).drew|(refine ah.alloc ?_ _;assumption)) a (fun _ _ h=>h)
      try(have N:LY D (.slice (some ⟨W.heap.size,0,none⟩) 1 1) [c.m]:=Reads.kept ((aA (S:=No) (W.alloc (.cells #[qI c.m] 3))).drew.aK a) (LY.lit W [c.m] 3 (by simp)) (fun _ _ h=>h)))
    |(go_at_call 48
      have hc:=J.o
      with_reducible refine(hc _).mono ?_
      clear hc;rintro e t ⟨rfl,a⟩;have g:ah No W t:=ah.trans (by first|assumption|exact(aA W).drew|exact((aA W).alloc _).drew|(refine ah.alloc ?_ _;assumption)) a (fun _ _ h=>h))
    |(go_at_call 48
      have hc:=H.o
      with_reducible refine(hc _).mono ?_
      clear hc;rintro e t ⟨rfl,a⟩;have g:ah No W t:=ah.trans (by first|assumption|exact(aA W).drew|exact((aA W).alloc _).drew|(refine ah.alloc ?_ _;assumption)) a (fun _ _ h=>h))
    |(go_at_call 48
      have hc:=I.o
      with_reducible refine(hc _ _ N).mono ?_
      clear hc;rintro e t ⟨rfl,a⟩;have g:ah No W t:=ah.trans (by first|assumption|exact(aA W).drew|exact((aA W).alloc _).drew|(refine ah.alloc ?_ _;assumption)) a (fun _ _ h=>h)))
 all_goals go_wp2
 all_goals go_ret
 all_goals exact⟨by rw[K.o];rfl,M.o.aK g⟩
theorem Jl (w:World)(c:Cm):Calls prog 49 #[gH c] w (qG w ((ew (cQ c)))):=by
 cases hb:bD c with
 |false=>exact Mh w c hb
 |true=>
  rcases Mg hb with h|h|h|h
  ·exact OM w c hb h
  ·exact OO w c hb h
  ·exact OP w c hb h
  ·exact OQ w c hb h
theorem Tryz.KH:(prog.info? 189).map (·.size)=some 2:=by kernel_rfl
theorem Tryz.Ra:liesAt prog prog.depth 189 (2/prog.cellsOf 189) 0 189 1=true:=by kernel_rfl
abbrev qK (B b:Nat)(bs:List Value)(w:World):Prop:=Lib.IsBuilder 189 5 B b bs w
abbrev Sr (B b:Nat)(bs:List Value)(w:World):Prop:=Lib.BuilderAt 189 5 B b (.pointer (some ⟨b,0,none⟩)) bs w
theorem Cd (b:Nat)(w:World)(h0:w.cell? ⟨b,0,none⟩=some (.pointer (some ⟨b,0,none⟩))):
 Calls prog 193 #[.pointer (some ⟨b,0,none⟩)] w (qW w (.tuple #[])):=by
 obtain⟨j,a,_⟩:=Sq.1 Tryz.KH;(go_enter func193,ntmps193);go_wp2;rw[Lib.run_neq_ptr_same w _ underlying187 a];go_wp2
 go_end0
 exact⟨rfl,rfl⟩
theorem Bg (b:Nat)(w:World)(h0:w.cell? ⟨b,0,none⟩=some (.pointer none))(a:w.shape? b=some (189,2))(f:w.frozen? ⟨b,0,none⟩=false):
 Calls prog 193 #[.pointer (some ⟨b,0,none⟩)] w fun e w'=>e= .returned (.tuple #[])∧w'=w.setCell ⟨b,0,none⟩ (.pointer (some ⟨b,0,none⟩)):=by
 obtain⟨j,d,c⟩:=Sq.1 Tryz.KH;(go_enter func193,ntmps193);go_wp2;rw[Lib.run_to_unsafe w ⟨b,0,none⟩ underlying187 underlying322 d (by rw[c];decide) a (Nat.zero_lt_succ 1)];simp only[Result.andThen];rw[Oper.upon_value];go_wp2;rw[run_callFunc_extern func255 (by kernel_rfl) (by kernel_rfl) (by kernel_rfl) (e:=Extern.AbiNoEscape.same) (by kernel_rfl)];rw[Lib.run_noEscape];simp only[Result.andThen];rw[Oper.upon_value];go_wp2;rw[Lib.run_from_unsafe w ⟨b,0,none⟩ underlying322 underlying187 d a Tryz.Ra];simp only[Result.andThen];rw[Oper.upon_value];go_wp2
 go_end0
 exact⟨rfl,rfl⟩
theorem Em (B b:Nat)(bs:List Value)(w:World)(h:qK B b bs w):
 Calls prog 193 #[.pointer (some ⟨b,0,none⟩)] w fun e w'=>e= .returned (.tuple #[])∧(Sr B b bs w'∧Below B w w'):=by
 rcases h with h|h
 ·refine(Bg b w h.cell0 h.shape h.frozen0).mono ?_;rintro e w' ⟨rfl,rfl⟩;exact⟨rfl,h.used _,(Below.refl B w).setCell (p:=⟨b,0,none⟩) h.1 _⟩
 ·refine(Cd b w h.cell0).mono ?_;rintro e w' ⟨rfl,rfl⟩;exact⟨rfl,h,Below.refl B _⟩
theorem vR (B b:Nat)(bs:List Value)(s:ByteArray)(w:World)(h:qK B b bs w)(hlen:bs.length+s.size≤140737488355328)(x:B≤w.heap.size):
 Calls prog 118 #[.pointer (some ⟨b,0,none⟩),.string s] w fun e w'=>e= .returned (.tuple #[qI s.size,.nilIface])∧(Sr B b (bs++Lib.strCells s) w'∧Below B w w'):=by
 obtain⟨i0,hi,n,o,q⟩:=fR Tryz.Ja;(go_enter func118,ntmps118);(go_wp2_with (go_at_call 193;refine(Em B b bs _ h).mono ?_));rintro e w1 ⟨rfl,u,j⟩;obtain⟨t,v,f,i,m⟩:=u;have c0:w1.cell? ⟨b,0,none⟩=some (.pointer (some ⟨b,0,none⟩)):=(by rw[Lib.cell_of_heap f];rfl);have c1:w1.cell? ⟨b,1,none⟩=some v:=(by rw[Lib.cell_of_heap f];rfl);go_wp2_with (at_builtin;refine Lib.wpList_append_own_string _ rfl _ _ 184 9 rfl B 5 i0 underlying184 underlying9 hi n o q _ _ _ rfl i s rfl ?c3 ?c4 ?c5 ?_)
 case c3=>unfold maxLen;omega
 case c4=>omega
 case c5=>have:=j.size;omega
 intro v' w2 c a _;have l:b<w1.heap.size:=(bX.1 f).1;have d:w2.heap[b]?=some (.cells #[.pointer (some ⟨b,0,none⟩),v] 189 (0,0)):=by
  rw[a.block b l (fun e=>m e.symm)];exact f
 have d0:w2.cell? ⟨b,0,none⟩=some (.pointer (some ⟨b,0,none⟩)):=(by rw[Lib.cell_of_heap d];rfl);have d1:w2.cell? ⟨b,1,none⟩=some v:=(by rw[Lib.cell_of_heap d];rfl);have f1:w2.frozen? ⟨b,1,none⟩=false:=Lib.frozen_of_heap d 1;obtain⟨r,n',cap,rfl⟩:∃r n' cap,v'= .slice r n' cap:=by
  rcases c.2 with⟨hv,_⟩|⟨g,cap,cur,hv,_⟩
  ·exact⟨_,_,_,hv⟩
  ·exact⟨_,_,_,hv⟩
 go_wp2
 go_ret2
 refine⟨rfl,?_,?_⟩
 ·exact Lib.BuilderAt.put (T:=189) (e:=5) t d (bs':=bs++Lib.strCells s) (by simpa [Lib.strCells_length]using c) (by decide)
 ·exact(j.grown a (by have:=j.size;omega) (fun k y=>(i.lt k y).1)).setCell (p:=⟨b,1,none⟩) t _
theorem qK.kept {B b:Nat}{bs:List Value}{w w':World}(h:qK B b bs w)(k:ah No w w'):qK B b bs w':=by
 have go:∀p,Lib.BuilderAt 189 5 B b p bs w→Lib.BuilderAt 189 5 B b p bs w':=by
  rintro p ⟨a,v,c,d,e⟩;exact⟨a,v,k.heap c (fun h=>h),k.mM d,e⟩
 rcases h with h|h
 ·exact .inl (go _ h)
 ·exact .inr (go _ h)
theorem vS (L:Nm):Lib.strCells (bB L)=Lib.byteCells L:=by simp[Lib.strCells,Lib.byteCells,bB]
theorem byteCells_append (a b:Nm):Lib.byteCells (a++b)=Lib.byteCells a++Lib.byteCells b:=by simp[Lib.byteCells]
theorem Rb (l:List cO)(h:l.length≤1024):(nG aO l).length≤40000:=by
 have c:=aP (l.length:Int);have b:∀m:List cO,(m.flatMap aO).length≤m.length*27:=by
  intro m;induction m with
  |nil=>simp
  |cons a m ih=>
   have:=c6 a;rw[wW,cr,g_];omega
 have:=b l;unfold nG;rw[cr];omega
def nU (n:Nat)(l:List cO):Nm:=aG (n:Int)++l.flatMap aO
theorem C6 (n:Nat)(l:List cO)(a:cO):nU n (l++ [a])=nU n l++aO a:=by simp[nU]
theorem KI (n:Nat)(l:List cO)(h:l.length≤1024):(nU n l).length≤40000:=by
 have c:=aP (n:Int);have b:∀m:List cO,(m.flatMap aO).length≤m.length*27:=by
  intro m;induction m with
  |nil=>simp
  |cons a m ih=>
   have:=c6 a;rw[wW,cr,g_];omega
 have:=b l;unfold nU;rw[cr];omega
abbrev Ta:Value:= .func (.func 51) #[] #[]
theorem Jm (w:World)(v:Value)(l:List cO)(hv:aW bN w v l)(hl:l.length≤1024):Calls prog 50 #[Ta,v] w (qG w ((ew (nG aO l)))):=by
 obtain⟨R,E⟩:=ay (ew (nG aO l));rw[←E];have aC:=af E;obtain⟨va,vc,rfl⟩:=hv.slice;have aD:=af hv;have av:=af hl;have aI:(l.length:Int)≤1024:=(by omega);have aB:aj (i64 (l.length:Int)):=af ⟨by omega,by omega⟩;clear hv hl E;(go_enter func50,ntmps50);go_upto_region 2 with fail
 refine au ?_;intro x d;have z:aj (qK w.heap.size w.heap.size [] x):=af (by rw[d];exact Lib.fresh_isBuilder _ _ w);have O:aj (ah No w x):=af (by rw[d];exact(aA w).alloc _);obtain⟨gb,m⟩:=ay (w.heap.size);rw[←m]at z⊢;have s:=af m;clear d m;go_wp2_with fail
 (with_reducible refine(iz x (l.length:Int) aB.o).mono ?_)
 rintro e w1 ⟨rfl,n⟩;have A:aj (ah No w w1):=af ((O.o.alloc _).aK n);have J:aj (qK gb gb [] w1):=af ((z.o.kept ((aA (S:=No) x).alloc _)).kept n);have aE:aj ((aG (l.length:Int)).length≤9):=af (aP _);clear n z O;(go_wp2_with fail);refine(vR gb gb [] (bB (aG (l.length:Int))) w1 J.o (by rw[jW];have:=aE.o;simp;omega) (by have:=s.o;have:=A.o.size;omega)).mono ?_;rintro e w2 ⟨rfl,f,c⟩;have Y:aj (qK gb gb (Lib.byteCells (nU l.length (l.take 0))) w2):=af (.inr (by rw[tD,vS]at f;simpa [nU]using f));have aF:aj (ah No w w2):=af (A.o.trans (S:=No) (T:=fun i=>gb≤i) ⟨c.os,c.tape,c.output,c.size,fun k G hn=>c.block k (Oy hn)⟩ (fun i hi h=>absurd h (by have:=s.o;omega)));clear f c J A;go_wp2
 go_loopw [15] (fun q wr=>∃k:Nat,k≤l.length∧q=qI k∧qK gb gb (Lib.byteCells (nU l.length (l.take k))) wr∧ah No w wr) (fun q _=>l.length-(intOf q).toNat)
 case atStart=>exact⟨0,aX _,rfl,Y.o,aF.o⟩
 case round=>
  obtain⟨k,G,rfl,Q,hK⟩:=hrel;have L:=af Q;have D:=af hK;have aH:(0:Int)≤(k:Int):=(by omega);clear Q;by_cases u:k<l.length
  ·have H:(k:Int)<(l.length:Int):=(by omega);have r:aW bN wr (.slice va l.length vc) l:=aD.o.kept hK (fun _ _ h=>h);obtain⟨g,off,rfl,_,_,_⟩:=aW.addr bN r (by omega);have P:ai wr g (off+k*3) 3=some (bk l[k]):=aW.at bN r k u;have M:aj (nU l.length (l.take (k+1))=nU l.length (l.take k)++aO l[k]):=af (by rw[iK u,C6]);have aq:aj ((nU l.length (l.take k)).length≤40000):=af (KI _ _ (by rw[fB];have:=av.o;omega));obtain⟨a,U⟩:=ay (l[k]);rw[←U]at P M;obtain⟨X,F⟩:=ay (bB (aO a));have V:=af (fun W=>aS F (nN W a));have N:=af F;clear r U F hK;go_wp2_with fail
   (with_reducible refine(V.o _).mono ?_)
   rintro e I ⟨rfl,p⟩;have B:aj (ah No w I):=af ((D.o.alloc _).aK p);have K:aj (qK gb gb (Lib.byteCells (nU l.length (l.take k))) I):=af ((L.o.kept ((aA (S:=No) wr).alloc _)).kept p);clear p P;(go_wp2_with fail);refine(vR gb gb _ X I K.o (by rw[N.o,jW,Lib.byteCells_length];have:=aq.o;have:=c6 a;omega) (by have:=s.o;have:=B.o.size;omega)).mono ?_;rintro e y ⟨rfl,j,b⟩;have Z:aj (qK gb gb (Lib.byteCells (nU l.length (l.take (k+1)))) y):=af (.inr (by rw[N.o,vS, ←byteCells_append, ←M.o]at j;exact j));have C:aj (ah No w y):=af (B.o.trans (S:=No) (T:=fun i=>gb≤i) ⟨b.os,b.tape,b.output,b.size,fun k G hn=>b.block k (Oy hn)⟩ (fun i hi h=>absurd h (by have:=s.o;omega)));clear j b K B;go_wp2;go_roundw
   case rel=>exact⟨k+1,by omega,by go_num,Z.o,C.o⟩
   case measure=>simp[intOf];omega
  ·have t:k=l.length:=(by omega);have ak:aj (qK gb gb (Lib.byteCells (nG aO l)) wr):=af (by
    have h:=L.o;rw[t,jH]at h;exact h)
   have H:¬((k:Int)<(l.length:Int)):=(by omega);clear t hK;(go_wp2_with fail);refine(Tryz.Builder_String_any gb gb _ wr ak.o (by have:=s.o;have:=D.o.size;omega)).mono ?_;rintro e y ⟨rfl,b⟩;have C:aj (ah No w y):=af (D.o.trans (S:=No) (T:=fun i=>gb≤i) ⟨b.os,b.tape,b.output,b.size,fun k G hn=>b.block k (Oy hn)⟩ (fun i hi h=>absurd h (by have:=s.o;omega)));clear b;go_wp2;go_ret;exact⟨by rw[aC.o];rfl,C.o⟩
theorem Tryz.En:(prog.info? 23).map (fun i=>(i.zero,i.size,i.bytes))=some (some (.agg #[qI 0,qI 0,qI 0]),3,24):=by kernel_rfl
abbrev Rg:Value:= .func (.func 60) #[] #[]
theorem Gz:aF (some [])=(cO.zero,none):=rfl
theorem Bh {α:Type}{take:dx→α×dx}{k:Nat}{l:List α}{r:dx}(h:(take r).2=none):takeN take (k+1) l r=([],none):=by
 rw[takeN,h];rfl
theorem Jn {α:Type}{take:dx→α×dx}{k:Nat}{l:List α}{r:dx}{s:Nm}(h:(take r).2=some s):takeN take (k+1) l r=takeN take k (l++ [(take r).1]) (some s):=by
 rw[takeN,h];rfl
theorem Eo {m:Int}{r:dx}(h:0<(dc m r).1):∃s,(dc m r).2=some s:=by
 unfold dc at h⊢;cases hb:decide ((bR r).1<0)||decide (m<(bR r).1)with
 |true=>rw[hb]at h;cases h
 |false=>
  rw[hb]at h;simp only[cond_false]at h⊢;cases r with
  |none=>cases h
  |some s=>
   unfold bR Qa at h⊢;dsimp only at h⊢;cases a:jT s with
   |none=>rw[a]at h;cases h
   |some p=>exact⟨_,rfl⟩
theorem Jo {m:Int}{r:dx}(hm:0≤m):0≤(dc m r).1∧(dc m r).1≤m:=by
 unfold dc;cases hb:decide ((bR r).1<0)||decide (m<(bR r).1)with
 |true=>exact⟨mH _,hm⟩
 |false=>
  rw[wK,xR,xR]at hb;simp only[cond_false];omega
def OT (w:World)(g:Nat)(x:List cO×dx)(e:Ending)(w':World):Prop:=∃v',e= .returned v'∧aI bN 23 w' w.heap.size v' x.1∧bJ w' g x.2∧ah (Own g) w w'
theorem GA {w:World}{g:Nat}{r:dx}(h:bJ w g r):Calls prog 59 #[dP g,qI 1024,Rg] w (OT w g (jx aF 1024 r)):=by
 obtain⟨i0,hi,aE,aG,aH⟩:=fR Tryz.En;have bf:=h.lt;have H:=af h;obtain⟨D,Q⟩:=Jo (m:=1024) (r:=r) (by omega);have hcs:=Eo (m:=1024) (r:=r);have K:jx aF 1024 r=takeN aF (dc 1024 r).1.toNat [] (dc 1024 r).2:=rfl;obtain⟨F,M⟩:=ay (jx aF 1024 r);rw[←M]at K⊢;obtain⟨c,hc⟩:=ay (dc 1024 r);rw[←hc]at D Q hcs K;have aR:=af hc;obtain⟨N,aB⟩:=sS D;rw[aB]at Q hcs K;rw[nW]at K;have aT:=af aB;have aS:=af K;have Z:=af hcs;clear h hc K M aB D hcs;(go_enter func59,ntmps59);(go_wp2_with fail);refine(mW H.o 1024).mono ?_;rintro e w1 ⟨rfl,I,R⟩;rw[←aR.o]at I⊢;rw[aT.o];have av:=af I;have aU:=af R;clear I R;go_wp2
 go_loopw [7,11] (fun v q wr=>∃(k:Nat) (l:List cO) (st:dx),k≤N∧q=qI k∧l.length=k∧aI bN 23 wr w.heap.size v l∧bJ wr g st∧(k<N→∃s,st=some s)∧takeN aF (N-k) l st=F∧ah (Own g) w wr) (fun _ q _=>N-(intOf q).toNat)
 case atStart=>exact⟨0,[],c.2,aX _,rfl,rfl,cJ _ _ _ _,av.o,fun h=>Z.o (by omega),aS.o.symm,aU.o⟩
 case round=>
  obtain⟨k,l,st,bg,rfl,E,X,C,J,aC,hK⟩:=hrel;have au:=af X;have V:=af C;have W:=af aC;have ak:=af hK;have z:=af E;have aZ:(0:Int)≤(k:Int):=(by omega);by_cases T:k<N
  ·have aD:(k:Int)<(N:Int):=(by omega);obtain⟨s,rfl⟩:=J T;have A:aj (N-k=(N-(k+1))+1):=af (by omega);have P:w.heap.size≤wr.heap.size:=hK.size;have aP:=af P;obtain⟨aL,oc,rfl⟩:=aq X;clear X C aC hK J E P;(go_wp2_with fail);refine(Gi V.o).mono ?_;rintro e w2 ⟨rfl,rfl⟩;rw[Option.getD_some];cases s with
   |nil=>
    have a:aj (F=([],none)):=af (by rw[←W.o,A.o];exact Bh (by rw[Gz]));simp only[iP,Int.natCast_zero];(go_wp2_with fail);have CC:=af (mW V.o (-1));rw[lW]at CC;refine CC.o.mono ?_;rintro e u ⟨rfl,n,b⟩;have t:=af n;have U:=af (ak.o.aK b);clear n b;(go_wp2_with fail);refine(ox t.o).mono ?_;rintro e bn ⟨rfl,rfl⟩;simp only[xG,Gn,tG];go_wp2;go_ret;exact⟨_,rfl,by rw[a.o];exact cJ _ _ _ _,by rw[a.o];exact t.o,U.o⟩
   |cons x s=>
    obtain⟨aV,B⟩:=ay (((x::s).length:Nat):Int);have aY:0<aV:=(by rw[B];simp);rw[←B];obtain⟨p,hp⟩:=ay (aF (some (x::s)));have aM:=af (lX V.o);rw[←hp]at aM;have ai:=af hp;clear B hp;(go_wp2_with fail);refine aM.o.mono ?_;rintro e u ⟨rfl,n,b⟩;have t:=af n;have U:=af (ak.o.aK b);have O3:aj (aI bN 23 u w.heap.size (.slice aL l.length oc) l):=af (b.owns au.o (fun i hi e=>by
     have e:i=g:=e;have:=(au.o.lt i hi).1;omega))
    clear n b;have O:(u.alloc (.cells #[qI p.1.s,qI p.1.i,qI p.1.g] 23)).ownsRow w.heap.size 23 3 (.slice aL l.length oc) l.length (rowsOf bN l):=O3.o.alloc _;have y:Reads (u.alloc (.cells #[qI p.1.s,qI p.1.i,qI p.1.g] 23)) 3 (.slice (some ⟨u.heap.size,0,none⟩) 1 1) 1 (bk p.1):=Reads.fu (jO (base:=0) u #[qI p.1.s,qI p.1.i,qI p.1.g] 1 (aX _) (by unfold maxLen;omega) rfl) (bN.one p.1);have L:aj (w.heap.size≤u.heap.size):=af U.o.size;(go_wp2_with (at_builtin;refine aQ rfl (.tmp 16) (.tmp 20) 28 rfl w.heap.size 23 i0 _ 3 24 underlying28 hi aE aG aH rfl (by decide) _ l.length _ rfl O _ 1 _ rfl y (by have:=z.o;unfold maxLen;omega) (by have:=z.o;omega) (by have:=L.o;simp;omega) ?_;intro v5 Y j S G _));have aW:aj (aI bN 23 Y w.heap.size v5 (l++ [p.1])):=af (by
     unfold aI;rw[cr,bE,fL];exact j)
    have aJ:ah (Of (.slice aL l.length oc)) u Y:=((aA u).alloc _).aK S;have aN:aj (ah (Own g) w Y):=af (U.o.trans aJ (fun i hi h=>by have:=(O3.o.lt i h).1;omega));have f:aj (bJ Y g p.2):=af (t.o.kept aJ (fun h=>by have:=(O3.o.lt g h).1;omega));clear j S G O y aJ;(go_wp2_with fail);refine(ox f.o).mono ?_;rintro e bp ⟨rfl,rfl⟩;cases d:p.2 with
    |none=>
     have a:aj (F=([],none)):=af (by rw[←W.o,A.o];exact Bh (by rw[←ai.o,d]));rw[d]at f;simp only[xG,Gn,tG];clear d;go_wp2;go_ret;exact⟨_,rfl,by rw[a.o];exact cJ _ _ _ _,by rw[a.o];exact f.o,aN.o⟩
    |some s2=>
     have a:aj (takeN aF (N-(k+1)) (l++ [p.1]) (some s2)=F):=af (by
      rw[←W.o,A.o,Jn (s:=s2) (by rw[←ai.o,d]),ai.o])
     rw[d]at f;simp only[xG,tH,jj];clear d;go_wp2;go_roundw
     case rel=>exact⟨k+1,_,some s2,by omega,by go_num,by rw[cr,z.o];rfl,aW.o,f.o,fun _=>⟨s2,rfl⟩,a.o,aN.o⟩
     case measure=>simp[intOf];omega
  ·have aD:¬((k:Int)<(N:Int)):=(by omega);have aO:N-k=0:=(by omega);have a:aj (F=(l,st)):=af (by rw[←W.o,aO];rfl);clear X C aC hK J aO E;go_wp2;go_ret;exact⟨_,rfl,by rw[a.o];exact au.o,by rw[a.o];exact V.o,ak.o⟩
abbrev fS (r:Lr)(v:Value):List Value:= [qI r.k,qI r.n,qI r.s,qI r.i,qI r.c.k,qI r.c.s,qI r.c.i,qI r.c.g,qI r.c.b.s,qI r.c.b.i,qI r.c.b.g,qI r.c.b.m,qI r.c.b.x,qI r.c.b.y,qI r.c.b.vx,qI r.c.b.vy,qI r.c.b.hp,qI r.c.b.pw,qI r.c.b.lf,qI r.c.m,v]
abbrev oM (r:Lr)(v:Value):Value:= .agg #[qI r.k,qI r.n,qI r.s,qI r.i,qI r.c.k,qI r.c.s,qI r.c.i,qI r.c.g,qI r.c.b.s,qI r.c.b.i,qI r.c.b.g,qI r.c.b.m,qI r.c.b.x,qI r.c.b.y,qI r.c.b.vx,qI r.c.b.vy,qI r.c.b.hp,qI r.c.b.pw,qI r.c.b.lf,qI r.c.m,v]
abbrev OU:Value:= .func (.func 68) #[] #[]
theorem Mi (w:World)(a:cO):Calls prog 68 #[iE a] w (qG w ((.bool (!dF a)))):=by
 have CI:=af (fun W=>fU W a);obtain⟨B,b⟩:=ay (dF a);rw[←b]at CI⊢;clear b;cases B
 all_goals
  simp only[fO,cond_true,cond_false]at CI;(go_enter func68,ntmps68);go_wp2_with fail
  (with_reducible refine(CI.o _).mono ?_)
  rintro e w1 ⟨rfl,c⟩;have d:aj (ah No w w1):=af (((aA w).alloc _).aK c.keeps);clear c;go_wp2;go_ret;exact⟨rfl,d.o⟩
def kM (l:List cO):Int:=if l.all dF then -1 else(l.findIdx (fun a=>!dF a):Nat)
theorem GD {l:List cO}{k:Nat}(c:k<l.length)(hb:dF l[k]=false)(b:(l.take k).all dF=true):kM l=k:=by
 have d:l.all dF=false:=by
  rw[wT];exact⟨l[k],dw c,by rw[hb];simp⟩
 have e:l.findIdx (fun a=>!dF a)=k:=by
  rw[List.findIdx_eq c];refine⟨by rw[hb];rfl,fun j g=>?_⟩;have f:=(qD.1 b) l[j] (by rw[List.mem_take_iff_getElem];exact⟨j,by omega,rfl⟩);rw[f];rfl
 unfold kM;rw[d,e];rfl
theorem Jp (w:World)(v:Value)(l:List cO)(hv:aW bN w v l)(hl:l.length≤1048576):Calls prog 145 #[v,OU] w (qG w ((qI (kM l)))):=by
 obtain⟨va,vc,rfl⟩:=hv.slice;have E:=af hv;have G:(l.length:Int)≤1048576:=(by omega);obtain⟨R,r⟩:=ay (kM l);rw[←r];have y:=af r;clear hv r;(go_enter func145,ntmps145);go_wp2
 go_loopw [8] (fun q wr=>∃k:Nat,k≤l.length∧q=qI k∧(l.take k).all dF=true∧ah No w wr) (fun q _=>l.length-(intOf q).toNat)
 case atStart=>exact⟨0,aX _,rfl,rfl,aA _⟩
 case round=>
  obtain⟨k,H,rfl,b,hK⟩:=hrel;have A:=af hK;have m:=af b;have F:(0:Int)≤(k:Int):=(by omega);clear b;by_cases c:k<l.length
  ·have t:(k:Int)<(l.length:Int):=(by omega);have d:aW bN wr (.slice va l.length vc) l:=E.o.kept hK (fun _ _ h=>h);obtain⟨g,off,rfl,_,_,_⟩:=aW.addr bN d (by omega);have C:ai wr g (off+k*3) 3=some (bk l[k]):=aW.at bN d k c;obtain⟨a,s⟩:=ay (l[k]);rw[←s]at C;have u:=af (fun W=>Mi W a);have f:=af s;obtain⟨B,p⟩:=ay (dF a);rw[←p]at u;have x:=af p;clear d s hK p;go_wp2_with fail
   (with_reducible refine(u.o _).mono ?_)
   rintro e I ⟨rfl,i⟩;have z:=af (A.o.aK i);clear i C;cases B with
   |false=>
    have n:aj (R=(k:Int)):=af (by rw[y.o];exact GD c (by rw[←f.o, ←x.o]) m.o);go_wp2;go_ret;exact⟨by rw[n.o];rfl,z.o⟩
   |true=>
    have D:aj ((l.take (k+1)).all dF=true):=af (by
     rw[iK c,List.all_append,m.o, ←f.o];simp[←x.o])
    go_wp2;go_roundw
    case rel=>exact⟨k+1,by omega,by go_num,D.o,z.o⟩
    case measure=>simp[intOf];omega
  ·have j:k=l.length:=(by omega);have n:aj (R= -1):=af (by
    have h:=m.o;rw[j,jH]at h;rw[y.o];unfold kM;rw[h];rfl)
   have t:¬((k:Int)<(l.length:Int)):=(by omega);clear j hK;go_wp2;go_ret;exact⟨by rw[n.o];rfl,A.o⟩
theorem Jq (w:World)(v:Value)(l:List cO)(hv:aW bN w v l)(hl:l.length≤1048576):Calls prog 67 #[v,OU] w (qG w ((.bool (!l.all dF)))):=by
 obtain⟨va,vc,rfl⟩:=hv.slice;have C:=af (Jp w _ l hv hl);cases hb:l.all dF with
 |true=>
  have hf:kM l= -1:=(by unfold kM;rw[hb];rfl);rw[hf]at C;clear hv hf hb;(go_enter func67,ntmps67);(go_wp2_with fail);refine C.o.mono ?_;rintro e w1 ⟨rfl,a⟩;go_wp2;go_ret;exact⟨rfl,a⟩
 |false=>
  obtain⟨m,hm⟩:∃m:Nat,kM l=m:=⟨_,by unfold kM;rw[hb];rfl⟩;rw[hm]at C;have h0:(0:Int)≤(m:Int):=(by omega);clear hv hm hb;(go_enter func67,ntmps67);(go_wp2_with fail);refine C.o.mono ?_;rintro e w1 ⟨rfl,a⟩;go_wp2;go_ret;exact⟨rfl,a⟩
def Lr.bare (k:Int):Lr:=⟨k,0,0,0,Cm.zero,[]⟩
def Vo (w:World)(gr d:Nat)(r:Lr)(v:Value)(o:Value)(wc:World):Prop:=∃(y:Lr) (a:Option Addr) (b c:Nat) (ok:Bool),o= .bool ok∧wc.heap[gr]?=some (.cells (fS r v).toArray 30 (0,0))∧wc.heap[d]?=some (.cells (fS y (.slice a b c)).toArray 30 (0,0))∧
 cH r=(ok&&((y.n==r.n)&&((y.s==r.s)&&((y.i==r.i)&&(jc y.c r.c&&(b==r.ids.length))))))∧ah No w wc
theorem GF {r:Lr}(h:r.k=1):cH r=(jo r.n 1 1099511627776&&((r.n==r.n)&&((0==r.s)&&((0==r.i)&&(jc Cm.zero r.c&&(0==r.ids.length)))))):=by
 have e1:(jc r.c Cm.zero)=jc Cm.zero r.c:=by
  rw[oT,fZ,fZ];exact eq_comm
 have e2:r.ids.isEmpty=(0==r.ids.length):=by cases r.ids<;>rfl
 have e3:∀a:Int,decide (a=0)=(0==a):=fun a=>(by rw[oT];simp;exact eq_comm);unfold cH;rw[h];simp[e1,e2,e3]
theorem Ss {r:Lr}(h:r.k=2):cH r=(dF ⟨r.s,r.i,0⟩&&((0==r.n)&&((r.s==r.s)&&((r.i==r.i)&&(jc Cm.zero r.c&&(0==r.ids.length)))))):=by
 have e1:(jc r.c Cm.zero)=jc Cm.zero r.c:=by
  rw[oT,fZ,fZ];exact eq_comm
 have e2:r.ids.isEmpty=(0==r.ids.length):=by cases r.ids<;>rfl
 have e3:∀a:Int,decide (a=0)=(0==a):=fun a=>(by rw[oT];simp;exact eq_comm);unfold cH dF;rw[h];have b:jo 0 0 1048575=true:=rfl;simp only[e1,e2,e3,b,(by decide:((2:Int)==1)=false),beq_self_eq_true,cond_false,cond_true,Ba,C4];cases(0==r.n)<;>cases jo r.s 0 15<;>cases jo r.i 0 15<;>simp
theorem St {r:Lr}(h:r.k=3):cH r=(bD r.c&&((0==r.n)&&((0==r.s)&&((0==r.i)&&(jc r.c r.c&&(0==r.ids.length)))))):=by
 have e2:r.ids.isEmpty=(0==r.ids.length):=by cases r.ids<;>rfl
 have e3:∀a:Int,decide (a=0)=(0==a):=fun a=>(by rw[oT];simp;exact eq_comm);have b:jc r.c r.c=true:=(fZ _ _).2 rfl;unfold cH;rw[h];simp only[e2,e3,b,(by decide:((3:Int)==1)=false),(by decide:((3:Int)==2)=false),beq_self_eq_true,cond_false,cond_true,C4];cases bD r.c<;>simp
theorem Ut {r:Lr}(h:r.k=4):cH r=(true&&((0==r.n)&&((0==r.s)&&((0==r.i)&&(jc Cm.zero r.c&&(0==r.ids.length)))))):=by
 have e1:(jc r.c Cm.zero)=jc Cm.zero r.c:=by
  rw[oT,fZ,fZ];exact eq_comm
 have e2:r.ids.isEmpty=(0==r.ids.length):=by cases r.ids<;>rfl
 have e3:∀a:Int,decide (a=0)=(0==a):=fun a=>(by rw[oT];simp;exact eq_comm);unfold cH;rw[h];simp only[e1,e2,e3,(by decide:((4:Int)==1)=false),(by decide:((4:Int)==2)=false),(by decide:((4:Int)==3)=false),beq_self_eq_true,cond_false,cond_true,C4]
theorem Sw {r:Lr}(h:r.k=5):cH r=((decide (r.ids.length≤1024)&&r.ids.all dF)&&((0==r.n)&&((0==r.s)&&((0==r.i)&&(jc Cm.zero r.c&&(r.ids.length==r.ids.length)))))):=by
 have e1:(jc r.c Cm.zero)=jc Cm.zero r.c:=by
  rw[oT,fZ,fZ];exact eq_comm
 have e3:∀a:Int,decide (a=0)=(0==a):=fun a=>(by rw[oT];simp;exact eq_comm);unfold cH;rw[h];simp only[e1,e3,(by decide:((5:Int)==1)=false),(by decide:((5:Int)==2)=false),(by decide:((5:Int)==3)=false),(by decide:((5:Int)==4)=false),beq_self_eq_true,cond_false,cond_true,Ba];cases decide (r.ids.length≤1024)<;>cases r.ids.all dF<;>simp
theorem Sy {r:Lr}(a:¬r.k=1)(b:¬r.k=2)(c:¬r.k=3)(d:¬r.k=4)(e:¬r.k=5):cH r=false:=by
 unfold cH;rw[eD.2 a,eD.2 b,eD.2 c,eD.2 d,eD.2 e];rfl
theorem gL {W:World}{gr a:Nat}{r y:Lr}{v u:Value}(c:W.heap[gr]?=some (.cells (fS r v).toArray 30 (0,0)))(b:W.heap[a]?=some (.cells (fS y u).toArray 30 (0,0)))(j:Nat):
 W.cell? ⟨gr,j,none⟩=(fS r v)[j]?∧W.cell? ⟨a,j,none⟩=(fS y u)[j]?∧W.frozen? ⟨a,j,none⟩=false:=by
 refine⟨?_,?_,bF _ _ _ _ _ b⟩
 ·rw[bW _ _ _ _ _ _ c];simp
 ·rw[bW _ _ _ _ _ _ b];simp
theorem iU (w:World)(r:Lr)(v:Value)(hv:aW bN w v r.ids):Calls prog 14 #[oM r v] w (qG w ((qI (fO (cH r))))):=by
 obtain⟨E,aX⟩:=ay (fO (cH r));rw[←aX];have K:=af aX;obtain⟨va,vc,rfl⟩:=hv.slice;have bB:=af hv;clear hv aX;(go_enter func14,ntmps14);go_upto_region 2 with fail
 refine au ?_;intro W hW;have A1:aj (W.heap[w.heap.size]?=some (.cells (fS r (.slice va r.ids.length vc)).toArray 30 (0,0))):=af (by rw[hW];exact((aA (S:=No) _).alloc _).heap (bT w _) (fun h=>h));have A2:aj (W.heap[w.heap.size+1]?=some (.cells (fS (Lr.bare r.k) (.slice none 0 0)).toArray 30 (0,0))):=af (by rw[hW];exact lY w _ _);have X:aj (ah No w W):=af (by rw[hW];exact((aA w).alloc _).alloc _);obtain⟨gr,aG⟩:=ay (w.heap.size);obtain⟨b,aH⟩:=ay (w.heap.size+1);have C:aj (w.heap.size≤gr∧w.heap.size≤b∧gr≠b):=af ⟨by omega,by omega,by omega⟩;rw[←aH]at A2⊢;rw[←aG]at A1⊢;have c0:W.cell? ⟨gr,0,none⟩=some (qI r.k):=(by rw[bW _ _ _ _ _ _ A1.o];rfl);clear hW aG aH
 go_upto_block 0 with fail
 clear c0;go_cut [4] (Vo w gr b r (.slice va r.ids.length vc))
 case first=>
  by_cases d:r.k=1
  ·have f:=af (GF d);have b1:(r.k==1)=true:=(by rw[d];rfl);have ak:(r.k==2)=false:=(by rw[d];rfl);have aq:(r.k==3)=false:=(by rw[d];rfl);have av:(r.k==4)=false:=(by rw[d];rfl);have aC:(r.k==5)=false:=(by rw[d];rfl);have g:gr≠b:=C.o.2.2;have U:b≠gr:=fun e=>g e.symm;have l1:gr<W.heap.size:=(bX.1 A1.o).1;have l2:b<W.heap.size:=(bX.1 A2.o).1;obtain⟨c1,d1,f1⟩:=gL A1.o A2.o 1;simp only[KF,KG]at c1 d1;have J:ah (Own b) W (W.setCell ⟨b,1,none⟩ (qI r.n)):=(aA (S:=Own b) W).setCell (p:=⟨b,1,none⟩) (fun _=>(rfl:b=b)) _;have e1:(W.setCell ⟨b,1,none⟩ (qI r.n)).cell? ⟨gr,1,none⟩=some (qI r.n):=J.cell c1 g;have V:aj (∀m,((W.setCell ⟨b,1,none⟩ (qI r.n)).drewN m).heap[gr]?=some (.cells (fS r (.slice va r.ids.length vc)).toArray 30 (0,0))∧((W.setCell ⟨b,1,none⟩ (qI r.n)).drewN m).heap[b]?=some (.cells (fS ⟨r.k,r.n,0,0,Cm.zero,[]⟩ (.slice none 0 0)).toArray 30 (0,0))∧ah No w ((W.setCell ⟨b,1,none⟩ (qI r.n)).drewN m)):=af (fun m=>⟨J.heap A1.o g,aB A2.o _,(X.o.trans J (fun i hi e=>by have e:i=b:=e;have:=C.o.2.1;omega)).drewN m⟩);clear d J;by_cases T:1≤r.n
   ·have aU:aj (jo r.n 1 1099511627776=decide (r.n≤1099511627776)):=af (by unfold jo;rw[aM T,mF]);go_upto_region 5 with fail
    go_region
    all_goals go_wp2_with fail
    all_goals go_meet
    all_goals exact⟨⟨r.k,r.n,0,0,Cm.zero,[]⟩,none,0,0,_,rfl,(V.o 1).1,(V.o 1).2.1,by rw[f.o,aU.o],(V.o 1).2.2⟩
   ·have aU:aj (jo r.n 1 1099511627776=false):=af (by unfold jo;rw[aJ T,iL]);have bJ:decide (1≤r.n)=false:=aJ T;go_upto_region 5 with fail
    go_region
    all_goals go_wp2_with fail
    all_goals go_meet
    all_goals exact⟨⟨r.k,r.n,0,0,Cm.zero,[]⟩,none,0,0,_,rfl,(V.o 1).1,(V.o 1).2.1,by rw[f.o,aU.o],(V.o 1).2.2⟩
  by_cases d:r.k=2
  ·have f:=af (Ss d);have b1:(r.k==1)=false:=(by rw[d];rfl);have ak:(r.k==2)=true:=(by rw[d];rfl);have aq:(r.k==3)=false:=(by rw[d];rfl);have av:(r.k==4)=false:=(by rw[d];rfl);have aC:(r.k==5)=false:=(by rw[d];rfl);have g:gr≠b:=C.o.2.2;have U:b≠gr:=fun e=>g e.symm;have l1:gr<W.heap.size:=(bX.1 A1.o).1;have l2:b<W.heap.size:=(bX.1 A2.o).1;obtain⟨c2,d2,f2⟩:=gL A1.o A2.o 2;obtain⟨c3,d3,f3⟩:=gL A1.o A2.o 3;simp only[KF,KG]at c2 d2 c3 d3;have bf:∀j u,ah (Own b) W (W.setCell ⟨b,j,none⟩ u):=fun j u=>(aA (S:=Own b) W).setCell (p:=⟨b,j,none⟩) (fun _=>(rfl:b=b)) _;have e2:(W.setCell ⟨b,2,none⟩ (qI r.s)).cell? ⟨gr,3,none⟩=some (qI r.i):=(bf 2 _).cell c3 g;have e3:(W.setCell ⟨b,3,none⟩ (qI r.i)).cell? ⟨gr,2,none⟩=some (qI r.s):=(bf 3 _).cell c2 g;have CI:=af (fun W=>fU W ⟨r.s,r.i,0⟩);obtain⟨B,H⟩:=ay (dF ⟨r.s,r.i,0⟩);rw[←H]at CI f;clear d bf H;go_upto_region 7 with fail
   go_region
   all_goals
    go_upto_region 8 with fail
    refine au ?_;intro t l;have M:aj (t.heap[gr]?=some (.cells (fS r (.slice va r.ids.length vc)).toArray 30 (0,0))):=af (by
     rw[l];exact(((aA (S:=Own b) W).setCell (p:=⟨b,_,none⟩) (fun _=>(rfl:b=b)) _).setCell (p:=⟨b,_,none⟩) (fun _=>(rfl:b=b)) _).heap A1.o g)
    have aP:aj (t.heap[b]?=some (.cells (fS ⟨r.k,0,r.s,r.i,Cm.zero,[]⟩ (.slice none 0 0)).toArray 30 (0,0))):=af (by
     rw[l];exact aB (aB A2.o _) _)
    have Z:aj (ah No w t):=af (by
     rw[l];exact(((X.o.setCell (p:=⟨b,_,none⟩) (fun h=>absurd h (bY.2 C.o.2.1)) _).setCell (p:=⟨b,_,none⟩) (fun h=>absurd h (bY.2 C.o.2.1)) _)).drew)
    have bM:t.cell? ⟨gr,2,none⟩=some (qI r.s):=(by rw[bW _ _ _ _ _ _ M.o];rfl);have bO:t.cell? ⟨gr,3,none⟩=some (qI r.i):=(by rw[bW _ _ _ _ _ _ M.o];rfl);clear l e2 e3 c2 d2 f2 c3 d3 f3;(go_wp2_with fail);refine(CI.o _).mono ?_;rintro e bL ⟨rfl,D⟩;have N:=af (D.keeps.heap M.o (fun h=>h));have G:=af (D.keeps.heap aP.o (fun h=>h));have aQ:=af (Z.o.aK D.keeps);clear D bM bO;cases B
    ·simp only[fO,cond_false];(go_wp2_with fail);go_meet;exact⟨⟨r.k,0,r.s,r.i,Cm.zero,[]⟩,none,0,0,_,rfl,N.o,G.o,f.o,aQ.o⟩
    ·simp only[fO,cond_true];(go_wp2_with fail);go_meet;exact⟨⟨r.k,0,r.s,r.i,Cm.zero,[]⟩,none,0,0,_,rfl,N.o,G.o,f.o,aQ.o⟩
  by_cases d:r.k=3
  ·have f:=af (St d);have b1:(r.k==1)=false:=(by rw[d];rfl);have ak:(r.k==2)=false:=(by rw[d];rfl);have aq:(r.k==3)=true:=(by rw[d];rfl);have av:(r.k==4)=false:=(by rw[d];rfl);have aC:(r.k==5)=false:=(by rw[d];rfl);have g:gr≠b:=C.o.2.2;have U:b≠gr:=fun e=>g e.symm;have CI:=af (fun W=>dh W r.c);obtain⟨B,H⟩:=ay (bD r.c);rw[←H]at CI f;have rc:ai W gr 4 16=some (ct r.c):=(by unfold ai;rw[A1.o];rfl);have bg:Open W b:=⟨_,_,A2.o⟩;have sy:(aL W b).size=21:=(by unfold aL;rw[A2.o];rfl);have aE:ai W gr 4 16=some (ct r.c)∧Open W b∧(aL W b).size=21:=⟨rc,bg,sy⟩;clear d H;go_upto_region 10 with fail
   go_region_held3 (fun w'=>ai w' gr 4 16=some (ct r.c)∧Open w' b∧(aL w' b).size=21)
    (first|exact aE|exact q|exact⟨(cC _ _ _ _ _ _ g).trans q.1,(eM _ _ _ _).2 q.2.1,by rw[dO _ _ _ q.2.1];simp[splice,q.2.2]⟩)
    (first
      |(go_at_call 66
        have hc:=CI.o
        with_reducible refine(hc _).mono ?_
        clear hc;rintro e Y ⟨rfl,aS⟩;have q:ai Y gr 4 16=some (ct r.c)∧Open Y b∧(aL Y b).size=21:=⟨aS.keeps.ai rc,aS.keeps.opened bg,aS.keeps.iu bg sy⟩;have aO:=af ((aA (S:=No) W).drew.aK aS.keeps)))
   have N:=aO.o.heap A1.o (fun h=>h);have G:=aO.o.heap A2.o (fun h=>h);have I:aL Y b=(fS (Lr.bare r.k) (.slice none 0 0)).toArray:=(by unfold aL;rw[G]);have aD:(fO B==0)=B:=by cases B<;>rfl
   rw[aD,I];clear I aD;obtain⟨aV,x⟩:=ay (Y.setRow b (splice (fS (Lr.bare r.k) (.slice none 0 0)).toArray 4 (ct r.c)));rw[←x];have bE:aj (aV.heap[gr]?=some (.cells (fS r (.slice va r.ids.length vc)).toArray 30 (0,0))):=af (by rw[x];exact((aA (S:=Own b) Y).setRow (fun _=>(rfl:b=b)) _).heap N g);have bF:aj (aV.heap[b]?=some (.cells (fS ⟨r.k,0,0,0,r.c,[]⟩ (.slice none 0 0)).toArray 30 (0,0))):=af (by rw[x,kX _ _ _ _ _ _ G];rfl);have bG:aj (ah No w aV):=af (by rw[x];exact(X.o.aK aO.o).setRow (fun h=>absurd h (bY.2 C.o.2.1)) _);clear N G x aE q aO;(go_wp2_with fail);go_meet;exact⟨⟨r.k,0,0,0,r.c,[]⟩,none,0,0,_,rfl,bE.o,bF.o,f.o,bG.o⟩
  by_cases d:r.k=4
  ·have f:=af (Ut d);have b1:(r.k==1)=false:=(by rw[d];rfl);have ak:(r.k==2)=false:=(by rw[d];rfl);have aq:(r.k==3)=false:=(by rw[d];rfl);have av:(r.k==4)=true:=(by rw[d];rfl);have aC:(r.k==5)=false:=(by rw[d];rfl);clear d;(go_wp2_with fail);go_meet;exact⟨Lr.bare r.k,none,0,0,true,rfl,A1.o,A2.o,f.o,X.o⟩
  by_cases d:r.k=5
  ·have f:=af (Sw d);have b1:(r.k==1)=false:=(by rw[d];rfl);have ak:(r.k==2)=false:=(by rw[d];rfl);have aq:(r.k==3)=false:=(by rw[d];rfl);have av:(r.k==4)=false:=(by rw[d];rfl);have aC:(r.k==5)=true:=(by rw[d];rfl);have g:gr≠b:=C.o.2.2;have U:b≠gr:=fun e=>g e.symm;have l1:gr<W.heap.size:=(bX.1 A1.o).1;have l2:b<W.heap.size:=(bX.1 A2.o).1;obtain⟨c20,VE,f20⟩:=gL A1.o A2.o 20;simp only[KF,KG]at c20 VE;have aI:=bB.o.len;have bI:(r.ids.length:Int)≤9223372036854775807:=(by unfold maxLen at aI;omega);clear d aI;go_upto_region 15 with fail
   refine au ?_;intro t l;have J:ah (Own b) W t:=(by rw[l];exact(aA (S:=Own b) W).setCell (p:=⟨b,20,none⟩) (fun _=>(rfl:b=b)) _);have M:=af (J.heap A1.o g);have aP:aj (t.heap[b]?=some (.cells (fS ⟨r.k,0,0,0,Cm.zero,[]⟩ (.slice va r.ids.length vc)).toArray 30 (0,0))):=af (by rw[l];exact aB A2.o _);have Z:aj (ah No w t):=af (X.o.trans J (fun i hi e=>by have e:i=b:=e;have:=C.o.2.1;omega));have bu:t.cell? ⟨gr,20,none⟩=some (.slice va r.ids.length vc):=(by rw[bW _ _ _ _ _ _ M.o];rfl);clear l J c20 VE f20;by_cases hle:r.ids.length≤1024
   ·have aY:(r.ids.length:Int)≤1024:=(by omega);have aT:=af (aM hle);have bA:=af (Jq t _ r.ids (bB.o.kept Z.o (fun _ _ h=>h)) (by omega));obtain⟨B,H⟩:=ay (r.ids.all dF);rw[←H]at bA f;clear hle H;(go_wp2_with fail);refine bA.o.mono ?_;rintro e bL ⟨rfl,F⟩;have N:=af (F.heap M.o (fun h=>h));have G:=af (F.heap aP.o (fun h=>h));have aQ:=af (Z.o.aK F);clear F bu;(go_wp2_with fail);go_meet;exact⟨⟨r.k,0,0,0,Cm.zero,[]⟩,va,r.ids.length,vc,_,rfl,N.o,G.o,by rw[f.o,aT.o];simp,aQ.o⟩
   ·have aY:¬(r.ids.length:Int)≤1024:=(by omega);have aT:=af (aJ hle);clear hle;(go_wp2_with fail);go_meet;exact⟨⟨r.k,0,0,0,Cm.zero,[]⟩,va,r.ids.length,vc,_,rfl,M.o,aP.o,by rw[f.o,aT.o];simp,Z.o⟩
  rename_i bk bn bp bq
  have f:=af (Sy bk bn bp bq d);have b1:(r.k==1)=false:=(by simpa using bk);have ak:(r.k==2)=false:=(by simpa using bn);have aq:(r.k==3)=false:=(by simpa using bp);have av:(r.k==4)=false:=(by simpa using bq);have aC:(r.k==5)=false:=(by simpa using d);clear bk bn bp bq d;(go_wp2_with fail);go_meet;exact⟨Lr.bare r.k,none,0,0,false,rfl,A1.o,A2.o,by rw[f.o];rfl,X.o⟩
 case rest=>
  obtain⟨y,a,aN,c,ok,rfl,z,A,hm,bC⟩:=hcut;have f:=af hm;have L:=af bC;have bR:=(gL z A 1).2.1;have ys:=(gL z A 2).2.1;have bP:=(gL z A 3).2.1;have bQ:=(gL z A 20).2.1;have rn:=(gL z A 1).1;have rs:=(gL z A 2).1;have bK:=(gL z A 3).1;have rl:=(gL z A 20).1;simp only[KF,KG]at bR ys bP bQ rn rs bK rl;have bS:ai wc b 4 16=some (ct y.c):=(by unfold ai;rw[A];rfl);have rc:ai wc gr 4 16=some (ct r.c):=(by unfold ai;rw[z];rfl);have aZ:=C0 y.c r.c;clear hm bC z A;obtain⟨bc,aF⟩:=ay (jc y.c r.c);rw[←aF]at aZ f;clear aF;cases ok
  ·go_wp2_with fail
   try go_ret
   rw[K.o,f.o];exact⟨rfl,L.o⟩
  by_cases e1:y.n=r.n
  case neg=>
   have O:(y.n==r.n)=false:=eD.2 e1;rw[O]at f;go_wp2_with fail
   try go_ret
   rw[K.o,f.o];exact⟨rfl,L.o⟩
  have O:(y.n==r.n)=true:=ny.2 e1;rw[O]at f;by_cases e2:y.s=r.s
  case neg=>
   have P:(y.s==r.s)=false:=eD.2 e2;rw[P]at f;go_wp2_with fail
   try go_ret
   rw[K.o,f.o];exact⟨rfl,L.o⟩
  have P:(y.s==r.s)=true:=ny.2 e2;rw[P]at f;by_cases e3:y.i=r.i
  case neg=>
   have Q:(y.i==r.i)=false:=eD.2 e3;rw[Q]at f;go_wp2_with fail
   try go_ret
   rw[K.o,f.o];exact⟨rfl,L.o⟩
  have Q:(y.i==r.i)=true:=ny.2 e3;rw[Q]at f;cases bc
  ·go_wp2_with fail
   try go_ret
   rw[K.o,f.o];exact⟨rfl,L.o⟩
  by_cases aR:aN=r.ids.length
  case neg=>
   have R:(aN==r.ids.length)=false:=eD.2 aR;have bH:((aN:Int)==(r.ids.length:Int))=false:=eD.2 (by omega);rw[R]at f;clear aR;go_wp2_with fail
   try go_ret
   rw[K.o,f.o];exact⟨rfl,L.o⟩
  have R:(aN==r.ids.length)=true:=ny.2 aR;have bH:((aN:Int)==(r.ids.length:Int))=true:=ny.2 (by omega);rw[R]at f;clear aR;go_wp2_with fail
  try go_ret
  rw[K.o,f.o];exact⟨rfl,L.o⟩
theorem Bi (c:Cm):(cQ c).length≤1000:=by
 unfold cQ;cases bD c
 ·simp
 ·have h0:=aP c.k;have a:=c6 c.id;have d:=j_ c.b;have e:=Gy c.b;have f:=aP c.m;simp only[cond_true,ic];cases c.k==1
  ·cases c.k==3
   ·cases c.k==4
    ·simp only[cond_false];omega
    ·simp only[cond_false,cond_true,ic];omega
   ·simp only[cond_false,cond_true,ic];omega
  ·simp only[cond_true];omega
theorem sH {r:Lr}(h:cH r=true):r.k=1∨r.k=2∨r.k=3∨r.k=4∨r.k=5:=by
 by_cases a:r.k=1
 ·exact .inl a
 by_cases b:r.k=2
 ·exact .inr (.inl b)
 by_cases c:r.k=3
 ·exact .inr (.inr (.inl c))
 by_cases d:r.k=4
 ·exact .inr (.inr (.inr (.inl d)))
 by_cases e:r.k=5
 ·exact .inr (.inr (.inr (.inr e)))
 rw[Sy a b c d e]at h;cases h
theorem iH {r:Lr}(h:cH r=true):(r.k=1→i64 r.n)∧(r.k=2→i64 r.s∧i64 r.i)∧(r.k=5→r.ids.length≤1024):=by
 refine⟨fun e=>?_,fun e=>?_,fun e=>?_⟩
 ·rw[GF e,mE]at h;exact eT h.1
 ·rw[Ss e,mE]at h;have a:=h.1;unfold dF at a;simp only[eA]at a;exact⟨eT a.1,eT a.2.1⟩
 ·rw[Sw e,mE,mE,tQ]at h;exact h.1.1
theorem Mj (w:World)(r:Lr)(v:Value)(hv:aW bN w v r.ids)(hb:cH r=false):Calls prog 10 #[oM r v] w (qG w ((.tuple #[ew (dQ r).1,qI (dQ r).2]))):=by
 have a:=af (iU (w.alloc (.cells (fS r v).toArray 30)) r v (hv.kept ((aA w).alloc _) (fun _ _ h=>h)));have b:dQ r=([],1):=(by unfold dQ;rw[hb];rfl);rw[b];rw[hb]at a;simp only[fO,cond_false]at a;clear hb b hv;(go_enter func10,ntmps10);(go_wp2_with fail);refine a.o.mono ?_;rintro e w1 ⟨rfl,c⟩;have d:aj (ah No w w1):=af (((aA w).alloc _).aK c);clear c;go_wp2
 go_ret2
 exact⟨rfl,d.o⟩
theorem OV (w:World)(r:Lr)(v:Value)(hv:aW bN w v r.ids)(hb:cH r=true)(a:r.k=1):Calls prog 10 #[oM r v] w (qG w ((.tuple #[ew (dQ r).1,qI (dQ r).2]))):=by
 obtain⟨R,m⟩:=ay (ew (dQ r).1);have q:dQ r=(eF r,0):=(by unfold dQ;rw[hb];rfl);rw[←m,q];rw[q]at m;have l:=af (iU (w.alloc (.cells (fS r v).toArray 30)) r v (hv.kept ((aA w).alloc _) (fun _ _ h=>h)));rw[hb]at l;simp only[fO,cond_true]at l;have y:eF r=aG r.k++(aG r.n):=(by unfold eF;rw[a];simp);have j:=iH hb;have b1:(r.k==1)=true:=(by rw[a];rfl);have J:(r.k==2)=false:=(by rw[a];rfl);have K:(r.k==3)=false:=(by rw[a];rfl);have L:(r.k==5)=false:=(by rw[a];rfl);obtain⟨X0,b⟩:=ay (bB (aG r.k));have t:=af (fun W=>ez b (iz W r.k (by rw[a];exact⟨by omega,by omega⟩)));obtain⟨I,c⟩:=ay (bB (aG r.n));obtain⟨F,d⟩:=ay (bB (aG r.k++(aG r.n)));have B:aj (R= .string F):=af (by rw[m,d,y];rfl);have g:=fun W':World=>cg W' (aG r.k) (aG r.n) (by have:=aP r.k;omega) (by have:=aP r.n;omega);rw[←b, ←c, ←d]at g;have A:=af (fun W=>ez c (iz W r.n (j.1 a)));have x:ai (w.alloc (.cells (fS r v).toArray 30)) w.heap.size 0 21=some (fS r v):=(by simp[go_sem]);have u:=af x;have H:=af hv;clear hb m q x b a y j hv c d;(go_enter func10,ntmps10);(go_wp2_with fail);refine l.o.mono ?_;rintro e w1 ⟨rfl,s⟩;have C:aj (ah No w w1):=af (((aA w).alloc _).aK s);have c1:=s.ai u.o;have C1:=af c1;have z:=ak c1 0 _ rfl;simp only[bC]at z;clear s c1 u l;go_wp2_with fail
 (with_reducible refine(t.o _).mono ?_)
 rintro e W ⟨rfl,f⟩;have E:aj (ah No w W):=af ((C.o.alloc _).aK f);have p:ai W w.heap.size 0 21=some (fS r v):=f.ai (((aA (S:=No) w1).alloc _).ai C1.o);have m0:=ak p 0 _ rfl;have m1:=ak p 1 _ rfl;simp only[bC]at m0 m1;clear f z p C1 t;go_wp2_with fail
 (with_reducible refine(A.o _).mono ?_)
 rintro e G ⟨rfl,i⟩;have D:aj (ah No w G):=af ((E.o.alloc _).aK i);clear i;go_wp2
 go_ret2
 exact⟨by rw[B.o];rfl,D.o⟩
theorem OW (w:World)(r:Lr)(v:Value)(hv:aW bN w v r.ids)(hb:cH r=true)(a:r.k=2):Calls prog 10 #[oM r v] w (qG w ((.tuple #[ew (dQ r).1,qI (dQ r).2]))):=by
 obtain⟨R,p⟩:=ay (ew (dQ r).1);have q:dQ r=(eF r,0):=(by unfold dQ;rw[hb];rfl);rw[←p,q];rw[q]at p;have m:=af (iU (w.alloc (.cells (fS r v).toArray 30)) r v (hv.kept ((aA w).alloc _) (fun _ _ h=>h)));rw[hb]at m;simp only[fO,cond_true]at m;have z:eF r=aG r.k++(aG r.s++aG r.i):=(by unfold eF;rw[a];simp);have g:=iH hb;have b1:(r.k==1)=false:=(by rw[a];rfl);have K:(r.k==2)=true:=(by rw[a];rfl);have L:(r.k==3)=false:=(by rw[a];rfl);have M:(r.k==5)=false:=(by rw[a];rfl);obtain⟨X0,b⟩:=ay (bB (aG r.k));have u:=af (fun W=>ez b (iz W r.k (by rw[a];exact⟨by omega,by omega⟩)));obtain⟨J,c⟩:=ay (bB (aG r.s++aG r.i));obtain⟨G,d⟩:=ay (bB (aG r.k++(aG r.s++aG r.i)));have C:aj (R= .string G):=af (by rw[p,d,z];rfl);have j:=fun W':World=>cg W' (aG r.k) (aG r.s++aG r.i) (by have:=aP r.k;omega) (by have N:=aP r.s;have O:=aP r.i;rw[cr];omega);rw[←b, ←c, ←d]at j;have B:=af (fun W=>ez c (Q9 W r.s r.i (g.2.1 a).1 (g.2.1 a).2));have y:ai (w.alloc (.cells (fS r v).toArray 30)) w.heap.size 0 21=some (fS r v):=(by simp[go_sem]);have x:=af y;have I:=af hv;clear hb p q y b a z g hv c d;(go_enter func10,ntmps10);(go_wp2_with fail);refine m.o.mono ?_;rintro e w1 ⟨rfl,t⟩;have D:aj (ah No w w1):=af (((aA w).alloc _).aK t);have c1:=t.ai x.o;have C1:=af c1;have A:=ak c1 0 _ rfl;simp only[bC]at A;clear t c1 x m;go_wp2_with fail
 (with_reducible refine(u.o _).mono ?_)
 rintro e W ⟨rfl,f⟩;have F:aj (ah No w W):=af ((D.o.alloc _).aK f);have n:ai W w.heap.size 0 21=some (fS r v):=f.ai (((aA (S:=No) w1).alloc _).ai C1.o);have m0:=ak n 0 _ rfl;have m1:=ak n 2 _ rfl;have m2:=ak n 3 _ rfl;simp only[bC]at m0 m1 m2;clear f A n C1 u;go_wp2_with fail
 (with_reducible refine(B.o _).mono ?_)
 rintro e H ⟨rfl,l⟩;have E:aj (ah No w H):=af ((F.o.alloc _).aK l);clear l;go_wp2
 go_ret2
 exact⟨by rw[C.o];rfl,E.o⟩
theorem OX (w:World)(r:Lr)(v:Value)(hv:aW bN w v r.ids)(hb:cH r=true)(f:r.k=3):Calls prog 10 #[oM r v] w (qG w ((.tuple #[ew (dQ r).1,qI (dQ r).2]))):=by
 obtain⟨R,m⟩:=ay (ew (dQ r).1);have p:dQ r=(eF r,0):=(by unfold dQ;rw[hb];rfl);rw[←m,p];rw[p]at m;have l:=af (iU (w.alloc (.cells (fS r v).toArray 30)) r v (hv.kept ((aA w).alloc _) (fun _ _ h=>h)));rw[hb]at l;simp only[fO,cond_true]at l;have y:eF r=aG r.k++(cQ r.c):=(by unfold eF;rw[f];simp);have s:=iH hb;have b1:(r.k==1)=false:=(by rw[f];rfl);have I:(r.k==2)=false:=(by rw[f];rfl);have J:(r.k==3)=true:=(by rw[f];rfl);have K:(r.k==5)=false:=(by rw[f];rfl);obtain⟨X0,a⟩:=ay (bB (aG r.k));have t:=af (fun W=>ez a (iz W r.k (by rw[f];exact⟨by omega,by omega⟩)));obtain⟨H,b⟩:=ay (bB (cQ r.c));obtain⟨F,d⟩:=ay (bB (aG r.k++(cQ r.c)));have B:aj (R= .string F):=af (by rw[m,d,y];rfl);have i:=fun W':World=>cg W' (aG r.k) (cQ r.c) (by have:=aP r.k;omega) (by have:=Bi r.c;omega);rw[←a, ←b, ←d]at i;have A:=af (fun W=>aS b (Jl W r.c));have x:ai (w.alloc (.cells (fS r v).toArray 30)) w.heap.size 0 21=some (fS r v):=(by simp[go_sem]);have u:=af x;have G:=af hv;clear hb m p x a f y s hv b d;(go_enter func10,ntmps10);(go_wp2_with fail);refine l.o.mono ?_;rintro e w1 ⟨rfl,q⟩;have C:aj (ah No w w1):=af (((aA w).alloc _).aK q);have c1:=q.ai u.o;have C1:=af c1;have z:=ak c1 0 _ rfl;simp only[bC]at z;clear q c1 u l;go_wp2_with fail
 (with_reducible refine(t.o _).mono ?_)
 rintro e W ⟨rfl,g⟩;have E:aj (ah No w W):=af ((C.o.alloc _).aK g);have n:ai W w.heap.size 0 21=some (fS r v):=g.ai (((aA (S:=No) w1).alloc _).ai C1.o);have m0:=ak n 0 _ rfl;have m1:ai W w.heap.size 4 16=some (ct r.c):=aE n 4 (ct r.c) rfl (by simp);simp only[bC]at m0;clear g z n C1 t;go_wp2_with fail
 (with_reducible refine(A.o _).mono ?_)
 rintro e L ⟨rfl,j⟩;have D:=af (E.o.aK j);clear j;go_wp2
 go_ret2
 exact⟨by rw[B.o];rfl,D.o⟩
theorem OY (w:World)(r:Lr)(v:Value)(hv:aW bN w v r.ids)(hb:cH r=true)(b:r.k=4):Calls prog 10 #[oM r v] w (qG w ((.tuple #[ew (dQ r).1,qI (dQ r).2]))):=by
 obtain⟨R,f⟩:=ay (ew (dQ r).1);have g:dQ r=(eF r,0):=(by unfold dQ;rw[hb];rfl);rw[←f,g];rw[g]at f;have d:=af (iU (w.alloc (.cells (fS r v).toArray 30)) r v (hv.kept ((aA w).alloc _) (fun _ _ h=>h)));rw[hb]at d;simp only[fO,cond_true]at d;have q:eF r=aG r.k:=(by unfold eF;rw[b];simp);have j:=iH hb;have b1:(r.k==1)=false:=(by rw[b];rfl);have z:(r.k==2)=false:=(by rw[b];rfl);have A:(r.k==3)=false:=(by rw[b];rfl);have B:(r.k==5)=false:=(by rw[b];rfl);obtain⟨X0,a⟩:=ay (bB (aG r.k));have l:=af (fun W=>ez a (iz W r.k (by rw[b];exact⟨by omega,by omega⟩)));have t:aj (R= .string X0):=af (by rw[f,a,q];rfl);have p:ai (w.alloc (.cells (fS r v).toArray 30)) w.heap.size 0 21=some (fS r v):=(by simp[go_sem]);have m:=af p;have y:=af hv;clear hb f g p a b q j hv;(go_enter func10,ntmps10);(go_wp2_with fail);refine d.o.mono ?_;rintro e w1 ⟨rfl,i⟩;have u:aj (ah No w w1):=af (((aA w).alloc _).aK i);have c1:=i.ai m.o;have C1:=af c1;have s:=ak c1 0 _ rfl;simp only[bC]at s;clear i c1 m d;go_wp2_with fail
 (with_reducible refine(l.o _).mono ?_)
 rintro e W ⟨rfl,c⟩;have x:aj (ah No w W):=af ((u.o.alloc _).aK c);have n:ai W w.heap.size 0 21=some (fS r v):=c.ai (((aA (S:=No) w1).alloc _).ai C1.o);have m0:=ak n 0 _ rfl;simp only[bC]at m0;clear c s n C1 l;go_wp2
 go_ret2
 exact⟨by rw[t.o];rfl,x.o⟩
theorem OZ (w:World)(r:Lr)(v:Value)(hv:aW bN w v r.ids)(hb:cH r=true)(a:r.k=5):Calls prog 10 #[oM r v] w (qG w ((.tuple #[ew (dQ r).1,qI (dQ r).2]))):=by
 obtain⟨R,m⟩:=ay (ew (dQ r).1);have p:dQ r=(eF r,0):=(by unfold dQ;rw[hb];rfl);rw[←m,p];rw[p]at m;have l:=af (iU (w.alloc (.cells (fS r v).toArray 30)) r v (hv.kept ((aA w).alloc _) (fun _ _ h=>h)));rw[hb]at l;simp only[fO,cond_true]at l;have y:eF r=aG r.k++(nG aO r.ids):=(by unfold eF;rw[a];simp);have g:=iH hb;have b1:(r.k==1)=false:=(by rw[a];rfl);have H:(r.k==2)=false:=(by rw[a];rfl);have I:(r.k==3)=false:=(by rw[a];rfl);have J:(r.k==5)=true:=(by rw[a];rfl);obtain⟨X0,b⟩:=ay (bB (aG r.k));have s:=af (fun W=>ez b (iz W r.k (by rw[a];exact⟨by omega,by omega⟩)));obtain⟨G,c⟩:=ay (bB (nG aO r.ids));obtain⟨F,d⟩:=ay (bB (aG r.k++(nG aO r.ids)));have B:aj (R= .string F):=af (by rw[m,d,y];rfl);have i:=fun W':World=>cg W' (aG r.k) (nG aO r.ids) (by have:=aP r.k;omega) (by have:=Rb r.ids (g.2.2 a);omega);rw[←b, ←c, ←d]at i;have A:=af (fun W (h:aW bN W v r.ids)=>aS c (Jm W v r.ids h (g.2.2 a)));have x:ai (w.alloc (.cells (fS r v).toArray 30)) w.heap.size 0 21=some (fS r v):=(by simp[go_sem]);have t:=af x;have C:=af hv;clear hb m p x b a y g hv c d;(go_enter func10,ntmps10);(go_wp2_with fail);refine l.o.mono ?_;rintro e w1 ⟨rfl,q⟩;have D:aj (ah No w w1):=af (((aA w).alloc _).aK q);have c1:=q.ai t.o;have C1:=af c1;have z:=ak c1 0 _ rfl;simp only[bC]at z;clear q c1 t l;go_wp2_with fail
 (with_reducible refine(s.o _).mono ?_)
 rintro e W ⟨rfl,f⟩;have u:aj (ah No w W):=af ((D.o.alloc _).aK f);have n:ai W w.heap.size 0 21=some (fS r v):=f.ai (((aA (S:=No) w1).alloc _).ai C1.o);have m0:=ak n 0 _ rfl;have m1:=ak n 20 _ rfl;simp only[bC]at m0 m1;clear f z n C1 s;go_wp2_with fail
 (with_reducible refine(A.o _ (C.o.kept u.o (fun _ _ h=>h))).mono ?_)
 rintro e K ⟨rfl,j⟩;have E:=af (u.o.aK j);clear j;go_wp2
 go_ret2
 exact⟨by rw[B.o];rfl,E.o⟩
theorem ux (w:World)(r:Lr)(v:Value)(hv:aW bN w v r.ids):Calls prog 10 #[oM r v] w (qG w ((.tuple #[ew (dQ r).1,qI (dQ r).2]))):=by
 cases hb:cH r with
 |false=>exact Mj w r v hv hb
 |true=>
  rcases sH hb with h|h|h|h|h
  ·exact OV w r v hv hb h
  ·exact OW w r v hv hb h
  ·exact OX w r v hv hb h
  ·exact OY w r v hv hb h
  ·exact OZ w r v hv hb h
theorem Mk {α:Type}{C:dX α}{e:TypeId}{w:World}{b b':Nat}{v:Value}{l:List α}(h:aI C e w b v l)(hb:b'≤b):aI C e w b' v l:=by
 obtain⟨c,a⟩:=h;refine⟨c,?_⟩;rcases a with a|⟨g,cap,cur,rfl,d,r⟩
 ·exact .inl a
 ·exact .inr ⟨g,cap,cur,rfl,by omega,r⟩
theorem KJ {α:Type}{C:dX α}{e:TypeId}{w:World}{b:Nat}{v:Value}{l:List α}(h:aI C e w b v l){g:Nat}{cs:Array Value}{t:TypeId}{o:Nat×Nat}(a:w.heap[g]?=some (.cells cs t o))(f:t≠e):∀k,v.ownBlock=some k→¬k=g:=by
 intro k c e1;subst e1;rcases h.2 with⟨rfl,_⟩|⟨g',cap,cur,rfl,hb,d,_⟩
 ·cases c
 ·obtain rfl:g'=k:=(by simpa [Value.ownBlock]using c);rw[d]at a;cases a;exact f rfl
def zm (w:World)(p:Lr×Int)(e:Ending)(w':World):Prop:=∃v,e= .returned (.tuple #[oM p.1 v,qI p.2])∧aI bN 23 w' w.heap.size v p.1.ids∧ah No w w'
def Vp (w:World)(gz g gr:Nat)(X:Lr×dx)(wc:World):Prop:=∃v,wc.heap[gr]?=some (.cells (fS X.1 v).toArray 30 (0,0))∧wc.heap[gz]?=some (.cells (fS Lr.zero (.slice none 0 0)).toArray 30 (0,0))∧aI bN 23 wc w.heap.size v X.1.ids∧bJ wc g X.2∧ah No w wc
theorem Uu (r:dx):fM 1 r=(⟨1,(bR r).1,0,0,Cm.zero,[]⟩,(bR r).2):=rfl
theorem Uv (r:dx):fM 2 r=(⟨2,0,(bR r).1,(bR (bR r).2).1,Cm.zero,[]⟩,(bR (bR r).2).2):=rfl
theorem Uw (r:dx):fM 3 r=(⟨3,0,0,0,(c8 r).1,[]⟩,(c8 r).2):=rfl
theorem Ux (r:dx):fM 5 r=(⟨5,0,0,0,Cm.zero,(jx aF 1024 r).1⟩,(jx aF 1024 r).2):=rfl
theorem Uy {k:Int}(a:¬k=1)(b:¬k=2)(c:¬k=3)(d:¬k=5)(r:dx):fM k r=(Lr.bare k,r):=by
 unfold fM;rw[eD.2 a,eD.2 b,eD.2 c,eD.2 d];rfl
theorem Jr (w:World)(s:ByteArray)(hs:(s.size:Int)≤140737488355328):Calls prog 12 #[.string s] w (zm w (ij s.data.toList)):=by
 obtain⟨E,u⟩:=ay (ij s.data.toList);obtain⟨L,bA⟩:=ay (s.data.toList);have bf:=af (fun W=>S8 W s hs);rw[←bA]at bf u;rw[←bA, ←u];clear bA hs;have bQ:=af u;clear u;(go_enter func12,ntmps12);go_upto_region 1 with fail
 refine au ?_;intro bq P;have aU:aj (bq.heap[w.heap.size]?=some (.cells (fS Lr.zero (.slice none 0 0)).toArray 30 (0,0))):=af (by rw[P];exact bT w _);have bk:aj (ah No w bq):=af (by rw[P];exact(aA w).alloc _);obtain⟨gz,aP⟩:=ay (w.heap.size);have M:aj (w.heap.size≤gz):=af (by omega);rw[←aP]at aU⊢;clear P aP;go_wp2_with fail
 (with_reducible refine(bf.o _).mono ?_)
 rintro e w1 ⟨rfl,Y,R⟩;obtain⟨g,bP⟩:=ay (bq.heap.size);have x:¬gz=g:=(by have:=(bX.1 aU.o).1;omega);have aC:aj (w.heap.size≤g):=af (by have:=bk.o.size;omega);rw[←bP]at Y⊢;have aM:=af Y;have K:=af (R.heap aU.o (fun h=>h));have bI:=af (bk.o.aK R);clear Y R bP aU bk bf;go_upto_region 2 with fail
 go_wp2_with fail
 (with_reducible refine(fF aM.o).mono ?_)
 rintro e w2 ⟨rfl,Z,T⟩;obtain⟨p,hp⟩:=ay (bR (some L));rw[←hp]at Z⊢;have bS:=af hp;have N:=af Z;have aN:=af (T.heap K.o x);have bn:aj (ah No w w2):=af (bI.o.trans T (fun i hi e=>by have e:i=g:=e;have:=aC.o;omega));clear Z T hp K bI aM;go_upto_region 3 with fail
 refine au ?_;intro W hW;have aT:ah No w2 W:=(by rw[hW];exact(aA w2).alloc _);obtain⟨gr,Q⟩:=ay (w2.heap.size);have A1:aj (W.heap[gr]?=some (.cells (fS (Lr.bare p.1) (.slice none 0 0)).toArray 30 (0,0))):=af (by rw[hW,Q];exact bT w2 _);have A2:=af (aT.heap aN.o (fun h=>h));have aJ:=af (N.o.kept aT (fun h=>h));have aD:=af (bn.o.aK aT);have l:¬gr=g:=(by have:=N.o.lt;omega);have I:¬gz=gr:=(by have:=(bX.1 aN.o).1;omega);have G:aj (w.heap.size≤gr):=af (by have:=bn.o.size;omega);rw[←Q]at⊢;have c0:W.cell? ⟨gr,0,none⟩=some (qI p.1):=(by rw[bW _ _ _ _ _ _ A1.o];rfl);have X0:aj (∃X,fM p.1 p.2=X):=af ⟨_,rfl⟩;obtain⟨X,bO⟩:=X0.o;have f:=af bO;clear hW aT Q bO X0 aN bn N
 go_upto_block 0 with fail
 clear c0;go_cut [] (Vp w gz g gr X)
 case first=>
  have lr:gr<W.heap.size:=(bX.1 A1.o).1;by_cases c:p.1=1
  ·rw[c,Uu]at f;have b1:(p.1==1)=true:=(by rw[c];rfl);have aV:(p.1==2)=false:=(by rw[c];rfl);have aW:(p.1==3)=false:=(by rw[c];rfl);have aX:(p.1==5)=false:=(by rw[c];rfl);obtain⟨q,A⟩:=ay (bR p.2);have y:=af (fF aJ.o);rw[←A]at f y;rw[←c]at f;clear c A;(go_wp2_with fail);refine y.o.mono ?_;rintro e b ⟨rfl,d,a⟩;have m:=af (a.heap A1.o l);have O:=af (a.heap A2.o x);have n:=af d;have F:=af (aD.o.trans a (fun i hi e=>by have e:i=g:=e;have:=aC.o;omega));have bC:gr<b.heap.size:=(bX.1 m.o).1;have f4:∀j,b.frozen? ⟨gr,j,none⟩=false:=fun j=>bF _ _ _ _ _ m.o;have f1:=f4 1;have d1:b.cell? ⟨gr,1,none⟩=some (qI 0):=(by rw[bW _ _ _ _ _ _ m.o];rfl);clear d a f4;(go_wp2_with fail);go_meet;have k:ah (Own gr) b (b.setCell ⟨gr,1,none⟩ (qI q.1)):=(aA (S:=Own gr) b).setCell (p:=⟨gr,1,none⟩) (fun _=>(rfl:gr=gr)) _;rw[←f.o];exact⟨.slice none 0 0,aB m.o _,k.heap O.o I,cJ _ _ _ _,n.o.kept k (fun e=>l e.symm),F.o.trans k (fun i hi e=>by have e:i=gr:=e;have:=G.o;omega)⟩
  by_cases c:p.1=2
  ·rw[c,Uv]at f;have b1:(p.1==1)=false:=(by rw[c];rfl);have aV:(p.1==2)=true:=(by rw[c];rfl);have aW:(p.1==3)=false:=(by rw[c];rfl);have aX:(p.1==5)=false:=(by rw[c];rfl);obtain⟨q,A⟩:=ay (bR p.2);have y:=af (fF aJ.o);rw[←A]at f y;obtain⟨aR,V⟩:=ay (bR q.2);rw[←V]at f;rw[←c]at f;have bg:=af V;clear c A V;(go_wp2_with fail);refine y.o.mono ?_;rintro e b ⟨rfl,d,a⟩;have m:=af (a.heap A1.o l);have O:=af (a.heap A2.o x);have n:=af d;have F:=af (aD.o.trans a (fun i hi e=>by have e:i=g:=e;have:=aC.o;omega));clear d a;go_wp2_with fail
   (with_reducible refine(fF n.o).mono ?_)
   rintro e av ⟨rfl,ak,H⟩;rw[←bg.o]at ak⊢;have K:=af (H.heap m.o l);have aN:=af (H.heap O.o x);have bp:=af ak;have bV:=af (F.o.trans H (fun i hi e=>by have e:i=g:=e;have:=aC.o;omega));have cn:gr<av.heap.size:=(bX.1 K.o).1;have f5:∀j,av.frozen? ⟨gr,j,none⟩=false:=fun j=>bF _ _ _ _ _ K.o;have f2:=f5 2;have f3:=f5 3;have d2:av.cell? ⟨gr,2,none⟩=some (qI 0):=(by rw[bW _ _ _ _ _ _ K.o];rfl);have d3:av.cell? ⟨gr,3,none⟩=some (qI 0):=(by rw[bW _ _ _ _ _ _ K.o];rfl);clear ak H f5;(go_wp2_with fail);go_meet;have k:ah (Own gr) av ((av.setCell ⟨gr,2,none⟩ (qI q.1)).setCell ⟨gr,3,none⟩ (qI aR.1)):=((aA (S:=Own gr) av).setCell (p:=⟨gr,2,none⟩) (fun _=>(rfl:gr=gr)) _).setCell (p:=⟨gr,3,none⟩) (fun _=>(rfl:gr=gr)) _;rw[←f.o];exact⟨.slice none 0 0,aB (aB K.o _) _,k.heap aN.o I,cJ _ _ _ _,bp.o.kept k (fun e=>l e.symm),bV.o.trans k (fun i hi e=>by have e:i=gr:=e;have:=G.o;omega)⟩
  by_cases c:p.1=3
  ·rw[c,Uw]at f;have b1:(p.1==1)=false:=(by rw[c];rfl);have aV:(p.1==2)=false:=(by rw[c];rfl);have aW:(p.1==3)=true:=(by rw[c];rfl);have aX:(p.1==5)=false:=(by rw[c];rfl);obtain⟨q,A⟩:=ay (c8 p.2);have y:=af (Gx aJ.o);rw[←A]at f y;rw[←c]at f;clear c A;(go_wp2_with fail);refine y.o.mono ?_;rintro e b ⟨rfl,d,a⟩;have m:=af (a.heap A1.o l);have O:=af (a.heap A2.o x);have n:=af d;have F:=af (aD.o.trans a (fun i hi e=>by have e:i=g:=e;have:=aC.o;omega));have or:Open b gr:=⟨_,_,m.o⟩;have D:aL b gr=(fS (Lr.bare p.1) (.slice none 0 0)).toArray:=(by unfold aL;rw[m.o]);have aE:=af D;have sr:(aL b gr).size=21:=(by rw[D];rfl);clear d a D;(go_wp2_with fail);go_meet;rw[aE.o];obtain⟨C,hC⟩:=ay (splice (fS (Lr.bare p.1) (.slice none 0 0)).toArray 4 (ct q.1));have k:ah (Own gr) b (b.setRow gr C):=(aA (S:=Own gr) b).setRow (fun _=>(rfl:gr=gr)) _;rw[←f.o];have cg:(b.setRow gr C).heap[gr]?=some (.cells (fS ⟨p.1,0,0,0,q.1,[]⟩ (.slice none 0 0)).toArray 30 (0,0)):=(by rw[kX _ _ _ _ _ _ m.o,hC];rfl);rw[←hC];exact⟨.slice none 0 0,cg,k.heap O.o I,cJ _ _ _ _,n.o.kept k (fun e=>l e.symm),F.o.trans k (fun i hi e=>by have e:i=gr:=e;have:=G.o;omega)⟩
  by_cases c:p.1=5
  ·rw[c,Ux]at f;have b1:(p.1==1)=false:=(by rw[c];rfl);have aV:(p.1==2)=false:=(by rw[c];rfl);have aW:(p.1==3)=false:=(by rw[c];rfl);have aX:(p.1==5)=true:=(by rw[c];rfl);obtain⟨q,A⟩:=ay (jx aF 1024 p.2);have y:=af (GA aJ.o);rw[←A]at f y;rw[←c]at f;clear c A;(go_wp2_with fail);refine y.o.mono ?_;rintro e b ⟨v4,rfl,U,d,a⟩;have m:=af (a.heap A1.o l);have O:=af (a.heap A2.o x);have n:=af d;have F:=af (aD.o.trans a (fun i hi e=>by have e:i=g:=e;have:=aC.o;omega));have bC:gr<b.heap.size:=(bX.1 m.o).1;have f1:b.frozen? ⟨gr,20,none⟩=false:=bF _ _ _ _ _ m.o;have d1:b.cell? ⟨gr,20,none⟩=some (.slice none 0 0):=(by rw[bW _ _ _ _ _ _ m.o];rfl);have aG:=af U;obtain⟨va,vc,rfl⟩:=aq U;clear d a U;(go_wp2_with fail);go_meet;have k:ah (Own gr) b (b.setCell ⟨gr,20,none⟩ (.slice va q.1.length vc)):=(aA (S:=Own gr) b).setCell (p:=⟨gr,20,none⟩) (fun _=>(rfl:gr=gr)) _;rw[←f.o];exact⟨.slice va q.1.length vc,aB m.o _,k.heap O.o I,k.owns (Mk aG.o aD.o.size) (KJ aG.o m.o (by decide)),n.o.kept k (fun e=>l e.symm),F.o.trans k (fun i hi e=>by have e:i=gr:=e;have:=G.o;omega)⟩
  rename_i bD aR bE
  have b1:(p.1==1)=false:=eD.2 bD;have aV:(p.1==2)=false:=eD.2 aR;have aW:(p.1==3)=false:=eD.2 bE;have aX:(p.1==5)=false:=eD.2 c;have bU:=af ((Uy bD aR bE c p.2).symm.trans f.o);clear bD aR bE c;(go_wp2_with fail);go_meet;rw[←bU.o];exact⟨.slice none 0 0,A1.o,A2.o,cJ _ _ _ _,aJ.o,aD.o⟩
 case rest=>
  obtain⟨v,bG,aZ,bB,bM,hK⟩:=hcut;have t:aj (E=bif AB X.2&&cH X.1 then(X.1,0)else(Lr.zero,2)):=af (by rw[bQ.o];unfold ij;rw[←bS.o,f.o])
  have bK:=af bB;have RC:=af bM;have bJ:=af hK;have cq:=af bG;have bZ:=af aZ;have aQ:Open wc gz:=⟨_,_,aZ⟩;have sz:(aL wc gz).size=21:=(by unfold aL;rw[aZ];rfl);have bu:ai wc gr 0 21=some (fS X.1 v):=(by unfold ai;rw[bG];rfl);obtain⟨va,vc,rfl⟩:=aq bB;clear bB bM hK bG aZ;go_wp2_with fail
  (with_reducible refine(Gj RC.o).mono ?_)
  rintro e cr ⟨rfl,rfl⟩;cases hd:AB X.2
  ·rw[hd]at t;clear hd;simp only[cond_false];go_wp2;have z:aj (aI bN 23 (wc.setRow gz (fS Lr.zero (.slice none 0 0)).toArray) w.heap.size (.slice none 0 0) []∧ah No w (wc.setRow gz (fS Lr.zero (.slice none 0 0)).toArray)):=af ⟨cJ _ _ _ _,bJ.o.setRow (fun h=>absurd h (bY.2 M.o)) _⟩;have r:ai (wc.setRow gz (fS Lr.zero (.slice none 0 0)).toArray) gz 0 21=some (fS Lr.zero (.slice none 0 0)):=(by rw[aH _ _ _ _ _ aQ];rfl);have u:E=(Lr.zero,2):=(by rw[t.o];rfl);rw[u];clear u bu sz aQ;refine aY (v:= .tuple #[oM Lr.zero (.slice none 0 0),qI 2]) ?_ rfl ⟨.slice none 0 0,rfl,z.o.1,z.o.2⟩;clear z;simp only[fS,Lr.zero,Cm.zero,Bd.zero]at r;simp[results,results12,go_sem,r,Lr.zero,Cm.zero,Bd.zero]
  ·rw[hd]at t;clear hd;simp only[cond_true];have bH:=af (iU wc X.1 (.slice va X.1.ids.length vc) bK.o.reads);obtain⟨B,bL⟩:=ay (cH X.1);rw[←bL]at bH t;clear bL;(go_wp2_with fail);refine bH.o.mono ?_;rintro e b ⟨rfl,a⟩;have J:Open b gz:=a.opened aQ;have aS:(aL b gz).size=21:=a.iu aQ sz;have aO:ai b gr 0 21=some (fS X.1 (.slice va X.1.ids.length vc)):=a.ai bu;have F:=af (bJ.o.aK a);have aG:=af (a.mM bK.o);have b_:=af (a.heap bZ.o (fun h=>h));clear a aQ sz bu;cases B
   ·simp only[fO,cond_false];go_wp2;have z:aj (aI bN 23 (b.setRow gz (fS Lr.zero (.slice none 0 0)).toArray) w.heap.size (.slice none 0 0) []∧ah No w (b.setRow gz (fS Lr.zero (.slice none 0 0)).toArray)):=af ⟨cJ _ _ _ _,F.o.setRow (fun h=>absurd h (bY.2 M.o)) _⟩;have r:ai (b.setRow gz (fS Lr.zero (.slice none 0 0)).toArray) gz 0 21=some (fS Lr.zero (.slice none 0 0)):=(by rw[aH _ _ _ _ _ J];rfl);have u:E=(Lr.zero,2):=(by rw[t.o];rfl);rw[u];clear u aO aS J;refine aY (v:= .tuple #[oM Lr.zero (.slice none 0 0),qI 2]) ?_ rfl ⟨.slice none 0 0,rfl,z.o.1,z.o.2⟩;clear z;simp only[fS,Lr.zero,Cm.zero,Bd.zero]at r;simp[results,results12,go_sem,r,Lr.zero,Cm.zero,Bd.zero]
   ·simp only[fO,cond_true];go_wp2;have k:ah (Own gz) b (b.setRow gz (fS X.1 (.slice va X.1.ids.length vc)).toArray):=(aA (S:=Own gz) b).setRow (fun _=>(rfl:gz=gz)) _;have z:aj (aI bN 23 (b.setRow gz (fS X.1 (.slice va X.1.ids.length vc)).toArray) w.heap.size (.slice va X.1.ids.length vc) X.1.ids∧ah No w (b.setRow gz (fS X.1 (.slice va X.1.ids.length vc)).toArray)):=af ⟨k.owns aG.o (KJ aG.o b_.o (by decide)),F.o.setRow (fun h=>absurd h (bY.2 M.o)) _⟩;have r:ai (b.setRow gz (fS X.1 (.slice va X.1.ids.length vc)).toArray) gz 0 21=some (fS X.1 (.slice va X.1.ids.length vc)):=(by rw[aH _ _ _ _ _ J];rfl);have u:E=(X.1,0):=(by rw[t.o];rfl);rw[u];clear u aO aS J k;refine aY (v:= .tuple #[oM X.1 (.slice va X.1.ids.length vc),qI 0]) ?_ rfl ⟨.slice va X.1.ids.length vc,rfl,z.o.1,z.o.2⟩;clear z;simp[results,results12,go_sem,r]
structure eP (w:World)(g:Nat)(r:dx):Prop where
 box:w.heap[g]?=some (.cells (lE r).toArray 110 (0,0))
 few:∀s,r=some s→(s.length:Int)≤140737488355328
theorem eP.kept {S:Nat→Prop}{w w':World}{g:Nat}{r:dx}(h:eP w g r)(k:ah S w w')(a:¬S g):eP w' g r:=⟨k.heap h.box a,h.few⟩
theorem eP.lt {w:World}{g:Nat}{r:dx}(h:eP w g r):g<w.heap.size:=(bX.1 h.box).1
theorem eP.size {w:World}{g:Nat}{s:Nm}(h:eP w g (some s)):((⟨s.toArray⟩:ByteArray).size:Int)≤140737488355328:=by
 have:=h.few s rfl;have e:(⟨s.toArray⟩:ByteArray).size=s.length:=(by simp[ByteArray.size]);omega
theorem eP.cells {w:World}{g:Nat}{r:dx}(h:eP w g r):∃x y,w.heap[g]?=some (.cells #[x,y] 110 (0,0)):=by
 cases r with
 |none=>exact⟨_,_,h.box⟩
 |some s=>exact⟨_,_,h.box⟩
theorem oy {w:World}{p:Nat}{x y:Value}{t:TypeId}(h:w.heap[p]?=some (.cells #[x,y] t (0,0)))(u v:Value):((w.setCell ⟨p,1,none⟩ v).setCell ⟨p,0,none⟩ u).heap[p]?=some (.cells #[u,v] t (0,0)):=
 aB (aB h v) u
theorem uy {w:World}{g:Nat}{r:dx}(h:eP w g r):Calls prog 135 #[dP g] w fun e w'=>e= .returned (.tuple #[])∧eP w' g none∧ah (Own g) w w':=by
 obtain⟨x,y,hb⟩:=h.cells;have a:=af hb;have b:=h.lt;have d0:w.cell? ⟨g,0,none⟩=some x:=(by rw[bW _ _ _ _ _ _ hb];rfl);have d1:w.cell? ⟨g,1,none⟩=some y:=(by rw[bW _ _ _ _ _ _ hb];rfl);have f0:w.frozen? ⟨g,0,none⟩=false:=bF _ _ _ _ _ hb;have f1:w.frozen? ⟨g,1,none⟩=false:=bF _ _ _ _ _ hb;clear h hb;(go_enter func135,ntmps135);go_wp2;refine pP (nw rfl _ _ _) rfl ?_;refine⟨rfl,⟨oy a.o _ _,fun s h=>by cases h⟩,?_⟩;exact(((aA (S:=Own g) w).setCell (p:=⟨g,1,none⟩) (fun _=>(rfl:g=g)) _).setCell (p:=⟨g,0,none⟩) (fun _=>(rfl:g=g)) _)
theorem Ml {x:UInt8}{t:Nm}(h:fq x t=true):bR (some (x::t))=(0,none):=by
 rw[A8,Qa,jT,h];rfl
theorem O1 {x:UInt8}{t:Nm}(h:fq x t=false):bR (some (x::t))=(jY x t,some (t.drop (x.toNat%128))):=by
 rw[A8,Qa,jT,h];simp only[cond_false];rw[show 1+x.toNat%128=x.toNat%128+1 by omega,DF]
def Ep (w:World)(g:Nat)(p:Int×dx)(e:Ending)(w':World):Prop:=e= .returned (qI p.1)∧eP w' g p.2∧ah (Own g) w w'
theorem O2 {w:World}{g:Nat}(h:eP w g none):Calls prog 62 #[dP g] w (Ep w g (bR none)):=by
 have d:=h.lt;have c1:w.cell? ⟨g,1,none⟩=some (.bool true):=(by simp[World.cell?,h.box,lE]);have C:=af (uy h);clear h;(go_enter func62,ntmps62);(go_wp2_with fail);refine C.o.mono ?_;rintro e w1 ⟨rfl,c,b⟩;have a:=af (And.intro c b);clear c b c1;go_wp2;go_ret;exact⟨rfl,a.o.1,a.o.2⟩
theorem Rh {w:World}{g:Nat}(h:eP w g (some [])):Calls prog 62 #[dP g] w (Ep w g (bR (some []))):=by
 have d:=h.lt;have c0:w.cell? ⟨g,0,none⟩=some (.string ⟨#[]⟩):=(by simp[World.cell?,h.box,lE]);have c1:w.cell? ⟨g,1,none⟩=some (.bool false):=(by simp[World.cell?,h.box,lE]);have C:=af (uy h);clear h;(go_enter func62,ntmps62);(go_wp2_with fail);refine C.o.mono ?_;rintro e w1 ⟨rfl,c,b⟩;have a:=af (And.intro c b);clear c b c0 c1;go_wp2;go_ret;exact⟨rfl,a.o.1,a.o.2⟩
theorem Ri {w:World}{g:Nat}{x:UInt8}{t:Nm}(h:eP w g (some (x::t)))(hb:fq x t=true):Calls prog 62 #[dP g] w (Ep w g (bR (some (x::t)))):=by
 rw[Ml hb];have G:=h.lt;have s:=h.size;obtain⟨T,l⟩:=ay (⟨(x::t).toArray⟩:ByteArray);have b:T.data.toList=x::t:=(by rw[l]);have k:T.size=t.length+1:=by
  have:=fJ List.length b
  simpa using this
 have c0:w.cell? ⟨g,0,none⟩=some (.string T):=(by rw[l];simp[World.cell?,h.box,lE]);have c1:w.cell? ⟨g,1,none⟩=some (.bool false):=(by simp[World.cell?,h.box,lE]);rw[←l]at s;have C:=af (uy h);have hp:0<T.size:=(by omega);have H:(0:Int)<(T.size:Int):=(by omega);have g0:T[0].toNat=x.toNat:=(by rw[KA b hp]);have I:=x.toNat_lt;obtain⟨X,v⟩:=ay (x.toNat);unfold fq at hb;rw[←v]at g0 I hb;have q:Int.tmod (X:Int) 128=((X%128:Nat):Int):=rfl;have F:((T.size:Int)==0)=false:=(by rw[eD];omega);obtain⟨K,hK⟩:=ay (X%128);rw[←hK]at q hb;have J:K<128:=(by omega);clear h l v hK;by_cases A:8<K
 ·have m:(8:Int)<(K:Int):=(by omega);clear hb k b;(go_enter func62,ntmps62);(go_wp2_with fail);refine C.o.mono ?_;rintro e w1 ⟨rfl,d,a⟩;have c:=af (And.intro d a);clear d a c0 c1;go_wp2;go_ret;exact⟨rfl,c.o.1,c.o.2⟩
 ·have m:¬(8:Int)<(K:Int):=(by omega);by_cases hl:t.length<K
  ·have p:(T.size:Int)<1+(K:Int):=(by omega);clear hb k b;(go_enter func62,ntmps62);(go_wp2_with fail);refine C.o.mono ?_;rintro e w1 ⟨rfl,d,a⟩;have c:=af (And.intro d a);clear d a c0 c1;go_wp2;go_ret;exact⟨rfl,c.o.1,c.o.2⟩
  ·have p:¬(T.size:Int)<1+(K:Int):=(by omega);rw[aJ A,aJ hl,qY,qY]at hb;have B:0<K:=by
    rcases Nat.eq_zero_or_pos K with h|h
    ·subst h;cases hb
    ·exact h
   cases t with
   |nil=>simp at hl;omega
   |cons y t'=>
    have r:1<T.size:=(by rw[k,g_];omega);have z:(1:Int)<(T.size:Int):=(by omega);have u:(0:Int)<(K:Int):=(by omega);have g1:T[1].toNat=y.toNat:=(by rw[Oh b r]);have hy:=y.toNat_lt;rw[show((y::t').getD 0 0)=y from rfl]at hb
    obtain⟨Y,n⟩:=ay (y.toNat);rw[←n]at g1 hy hb;by_cases f:Y=0
    ·have i:((Y:Int)==0)=true:=(by rw[f];rfl);clear hb k b n f hl;(go_enter func62,ntmps62);(go_wp2_with fail);refine C.o.mono ?_;rintro e w1 ⟨rfl,d,a⟩;have c:=af (And.intro d a);clear d a c0 c1;go_wp2;go_ret;exact⟨rfl,c.o.1,c.o.2⟩
    ·have i:((Y:Int)==0)=false:=(by rw[eD];omega);have j:(Y==0)=false:=(by rw[eD];exact f);rw[j,jR,qY,mE,tQ,tQ]at hb;have E:(127:Int)<(Y:Int):=(by omega);have D:((K:Int)==8)=true:=(by rw[hb.1];rfl);clear hb k b n f hl j;(go_enter func62,ntmps62);(go_wp2_with fail);refine C.o.mono ?_;rintro e w1 ⟨rfl,d,a⟩;have c:=af (And.intro d a);clear d a c0 c1;go_wp2;go_ret;exact⟨rfl,c.o.1,c.o.2⟩
theorem ql (t:Nm):∀(d j:Nat),gV (t.take j)≤gV (t.take (j+d))
 |0,j=>bM _
 |d+1,j=>by
  refine aU (ql t d j) ?_;by_cases h:j+d<t.length
  ·rw[show j+(d+1)=(j+d)+1 by omega,iK h,jr];omega
  ·rw[fA (by omega),fA (by omega)];exact bM _
theorem O4 {T:ByteArray}{x:UInt8}{t:Nm}(h:T.data.toList=x::t)(j:Nat)(c:j<t.length)(hp:j+1<T.size):T[j+1]=t[j]:=by
 have a:T.data.toList[j+1]'(by rw[h];simp;omega)=t[j]:=(by simp[h]);have b:T.data[j+1]=t[j]:=(by simpa using a);exact b
theorem Tb {w:World}{g:Nat}{x:UInt8}{t:Nm}(h:eP w g (some (x::t)))(hb:fq x t=false):Calls prog 62 #[dP g] w (Ep w g (bR (some (x::t)))):=by
 have aL:=hb;obtain⟨R,aZ⟩:=ay (bR (some (x::t)));rw[←aZ];have H:aj (R=(jY x t,some (t.drop (x.toNat%128)))):=af (by rw[aZ,O1 hb]);clear aZ;have bJ:=h.lt;have bC:=h.size;have HH:=af h;obtain⟨T,aT⟩:=ay (⟨(x::t).toArray⟩:ByteArray);have F:T.data.toList=x::t:=(by rw[aT]);have bD:T.size=t.length+1:=by
  have:=fJ List.length F
  simpa using this
 have c0:w.cell? ⟨g,0,none⟩=some (.string T):=(by rw[aT];simp[World.cell?,h.box,lE]);have c1:w.cell? ⟨g,1,none⟩=some (.bool false):=(by simp[World.cell?,h.box,lE]);have f0:w.frozen? ⟨g,0,none⟩=false:=bF _ _ _ _ _ h.box;rw[←aT]at bC;have hp:0<T.size:=(by omega);have aP:(0:Int)<(T.size:Int):=(by omega);have g0:T[0].toNat=x.toNat:=(by rw[KA F hp]);have bK:=x.toNat_lt;obtain⟨X,aU⟩:=ay (x.toNat);unfold fq at hb;rw[←aU]at g0 bK hb;have aY:=af aU;have av:Int.tmod (X:Int) 128=((X%128:Nat):Int):=rfl;have aN:((T.size:Int)==0)=false:=(by rw[eD];omega);obtain⟨K,hK⟩:=ay (X%128);rw[←hK]at av hb;have aV:=af hK;simp only[Bool.or_eq_false_iff,decide_eq_false_iff_not]at hb;obtain⟨bH,hl,B,C⟩:=hb;have aG:¬(8:Int)<(K:Int):=(by omega);have aO:¬(T.size:Int)<1+(K:Int):=(by omega);have aC:aj (K≤8∧K≤t.length):=af ⟨by omega,by omega⟩;obtain⟨y,hy⟩:=ay (t.getD 0 0);rw[←hy]at B C;have aR:=y.toNat_lt;have aF:=af F;have I:=af bD;have g1:∀d:1<T.size,T[1].toNat=y.toNat:=by
  intro d;cases t with
  |nil=>simp at bD;omega
  |cons y' t'=>rw[Oh F d,hy];rfl
 have Z:jT (x::t)=some (jY x t,1+x.toNat%128):=by
  rw[jT,aL];rfl
 obtain⟨P,l,_⟩:=Fk Z;have aS:aj (jY x t=bif decide (127<X)then -(gV (t.take K):Int)-1 else(gV (t.take K):Int)):=af (by unfold jY;rw[←aU, ←hK])
 have W:(gV (t.take K):Int)≤9223372036854775807:=by
  rw[aS.o]at P l;cases hd:decide (127<X)<;>rw[hd]at P l<;>simp only[cond_true,cond_false]at P l<;>omega
 have aE:=af W;clear P l Z aL aU hK hy F bD aT h W bH hl;by_cases J:K=0
 ·have aq:¬(0:Int)<(K:Int):=(by omega);have O:((K:Int)==8)=false:=(by rw[eD];omega);have aW:=af J;clear B C g1 aR J;(go_enter func62,ntmps62);go_wp2
  go_loopw [4,5] (fun a i wr=>∃p:Nat,1≤p∧p≤K+1∧i=qI p∧a=qI (gV (t.take (p-1)):Nat)∧w=wr) (fun _ i _=>K+1-(intOf i).toNat)
  case atStart=>exact⟨1,bM _,by omega,rfl,rfl,rfl⟩
  case round=>
   obtain⟨p,d,u,rfl,rfl,rfl⟩:=hrel;by_cases f:p≤K
   ·exact absurd d (by have:=aW.o;omega)
   ·have G:p=K+1:=(by omega);subst G;rw[tP];obtain⟨V,hV⟩:=ay (gV (t.take K));have aI:(V:Int)≤9223372036854775807:=(by rw[hV];exact aE.o);have D:=af hV;rw[←hV];obtain⟨M,U⟩:=ay (1+K);obtain⟨M2,q⟩:=ay (K+1);rw[←q];have aH:¬(M2:Int)≤(K:Int):=(by omega);have e1:(1:Int)+(K:Int)=(M:Int):=(by omega);have e2:M≤T.size:=(by have:=aC.o.2;have:=I.o;omega);have e3:(M:Int)≤(T.size:Int):=(by omega);have bE:(0:Int)≤(M:Int):=(by omega);have aD:aj (T.extract M T.size=⟨(t.drop K).toArray⟩):=by
     refine af ?_;have E:(T.extract M T.size).data.toList=t.drop K:=by
      rw[←fP,Lib.extract_toList,aF.o,U,Oz 1 K,DF,fA (by rw[jQ,I.o];omega)]
     cases he:T.extract M T.size;rw[he]at E;simp only at E;congr 1;rw[←E]
    have v:aj (eP (w.setCell ⟨g,0,none⟩ (.string (T.extract M T.size))) g R.2∧ah (Own g) w (w.setCell ⟨g,0,none⟩ (.string (T.extract M T.size)))):=by
     refine af ⟨⟨?_,?_⟩,(aA (S:=Own g) w).setCell (p:=⟨g,0,none⟩) (fun _=>(rfl:g=g)) _⟩
     ·rw[H.o,aD.o, ←aY.o, ←aV.o];exact aB HH.o.box _
     ·rw[H.o];intro s hs;cases hs;have:=HH.o.few _ rfl;rw[g_]at this;rw[jQ];omega
    have n:aj (R.1=bif decide (127<X)then -(V:Int)-1 else(V:Int)):=af (by rw[H.o,aS.o, ←D.o])
    clear hV U q d u f;by_cases b:127<X
    ·have k:(127:Int)<(X:Int):=(by omega);have j:aj (R.1= -(V:Int)-1):=af (by rw[n.o,aM b];rfl);have z:wrap64 (-(V:Int))= -(V:Int):=jP _ ⟨by omega,by omega⟩;have A:wrap64 (-(V:Int)-1)= -(V:Int)-1:=jP _ ⟨by omega,by omega⟩;clear b;go_wp2;go_ret;exact⟨by rw[j.o];rfl,v.o.1,v.o.2⟩
    ·have k:¬(127:Int)<(X:Int):=(by omega);have j:aj (R.1=(V:Int)):=af (by rw[n.o,aJ b];rfl);clear b;go_wp2;go_ret;exact⟨by rw[j.o];rfl,v.o.1,v.o.2⟩
 ·have aq:(0:Int)<(K:Int):=(by omega);have d:1<T.size:=(by have:=aC.o.2;have:=I.o;omega);have ai:(1:Int)<(T.size:Int):=(by omega);replace g1:=g1 d;rw[aM (by omega),mF]at B;obtain⟨Y,bG⟩:=ay (y.toNat);rw[←bG]at g1 B C aR;have aK:((Y:Int)==0)=false:=(by rw[eD]at B⊢;omega);clear B bG;by_cases L:K=8
  ·have O:((K:Int)==8)=true:=(by rw[L];rfl);rw[aM L,mF,xR]at C;have bf:¬(127:Int)<(Y:Int):=(by omega);clear C L J;(go_enter func62,ntmps62);go_wp2
   go_loopw [4,5] (fun a i wr=>∃p:Nat,1≤p∧p≤K+1∧i=qI p∧a=qI (gV (t.take (p-1)):Nat)∧w=wr) (fun _ i _=>K+1-(intOf i).toNat)
   case atStart=>exact⟨1,bM _,by omega,rfl,rfl,rfl⟩
   case round=>
    obtain⟨p,d,u,rfl,rfl,rfl⟩:=hrel;by_cases f:p≤K
    ·have r:p-1<t.length:=(by have:=aC.o.2;omega);have bu:p<T.size:=(by rw[I.o];omega);have aQ:(p:Int)<(T.size:Int):=(by omega);have bq:(p:Int)≤(K:Int):=(by omega);have ai:(1:Int)≤(p:Int):=(by omega);obtain⟨c,hc⟩:=ay (t[p-1].toNat);have bn:c<256:=(by rw[hc];exact t[p-1].toNat_lt);have bI:T[p].toNat=c:=by
      have:=O4 aF.o (p-1) r (by omega);have e:T[p]=t[p-1]:=(by rw[←this];congr 1;omega);rw[e,hc]
     have m:gV (t.take ((p+1)-1))=256*gV (t.take (p-1))+c:=by
      rw[hc, ←jr,show(p+1)-1=(p-1)+1 by omega,iK r]
     have hle:=ql t (K-p) (p+1-1);rw[show p+1-1+(K-p)=K by omega]at hle;obtain⟨N,W⟩:=ay (gV (t.take (p-1)));rw[←W]at m⊢;obtain⟨m1,au⟩:=ay (256*N);obtain⟨Q,l⟩:=ay (256*N+c);have bA:(256:Int)*(N:Int)=(m1:Int):=(by omega);have bB:(m1:Int)+(c:Int)=(Q:Int):=(by omega);have bg:(Q:Int)≤9223372036854775807:=(by have:=aE.o;omega);have bk:(m1:Int)≤9223372036854775807:=(by omega);have z:wrap64 (m1:Int)=(m1:Int):=jP _ ⟨by omega,by omega⟩;have A:wrap64 (Q:Int)=(Q:Int):=jP _ ⟨by omega,by omega⟩;rw[←l]at m;have ak:=af m;clear au l;have aX:=af (And.intro d f);have bp:(p:Int)≤8:=(by omega);clear hle m W hc d u f r z A g1 aK bf O aq aN av g0 aO aG aP hp c1 f0;go_wp2;obtain⟨k1,bL⟩:=aX.o;exact⟨⟨p+1,by omega,by omega,rfl,by rw[ak.o],trivial⟩,by simp[intOf];omega⟩
    ·have G:p=K+1:=(by omega);subst G;rw[tP];obtain⟨V,hV⟩:=ay (gV (t.take K));have aI:(V:Int)≤9223372036854775807:=(by rw[hV];exact aE.o);have D:=af hV;rw[←hV];obtain⟨M,U⟩:=ay (1+K);obtain⟨M2,q⟩:=ay (K+1);rw[←q];have aH:¬(M2:Int)≤(K:Int):=(by omega);have e1:(1:Int)+(K:Int)=(M:Int):=(by omega);have e2:M≤T.size:=(by have:=aC.o.2;have:=I.o;omega);have e3:(M:Int)≤(T.size:Int):=(by omega);have bE:(0:Int)≤(M:Int):=(by omega);have aD:aj (T.extract M T.size=⟨(t.drop K).toArray⟩):=by
      refine af ?_;have E:(T.extract M T.size).data.toList=t.drop K:=by
       rw[←fP,Lib.extract_toList,aF.o,U,Oz 1 K,DF,fA (by rw[jQ,I.o];omega)]
      cases he:T.extract M T.size;rw[he]at E;simp only at E;congr 1;rw[←E]
     have v:aj (eP (w.setCell ⟨g,0,none⟩ (.string (T.extract M T.size))) g R.2∧ah (Own g) w (w.setCell ⟨g,0,none⟩ (.string (T.extract M T.size)))):=by
      refine af ⟨⟨?_,?_⟩,(aA (S:=Own g) w).setCell (p:=⟨g,0,none⟩) (fun _=>(rfl:g=g)) _⟩
      ·rw[H.o,aD.o, ←aY.o, ←aV.o];exact aB HH.o.box _
      ·rw[H.o];intro s hs;cases hs;have:=HH.o.few _ rfl;rw[g_]at this;rw[jQ];omega
     have n:aj (R.1=bif decide (127<X)then -(V:Int)-1 else(V:Int)):=af (by rw[H.o,aS.o, ←D.o])
     clear hV U q d u f;by_cases b:127<X
     ·have k:(127:Int)<(X:Int):=(by omega);have j:aj (R.1= -(V:Int)-1):=af (by rw[n.o,aM b];rfl);have z:wrap64 (-(V:Int))= -(V:Int):=jP _ ⟨by omega,by omega⟩;have A:wrap64 (-(V:Int)-1)= -(V:Int)-1:=jP _ ⟨by omega,by omega⟩;clear b;go_wp2;go_ret;exact⟨by rw[j.o];rfl,v.o.1,v.o.2⟩
     ·have k:¬(127:Int)<(X:Int):=(by omega);have j:aj (R.1=(V:Int)):=af (by rw[n.o,aJ b];rfl);clear b;go_wp2;go_ret;exact⟨by rw[j.o];rfl,v.o.1,v.o.2⟩
  ·have O:((K:Int)==8)=false:=(by rw[eD];omega);clear C L J;(go_enter func62,ntmps62);go_wp2
   go_loopw [4,5] (fun a i wr=>∃p:Nat,1≤p∧p≤K+1∧i=qI p∧a=qI (gV (t.take (p-1)):Nat)∧w=wr) (fun _ i _=>K+1-(intOf i).toNat)
   case atStart=>exact⟨1,bM _,by omega,rfl,rfl,rfl⟩
   case round=>
    obtain⟨p,d,u,rfl,rfl,rfl⟩:=hrel;by_cases f:p≤K
    ·have r:p-1<t.length:=(by have:=aC.o.2;omega);have bu:p<T.size:=(by rw[I.o];omega);have aQ:(p:Int)<(T.size:Int):=(by omega);have bq:(p:Int)≤(K:Int):=(by omega);have ai:(1:Int)≤(p:Int):=(by omega);obtain⟨c,hc⟩:=ay (t[p-1].toNat);have bn:c<256:=(by rw[hc];exact t[p-1].toNat_lt);have bI:T[p].toNat=c:=by
      have:=O4 aF.o (p-1) r (by omega);have e:T[p]=t[p-1]:=(by rw[←this];congr 1;omega);rw[e,hc]
     have m:gV (t.take ((p+1)-1))=256*gV (t.take (p-1))+c:=by
      rw[hc, ←jr,show(p+1)-1=(p-1)+1 by omega,iK r]
     have hle:=ql t (K-p) (p+1-1);rw[show p+1-1+(K-p)=K by omega]at hle;obtain⟨N,W⟩:=ay (gV (t.take (p-1)));rw[←W]at m⊢;obtain⟨m1,au⟩:=ay (256*N);obtain⟨Q,l⟩:=ay (256*N+c);have bA:(256:Int)*(N:Int)=(m1:Int):=(by omega);have bB:(m1:Int)+(c:Int)=(Q:Int):=(by omega);have bg:(Q:Int)≤9223372036854775807:=(by have:=aE.o;omega);have bk:(m1:Int)≤9223372036854775807:=(by omega);have z:wrap64 (m1:Int)=(m1:Int):=jP _ ⟨by omega,by omega⟩;have A:wrap64 (Q:Int)=(Q:Int):=jP _ ⟨by omega,by omega⟩;rw[←l]at m;have ak:=af m;clear au l;have aX:=af (And.intro d f);have bp:(p:Int)≤8:=(by omega);clear hle m W hc d u f r z A g1 aK O aq aN av g0 aO aG aP hp c1 f0;go_wp2;obtain⟨k1,bL⟩:=aX.o;exact⟨⟨p+1,by omega,by omega,rfl,by rw[ak.o],trivial⟩,by simp[intOf];omega⟩
    ·have G:p=K+1:=(by omega);subst G;rw[tP];obtain⟨V,hV⟩:=ay (gV (t.take K));have aI:(V:Int)≤9223372036854775807:=(by rw[hV];exact aE.o);have D:=af hV;rw[←hV];obtain⟨M,U⟩:=ay (1+K);obtain⟨M2,q⟩:=ay (K+1);rw[←q];have aH:¬(M2:Int)≤(K:Int):=(by omega);have e1:(1:Int)+(K:Int)=(M:Int):=(by omega);have e2:M≤T.size:=(by have:=aC.o.2;have:=I.o;omega);have e3:(M:Int)≤(T.size:Int):=(by omega);have bE:(0:Int)≤(M:Int):=(by omega);have aD:aj (T.extract M T.size=⟨(t.drop K).toArray⟩):=by
      refine af ?_;have E:(T.extract M T.size).data.toList=t.drop K:=by
       rw[←fP,Lib.extract_toList,aF.o,U,Oz 1 K,DF,fA (by rw[jQ,I.o];omega)]
      cases he:T.extract M T.size;rw[he]at E;simp only at E;congr 1;rw[←E]
     have v:aj (eP (w.setCell ⟨g,0,none⟩ (.string (T.extract M T.size))) g R.2∧ah (Own g) w (w.setCell ⟨g,0,none⟩ (.string (T.extract M T.size)))):=by
      refine af ⟨⟨?_,?_⟩,(aA (S:=Own g) w).setCell (p:=⟨g,0,none⟩) (fun _=>(rfl:g=g)) _⟩
      ·rw[H.o,aD.o, ←aY.o, ←aV.o];exact aB HH.o.box _
      ·rw[H.o];intro s hs;cases hs;have:=HH.o.few _ rfl;rw[g_]at this;rw[jQ];omega
     have n:aj (R.1=bif decide (127<X)then -(V:Int)-1 else(V:Int)):=af (by rw[H.o,aS.o, ←D.o])
     clear hV U q d u f;by_cases b:127<X
     ·have k:(127:Int)<(X:Int):=(by omega);have j:aj (R.1= -(V:Int)-1):=af (by rw[n.o,aM b];rfl);have z:wrap64 (-(V:Int))= -(V:Int):=jP _ ⟨by omega,by omega⟩;have A:wrap64 (-(V:Int)-1)= -(V:Int)-1:=jP _ ⟨by omega,by omega⟩;clear b;go_wp2;go_ret;exact⟨by rw[j.o];rfl,v.o.1,v.o.2⟩
     ·have k:¬(127:Int)<(X:Int):=(by omega);have j:aj (R.1=(V:Int)):=af (by rw[n.o,aJ b];rfl);clear b;go_wp2;go_ret;exact⟨by rw[j.o];rfl,v.o.1,v.o.2⟩
theorem gE {w:World}{g:Nat}{r:dx}(h:eP w g r):Calls prog 62 #[dP g] w fun e w'=>e= .returned (qI (bR r).1)∧eP w' g (bR r).2∧ah (Own g) w w':=by
 match r,h with
 |none,h=>exact O2 h
 |some [],h=>exact Rh h
 |some (x::t),h=>
  cases hb:fq x t with
  |true=>exact Ri h hb
  |false=>exact Tb h hb
end
