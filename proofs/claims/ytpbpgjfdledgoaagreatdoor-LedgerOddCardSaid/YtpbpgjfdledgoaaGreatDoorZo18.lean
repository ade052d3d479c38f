/- Lemmas. -/
import Derived.Test.YtpbpgjfdledgoaaGreatDoorZo17
import Derived.Deep.DeepCutAuto
set_option linter.all false
set_option maxRecDepth 100000
set_option maxHeartbeats 8000000
namespace Go.Proofs.YtpbpgjfdledgoaaGreatDoor
open Go.RowKit Go.Joins Go.Deep Go.Sort
abbrev iE (n:cO):Value:= .agg #[qI n.s,qI n.i,qI n.g]
abbrev mr (b:Bd):Value:= .agg #[qI b.s,qI b.i,qI b.g,qI b.m,qI b.x,qI b.y,qI b.vx,qI b.vy,qI b.hp,qI b.pw,qI b.lf]
def Grown (w w':World):Prop:=∃q os,w'=grow (w.drewN q) os
theorem Grown.keeps {w w':World}(h:Grown w w'):ah No w w':=by
 obtain⟨q,os,rfl⟩:=h;exact⟨rfl,rfl,rfl,by rw[size_grow];exact Nat.le_add_right _ _,fun k a _=>heap_grow_old _ os a⟩
theorem Grown.same (w:World):Grown w w:=⟨0,#[],by rw[grow_empty];rfl⟩
theorem Grown.alloc {w w':World}(h:Grown w w')(o:Obj):Grown w (w'.alloc o):=by
 obtain⟨q,os,rfl⟩:=h;exact⟨q,os++#[o],by rw[alloc_eq_grow,grow_grow]⟩
theorem Aw (w:World)(os:Array Obj)(n:Nat):(grow w os).drewN n=grow (w.drewN n) os:=rfl
theorem Grown.drewN {w w':World}(h:Grown w w')(n:Nat):Grown w (w'.drewN n):=by
 obtain⟨q,os,rfl⟩:=h;exact⟨q+n,os,by rw[Aw,World.drewN_drewN]⟩
theorem Grown.drew {w w':World}(h:Grown w w'):Grown w w'.drew:=h.drewN 1
theorem Grown.trans {a b c:World}(h:Grown a b)(k:Grown b c):Grown a c:=by
 obtain⟨q,os,rfl⟩:=h;obtain⟨p,os',rfl⟩:=k;exact⟨q+p,os++os',by rw[Aw,World.drewN_drewN,grow_grow]⟩
