/- Lemmas. -/
import Derived.Test.YtpbpgjfdledgoaaGreatDoorZo03
import Derived.Test.YtpbpgjfdledgoaaGreatDoorZo14
import Derived.BigQuiet
import Derived.Deep.RegionHeld3
set_option linter.all false
set_option maxRecDepth 100000
set_option maxHeartbeats 8000000
open Array renaming getD_eq_getD_getElem?→K4
namespace Go.Proofs.YtpbpgjfdledgoaaGreatDoor
open Go.Proofs.Tryz
open Go.RowKit Go.Joins Go.Deep
def cl (n:Int):Int:=bif decide (n< -1073741824)then -1073741824 else bif decide (1073741824<n)then 1073741824 else n
theorem Ko {n:Int}(h:n< -1073741824):cl n= -1073741824:=by unfold cl;rw[aM h];rfl
theorem Kq {n:Int}(h:1073741824<n):cl n=1073741824:=by unfold cl;rw[aJ (by omega),aM h];rfl
theorem tE {n:Int}(h: -1073741824≤n)(k:n≤1073741824):cl n=n:=by unfold cl;rw[aJ (by omega),aJ (by omega)];rfl
theorem xB (n:Int): -1073741824≤cl n∧cl n≤1073741824:=by
 by_cases h:n< -1073741824
 ·rw[Ko h];omega
 ·by_cases k:1073741824<n
  ·rw[Kq k];omega
  ·rw[tE (by omega) (by omega)];omega
theorem LB (w:World)(n:Int):Calls prog 294 #[qI n] w (qW w ((qI (cl n)))):=by
 by_cases h:n< -1073741824
 ·rw[Ko h];(go_enter func294,ntmps294);go_wp2
  all_goals go_ret
  all_goals exact⟨by first|rfl|(simp only[K4];simp;omega),rfl⟩
 ·by_cases k:1073741824<n
  ·rw[Kq k];(go_enter func294,ntmps294);go_wp2
   all_goals go_ret
   all_goals exact⟨by first|rfl|(simp only[K4];simp;omega),rfl⟩
  ·rw[tE (by omega) (by omega)];(go_enter func294,ntmps294);go_wp2
   all_goals go_ret
   all_goals exact⟨by first|rfl|(simp only[K4];simp;omega),rfl⟩
theorem xC (a b:Int):(if b>a then b else a)=max a b:=by
 by_cases h:b>a
 ·rw[dM h];omega
 ·rw[fC h];omega
@[go_sem] theorem Uc {P:Program} (w:World) (ts:Array TypeId) (t:TypeId) (a b c d:Int):(Builtin.max_ ts t #[qI a,qI b,qI c,qI d]).run P w= .ok (qI (max (max (max a b) c) d)) w:=by
  rw[←xC (max (max a b) c), ←xC (max a b), ←xC a];simp[Builtin.max_,Builtin.max2]
def far (x y u v:Int):Int:=max (max (max (cl x-cl u) (-(cl x-cl u))) (cl y-cl v)) (-(cl y-cl v))
