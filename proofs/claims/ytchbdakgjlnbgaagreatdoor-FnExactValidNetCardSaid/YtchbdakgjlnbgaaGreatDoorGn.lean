/-
  Contracts of functions and laws of the layer over the walk.
-/
import Derived.Test.YtchbdakgjlnbgaaGreatDoorProg
import Derived.Lib.AppendZerosOnto
import Derived.Lib.SliceRun
import Derived.Lib.Walk
import Derived.WalkKit
import Derived.RowKit
namespace Go.Hl
set_option maxRecDepth 100000
open Go.Proofs
set_option linter.unusedVariables false
set_option linter.unusedSimpArgs false
open Go.RowKit Go.Lib
set_option maxHeartbeats 4000000 in
theorem aYB (n G:Nat) (w:World) (o:Obj) (h0:0<n) (hn:n<=1048576) (hGn:n<=G) (cA0:G<=9223372036854775807) (hrz:∀ ty,(Builtin.append_ #[25,3] ty #[.slice none 0 0,.int .i64 (n:Int)]).run Tryz.prog w=.ok (.slice (some ⟨w.heap.size,0,none⟩) n G) (w.drew.alloc o)) :
  Calls Tryz.prog 261 #[.slice none 0 0,.int .i64 n] w λe w'=>e=.returned (.slice (some ⟨w.heap.size,0,none⟩) 0 G)/\w'=w.drew.alloc o:=by
 have h1:¬((n:Int)<0):=by omega
 have h2:wrap64 (((0:Nat):Int)-((0:Nat):Int))=0:=by unfold wrap64;omega
 have h3:wrap64 ((n:Int)-0)=(n:Int):=by unfold wrap64;omega
 have h4:(n:Int) > 0:=by omega
 go_enter Tryz.func261,Tryz.ntmps261
 go_wp2_with (at_builtin;refine Lib.wpList_append_run _ rfl _ _ _ _ rfl _ _ rfl rfl _ _ (hrz _) ?_)
 all_goals(go_ret;exact⟨rfl,rfl⟩)
set_option maxHeartbeats 2000000 in
theorem aYC (w:World):Calls Tryz.prog 261 #[.slice none 0 0,.int .i64 0] w λe w'=>e=.returned (.slice none 0 0)/\w'=w:=by
 go_enter Tryz.func261,Tryz.ntmps261
 go_wp2
 go_ret
 exact⟨rfl,rfl⟩
end Go.Hl
