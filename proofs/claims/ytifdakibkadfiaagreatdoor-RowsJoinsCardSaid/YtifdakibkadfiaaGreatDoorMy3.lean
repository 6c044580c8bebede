import Derived.Test.YtifdakibkadfiaaGreatDoorMe1
set_option linter.all false
set_option maxRecDepth 100000
set_option maxHeartbeats 8000000
section
open Go Go.Proofs
namespace Go.Ev
def L11:FuncId → List AV → List zf → Option (AV × List zf):=fun f args h=>match f,args with
 | 182,[.c (.str a),.c (.str b)]=>some (zjO a b,h)
 | _,_=>none
theorem zlv:jw Tryz.prog L11:=by
 intro f args h r h' hx
 unfold L11 at hx
 split at hx
 ·cases hx;exact Good.ext Tryz.func182 rfl rfl (by rfl) (by rfl) rfl fun w N ρ vs hl hr=>Vq _ _ _ w N ρ vs hl hr
 ·cases hx
theorem zfF:Good Tryz.prog 10 [] [] (.c (.bool true)) []:=Good.zeH (fun t=>Nat.beq t 83 || Nat.beq t 94 || Nat.beq t 97 || Nat.beq t 46) zez zlv (fuel:=1000) (by kernel_rfl)
end Go.Ev
end
