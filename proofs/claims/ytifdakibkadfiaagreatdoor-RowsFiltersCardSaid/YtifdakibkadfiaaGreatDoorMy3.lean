import Derived.Test.YtifdakibkadfiaaGreatDoorMe1
set_option linter.all false
set_option maxRecDepth 100000
set_option maxHeartbeats 8000000
section
open Go Go.Proofs
namespace Go.Ev
def L11:FuncId → List AV → List ABlk → Option (AV × List ABlk):=fun f args h=>match f,args with
 | 182,[.c (.str a),.c (.str b)]=>some (cmpStr a b,h)
 | _,_=>none
theorem L11_ok:CallOK Tryz.prog L11:=by
 intro f args h r h' hx
 unfold L11 at hx
 split at hx
 ·cases hx;exact Good.ext Tryz.func182 rfl rfl (by rfl) (by rfl) rfl fun w N ρ vs hl hr=>compare_run _ _ _ w N ρ vs hl hr
 ·cases hx
theorem live_good:Good Tryz.prog 10 [] [] (.c (.bool true)) []:=Good.reckonedV (fun t=>Nat.beq t 83 || Nat.beq t 94 || Nat.beq t 97 || Nat.beq t 46) mixed16 L11_ok (fuel:=1000) (by kernel_rfl)
end Go.Ev
end
