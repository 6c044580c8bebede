import Derived.Test.YtimjepimjfcalaaGreatDoorMe1
set_option linter.all false
set_option maxRecDepth 100000
set_option maxHeartbeats 8000000
section
open Go Go.Proofs
namespace Go.Ev
def L16:FuncId → List AV → List ABlk → Option (AV × List ABlk):=fun f args h=>match f,args with
 | 128,[.c (.str a),.c (.str b)]=>some (cmpStr a b,h)
 | 190,[.c (.str a),.c (.int .u8 b)]=>some (countStr a b,h)
 | 195,[.c (.str a),.c (.int .u8 b)]=>some (idxByte a b,h)
 | _,_=>none
theorem idxByte_cl (a:ByteArray) (c:Int):(idxByte a c).cl=true:=by unfold idxByte;split <;> rfl
theorem L16_ok:CallOK Tryz.prog L16:=by
 intro f args h r h' hx
 unfold L16 at hx
 split at hx
 ·cases hx;exact Good.ext Tryz.func128 rfl rfl (by rfl) (by rfl) rfl fun w N ρ vs hl hr=>compare_run _ _ _ w N ρ vs hl hr
 ·cases hx;exact Good.ext Tryz.func190 rfl rfl (by rfl) (by rfl) rfl fun w N ρ vs hl hr=>count_run _ _ _ w N ρ vs hl hr
 ·cases hx;exact Good.ext Tryz.func195 rfl rfl (by rfl) (by rfl) (idxByte_cl _ _) fun w N ρ vs hl hr=>idxByte_run _ _ _ w N ρ vs hl hr
 ·cases hx
theorem live_good:Good Tryz.prog 8 [] [] (.c (.bool true)) []:=Good.reckoned mixed16 L16_ok (fuel:=1000) (by kernel_rfl)
end Go.Ev
end
