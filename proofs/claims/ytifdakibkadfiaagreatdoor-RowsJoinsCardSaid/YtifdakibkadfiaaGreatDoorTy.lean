/-  The program's types, as facts. -/
import Derived.KernelRfl
import Derived.Test.YtifdakibkadfiaaGreatDoorEvTwo
import Derived.Test.YtifdakibkadfiaaGreatDoorProg
set_option linter.all false
set_option maxRecDepth 100000
set_option maxHeartbeats 8000000
open Go Go.Proofs
namespace Go.Ev
noncomputable def EE:Env:=zmn Tryz.prog (fun t=>Nat.beq t 83 || Nat.beq t 94 || Nat.beq t 97 || Nat.beq t 46)
theorem zht:EE.und 1=some (TypeDesc.func { toList:=[] } { toList:=[] } false):=by kernel_rfl
theorem zeS:EE.size 1=some 1:=by kernel_rfl
theorem zcE:EE.bytes 1=some 8:=by kernel_rfl
theorem zfr:EE.zero 1=some [Ev.CV.nfn]:=by kernel_rfl
theorem zhY:EE.und 2=some (TypeDesc.int IntKind.i64):=by kernel_rfl
theorem ze7:EE.size 2=some 1:=by kernel_rfl
theorem ziA:EE.und 3=some (TypeDesc.int IntKind.i64):=by kernel_rfl
theorem zfb:EE.size 3=some 1:=by kernel_rfl
theorem zdf:EE.bytes 3=some 8:=by kernel_rfl
theorem zeM:EE.zero 3=some [Ev.CV.int IntKind.i64 (0)]:=by kernel_rfl
theorem zic:EE.und 4=some TypeDesc.bool:=by kernel_rfl
theorem zes:EE.size 4=some 1:=by kernel_rfl
theorem zdR:EE.bytes 4=some 1:=by kernel_rfl
theorem zgN:EE.zero 4=some [Ev.CV.bool false]:=by kernel_rfl
theorem zgS:EE.zval 4=some (Ev.AV.c (Ev.CV.bool false)):=by kernel_rfl
theorem zhC:EE.und 5=some (TypeDesc.int IntKind.u8):=by kernel_rfl
theorem zgr:EE.size 5=some 1:=by kernel_rfl
theorem zhc:EE.zero 5=some [Ev.CV.int IntKind.u8 (0)]:=by kernel_rfl
theorem zh4:EE.und 9=some TypeDesc.string:=by kernel_rfl
theorem zg3:EE.size 9=some 1:=by kernel_rfl
theorem zd5:EE.bytes 9=some 16:=by kernel_rfl
theorem zfm:EE.zero 9=some [Ev.CV.str { data:=#[] }]:=by kernel_rfl
theorem zg9:EE.und 22=some (TypeDesc.slice 47):=by kernel_rfl
theorem zcP:EE.size 22=some 1:=by kernel_rfl
theorem Yt:EE.bytes 22=some 24:=by kernel_rfl
theorem zcw:EE.zero 22=some [Ev.CV.nl]:=by kernel_rfl
theorem zgR:EE.und 24=some (TypeDesc.struct { toList:=[{ name:="Wide",type:=3,offset:=0,embedded:=false,tag:="",pkgPath:="",byteOffset:=0 },{ name:="L",type:=22,offset:=1,embedded:=false,tag:="",pkgPath:="",byteOffset:=8 }] }):=by kernel_rfl
theorem zdc:EE.size 24=some 2:=by kernel_rfl
theorem zgL:EE.und 26=some (TypeDesc.struct { toList:=[{ name:="Kind",type:=3,offset:=0,embedded:=false,tag:="",pkgPath:="",byteOffset:=0 },{ name:="I",type:=2,offset:=1,embedded:=false,tag:="",pkgPath:="",byteOffset:=8 },{ name:="S",type:=9,offset:=2,embedded:=false,tag:="",pkgPath:="",byteOffset:=16 }] }):=by kernel_rfl
theorem zgc:EE.cmp 26=true:=by kernel_rfl
theorem zcY:EE.size 26=some 3:=by kernel_rfl
theorem zaK:EE.bytes 26=some 32:=by kernel_rfl
theorem zdP:EE.zero 26=some [Ev.CV.int IntKind.i64 (0),Ev.CV.int IntKind.i64 (0),Ev.CV.str { data:=#[] }]:=by kernel_rfl
theorem zgu:EE.und 27=some (TypeDesc.slice 29):=by kernel_rfl
theorem zds:EE.size 27=some 1:=by kernel_rfl
theorem Yr:EE.bytes 27=some 24:=by kernel_rfl
theorem zct:EE.zero 27=some [Ev.CV.nl]:=by kernel_rfl
theorem zeL:EE.und 29=some (TypeDesc.struct { toList:=[{ name:="Op",type:=9,offset:=0,embedded:=false,tag:="",pkgPath:="",byteOffset:=0 },{ name:="V",type:=26,offset:=1,embedded:=false,tag:="",pkgPath:="",byteOffset:=16 },{ name:="Table",type:=9,offset:=4,embedded:=false,tag:="",pkgPath:="",byteOffset:=48 },{ name:="Name",type:=9,offset:=5,embedded:=false,tag:="",pkgPath:="",byteOffset:=64 },{ name:="L",type:=27,offset:=6,embedded:=false,tag:="",pkgPath:="",byteOffset:=80 }] }):=by kernel_rfl
theorem zeW:EE.cmp 29=true:=by kernel_rfl
theorem zcB:EE.size 29=some 7:=by kernel_rfl
theorem Yo:EE.bytes 29=some 104:=by kernel_rfl
theorem zdN:EE.zero 29=some [Ev.CV.str { data:=#[] },Ev.CV.int IntKind.i64 (0),Ev.CV.int IntKind.i64 (0),Ev.CV.str { data:=#[] },Ev.CV.str { data:=#[] },Ev.CV.str { data:=#[] },Ev.CV.nl]:=by kernel_rfl
theorem zgT:EE.und 34=some (TypeDesc.int IntKind.i64):=by kernel_rfl
theorem zdg:EE.size 34=some 1:=by kernel_rfl
theorem YM:EE.bytes 34=some 8:=by kernel_rfl
theorem zdB:EE.zero 34=some [Ev.CV.int IntKind.i64 (0)]:=by kernel_rfl
theorem zgZ:EE.und 46=some (TypeDesc.slice 26):=by kernel_rfl
theorem zdy:EE.size 46=some 1:=by kernel_rfl
theorem zaU:EE.bytes 46=some 24:=by kernel_rfl
theorem zcL:EE.zero 46=some [Ev.CV.nl]:=by kernel_rfl
theorem zgv:EE.und 47=some (TypeDesc.slice 26):=by kernel_rfl
theorem zdC:EE.size 47=some 1:=by kernel_rfl
theorem zaI:EE.bytes 47=some 24:=by kernel_rfl
theorem zdw:EE.zero 47=some [Ev.CV.nl]:=by kernel_rfl
theorem zgo:EE.und 74=some (TypeDesc.slice 4):=by kernel_rfl
theorem zdU:EE.size 74=some 1:=by kernel_rfl
theorem YX:EE.bytes 74=some 24:=by kernel_rfl
theorem zdq:EE.zero 74=some [Ev.CV.nl]:=by kernel_rfl
theorem zcg:EE.und 105=some (TypeDesc.map 9 4):=by kernel_rfl
theorem YT:EE.size 105=some 1:=by kernel_rfl
theorem XH:EE.bytes 105=some 8:=by kernel_rfl
theorem Yv:EE.zero 105=some [Ev.CV.nmp]:=by kernel_rfl
theorem zd2:EE.und 109=some (TypeDesc.func { toList:=[47] } { toList:=[4] } false):=by kernel_rfl
theorem YC:EE.size 109=some 1:=by kernel_rfl
theorem W4:EE.bytes 109=some 8:=by kernel_rfl
theorem Yl:EE.zero 109=some [Ev.CV.nfn]:=by kernel_rfl
theorem zcG:EE.und 123=some (TypeDesc.slice 9):=by kernel_rfl
theorem YS:EE.size 123=some 1:=by kernel_rfl
theorem XX:EE.bytes 123=some 24:=by kernel_rfl
theorem Y6:EE.zero 123=some [Ev.CV.nl]:=by kernel_rfl
theorem zcv:EE.und 125=some (TypeDesc.slice 5):=by kernel_rfl
theorem zdj:EE.und 136=some (TypeDesc.func { toList:=[46] } { toList:=[26,34] } false):=by kernel_rfl
theorem YU:EE.size 136=some 1:=by kernel_rfl
theorem Xq:EE.bytes 136=some 8:=by kernel_rfl
theorem zaL:EE.zero 136=some [Ev.CV.nfn]:=by kernel_rfl
theorem zda:EE.und 138=some (TypeDesc.struct { toList:=[{ name:="least",type:=3,offset:=0,embedded:=false,tag:="",pkgPath:="boscage/eval",byteOffset:=0 },{ name:="most",type:=3,offset:=1,embedded:=false,tag:="",pkgPath:="boscage/eval",byteOffset:=8 },{ name:="do",type:=136,offset:=2,embedded:=false,tag:="",pkgPath:="boscage/eval",byteOffset:=16 }] }):=by kernel_rfl
theorem zaP:EE.size 138=some 3:=by kernel_rfl
theorem YN:EE.zero 138=some [Ev.CV.int IntKind.i64 (0),Ev.CV.int IntKind.i64 (0),Ev.CV.nfn]:=by kernel_rfl
theorem zde:EE.und 143=some (TypeDesc.slice 22):=by kernel_rfl
theorem Y8:EE.size 143=some 1:=by kernel_rfl
theorem Xk:EE.bytes 143=some 24:=by kernel_rfl
theorem Y0:EE.zero 143=some [Ev.CV.nl]:=by kernel_rfl
theorem zdV:EE.und 165=some (TypeDesc.slice 3):=by kernel_rfl
theorem zcZ:EE.und 167=some (TypeDesc.func { toList:=[26] } { toList:=[26,34] } false):=by kernel_rfl
theorem zaT:EE.size 167=some 1:=by kernel_rfl
theorem zcC:EE.und 168=some (TypeDesc.func { toList:=[26,26] } { toList:=[26,34] } false):=by kernel_rfl
theorem Ys:EE.size 168=some 1:=by kernel_rfl
theorem zcS:EE.und 197=some (TypeDesc.slice 201):=by kernel_rfl
theorem zdo:EE.und 201=some (TypeDesc.struct { toList:=[{ name:="any",type:=4,offset:=0,embedded:=false,tag:="",pkgPath:="boscage/boscageref04",byteOffset:=0 },{ name:="one",type:=4,offset:=1,embedded:=false,tag:="",pkgPath:="boscage/boscageref04",byteOffset:=1 },{ name:="c",type:=5,offset:=2,embedded:=false,tag:="",pkgPath:="boscage/boscageref04",byteOffset:=2 }] }):=by kernel_rfl
theorem YD:EE.size 201=some 3:=by kernel_rfl
theorem Xe:EE.bytes 201=some 3:=by kernel_rfl
theorem za2:EE.zero 201=some [Ev.CV.bool false,Ev.CV.bool false,Ev.CV.int IntKind.u8 (0)]:=by kernel_rfl
attribute [go_sem] zht zeS zcE zfr zhY ze7 ziA zfb zdf zeM zic zes zdR zgN zgS zhC zgr zhc zh4 zg3 zd5 zfm zg9 zcP Yt zcw zgR zdc
attribute [go_sem] zgL zgc zcY zaK zdP zgu zds Yr zct zeL zeW zcB Yo zdN zgT zdg YM zdB zgZ zdy zaU zcL zgv zdC zaI zdw
attribute [go_sem] zgo zdU YX zdq
attribute [go_sem] zcg YT XH Yv zd2 YC W4 Yl zcG
attribute [go_sem] YS XX Y6 zcv zdj YU Xq zaL zda zaP YN zde Y8 Xk Y0
attribute [go_sem] zdV zcZ zaT zcC Ys
attribute [go_sem] zcS zdo
attribute [go_sem] YD Xe za2
theorem zhN:EE.vec 2=false:=rfl
theorem zig:EE.vec 3=false:=rfl
theorem zjr:EE.vec 4=false:=rfl
theorem zh0:EE.vec 5=false:=rfl
theorem zin:EE.vec 9=false:=rfl
theorem zg8:EE.vec 22=false:=rfl
theorem ze5:EE.vec 26=false:=rfl
theorem zg1:EE.vec 29=false:=rfl
theorem zfB:EE.vec 41=false:=rfl
theorem zfS:EE.vec 46=true:=rfl
theorem zey:EE.vec 47=false:=rfl
theorem zfx:EE.vec 60=false:=rfl
theorem zeV:EE.vec 83=true:=rfl
theorem zfo:EE.vec 94=true:=rfl
theorem zfa:EE.vec 97=true:=rfl
theorem zcf:EE.vec 112=false:=rfl
theorem zdp:EE.vec 175=false:=rfl
theorem zcN:EE.vec 201=false:=rfl
attribute [go_sem] zhN zig zjr zh0 zin zg8 ze5 zg1 zfB zfS zey zfx zeV zfo zfa zcf zdp zcN
end Go.Ev
