/-  The program's types, as facts. -/
import Derived.KernelRfl
import Derived.Test.YtimjepimjfcalaaGreatDoorEvTwo
import Derived.Test.YtimjepimjfcalaaGreatDoorProg
set_option linter.all false
set_option maxRecDepth 100000
set_option maxHeartbeats 8000000
open Go Go.Proofs
namespace Go.Ev
noncomputable def EE:Env:=envOf Tryz.prog
theorem ty_und_2:EE.und 2=some (TypeDesc.int IntKind.i64):=by kernel_rfl
theorem ty_size_2:EE.size 2=some 1:=by kernel_rfl
theorem ty_bytes_2:EE.bytes 2=some 8:=by kernel_rfl
theorem ty_zero_2:EE.zero 2=some [Ev.CV.int IntKind.i64 (0)]:=by kernel_rfl
theorem ty_und_3:EE.und 3=some (TypeDesc.int IntKind.i64):=by kernel_rfl
theorem ty_size_3:EE.size 3=some 1:=by kernel_rfl
theorem ty_bytes_3:EE.bytes 3=some 8:=by kernel_rfl
theorem ty_zero_3:EE.zero 3=some [Ev.CV.int IntKind.i64 (0)]:=by kernel_rfl
theorem ty_und_4:EE.und 4=some TypeDesc.bool:=by kernel_rfl
theorem ty_size_4:EE.size 4=some 1:=by kernel_rfl
theorem ty_bytes_4:EE.bytes 4=some 1:=by kernel_rfl
theorem ty_zero_4:EE.zero 4=some [Ev.CV.bool false]:=by kernel_rfl
theorem ty_und_5:EE.und 5=some (TypeDesc.int IntKind.u8):=by kernel_rfl
theorem ty_size_5:EE.size 5=some 1:=by kernel_rfl
theorem ty_zero_5:EE.zero 5=some [Ev.CV.int IntKind.u8 (0)]:=by kernel_rfl
theorem ty_und_9:EE.und 9=some TypeDesc.string:=by kernel_rfl
theorem ty_size_9:EE.size 9=some 1:=by kernel_rfl
theorem ty_bytes_9:EE.bytes 9=some 16:=by kernel_rfl
theorem ty_zero_9:EE.zero 9=some [Ev.CV.str { data:=#[] }]:=by kernel_rfl
theorem ty_und_22:EE.und 22=some (TypeDesc.slice 38):=by kernel_rfl
theorem ty_size_22:EE.size 22=some 1:=by kernel_rfl
theorem ty_bytes_22:EE.bytes 22=some 24:=by kernel_rfl
theorem ty_zero_22:EE.zero 22=some [Ev.CV.nl]:=by kernel_rfl
theorem ty_und_23:EE.und 23=some (TypeDesc.slice 55):=by kernel_rfl
theorem ty_size_23:EE.size 23=some 1:=by kernel_rfl
theorem ty_bytes_23:EE.bytes 23=some 24:=by kernel_rfl
theorem ty_zero_23:EE.zero 23=some [Ev.CV.nl]:=by kernel_rfl
theorem ty_und_27:EE.und 27=some (TypeDesc.int IntKind.i64):=by kernel_rfl
theorem ty_size_27:EE.size 27=some 1:=by kernel_rfl
theorem ty_bytes_27:EE.bytes 27=some 8:=by kernel_rfl
theorem ty_zero_27:EE.zero 27=some [Ev.CV.int IntKind.i64 (0)]:=by kernel_rfl
theorem ty_und_37:EE.und 37=some (TypeDesc.slice 48):=by kernel_rfl
theorem ty_und_38:EE.und 38=some (TypeDesc.slice 48):=by kernel_rfl
theorem ty_size_38:EE.size 38=some 1:=by kernel_rfl
theorem ty_bytes_38:EE.bytes 38=some 24:=by kernel_rfl
theorem ty_zero_38:EE.zero 38=some [Ev.CV.nl]:=by kernel_rfl
theorem ty_und_42:EE.und 42=some (TypeDesc.slice 22):=by kernel_rfl
theorem ty_size_42:EE.size 42=some 1:=by kernel_rfl
theorem ty_bytes_42:EE.bytes 42=some 24:=by kernel_rfl
theorem ty_zero_42:EE.zero 42=some [Ev.CV.nl]:=by kernel_rfl
theorem ty_und_48:EE.und 48=some (TypeDesc.struct { toList:=[{ name:="Kind",type:=3,offset:=0,embedded:=false,tag:="",pkgPath:="",byteOffset:=0 },{ name:="I",type:=2,offset:=1,embedded:=false,tag:="",pkgPath:="",byteOffset:=8 },{ name:="S",type:=9,offset:=2,embedded:=false,tag:="",pkgPath:="",byteOffset:=16 }] }):=by kernel_rfl
theorem ty_cmp_48:EE.cmp 48=true:=by kernel_rfl
theorem ty_size_48:EE.size 48=some 3:=by kernel_rfl
theorem ty_bytes_48:EE.bytes 48=some 32:=by kernel_rfl
theorem ty_zero_48:EE.zero 48=some [Ev.CV.int IntKind.i64 (0),Ev.CV.int IntKind.i64 (0),Ev.CV.str { data:=#[] }]:=by kernel_rfl
theorem ty_und_50:EE.und 50=some (TypeDesc.slice 52):=by kernel_rfl
theorem ty_size_50:EE.size 50=some 1:=by kernel_rfl
theorem ty_bytes_50:EE.bytes 50=some 24:=by kernel_rfl
theorem ty_zero_50:EE.zero 50=some [Ev.CV.nl]:=by kernel_rfl
theorem ty_und_52:EE.und 52=some (TypeDesc.struct { toList:=[{ name:="Op",type:=9,offset:=0,embedded:=false,tag:="",pkgPath:="",byteOffset:=0 },{ name:="V",type:=48,offset:=1,embedded:=false,tag:="",pkgPath:="",byteOffset:=16 },{ name:="Table",type:=9,offset:=4,embedded:=false,tag:="",pkgPath:="",byteOffset:=48 },{ name:="Name",type:=9,offset:=5,embedded:=false,tag:="",pkgPath:="",byteOffset:=64 },{ name:="L",type:=50,offset:=6,embedded:=false,tag:="",pkgPath:="",byteOffset:=80 }] }):=by kernel_rfl
theorem ty_cmp_52:EE.cmp 52=true:=by kernel_rfl
theorem ty_size_52:EE.size 52=some 7:=by kernel_rfl
theorem ty_bytes_52:EE.bytes 52=some 104:=by kernel_rfl
theorem ty_zero_52:EE.zero 52=some [Ev.CV.str { data:=#[] },Ev.CV.int IntKind.i64 (0),Ev.CV.int IntKind.i64 (0),Ev.CV.str { data:=#[] },Ev.CV.str { data:=#[] },Ev.CV.str { data:=#[] },Ev.CV.nl]:=by kernel_rfl
theorem ty_und_55:EE.und 55=some (TypeDesc.struct { toList:=[{ name:="E",type:=52,offset:=0,embedded:=false,tag:="",pkgPath:="",byteOffset:=0 },{ name:="Desc",type:=4,offset:=7,embedded:=false,tag:="",pkgPath:="",byteOffset:=104 }] }):=by kernel_rfl
theorem ty_cmp_55:EE.cmp 55=true:=by kernel_rfl
theorem ty_size_55:EE.size 55=some 8:=by kernel_rfl
theorem ty_bytes_55:EE.bytes 55=some 112:=by kernel_rfl
theorem ty_zero_55:EE.zero 55=some [Ev.CV.str { data:=#[] },Ev.CV.int IntKind.i64 (0),Ev.CV.int IntKind.i64 (0),Ev.CV.str { data:=#[] },Ev.CV.str { data:=#[] },Ev.CV.str { data:=#[] },Ev.CV.nl,Ev.CV.bool false]:=by kernel_rfl
theorem ty_und_61:EE.und 61=some (TypeDesc.slice 69):=by kernel_rfl
theorem ty_size_61:EE.size 61=some 1:=by kernel_rfl
theorem ty_bytes_61:EE.bytes 61=some 24:=by kernel_rfl
theorem ty_zero_61:EE.zero 61=some [Ev.CV.nl]:=by kernel_rfl
theorem ty_und_64:EE.und 64=some (TypeDesc.func { toList:=[69,69] } { toList:=[3] } false):=by kernel_rfl
theorem ty_size_64:EE.size 64=some 1:=by kernel_rfl
theorem ty_bytes_64:EE.bytes 64=some 8:=by kernel_rfl
theorem ty_zero_64:EE.zero 64=some [Ev.CV.nfn]:=by kernel_rfl
theorem ty_und_66:EE.und 66=some (TypeDesc.slice 61):=by kernel_rfl
theorem ty_size_66:EE.size 66=some 1:=by kernel_rfl
theorem ty_bytes_66:EE.bytes 66=some 24:=by kernel_rfl
theorem ty_zero_66:EE.zero 66=some [Ev.CV.nl]:=by kernel_rfl
theorem ty_und_69:EE.und 69=some (TypeDesc.struct { toList:=[{ name:="r",type:=38,offset:=0,embedded:=false,tag:="",pkgPath:="boscage/sort",byteOffset:=0 },{ name:="by",type:=38,offset:=1,embedded:=false,tag:="",pkgPath:="boscage/sort",byteOffset:=24 }] }):=by kernel_rfl
theorem ty_cmp_69:EE.cmp 69=true:=by kernel_rfl
theorem ty_size_69:EE.size 69=some 2:=by kernel_rfl
theorem ty_bytes_69:EE.bytes 69=some 48:=by kernel_rfl
theorem ty_zero_69:EE.zero 69=some [Ev.CV.nl,Ev.CV.nl]:=by kernel_rfl
theorem ty_und_72:EE.und 72=some (TypeDesc.slice 66):=by kernel_rfl
theorem ty_size_72:EE.size 72=some 1:=by kernel_rfl
theorem ty_bytes_72:EE.bytes 72=some 24:=by kernel_rfl
theorem ty_zero_72:EE.zero 72=some [Ev.CV.nl]:=by kernel_rfl
theorem ty_und_97:EE.und 97=some (TypeDesc.func { toList:=[37] } { toList:=[48,27] } false):=by kernel_rfl
theorem ty_size_97:EE.size 97=some 1:=by kernel_rfl
theorem ty_und_99:EE.und 99=some (TypeDesc.struct { toList:=[{ name:="least",type:=3,offset:=0,embedded:=false,tag:="",pkgPath:="boscage/eval",byteOffset:=0 },{ name:="most",type:=3,offset:=1,embedded:=false,tag:="",pkgPath:="boscage/eval",byteOffset:=8 },{ name:="do",type:=97,offset:=2,embedded:=false,tag:="",pkgPath:="boscage/eval",byteOffset:=16 }] }):=by kernel_rfl
theorem ty_size_99:EE.size 99=some 3:=by kernel_rfl
theorem ty_zero_99:EE.zero 99=some [Ev.CV.int IntKind.i64 (0),Ev.CV.int IntKind.i64 (0),Ev.CV.nfn]:=by kernel_rfl
theorem ty_und_108:EE.und 108=some (TypeDesc.slice 9):=by kernel_rfl
theorem ty_und_117:EE.und 117=some (TypeDesc.slice 3):=by kernel_rfl
theorem ty_und_122:EE.und 122=some (TypeDesc.func { toList:=[48] } { toList:=[48,27] } false):=by kernel_rfl
theorem ty_size_122:EE.size 122=some 1:=by kernel_rfl
theorem ty_und_124:EE.und 124=some (TypeDesc.func { toList:=[48,48] } { toList:=[48,27] } false):=by kernel_rfl
theorem ty_size_124:EE.size 124=some 1:=by kernel_rfl
theorem ty_und_132:EE.und 132=some (TypeDesc.int IntKind.u64):=by kernel_rfl
theorem ty_size_132:EE.size 132=some 1:=by kernel_rfl
theorem ty_bytes_132:EE.bytes 132=some 8:=by kernel_rfl
theorem ty_zero_132:EE.zero 132=some [Ev.CV.int IntKind.u64 (0)]:=by kernel_rfl
theorem ty_und_170:EE.und 170=some (TypeDesc.slice 175):=by kernel_rfl
theorem ty_und_173:EE.und 173=some (TypeDesc.slice 4):=by kernel_rfl
theorem ty_und_175:EE.und 175=some (TypeDesc.struct { toList:=[{ name:="any",type:=4,offset:=0,embedded:=false,tag:="",pkgPath:="boscage/boscageref04",byteOffset:=0 },{ name:="one",type:=4,offset:=1,embedded:=false,tag:="",pkgPath:="boscage/boscageref04",byteOffset:=1 },{ name:="c",type:=5,offset:=2,embedded:=false,tag:="",pkgPath:="boscage/boscageref04",byteOffset:=2 }] }):=by kernel_rfl
theorem ty_size_175:EE.size 175=some 3:=by kernel_rfl
theorem ty_bytes_175:EE.bytes 175=some 3:=by kernel_rfl
theorem ty_zero_175:EE.zero 175=some [Ev.CV.bool false,Ev.CV.bool false,Ev.CV.int IntKind.u8 (0)]:=by kernel_rfl
theorem ty_und_176:EE.und 176=some (TypeDesc.slice 5):=by kernel_rfl
attribute [go_sem] ty_und_2 ty_size_2 ty_bytes_2 ty_zero_2 ty_und_3 ty_size_3 ty_bytes_3 ty_zero_3 ty_und_4 ty_size_4 ty_bytes_4 ty_zero_4 ty_und_5 ty_size_5 ty_zero_5 ty_und_9 ty_size_9 ty_bytes_9 ty_zero_9 ty_und_22 ty_size_22 ty_bytes_22 ty_zero_22 ty_und_23 ty_size_23 ty_bytes_23 ty_zero_23
attribute [go_sem] ty_und_27 ty_size_27 ty_bytes_27 ty_zero_27 ty_und_37 ty_und_38 ty_size_38 ty_bytes_38 ty_zero_38 ty_und_42 ty_size_42 ty_bytes_42 ty_zero_42 ty_und_48 ty_cmp_48 ty_size_48 ty_bytes_48 ty_zero_48 ty_und_50 ty_size_50 ty_bytes_50 ty_zero_50
attribute [go_sem] ty_und_52 ty_cmp_52 ty_size_52 ty_bytes_52 ty_zero_52 ty_und_55 ty_cmp_55 ty_size_55 ty_bytes_55 ty_zero_55 ty_und_61 ty_size_61 ty_bytes_61 ty_zero_61 ty_und_64 ty_size_64 ty_bytes_64 ty_zero_64 ty_und_66 ty_size_66 ty_bytes_66 ty_zero_66 ty_und_69 ty_cmp_69 ty_size_69 ty_bytes_69 ty_zero_69 ty_und_72 ty_size_72 ty_bytes_72 ty_zero_72
attribute [go_sem] ty_und_97 ty_size_97 ty_und_99 ty_size_99 ty_zero_99
attribute [go_sem] ty_und_108 ty_und_117 ty_und_122 ty_size_122 ty_und_124 ty_size_124
attribute [go_sem] ty_und_132 ty_size_132 ty_bytes_132 ty_zero_132
attribute [go_sem] ty_und_170 ty_und_173 ty_und_175 ty_size_175 ty_bytes_175 ty_zero_175 ty_und_176
end Go.Ev
