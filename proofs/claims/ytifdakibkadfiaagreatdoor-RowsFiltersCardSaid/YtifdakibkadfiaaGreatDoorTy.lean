/-  The program's types, as facts. -/
import Derived.KernelRfl
import Derived.Test.YtifdakibkadfiaaGreatDoorEvTwo
import Derived.Test.YtifdakibkadfiaaGreatDoorProg
set_option linter.all false
set_option maxRecDepth 100000
set_option maxHeartbeats 8000000
open Go Go.Proofs
namespace Go.Ev
noncomputable def EE:Env:=envV Tryz.prog (fun t=>Nat.beq t 83 || Nat.beq t 94 || Nat.beq t 97 || Nat.beq t 46)
theorem ty_und_1:EE.und 1=some (TypeDesc.func { toList:=[] } { toList:=[] } false):=by kernel_rfl
theorem ty_size_1:EE.size 1=some 1:=by kernel_rfl
theorem ty_bytes_1:EE.bytes 1=some 8:=by kernel_rfl
theorem ty_zero_1:EE.zero 1=some [Ev.CV.nfn]:=by kernel_rfl
theorem ty_und_2:EE.und 2=some (TypeDesc.int IntKind.i64):=by kernel_rfl
theorem ty_size_2:EE.size 2=some 1:=by kernel_rfl
theorem ty_und_3:EE.und 3=some (TypeDesc.int IntKind.i64):=by kernel_rfl
theorem ty_size_3:EE.size 3=some 1:=by kernel_rfl
theorem ty_bytes_3:EE.bytes 3=some 8:=by kernel_rfl
theorem ty_zero_3:EE.zero 3=some [Ev.CV.int IntKind.i64 (0)]:=by kernel_rfl
theorem ty_und_4:EE.und 4=some TypeDesc.bool:=by kernel_rfl
theorem ty_size_4:EE.size 4=some 1:=by kernel_rfl
theorem ty_bytes_4:EE.bytes 4=some 1:=by kernel_rfl
theorem ty_zero_4:EE.zero 4=some [Ev.CV.bool false]:=by kernel_rfl
theorem ty_zval_4:EE.zval 4=some (Ev.AV.c (Ev.CV.bool false)):=by kernel_rfl
theorem ty_und_5:EE.und 5=some (TypeDesc.int IntKind.u8):=by kernel_rfl
theorem ty_size_5:EE.size 5=some 1:=by kernel_rfl
theorem ty_zero_5:EE.zero 5=some [Ev.CV.int IntKind.u8 (0)]:=by kernel_rfl
theorem ty_und_9:EE.und 9=some TypeDesc.string:=by kernel_rfl
theorem ty_size_9:EE.size 9=some 1:=by kernel_rfl
theorem ty_bytes_9:EE.bytes 9=some 16:=by kernel_rfl
theorem ty_zero_9:EE.zero 9=some [Ev.CV.str { data:=#[] }]:=by kernel_rfl
theorem ty_und_22:EE.und 22=some (TypeDesc.slice 47):=by kernel_rfl
theorem ty_size_22:EE.size 22=some 1:=by kernel_rfl
theorem ty_bytes_22:EE.bytes 22=some 24:=by kernel_rfl
theorem ty_zero_22:EE.zero 22=some [Ev.CV.nl]:=by kernel_rfl
theorem ty_und_24:EE.und 24=some (TypeDesc.struct { toList:=[{ name:="Wide",type:=3,offset:=0,embedded:=false,tag:="",pkgPath:="",byteOffset:=0 },{ name:="L",type:=22,offset:=1,embedded:=false,tag:="",pkgPath:="",byteOffset:=8 }] }):=by kernel_rfl
theorem ty_size_24:EE.size 24=some 2:=by kernel_rfl
theorem ty_und_26:EE.und 26=some (TypeDesc.struct { toList:=[{ name:="Kind",type:=3,offset:=0,embedded:=false,tag:="",pkgPath:="",byteOffset:=0 },{ name:="I",type:=2,offset:=1,embedded:=false,tag:="",pkgPath:="",byteOffset:=8 },{ name:="S",type:=9,offset:=2,embedded:=false,tag:="",pkgPath:="",byteOffset:=16 }] }):=by kernel_rfl
theorem ty_cmp_26:EE.cmp 26=true:=by kernel_rfl
theorem ty_size_26:EE.size 26=some 3:=by kernel_rfl
theorem ty_bytes_26:EE.bytes 26=some 32:=by kernel_rfl
theorem ty_zero_26:EE.zero 26=some [Ev.CV.int IntKind.i64 (0),Ev.CV.int IntKind.i64 (0),Ev.CV.str { data:=#[] }]:=by kernel_rfl
theorem ty_und_27:EE.und 27=some (TypeDesc.slice 29):=by kernel_rfl
theorem ty_size_27:EE.size 27=some 1:=by kernel_rfl
theorem ty_und_29:EE.und 29=some (TypeDesc.struct { toList:=[{ name:="Op",type:=9,offset:=0,embedded:=false,tag:="",pkgPath:="",byteOffset:=0 },{ name:="V",type:=26,offset:=1,embedded:=false,tag:="",pkgPath:="",byteOffset:=16 },{ name:="Table",type:=9,offset:=4,embedded:=false,tag:="",pkgPath:="",byteOffset:=48 },{ name:="Name",type:=9,offset:=5,embedded:=false,tag:="",pkgPath:="",byteOffset:=64 },{ name:="L",type:=27,offset:=6,embedded:=false,tag:="",pkgPath:="",byteOffset:=80 }] }):=by kernel_rfl
theorem ty_cmp_29:EE.cmp 29=true:=by kernel_rfl
theorem ty_size_29:EE.size 29=some 7:=by kernel_rfl
theorem ty_bytes_29:EE.bytes 29=some 104:=by kernel_rfl
theorem ty_zero_29:EE.zero 29=some [Ev.CV.str { data:=#[] },Ev.CV.int IntKind.i64 (0),Ev.CV.int IntKind.i64 (0),Ev.CV.str { data:=#[] },Ev.CV.str { data:=#[] },Ev.CV.str { data:=#[] },Ev.CV.nl]:=by kernel_rfl
theorem ty_und_34:EE.und 34=some (TypeDesc.int IntKind.i64):=by kernel_rfl
theorem ty_size_34:EE.size 34=some 1:=by kernel_rfl
theorem ty_bytes_34:EE.bytes 34=some 8:=by kernel_rfl
theorem ty_zero_34:EE.zero 34=some [Ev.CV.int IntKind.i64 (0)]:=by kernel_rfl
theorem ty_und_46:EE.und 46=some (TypeDesc.slice 26):=by kernel_rfl
theorem ty_und_47:EE.und 47=some (TypeDesc.slice 26):=by kernel_rfl
theorem ty_size_47:EE.size 47=some 1:=by kernel_rfl
theorem ty_bytes_47:EE.bytes 47=some 24:=by kernel_rfl
theorem ty_zero_47:EE.zero 47=some [Ev.CV.nl]:=by kernel_rfl
theorem ty_und_74:EE.und 74=some (TypeDesc.slice 4):=by kernel_rfl
theorem ty_size_74:EE.size 74=some 1:=by kernel_rfl
theorem ty_bytes_74:EE.bytes 74=some 24:=by kernel_rfl
theorem ty_zero_74:EE.zero 74=some [Ev.CV.nl]:=by kernel_rfl
theorem ty_und_123:EE.und 123=some (TypeDesc.slice 9):=by kernel_rfl
theorem ty_size_123:EE.size 123=some 1:=by kernel_rfl
theorem ty_bytes_123:EE.bytes 123=some 24:=by kernel_rfl
theorem ty_zero_123:EE.zero 123=some [Ev.CV.nl]:=by kernel_rfl
theorem ty_und_125:EE.und 125=some (TypeDesc.slice 5):=by kernel_rfl
theorem ty_und_136:EE.und 136=some (TypeDesc.func { toList:=[46] } { toList:=[26,34] } false):=by kernel_rfl
theorem ty_size_136:EE.size 136=some 1:=by kernel_rfl
theorem ty_und_138:EE.und 138=some (TypeDesc.struct { toList:=[{ name:="least",type:=3,offset:=0,embedded:=false,tag:="",pkgPath:="boscage/eval",byteOffset:=0 },{ name:="most",type:=3,offset:=1,embedded:=false,tag:="",pkgPath:="boscage/eval",byteOffset:=8 },{ name:="do",type:=136,offset:=2,embedded:=false,tag:="",pkgPath:="boscage/eval",byteOffset:=16 }] }):=by kernel_rfl
theorem ty_size_138:EE.size 138=some 3:=by kernel_rfl
theorem ty_zero_138:EE.zero 138=some [Ev.CV.int IntKind.i64 (0),Ev.CV.int IntKind.i64 (0),Ev.CV.nfn]:=by kernel_rfl
theorem ty_und_165:EE.und 165=some (TypeDesc.slice 3):=by kernel_rfl
theorem ty_und_167:EE.und 167=some (TypeDesc.func { toList:=[26] } { toList:=[26,34] } false):=by kernel_rfl
theorem ty_size_167:EE.size 167=some 1:=by kernel_rfl
theorem ty_und_168:EE.und 168=some (TypeDesc.func { toList:=[26,26] } { toList:=[26,34] } false):=by kernel_rfl
theorem ty_size_168:EE.size 168=some 1:=by kernel_rfl
theorem ty_und_197:EE.und 197=some (TypeDesc.slice 201):=by kernel_rfl
theorem ty_und_201:EE.und 201=some (TypeDesc.struct { toList:=[{ name:="any",type:=4,offset:=0,embedded:=false,tag:="",pkgPath:="boscage/boscageref04",byteOffset:=0 },{ name:="one",type:=4,offset:=1,embedded:=false,tag:="",pkgPath:="boscage/boscageref04",byteOffset:=1 },{ name:="c",type:=5,offset:=2,embedded:=false,tag:="",pkgPath:="boscage/boscageref04",byteOffset:=2 }] }):=by kernel_rfl
theorem ty_size_201:EE.size 201=some 3:=by kernel_rfl
theorem ty_bytes_201:EE.bytes 201=some 3:=by kernel_rfl
theorem ty_zero_201:EE.zero 201=some [Ev.CV.bool false,Ev.CV.bool false,Ev.CV.int IntKind.u8 (0)]:=by kernel_rfl
attribute [go_sem] ty_und_1 ty_size_1 ty_bytes_1 ty_zero_1 ty_und_2 ty_size_2 ty_und_3 ty_size_3 ty_bytes_3 ty_zero_3 ty_und_4 ty_size_4 ty_bytes_4 ty_zero_4 ty_zval_4 ty_und_5 ty_size_5 ty_zero_5 ty_und_9 ty_size_9 ty_bytes_9 ty_zero_9 ty_und_22 ty_size_22 ty_bytes_22 ty_zero_22 ty_und_24 ty_size_24
attribute [go_sem] ty_und_26 ty_cmp_26 ty_size_26 ty_bytes_26 ty_zero_26 ty_und_27 ty_size_27 ty_und_29 ty_cmp_29 ty_size_29 ty_bytes_29 ty_zero_29 ty_und_34 ty_size_34 ty_bytes_34 ty_zero_34 ty_und_46 ty_und_47 ty_size_47 ty_bytes_47 ty_zero_47
attribute [go_sem] ty_und_74 ty_size_74 ty_bytes_74 ty_zero_74
attribute [go_sem] ty_und_123
attribute [go_sem] ty_size_123 ty_bytes_123 ty_zero_123 ty_und_125 ty_und_136 ty_size_136 ty_und_138 ty_size_138 ty_zero_138
attribute [go_sem] ty_und_165 ty_und_167 ty_size_167 ty_und_168 ty_size_168
attribute [go_sem] ty_und_197 ty_und_201
attribute [go_sem] ty_size_201 ty_bytes_201 ty_zero_201
theorem ty_vec_2:EE.vec 2=false:=rfl
theorem ty_vec_3:EE.vec 3=false:=rfl
theorem ty_vec_4:EE.vec 4=false:=rfl
theorem ty_vec_5:EE.vec 5=false:=rfl
theorem ty_vec_9:EE.vec 9=false:=rfl
theorem ty_vec_22:EE.vec 22=false:=rfl
theorem ty_vec_26:EE.vec 26=false:=rfl
theorem ty_vec_29:EE.vec 29=false:=rfl
theorem ty_vec_41:EE.vec 41=false:=rfl
theorem ty_vec_46:EE.vec 46=true:=rfl
theorem ty_vec_47:EE.vec 47=false:=rfl
theorem ty_vec_60:EE.vec 60=false:=rfl
theorem ty_vec_83:EE.vec 83=true:=rfl
theorem ty_vec_94:EE.vec 94=true:=rfl
theorem ty_vec_97:EE.vec 97=true:=rfl
theorem ty_vec_112:EE.vec 112=false:=rfl
theorem ty_vec_175:EE.vec 175=false:=rfl
theorem ty_vec_201:EE.vec 201=false:=rfl
attribute [go_sem] ty_vec_2 ty_vec_3 ty_vec_4 ty_vec_5 ty_vec_9 ty_vec_22 ty_vec_26 ty_vec_29 ty_vec_41 ty_vec_46 ty_vec_47 ty_vec_60 ty_vec_83 ty_vec_94 ty_vec_97 ty_vec_112 ty_vec_175 ty_vec_201
end Go.Ev
