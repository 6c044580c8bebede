/-  The program's types, as facts. -/
import Derived.KernelRfl
import Derived.Test.YtnkpjoinejlfdaaGreatDoorEvTwo
import Derived.Test.YtnkpjoinejlfdaaGreatDoorProg
set_option linter.all false
open Go Go.Proofs
namespace Go.Ev
noncomputable def EE : Env := envOf Tryz.prog
set_option maxRecDepth 100000
theorem ty_size_0 : EE.size 0 = some 1 := by kernel_rfl
theorem ty_bytes_0 : EE.bytes 0 = some 0 := by kernel_rfl
theorem ty_und_1 : EE.und 1 = some (Go.TypeDesc.func { toList := [] } { toList := [] } false) := by kernel_rfl
theorem ty_size_1 : EE.size 1 = some 1 := by kernel_rfl
theorem ty_bytes_1 : EE.bytes 1 = some 8 := by kernel_rfl
theorem ty_zero_1 : EE.zero 1 = some [Go.Ev.CV.nfn] := by kernel_rfl
theorem ty_und_2 : EE.und 2 = some (Go.TypeDesc.int Go.IntKind.i64) := by kernel_rfl
theorem ty_size_2 : EE.size 2 = some 1 := by kernel_rfl
theorem ty_bytes_2 : EE.bytes 2 = some 8 := by kernel_rfl
theorem ty_zero_2 : EE.zero 2 = some [Go.Ev.CV.int Go.IntKind.i64 (0)] := by kernel_rfl
theorem ty_und_3 : EE.und 3 = some (Go.TypeDesc.int Go.IntKind.i64) := by kernel_rfl
theorem ty_size_3 : EE.size 3 = some 1 := by kernel_rfl
theorem ty_bytes_3 : EE.bytes 3 = some 8 := by kernel_rfl
theorem ty_zero_3 : EE.zero 3 = some [Go.Ev.CV.int Go.IntKind.i64 (0)] := by kernel_rfl
theorem ty_und_4 : EE.und 4 = some Go.TypeDesc.bool := by kernel_rfl
theorem ty_size_4 : EE.size 4 = some 1 := by kernel_rfl
theorem ty_bytes_4 : EE.bytes 4 = some 1 := by kernel_rfl
theorem ty_zero_4 : EE.zero 4 = some [Go.Ev.CV.bool false] := by kernel_rfl
theorem ty_zval_4 : EE.zval 4 = some (Go.Ev.AV.c (Go.Ev.CV.bool false)) := by kernel_rfl
theorem ty_und_5 : EE.und 5 = some (Go.TypeDesc.int Go.IntKind.u8) := by kernel_rfl
theorem ty_size_5 : EE.size 5 = some 1 := by kernel_rfl
theorem ty_bytes_5 : EE.bytes 5 = some 1 := by kernel_rfl
theorem ty_zero_5 : EE.zero 5 = some [Go.Ev.CV.int Go.IntKind.u8 (0)] := by kernel_rfl
theorem ty_und_6 : EE.und 6 = some (Go.TypeDesc.int Go.IntKind.u8) := by kernel_rfl
theorem ty_size_6 : EE.size 6 = some 1 := by kernel_rfl
theorem ty_bytes_6 : EE.bytes 6 = some 1 := by kernel_rfl
theorem ty_zero_6 : EE.zero 6 = some [Go.Ev.CV.int Go.IntKind.u8 (0)] := by kernel_rfl
theorem ty_und_7 : EE.und 7 = some (Go.TypeDesc.struct { toList := [{ name := "x", type := 2, offset := 0, embedded := false, tag := "", pkgPath := "runtime", byteOffset := 0 }, { name := "y", type := 3, offset := 1, embedded := false, tag := "", pkgPath := "runtime", byteOffset := 8 }, { name := "signed", type := 4, offset := 2, embedded := false, tag := "", pkgPath := "runtime", byteOffset := 16 }, { name := "code", type := 6, offset := 3, embedded := false, tag := "", pkgPath := "runtime", byteOffset := 17 }] }) := by kernel_rfl
theorem ty_cmp_7 : EE.cmp 7 = true := by kernel_rfl
theorem ty_size_7 : EE.size 7 = some 4 := by kernel_rfl
theorem ty_bytes_7 : EE.bytes 7 = some 24 := by kernel_rfl
theorem ty_zero_7 : EE.zero 7 = some [Go.Ev.CV.int Go.IntKind.i64 (0), Go.Ev.CV.int Go.IntKind.i64 (0), Go.Ev.CV.bool false, Go.Ev.CV.int Go.IntKind.u8 (0)] := by kernel_rfl
theorem ty_und_8 : EE.und 8 = some (Go.TypeDesc.struct { toList := [{ name := "x", type := 2, offset := 0, embedded := false, tag := "", pkgPath := "runtime", byteOffset := 0 }, { name := "y", type := 3, offset := 1, embedded := false, tag := "", pkgPath := "runtime", byteOffset := 8 }, { name := "signed", type := 4, offset := 2, embedded := false, tag := "", pkgPath := "runtime", byteOffset := 16 }, { name := "code", type := 6, offset := 3, embedded := false, tag := "", pkgPath := "runtime", byteOffset := 17 }] }) := by kernel_rfl
theorem ty_cmp_8 : EE.cmp 8 = true := by kernel_rfl
theorem ty_size_8 : EE.size 8 = some 4 := by kernel_rfl
theorem ty_bytes_8 : EE.bytes 8 = some 24 := by kernel_rfl
theorem ty_zero_8 : EE.zero 8 = some [Go.Ev.CV.int Go.IntKind.i64 (0), Go.Ev.CV.int Go.IntKind.i64 (0), Go.Ev.CV.bool false, Go.Ev.CV.int Go.IntKind.u8 (0)] := by kernel_rfl
theorem ty_und_9 : EE.und 9 = some Go.TypeDesc.string := by kernel_rfl
theorem ty_size_9 : EE.size 9 = some 1 := by kernel_rfl
theorem ty_bytes_9 : EE.bytes 9 = some 16 := by kernel_rfl
theorem ty_zero_9 : EE.zero 9 = some [Go.Ev.CV.str { data := #[] }] := by kernel_rfl
theorem ty_und_10 : EE.und 10 = some Go.TypeDesc.string := by kernel_rfl
theorem ty_size_10 : EE.size 10 = some 1 := by kernel_rfl
theorem ty_bytes_10 : EE.bytes 10 = some 16 := by kernel_rfl
theorem ty_zero_10 : EE.zero 10 = some [Go.Ev.CV.str { data := #[] }] := by kernel_rfl
theorem ty_und_11 : EE.und 11 = some Go.TypeDesc.string := by kernel_rfl
theorem ty_size_11 : EE.size 11 = some 1 := by kernel_rfl
theorem ty_bytes_11 : EE.bytes 11 = some 16 := by kernel_rfl
theorem ty_zero_11 : EE.zero 11 = some [Go.Ev.CV.str { data := #[] }] := by kernel_rfl
theorem ty_und_12 : EE.und 12 = some (Go.TypeDesc.int Go.IntKind.u64) := by kernel_rfl
theorem ty_size_12 : EE.size 12 = some 1 := by kernel_rfl
theorem ty_bytes_12 : EE.bytes 12 = some 8 := by kernel_rfl
theorem ty_zero_12 : EE.zero 12 = some [Go.Ev.CV.int Go.IntKind.u64 (0)] := by kernel_rfl
theorem ty_und_13 : EE.und 13 = some (Go.TypeDesc.struct { toList := [{ name := "msg", type := 9, offset := 0, embedded := false, tag := "", pkgPath := "runtime", byteOffset := 0 }, { name := "addr", type := 12, offset := 1, embedded := false, tag := "", pkgPath := "runtime", byteOffset := 16 }] }) := by kernel_rfl
theorem ty_size_13 : EE.size 13 = some 2 := by kernel_rfl
theorem ty_bytes_13 : EE.bytes 13 = some 24 := by kernel_rfl
theorem ty_zero_13 : EE.zero 13 = some [Go.Ev.CV.str { data := #[] }, Go.Ev.CV.int Go.IntKind.u64 (0)] := by kernel_rfl
theorem ty_und_14 : EE.und 14 = some (Go.TypeDesc.struct { toList := [{ name := "msg", type := 9, offset := 0, embedded := false, tag := "", pkgPath := "runtime", byteOffset := 0 }, { name := "addr", type := 12, offset := 1, embedded := false, tag := "", pkgPath := "runtime", byteOffset := 16 }] }) := by kernel_rfl
theorem ty_size_14 : EE.size 14 = some 2 := by kernel_rfl
theorem ty_bytes_14 : EE.bytes 14 = some 24 := by kernel_rfl
theorem ty_zero_14 : EE.zero 14 = some [Go.Ev.CV.str { data := #[] }, Go.Ev.CV.int Go.IntKind.u64 (0)] := by kernel_rfl
theorem ty_und_15 : EE.und 15 = some (Go.TypeDesc.pointer 216) := by kernel_rfl
theorem ty_size_15 : EE.size 15 = some 1 := by kernel_rfl
theorem ty_bytes_15 : EE.bytes 15 = some 8 := by kernel_rfl
theorem ty_zero_15 : EE.zero 15 = some [Go.Ev.CV.nptr] := by kernel_rfl
theorem ty_und_16 : EE.und 16 = some (Go.TypeDesc.pointer 219) := by kernel_rfl
theorem ty_size_16 : EE.size 16 = some 1 := by kernel_rfl
theorem ty_bytes_16 : EE.bytes 16 = some 8 := by kernel_rfl
theorem ty_zero_16 : EE.zero 16 = some [Go.Ev.CV.nptr] := by kernel_rfl
theorem ty_und_17 : EE.und 17 = some (Go.TypeDesc.pointer 227) := by kernel_rfl
theorem ty_size_17 : EE.size 17 = some 1 := by kernel_rfl
theorem ty_bytes_17 : EE.bytes 17 = some 8 := by kernel_rfl
theorem ty_zero_17 : EE.zero 17 = some [Go.Ev.CV.nptr] := by kernel_rfl
theorem ty_und_18 : EE.und 18 = some (Go.TypeDesc.struct { toList := [{ name := "typ", type := 17, offset := 0, embedded := false, tag := "", pkgPath := "internal/runtime/maps", byteOffset := 0 }] }) := by kernel_rfl
theorem ty_size_18 : EE.size 18 = some 1 := by kernel_rfl
theorem ty_bytes_18 : EE.bytes 18 = some 8 := by kernel_rfl
theorem ty_zero_18 : EE.zero 18 = some [Go.Ev.CV.nptr] := by kernel_rfl
theorem ty_und_19 : EE.und 19 = some (Go.TypeDesc.struct { toList := [{ name := "typ", type := 17, offset := 0, embedded := false, tag := "", pkgPath := "internal/runtime/maps", byteOffset := 0 }] }) := by kernel_rfl
theorem ty_size_19 : EE.size 19 = some 1 := by kernel_rfl
theorem ty_bytes_19 : EE.bytes 19 = some 8 := by kernel_rfl
theorem ty_zero_19 : EE.zero 19 = some [Go.Ev.CV.nptr] := by kernel_rfl
theorem ty_size_20 : EE.size 20 = some 1 := by kernel_rfl
theorem ty_bytes_20 : EE.bytes 20 = some 16 := by kernel_rfl
theorem ty_zero_20 : EE.zero 20 = some [Go.Ev.CV.nif] := by kernel_rfl
theorem ty_und_21 : EE.und 21 = some (Go.TypeDesc.int Go.IntKind.i32) := by kernel_rfl
theorem ty_size_21 : EE.size 21 = some 1 := by kernel_rfl
theorem ty_bytes_21 : EE.bytes 21 = some 4 := by kernel_rfl
theorem ty_zero_21 : EE.zero 21 = some [Go.Ev.CV.int Go.IntKind.i32 (0)] := by kernel_rfl
theorem ty_und_22 : EE.und 22 = some (Go.TypeDesc.struct { toList := [{ name := "Kind", type := 3, offset := 0, embedded := false, tag := "", pkgPath := "", byteOffset := 0 }, { name := "I", type := 2, offset := 1, embedded := false, tag := "", pkgPath := "", byteOffset := 8 }, { name := "S", type := 9, offset := 2, embedded := false, tag := "", pkgPath := "", byteOffset := 16 }] }) := by kernel_rfl
theorem ty_cmp_22 : EE.cmp 22 = true := by kernel_rfl
theorem ty_size_22 : EE.size 22 = some 3 := by kernel_rfl
theorem ty_bytes_22 : EE.bytes 22 = some 32 := by kernel_rfl
theorem ty_zero_22 : EE.zero 22 = some [Go.Ev.CV.int Go.IntKind.i64 (0), Go.Ev.CV.int Go.IntKind.i64 (0), Go.Ev.CV.str { data := #[] }] := by kernel_rfl
theorem ty_und_23 : EE.und 23 = some (Go.TypeDesc.struct { toList := [{ name := "Kind", type := 3, offset := 0, embedded := false, tag := "", pkgPath := "", byteOffset := 0 }, { name := "I", type := 2, offset := 1, embedded := false, tag := "", pkgPath := "", byteOffset := 8 }, { name := "S", type := 9, offset := 2, embedded := false, tag := "", pkgPath := "", byteOffset := 16 }] }) := by kernel_rfl
theorem ty_cmp_23 : EE.cmp 23 = true := by kernel_rfl
theorem ty_size_23 : EE.size 23 = some 3 := by kernel_rfl
theorem ty_bytes_23 : EE.bytes 23 = some 32 := by kernel_rfl
theorem ty_zero_23 : EE.zero 23 = some [Go.Ev.CV.int Go.IntKind.i64 (0), Go.Ev.CV.int Go.IntKind.i64 (0), Go.Ev.CV.str { data := #[] }] := by kernel_rfl
theorem ty_und_24 : EE.und 24 = some (Go.TypeDesc.slice 26) := by kernel_rfl
theorem ty_size_24 : EE.size 24 = some 1 := by kernel_rfl
theorem ty_bytes_24 : EE.bytes 24 = some 24 := by kernel_rfl
theorem ty_zero_24 : EE.zero 24 = some [Go.Ev.CV.nl] := by kernel_rfl
theorem ty_und_25 : EE.und 25 = some (Go.TypeDesc.struct { toList := [{ name := "Op", type := 9, offset := 0, embedded := false, tag := "", pkgPath := "", byteOffset := 0 }, { name := "V", type := 23, offset := 1, embedded := false, tag := "", pkgPath := "", byteOffset := 16 }, { name := "Table", type := 9, offset := 4, embedded := false, tag := "", pkgPath := "", byteOffset := 48 }, { name := "Name", type := 9, offset := 5, embedded := false, tag := "", pkgPath := "", byteOffset := 64 }, { name := "L", type := 24, offset := 6, embedded := false, tag := "", pkgPath := "", byteOffset := 80 }] }) := by kernel_rfl
theorem ty_cmp_25 : EE.cmp 25 = true := by kernel_rfl
theorem ty_size_25 : EE.size 25 = some 7 := by kernel_rfl
theorem ty_bytes_25 : EE.bytes 25 = some 104 := by kernel_rfl
theorem ty_zero_25 : EE.zero 25 = some [Go.Ev.CV.str { data := #[] }, Go.Ev.CV.int Go.IntKind.i64 (0), Go.Ev.CV.int Go.IntKind.i64 (0), Go.Ev.CV.str { data := #[] }, Go.Ev.CV.str { data := #[] }, Go.Ev.CV.str { data := #[] }, Go.Ev.CV.nl] := by kernel_rfl
theorem ty_und_26 : EE.und 26 = some (Go.TypeDesc.struct { toList := [{ name := "Op", type := 9, offset := 0, embedded := false, tag := "", pkgPath := "", byteOffset := 0 }, { name := "V", type := 23, offset := 1, embedded := false, tag := "", pkgPath := "", byteOffset := 16 }, { name := "Table", type := 9, offset := 4, embedded := false, tag := "", pkgPath := "", byteOffset := 48 }, { name := "Name", type := 9, offset := 5, embedded := false, tag := "", pkgPath := "", byteOffset := 64 }, { name := "L", type := 24, offset := 6, embedded := false, tag := "", pkgPath := "", byteOffset := 80 }] }) := by kernel_rfl
theorem ty_cmp_26 : EE.cmp 26 = true := by kernel_rfl
theorem ty_size_26 : EE.size 26 = some 7 := by kernel_rfl
theorem ty_bytes_26 : EE.bytes 26 = some 104 := by kernel_rfl
theorem ty_zero_26 : EE.zero 26 = some [Go.Ev.CV.str { data := #[] }, Go.Ev.CV.int Go.IntKind.i64 (0), Go.Ev.CV.int Go.IntKind.i64 (0), Go.Ev.CV.str { data := #[] }, Go.Ev.CV.str { data := #[] }, Go.Ev.CV.str { data := #[] }, Go.Ev.CV.nl] := by kernel_rfl
theorem ty_und_27 : EE.und 27 = some (Go.TypeDesc.slice 23) := by kernel_rfl
theorem ty_size_27 : EE.size 27 = some 1 := by kernel_rfl
theorem ty_bytes_27 : EE.bytes 27 = some 24 := by kernel_rfl
theorem ty_zero_27 : EE.zero 27 = some [Go.Ev.CV.nl] := by kernel_rfl
theorem ty_und_28 : EE.und 28 = some (Go.TypeDesc.slice 23) := by kernel_rfl
theorem ty_size_28 : EE.size 28 = some 1 := by kernel_rfl
theorem ty_bytes_28 : EE.bytes 28 = some 24 := by kernel_rfl
theorem ty_zero_28 : EE.zero 28 = some [Go.Ev.CV.nl] := by kernel_rfl
theorem ty_und_29 : EE.und 29 = some (Go.TypeDesc.func { toList := [] } { toList := [4] } false) := by kernel_rfl
theorem ty_size_29 : EE.size 29 = some 1 := by kernel_rfl
theorem ty_bytes_29 : EE.bytes 29 = some 8 := by kernel_rfl
theorem ty_zero_29 : EE.zero 29 = some [Go.Ev.CV.nfn] := by kernel_rfl
theorem ty_und_30 : EE.und 30 = some (Go.TypeDesc.func { toList := [28, 24] } { toList := [4] } true) := by kernel_rfl
theorem ty_size_30 : EE.size 30 = some 1 := by kernel_rfl
theorem ty_bytes_30 : EE.bytes 30 = some 8 := by kernel_rfl
theorem ty_zero_30 : EE.zero 30 = some [Go.Ev.CV.nfn] := by kernel_rfl
theorem ty_und_31 : EE.und 31 = some (Go.TypeDesc.func { toList := [26] } { toList := [26] } false) := by kernel_rfl
theorem ty_size_31 : EE.size 31 = some 1 := by kernel_rfl
theorem ty_bytes_31 : EE.bytes 31 = some 8 := by kernel_rfl
theorem ty_zero_31 : EE.zero 31 = some [Go.Ev.CV.nfn] := by kernel_rfl
theorem ty_und_32 : EE.und 32 = some (Go.TypeDesc.int Go.IntKind.i64) := by kernel_rfl
theorem ty_size_32 : EE.size 32 = some 1 := by kernel_rfl
theorem ty_bytes_32 : EE.bytes 32 = some 8 := by kernel_rfl
theorem ty_zero_32 : EE.zero 32 = some [Go.Ev.CV.int Go.IntKind.i64 (0)] := by kernel_rfl
theorem ty_size_33 : EE.size 33 = some 1 := by kernel_rfl
theorem ty_bytes_33 : EE.bytes 33 = some 0 := by kernel_rfl
theorem ty_und_34 : EE.und 34 = some (Go.TypeDesc.func { toList := [26, 28] } { toList := [23, 32] } false) := by kernel_rfl
theorem ty_size_34 : EE.size 34 = some 1 := by kernel_rfl
theorem ty_bytes_34 : EE.bytes 34 = some 8 := by kernel_rfl
theorem ty_zero_34 : EE.zero 34 = some [Go.Ev.CV.nfn] := by kernel_rfl
theorem ty_und_35 : EE.und 35 = some (Go.TypeDesc.func { toList := [26, 3] } { toList := [32] } false) := by kernel_rfl
theorem ty_size_35 : EE.size 35 = some 1 := by kernel_rfl
theorem ty_bytes_35 : EE.bytes 35 = some 8 := by kernel_rfl
theorem ty_zero_35 : EE.zero 35 = some [Go.Ev.CV.nfn] := by kernel_rfl
theorem ty_und_36 : EE.und 36 = some (Go.TypeDesc.func { toList := [26, 26] } { toList := [4] } false) := by kernel_rfl
theorem ty_size_36 : EE.size 36 = some 1 := by kernel_rfl
theorem ty_bytes_36 : EE.bytes 36 = some 8 := by kernel_rfl
theorem ty_zero_36 : EE.zero 36 = some [Go.Ev.CV.nfn] := by kernel_rfl
theorem ty_und_37 : EE.und 37 = some (Go.TypeDesc.func { toList := [26, 28] } { toList := [4] } false) := by kernel_rfl
theorem ty_size_37 : EE.size 37 = some 1 := by kernel_rfl
theorem ty_bytes_37 : EE.bytes 37 = some 8 := by kernel_rfl
theorem ty_zero_37 : EE.zero 37 = some [Go.Ev.CV.nfn] := by kernel_rfl
theorem ty_und_38 : EE.und 38 = some (Go.TypeDesc.func { toList := [28] } { toList := [32] } false) := by kernel_rfl
theorem ty_size_38 : EE.size 38 = some 1 := by kernel_rfl
theorem ty_bytes_38 : EE.bytes 38 = some 8 := by kernel_rfl
theorem ty_zero_38 : EE.zero 38 = some [Go.Ev.CV.nfn] := by kernel_rfl
theorem ty_und_39 : EE.und 39 = some (Go.TypeDesc.slice 3) := by kernel_rfl
theorem ty_size_39 : EE.size 39 = some 1 := by kernel_rfl
theorem ty_bytes_39 : EE.bytes 39 = some 24 := by kernel_rfl
theorem ty_zero_39 : EE.zero 39 = some [Go.Ev.CV.nl] := by kernel_rfl
theorem ty_und_40 : EE.und 40 = some (Go.TypeDesc.func { toList := [26] } { toList := [39] } false) := by kernel_rfl
theorem ty_size_40 : EE.size 40 = some 1 := by kernel_rfl
theorem ty_bytes_40 : EE.bytes 40 = some 8 := by kernel_rfl
theorem ty_zero_40 : EE.zero 40 = some [Go.Ev.CV.nfn] := by kernel_rfl
theorem ty_und_41 : EE.und 41 = some (Go.TypeDesc.func { toList := [26, 28, 28] } { toList := [4] } false) := by kernel_rfl
theorem ty_size_41 : EE.size 41 = some 1 := by kernel_rfl
theorem ty_bytes_41 : EE.bytes 41 = some 8 := by kernel_rfl
theorem ty_zero_41 : EE.zero 41 = some [Go.Ev.CV.nfn] := by kernel_rfl
theorem ty_und_42 : EE.und 42 = some (Go.TypeDesc.func { toList := [23] } { toList := [32] } false) := by kernel_rfl
theorem ty_size_42 : EE.size 42 = some 1 := by kernel_rfl
theorem ty_bytes_42 : EE.bytes 42 = some 8 := by kernel_rfl
theorem ty_zero_42 : EE.zero 42 = some [Go.Ev.CV.nfn] := by kernel_rfl
theorem ty_und_43 : EE.und 43 = some (Go.TypeDesc.func { toList := [23] } { toList := [26] } false) := by kernel_rfl
theorem ty_size_43 : EE.size 43 = some 1 := by kernel_rfl
theorem ty_bytes_43 : EE.bytes 43 = some 8 := by kernel_rfl
theorem ty_zero_43 : EE.zero 43 = some [Go.Ev.CV.nfn] := by kernel_rfl
theorem ty_und_44 : EE.und 44 = some (Go.TypeDesc.func { toList := [3] } { toList := [26] } false) := by kernel_rfl
theorem ty_size_44 : EE.size 44 = some 1 := by kernel_rfl
theorem ty_bytes_44 : EE.bytes 44 = some 8 := by kernel_rfl
theorem ty_zero_44 : EE.zero 44 = some [Go.Ev.CV.nfn] := by kernel_rfl
theorem ty_und_45 : EE.und 45 = some (Go.TypeDesc.func { toList := [9, 24] } { toList := [26] } true) := by kernel_rfl
theorem ty_size_45 : EE.size 45 = some 1 := by kernel_rfl
theorem ty_bytes_45 : EE.bytes 45 = some 8 := by kernel_rfl
theorem ty_zero_45 : EE.zero 45 = some [Go.Ev.CV.nfn] := by kernel_rfl
theorem ty_und_46 : EE.und 46 = some (Go.TypeDesc.func { toList := [28, 23, 3] } { toList := [4] } false) := by kernel_rfl
theorem ty_size_46 : EE.size 46 = some 1 := by kernel_rfl
theorem ty_bytes_46 : EE.bytes 46 = some 8 := by kernel_rfl
theorem ty_zero_46 : EE.zero 46 = some [Go.Ev.CV.nfn] := by kernel_rfl
theorem ty_und_47 : EE.und 47 = some (Go.TypeDesc.func { toList := [26, 3] } { toList := [26] } false) := by kernel_rfl
theorem ty_size_47 : EE.size 47 = some 1 := by kernel_rfl
theorem ty_bytes_47 : EE.bytes 47 = some 8 := by kernel_rfl
theorem ty_zero_47 : EE.zero 47 = some [Go.Ev.CV.nfn] := by kernel_rfl
theorem ty_und_48 : EE.und 48 = some (Go.TypeDesc.func { toList := [2] } { toList := [26] } false) := by kernel_rfl
theorem ty_size_48 : EE.size 48 = some 1 := by kernel_rfl
theorem ty_bytes_48 : EE.bytes 48 = some 8 := by kernel_rfl
theorem ty_zero_48 : EE.zero 48 = some [Go.Ev.CV.nfn] := by kernel_rfl
theorem ty_und_49 : EE.und 49 = some (Go.TypeDesc.func { toList := [2] } { toList := [23] } false) := by kernel_rfl
theorem ty_size_49 : EE.size 49 = some 1 := by kernel_rfl
theorem ty_bytes_49 : EE.bytes 49 = some 8 := by kernel_rfl
theorem ty_zero_49 : EE.zero 49 = some [Go.Ev.CV.nfn] := by kernel_rfl
theorem ty_und_50 : EE.und 50 = some (Go.TypeDesc.func { toList := [26, 3] } { toList := [4] } false) := by kernel_rfl
theorem ty_size_50 : EE.size 50 = some 1 := by kernel_rfl
theorem ty_bytes_50 : EE.bytes 50 = some 8 := by kernel_rfl
theorem ty_zero_50 : EE.zero 50 = some [Go.Ev.CV.nfn] := by kernel_rfl
theorem ty_und_51 : EE.und 51 = some (Go.TypeDesc.func { toList := [26] } { toList := [4] } false) := by kernel_rfl
theorem ty_size_51 : EE.size 51 = some 1 := by kernel_rfl
theorem ty_bytes_51 : EE.bytes 51 = some 8 := by kernel_rfl
theorem ty_zero_51 : EE.zero 51 = some [Go.Ev.CV.nfn] := by kernel_rfl
theorem ty_und_52 : EE.und 52 = some (Go.TypeDesc.func { toList := [53, 3] } { toList := [4] } false) := by kernel_rfl
theorem ty_size_52 : EE.size 52 = some 1 := by kernel_rfl
theorem ty_bytes_52 : EE.bytes 52 = some 8 := by kernel_rfl
theorem ty_zero_52 : EE.zero 52 = some [Go.Ev.CV.nfn] := by kernel_rfl
theorem ty_und_53 : EE.und 53 = some (Go.TypeDesc.slice 28) := by kernel_rfl
theorem ty_size_53 : EE.size 53 = some 1 := by kernel_rfl
theorem ty_bytes_53 : EE.bytes 53 = some 24 := by kernel_rfl
theorem ty_zero_53 : EE.zero 53 = some [Go.Ev.CV.nl] := by kernel_rfl
theorem ty_und_54 : EE.und 54 = some (Go.TypeDesc.func { toList := [9, 27] } { toList := [23, 32] } true) := by kernel_rfl
theorem ty_size_54 : EE.size 54 = some 1 := by kernel_rfl
theorem ty_bytes_54 : EE.bytes 54 = some 8 := by kernel_rfl
theorem ty_zero_54 : EE.zero 54 = some [Go.Ev.CV.nfn] := by kernel_rfl
theorem ty_und_55 : EE.und 55 = some (Go.TypeDesc.func { toList := [27] } { toList := [23, 32] } false) := by kernel_rfl
theorem ty_size_55 : EE.size 55 = some 1 := by kernel_rfl
theorem ty_bytes_55 : EE.bytes 55 = some 8 := by kernel_rfl
theorem ty_zero_55 : EE.zero 55 = some [Go.Ev.CV.nfn] := by kernel_rfl
theorem ty_und_56 : EE.und 56 = some (Go.TypeDesc.struct { toList := [{ name := "least", type := 3, offset := 0, embedded := false, tag := "", pkgPath := "boscage/eval", byteOffset := 0 }, { name := "most", type := 3, offset := 1, embedded := false, tag := "", pkgPath := "boscage/eval", byteOffset := 8 }, { name := "do", type := 55, offset := 2, embedded := false, tag := "", pkgPath := "boscage/eval", byteOffset := 16 }] }) := by kernel_rfl
theorem ty_cmp_56 : EE.cmp 56 = true := by kernel_rfl
theorem ty_size_56 : EE.size 56 = some 3 := by kernel_rfl
theorem ty_bytes_56 : EE.bytes 56 = some 24 := by kernel_rfl
theorem ty_zero_56 : EE.zero 56 = some [Go.Ev.CV.int Go.IntKind.i64 (0), Go.Ev.CV.int Go.IntKind.i64 (0), Go.Ev.CV.nfn] := by kernel_rfl
theorem ty_und_57 : EE.und 57 = some (Go.TypeDesc.struct { toList := [{ name := "least", type := 3, offset := 0, embedded := false, tag := "", pkgPath := "boscage/eval", byteOffset := 0 }, { name := "most", type := 3, offset := 1, embedded := false, tag := "", pkgPath := "boscage/eval", byteOffset := 8 }, { name := "do", type := 55, offset := 2, embedded := false, tag := "", pkgPath := "boscage/eval", byteOffset := 16 }] }) := by kernel_rfl
theorem ty_cmp_57 : EE.cmp 57 = true := by kernel_rfl
theorem ty_size_57 : EE.size 57 = some 3 := by kernel_rfl
theorem ty_bytes_57 : EE.bytes 57 = some 24 := by kernel_rfl
theorem ty_zero_57 : EE.zero 57 = some [Go.Ev.CV.int Go.IntKind.i64 (0), Go.Ev.CV.int Go.IntKind.i64 (0), Go.Ev.CV.nfn] := by kernel_rfl
theorem ty_size_58 : EE.size 58 = some 1 := by kernel_rfl
theorem ty_bytes_58 : EE.bytes 58 = some 0 := by kernel_rfl
theorem ty_und_59 : EE.und 59 = some (Go.TypeDesc.func { toList := [9] } { toList := [57, 4] } false) := by kernel_rfl
theorem ty_size_59 : EE.size 59 = some 1 := by kernel_rfl
theorem ty_bytes_59 : EE.bytes 59 = some 8 := by kernel_rfl
theorem ty_zero_59 : EE.zero 59 = some [Go.Ev.CV.nfn] := by kernel_rfl
theorem ty_size_60 : EE.size 60 = some 1 := by kernel_rfl
theorem ty_bytes_60 : EE.bytes 60 = some 0 := by kernel_rfl
theorem ty_und_61 : EE.und 61 = some (Go.TypeDesc.func { toList := [26, 3] } { toList := [26, 4] } false) := by kernel_rfl
theorem ty_size_61 : EE.size 61 = some 1 := by kernel_rfl
theorem ty_bytes_61 : EE.bytes 61 = some 8 := by kernel_rfl
theorem ty_zero_61 : EE.zero 61 = some [Go.Ev.CV.nfn] := by kernel_rfl
theorem ty_und_62 : EE.und 62 = some (Go.TypeDesc.func { toList := [26] } { toList := [32] } false) := by kernel_rfl
theorem ty_size_62 : EE.size 62 = some 1 := by kernel_rfl
theorem ty_bytes_62 : EE.bytes 62 = some 8 := by kernel_rfl
theorem ty_zero_62 : EE.zero 62 = some [Go.Ev.CV.nfn] := by kernel_rfl
theorem ty_und_63 : EE.und 63 = some (Go.TypeDesc.func { toList := [23, 23] } { toList := [4] } false) := by kernel_rfl
theorem ty_size_63 : EE.size 63 = some 1 := by kernel_rfl
theorem ty_bytes_63 : EE.bytes 63 = some 8 := by kernel_rfl
theorem ty_zero_63 : EE.zero 63 = some [Go.Ev.CV.nfn] := by kernel_rfl
theorem ty_und_64 : EE.und 64 = some (Go.TypeDesc.map 3 4) := by kernel_rfl
theorem ty_size_64 : EE.size 64 = some 1 := by kernel_rfl
theorem ty_bytes_64 : EE.bytes 64 = some 8 := by kernel_rfl
theorem ty_zero_64 : EE.zero 64 = some [Go.Ev.CV.nmp] := by kernel_rfl
theorem ty_und_65 : EE.und 65 = some (Go.TypeDesc.func { toList := [26] } { toList := [] } false) := by kernel_rfl
theorem ty_size_65 : EE.size 65 = some 1 := by kernel_rfl
theorem ty_bytes_65 : EE.bytes 65 = some 8 := by kernel_rfl
theorem ty_zero_65 : EE.zero 65 = some [Go.Ev.CV.nfn] := by kernel_rfl
theorem ty_und_66 : EE.und 66 = some (Go.TypeDesc.func { toList := [68] } { toList := [39] } false) := by kernel_rfl
theorem ty_size_66 : EE.size 66 = some 1 := by kernel_rfl
theorem ty_bytes_66 : EE.bytes 66 = some 8 := by kernel_rfl
theorem ty_zero_66 : EE.zero 66 = some [Go.Ev.CV.nfn] := by kernel_rfl
theorem ty_und_67 : EE.und 67 = some (Go.TypeDesc.func { toList := [92] } { toList := [] } false) := by kernel_rfl
theorem ty_size_67 : EE.size 67 = some 1 := by kernel_rfl
theorem ty_bytes_67 : EE.bytes 67 = some 8 := by kernel_rfl
theorem ty_zero_67 : EE.zero 67 = some [Go.Ev.CV.nfn] := by kernel_rfl
theorem ty_und_68 : EE.und 68 = some (Go.TypeDesc.func { toList := [92] } { toList := [] } false) := by kernel_rfl
theorem ty_size_68 : EE.size 68 = some 1 := by kernel_rfl
theorem ty_bytes_68 : EE.bytes 68 = some 8 := by kernel_rfl
theorem ty_zero_68 : EE.zero 68 = some [Go.Ev.CV.nfn] := by kernel_rfl
theorem ty_und_69 : EE.und 69 = some (Go.TypeDesc.func { toList := [64] } { toList := [68] } false) := by kernel_rfl
theorem ty_size_69 : EE.size 69 = some 1 := by kernel_rfl
theorem ty_bytes_69 : EE.bytes 69 = some 8 := by kernel_rfl
theorem ty_zero_69 : EE.zero 69 = some [Go.Ev.CV.nfn] := by kernel_rfl
theorem ty_und_70 : EE.und 70 = some (Go.TypeDesc.func { toList := [24] } { toList := [24] } false) := by kernel_rfl
theorem ty_size_70 : EE.size 70 = some 1 := by kernel_rfl
theorem ty_bytes_70 : EE.bytes 70 = some 8 := by kernel_rfl
theorem ty_zero_70 : EE.zero 70 = some [Go.Ev.CV.nfn] := by kernel_rfl
theorem ty_und_71 : EE.und 71 = some (Go.TypeDesc.func { toList := [26, 3] } { toList := [3] } false) := by kernel_rfl
theorem ty_size_71 : EE.size 71 = some 1 := by kernel_rfl
theorem ty_bytes_71 : EE.bytes 71 = some 8 := by kernel_rfl
theorem ty_zero_71 : EE.zero 71 = some [Go.Ev.CV.nfn] := by kernel_rfl
theorem ty_size_72 : EE.size 72 = some 1 := by kernel_rfl
theorem ty_bytes_72 : EE.bytes 72 = some 0 := by kernel_rfl
theorem ty_und_73 : EE.und 73 = some (Go.TypeDesc.func { toList := [9] } { toList := [3, 3, 4] } false) := by kernel_rfl
theorem ty_size_73 : EE.size 73 = some 1 := by kernel_rfl
theorem ty_bytes_73 : EE.bytes 73 = some 8 := by kernel_rfl
theorem ty_zero_73 : EE.zero 73 = some [Go.Ev.CV.nfn] := by kernel_rfl
theorem ty_und_74 : EE.und 74 = some (Go.TypeDesc.func { toList := [27] } { toList := [4] } true) := by kernel_rfl
theorem ty_size_74 : EE.size 74 = some 1 := by kernel_rfl
theorem ty_bytes_74 : EE.bytes 74 = some 8 := by kernel_rfl
theorem ty_zero_74 : EE.zero 74 = some [Go.Ev.CV.nfn] := by kernel_rfl
theorem ty_und_75 : EE.und 75 = some (Go.TypeDesc.func { toList := [27, 76] } { toList := [3] } false) := by kernel_rfl
theorem ty_size_75 : EE.size 75 = some 1 := by kernel_rfl
theorem ty_bytes_75 : EE.bytes 75 = some 8 := by kernel_rfl
theorem ty_zero_75 : EE.zero 75 = some [Go.Ev.CV.nfn] := by kernel_rfl
theorem ty_und_76 : EE.und 76 = some (Go.TypeDesc.func { toList := [23] } { toList := [4] } false) := by kernel_rfl
theorem ty_size_76 : EE.size 76 = some 1 := by kernel_rfl
theorem ty_bytes_76 : EE.bytes 76 = some 8 := by kernel_rfl
theorem ty_zero_76 : EE.zero 76 = some [Go.Ev.CV.nfn] := by kernel_rfl
theorem ty_und_77 : EE.und 77 = some (Go.TypeDesc.struct { toList := [{ name := "name", type := 9, offset := 0, embedded := false, tag := "", pkgPath := "boscage/scalar", byteOffset := 0 }, { name := "kinds", type := 39, offset := 1, embedded := false, tag := "", pkgPath := "boscage/scalar", byteOffset := 16 }, { name := "do", type := 55, offset := 2, embedded := false, tag := "", pkgPath := "boscage/scalar", byteOffset := 40 }] }) := by kernel_rfl
theorem ty_cmp_77 : EE.cmp 77 = true := by kernel_rfl
theorem ty_size_77 : EE.size 77 = some 3 := by kernel_rfl
theorem ty_bytes_77 : EE.bytes 77 = some 48 := by kernel_rfl
theorem ty_zero_77 : EE.zero 77 = some [Go.Ev.CV.str { data := #[] }, Go.Ev.CV.nl, Go.Ev.CV.nfn] := by kernel_rfl
theorem ty_und_78 : EE.und 78 = some (Go.TypeDesc.struct { toList := [{ name := "name", type := 9, offset := 0, embedded := false, tag := "", pkgPath := "boscage/scalar", byteOffset := 0 }, { name := "kinds", type := 39, offset := 1, embedded := false, tag := "", pkgPath := "boscage/scalar", byteOffset := 16 }, { name := "do", type := 55, offset := 2, embedded := false, tag := "", pkgPath := "boscage/scalar", byteOffset := 40 }] }) := by kernel_rfl
theorem ty_cmp_78 : EE.cmp 78 = true := by kernel_rfl
theorem ty_size_78 : EE.size 78 = some 3 := by kernel_rfl
theorem ty_bytes_78 : EE.bytes 78 = some 48 := by kernel_rfl
theorem ty_zero_78 : EE.zero 78 = some [Go.Ev.CV.str { data := #[] }, Go.Ev.CV.nl, Go.Ev.CV.nfn] := by kernel_rfl
theorem ty_size_79 : EE.size 79 = some 1 := by kernel_rfl
theorem ty_bytes_79 : EE.bytes 79 = some 0 := by kernel_rfl
theorem ty_und_80 : EE.und 80 = some (Go.TypeDesc.func { toList := [9] } { toList := [78, 4] } false) := by kernel_rfl
theorem ty_size_80 : EE.size 80 = some 1 := by kernel_rfl
theorem ty_bytes_80 : EE.bytes 80 = some 8 := by kernel_rfl
theorem ty_zero_80 : EE.zero 80 = some [Go.Ev.CV.nfn] := by kernel_rfl
theorem ty_und_81 : EE.und 81 = some (Go.TypeDesc.func { toList := [23] } { toList := [23, 32] } false) := by kernel_rfl
theorem ty_size_81 : EE.size 81 = some 1 := by kernel_rfl
theorem ty_bytes_81 : EE.bytes 81 = some 8 := by kernel_rfl
theorem ty_zero_81 : EE.zero 81 = some [Go.Ev.CV.nfn] := by kernel_rfl
theorem ty_und_82 : EE.und 82 = some (Go.TypeDesc.func { toList := [81] } { toList := [57, 4] } false) := by kernel_rfl
theorem ty_size_82 : EE.size 82 = some 1 := by kernel_rfl
theorem ty_bytes_82 : EE.bytes 82 = some 8 := by kernel_rfl
theorem ty_zero_82 : EE.zero 82 = some [Go.Ev.CV.nfn] := by kernel_rfl
theorem ty_und_83 : EE.und 83 = some (Go.TypeDesc.func { toList := [23, 23] } { toList := [23, 32] } false) := by kernel_rfl
theorem ty_size_83 : EE.size 83 = some 1 := by kernel_rfl
theorem ty_bytes_83 : EE.bytes 83 = some 8 := by kernel_rfl
theorem ty_zero_83 : EE.zero 83 = some [Go.Ev.CV.nfn] := by kernel_rfl
theorem ty_und_84 : EE.und 84 = some (Go.TypeDesc.func { toList := [83] } { toList := [57, 4] } false) := by kernel_rfl
theorem ty_size_84 : EE.size 84 = some 1 := by kernel_rfl
theorem ty_bytes_84 : EE.bytes 84 = some 8 := by kernel_rfl
theorem ty_zero_84 : EE.zero 84 = some [Go.Ev.CV.nfn] := by kernel_rfl
theorem ty_und_85 : EE.und 85 = some (Go.TypeDesc.func { toList := [4] } { toList := [23] } false) := by kernel_rfl
theorem ty_size_85 : EE.size 85 = some 1 := by kernel_rfl
theorem ty_bytes_85 : EE.bytes 85 = some 8 := by kernel_rfl
theorem ty_zero_85 : EE.zero 85 = some [Go.Ev.CV.nfn] := by kernel_rfl
theorem ty_und_86 : EE.und 86 = some (Go.TypeDesc.func { toList := [27] } { toList := [23, 32] } true) := by kernel_rfl
theorem ty_size_86 : EE.size 86 = some 1 := by kernel_rfl
theorem ty_bytes_86 : EE.bytes 86 = some 8 := by kernel_rfl
theorem ty_zero_86 : EE.zero 86 = some [Go.Ev.CV.nfn] := by kernel_rfl
theorem ty_und_87 : EE.und 87 = some (Go.TypeDesc.func { toList := [23, 27] } { toList := [23, 32] } true) := by kernel_rfl
theorem ty_size_87 : EE.size 87 = some 1 := by kernel_rfl
theorem ty_bytes_87 : EE.bytes 87 = some 8 := by kernel_rfl
theorem ty_zero_87 : EE.zero 87 = some [Go.Ev.CV.nfn] := by kernel_rfl
theorem ty_und_88 : EE.und 88 = some (Go.TypeDesc.func { toList := [9, 23, 23] } { toList := [23, 32] } false) := by kernel_rfl
theorem ty_size_88 : EE.size 88 = some 1 := by kernel_rfl
theorem ty_bytes_88 : EE.bytes 88 = some 8 := by kernel_rfl
theorem ty_zero_88 : EE.zero 88 = some [Go.Ev.CV.nfn] := by kernel_rfl
theorem ty_und_89 : EE.und 89 = some (Go.TypeDesc.func { toList := [9] } { toList := [4] } false) := by kernel_rfl
theorem ty_size_89 : EE.size 89 = some 1 := by kernel_rfl
theorem ty_bytes_89 : EE.bytes 89 = some 8 := by kernel_rfl
theorem ty_zero_89 : EE.zero 89 = some [Go.Ev.CV.nfn] := by kernel_rfl
theorem ty_und_90 : EE.und 90 = some (Go.TypeDesc.func { toList := [26] } { toList := [3] } false) := by kernel_rfl
theorem ty_size_90 : EE.size 90 = some 1 := by kernel_rfl
theorem ty_bytes_90 : EE.bytes 90 = some 8 := by kernel_rfl
theorem ty_zero_90 : EE.zero 90 = some [Go.Ev.CV.nfn] := by kernel_rfl
theorem ty_und_91 : EE.und 91 = some (Go.TypeDesc.func { toList := [39] } { toList := [] } false) := by kernel_rfl
theorem ty_size_91 : EE.size 91 = some 1 := by kernel_rfl
theorem ty_bytes_91 : EE.bytes 91 = some 8 := by kernel_rfl
theorem ty_zero_91 : EE.zero 91 = some [Go.Ev.CV.nfn] := by kernel_rfl
theorem ty_und_92 : EE.und 92 = some (Go.TypeDesc.func { toList := [3] } { toList := [4] } false) := by kernel_rfl
theorem ty_size_92 : EE.size 92 = some 1 := by kernel_rfl
theorem ty_bytes_92 : EE.bytes 92 = some 8 := by kernel_rfl
theorem ty_zero_92 : EE.zero 92 = some [Go.Ev.CV.nfn] := by kernel_rfl
theorem ty_und_93 : EE.und 93 = some (Go.TypeDesc.func { toList := [9, 115] } { toList := [4] } true) := by kernel_rfl
theorem ty_size_93 : EE.size 93 = some 1 := by kernel_rfl
theorem ty_bytes_93 : EE.bytes 93 = some 8 := by kernel_rfl
theorem ty_zero_93 : EE.zero 93 = some [Go.Ev.CV.nfn] := by kernel_rfl
theorem ty_und_94 : EE.und 94 = some (Go.TypeDesc.func { toList := [9, 9] } { toList := [26] } false) := by kernel_rfl
theorem ty_size_94 : EE.size 94 = some 1 := by kernel_rfl
theorem ty_bytes_94 : EE.bytes 94 = some 8 := by kernel_rfl
theorem ty_zero_94 : EE.zero 94 = some [Go.Ev.CV.nfn] := by kernel_rfl
theorem ty_und_95 : EE.und 95 = some (Go.TypeDesc.func { toList := [27, 76] } { toList := [4] } false) := by kernel_rfl
theorem ty_size_95 : EE.size 95 = some 1 := by kernel_rfl
theorem ty_bytes_95 : EE.bytes 95 = some 8 := by kernel_rfl
theorem ty_zero_95 : EE.zero 95 = some [Go.Ev.CV.nfn] := by kernel_rfl
theorem ty_und_96 : EE.und 96 = some (Go.TypeDesc.slice 78) := by kernel_rfl
theorem ty_size_96 : EE.size 96 = some 1 := by kernel_rfl
theorem ty_bytes_96 : EE.bytes 96 = some 24 := by kernel_rfl
theorem ty_zero_96 : EE.zero 96 = some [Go.Ev.CV.nl] := by kernel_rfl
theorem ty_und_97 : EE.und 97 = some (Go.TypeDesc.func { toList := [] } { toList := [96] } false) := by kernel_rfl
theorem ty_size_97 : EE.size 97 = some 1 := by kernel_rfl
theorem ty_bytes_97 : EE.bytes 97 = some 8 := by kernel_rfl
theorem ty_zero_97 : EE.zero 97 = some [Go.Ev.CV.nfn] := by kernel_rfl
theorem ty_und_98 : EE.und 98 = some (Go.TypeDesc.func { toList := [96, 99] } { toList := [3] } false) := by kernel_rfl
theorem ty_size_98 : EE.size 98 = some 1 := by kernel_rfl
theorem ty_bytes_98 : EE.bytes 98 = some 8 := by kernel_rfl
theorem ty_zero_98 : EE.zero 98 = some [Go.Ev.CV.nfn] := by kernel_rfl
theorem ty_und_99 : EE.und 99 = some (Go.TypeDesc.func { toList := [78] } { toList := [4] } false) := by kernel_rfl
theorem ty_size_99 : EE.size 99 = some 1 := by kernel_rfl
theorem ty_bytes_99 : EE.bytes 99 = some 8 := by kernel_rfl
theorem ty_zero_99 : EE.zero 99 = some [Go.Ev.CV.nfn] := by kernel_rfl
theorem ty_und_100 : EE.und 100 = some (Go.TypeDesc.func { toList := [2, 27] } { toList := [23, 32] } false) := by kernel_rfl
theorem ty_size_100 : EE.size 100 = some 1 := by kernel_rfl
theorem ty_bytes_100 : EE.bytes 100 = some 8 := by kernel_rfl
theorem ty_zero_100 : EE.zero 100 = some [Go.Ev.CV.nfn] := by kernel_rfl
theorem ty_size_101 : EE.size 101 = some 1 := by kernel_rfl
theorem ty_bytes_101 : EE.bytes 101 = some 0 := by kernel_rfl
theorem ty_und_102 : EE.und 102 = some (Go.TypeDesc.func { toList := [9, 9] } { toList := [4, 32] } false) := by kernel_rfl
theorem ty_size_102 : EE.size 102 = some 1 := by kernel_rfl
theorem ty_bytes_102 : EE.bytes 102 = some 8 := by kernel_rfl
theorem ty_zero_102 : EE.zero 102 = some [Go.Ev.CV.nfn] := by kernel_rfl
theorem ty_und_103 : EE.und 103 = some (Go.TypeDesc.func { toList := [27] } { toList := [32] } true) := by kernel_rfl
theorem ty_size_103 : EE.size 103 = some 1 := by kernel_rfl
theorem ty_bytes_103 : EE.bytes 103 = some 8 := by kernel_rfl
theorem ty_zero_103 : EE.zero 103 = some [Go.Ev.CV.nfn] := by kernel_rfl
theorem ty_und_104 : EE.und 104 = some (Go.TypeDesc.func { toList := [23, 23] } { toList := [3] } false) := by kernel_rfl
theorem ty_size_104 : EE.size 104 = some 1 := by kernel_rfl
theorem ty_bytes_104 : EE.bytes 104 = some 8 := by kernel_rfl
theorem ty_zero_104 : EE.zero 104 = some [Go.Ev.CV.nfn] := by kernel_rfl
theorem ty_und_105 : EE.und 105 = some (Go.TypeDesc.func { toList := [9, 9] } { toList := [4] } false) := by kernel_rfl
theorem ty_size_105 : EE.size 105 = some 1 := by kernel_rfl
theorem ty_bytes_105 : EE.bytes 105 = some 8 := by kernel_rfl
theorem ty_zero_105 : EE.zero 105 = some [Go.Ev.CV.nfn] := by kernel_rfl
theorem ty_und_106 : EE.und 106 = some (Go.TypeDesc.array 2 23) := by kernel_rfl
theorem ty_size_106 : EE.size 106 = some 6 := by kernel_rfl
theorem ty_bytes_106 : EE.bytes 106 = some 64 := by kernel_rfl
theorem ty_zero_106 : EE.zero 106 = some [Go.Ev.CV.int Go.IntKind.i64 (0), Go.Ev.CV.int Go.IntKind.i64 (0), Go.Ev.CV.str { data := #[] }, Go.Ev.CV.int Go.IntKind.i64 (0), Go.Ev.CV.int Go.IntKind.i64 (0), Go.Ev.CV.str { data := #[] }] := by kernel_rfl
theorem ty_size_107 : EE.size 107 = some 1 := by kernel_rfl
theorem ty_bytes_107 : EE.bytes 107 = some 0 := by kernel_rfl
theorem ty_und_108 : EE.und 108 = some (Go.TypeDesc.func { toList := [9, 2, 2] } { toList := [2, 32] } false) := by kernel_rfl
theorem ty_size_108 : EE.size 108 = some 1 := by kernel_rfl
theorem ty_bytes_108 : EE.bytes 108 = some 8 := by kernel_rfl
theorem ty_zero_108 : EE.zero 108 = some [Go.Ev.CV.nfn] := by kernel_rfl
theorem ty_und_109 : EE.und 109 = some (Go.TypeDesc.func { toList := [24, 24, 36] } { toList := [4] } false) := by kernel_rfl
theorem ty_size_109 : EE.size 109 = some 1 := by kernel_rfl
theorem ty_bytes_109 : EE.bytes 109 = some 8 := by kernel_rfl
theorem ty_zero_109 : EE.zero 109 = some [Go.Ev.CV.nfn] := by kernel_rfl
theorem ty_und_110 : EE.und 110 = some (Go.TypeDesc.func { toList := [24, 51] } { toList := [4] } false) := by kernel_rfl
theorem ty_size_110 : EE.size 110 = some 1 := by kernel_rfl
theorem ty_bytes_110 : EE.bytes 110 = some 8 := by kernel_rfl
theorem ty_zero_110 : EE.zero 110 = some [Go.Ev.CV.nfn] := by kernel_rfl
theorem ty_und_111 : EE.und 111 = some (Go.TypeDesc.func { toList := [39, 68] } { toList := [39] } false) := by kernel_rfl
theorem ty_size_111 : EE.size 111 = some 1 := by kernel_rfl
theorem ty_bytes_111 : EE.bytes 111 = some 8 := by kernel_rfl
theorem ty_zero_111 : EE.zero 111 = some [Go.Ev.CV.nfn] := by kernel_rfl
theorem ty_und_112 : EE.und 112 = some (Go.TypeDesc.func { toList := [39, 3, 3, 3] } { toList := [] } false) := by kernel_rfl
theorem ty_size_112 : EE.size 112 = some 1 := by kernel_rfl
theorem ty_bytes_112 : EE.bytes 112 = some 8 := by kernel_rfl
theorem ty_zero_112 : EE.zero 112 = some [Go.Ev.CV.nfn] := by kernel_rfl
theorem ty_und_113 : EE.und 113 = some (Go.TypeDesc.func { toList := [114] } { toList := [3] } false) := by kernel_rfl
theorem ty_size_113 : EE.size 113 = some 1 := by kernel_rfl
theorem ty_bytes_113 : EE.bytes 113 = some 8 := by kernel_rfl
theorem ty_zero_113 : EE.zero 113 = some [Go.Ev.CV.nfn] := by kernel_rfl
theorem ty_und_114 : EE.und 114 = some (Go.TypeDesc.int Go.IntKind.u64) := by kernel_rfl
theorem ty_size_114 : EE.size 114 = some 1 := by kernel_rfl
theorem ty_bytes_114 : EE.bytes 114 = some 8 := by kernel_rfl
theorem ty_zero_114 : EE.zero 114 = some [Go.Ev.CV.int Go.IntKind.u64 (0)] := by kernel_rfl
theorem ty_und_115 : EE.und 115 = some (Go.TypeDesc.slice 9) := by kernel_rfl
theorem ty_size_115 : EE.size 115 = some 1 := by kernel_rfl
theorem ty_bytes_115 : EE.bytes 115 = some 24 := by kernel_rfl
theorem ty_zero_115 : EE.zero 115 = some [Go.Ev.CV.nl] := by kernel_rfl
theorem ty_und_116 : EE.und 116 = some (Go.TypeDesc.func { toList := [2, 2] } { toList := [3] } false) := by kernel_rfl
theorem ty_size_116 : EE.size 116 = some 1 := by kernel_rfl
theorem ty_bytes_116 : EE.bytes 116 = some 8 := by kernel_rfl
theorem ty_zero_116 : EE.zero 116 = some [Go.Ev.CV.nfn] := by kernel_rfl
theorem ty_und_117 : EE.und 117 = some (Go.TypeDesc.func { toList := [118] } { toList := [55] } false) := by kernel_rfl
theorem ty_size_117 : EE.size 117 = some 1 := by kernel_rfl
theorem ty_bytes_117 : EE.bytes 117 = some 8 := by kernel_rfl
theorem ty_zero_117 : EE.zero 117 = some [Go.Ev.CV.nfn] := by kernel_rfl
theorem ty_und_118 : EE.und 118 = some (Go.TypeDesc.func { toList := [9] } { toList := [9] } false) := by kernel_rfl
theorem ty_size_118 : EE.size 118 = some 1 := by kernel_rfl
theorem ty_bytes_118 : EE.bytes 118 = some 8 := by kernel_rfl
theorem ty_zero_118 : EE.zero 118 = some [Go.Ev.CV.nfn] := by kernel_rfl
theorem ty_und_119 : EE.und 119 = some (Go.TypeDesc.func { toList := [5, 5] } { toList := [118] } false) := by kernel_rfl
theorem ty_size_119 : EE.size 119 = some 1 := by kernel_rfl
theorem ty_bytes_119 : EE.bytes 119 = some 8 := by kernel_rfl
theorem ty_zero_119 : EE.zero 119 = some [Go.Ev.CV.nfn] := by kernel_rfl
theorem ty_und_120 : EE.und 120 = some (Go.TypeDesc.func { toList := [9, 9] } { toList := [9] } false) := by kernel_rfl
theorem ty_size_120 : EE.size 120 = some 1 := by kernel_rfl
theorem ty_bytes_120 : EE.bytes 120 = some 8 := by kernel_rfl
theorem ty_zero_120 : EE.zero 120 = some [Go.Ev.CV.nfn] := by kernel_rfl
theorem ty_und_121 : EE.und 121 = some (Go.TypeDesc.func { toList := [9, 9] } { toList := [3] } false) := by kernel_rfl
theorem ty_size_121 : EE.size 121 = some 1 := by kernel_rfl
theorem ty_bytes_121 : EE.bytes 121 = some 8 := by kernel_rfl
theorem ty_zero_121 : EE.zero 121 = some [Go.Ev.CV.nfn] := by kernel_rfl
theorem ty_und_122 : EE.und 122 = some (Go.TypeDesc.func { toList := [9] } { toList := [32] } false) := by kernel_rfl
theorem ty_size_122 : EE.size 122 = some 1 := by kernel_rfl
theorem ty_bytes_122 : EE.bytes 122 = some 8 := by kernel_rfl
theorem ty_zero_122 : EE.zero 122 = some [Go.Ev.CV.nfn] := by kernel_rfl
theorem ty_size_123 : EE.size 123 = some 1 := by kernel_rfl
theorem ty_bytes_123 : EE.bytes 123 = some 0 := by kernel_rfl
theorem ty_und_124 : EE.und 124 = some (Go.TypeDesc.func { toList := [9] } { toList := [5, 3, 4] } false) := by kernel_rfl
theorem ty_size_124 : EE.size 124 = some 1 := by kernel_rfl
theorem ty_bytes_124 : EE.bytes 124 = some 8 := by kernel_rfl
theorem ty_zero_124 : EE.zero 124 = some [Go.Ev.CV.nfn] := by kernel_rfl
theorem ty_und_125 : EE.und 125 = some (Go.TypeDesc.func { toList := [39] } { toList := [3] } true) := by kernel_rfl
theorem ty_size_125 : EE.size 125 = some 1 := by kernel_rfl
theorem ty_bytes_125 : EE.bytes 125 = some 8 := by kernel_rfl
theorem ty_zero_125 : EE.zero 125 = some [Go.Ev.CV.nfn] := by kernel_rfl
theorem ty_und_126 : EE.und 126 = some (Go.TypeDesc.func { toList := [3, 3] } { toList := [3] } false) := by kernel_rfl
theorem ty_size_126 : EE.size 126 = some 1 := by kernel_rfl
theorem ty_bytes_126 : EE.bytes 126 = some 8 := by kernel_rfl
theorem ty_zero_126 : EE.zero 126 = some [Go.Ev.CV.nfn] := by kernel_rfl
theorem ty_und_127 : EE.und 127 = some (Go.TypeDesc.int Go.IntKind.u64) := by kernel_rfl
theorem ty_size_127 : EE.size 127 = some 1 := by kernel_rfl
theorem ty_bytes_127 : EE.bytes 127 = some 8 := by kernel_rfl
theorem ty_zero_127 : EE.zero 127 = some [Go.Ev.CV.int Go.IntKind.u64 (0)] := by kernel_rfl
theorem ty_size_128 : EE.size 128 = some 1 := by kernel_rfl
theorem ty_bytes_128 : EE.bytes 128 = some 0 := by kernel_rfl
theorem ty_und_129 : EE.und 129 = some (Go.TypeDesc.func { toList := [127, 127] } { toList := [127, 127] } false) := by kernel_rfl
theorem ty_size_129 : EE.size 129 = some 1 := by kernel_rfl
theorem ty_bytes_129 : EE.bytes 129 = some 8 := by kernel_rfl
theorem ty_zero_129 : EE.zero 129 = some [Go.Ev.CV.nfn] := by kernel_rfl
theorem ty_und_130 : EE.und 130 = some (Go.TypeDesc.func { toList := [2] } { toList := [127] } false) := by kernel_rfl
theorem ty_size_130 : EE.size 130 = some 1 := by kernel_rfl
theorem ty_bytes_130 : EE.bytes 130 = some 8 := by kernel_rfl
theorem ty_zero_130 : EE.zero 130 = some [Go.Ev.CV.nfn] := by kernel_rfl
theorem ty_und_131 : EE.und 131 = some (Go.TypeDesc.func { toList := [5] } { toList := [4] } false) := by kernel_rfl
theorem ty_size_131 : EE.size 131 = some 1 := by kernel_rfl
theorem ty_bytes_131 : EE.bytes 131 = some 8 := by kernel_rfl
theorem ty_zero_131 : EE.zero 131 = some [Go.Ev.CV.nfn] := by kernel_rfl
theorem ty_und_132 : EE.und 132 = some (Go.TypeDesc.func { toList := [24, 51] } { toList := [3] } false) := by kernel_rfl
theorem ty_size_132 : EE.size 132 = some 1 := by kernel_rfl
theorem ty_bytes_132 : EE.bytes 132 = some 8 := by kernel_rfl
theorem ty_zero_132 : EE.zero 132 = some [Go.Ev.CV.nfn] := by kernel_rfl
theorem ty_und_133 : EE.und 133 = some (Go.TypeDesc.func { toList := [39, 3, 3] } { toList := [] } false) := by kernel_rfl
theorem ty_size_133 : EE.size 133 = some 1 := by kernel_rfl
theorem ty_bytes_133 : EE.bytes 133 = some 8 := by kernel_rfl
theorem ty_zero_133 : EE.zero 133 = some [Go.Ev.CV.nfn] := by kernel_rfl
theorem ty_und_134 : EE.und 134 = some (Go.TypeDesc.int Go.IntKind.i64) := by kernel_rfl
theorem ty_size_134 : EE.size 134 = some 1 := by kernel_rfl
theorem ty_bytes_134 : EE.bytes 134 = some 8 := by kernel_rfl
theorem ty_zero_134 : EE.zero 134 = some [Go.Ev.CV.int Go.IntKind.i64 (0)] := by kernel_rfl
theorem ty_size_135 : EE.size 135 = some 1 := by kernel_rfl
theorem ty_bytes_135 : EE.bytes 135 = some 0 := by kernel_rfl
theorem ty_und_136 : EE.und 136 = some (Go.TypeDesc.func { toList := [39, 3, 3] } { toList := [3, 134] } false) := by kernel_rfl
theorem ty_size_136 : EE.size 136 = some 1 := by kernel_rfl
theorem ty_bytes_136 : EE.bytes 136 = some 8 := by kernel_rfl
theorem ty_zero_136 : EE.zero 136 = some [Go.Ev.CV.nfn] := by kernel_rfl
theorem ty_und_137 : EE.und 137 = some (Go.TypeDesc.func { toList := [39, 3, 3] } { toList := [4] } false) := by kernel_rfl
theorem ty_size_137 : EE.size 137 = some 1 := by kernel_rfl
theorem ty_bytes_137 : EE.bytes 137 = some 8 := by kernel_rfl
theorem ty_zero_137 : EE.zero 137 = some [Go.Ev.CV.nfn] := by kernel_rfl
theorem ty_und_138 : EE.und 138 = some (Go.TypeDesc.func { toList := [3, 3] } { toList := [4] } false) := by kernel_rfl
theorem ty_size_138 : EE.size 138 = some 1 := by kernel_rfl
theorem ty_bytes_138 : EE.bytes 138 = some 8 := by kernel_rfl
theorem ty_zero_138 : EE.zero 138 = some [Go.Ev.CV.nfn] := by kernel_rfl
theorem ty_und_139 : EE.und 139 = some (Go.TypeDesc.func { toList := [39, 3, 3, 3] } { toList := [3] } false) := by kernel_rfl
theorem ty_size_139 : EE.size 139 = some 1 := by kernel_rfl
theorem ty_bytes_139 : EE.bytes 139 = some 8 := by kernel_rfl
theorem ty_zero_139 : EE.zero 139 = some [Go.Ev.CV.nfn] := by kernel_rfl
theorem ty_size_140 : EE.size 140 = some 1 := by kernel_rfl
theorem ty_bytes_140 : EE.bytes 140 = some 0 := by kernel_rfl
theorem ty_und_141 : EE.und 141 = some (Go.TypeDesc.func { toList := [39, 3, 3, 3] } { toList := [3, 4] } false) := by kernel_rfl
theorem ty_size_141 : EE.size 141 = some 1 := by kernel_rfl
theorem ty_bytes_141 : EE.bytes 141 = some 8 := by kernel_rfl
theorem ty_zero_141 : EE.zero 141 = some [Go.Ev.CV.nfn] := by kernel_rfl
theorem ty_und_142 : EE.und 142 = some (Go.TypeDesc.func { toList := [143] } { toList := [3] } false) := by kernel_rfl
theorem ty_size_142 : EE.size 142 = some 1 := by kernel_rfl
theorem ty_bytes_142 : EE.bytes 142 = some 8 := by kernel_rfl
theorem ty_zero_142 : EE.zero 142 = some [Go.Ev.CV.nfn] := by kernel_rfl
theorem ty_und_143 : EE.und 143 = some (Go.TypeDesc.int Go.IntKind.u32) := by kernel_rfl
theorem ty_size_143 : EE.size 143 = some 1 := by kernel_rfl
theorem ty_bytes_143 : EE.bytes 143 = some 4 := by kernel_rfl
theorem ty_zero_143 : EE.zero 143 = some [Go.Ev.CV.int Go.IntKind.u32 (0)] := by kernel_rfl
theorem ty_und_144 : EE.und 144 = some (Go.TypeDesc.func { toList := [127] } { toList := [3] } false) := by kernel_rfl
theorem ty_size_144 : EE.size 144 = some 1 := by kernel_rfl
theorem ty_bytes_144 : EE.bytes 144 = some 8 := by kernel_rfl
theorem ty_zero_144 : EE.zero 144 = some [Go.Ev.CV.nfn] := by kernel_rfl
theorem ty_und_145 : EE.und 145 = some (Go.TypeDesc.func { toList := [2] } { toList := [4] } false) := by kernel_rfl
theorem ty_size_145 : EE.size 145 = some 1 := by kernel_rfl
theorem ty_bytes_145 : EE.bytes 145 = some 8 := by kernel_rfl
theorem ty_zero_145 : EE.zero 145 = some [Go.Ev.CV.nfn] := by kernel_rfl
theorem ty_und_146 : EE.und 146 = some (Go.TypeDesc.func { toList := [9] } { toList := [23] } false) := by kernel_rfl
theorem ty_size_146 : EE.size 146 = some 1 := by kernel_rfl
theorem ty_bytes_146 : EE.bytes 146 = some 8 := by kernel_rfl
theorem ty_zero_146 : EE.zero 146 = some [Go.Ev.CV.nfn] := by kernel_rfl
theorem ty_und_147 : EE.und 147 = some (Go.TypeDesc.slice 5) := by kernel_rfl
theorem ty_size_147 : EE.size 147 = some 1 := by kernel_rfl
theorem ty_bytes_147 : EE.bytes 147 = some 24 := by kernel_rfl
theorem ty_zero_147 : EE.zero 147 = some [Go.Ev.CV.nl] := by kernel_rfl
theorem ty_und_148 : EE.und 148 = some (Go.TypeDesc.func { toList := [9, 5] } { toList := [9] } false) := by kernel_rfl
theorem ty_size_148 : EE.size 148 = some 1 := by kernel_rfl
theorem ty_bytes_148 : EE.bytes 148 = some 8 := by kernel_rfl
theorem ty_zero_148 : EE.zero 148 = some [Go.Ev.CV.nfn] := by kernel_rfl
theorem ty_und_149 : EE.und 149 = some (Go.TypeDesc.array 256 4) := by kernel_rfl
theorem ty_size_149 : EE.size 149 = some 256 := by kernel_rfl
theorem ty_bytes_149 : EE.bytes 149 = some 256 := by kernel_rfl
theorem ty_und_150 : EE.und 150 = some (Go.TypeDesc.array 256 4) := by kernel_rfl
theorem ty_size_150 : EE.size 150 = some 256 := by kernel_rfl
theorem ty_bytes_150 : EE.bytes 150 = some 256 := by kernel_rfl
theorem ty_size_151 : EE.size 151 = some 1 := by kernel_rfl
theorem ty_bytes_151 : EE.bytes 151 = some 0 := by kernel_rfl
theorem ty_und_152 : EE.und 152 = some (Go.TypeDesc.func { toList := [9] } { toList := [150, 4] } false) := by kernel_rfl
theorem ty_size_152 : EE.size 152 = some 1 := by kernel_rfl
theorem ty_bytes_152 : EE.bytes 152 = some 8 := by kernel_rfl
theorem ty_zero_152 : EE.zero 152 = some [Go.Ev.CV.nfn] := by kernel_rfl
theorem ty_und_153 : EE.und 153 = some (Go.TypeDesc.func { toList := [9, 154] } { toList := [9] } false) := by kernel_rfl
theorem ty_size_153 : EE.size 153 = some 1 := by kernel_rfl
theorem ty_bytes_153 : EE.bytes 153 = some 8 := by kernel_rfl
theorem ty_zero_153 : EE.zero 153 = some [Go.Ev.CV.nfn] := by kernel_rfl
theorem ty_und_154 : EE.und 154 = some (Go.TypeDesc.pointer 150) := by kernel_rfl
theorem ty_size_154 : EE.size 154 = some 1 := by kernel_rfl
theorem ty_bytes_154 : EE.bytes 154 = some 8 := by kernel_rfl
theorem ty_zero_154 : EE.zero 154 = some [Go.Ev.CV.nptr] := by kernel_rfl
theorem ty_und_155 : EE.und 155 = some (Go.TypeDesc.func { toList := [9, 9, 9] } { toList := [9] } false) := by kernel_rfl
theorem ty_size_155 : EE.size 155 = some 1 := by kernel_rfl
theorem ty_bytes_155 : EE.bytes 155 = some 8 := by kernel_rfl
theorem ty_zero_155 : EE.zero 155 = some [Go.Ev.CV.nfn] := by kernel_rfl
theorem ty_und_156 : EE.und 156 = some (Go.TypeDesc.func { toList := [9, 5] } { toList := [3] } false) := by kernel_rfl
theorem ty_size_156 : EE.size 156 = some 1 := by kernel_rfl
theorem ty_bytes_156 : EE.bytes 156 = some 8 := by kernel_rfl
theorem ty_zero_156 : EE.zero 156 = some [Go.Ev.CV.nfn] := by kernel_rfl
theorem ty_und_157 : EE.und 157 = some (Go.TypeDesc.func { toList := [115, 9] } { toList := [4] } false) := by kernel_rfl
theorem ty_size_157 : EE.size 157 = some 1 := by kernel_rfl
theorem ty_bytes_157 : EE.bytes 157 = some 8 := by kernel_rfl
theorem ty_zero_157 : EE.zero 157 = some [Go.Ev.CV.nfn] := by kernel_rfl
theorem ty_und_158 : EE.und 158 = some (Go.TypeDesc.func { toList := [9] } { toList := [115] } false) := by kernel_rfl
theorem ty_size_158 : EE.size 158 = some 1 := by kernel_rfl
theorem ty_bytes_158 : EE.bytes 158 = some 8 := by kernel_rfl
theorem ty_zero_158 : EE.zero 158 = some [Go.Ev.CV.nfn] := by kernel_rfl
theorem ty_und_159 : EE.und 159 = some (Go.TypeDesc.int Go.IntKind.u64) := by kernel_rfl
theorem ty_size_159 : EE.size 159 = some 1 := by kernel_rfl
theorem ty_bytes_159 : EE.bytes 159 = some 8 := by kernel_rfl
theorem ty_zero_159 : EE.zero 159 = some [Go.Ev.CV.int Go.IntKind.u64 (0)] := by kernel_rfl
theorem ty_und_160 : EE.und 160 = some (Go.TypeDesc.func { toList := [3] } { toList := [114] } false) := by kernel_rfl
theorem ty_size_160 : EE.size 160 = some 1 := by kernel_rfl
theorem ty_bytes_160 : EE.bytes 160 = some 8 := by kernel_rfl
theorem ty_zero_160 : EE.zero 160 = some [Go.Ev.CV.nfn] := by kernel_rfl
theorem ty_und_161 : EE.und 161 = some (Go.TypeDesc.func { toList := [] } { toList := [127] } false) := by kernel_rfl
theorem ty_size_161 : EE.size 161 = some 1 := by kernel_rfl
theorem ty_bytes_161 : EE.bytes 161 = some 8 := by kernel_rfl
theorem ty_zero_161 : EE.zero 161 = some [Go.Ev.CV.nfn] := by kernel_rfl
theorem ty_und_162 : EE.und 162 = some (Go.TypeDesc.func { toList := [39, 3, 163] } { toList := [3] } false) := by kernel_rfl
theorem ty_size_162 : EE.size 162 = some 1 := by kernel_rfl
theorem ty_bytes_162 : EE.bytes 162 = some 8 := by kernel_rfl
theorem ty_zero_162 : EE.zero 162 = some [Go.Ev.CV.nfn] := by kernel_rfl
theorem ty_und_163 : EE.und 163 = some (Go.TypeDesc.pointer 3) := by kernel_rfl
theorem ty_size_163 : EE.size 163 = some 1 := by kernel_rfl
theorem ty_bytes_163 : EE.bytes 163 = some 8 := by kernel_rfl
theorem ty_zero_163 : EE.zero 163 = some [Go.Ev.CV.nptr] := by kernel_rfl
theorem ty_und_164 : EE.und 164 = some (Go.TypeDesc.func { toList := [39, 3, 3, 3, 163] } { toList := [3] } false) := by kernel_rfl
theorem ty_size_164 : EE.size 164 = some 1 := by kernel_rfl
theorem ty_bytes_164 : EE.bytes 164 = some 8 := by kernel_rfl
theorem ty_zero_164 : EE.zero 164 = some [Go.Ev.CV.nfn] := by kernel_rfl
theorem ty_size_165 : EE.size 165 = some 1 := by kernel_rfl
theorem ty_bytes_165 : EE.bytes 165 = some 0 := by kernel_rfl
theorem ty_und_166 : EE.und 166 = some (Go.TypeDesc.func { toList := [9] } { toList := [21, 3] } false) := by kernel_rfl
theorem ty_size_166 : EE.size 166 = some 1 := by kernel_rfl
theorem ty_bytes_166 : EE.bytes 166 = some 8 := by kernel_rfl
theorem ty_zero_166 : EE.zero 166 = some [Go.Ev.CV.nfn] := by kernel_rfl
theorem ty_und_167 : EE.und 167 = some (Go.TypeDesc.func { toList := [9, 21] } { toList := [4] } false) := by kernel_rfl
theorem ty_size_167 : EE.size 167 = some 1 := by kernel_rfl
theorem ty_bytes_167 : EE.bytes 167 = some 8 := by kernel_rfl
theorem ty_zero_167 : EE.zero 167 = some [Go.Ev.CV.nfn] := by kernel_rfl
theorem ty_und_168 : EE.und 168 = some (Go.TypeDesc.func { toList := [3] } { toList := [3] } false) := by kernel_rfl
theorem ty_size_168 : EE.size 168 = some 1 := by kernel_rfl
theorem ty_bytes_168 : EE.bytes 168 = some 8 := by kernel_rfl
theorem ty_zero_168 : EE.zero 168 = some [Go.Ev.CV.nfn] := by kernel_rfl
theorem ty_und_169 : EE.und 169 = some (Go.TypeDesc.func { toList := [9] } { toList := [3] } false) := by kernel_rfl
theorem ty_size_169 : EE.size 169 = some 1 := by kernel_rfl
theorem ty_bytes_169 : EE.bytes 169 = some 8 := by kernel_rfl
theorem ty_zero_169 : EE.zero 169 = some [Go.Ev.CV.nfn] := by kernel_rfl
theorem ty_und_170 : EE.und 170 = some (Go.TypeDesc.func { toList := [9, 9, 9, 3] } { toList := [9] } false) := by kernel_rfl
theorem ty_size_170 : EE.size 170 = some 1 := by kernel_rfl
theorem ty_bytes_170 : EE.bytes 170 = some 8 := by kernel_rfl
theorem ty_zero_170 : EE.zero 170 = some [Go.Ev.CV.nfn] := by kernel_rfl
theorem ty_und_171 : EE.und 171 = some (Go.TypeDesc.func { toList := [115, 9] } { toList := [3] } false) := by kernel_rfl
theorem ty_size_171 : EE.size 171 = some 1 := by kernel_rfl
theorem ty_bytes_171 : EE.bytes 171 = some 8 := by kernel_rfl
theorem ty_zero_171 : EE.zero 171 = some [Go.Ev.CV.nfn] := by kernel_rfl
theorem ty_und_172 : EE.und 172 = some (Go.TypeDesc.array 256 5) := by kernel_rfl
theorem ty_size_172 : EE.size 172 = some 256 := by kernel_rfl
theorem ty_bytes_172 : EE.bytes 172 = some 256 := by kernel_rfl
theorem ty_und_173 : EE.und 173 = some (Go.TypeDesc.func { toList := [9, 174] } { toList := [115] } false) := by kernel_rfl
theorem ty_size_173 : EE.size 173 = some 1 := by kernel_rfl
theorem ty_bytes_173 : EE.bytes 173 = some 8 := by kernel_rfl
theorem ty_zero_173 : EE.zero 173 = some [Go.Ev.CV.nfn] := by kernel_rfl
theorem ty_und_174 : EE.und 174 = some (Go.TypeDesc.func { toList := [21] } { toList := [4] } false) := by kernel_rfl
theorem ty_size_174 : EE.size 174 = some 1 := by kernel_rfl
theorem ty_bytes_174 : EE.bytes 174 = some 8 := by kernel_rfl
theorem ty_zero_174 : EE.zero 174 = some [Go.Ev.CV.nfn] := by kernel_rfl
theorem ty_und_175 : EE.und 175 = some (Go.TypeDesc.pointer 159) := by kernel_rfl
theorem ty_size_175 : EE.size 175 = some 1 := by kernel_rfl
theorem ty_bytes_175 : EE.bytes 175 = some 8 := by kernel_rfl
theorem ty_zero_175 : EE.zero 175 = some [Go.Ev.CV.nptr] := by kernel_rfl
theorem ty_size_176 : EE.size 176 = some 1 := by kernel_rfl
theorem ty_bytes_176 : EE.bytes 176 = some 0 := by kernel_rfl
theorem ty_und_177 : EE.und 177 = some (Go.TypeDesc.func { toList := [39, 3, 3, 163] } { toList := [3, 3] } false) := by kernel_rfl
theorem ty_size_177 : EE.size 177 = some 1 := by kernel_rfl
theorem ty_bytes_177 : EE.bytes 177 = some 8 := by kernel_rfl
theorem ty_zero_177 : EE.zero 177 = some [Go.Ev.CV.nfn] := by kernel_rfl
theorem ty_und_178 : EE.und 178 = some (Go.TypeDesc.func { toList := [9, 21] } { toList := [3] } false) := by kernel_rfl
theorem ty_size_178 : EE.size 178 = some 1 := by kernel_rfl
theorem ty_bytes_178 : EE.bytes 178 = some 8 := by kernel_rfl
theorem ty_zero_178 : EE.zero 178 = some [Go.Ev.CV.nfn] := by kernel_rfl
theorem ty_size_179 : EE.size 179 = some 1 := by kernel_rfl
theorem ty_bytes_179 : EE.bytes 179 = some 0 := by kernel_rfl
theorem ty_und_180 : EE.und 180 = some (Go.TypeDesc.func { toList := [9] } { toList := [143, 143] } false) := by kernel_rfl
theorem ty_size_180 : EE.size 180 = some 1 := by kernel_rfl
theorem ty_bytes_180 : EE.bytes 180 = some 8 := by kernel_rfl
theorem ty_zero_180 : EE.zero 180 = some [Go.Ev.CV.nfn] := by kernel_rfl
theorem ty_und_181 : EE.und 181 = some (Go.TypeDesc.pointer 183) := by kernel_rfl
theorem ty_size_181 : EE.size 181 = some 1 := by kernel_rfl
theorem ty_bytes_181 : EE.bytes 181 = some 8 := by kernel_rfl
theorem ty_zero_181 : EE.zero 181 = some [Go.Ev.CV.nptr] := by kernel_rfl
theorem ty_und_182 : EE.und 182 = some (Go.TypeDesc.struct { toList := [{ name := "addr", type := 181, offset := 0, embedded := false, tag := "", pkgPath := "strings", byteOffset := 0 }, { name := "buf", type := 147, offset := 1, embedded := false, tag := "", pkgPath := "strings", byteOffset := 8 }] }) := by kernel_rfl
theorem ty_cmp_182 : EE.cmp 182 = true := by kernel_rfl
theorem ty_size_182 : EE.size 182 = some 2 := by kernel_rfl
theorem ty_bytes_182 : EE.bytes 182 = some 32 := by kernel_rfl
theorem ty_zero_182 : EE.zero 182 = some [Go.Ev.CV.nptr, Go.Ev.CV.nl] := by kernel_rfl
theorem ty_und_183 : EE.und 183 = some (Go.TypeDesc.struct { toList := [{ name := "addr", type := 181, offset := 0, embedded := false, tag := "", pkgPath := "strings", byteOffset := 0 }, { name := "buf", type := 147, offset := 1, embedded := false, tag := "", pkgPath := "strings", byteOffset := 8 }] }) := by kernel_rfl
theorem ty_cmp_183 : EE.cmp 183 = true := by kernel_rfl
theorem ty_size_183 : EE.size 183 = some 2 := by kernel_rfl
theorem ty_bytes_183 : EE.bytes 183 = some 32 := by kernel_rfl
theorem ty_zero_183 : EE.zero 183 = some [Go.Ev.CV.nptr, Go.Ev.CV.nl] := by kernel_rfl
theorem ty_und_184 : EE.und 184 = some (Go.TypeDesc.func { toList := [3] } { toList := [] } false) := by kernel_rfl
theorem ty_size_184 : EE.size 184 = some 1 := by kernel_rfl
theorem ty_bytes_184 : EE.bytes 184 = some 8 := by kernel_rfl
theorem ty_zero_184 : EE.zero 184 = some [Go.Ev.CV.nfn] := by kernel_rfl
theorem ty_size_185 : EE.size 185 = some 1 := by kernel_rfl
theorem ty_bytes_185 : EE.bytes 185 = some 16 := by kernel_rfl
theorem ty_zero_185 : EE.zero 185 = some [Go.Ev.CV.nif] := by kernel_rfl
theorem ty_size_186 : EE.size 186 = some 1 := by kernel_rfl
theorem ty_bytes_186 : EE.bytes 186 = some 16 := by kernel_rfl
theorem ty_zero_186 : EE.zero 186 = some [Go.Ev.CV.nif] := by kernel_rfl
theorem ty_size_187 : EE.size 187 = some 1 := by kernel_rfl
theorem ty_bytes_187 : EE.bytes 187 = some 0 := by kernel_rfl
theorem ty_und_188 : EE.und 188 = some (Go.TypeDesc.func { toList := [9] } { toList := [3, 186] } false) := by kernel_rfl
theorem ty_size_188 : EE.size 188 = some 1 := by kernel_rfl
theorem ty_bytes_188 : EE.bytes 188 = some 8 := by kernel_rfl
theorem ty_zero_188 : EE.zero 188 = some [Go.Ev.CV.nfn] := by kernel_rfl
theorem ty_und_189 : EE.und 189 = some (Go.TypeDesc.func { toList := [] } { toList := [9] } false) := by kernel_rfl
theorem ty_size_189 : EE.size 189 = some 1 := by kernel_rfl
theorem ty_bytes_189 : EE.bytes 189 = some 8 := by kernel_rfl
theorem ty_zero_189 : EE.zero 189 = some [Go.Ev.CV.nfn] := by kernel_rfl
theorem ty_und_190 : EE.und 190 = some (Go.TypeDesc.slice 192) := by kernel_rfl
theorem ty_size_190 : EE.size 190 = some 1 := by kernel_rfl
theorem ty_bytes_190 : EE.bytes 190 = some 24 := by kernel_rfl
theorem ty_zero_190 : EE.zero 190 = some [Go.Ev.CV.nl] := by kernel_rfl
theorem ty_und_191 : EE.und 191 = some (Go.TypeDesc.struct { toList := [{ name := "start", type := 3, offset := 0, embedded := false, tag := "", pkgPath := "strings", byteOffset := 0 }, { name := "end", type := 3, offset := 1, embedded := false, tag := "", pkgPath := "strings", byteOffset := 8 }] }) := by kernel_rfl
theorem ty_cmp_191 : EE.cmp 191 = true := by kernel_rfl
theorem ty_size_191 : EE.size 191 = some 2 := by kernel_rfl
theorem ty_bytes_191 : EE.bytes 191 = some 16 := by kernel_rfl
theorem ty_zero_191 : EE.zero 191 = some [Go.Ev.CV.int Go.IntKind.i64 (0), Go.Ev.CV.int Go.IntKind.i64 (0)] := by kernel_rfl
theorem ty_und_192 : EE.und 192 = some (Go.TypeDesc.struct { toList := [{ name := "start", type := 3, offset := 0, embedded := false, tag := "", pkgPath := "strings", byteOffset := 0 }, { name := "end", type := 3, offset := 1, embedded := false, tag := "", pkgPath := "strings", byteOffset := 8 }] }) := by kernel_rfl
theorem ty_cmp_192 : EE.cmp 192 = true := by kernel_rfl
theorem ty_size_192 : EE.size 192 = some 2 := by kernel_rfl
theorem ty_bytes_192 : EE.bytes 192 = some 16 := by kernel_rfl
theorem ty_zero_192 : EE.zero 192 = some [Go.Ev.CV.int Go.IntKind.i64 (0), Go.Ev.CV.int Go.IntKind.i64 (0)] := by kernel_rfl
theorem ty_und_193 : EE.und 193 = some (Go.TypeDesc.func { toList := [194, 21] } { toList := [4] } false) := by kernel_rfl
theorem ty_size_193 : EE.size 193 = some 1 := by kernel_rfl
theorem ty_bytes_193 : EE.bytes 193 = some 8 := by kernel_rfl
theorem ty_zero_193 : EE.zero 193 = some [Go.Ev.CV.nfn] := by kernel_rfl
theorem ty_und_194 : EE.und 194 = some (Go.TypeDesc.pointer 202) := by kernel_rfl
theorem ty_size_194 : EE.size 194 = some 1 := by kernel_rfl
theorem ty_bytes_194 : EE.bytes 194 = some 8 := by kernel_rfl
theorem ty_zero_194 : EE.zero 194 = some [Go.Ev.CV.nptr] := by kernel_rfl
theorem ty_und_195 : EE.und 195 = some (Go.TypeDesc.struct { toList := [{ name := "lo", type := 5, offset := 0, embedded := false, tag := "", pkgPath := "unicode/utf8", byteOffset := 0 }, { name := "hi", type := 5, offset := 1, embedded := false, tag := "", pkgPath := "unicode/utf8", byteOffset := 1 }] }) := by kernel_rfl
theorem ty_cmp_195 : EE.cmp 195 = true := by kernel_rfl
theorem ty_size_195 : EE.size 195 = some 2 := by kernel_rfl
theorem ty_bytes_195 : EE.bytes 195 = some 2 := by kernel_rfl
theorem ty_zero_195 : EE.zero 195 = some [Go.Ev.CV.int Go.IntKind.u8 (0), Go.Ev.CV.int Go.IntKind.u8 (0)] := by kernel_rfl
theorem ty_und_196 : EE.und 196 = some (Go.TypeDesc.struct { toList := [{ name := "lo", type := 5, offset := 0, embedded := false, tag := "", pkgPath := "unicode/utf8", byteOffset := 0 }, { name := "hi", type := 5, offset := 1, embedded := false, tag := "", pkgPath := "unicode/utf8", byteOffset := 1 }] }) := by kernel_rfl
theorem ty_cmp_196 : EE.cmp 196 = true := by kernel_rfl
theorem ty_size_196 : EE.size 196 = some 2 := by kernel_rfl
theorem ty_bytes_196 : EE.bytes 196 = some 2 := by kernel_rfl
theorem ty_zero_196 : EE.zero 196 = some [Go.Ev.CV.int Go.IntKind.u8 (0), Go.Ev.CV.int Go.IntKind.u8 (0)] := by kernel_rfl
theorem ty_und_197 : EE.und 197 = some (Go.TypeDesc.array 16 196) := by kernel_rfl
theorem ty_size_197 : EE.size 197 = some 32 := by kernel_rfl
theorem ty_bytes_197 : EE.bytes 197 = some 32 := by kernel_rfl
theorem ty_zero_197 : EE.zero 197 = some [Go.Ev.CV.int Go.IntKind.u8 (0), Go.Ev.CV.int Go.IntKind.u8 (0), Go.Ev.CV.int Go.IntKind.u8 (0), Go.Ev.CV.int Go.IntKind.u8 (0), Go.Ev.CV.int Go.IntKind.u8 (0), Go.Ev.CV.int Go.IntKind.u8 (0), Go.Ev.CV.int Go.IntKind.u8 (0), Go.Ev.CV.int Go.IntKind.u8 (0), Go.Ev.CV.int Go.IntKind.u8 (0), Go.Ev.CV.int Go.IntKind.u8 (0), Go.Ev.CV.int Go.IntKind.u8 (0), Go.Ev.CV.int Go.IntKind.u8 (0), Go.Ev.CV.int Go.IntKind.u8 (0), Go.Ev.CV.int Go.IntKind.u8 (0), Go.Ev.CV.int Go.IntKind.u8 (0), Go.Ev.CV.int Go.IntKind.u8 (0), Go.Ev.CV.int Go.IntKind.u8 (0), Go.Ev.CV.int Go.IntKind.u8 (0), Go.Ev.CV.int Go.IntKind.u8 (0), Go.Ev.CV.int Go.IntKind.u8 (0), Go.Ev.CV.int Go.IntKind.u8 (0), Go.Ev.CV.int Go.IntKind.u8 (0), Go.Ev.CV.int Go.IntKind.u8 (0), Go.Ev.CV.int Go.IntKind.u8 (0), Go.Ev.CV.int Go.IntKind.u8 (0), Go.Ev.CV.int Go.IntKind.u8 (0), Go.Ev.CV.int Go.IntKind.u8 (0), Go.Ev.CV.int Go.IntKind.u8 (0), Go.Ev.CV.int Go.IntKind.u8 (0), Go.Ev.CV.int Go.IntKind.u8 (0), Go.Ev.CV.int Go.IntKind.u8 (0), Go.Ev.CV.int Go.IntKind.u8 (0)] := by kernel_rfl
theorem ty_und_198 : EE.und 198 = some (Go.TypeDesc.pointer 5) := by kernel_rfl
theorem ty_size_198 : EE.size 198 = some 1 := by kernel_rfl
theorem ty_bytes_198 : EE.bytes 198 = some 8 := by kernel_rfl
theorem ty_zero_198 : EE.zero 198 = some [Go.Ev.CV.nptr] := by kernel_rfl
theorem ty_und_199 : EE.und 199 = some (Go.TypeDesc.slice 205) := by kernel_rfl
theorem ty_size_199 : EE.size 199 = some 1 := by kernel_rfl
theorem ty_bytes_199 : EE.bytes 199 = some 24 := by kernel_rfl
theorem ty_zero_199 : EE.zero 199 = some [Go.Ev.CV.nl] := by kernel_rfl
theorem ty_und_200 : EE.und 200 = some (Go.TypeDesc.slice 208) := by kernel_rfl
theorem ty_size_200 : EE.size 200 = some 1 := by kernel_rfl
theorem ty_bytes_200 : EE.bytes 200 = some 24 := by kernel_rfl
theorem ty_zero_200 : EE.zero 200 = some [Go.Ev.CV.nl] := by kernel_rfl
theorem ty_und_201 : EE.und 201 = some (Go.TypeDesc.struct { toList := [{ name := "R16", type := 199, offset := 0, embedded := false, tag := "", pkgPath := "", byteOffset := 0 }, { name := "R32", type := 200, offset := 1, embedded := false, tag := "", pkgPath := "", byteOffset := 24 }, { name := "LatinOffset", type := 3, offset := 2, embedded := false, tag := "", pkgPath := "", byteOffset := 48 }] }) := by kernel_rfl
theorem ty_cmp_201 : EE.cmp 201 = true := by kernel_rfl
theorem ty_size_201 : EE.size 201 = some 3 := by kernel_rfl
theorem ty_bytes_201 : EE.bytes 201 = some 56 := by kernel_rfl
theorem ty_zero_201 : EE.zero 201 = some [Go.Ev.CV.nl, Go.Ev.CV.nl, Go.Ev.CV.int Go.IntKind.i64 (0)] := by kernel_rfl
theorem ty_und_202 : EE.und 202 = some (Go.TypeDesc.struct { toList := [{ name := "R16", type := 199, offset := 0, embedded := false, tag := "", pkgPath := "", byteOffset := 0 }, { name := "R32", type := 200, offset := 1, embedded := false, tag := "", pkgPath := "", byteOffset := 24 }, { name := "LatinOffset", type := 3, offset := 2, embedded := false, tag := "", pkgPath := "", byteOffset := 48 }] }) := by kernel_rfl
theorem ty_cmp_202 : EE.cmp 202 = true := by kernel_rfl
theorem ty_size_202 : EE.size 202 = some 3 := by kernel_rfl
theorem ty_bytes_202 : EE.bytes 202 = some 56 := by kernel_rfl
theorem ty_zero_202 : EE.zero 202 = some [Go.Ev.CV.nl, Go.Ev.CV.nl, Go.Ev.CV.int Go.IntKind.i64 (0)] := by kernel_rfl
theorem ty_und_203 : EE.und 203 = some (Go.TypeDesc.int Go.IntKind.u16) := by kernel_rfl
theorem ty_size_203 : EE.size 203 = some 1 := by kernel_rfl
theorem ty_bytes_203 : EE.bytes 203 = some 2 := by kernel_rfl
theorem ty_zero_203 : EE.zero 203 = some [Go.Ev.CV.int Go.IntKind.u16 (0)] := by kernel_rfl
theorem ty_und_204 : EE.und 204 = some (Go.TypeDesc.struct { toList := [{ name := "Lo", type := 203, offset := 0, embedded := false, tag := "", pkgPath := "", byteOffset := 0 }, { name := "Hi", type := 203, offset := 1, embedded := false, tag := "", pkgPath := "", byteOffset := 2 }, { name := "Stride", type := 203, offset := 2, embedded := false, tag := "", pkgPath := "", byteOffset := 4 }] }) := by kernel_rfl
theorem ty_cmp_204 : EE.cmp 204 = true := by kernel_rfl
theorem ty_size_204 : EE.size 204 = some 3 := by kernel_rfl
theorem ty_bytes_204 : EE.bytes 204 = some 6 := by kernel_rfl
theorem ty_zero_204 : EE.zero 204 = some [Go.Ev.CV.int Go.IntKind.u16 (0), Go.Ev.CV.int Go.IntKind.u16 (0), Go.Ev.CV.int Go.IntKind.u16 (0)] := by kernel_rfl
theorem ty_und_205 : EE.und 205 = some (Go.TypeDesc.struct { toList := [{ name := "Lo", type := 203, offset := 0, embedded := false, tag := "", pkgPath := "", byteOffset := 0 }, { name := "Hi", type := 203, offset := 1, embedded := false, tag := "", pkgPath := "", byteOffset := 2 }, { name := "Stride", type := 203, offset := 2, embedded := false, tag := "", pkgPath := "", byteOffset := 4 }] }) := by kernel_rfl
theorem ty_cmp_205 : EE.cmp 205 = true := by kernel_rfl
theorem ty_size_205 : EE.size 205 = some 3 := by kernel_rfl
theorem ty_bytes_205 : EE.bytes 205 = some 6 := by kernel_rfl
theorem ty_zero_205 : EE.zero 205 = some [Go.Ev.CV.int Go.IntKind.u16 (0), Go.Ev.CV.int Go.IntKind.u16 (0), Go.Ev.CV.int Go.IntKind.u16 (0)] := by kernel_rfl
theorem ty_und_206 : EE.und 206 = some (Go.TypeDesc.func { toList := [199, 203] } { toList := [4] } false) := by kernel_rfl
theorem ty_size_206 : EE.size 206 = some 1 := by kernel_rfl
theorem ty_bytes_206 : EE.bytes 206 = some 8 := by kernel_rfl
theorem ty_zero_206 : EE.zero 206 = some [Go.Ev.CV.nfn] := by kernel_rfl
theorem ty_und_207 : EE.und 207 = some (Go.TypeDesc.struct { toList := [{ name := "Lo", type := 143, offset := 0, embedded := false, tag := "", pkgPath := "", byteOffset := 0 }, { name := "Hi", type := 143, offset := 1, embedded := false, tag := "", pkgPath := "", byteOffset := 4 }, { name := "Stride", type := 143, offset := 2, embedded := false, tag := "", pkgPath := "", byteOffset := 8 }] }) := by kernel_rfl
theorem ty_cmp_207 : EE.cmp 207 = true := by kernel_rfl
theorem ty_size_207 : EE.size 207 = some 3 := by kernel_rfl
theorem ty_bytes_207 : EE.bytes 207 = some 12 := by kernel_rfl
theorem ty_zero_207 : EE.zero 207 = some [Go.Ev.CV.int Go.IntKind.u32 (0), Go.Ev.CV.int Go.IntKind.u32 (0), Go.Ev.CV.int Go.IntKind.u32 (0)] := by kernel_rfl
theorem ty_und_208 : EE.und 208 = some (Go.TypeDesc.struct { toList := [{ name := "Lo", type := 143, offset := 0, embedded := false, tag := "", pkgPath := "", byteOffset := 0 }, { name := "Hi", type := 143, offset := 1, embedded := false, tag := "", pkgPath := "", byteOffset := 4 }, { name := "Stride", type := 143, offset := 2, embedded := false, tag := "", pkgPath := "", byteOffset := 8 }] }) := by kernel_rfl
theorem ty_cmp_208 : EE.cmp 208 = true := by kernel_rfl
theorem ty_size_208 : EE.size 208 = some 3 := by kernel_rfl
theorem ty_bytes_208 : EE.bytes 208 = some 12 := by kernel_rfl
theorem ty_zero_208 : EE.zero 208 = some [Go.Ev.CV.int Go.IntKind.u32 (0), Go.Ev.CV.int Go.IntKind.u32 (0), Go.Ev.CV.int Go.IntKind.u32 (0)] := by kernel_rfl
theorem ty_und_209 : EE.und 209 = some (Go.TypeDesc.func { toList := [200, 143] } { toList := [4] } false) := by kernel_rfl
theorem ty_size_209 : EE.size 209 = some 1 := by kernel_rfl
theorem ty_bytes_209 : EE.bytes 209 = some 8 := by kernel_rfl
theorem ty_zero_209 : EE.zero 209 = some [Go.Ev.CV.nfn] := by kernel_rfl
theorem ty_und_210 : EE.und 210 = some Go.TypeDesc.unsafePointer := by kernel_rfl
theorem ty_size_210 : EE.size 210 = some 1 := by kernel_rfl
theorem ty_bytes_210 : EE.bytes 210 = some 8 := by kernel_rfl
theorem ty_zero_210 : EE.zero 210 = some [Go.Ev.CV.nptr] := by kernel_rfl
theorem ty_und_211 : EE.und 211 = some (Go.TypeDesc.func { toList := [210] } { toList := [210] } false) := by kernel_rfl
theorem ty_size_211 : EE.size 211 = some 1 := by kernel_rfl
theorem ty_bytes_211 : EE.bytes 211 = some 8 := by kernel_rfl
theorem ty_zero_211 : EE.zero 211 = some [Go.Ev.CV.nfn] := by kernel_rfl
theorem ty_und_212 : EE.und 212 = some (Go.TypeDesc.func { toList := [3] } { toList := [147] } false) := by kernel_rfl
theorem ty_size_212 : EE.size 212 = some 1 := by kernel_rfl
theorem ty_bytes_212 : EE.bytes 212 = some 8 := by kernel_rfl
theorem ty_zero_212 : EE.zero 212 = some [Go.Ev.CV.nfn] := by kernel_rfl
theorem ty_und_213 : EE.und 213 = some (Go.TypeDesc.pointer 205) := by kernel_rfl
theorem ty_size_213 : EE.size 213 = some 1 := by kernel_rfl
theorem ty_bytes_213 : EE.bytes 213 = some 8 := by kernel_rfl
theorem ty_zero_213 : EE.zero 213 = some [Go.Ev.CV.nptr] := by kernel_rfl
theorem ty_und_214 : EE.und 214 = some (Go.TypeDesc.pointer 208) := by kernel_rfl
theorem ty_size_214 : EE.size 214 = some 1 := by kernel_rfl
theorem ty_bytes_214 : EE.bytes 214 = some 8 := by kernel_rfl
theorem ty_zero_214 : EE.zero 214 = some [Go.Ev.CV.nptr] := by kernel_rfl
theorem ty_und_215 : EE.und 215 = some (Go.TypeDesc.struct { toList := [{ name := "_interface", type := 17, offset := 0, embedded := false, tag := "", pkgPath := "runtime", byteOffset := 0 }, { name := "concrete", type := 17, offset := 1, embedded := false, tag := "", pkgPath := "runtime", byteOffset := 8 }, { name := "asserted", type := 17, offset := 2, embedded := false, tag := "", pkgPath := "runtime", byteOffset := 16 }, { name := "missingMethod", type := 9, offset := 3, embedded := false, tag := "", pkgPath := "runtime", byteOffset := 24 }] }) := by kernel_rfl
theorem ty_size_215 : EE.size 215 = some 4 := by kernel_rfl
theorem ty_bytes_215 : EE.bytes 215 = some 40 := by kernel_rfl
theorem ty_zero_215 : EE.zero 215 = some [Go.Ev.CV.nptr, Go.Ev.CV.nptr, Go.Ev.CV.nptr, Go.Ev.CV.str { data := #[] }] := by kernel_rfl
theorem ty_und_216 : EE.und 216 = some (Go.TypeDesc.struct { toList := [{ name := "_interface", type := 17, offset := 0, embedded := false, tag := "", pkgPath := "runtime", byteOffset := 0 }, { name := "concrete", type := 17, offset := 1, embedded := false, tag := "", pkgPath := "runtime", byteOffset := 8 }, { name := "asserted", type := 17, offset := 2, embedded := false, tag := "", pkgPath := "runtime", byteOffset := 16 }, { name := "missingMethod", type := 9, offset := 3, embedded := false, tag := "", pkgPath := "runtime", byteOffset := 24 }] }) := by kernel_rfl
theorem ty_size_216 : EE.size 216 = some 4 := by kernel_rfl
theorem ty_bytes_216 : EE.bytes 216 = some 40 := by kernel_rfl
theorem ty_zero_216 : EE.zero 216 = some [Go.Ev.CV.nptr, Go.Ev.CV.nptr, Go.Ev.CV.nptr, Go.Ev.CV.str { data := #[] }] := by kernel_rfl
theorem ty_und_217 : EE.und 217 = some (Go.TypeDesc.array 0 16) := by kernel_rfl
theorem ty_size_217 : EE.size 217 = some 0 := by kernel_rfl
theorem ty_bytes_217 : EE.bytes 217 = some 0 := by kernel_rfl
theorem ty_zero_217 : EE.zero 217 = some [] := by kernel_rfl
theorem ty_und_218 : EE.und 218 = some (Go.TypeDesc.struct { toList := [{ name := "_", type := 217, offset := 0, embedded := false, tag := "", pkgPath := "runtime", byteOffset := 0 }] }) := by kernel_rfl
theorem ty_size_218 : EE.size 218 = some 0 := by kernel_rfl
theorem ty_bytes_218 : EE.bytes 218 = some 0 := by kernel_rfl
theorem ty_zero_218 : EE.zero 218 = some [] := by kernel_rfl
theorem ty_und_219 : EE.und 219 = some (Go.TypeDesc.struct { toList := [{ name := "_", type := 217, offset := 0, embedded := false, tag := "", pkgPath := "runtime", byteOffset := 0 }] }) := by kernel_rfl
theorem ty_size_219 : EE.size 219 = some 0 := by kernel_rfl
theorem ty_bytes_219 : EE.bytes 219 = some 0 := by kernel_rfl
theorem ty_zero_219 : EE.zero 219 = some [] := by kernel_rfl
theorem ty_und_220 : EE.und 220 = some (Go.TypeDesc.func { toList := [] } { toList := [3] } false) := by kernel_rfl
theorem ty_size_220 : EE.size 220 = some 1 := by kernel_rfl
theorem ty_bytes_220 : EE.bytes 220 = some 8 := by kernel_rfl
theorem ty_zero_220 : EE.zero 220 = some [Go.Ev.CV.nfn] := by kernel_rfl
theorem ty_und_221 : EE.und 221 = some (Go.TypeDesc.int Go.IntKind.u8) := by kernel_rfl
theorem ty_size_221 : EE.size 221 = some 1 := by kernel_rfl
theorem ty_bytes_221 : EE.bytes 221 = some 1 := by kernel_rfl
theorem ty_zero_221 : EE.zero 221 = some [Go.Ev.CV.int Go.IntKind.u8 (0)] := by kernel_rfl
theorem ty_und_222 : EE.und 222 = some (Go.TypeDesc.int Go.IntKind.u8) := by kernel_rfl
theorem ty_size_222 : EE.size 222 = some 1 := by kernel_rfl
theorem ty_bytes_222 : EE.bytes 222 = some 1 := by kernel_rfl
theorem ty_zero_222 : EE.zero 222 = some [Go.Ev.CV.int Go.IntKind.u8 (0)] := by kernel_rfl
theorem ty_und_223 : EE.und 223 = some (Go.TypeDesc.func { toList := [210, 210] } { toList := [4] } false) := by kernel_rfl
theorem ty_size_223 : EE.size 223 = some 1 := by kernel_rfl
theorem ty_bytes_223 : EE.bytes 223 = some 8 := by kernel_rfl
theorem ty_zero_223 : EE.zero 223 = some [Go.Ev.CV.nfn] := by kernel_rfl
theorem ty_und_224 : EE.und 224 = some (Go.TypeDesc.int Go.IntKind.i32) := by kernel_rfl
theorem ty_size_224 : EE.size 224 = some 1 := by kernel_rfl
theorem ty_bytes_224 : EE.bytes 224 = some 4 := by kernel_rfl
theorem ty_zero_224 : EE.zero 224 = some [Go.Ev.CV.int Go.IntKind.i32 (0)] := by kernel_rfl
theorem ty_und_225 : EE.und 225 = some (Go.TypeDesc.int Go.IntKind.i32) := by kernel_rfl
theorem ty_size_225 : EE.size 225 = some 1 := by kernel_rfl
theorem ty_bytes_225 : EE.bytes 225 = some 4 := by kernel_rfl
theorem ty_zero_225 : EE.zero 225 = some [Go.Ev.CV.int Go.IntKind.i32 (0)] := by kernel_rfl
theorem ty_und_226 : EE.und 226 = some (Go.TypeDesc.struct { toList := [{ name := "Size_", type := 12, offset := 0, embedded := false, tag := "", pkgPath := "", byteOffset := 0 }, { name := "PtrBytes", type := 12, offset := 1, embedded := false, tag := "", pkgPath := "", byteOffset := 8 }, { name := "Hash", type := 143, offset := 2, embedded := false, tag := "", pkgPath := "", byteOffset := 16 }, { name := "TFlag", type := 221, offset := 3, embedded := false, tag := "", pkgPath := "", byteOffset := 20 }, { name := "Align_", type := 5, offset := 4, embedded := false, tag := "", pkgPath := "", byteOffset := 21 }, { name := "FieldAlign_", type := 5, offset := 5, embedded := false, tag := "", pkgPath := "", byteOffset := 22 }, { name := "Kind_", type := 222, offset := 6, embedded := false, tag := "", pkgPath := "", byteOffset := 23 }, { name := "Equal", type := 223, offset := 7, embedded := false, tag := "", pkgPath := "", byteOffset := 24 }, { name := "GCData", type := 198, offset := 8, embedded := false, tag := "", pkgPath := "", byteOffset := 32 }, { name := "Str", type := 224, offset := 9, embedded := false, tag := "", pkgPath := "", byteOffset := 40 }, { name := "PtrToThis", type := 225, offset := 10, embedded := false, tag := "", pkgPath := "", byteOffset := 44 }] }) := by kernel_rfl
theorem ty_size_226 : EE.size 226 = some 11 := by kernel_rfl
theorem ty_bytes_226 : EE.bytes 226 = some 48 := by kernel_rfl
theorem ty_zero_226 : EE.zero 226 = some [Go.Ev.CV.int Go.IntKind.u64 (0), Go.Ev.CV.int Go.IntKind.u64 (0), Go.Ev.CV.int Go.IntKind.u32 (0), Go.Ev.CV.int Go.IntKind.u8 (0), Go.Ev.CV.int Go.IntKind.u8 (0), Go.Ev.CV.int Go.IntKind.u8 (0), Go.Ev.CV.int Go.IntKind.u8 (0), Go.Ev.CV.nfn, Go.Ev.CV.nptr, Go.Ev.CV.int Go.IntKind.i32 (0), Go.Ev.CV.int Go.IntKind.i32 (0)] := by kernel_rfl
theorem ty_und_227 : EE.und 227 = some (Go.TypeDesc.struct { toList := [{ name := "Size_", type := 12, offset := 0, embedded := false, tag := "", pkgPath := "", byteOffset := 0 }, { name := "PtrBytes", type := 12, offset := 1, embedded := false, tag := "", pkgPath := "", byteOffset := 8 }, { name := "Hash", type := 143, offset := 2, embedded := false, tag := "", pkgPath := "", byteOffset := 16 }, { name := "TFlag", type := 221, offset := 3, embedded := false, tag := "", pkgPath := "", byteOffset := 20 }, { name := "Align_", type := 5, offset := 4, embedded := false, tag := "", pkgPath := "", byteOffset := 21 }, { name := "FieldAlign_", type := 5, offset := 5, embedded := false, tag := "", pkgPath := "", byteOffset := 22 }, { name := "Kind_", type := 222, offset := 6, embedded := false, tag := "", pkgPath := "", byteOffset := 23 }, { name := "Equal", type := 223, offset := 7, embedded := false, tag := "", pkgPath := "", byteOffset := 24 }, { name := "GCData", type := 198, offset := 8, embedded := false, tag := "", pkgPath := "", byteOffset := 32 }, { name := "Str", type := 224, offset := 9, embedded := false, tag := "", pkgPath := "", byteOffset := 40 }, { name := "PtrToThis", type := 225, offset := 10, embedded := false, tag := "", pkgPath := "", byteOffset := 44 }] }) := by kernel_rfl
theorem ty_size_227 : EE.size 227 = some 11 := by kernel_rfl
theorem ty_bytes_227 : EE.bytes 227 = some 48 := by kernel_rfl
theorem ty_zero_227 : EE.zero 227 = some [Go.Ev.CV.int Go.IntKind.u64 (0), Go.Ev.CV.int Go.IntKind.u64 (0), Go.Ev.CV.int Go.IntKind.u32 (0), Go.Ev.CV.int Go.IntKind.u8 (0), Go.Ev.CV.int Go.IntKind.u8 (0), Go.Ev.CV.int Go.IntKind.u8 (0), Go.Ev.CV.int Go.IntKind.u8 (0), Go.Ev.CV.nfn, Go.Ev.CV.nptr, Go.Ev.CV.int Go.IntKind.i32 (0), Go.Ev.CV.int Go.IntKind.i32 (0)] := by kernel_rfl
attribute [go_sem] ty_size_0 ty_bytes_0 ty_und_1 ty_size_1 ty_bytes_1 ty_zero_1 ty_und_2 ty_size_2 ty_bytes_2 ty_zero_2 ty_und_3 ty_size_3 ty_bytes_3 ty_zero_3 ty_und_4 ty_size_4 ty_bytes_4 ty_zero_4 ty_zval_4 ty_und_5 ty_size_5 ty_bytes_5 ty_zero_5 ty_und_6 ty_size_6 ty_bytes_6 ty_zero_6 ty_und_7 ty_cmp_7 ty_size_7 ty_bytes_7 ty_zero_7 ty_und_8 ty_cmp_8 ty_size_8 ty_bytes_8 ty_zero_8 ty_und_9 ty_size_9 ty_bytes_9 ty_zero_9 ty_und_10 ty_size_10 ty_bytes_10 ty_zero_10 ty_und_11 ty_size_11 ty_bytes_11 ty_zero_11 ty_und_12 ty_size_12 ty_bytes_12 ty_zero_12 ty_und_13 ty_size_13 ty_bytes_13 ty_zero_13 ty_und_14 ty_size_14 ty_bytes_14 ty_zero_14 ty_und_15 ty_size_15 ty_bytes_15 ty_zero_15 ty_und_16 ty_size_16 ty_bytes_16 ty_zero_16 ty_und_17 ty_size_17 ty_bytes_17 ty_zero_17 ty_und_18 ty_size_18 ty_bytes_18 ty_zero_18 ty_und_19 ty_size_19 ty_bytes_19 ty_zero_19 ty_size_20 ty_bytes_20 ty_zero_20 ty_und_21 ty_size_21 ty_bytes_21 ty_zero_21 ty_und_22 ty_cmp_22 ty_size_22 ty_bytes_22 ty_zero_22 ty_und_23 ty_cmp_23 ty_size_23 ty_bytes_23 ty_zero_23 ty_und_24 ty_size_24
attribute [go_sem] ty_bytes_24 ty_zero_24 ty_und_25 ty_cmp_25 ty_size_25 ty_bytes_25 ty_zero_25 ty_und_26 ty_cmp_26 ty_size_26 ty_bytes_26 ty_zero_26 ty_und_27 ty_size_27 ty_bytes_27 ty_zero_27 ty_und_28 ty_size_28 ty_bytes_28 ty_zero_28 ty_und_29 ty_size_29 ty_bytes_29 ty_zero_29 ty_und_30 ty_size_30 ty_bytes_30 ty_zero_30 ty_und_31 ty_size_31 ty_bytes_31 ty_zero_31 ty_und_32 ty_size_32 ty_bytes_32 ty_zero_32 ty_size_33 ty_bytes_33 ty_und_34 ty_size_34 ty_bytes_34 ty_zero_34 ty_und_35 ty_size_35 ty_bytes_35 ty_zero_35 ty_und_36 ty_size_36 ty_bytes_36 ty_zero_36 ty_und_37 ty_size_37 ty_bytes_37 ty_zero_37 ty_und_38 ty_size_38 ty_bytes_38 ty_zero_38 ty_und_39 ty_size_39 ty_bytes_39 ty_zero_39 ty_und_40 ty_size_40 ty_bytes_40 ty_zero_40 ty_und_41 ty_size_41 ty_bytes_41 ty_zero_41 ty_und_42 ty_size_42 ty_bytes_42 ty_zero_42 ty_und_43 ty_size_43 ty_bytes_43 ty_zero_43 ty_und_44 ty_size_44 ty_bytes_44 ty_zero_44 ty_und_45 ty_size_45 ty_bytes_45 ty_zero_45 ty_und_46 ty_size_46 ty_bytes_46 ty_zero_46 ty_und_47 ty_size_47 ty_bytes_47 ty_zero_47 ty_und_48 ty_size_48 ty_bytes_48 ty_zero_48 ty_und_49 ty_size_49
attribute [go_sem] ty_bytes_49 ty_zero_49 ty_und_50 ty_size_50 ty_bytes_50 ty_zero_50 ty_und_51 ty_size_51 ty_bytes_51 ty_zero_51 ty_und_52 ty_size_52 ty_bytes_52 ty_zero_52 ty_und_53 ty_size_53 ty_bytes_53 ty_zero_53 ty_und_54 ty_size_54 ty_bytes_54 ty_zero_54 ty_und_55 ty_size_55 ty_bytes_55 ty_zero_55 ty_und_56 ty_cmp_56 ty_size_56 ty_bytes_56 ty_zero_56 ty_und_57 ty_cmp_57 ty_size_57 ty_bytes_57 ty_zero_57 ty_size_58 ty_bytes_58 ty_und_59 ty_size_59 ty_bytes_59 ty_zero_59 ty_size_60 ty_bytes_60 ty_und_61 ty_size_61 ty_bytes_61 ty_zero_61 ty_und_62 ty_size_62 ty_bytes_62 ty_zero_62 ty_und_63 ty_size_63 ty_bytes_63 ty_zero_63 ty_und_64 ty_size_64 ty_bytes_64 ty_zero_64 ty_und_65 ty_size_65 ty_bytes_65 ty_zero_65 ty_und_66 ty_size_66 ty_bytes_66 ty_zero_66 ty_und_67 ty_size_67 ty_bytes_67 ty_zero_67 ty_und_68 ty_size_68 ty_bytes_68 ty_zero_68 ty_und_69 ty_size_69 ty_bytes_69 ty_zero_69 ty_und_70 ty_size_70 ty_bytes_70 ty_zero_70 ty_und_71 ty_size_71 ty_bytes_71 ty_zero_71 ty_size_72 ty_bytes_72 ty_und_73 ty_size_73 ty_bytes_73 ty_zero_73 ty_und_74 ty_size_74 ty_bytes_74 ty_zero_74 ty_und_75 ty_size_75
attribute [go_sem] ty_bytes_75 ty_zero_75 ty_und_76 ty_size_76 ty_bytes_76 ty_zero_76 ty_und_77 ty_cmp_77 ty_size_77 ty_bytes_77 ty_zero_77 ty_und_78 ty_cmp_78 ty_size_78 ty_bytes_78 ty_zero_78 ty_size_79 ty_bytes_79 ty_und_80 ty_size_80 ty_bytes_80 ty_zero_80 ty_und_81 ty_size_81 ty_bytes_81 ty_zero_81 ty_und_82 ty_size_82 ty_bytes_82 ty_zero_82 ty_und_83 ty_size_83 ty_bytes_83 ty_zero_83 ty_und_84 ty_size_84 ty_bytes_84 ty_zero_84 ty_und_85 ty_size_85 ty_bytes_85 ty_zero_85 ty_und_86 ty_size_86 ty_bytes_86 ty_zero_86 ty_und_87 ty_size_87 ty_bytes_87 ty_zero_87 ty_und_88 ty_size_88 ty_bytes_88 ty_zero_88 ty_und_89 ty_size_89 ty_bytes_89 ty_zero_89 ty_und_90 ty_size_90 ty_bytes_90 ty_zero_90 ty_und_91 ty_size_91 ty_bytes_91 ty_zero_91 ty_und_92 ty_size_92 ty_bytes_92 ty_zero_92 ty_und_93 ty_size_93 ty_bytes_93 ty_zero_93 ty_und_94 ty_size_94 ty_bytes_94 ty_zero_94 ty_und_95 ty_size_95 ty_bytes_95 ty_zero_95 ty_und_96 ty_size_96 ty_bytes_96 ty_zero_96 ty_und_97 ty_size_97 ty_bytes_97 ty_zero_97 ty_und_98 ty_size_98 ty_bytes_98 ty_zero_98 ty_und_99 ty_size_99 ty_bytes_99 ty_zero_99 ty_und_100 ty_size_100
attribute [go_sem] ty_bytes_100 ty_zero_100 ty_size_101 ty_bytes_101 ty_und_102 ty_size_102 ty_bytes_102 ty_zero_102 ty_und_103 ty_size_103 ty_bytes_103 ty_zero_103 ty_und_104 ty_size_104 ty_bytes_104 ty_zero_104 ty_und_105 ty_size_105 ty_bytes_105 ty_zero_105 ty_und_106 ty_size_106 ty_bytes_106 ty_zero_106 ty_size_107 ty_bytes_107 ty_und_108 ty_size_108 ty_bytes_108 ty_zero_108 ty_und_109 ty_size_109 ty_bytes_109 ty_zero_109 ty_und_110 ty_size_110 ty_bytes_110 ty_zero_110 ty_und_111 ty_size_111 ty_bytes_111 ty_zero_111 ty_und_112 ty_size_112 ty_bytes_112 ty_zero_112 ty_und_113 ty_size_113 ty_bytes_113 ty_zero_113 ty_und_114 ty_size_114 ty_bytes_114 ty_zero_114 ty_und_115 ty_size_115 ty_bytes_115 ty_zero_115 ty_und_116 ty_size_116 ty_bytes_116 ty_zero_116 ty_und_117 ty_size_117 ty_bytes_117 ty_zero_117 ty_und_118 ty_size_118 ty_bytes_118 ty_zero_118 ty_und_119 ty_size_119 ty_bytes_119 ty_zero_119 ty_und_120 ty_size_120 ty_bytes_120 ty_zero_120 ty_und_121 ty_size_121 ty_bytes_121 ty_zero_121 ty_und_122 ty_size_122 ty_bytes_122 ty_zero_122 ty_size_123 ty_bytes_123 ty_und_124 ty_size_124 ty_bytes_124 ty_zero_124 ty_und_125 ty_size_125 ty_bytes_125 ty_zero_125 ty_und_126 ty_size_126 ty_bytes_126 ty_zero_126
attribute [go_sem] ty_und_127 ty_size_127 ty_bytes_127 ty_zero_127 ty_size_128 ty_bytes_128 ty_und_129 ty_size_129 ty_bytes_129 ty_zero_129 ty_und_130 ty_size_130 ty_bytes_130 ty_zero_130 ty_und_131 ty_size_131 ty_bytes_131 ty_zero_131 ty_und_132 ty_size_132 ty_bytes_132 ty_zero_132 ty_und_133 ty_size_133 ty_bytes_133 ty_zero_133 ty_und_134 ty_size_134 ty_bytes_134 ty_zero_134 ty_size_135 ty_bytes_135 ty_und_136 ty_size_136 ty_bytes_136 ty_zero_136 ty_und_137 ty_size_137 ty_bytes_137 ty_zero_137 ty_und_138 ty_size_138 ty_bytes_138 ty_zero_138 ty_und_139 ty_size_139 ty_bytes_139 ty_zero_139 ty_size_140 ty_bytes_140 ty_und_141 ty_size_141 ty_bytes_141 ty_zero_141 ty_und_142 ty_size_142 ty_bytes_142 ty_zero_142 ty_und_143 ty_size_143 ty_bytes_143 ty_zero_143 ty_und_144 ty_size_144 ty_bytes_144 ty_zero_144 ty_und_145 ty_size_145 ty_bytes_145 ty_zero_145 ty_und_146 ty_size_146 ty_bytes_146 ty_zero_146 ty_und_147 ty_size_147 ty_bytes_147 ty_zero_147 ty_und_148 ty_size_148 ty_bytes_148 ty_zero_148 ty_und_149 ty_size_149 ty_bytes_149 ty_und_150 ty_size_150 ty_bytes_150 ty_size_151 ty_bytes_151 ty_und_152 ty_size_152 ty_bytes_152 ty_zero_152 ty_und_153 ty_size_153 ty_bytes_153 ty_zero_153 ty_und_154 ty_size_154
attribute [go_sem] ty_bytes_154 ty_zero_154 ty_und_155 ty_size_155 ty_bytes_155 ty_zero_155 ty_und_156 ty_size_156 ty_bytes_156 ty_zero_156 ty_und_157 ty_size_157 ty_bytes_157 ty_zero_157 ty_und_158 ty_size_158 ty_bytes_158 ty_zero_158 ty_und_159 ty_size_159 ty_bytes_159 ty_zero_159 ty_und_160 ty_size_160 ty_bytes_160 ty_zero_160 ty_und_161 ty_size_161 ty_bytes_161 ty_zero_161 ty_und_162 ty_size_162 ty_bytes_162 ty_zero_162 ty_und_163 ty_size_163 ty_bytes_163 ty_zero_163 ty_und_164 ty_size_164 ty_bytes_164 ty_zero_164 ty_size_165 ty_bytes_165 ty_und_166 ty_size_166 ty_bytes_166 ty_zero_166 ty_und_167 ty_size_167 ty_bytes_167 ty_zero_167 ty_und_168 ty_size_168 ty_bytes_168 ty_zero_168 ty_und_169 ty_size_169 ty_bytes_169 ty_zero_169 ty_und_170 ty_size_170 ty_bytes_170 ty_zero_170 ty_und_171 ty_size_171 ty_bytes_171 ty_zero_171 ty_und_172 ty_size_172 ty_bytes_172 ty_und_173 ty_size_173 ty_bytes_173 ty_zero_173 ty_und_174 ty_size_174 ty_bytes_174 ty_zero_174 ty_und_175 ty_size_175 ty_bytes_175 ty_zero_175 ty_size_176 ty_bytes_176 ty_und_177 ty_size_177 ty_bytes_177 ty_zero_177 ty_und_178 ty_size_178 ty_bytes_178 ty_zero_178 ty_size_179 ty_bytes_179 ty_und_180 ty_size_180 ty_bytes_180 ty_zero_180 ty_und_181
attribute [go_sem] ty_size_181 ty_bytes_181 ty_zero_181 ty_und_182 ty_cmp_182 ty_size_182 ty_bytes_182 ty_zero_182 ty_und_183 ty_cmp_183 ty_size_183 ty_bytes_183 ty_zero_183 ty_und_184 ty_size_184 ty_bytes_184 ty_zero_184 ty_size_185 ty_bytes_185 ty_zero_185 ty_size_186 ty_bytes_186 ty_zero_186 ty_size_187 ty_bytes_187 ty_und_188 ty_size_188 ty_bytes_188 ty_zero_188 ty_und_189 ty_size_189 ty_bytes_189 ty_zero_189 ty_und_190 ty_size_190 ty_bytes_190 ty_zero_190 ty_und_191 ty_cmp_191 ty_size_191 ty_bytes_191 ty_zero_191 ty_und_192 ty_cmp_192 ty_size_192 ty_bytes_192 ty_zero_192 ty_und_193 ty_size_193 ty_bytes_193 ty_zero_193 ty_und_194 ty_size_194 ty_bytes_194 ty_zero_194 ty_und_195 ty_cmp_195 ty_size_195 ty_bytes_195 ty_zero_195 ty_und_196 ty_cmp_196 ty_size_196 ty_bytes_196 ty_zero_196 ty_und_197 ty_size_197 ty_bytes_197 ty_zero_197 ty_und_198 ty_size_198 ty_bytes_198 ty_zero_198 ty_und_199 ty_size_199 ty_bytes_199 ty_zero_199 ty_und_200 ty_size_200 ty_bytes_200 ty_zero_200 ty_und_201 ty_cmp_201 ty_size_201 ty_bytes_201 ty_zero_201 ty_und_202 ty_cmp_202 ty_size_202 ty_bytes_202 ty_zero_202 ty_und_203 ty_size_203 ty_bytes_203 ty_zero_203 ty_und_204 ty_cmp_204 ty_size_204 ty_bytes_204 ty_zero_204
attribute [go_sem] ty_und_205 ty_cmp_205 ty_size_205 ty_bytes_205 ty_zero_205 ty_und_206 ty_size_206 ty_bytes_206 ty_zero_206 ty_und_207 ty_cmp_207 ty_size_207 ty_bytes_207 ty_zero_207 ty_und_208 ty_cmp_208 ty_size_208 ty_bytes_208 ty_zero_208 ty_und_209 ty_size_209 ty_bytes_209 ty_zero_209 ty_und_210 ty_size_210 ty_bytes_210 ty_zero_210 ty_und_211 ty_size_211 ty_bytes_211 ty_zero_211 ty_und_212 ty_size_212 ty_bytes_212 ty_zero_212 ty_und_213 ty_size_213 ty_bytes_213 ty_zero_213 ty_und_214 ty_size_214 ty_bytes_214 ty_zero_214 ty_und_215 ty_size_215 ty_bytes_215 ty_zero_215 ty_und_216 ty_size_216 ty_bytes_216 ty_zero_216 ty_und_217 ty_size_217 ty_bytes_217 ty_zero_217 ty_und_218 ty_size_218 ty_bytes_218 ty_zero_218 ty_und_219 ty_size_219 ty_bytes_219 ty_zero_219 ty_und_220 ty_size_220 ty_bytes_220 ty_zero_220 ty_und_221 ty_size_221 ty_bytes_221 ty_zero_221 ty_und_222 ty_size_222 ty_bytes_222 ty_zero_222 ty_und_223 ty_size_223 ty_bytes_223 ty_zero_223 ty_und_224 ty_size_224 ty_bytes_224 ty_zero_224 ty_und_225 ty_size_225 ty_bytes_225 ty_zero_225 ty_und_226 ty_size_226 ty_bytes_226 ty_zero_226 ty_und_227 ty_size_227 ty_bytes_227 ty_zero_227
end Go.Ev
