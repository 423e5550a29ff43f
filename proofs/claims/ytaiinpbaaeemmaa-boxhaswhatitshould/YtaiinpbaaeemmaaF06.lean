import Derived.Test.YtaiinpbaaeemmaaA8
import Derived.Test.YtaiinpbaaeemmaaRows
set_option linter.unusedVariables false
set_option linter.unusedSimpArgs false
set_option maxRecDepth 100000
namespace Go.Proofs.Ytaiinpbaaeemmaa
open Go Go.Av
noncomputable def T : Tab := tabOf Try.prog
@[go_sem] theorem T.z1 : T.zero 1 = some [Value.nilFunc] := by kernel_rfl
@[go_sem] theorem T.t1 : T.ty 1 = some Ty.func := by kernel_rfl
@[go_sem] theorem T.b1 : T.bytes 1 = some 8 := by kernel_rfl
@[go_sem] theorem T.z2 : T.zero 2 = some [Value.int IntKind.i64 0] := by kernel_rfl
@[go_sem] theorem T.t2 : T.ty 2 = some (Ty.int IntKind.i64) := by kernel_rfl
@[go_sem] theorem T.b2 : T.bytes 2 = some 8 := by kernel_rfl
@[go_sem] theorem T.z3 : T.zero 3 = some [Value.int IntKind.i64 0] := by kernel_rfl
@[go_sem] theorem T.t3 : T.ty 3 = some (Ty.int IntKind.i64) := by kernel_rfl
@[go_sem] theorem T.b3 : T.bytes 3 = some 8 := by kernel_rfl
@[go_sem] theorem T.z4 : T.zero 4 = some [Value.bool false] := by kernel_rfl
@[go_sem] theorem T.t4 : T.ty 4 = some Ty.bool := by kernel_rfl
@[go_sem] theorem T.b4 : T.bytes 4 = some 1 := by kernel_rfl
@[go_sem] theorem T.z5 : T.zero 5 = some [Value.int IntKind.u8 0] := by kernel_rfl
@[go_sem] theorem T.t5 : T.ty 5 = some (Ty.int IntKind.u8) := by kernel_rfl
@[go_sem] theorem T.b5 : T.bytes 5 = some 1 := by kernel_rfl
@[go_sem] theorem T.z6 : T.zero 6 = some [Value.int IntKind.u8 0] := by kernel_rfl
@[go_sem] theorem T.t6 : T.ty 6 = some (Ty.int IntKind.u8) := by kernel_rfl
@[go_sem] theorem T.b6 : T.bytes 6 = some 1 := by kernel_rfl
@[go_sem] theorem T.z7 : T.zero 7 = some [Value.int IntKind.i64 0, Value.int IntKind.i64 0, Value.bool false, Value.int IntKind.u8 0] := by kernel_rfl
@[go_sem] theorem T.t7 : T.ty 7 = some (Ty.struct [(0, 2), (1, 3), (2, 4), (3, 6)] 4) := by kernel_rfl
@[go_sem] theorem T.b7 : T.bytes 7 = some 24 := by kernel_rfl
@[go_sem] theorem T.u7 {M : Mem} {ps : List (Nat × AV)} : rdBuild T M 7 ps = bdO (bdK M ps [(0, 1), (1, 1), (2, 1), (3, 1)] [Value.int IntKind.i64 0, Value.int IntKind.i64 0, Value.bool false, Value.int IntKind.u8 0]) := rdBuild_eq (by kernel_rfl)
@[go_sem] theorem T.q7 : T.eqs 7 = true := by kernel_rfl
@[go_sem] theorem T.f7_0 : fld T 7 0 = some (0, Ty.int IntKind.i64) := by kernel_rfl
@[go_sem] theorem T.f7_1 : fld T 7 1 = some (1, Ty.int IntKind.i64) := by kernel_rfl
@[go_sem] theorem T.f7_2 : fld T 7 2 = some (2, Ty.bool) := by kernel_rfl
@[go_sem] theorem T.f7_3 : fld T 7 3 = some (3, Ty.int IntKind.u8) := by kernel_rfl
@[go_sem] theorem T.z8 : T.zero 8 = some [Value.int IntKind.i64 0, Value.int IntKind.i64 0, Value.bool false, Value.int IntKind.u8 0] := by kernel_rfl
@[go_sem] theorem T.t8 : T.ty 8 = some (Ty.struct [(0, 2), (1, 3), (2, 4), (3, 6)] 4) := by kernel_rfl
@[go_sem] theorem T.b8 : T.bytes 8 = some 24 := by kernel_rfl
@[go_sem] theorem T.u8 {M : Mem} {ps : List (Nat × AV)} : rdBuild T M 8 ps = bdO (bdK M ps [(0, 1), (1, 1), (2, 1), (3, 1)] [Value.int IntKind.i64 0, Value.int IntKind.i64 0, Value.bool false, Value.int IntKind.u8 0]) := rdBuild_eq (by kernel_rfl)
@[go_sem] theorem T.q8 : T.eqs 8 = true := by kernel_rfl
@[go_sem] theorem T.f8_0 : fld T 8 0 = some (0, Ty.int IntKind.i64) := by kernel_rfl
@[go_sem] theorem T.f8_1 : fld T 8 1 = some (1, Ty.int IntKind.i64) := by kernel_rfl
@[go_sem] theorem T.f8_2 : fld T 8 2 = some (2, Ty.bool) := by kernel_rfl
@[go_sem] theorem T.f8_3 : fld T 8 3 = some (3, Ty.int IntKind.u8) := by kernel_rfl
@[go_sem] theorem T.z9 : T.zero 9 = some [Value.string { data := { toList := [] } }] := by kernel_rfl
@[go_sem] theorem T.t9 : T.ty 9 = some Ty.str := by kernel_rfl
@[go_sem] theorem T.b9 : T.bytes 9 = some 16 := by kernel_rfl
@[go_sem] theorem T.z10 : T.zero 10 = some [Value.string { data := { toList := [] } }] := by kernel_rfl
@[go_sem] theorem T.t10 : T.ty 10 = some Ty.str := by kernel_rfl
@[go_sem] theorem T.b10 : T.bytes 10 = some 16 := by kernel_rfl
@[go_sem] theorem T.z11 : T.zero 11 = some [Value.string { data := { toList := [] } }] := by kernel_rfl
@[go_sem] theorem T.t11 : T.ty 11 = some Ty.str := by kernel_rfl
@[go_sem] theorem T.b11 : T.bytes 11 = some 16 := by kernel_rfl
@[go_sem] theorem T.z12 : T.zero 12 = some [Value.int IntKind.u64 0] := by kernel_rfl
@[go_sem] theorem T.t12 : T.ty 12 = some (Ty.int IntKind.u64) := by kernel_rfl
@[go_sem] theorem T.b12 : T.bytes 12 = some 8 := by kernel_rfl
@[go_sem] theorem T.z13 : T.zero 13 = some [Value.string { data := { toList := [] } }, Value.int IntKind.u64 0] := by kernel_rfl
@[go_sem] theorem T.t13 : T.ty 13 = some (Ty.struct [(0, 9), (1, 12)] 2) := by kernel_rfl
@[go_sem] theorem T.b13 : T.bytes 13 = some 24 := by kernel_rfl
@[go_sem] theorem T.u13 {M : Mem} {ps : List (Nat × AV)} : rdBuild T M 13 ps = bdO (bdK M ps [(0, 1), (1, 1)] [Value.string { data := { toList := [] } }, Value.int IntKind.u64 0]) := rdBuild_eq (by kernel_rfl)
@[go_sem] theorem T.f13_0 : fld T 13 0 = some (0, Ty.str) := by kernel_rfl
@[go_sem] theorem T.f13_1 : fld T 13 1 = some (1, Ty.int IntKind.u64) := by kernel_rfl
@[go_sem] theorem T.z14 : T.zero 14 = some [Value.string { data := { toList := [] } }, Value.int IntKind.u64 0] := by kernel_rfl
@[go_sem] theorem T.t14 : T.ty 14 = some (Ty.struct [(0, 9), (1, 12)] 2) := by kernel_rfl
@[go_sem] theorem T.b14 : T.bytes 14 = some 24 := by kernel_rfl
@[go_sem] theorem T.u14 {M : Mem} {ps : List (Nat × AV)} : rdBuild T M 14 ps = bdO (bdK M ps [(0, 1), (1, 1)] [Value.string { data := { toList := [] } }, Value.int IntKind.u64 0]) := rdBuild_eq (by kernel_rfl)
@[go_sem] theorem T.f14_0 : fld T 14 0 = some (0, Ty.str) := by kernel_rfl
@[go_sem] theorem T.f14_1 : fld T 14 1 = some (1, Ty.int IntKind.u64) := by kernel_rfl
@[go_sem] theorem T.z15 : T.zero 15 = some [Value.pointer none] := by kernel_rfl
@[go_sem] theorem T.t15 : T.ty 15 = some (Ty.ptr 94) := by kernel_rfl
@[go_sem] theorem T.b15 : T.bytes 15 = some 8 := by kernel_rfl
@[go_sem] theorem T.z16 : T.zero 16 = some [Value.pointer none] := by kernel_rfl
@[go_sem] theorem T.t16 : T.ty 16 = some (Ty.ptr 97) := by kernel_rfl
@[go_sem] theorem T.b16 : T.bytes 16 = some 8 := by kernel_rfl
@[go_sem] theorem T.z17 : T.zero 17 = some [Value.pointer none] := by kernel_rfl
@[go_sem] theorem T.t17 : T.ty 17 = some (Ty.ptr 107) := by kernel_rfl
@[go_sem] theorem T.b17 : T.bytes 17 = some 8 := by kernel_rfl
@[go_sem] theorem T.z18 : T.zero 18 = some [Value.pointer none] := by kernel_rfl
@[go_sem] theorem T.t18 : T.ty 18 = some (Ty.struct [(0, 17)] 1) := by kernel_rfl
@[go_sem] theorem T.b18 : T.bytes 18 = some 8 := by kernel_rfl
@[go_sem] theorem T.u18 {M : Mem} {ps : List (Nat × AV)} : rdBuild T M 18 ps = bdO (bdK M ps [(0, 1)] [Value.pointer none]) := rdBuild_eq (by kernel_rfl)
@[go_sem] theorem T.f18_0 : fld T 18 0 = some (0, Ty.ptr 107) := by kernel_rfl
@[go_sem] theorem T.z19 : T.zero 19 = some [Value.pointer none] := by kernel_rfl
@[go_sem] theorem T.t19 : T.ty 19 = some (Ty.struct [(0, 17)] 1) := by kernel_rfl
@[go_sem] theorem T.b19 : T.bytes 19 = some 8 := by kernel_rfl
@[go_sem] theorem T.u19 {M : Mem} {ps : List (Nat × AV)} : rdBuild T M 19 ps = bdO (bdK M ps [(0, 1)] [Value.pointer none]) := rdBuild_eq (by kernel_rfl)
@[go_sem] theorem T.f19_0 : fld T 19 0 = some (0, Ty.ptr 107) := by kernel_rfl
@[go_sem] theorem T.z21 : T.zero 21 = some [Value.int IntKind.i32 0] := by kernel_rfl
@[go_sem] theorem T.t21 : T.ty 21 = some (Ty.int IntKind.i32) := by kernel_rfl
@[go_sem] theorem T.b21 : T.bytes 21 = some 4 := by kernel_rfl
@[go_sem] theorem T.z22 : T.zero 22 = some [Value.slice none 0 0] := by kernel_rfl
@[go_sem] theorem T.t22 : T.ty 22 = some (Ty.slice 3) := by kernel_rfl
@[go_sem] theorem T.b22 : T.bytes 22 = some 24 := by kernel_rfl
@[go_sem] theorem T.e22 : elt T 22 = some (Ty.int IntKind.i64) := by kernel_rfl
@[go_sem] theorem T.l22 : litT T 22 = some (3, 1) := by kernel_rfl
@[go_sem] theorem T.a22 : appT T 22 = some (3, 1, 8) := by kernel_rfl
@[go_sem] theorem T.z23 : T.zero 23 = some [Value.slice none 0 0, Value.slice none 0 0] := by kernel_rfl
@[go_sem] theorem T.t23 : T.ty 23 = some (Ty.struct [(0, 22), (1, 22)] 2) := by kernel_rfl
@[go_sem] theorem T.b23 : T.bytes 23 = some 48 := by kernel_rfl
@[go_sem] theorem T.u23 {M : Mem} {ps : List (Nat × AV)} : rdBuild T M 23 ps = bdO (bdK M ps [(0, 1), (1, 1)] [Value.slice none 0 0, Value.slice none 0 0]) := rdBuild_eq (by kernel_rfl)
@[go_sem] theorem T.q23 : T.eqs 23 = true := by kernel_rfl
@[go_sem] theorem T.f23_0 : fld T 23 0 = some (0, Ty.slice 3) := by kernel_rfl
@[go_sem] theorem T.f23_1 : fld T 23 1 = some (1, Ty.slice 3) := by kernel_rfl
@[go_sem] theorem T.z24 : T.zero 24 = some [Value.slice none 0 0, Value.slice none 0 0] := by kernel_rfl
@[go_sem] theorem T.t24 : T.ty 24 = some (Ty.struct [(0, 22), (1, 22)] 2) := by kernel_rfl
@[go_sem] theorem T.b24 : T.bytes 24 = some 48 := by kernel_rfl
@[go_sem] theorem T.u24 {M : Mem} {ps : List (Nat × AV)} : rdBuild T M 24 ps = bdO (bdK M ps [(0, 1), (1, 1)] [Value.slice none 0 0, Value.slice none 0 0]) := rdBuild_eq (by kernel_rfl)
@[go_sem] theorem T.q24 : T.eqs 24 = true := by kernel_rfl
@[go_sem] theorem T.f24_0 : fld T 24 0 = some (0, Ty.slice 3) := by kernel_rfl
@[go_sem] theorem T.f24_1 : fld T 24 1 = some (1, Ty.slice 3) := by kernel_rfl
@[go_sem] theorem T.z25 : T.zero 25 = some [Value.nilFunc] := by kernel_rfl
@[go_sem] theorem T.t25 : T.ty 25 = some Ty.func := by kernel_rfl
@[go_sem] theorem T.b25 : T.bytes 25 = some 8 := by kernel_rfl
@[go_sem] theorem T.z26 : T.zero 26 = some [Value.nilFunc] := by kernel_rfl
@[go_sem] theorem T.t26 : T.ty 26 = some Ty.func := by kernel_rfl
@[go_sem] theorem T.b26 : T.bytes 26 = some 8 := by kernel_rfl
@[go_sem] theorem T.z27 : T.zero 27 = some [Value.int IntKind.i64 0] := by kernel_rfl
@[go_sem] theorem T.t27 : T.ty 27 = some (Ty.int IntKind.i64) := by kernel_rfl
@[go_sem] theorem T.b27 : T.bytes 27 = some 8 := by kernel_rfl
@[go_sem] theorem T.z29 : T.zero 29 = some [Value.nilFunc] := by kernel_rfl
@[go_sem] theorem T.t29 : T.ty 29 = some Ty.func := by kernel_rfl
@[go_sem] theorem T.b29 : T.bytes 29 = some 8 := by kernel_rfl
@[go_sem] theorem T.z30 : T.zero 30 = some [Value.nilFunc] := by kernel_rfl
@[go_sem] theorem T.t30 : T.ty 30 = some Ty.func := by kernel_rfl
@[go_sem] theorem T.b30 : T.bytes 30 = some 8 := by kernel_rfl
@[go_sem] theorem T.z32 : T.zero 32 = some [Value.nilFunc] := by kernel_rfl
@[go_sem] theorem T.t32 : T.ty 32 = some Ty.func := by kernel_rfl
@[go_sem] theorem T.b32 : T.bytes 32 = some 8 := by kernel_rfl
@[go_sem] theorem T.z34 : T.zero 34 = some [Value.nilFunc] := by kernel_rfl
@[go_sem] theorem T.t34 : T.ty 34 = some Ty.func := by kernel_rfl
@[go_sem] theorem T.b34 : T.bytes 34 = some 8 := by kernel_rfl
@[go_sem] theorem T.z35 : T.zero 35 = some [Value.int IntKind.i64 0, Value.int IntKind.i64 0] := by kernel_rfl
@[go_sem] theorem T.t35 : T.ty 35 = some (Ty.struct [(0, 3), (1, 27)] 2) := by kernel_rfl
@[go_sem] theorem T.b35 : T.bytes 35 = some 16 := by kernel_rfl
@[go_sem] theorem T.u35 {M : Mem} {ps : List (Nat × AV)} : rdBuild T M 35 ps = bdO (bdK M ps [(0, 1), (1, 1)] [Value.int IntKind.i64 0, Value.int IntKind.i64 0]) := rdBuild_eq (by kernel_rfl)
@[go_sem] theorem T.q35 : T.eqs 35 = true := by kernel_rfl
@[go_sem] theorem T.f35_0 : fld T 35 0 = some (0, Ty.int IntKind.i64) := by kernel_rfl
@[go_sem] theorem T.f35_1 : fld T 35 1 = some (1, Ty.int IntKind.i64) := by kernel_rfl
@[go_sem] theorem T.z36 : T.zero 36 = some [Value.int IntKind.i64 0, Value.int IntKind.i64 0] := by kernel_rfl
@[go_sem] theorem T.t36 : T.ty 36 = some (Ty.struct [(0, 3), (1, 27)] 2) := by kernel_rfl
@[go_sem] theorem T.b36 : T.bytes 36 = some 16 := by kernel_rfl
@[go_sem] theorem T.u36 {M : Mem} {ps : List (Nat × AV)} : rdBuild T M 36 ps = bdO (bdK M ps [(0, 1), (1, 1)] [Value.int IntKind.i64 0, Value.int IntKind.i64 0]) := rdBuild_eq (by kernel_rfl)
@[go_sem] theorem T.q36 : T.eqs 36 = true := by kernel_rfl
@[go_sem] theorem T.f36_0 : fld T 36 0 = some (0, Ty.int IntKind.i64) := by kernel_rfl
@[go_sem] theorem T.f36_1 : fld T 36 1 = some (1, Ty.int IntKind.i64) := by kernel_rfl
@[go_sem] theorem T.z37 : T.zero 37 = some [Value.nilFunc] := by kernel_rfl
@[go_sem] theorem T.t37 : T.ty 37 = some Ty.func := by kernel_rfl
@[go_sem] theorem T.b37 : T.bytes 37 = some 8 := by kernel_rfl
@[go_sem] theorem T.z38 : T.zero 38 = some [Value.nilFunc] := by kernel_rfl
@[go_sem] theorem T.t38 : T.ty 38 = some Ty.func := by kernel_rfl
@[go_sem] theorem T.b38 : T.bytes 38 = some 8 := by kernel_rfl
@[go_sem] theorem T.z39 : T.zero 39 = some [Value.slice none 0 0, Value.slice none 0 0, Value.slice none 0 0, Value.slice none 0 0, Value.int IntKind.i64 0] := by kernel_rfl
@[go_sem] theorem T.t39 : T.ty 39 = some (Ty.struct [(0, 24), (2, 24), (4, 27)] 5) := by kernel_rfl
@[go_sem] theorem T.b39 : T.bytes 39 = some 104 := by kernel_rfl
@[go_sem] theorem T.u39 {M : Mem} {ps : List (Nat × AV)} : rdBuild T M 39 ps = bdO (bdK M ps [(0, 2), (2, 2), (4, 1)] [Value.slice none 0 0, Value.slice none 0 0, Value.slice none 0 0, Value.slice none 0 0, Value.int IntKind.i64 0]) := rdBuild_eq (by kernel_rfl)
@[go_sem] theorem T.q39 : T.eqs 39 = true := by kernel_rfl
@[go_sem] theorem T.f39_0 : fld T 39 0 = some (0, Ty.struct [(0, 22), (1, 22)] 2) := by kernel_rfl
@[go_sem] theorem T.f39_1 : fld T 39 1 = some (2, Ty.struct [(0, 22), (1, 22)] 2) := by kernel_rfl
@[go_sem] theorem T.f39_2 : fld T 39 2 = some (4, Ty.int IntKind.i64) := by kernel_rfl
@[go_sem] theorem T.z40 : T.zero 40 = some [Value.slice none 0 0, Value.slice none 0 0, Value.slice none 0 0, Value.slice none 0 0, Value.int IntKind.i64 0] := by kernel_rfl
@[go_sem] theorem T.t40 : T.ty 40 = some (Ty.struct [(0, 24), (2, 24), (4, 27)] 5) := by kernel_rfl
@[go_sem] theorem T.b40 : T.bytes 40 = some 104 := by kernel_rfl
@[go_sem] theorem T.u40 {M : Mem} {ps : List (Nat × AV)} : rdBuild T M 40 ps = bdO (bdK M ps [(0, 2), (2, 2), (4, 1)] [Value.slice none 0 0, Value.slice none 0 0, Value.slice none 0 0, Value.slice none 0 0, Value.int IntKind.i64 0]) := rdBuild_eq (by kernel_rfl)
@[go_sem] theorem T.q40 : T.eqs 40 = true := by kernel_rfl
@[go_sem] theorem T.f40_0 : fld T 40 0 = some (0, Ty.struct [(0, 22), (1, 22)] 2) := by kernel_rfl
@[go_sem] theorem T.f40_1 : fld T 40 1 = some (2, Ty.struct [(0, 22), (1, 22)] 2) := by kernel_rfl
@[go_sem] theorem T.f40_2 : fld T 40 2 = some (4, Ty.int IntKind.i64) := by kernel_rfl
@[go_sem] theorem T.z41 : T.zero 41 = some [Value.nilFunc] := by kernel_rfl
@[go_sem] theorem T.t41 : T.ty 41 = some Ty.func := by kernel_rfl
@[go_sem] theorem T.b41 : T.bytes 41 = some 8 := by kernel_rfl
@[go_sem] theorem T.z42 : T.zero 42 = some [Value.int IntKind.i64 0, Value.int IntKind.i64 0, Value.int IntKind.i64 0] := by kernel_rfl
@[go_sem] theorem T.t42 : T.ty 42 = some (Ty.struct [(0, 3), (1, 3), (2, 27)] 3) := by kernel_rfl
@[go_sem] theorem T.b42 : T.bytes 42 = some 24 := by kernel_rfl
@[go_sem] theorem T.u42 {M : Mem} {ps : List (Nat × AV)} : rdBuild T M 42 ps = bdO (bdK M ps [(0, 1), (1, 1), (2, 1)] [Value.int IntKind.i64 0, Value.int IntKind.i64 0, Value.int IntKind.i64 0]) := rdBuild_eq (by kernel_rfl)
@[go_sem] theorem T.q42 : T.eqs 42 = true := by kernel_rfl
@[go_sem] theorem T.f42_0 : fld T 42 0 = some (0, Ty.int IntKind.i64) := by kernel_rfl
@[go_sem] theorem T.f42_1 : fld T 42 1 = some (1, Ty.int IntKind.i64) := by kernel_rfl
@[go_sem] theorem T.f42_2 : fld T 42 2 = some (2, Ty.int IntKind.i64) := by kernel_rfl
@[go_sem] theorem T.z43 : T.zero 43 = some [Value.int IntKind.i64 0, Value.int IntKind.i64 0, Value.int IntKind.i64 0] := by kernel_rfl
@[go_sem] theorem T.t43 : T.ty 43 = some (Ty.struct [(0, 3), (1, 3), (2, 27)] 3) := by kernel_rfl
@[go_sem] theorem T.b43 : T.bytes 43 = some 24 := by kernel_rfl
@[go_sem] theorem T.u43 {M : Mem} {ps : List (Nat × AV)} : rdBuild T M 43 ps = bdO (bdK M ps [(0, 1), (1, 1), (2, 1)] [Value.int IntKind.i64 0, Value.int IntKind.i64 0, Value.int IntKind.i64 0]) := rdBuild_eq (by kernel_rfl)
@[go_sem] theorem T.q43 : T.eqs 43 = true := by kernel_rfl
@[go_sem] theorem T.f43_0 : fld T 43 0 = some (0, Ty.int IntKind.i64) := by kernel_rfl
@[go_sem] theorem T.f43_1 : fld T 43 1 = some (1, Ty.int IntKind.i64) := by kernel_rfl
@[go_sem] theorem T.f43_2 : fld T 43 2 = some (2, Ty.int IntKind.i64) := by kernel_rfl
@[go_sem] theorem T.z44 : T.zero 44 = some [Value.nilFunc] := by kernel_rfl
@[go_sem] theorem T.t44 : T.ty 44 = some Ty.func := by kernel_rfl
@[go_sem] theorem T.b44 : T.bytes 44 = some 8 := by kernel_rfl
@[go_sem] theorem T.z45 : T.zero 45 = some [Value.nilFunc] := by kernel_rfl
@[go_sem] theorem T.t45 : T.ty 45 = some Ty.func := by kernel_rfl
@[go_sem] theorem T.b45 : T.bytes 45 = some 8 := by kernel_rfl
@[go_sem] theorem T.z46 : T.zero 46 = some [Value.nilFunc] := by kernel_rfl
@[go_sem] theorem T.t46 : T.ty 46 = some Ty.func := by kernel_rfl
@[go_sem] theorem T.b46 : T.bytes 46 = some 8 := by kernel_rfl
@[go_sem] theorem T.z47 : T.zero 47 = some [Value.nilFunc] := by kernel_rfl
@[go_sem] theorem T.t47 : T.ty 47 = some Ty.func := by kernel_rfl
@[go_sem] theorem T.b47 : T.bytes 47 = some 8 := by kernel_rfl
@[go_sem] theorem T.z48 : T.zero 48 = some [Value.slice none 0 0] := by kernel_rfl
@[go_sem] theorem T.t48 : T.ty 48 = some (Ty.slice 84) := by kernel_rfl
@[go_sem] theorem T.b48 : T.bytes 48 = some 24 := by kernel_rfl
@[go_sem] theorem T.e48 : elt T 48 = some (Ty.int IntKind.u16) := by kernel_rfl
@[go_sem] theorem T.l48 : litT T 48 = some (84, 1) := by kernel_rfl
@[go_sem] theorem T.a48 : appT T 48 = some (84, 1, 2) := by kernel_rfl
@[go_sem] theorem T.z49 : T.zero 49 = some [Value.nilFunc] := by kernel_rfl
@[go_sem] theorem T.t49 : T.ty 49 = some Ty.func := by kernel_rfl
@[go_sem] theorem T.b49 : T.bytes 49 = some 8 := by kernel_rfl
@[go_sem] theorem T.z50 : T.zero 50 = some [Value.nilFunc] := by kernel_rfl
@[go_sem] theorem T.t50 : T.ty 50 = some Ty.func := by kernel_rfl
@[go_sem] theorem T.b50 : T.bytes 50 = some 8 := by kernel_rfl
@[go_sem] theorem T.z51 : T.zero 51 = some [Value.nilFunc] := by kernel_rfl
@[go_sem] theorem T.t51 : T.ty 51 = some Ty.func := by kernel_rfl
@[go_sem] theorem T.b51 : T.bytes 51 = some 8 := by kernel_rfl
@[go_sem] theorem T.z52 : T.zero 52 = some [Value.nilFunc] := by kernel_rfl
@[go_sem] theorem T.t52 : T.ty 52 = some Ty.func := by kernel_rfl
@[go_sem] theorem T.b52 : T.bytes 52 = some 8 := by kernel_rfl
@[go_sem] theorem T.z54 : T.zero 54 = some [Value.nilFunc] := by kernel_rfl
@[go_sem] theorem T.t54 : T.ty 54 = some Ty.func := by kernel_rfl
@[go_sem] theorem T.b54 : T.bytes 54 = some 8 := by kernel_rfl
@[go_sem] theorem T.z55 : T.zero 55 = some [Value.nilFunc] := by kernel_rfl
@[go_sem] theorem T.t55 : T.ty 55 = some Ty.func := by kernel_rfl
@[go_sem] theorem T.b55 : T.bytes 55 = some 8 := by kernel_rfl
@[go_sem] theorem T.z56 : T.zero 56 = some [Value.nilFunc] := by kernel_rfl
@[go_sem] theorem T.t56 : T.ty 56 = some Ty.func := by kernel_rfl
@[go_sem] theorem T.b56 : T.bytes 56 = some 8 := by kernel_rfl
@[go_sem] theorem T.z57 : T.zero 57 = some [Value.nilFunc] := by kernel_rfl
@[go_sem] theorem T.t57 : T.ty 57 = some Ty.func := by kernel_rfl
@[go_sem] theorem T.b57 : T.bytes 57 = some 8 := by kernel_rfl
@[go_sem] theorem T.z58 : T.zero 58 = some [Value.nilFunc] := by kernel_rfl
@[go_sem] theorem T.t58 : T.ty 58 = some Ty.func := by kernel_rfl
@[go_sem] theorem T.b58 : T.bytes 58 = some 8 := by kernel_rfl
@[go_sem] theorem T.z59 : T.zero 59 = some [Value.slice none 0 0] := by kernel_rfl
@[go_sem] theorem T.t59 : T.ty 59 = some (Ty.slice 22) := by kernel_rfl
@[go_sem] theorem T.b59 : T.bytes 59 = some 24 := by kernel_rfl
@[go_sem] theorem T.e59 : elt T 59 = some (Ty.slice 3) := by kernel_rfl
@[go_sem] theorem T.l59 : litT T 59 = some (22, 1) := by kernel_rfl
@[go_sem] theorem T.a59 : appT T 59 = some (22, 1, 24) := by kernel_rfl
@[go_sem] theorem T.z60 : T.zero 60 = some [Value.nilFunc] := by kernel_rfl
@[go_sem] theorem T.t60 : T.ty 60 = some Ty.func := by kernel_rfl
@[go_sem] theorem T.b60 : T.bytes 60 = some 8 := by kernel_rfl
@[go_sem] theorem T.z62 : T.zero 62 = some [Value.nilFunc] := by kernel_rfl
@[go_sem] theorem T.t62 : T.ty 62 = some Ty.func := by kernel_rfl
@[go_sem] theorem T.b62 : T.bytes 62 = some 8 := by kernel_rfl
@[go_sem] theorem T.z63 : T.zero 63 = some [Value.nilFunc] := by kernel_rfl
@[go_sem] theorem T.t63 : T.ty 63 = some Ty.func := by kernel_rfl
@[go_sem] theorem T.b63 : T.bytes 63 = some 8 := by kernel_rfl
@[go_sem] theorem T.z64 : T.zero 64 = some [Value.slice none 0 0, Value.slice none 0 0, Value.bool false, Value.int IntKind.i64 0] := by kernel_rfl
@[go_sem] theorem T.t64 : T.ty 64 = some (Ty.struct [(0, 24), (2, 4), (3, 27)] 4) := by kernel_rfl
@[go_sem] theorem T.b64 : T.bytes 64 = some 64 := by kernel_rfl
@[go_sem] theorem T.u64 {M : Mem} {ps : List (Nat × AV)} : rdBuild T M 64 ps = bdO (bdK M ps [(0, 2), (2, 1), (3, 1)] [Value.slice none 0 0, Value.slice none 0 0, Value.bool false, Value.int IntKind.i64 0]) := rdBuild_eq (by kernel_rfl)
@[go_sem] theorem T.q64 : T.eqs 64 = true := by kernel_rfl
@[go_sem] theorem T.f64_0 : fld T 64 0 = some (0, Ty.struct [(0, 22), (1, 22)] 2) := by kernel_rfl
@[go_sem] theorem T.f64_1 : fld T 64 1 = some (2, Ty.bool) := by kernel_rfl
@[go_sem] theorem T.f64_2 : fld T 64 2 = some (3, Ty.int IntKind.i64) := by kernel_rfl
@[go_sem] theorem T.z65 : T.zero 65 = some [Value.slice none 0 0, Value.slice none 0 0, Value.bool false, Value.int IntKind.i64 0] := by kernel_rfl
@[go_sem] theorem T.t65 : T.ty 65 = some (Ty.struct [(0, 24), (2, 4), (3, 27)] 4) := by kernel_rfl
@[go_sem] theorem T.b65 : T.bytes 65 = some 64 := by kernel_rfl
@[go_sem] theorem T.u65 {M : Mem} {ps : List (Nat × AV)} : rdBuild T M 65 ps = bdO (bdK M ps [(0, 2), (2, 1), (3, 1)] [Value.slice none 0 0, Value.slice none 0 0, Value.bool false, Value.int IntKind.i64 0]) := rdBuild_eq (by kernel_rfl)
@[go_sem] theorem T.q65 : T.eqs 65 = true := by kernel_rfl
@[go_sem] theorem T.f65_0 : fld T 65 0 = some (0, Ty.struct [(0, 22), (1, 22)] 2) := by kernel_rfl
@[go_sem] theorem T.f65_1 : fld T 65 1 = some (2, Ty.bool) := by kernel_rfl
@[go_sem] theorem T.f65_2 : fld T 65 2 = some (3, Ty.int IntKind.i64) := by kernel_rfl
@[go_sem] theorem T.z66 : T.zero 66 = some [Value.nilFunc] := by kernel_rfl
@[go_sem] theorem T.t66 : T.ty 66 = some Ty.func := by kernel_rfl
@[go_sem] theorem T.b66 : T.bytes 66 = some 8 := by kernel_rfl
@[go_sem] theorem T.z67 : T.zero 67 = some [Value.nilFunc] := by kernel_rfl
@[go_sem] theorem T.t67 : T.ty 67 = some Ty.func := by kernel_rfl
@[go_sem] theorem T.b67 : T.bytes 67 = some 8 := by kernel_rfl
@[go_sem] theorem T.z68 : T.zero 68 = some [Value.nilFunc] := by kernel_rfl
@[go_sem] theorem T.t68 : T.ty 68 = some Ty.func := by kernel_rfl
@[go_sem] theorem T.b68 : T.bytes 68 = some 8 := by kernel_rfl
@[go_sem] theorem T.z69 : T.zero 69 = some [Value.nilFunc] := by kernel_rfl
@[go_sem] theorem T.t69 : T.ty 69 = some Ty.func := by kernel_rfl
@[go_sem] theorem T.b69 : T.bytes 69 = some 8 := by kernel_rfl
@[go_sem] theorem T.z70 : T.zero 70 = some [Value.nilFunc] := by kernel_rfl
@[go_sem] theorem T.t70 : T.ty 70 = some Ty.func := by kernel_rfl
@[go_sem] theorem T.b70 : T.bytes 70 = some 8 := by kernel_rfl
@[go_sem] theorem T.z71 : T.zero 71 = some [Value.nilFunc] := by kernel_rfl
@[go_sem] theorem T.t71 : T.ty 71 = some Ty.func := by kernel_rfl
@[go_sem] theorem T.b71 : T.bytes 71 = some 8 := by kernel_rfl
@[go_sem] theorem T.z73 : T.zero 73 = some [Value.nilFunc] := by kernel_rfl
@[go_sem] theorem T.t73 : T.ty 73 = some Ty.func := by kernel_rfl
@[go_sem] theorem T.b73 : T.bytes 73 = some 8 := by kernel_rfl
@[go_sem] theorem T.z74 : T.zero 74 = some [Value.nilFunc] := by kernel_rfl
@[go_sem] theorem T.t74 : T.ty 74 = some Ty.func := by kernel_rfl
@[go_sem] theorem T.b74 : T.bytes 74 = some 8 := by kernel_rfl
@[go_sem] theorem T.z75 : T.zero 75 = some [Value.nilFunc] := by kernel_rfl
@[go_sem] theorem T.t75 : T.ty 75 = some Ty.func := by kernel_rfl
@[go_sem] theorem T.b75 : T.bytes 75 = some 8 := by kernel_rfl
@[go_sem] theorem T.z76 : T.zero 76 = some [Value.nilFunc] := by kernel_rfl
@[go_sem] theorem T.t76 : T.ty 76 = some Ty.func := by kernel_rfl
@[go_sem] theorem T.b76 : T.bytes 76 = some 8 := by kernel_rfl
@[go_sem] theorem T.z77 : T.zero 77 = some [Value.nilFunc] := by kernel_rfl
@[go_sem] theorem T.t77 : T.ty 77 = some Ty.func := by kernel_rfl
@[go_sem] theorem T.b77 : T.bytes 77 = some 8 := by kernel_rfl
@[go_sem] theorem T.z78 : T.zero 78 = some [Value.nilFunc] := by kernel_rfl
@[go_sem] theorem T.t78 : T.ty 78 = some Ty.func := by kernel_rfl
@[go_sem] theorem T.b78 : T.bytes 78 = some 8 := by kernel_rfl
@[go_sem] theorem T.z79 : T.zero 79 = some [Value.nilFunc] := by kernel_rfl
@[go_sem] theorem T.t79 : T.ty 79 = some Ty.func := by kernel_rfl
@[go_sem] theorem T.b79 : T.bytes 79 = some 8 := by kernel_rfl
@[go_sem] theorem T.z80 : T.zero 80 = some [Value.nilFunc] := by kernel_rfl
@[go_sem] theorem T.t80 : T.ty 80 = some Ty.func := by kernel_rfl
@[go_sem] theorem T.b80 : T.bytes 80 = some 8 := by kernel_rfl
@[go_sem] theorem T.z81 : T.zero 81 = some [Value.nilFunc] := by kernel_rfl
@[go_sem] theorem T.t81 : T.ty 81 = some Ty.func := by kernel_rfl
@[go_sem] theorem T.b81 : T.bytes 81 = some 8 := by kernel_rfl
@[go_sem] theorem T.z82 : T.zero 82 = some [Value.nilFunc] := by kernel_rfl
@[go_sem] theorem T.t82 : T.ty 82 = some Ty.func := by kernel_rfl
@[go_sem] theorem T.b82 : T.bytes 82 = some 8 := by kernel_rfl
@[go_sem] theorem T.z83 : T.zero 83 = some [Value.nilFunc] := by kernel_rfl
@[go_sem] theorem T.t83 : T.ty 83 = some Ty.func := by kernel_rfl
@[go_sem] theorem T.b83 : T.bytes 83 = some 8 := by kernel_rfl
@[go_sem] theorem T.z84 : T.zero 84 = some [Value.int IntKind.u16 0] := by kernel_rfl
@[go_sem] theorem T.t84 : T.ty 84 = some (Ty.int IntKind.u16) := by kernel_rfl
@[go_sem] theorem T.b84 : T.bytes 84 = some 2 := by kernel_rfl
@[go_sem] theorem T.z85 : T.zero 85 = some [Value.nilFunc] := by kernel_rfl
@[go_sem] theorem T.t85 : T.ty 85 = some Ty.func := by kernel_rfl
@[go_sem] theorem T.b85 : T.bytes 85 = some 8 := by kernel_rfl
@[go_sem] theorem T.z86 : T.zero 86 = some [Value.nilFunc] := by kernel_rfl
@[go_sem] theorem T.t86 : T.ty 86 = some Ty.func := by kernel_rfl
@[go_sem] theorem T.b86 : T.bytes 86 = some 8 := by kernel_rfl
@[go_sem] theorem T.z87 : T.zero 87 = some [Value.nilFunc] := by kernel_rfl
@[go_sem] theorem T.t87 : T.ty 87 = some Ty.func := by kernel_rfl
@[go_sem] theorem T.b87 : T.bytes 87 = some 8 := by kernel_rfl
@[go_sem] theorem T.z88 : T.zero 88 = some [Value.nilFunc] := by kernel_rfl
@[go_sem] theorem T.t88 : T.ty 88 = some Ty.func := by kernel_rfl
@[go_sem] theorem T.b88 : T.bytes 88 = some 8 := by kernel_rfl
@[go_sem] theorem T.z89 : T.zero 89 = some [Value.nilFunc] := by kernel_rfl
@[go_sem] theorem T.t89 : T.ty 89 = some Ty.func := by kernel_rfl
@[go_sem] theorem T.b89 : T.bytes 89 = some 8 := by kernel_rfl
@[go_sem] theorem T.z90 : T.zero 90 = some [Value.nilFunc] := by kernel_rfl
@[go_sem] theorem T.t90 : T.ty 90 = some Ty.func := by kernel_rfl
@[go_sem] theorem T.b90 : T.bytes 90 = some 8 := by kernel_rfl
@[go_sem] theorem T.z91 : T.zero 91 = some [Value.nilFunc] := by kernel_rfl
@[go_sem] theorem T.t91 : T.ty 91 = some Ty.func := by kernel_rfl
@[go_sem] theorem T.b91 : T.bytes 91 = some 8 := by kernel_rfl
@[go_sem] theorem T.z92 : T.zero 92 = some [Value.nilFunc] := by kernel_rfl
@[go_sem] theorem T.t92 : T.ty 92 = some Ty.func := by kernel_rfl
@[go_sem] theorem T.b92 : T.bytes 92 = some 8 := by kernel_rfl
@[go_sem] theorem T.z93 : T.zero 93 = some [Value.pointer none, Value.pointer none, Value.pointer none, Value.string { data := { toList := [] } }] := by kernel_rfl
@[go_sem] theorem T.t93 : T.ty 93 = some (Ty.struct [(0, 17), (1, 17), (2, 17), (3, 9)] 4) := by kernel_rfl
@[go_sem] theorem T.b93 : T.bytes 93 = some 40 := by kernel_rfl
@[go_sem] theorem T.u93 {M : Mem} {ps : List (Nat × AV)} : rdBuild T M 93 ps = bdO (bdK M ps [(0, 1), (1, 1), (2, 1), (3, 1)] [Value.pointer none, Value.pointer none, Value.pointer none, Value.string { data := { toList := [] } }]) := rdBuild_eq (by kernel_rfl)
@[go_sem] theorem T.f93_0 : fld T 93 0 = some (0, Ty.ptr 107) := by kernel_rfl
@[go_sem] theorem T.f93_1 : fld T 93 1 = some (1, Ty.ptr 107) := by kernel_rfl
@[go_sem] theorem T.f93_2 : fld T 93 2 = some (2, Ty.ptr 107) := by kernel_rfl
@[go_sem] theorem T.f93_3 : fld T 93 3 = some (3, Ty.str) := by kernel_rfl
@[go_sem] theorem T.z94 : T.zero 94 = some [Value.pointer none, Value.pointer none, Value.pointer none, Value.string { data := { toList := [] } }] := by kernel_rfl
@[go_sem] theorem T.t94 : T.ty 94 = some (Ty.struct [(0, 17), (1, 17), (2, 17), (3, 9)] 4) := by kernel_rfl
@[go_sem] theorem T.b94 : T.bytes 94 = some 40 := by kernel_rfl
@[go_sem] theorem T.u94 {M : Mem} {ps : List (Nat × AV)} : rdBuild T M 94 ps = bdO (bdK M ps [(0, 1), (1, 1), (2, 1), (3, 1)] [Value.pointer none, Value.pointer none, Value.pointer none, Value.string { data := { toList := [] } }]) := rdBuild_eq (by kernel_rfl)
@[go_sem] theorem T.f94_0 : fld T 94 0 = some (0, Ty.ptr 107) := by kernel_rfl
@[go_sem] theorem T.f94_1 : fld T 94 1 = some (1, Ty.ptr 107) := by kernel_rfl
@[go_sem] theorem T.f94_2 : fld T 94 2 = some (2, Ty.ptr 107) := by kernel_rfl
@[go_sem] theorem T.f94_3 : fld T 94 3 = some (3, Ty.str) := by kernel_rfl
@[go_sem] theorem T.z95 : T.zero 95 = some [] := by kernel_rfl
@[go_sem] theorem T.t95 : T.ty 95 = some (Ty.arr 0 16 0) := by kernel_rfl
@[go_sem] theorem T.b95 : T.bytes 95 = some 0 := by kernel_rfl
@[go_sem] theorem T.z96 : T.zero 96 = some [] := by kernel_rfl
@[go_sem] theorem T.t96 : T.ty 96 = some (Ty.struct [(0, 95)] 0) := by kernel_rfl
@[go_sem] theorem T.b96 : T.bytes 96 = some 0 := by kernel_rfl
@[go_sem] theorem T.u96 {M : Mem} {ps : List (Nat × AV)} : rdBuild T M 96 ps = bdO (bdK M ps [(0, 0)] []) := rdBuild_eq (by kernel_rfl)
@[go_sem] theorem T.z97 : T.zero 97 = some [] := by kernel_rfl
@[go_sem] theorem T.t97 : T.ty 97 = some (Ty.struct [(0, 95)] 0) := by kernel_rfl
@[go_sem] theorem T.b97 : T.bytes 97 = some 0 := by kernel_rfl
@[go_sem] theorem T.u97 {M : Mem} {ps : List (Nat × AV)} : rdBuild T M 97 ps = bdO (bdK M ps [(0, 0)] []) := rdBuild_eq (by kernel_rfl)
@[go_sem] theorem T.z98 : T.zero 98 = some [Value.nilFunc] := by kernel_rfl
@[go_sem] theorem T.t98 : T.ty 98 = some Ty.func := by kernel_rfl
@[go_sem] theorem T.b98 : T.bytes 98 = some 8 := by kernel_rfl
@[go_sem] theorem T.z99 : T.zero 99 = some [Value.int IntKind.u32 0] := by kernel_rfl
@[go_sem] theorem T.t99 : T.ty 99 = some (Ty.int IntKind.u32) := by kernel_rfl
@[go_sem] theorem T.b99 : T.bytes 99 = some 4 := by kernel_rfl
@[go_sem] theorem T.z100 : T.zero 100 = some [Value.int IntKind.u8 0] := by kernel_rfl
@[go_sem] theorem T.t100 : T.ty 100 = some (Ty.int IntKind.u8) := by kernel_rfl
@[go_sem] theorem T.b100 : T.bytes 100 = some 1 := by kernel_rfl
@[go_sem] theorem T.z101 : T.zero 101 = some [Value.int IntKind.u8 0] := by kernel_rfl
@[go_sem] theorem T.t101 : T.ty 101 = some (Ty.int IntKind.u8) := by kernel_rfl
@[go_sem] theorem T.b101 : T.bytes 101 = some 1 := by kernel_rfl
@[go_sem] theorem T.z102 : T.zero 102 = some [Value.nilFunc] := by kernel_rfl
@[go_sem] theorem T.t102 : T.ty 102 = some Ty.func := by kernel_rfl
@[go_sem] theorem T.b102 : T.bytes 102 = some 8 := by kernel_rfl
@[go_sem] theorem T.z103 : T.zero 103 = some [Value.pointer none] := by kernel_rfl
@[go_sem] theorem T.t103 : T.ty 103 = some (Ty.ptr 5) := by kernel_rfl
@[go_sem] theorem T.b103 : T.bytes 103 = some 8 := by kernel_rfl
@[go_sem] theorem T.z104 : T.zero 104 = some [Value.int IntKind.i32 0] := by kernel_rfl
@[go_sem] theorem T.t104 : T.ty 104 = some (Ty.int IntKind.i32) := by kernel_rfl
@[go_sem] theorem T.b104 : T.bytes 104 = some 4 := by kernel_rfl
@[go_sem] theorem T.z105 : T.zero 105 = some [Value.int IntKind.i32 0] := by kernel_rfl
@[go_sem] theorem T.t105 : T.ty 105 = some (Ty.int IntKind.i32) := by kernel_rfl
@[go_sem] theorem T.b105 : T.bytes 105 = some 4 := by kernel_rfl
@[go_sem] theorem T.z106 : T.zero 106 = some [Value.int IntKind.u64 0, Value.int IntKind.u64 0, Value.int IntKind.u32 0, Value.int IntKind.u8 0, Value.int IntKind.u8 0, Value.int IntKind.u8 0, Value.int IntKind.u8 0, Value.nilFunc, Value.pointer none, Value.int IntKind.i32 0, Value.int IntKind.i32 0] := by kernel_rfl
@[go_sem] theorem T.t106 : T.ty 106 = some (Ty.struct [(0, 12), (1, 12), (2, 99), (3, 100), (4, 5), (5, 5), (6, 101), (7, 102), (8, 103), (9, 104), (10, 105)] 11) := by kernel_rfl
@[go_sem] theorem T.b106 : T.bytes 106 = some 48 := by kernel_rfl
@[go_sem] theorem T.u106 {M : Mem} {ps : List (Nat × AV)} : rdBuild T M 106 ps = bdO (bdK M ps [(0, 1), (1, 1), (2, 1), (3, 1), (4, 1), (5, 1), (6, 1), (7, 1), (8, 1), (9, 1), (10, 1)] [Value.int IntKind.u64 0, Value.int IntKind.u64 0, Value.int IntKind.u32 0, Value.int IntKind.u8 0, Value.int IntKind.u8 0, Value.int IntKind.u8 0, Value.int IntKind.u8 0, Value.nilFunc, Value.pointer none, Value.int IntKind.i32 0, Value.int IntKind.i32 0]) := rdBuild_eq (by kernel_rfl)
@[go_sem] theorem T.f106_0 : fld T 106 0 = some (0, Ty.int IntKind.u64) := by kernel_rfl
@[go_sem] theorem T.f106_1 : fld T 106 1 = some (1, Ty.int IntKind.u64) := by kernel_rfl
@[go_sem] theorem T.f106_2 : fld T 106 2 = some (2, Ty.int IntKind.u32) := by kernel_rfl
@[go_sem] theorem T.f106_3 : fld T 106 3 = some (3, Ty.int IntKind.u8) := by kernel_rfl
@[go_sem] theorem T.f106_4 : fld T 106 4 = some (4, Ty.int IntKind.u8) := by kernel_rfl
@[go_sem] theorem T.f106_5 : fld T 106 5 = some (5, Ty.int IntKind.u8) := by kernel_rfl
@[go_sem] theorem T.f106_6 : fld T 106 6 = some (6, Ty.int IntKind.u8) := by kernel_rfl
@[go_sem] theorem T.f106_7 : fld T 106 7 = some (7, Ty.func) := by kernel_rfl
@[go_sem] theorem T.f106_8 : fld T 106 8 = some (8, Ty.ptr 5) := by kernel_rfl
@[go_sem] theorem T.f106_9 : fld T 106 9 = some (9, Ty.int IntKind.i32) := by kernel_rfl
@[go_sem] theorem T.f106_10 : fld T 106 10 = some (10, Ty.int IntKind.i32) := by kernel_rfl
@[go_sem] theorem T.z107 : T.zero 107 = some [Value.int IntKind.u64 0, Value.int IntKind.u64 0, Value.int IntKind.u32 0, Value.int IntKind.u8 0, Value.int IntKind.u8 0, Value.int IntKind.u8 0, Value.int IntKind.u8 0, Value.nilFunc, Value.pointer none, Value.int IntKind.i32 0, Value.int IntKind.i32 0] := by kernel_rfl
@[go_sem] theorem T.t107 : T.ty 107 = some (Ty.struct [(0, 12), (1, 12), (2, 99), (3, 100), (4, 5), (5, 5), (6, 101), (7, 102), (8, 103), (9, 104), (10, 105)] 11) := by kernel_rfl
@[go_sem] theorem T.b107 : T.bytes 107 = some 48 := by kernel_rfl
@[go_sem] theorem T.u107 {M : Mem} {ps : List (Nat × AV)} : rdBuild T M 107 ps = bdO (bdK M ps [(0, 1), (1, 1), (2, 1), (3, 1), (4, 1), (5, 1), (6, 1), (7, 1), (8, 1), (9, 1), (10, 1)] [Value.int IntKind.u64 0, Value.int IntKind.u64 0, Value.int IntKind.u32 0, Value.int IntKind.u8 0, Value.int IntKind.u8 0, Value.int IntKind.u8 0, Value.int IntKind.u8 0, Value.nilFunc, Value.pointer none, Value.int IntKind.i32 0, Value.int IntKind.i32 0]) := rdBuild_eq (by kernel_rfl)
@[go_sem] theorem T.f107_0 : fld T 107 0 = some (0, Ty.int IntKind.u64) := by kernel_rfl
@[go_sem] theorem T.f107_1 : fld T 107 1 = some (1, Ty.int IntKind.u64) := by kernel_rfl
@[go_sem] theorem T.f107_2 : fld T 107 2 = some (2, Ty.int IntKind.u32) := by kernel_rfl
@[go_sem] theorem T.f107_3 : fld T 107 3 = some (3, Ty.int IntKind.u8) := by kernel_rfl
@[go_sem] theorem T.f107_4 : fld T 107 4 = some (4, Ty.int IntKind.u8) := by kernel_rfl
@[go_sem] theorem T.f107_5 : fld T 107 5 = some (5, Ty.int IntKind.u8) := by kernel_rfl
@[go_sem] theorem T.f107_6 : fld T 107 6 = some (6, Ty.int IntKind.u8) := by kernel_rfl
@[go_sem] theorem T.f107_7 : fld T 107 7 = some (7, Ty.func) := by kernel_rfl
@[go_sem] theorem T.f107_8 : fld T 107 8 = some (8, Ty.ptr 5) := by kernel_rfl
@[go_sem] theorem T.f107_9 : fld T 107 9 = some (9, Ty.int IntKind.i32) := by kernel_rfl
@[go_sem] theorem T.f107_10 : fld T 107 10 = some (10, Ty.int IntKind.i32) := by kernel_rfl
end Go.Proofs.Ytaiinpbaaeemmaa
