/- The types of the program, as they are computed. -/
import Derived.Test.YtkeanadlfkfglaaVmT
import Derived.Test.YtkeanadlfkfglaaVmR
namespace Go.Proofs.Ytkeanadlfkfglaa.Vm
open Go
@[simp] theorem T0 {m : Int} : (L m).T 0 = { k := .other, size := 0, bytes := 0, zero := [], eq := false } := by kernel_rfl
@[simp] theorem T1 {m : Int} : (L m).T 1 = { k := .func, size := 1, bytes := 8, zero := [.nilfunc], eq := true } := by kernel_rfl
@[simp] theorem T2 {m : Int} : (L m).T 2 = { k := .int .i64, size := 1, bytes := 8, zero := [.int .i64 0], eq := true } := by kernel_rfl
@[simp] theorem T3 {m : Int} : (L m).T 3 = { k := .int .i64, size := 1, bytes := 8, zero := [.int .i64 0], eq := true } := by kernel_rfl
@[simp] theorem T4 {m : Int} : (L m).T 4 = { k := .bool, size := 1, bytes := 1, zero := [.bool false], eq := true } := by kernel_rfl
@[simp] theorem T5 {m : Int} : (L m).T 5 = { k := .int .u8, size := 1, bytes := 1, zero := [.int .u8 0], eq := true } := by kernel_rfl
@[simp] theorem T6 {m : Int} : (L m).T 6 = { k := .int .u8, size := 1, bytes := 1, zero := [.int .u8 0], eq := true } := by kernel_rfl
@[simp] theorem T7 {m : Int} : (L m).T 7 = { k := .agg [(0, 2), (1, 3), (2, 4), (3, 6)], size := 4, bytes := 24, zero := [.int .i64 0, .int .i64 0, .bool false, .int .u8 0], eq := true } := by kernel_rfl
@[simp] theorem T8 {m : Int} : (L m).T 8 = { k := .agg [(0, 2), (1, 3), (2, 4), (3, 6)], size := 4, bytes := 24, zero := [.int .i64 0, .int .i64 0, .bool false, .int .u8 0], eq := true } := by kernel_rfl
@[simp] theorem T9 {m : Int} : (L m).T 9 = { k := .str, size := 1, bytes := 16, zero := [.str []], eq := true } := by kernel_rfl
@[simp] theorem T10 {m : Int} : (L m).T 10 = { k := .str, size := 1, bytes := 16, zero := [.str []], eq := true } := by kernel_rfl
@[simp] theorem T11 {m : Int} : (L m).T 11 = { k := .str, size := 1, bytes := 16, zero := [.str []], eq := true } := by kernel_rfl
@[simp] theorem T12 {m : Int} : (L m).T 12 = { k := .int .u64, size := 1, bytes := 8, zero := [.int .u64 0], eq := true } := by kernel_rfl
@[simp] theorem T13 {m : Int} : (L m).T 13 = { k := .agg [(0, 9), (1, 12)], size := 2, bytes := 24, zero := [.str [], .int .u64 0], eq := false } := by kernel_rfl
@[simp] theorem T14 {m : Int} : (L m).T 14 = { k := .agg [(0, 9), (1, 12)], size := 2, bytes := 24, zero := [.str [], .int .u64 0], eq := false } := by kernel_rfl
@[simp] theorem T15 {m : Int} : (L m).T 15 = { k := .ptr 57, size := 1, bytes := 8, zero := [.nilptr], eq := true } := by kernel_rfl
@[simp] theorem T16 {m : Int} : (L m).T 16 = { k := .ptr 60, size := 1, bytes := 8, zero := [.nilptr], eq := true } := by kernel_rfl
@[simp] theorem T17 {m : Int} : (L m).T 17 = { k := .ptr 69, size := 1, bytes := 8, zero := [.nilptr], eq := true } := by kernel_rfl
@[simp] theorem T18 {m : Int} : (L m).T 18 = { k := .agg [(0, 17)], size := 1, bytes := 8, zero := [.nilptr], eq := false } := by kernel_rfl
@[simp] theorem T19 {m : Int} : (L m).T 19 = { k := .agg [(0, 17)], size := 1, bytes := 8, zero := [.nilptr], eq := false } := by kernel_rfl
@[simp] theorem T20 {m : Int} : (L m).T 20 = { k := .iface, size := 1, bytes := 16, zero := [.niliface], eq := true } := by kernel_rfl
@[simp] theorem T21 {m : Int} : (L m).T 21 = { k := .int .i32, size := 1, bytes := 4, zero := [.int .i32 0], eq := true } := by kernel_rfl
@[simp] theorem T22 {m : Int} : (L m).T 22 = { k := .func, size := 1, bytes := 8, zero := [.nilfunc], eq := true } := by kernel_rfl
@[simp] theorem T23 {m : Int} : (L m).T 23 = { k := .slice 32, size := 1, bytes := 24, zero := [.nilsl], eq := true } := by kernel_rfl
@[simp] theorem T24 {m : Int} : (L m).T 24 = { k := .int .i64, size := 1, bytes := 8, zero := [.int .i64 0], eq := true } := by kernel_rfl
@[simp] theorem T25 {m : Int} : (L m).T 25 = { k := .agg [(0, 24), (1, 3)], size := 2, bytes := 16, zero := [.int .i64 0, .int .i64 0], eq := true } := by kernel_rfl
@[simp] theorem T26 {m : Int} : (L m).T 26 = { k := .agg [(0, 24), (1, 3)], size := 2, bytes := 16, zero := [.int .i64 0, .int .i64 0], eq := true } := by kernel_rfl
@[simp] theorem T27 {m : Int} : (L m).T 27 = { k := .other, size := 0, bytes := 0, zero := [], eq := false } := by kernel_rfl
@[simp] theorem T28 {m : Int} : (L m).T 28 = { k := .func, size := 1, bytes := 8, zero := [.nilfunc], eq := true } := by kernel_rfl
@[simp] theorem T29 {m : Int} : (L m).T 29 = { k := .func, size := 1, bytes := 8, zero := [.nilfunc], eq := true } := by kernel_rfl
@[simp] theorem T30 {m : Int} : (L m).T 30 = { k := .func, size := 1, bytes := 8, zero := [.nilfunc], eq := true } := by kernel_rfl
@[simp] theorem T31 {m : Int} : (L m).T 31 = { k := .agg [(0, 3), (1, 3), (2, 9)], size := 3, bytes := 32, zero := [.int .i64 0, .int .i64 0, .str []], eq := true } := by kernel_rfl
@[simp] theorem T32 {m : Int} : (L m).T 32 = { k := .agg [(0, 3), (1, 3), (2, 9)], size := 3, bytes := 32, zero := [.int .i64 0, .int .i64 0, .str []], eq := true } := by kernel_rfl
@[simp] theorem T33 {m : Int} : (L m).T 33 = { k := .slice 9, size := 1, bytes := 24, zero := [.nilsl], eq := true } := by kernel_rfl
@[simp] theorem T34 {m : Int} : (L m).T 34 = { k := .func, size := 1, bytes := 8, zero := [.nilfunc], eq := true } := by kernel_rfl
@[simp] theorem T35 {m : Int} : (L m).T 35 = { k := .func, size := 1, bytes := 8, zero := [.nilfunc], eq := true } := by kernel_rfl
@[simp] theorem T36 {m : Int} : (L m).T 36 = { k := .slice 3, size := 1, bytes := 24, zero := [.nilsl], eq := true } := by kernel_rfl
@[simp] theorem T37 {m : Int} : (L m).T 37 = { k := .func, size := 1, bytes := 8, zero := [.nilfunc], eq := true } := by kernel_rfl
@[simp] theorem T38 {m : Int} : (L m).T 38 = { k := .func, size := 1, bytes := 8, zero := [.nilfunc], eq := true } := by kernel_rfl
@[simp] theorem T39 {m : Int} : (L m).T 39 = { k := .func, size := 1, bytes := 8, zero := [.nilfunc], eq := true } := by kernel_rfl
@[simp] theorem T40 {m : Int} : (L m).T 40 = { k := .other, size := 0, bytes := 0, zero := [], eq := false } := by kernel_rfl
@[simp] theorem T41 {m : Int} : (L m).T 41 = { k := .func, size := 1, bytes := 8, zero := [.nilfunc], eq := true } := by kernel_rfl
@[simp] theorem T42 {m : Int} : (L m).T 42 = { k := .func, size := 1, bytes := 8, zero := [.nilfunc], eq := true } := by kernel_rfl
@[simp] theorem T43 {m : Int} : (L m).T 43 = { k := .func, size := 1, bytes := 8, zero := [.nilfunc], eq := true } := by kernel_rfl
@[simp] theorem T44 {m : Int} : (L m).T 44 = { k := .func, size := 1, bytes := 8, zero := [.nilfunc], eq := true } := by kernel_rfl
@[simp] theorem T45 {m : Int} : (L m).T 45 = { k := .int .u64, size := 1, bytes := 8, zero := [.int .u64 0], eq := true } := by kernel_rfl
@[simp] theorem T46 {m : Int} : (L m).T 46 = { k := .func, size := 1, bytes := 8, zero := [.nilfunc], eq := true } := by kernel_rfl
@[simp] theorem T47 {m : Int} : (L m).T 47 = { k := .func, size := 1, bytes := 8, zero := [.nilfunc], eq := true } := by kernel_rfl
@[simp] theorem T48 {m : Int} : (L m).T 48 = { k := .func, size := 1, bytes := 8, zero := [.nilfunc], eq := true } := by kernel_rfl
@[simp] theorem T49 {m : Int} : (L m).T 49 = { k := .func, size := 1, bytes := 8, zero := [.nilfunc], eq := true } := by kernel_rfl
@[simp] theorem T50 {m : Int} : (L m).T 50 = { k := .func, size := 1, bytes := 8, zero := [.nilfunc], eq := true } := by kernel_rfl
@[simp] theorem T51 {m : Int} : (L m).T 51 = { k := .func, size := 1, bytes := 8, zero := [.nilfunc], eq := true } := by kernel_rfl
@[simp] theorem T52 {m : Int} : (L m).T 52 = { k := .int .u32, size := 1, bytes := 4, zero := [.int .u32 0], eq := true } := by kernel_rfl
@[simp] theorem T53 {m : Int} : (L m).T 53 = { k := .other, size := 0, bytes := 0, zero := [], eq := false } := by kernel_rfl
@[simp] theorem T54 {m : Int} : (L m).T 54 = { k := .func, size := 1, bytes := 8, zero := [.nilfunc], eq := true } := by kernel_rfl
@[simp] theorem T55 {m : Int} : (L m).T 55 = { k := .func, size := 1, bytes := 8, zero := [.nilfunc], eq := true } := by kernel_rfl
@[simp] theorem T56 {m : Int} : (L m).T 56 = { k := .agg [(0, 17), (1, 17), (2, 17), (3, 9)], size := 4, bytes := 40, zero := [.nilptr, .nilptr, .nilptr, .str []], eq := false } := by kernel_rfl
@[simp] theorem T57 {m : Int} : (L m).T 57 = { k := .agg [(0, 17), (1, 17), (2, 17), (3, 9)], size := 4, bytes := 40, zero := [.nilptr, .nilptr, .nilptr, .str []], eq := false } := by kernel_rfl
@[simp] theorem T58 {m : Int} : (L m).T 58 = { k := .arr 0 16, size := 0, bytes := 0, zero := [], eq := true } := by kernel_rfl
@[simp] theorem T59 {m : Int} : (L m).T 59 = { k := .other, size := 0, bytes := 0, zero := [], eq := false } := by kernel_rfl
@[simp] theorem T60 {m : Int} : (L m).T 60 = { k := .other, size := 0, bytes := 0, zero := [], eq := false } := by kernel_rfl
@[simp] theorem T61 {m : Int} : (L m).T 61 = { k := .func, size := 1, bytes := 8, zero := [.nilfunc], eq := true } := by kernel_rfl
@[simp] theorem T62 {m : Int} : (L m).T 62 = { k := .int .u8, size := 1, bytes := 1, zero := [.int .u8 0], eq := true } := by kernel_rfl
@[simp] theorem T63 {m : Int} : (L m).T 63 = { k := .int .u8, size := 1, bytes := 1, zero := [.int .u8 0], eq := true } := by kernel_rfl
@[simp] theorem T64 {m : Int} : (L m).T 64 = { k := .func, size := 1, bytes := 8, zero := [.nilfunc], eq := true } := by kernel_rfl
@[simp] theorem T65 {m : Int} : (L m).T 65 = { k := .ptr 5, size := 1, bytes := 8, zero := [.nilptr], eq := true } := by kernel_rfl
@[simp] theorem T66 {m : Int} : (L m).T 66 = { k := .int .i32, size := 1, bytes := 4, zero := [.int .i32 0], eq := true } := by kernel_rfl
@[simp] theorem T67 {m : Int} : (L m).T 67 = { k := .int .i32, size := 1, bytes := 4, zero := [.int .i32 0], eq := true } := by kernel_rfl
@[simp] theorem T68 {m : Int} : (L m).T 68 = { k := .agg [(0, 12), (1, 12), (2, 52), (3, 62), (4, 5), (5, 5), (6, 63), (7, 64), (8, 65), (9, 66), (10, 67)], size := 11, bytes := 48, zero := [.int .u64 0, .int .u64 0, .int .u32 0, .int .u8 0, .int .u8 0, .int .u8 0, .int .u8 0, .nilfunc, .nilptr, .int .i32 0, .int .i32 0], eq := false } := by kernel_rfl
@[simp] theorem T69 {m : Int} : (L m).T 69 = { k := .agg [(0, 12), (1, 12), (2, 52), (3, 62), (4, 5), (5, 5), (6, 63), (7, 64), (8, 65), (9, 66), (10, 67)], size := 11, bytes := 48, zero := [.int .u64 0, .int .u64 0, .int .u32 0, .int .u8 0, .int .u8 0, .int .u8 0, .int .u8 0, .nilfunc, .nilptr, .int .i32 0, .int .i32 0], eq := false } := by kernel_rfl
@[simp] theorem T70 {m : Int} : (L m).T 70 = { k := .other, size := 1, bytes := 8, zero := [.nilptr], eq := true } := by kernel_rfl
end Go.Proofs.Ytkeanadlfkfglaa.Vm
