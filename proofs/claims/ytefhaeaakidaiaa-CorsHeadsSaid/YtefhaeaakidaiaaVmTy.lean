/- The types of the program, as they are computed. -/
import Derived.Test.YtefhaeaakidaiaaVmT
import Derived.Test.YtefhaeaakidaiaaVmR
namespace Go.Proofs.Ytefhaeaakidaiaa.Vm
open Go
@[simp] theorem T0 : L.T 0 = { k := .other, size := 0, bytes := 0, zero := [], eq := false } := by kernel_rfl
@[simp] theorem T1 : L.T 1 = { k := .func, size := 1, bytes := 8, zero := [.nilfunc], eq := true } := by kernel_rfl
@[simp] theorem T2 : L.T 2 = { k := .int .i64, size := 1, bytes := 8, zero := [.int .i64 0], eq := true } := by kernel_rfl
@[simp] theorem T3 : L.T 3 = { k := .int .i64, size := 1, bytes := 8, zero := [.int .i64 0], eq := true } := by kernel_rfl
@[simp] theorem T4 : L.T 4 = { k := .bool, size := 1, bytes := 1, zero := [.bool false], eq := true } := by kernel_rfl
@[simp] theorem T5 : L.T 5 = { k := .int .u8, size := 1, bytes := 1, zero := [.int .u8 0], eq := true } := by kernel_rfl
@[simp] theorem T6 : L.T 6 = { k := .int .u8, size := 1, bytes := 1, zero := [.int .u8 0], eq := true } := by kernel_rfl
@[simp] theorem T7 : L.T 7 = { k := .agg [(0, 2), (1, 3), (2, 4), (3, 6)], size := 4, bytes := 24, zero := [.int .i64 0, .int .i64 0, .bool false, .int .u8 0], eq := true } := by kernel_rfl
@[simp] theorem T8 : L.T 8 = { k := .agg [(0, 2), (1, 3), (2, 4), (3, 6)], size := 4, bytes := 24, zero := [.int .i64 0, .int .i64 0, .bool false, .int .u8 0], eq := true } := by kernel_rfl
@[simp] theorem T9 : L.T 9 = { k := .str, size := 1, bytes := 16, zero := [.str []], eq := true } := by kernel_rfl
@[simp] theorem T10 : L.T 10 = { k := .str, size := 1, bytes := 16, zero := [.str []], eq := true } := by kernel_rfl
@[simp] theorem T11 : L.T 11 = { k := .str, size := 1, bytes := 16, zero := [.str []], eq := true } := by kernel_rfl
@[simp] theorem T12 : L.T 12 = { k := .int .u64, size := 1, bytes := 8, zero := [.int .u64 0], eq := true } := by kernel_rfl
@[simp] theorem T13 : L.T 13 = { k := .agg [(0, 9), (1, 12)], size := 2, bytes := 24, zero := [.str [], .int .u64 0], eq := false } := by kernel_rfl
@[simp] theorem T14 : L.T 14 = { k := .agg [(0, 9), (1, 12)], size := 2, bytes := 24, zero := [.str [], .int .u64 0], eq := false } := by kernel_rfl
@[simp] theorem T15 : L.T 15 = { k := .ptr 53, size := 1, bytes := 8, zero := [.nilptr], eq := true } := by kernel_rfl
@[simp] theorem T16 : L.T 16 = { k := .ptr 56, size := 1, bytes := 8, zero := [.nilptr], eq := true } := by kernel_rfl
@[simp] theorem T17 : L.T 17 = { k := .ptr 66, size := 1, bytes := 8, zero := [.nilptr], eq := true } := by kernel_rfl
@[simp] theorem T18 : L.T 18 = { k := .agg [(0, 17)], size := 1, bytes := 8, zero := [.nilptr], eq := false } := by kernel_rfl
@[simp] theorem T19 : L.T 19 = { k := .agg [(0, 17)], size := 1, bytes := 8, zero := [.nilptr], eq := false } := by kernel_rfl
@[simp] theorem T20 : L.T 20 = { k := .iface, size := 1, bytes := 16, zero := [.niliface], eq := true } := by kernel_rfl
@[simp] theorem T21 : L.T 21 = { k := .int .i32, size := 1, bytes := 4, zero := [.int .i32 0], eq := true } := by kernel_rfl
@[simp] theorem T22 : L.T 22 = { k := .slice 9, size := 1, bytes := 24, zero := [.nilsl], eq := true } := by kernel_rfl
@[simp] theorem T23 : L.T 23 = { k := .func, size := 1, bytes := 8, zero := [.nilfunc], eq := true } := by kernel_rfl
@[simp] theorem T24 : L.T 24 = { k := .func, size := 1, bytes := 8, zero := [.nilfunc], eq := true } := by kernel_rfl
@[simp] theorem T25 : L.T 25 = { k := .func, size := 1, bytes := 8, zero := [.nilfunc], eq := true } := by kernel_rfl
@[simp] theorem T26 : L.T 26 = { k := .func, size := 1, bytes := 8, zero := [.nilfunc], eq := true } := by kernel_rfl
@[simp] theorem T27 : L.T 27 = { k := .func, size := 1, bytes := 8, zero := [.nilfunc], eq := true } := by kernel_rfl
@[simp] theorem T28 : L.T 28 = { k := .func, size := 1, bytes := 8, zero := [.nilfunc], eq := true } := by kernel_rfl
@[simp] theorem T29 : L.T 29 = { k := .slice 3, size := 1, bytes := 24, zero := [.nilsl], eq := true } := by kernel_rfl
@[simp] theorem T30 : L.T 30 = { k := .func, size := 1, bytes := 8, zero := [.nilfunc], eq := true } := by kernel_rfl
@[simp] theorem T31 : L.T 31 = { k := .func, size := 1, bytes := 8, zero := [.nilfunc], eq := true } := by kernel_rfl
@[simp] theorem T32 : L.T 32 = { k := .agg [(0, 9), (1, 3), (2, 9), (3, 9), (4, 4), (5, 4), (6, 29), (7, 29), (8, 22), (9, 4), (10, 29), (11, 29), (12, 4), (13, 4), (14, 3), (15, 4), (16, 4), (17, 29), (18, 22), (19, 22), (20, 9)], size := 21, bytes := 304, zero := [.str [], .int .i64 0, .str [], .str [], .bool false, .bool false, .nilsl, .nilsl, .nilsl, .bool false, .nilsl, .nilsl, .bool false, .bool false, .int .i64 0, .bool false, .bool false, .nilsl, .nilsl, .nilsl, .str []], eq := true } := by kernel_rfl
@[simp] theorem T33 : L.T 33 = { k := .agg [(0, 9), (1, 3), (2, 9), (3, 9), (4, 4), (5, 4), (6, 29), (7, 29), (8, 22), (9, 4), (10, 29), (11, 29), (12, 4), (13, 4), (14, 3), (15, 4), (16, 4), (17, 29), (18, 22), (19, 22), (20, 9)], size := 21, bytes := 304, zero := [.str [], .int .i64 0, .str [], .str [], .bool false, .bool false, .nilsl, .nilsl, .nilsl, .bool false, .nilsl, .nilsl, .bool false, .bool false, .int .i64 0, .bool false, .bool false, .nilsl, .nilsl, .nilsl, .str []], eq := true } := by kernel_rfl
@[simp] theorem T34 : L.T 34 = { k := .func, size := 1, bytes := 8, zero := [.nilfunc], eq := true } := by kernel_rfl
@[simp] theorem T35 : L.T 35 = { k := .func, size := 1, bytes := 8, zero := [.nilfunc], eq := true } := by kernel_rfl
@[simp] theorem T36 : L.T 36 = { k := .func, size := 1, bytes := 8, zero := [.nilfunc], eq := true } := by kernel_rfl
@[simp] theorem T37 : L.T 37 = { k := .func, size := 1, bytes := 8, zero := [.nilfunc], eq := true } := by kernel_rfl
@[simp] theorem T38 : L.T 38 = { k := .func, size := 1, bytes := 8, zero := [.nilfunc], eq := true } := by kernel_rfl
@[simp] theorem T39 : L.T 39 = { k := .func, size := 1, bytes := 8, zero := [.nilfunc], eq := true } := by kernel_rfl
@[simp] theorem T40 : L.T 40 = { k := .func, size := 1, bytes := 8, zero := [.nilfunc], eq := true } := by kernel_rfl
@[simp] theorem T41 : L.T 41 = { k := .int .u64, size := 1, bytes := 8, zero := [.int .u64 0], eq := true } := by kernel_rfl
@[simp] theorem T42 : L.T 42 = { k := .func, size := 1, bytes := 8, zero := [.nilfunc], eq := true } := by kernel_rfl
@[simp] theorem T43 : L.T 43 = { k := .func, size := 1, bytes := 8, zero := [.nilfunc], eq := true } := by kernel_rfl
@[simp] theorem T44 : L.T 44 = { k := .func, size := 1, bytes := 8, zero := [.nilfunc], eq := true } := by kernel_rfl
@[simp] theorem T45 : L.T 45 = { k := .func, size := 1, bytes := 8, zero := [.nilfunc], eq := true } := by kernel_rfl
@[simp] theorem T46 : L.T 46 = { k := .slice 5, size := 1, bytes := 24, zero := [.nilsl], eq := true } := by kernel_rfl
@[simp] theorem T47 : L.T 47 = { k := .func, size := 1, bytes := 8, zero := [.nilfunc], eq := true } := by kernel_rfl
@[simp] theorem T48 : L.T 48 = { k := .func, size := 1, bytes := 8, zero := [.nilfunc], eq := true } := by kernel_rfl
@[simp] theorem T49 : L.T 49 = { k := .func, size := 1, bytes := 8, zero := [.nilfunc], eq := true } := by kernel_rfl
@[simp] theorem T50 : L.T 50 = { k := .func, size := 1, bytes := 8, zero := [.nilfunc], eq := true } := by kernel_rfl
@[simp] theorem T51 : L.T 51 = { k := .func, size := 1, bytes := 8, zero := [.nilfunc], eq := true } := by kernel_rfl
@[simp] theorem T52 : L.T 52 = { k := .agg [(0, 17), (1, 17), (2, 17), (3, 9)], size := 4, bytes := 40, zero := [.nilptr, .nilptr, .nilptr, .str []], eq := false } := by kernel_rfl
@[simp] theorem T53 : L.T 53 = { k := .agg [(0, 17), (1, 17), (2, 17), (3, 9)], size := 4, bytes := 40, zero := [.nilptr, .nilptr, .nilptr, .str []], eq := false } := by kernel_rfl
@[simp] theorem T54 : L.T 54 = { k := .arr 0 16, size := 0, bytes := 0, zero := [], eq := true } := by kernel_rfl
@[simp] theorem T55 : L.T 55 = { k := .other, size := 0, bytes := 0, zero := [], eq := false } := by kernel_rfl
@[simp] theorem T56 : L.T 56 = { k := .other, size := 0, bytes := 0, zero := [], eq := false } := by kernel_rfl
@[simp] theorem T57 : L.T 57 = { k := .func, size := 1, bytes := 8, zero := [.nilfunc], eq := true } := by kernel_rfl
@[simp] theorem T58 : L.T 58 = { k := .int .u32, size := 1, bytes := 4, zero := [.int .u32 0], eq := true } := by kernel_rfl
@[simp] theorem T59 : L.T 59 = { k := .int .u8, size := 1, bytes := 1, zero := [.int .u8 0], eq := true } := by kernel_rfl
@[simp] theorem T60 : L.T 60 = { k := .int .u8, size := 1, bytes := 1, zero := [.int .u8 0], eq := true } := by kernel_rfl
@[simp] theorem T61 : L.T 61 = { k := .func, size := 1, bytes := 8, zero := [.nilfunc], eq := true } := by kernel_rfl
@[simp] theorem T62 : L.T 62 = { k := .ptr 5, size := 1, bytes := 8, zero := [.nilptr], eq := true } := by kernel_rfl
@[simp] theorem T63 : L.T 63 = { k := .int .i32, size := 1, bytes := 4, zero := [.int .i32 0], eq := true } := by kernel_rfl
@[simp] theorem T64 : L.T 64 = { k := .int .i32, size := 1, bytes := 4, zero := [.int .i32 0], eq := true } := by kernel_rfl
@[simp] theorem T65 : L.T 65 = { k := .agg [(0, 12), (1, 12), (2, 58), (3, 59), (4, 5), (5, 5), (6, 60), (7, 61), (8, 62), (9, 63), (10, 64)], size := 11, bytes := 48, zero := [.int .u64 0, .int .u64 0, .int .u32 0, .int .u8 0, .int .u8 0, .int .u8 0, .int .u8 0, .nilfunc, .nilptr, .int .i32 0, .int .i32 0], eq := false } := by kernel_rfl
@[simp] theorem T66 : L.T 66 = { k := .agg [(0, 12), (1, 12), (2, 58), (3, 59), (4, 5), (5, 5), (6, 60), (7, 61), (8, 62), (9, 63), (10, 64)], size := 11, bytes := 48, zero := [.int .u64 0, .int .u64 0, .int .u32 0, .int .u8 0, .int .u8 0, .int .u8 0, .int .u8 0, .nilfunc, .nilptr, .int .i32 0, .int .i32 0], eq := false } := by kernel_rfl
@[simp] theorem T67 : L.T 67 = { k := .other, size := 1, bytes := 8, zero := [.nilptr], eq := true } := by kernel_rfl
end Go.Proofs.Ytefhaeaakidaiaa.Vm
