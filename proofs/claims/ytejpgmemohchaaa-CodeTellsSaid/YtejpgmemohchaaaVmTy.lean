/- The types of the program, as they are computed. -/
import Derived.Test.YtejpgmemohchaaaVmT
import Derived.Test.YtejpgmemohchaaaVmR
namespace Go.Proofs.Ytejpgmemohchaaa.Vm
open Go
@[simp] theorem T0 : L.T 0 = { k := .other, size := 0, bytes := 0, zero := [], eq := false } := by kernel_rfl
@[simp] theorem T1 : L.T 1 = { k := .func, size := 1, bytes := 8, zero := [.nilfunc], eq := true } := by kernel_rfl
@[simp] theorem T2 : L.T 2 = { k := .int .i64, size := 1, bytes := 8, zero := [.int .i64 0], eq := true } := by kernel_rfl
@[simp] theorem T3 : L.T 3 = { k := .int .i64, size := 1, bytes := 8, zero := [.int .i64 0], eq := true } := by kernel_rfl
@[simp] theorem T4 : L.T 4 = { k := .bool, size := 1, bytes := 1, zero := [.bool false], eq := true } := by kernel_rfl
@[simp] theorem T5 : L.T 5 = { k := .int .u8, size := 1, bytes := 1, zero := [.int .u8 0], eq := true } := by kernel_rfl
@[simp] theorem T6 : L.T 6 = { k := .int .u8, size := 1, bytes := 1, zero := [.int .u8 0], eq := true } := by kernel_rfl
@[simp] theorem T7 : L.T 7 = { k := .agg [(0, 2), (1, 3), (2, 4), (3, 6)], size := 4, bytes := 24, zero := [.int .i64 0, .int .i64 0, .bool false, .int .u8 0], eq := true } := by kernel_rfl
@[simp] theorem T8 : L.T 8 = { k := .agg [(0, 2), (1, 3), (2, 4), (3, 6)], size := 4, bytes := 24, zero := [.int .i64 0, .int .i64 0, .bool false, .int .u8 0], eq := true } := by kernel_rfl
@[simp] theorem T9 : L.T 9 = { k := .str, size := 1, bytes := 16, zero := [.str []], eq := true } := by kernel_rfl
@[simp] theorem T10 : L.T 10 = { k := .str, size := 1, bytes := 16, zero := [.str []], eq := true } := by kernel_rfl
@[simp] theorem T11 : L.T 11 = { k := .str, size := 1, bytes := 16, zero := [.str []], eq := true } := by kernel_rfl
@[simp] theorem T12 : L.T 12 = { k := .int .u64, size := 1, bytes := 8, zero := [.int .u64 0], eq := true } := by kernel_rfl
@[simp] theorem T13 : L.T 13 = { k := .agg [(0, 9), (1, 12)], size := 2, bytes := 24, zero := [.str [], .int .u64 0], eq := false } := by kernel_rfl
@[simp] theorem T14 : L.T 14 = { k := .agg [(0, 9), (1, 12)], size := 2, bytes := 24, zero := [.str [], .int .u64 0], eq := false } := by kernel_rfl
@[simp] theorem T15 : L.T 15 = { k := .ptr 74, size := 1, bytes := 8, zero := [.nilptr], eq := true } := by kernel_rfl
@[simp] theorem T16 : L.T 16 = { k := .ptr 77, size := 1, bytes := 8, zero := [.nilptr], eq := true } := by kernel_rfl
@[simp] theorem T17 : L.T 17 = { k := .ptr 86, size := 1, bytes := 8, zero := [.nilptr], eq := true } := by kernel_rfl
@[simp] theorem T18 : L.T 18 = { k := .agg [(0, 17)], size := 1, bytes := 8, zero := [.nilptr], eq := false } := by kernel_rfl
@[simp] theorem T19 : L.T 19 = { k := .agg [(0, 17)], size := 1, bytes := 8, zero := [.nilptr], eq := false } := by kernel_rfl
@[simp] theorem T20 : L.T 20 = { k := .iface, size := 1, bytes := 16, zero := [.niliface], eq := true } := by kernel_rfl
@[simp] theorem T21 : L.T 21 = { k := .int .i32, size := 1, bytes := 4, zero := [.int .i32 0], eq := true } := by kernel_rfl
@[simp] theorem T22 : L.T 22 = { k := .slice 5, size := 1, bytes := 24, zero := [.nilsl], eq := true } := by kernel_rfl
@[simp] theorem T23 : L.T 23 = { k := .func, size := 1, bytes := 8, zero := [.nilfunc], eq := true } := by kernel_rfl
@[simp] theorem T24 : L.T 24 = { k := .slice 3, size := 1, bytes := 24, zero := [.nilsl], eq := true } := by kernel_rfl
@[simp] theorem T25 : L.T 25 = { k := .slice 4, size := 1, bytes := 24, zero := [.nilsl], eq := true } := by kernel_rfl
@[simp] theorem T26 : L.T 26 = { k := .slice 41, size := 1, bytes := 24, zero := [.nilsl], eq := true } := by kernel_rfl
@[simp] theorem T27 : L.T 27 = { k := .agg [(0, 3), (1, 4), (2, 24), (3, 24), (4, 25), (5, 25), (6, 25), (7, 26)], size := 8, bytes := 160, zero := [.int .i64 0, .bool false, .nilsl, .nilsl, .nilsl, .nilsl, .nilsl, .nilsl], eq := true } := by kernel_rfl
@[simp] theorem T28 : L.T 28 = { k := .agg [(0, 3), (1, 4), (2, 24), (3, 24), (4, 25), (5, 25), (6, 25), (7, 26)], size := 8, bytes := 160, zero := [.int .i64 0, .bool false, .nilsl, .nilsl, .nilsl, .nilsl, .nilsl, .nilsl], eq := true } := by kernel_rfl
@[simp] theorem T29 : L.T 29 = { k := .other, size := 0, bytes := 0, zero := [], eq := false } := by kernel_rfl
@[simp] theorem T30 : L.T 30 = { k := .func, size := 1, bytes := 8, zero := [.nilfunc], eq := true } := by kernel_rfl
@[simp] theorem T31 : L.T 31 = { k := .func, size := 1, bytes := 8, zero := [.nilfunc], eq := true } := by kernel_rfl
@[simp] theorem T32 : L.T 32 = { k := .func, size := 1, bytes := 8, zero := [.nilfunc], eq := true } := by kernel_rfl
@[simp] theorem T33 : L.T 33 = { k := .func, size := 1, bytes := 8, zero := [.nilfunc], eq := true } := by kernel_rfl
@[simp] theorem T34 : L.T 34 = { k := .func, size := 1, bytes := 8, zero := [.nilfunc], eq := true } := by kernel_rfl
@[simp] theorem T35 : L.T 35 = { k := .func, size := 1, bytes := 8, zero := [.nilfunc], eq := true } := by kernel_rfl
@[simp] theorem T36 : L.T 36 = { k := .func, size := 1, bytes := 8, zero := [.nilfunc], eq := true } := by kernel_rfl
@[simp] theorem T37 : L.T 37 = { k := .func, size := 1, bytes := 8, zero := [.nilfunc], eq := true } := by kernel_rfl
@[simp] theorem T38 : L.T 38 = { k := .func, size := 1, bytes := 8, zero := [.nilfunc], eq := true } := by kernel_rfl
@[simp] theorem T39 : L.T 39 = { k := .func, size := 1, bytes := 8, zero := [.nilfunc], eq := true } := by kernel_rfl
@[simp] theorem T40 : L.T 40 = { k := .agg [(0, 3), (1, 3), (2, 3), (3, 4), (4, 4), (5, 4), (6, 3), (7, 24)], size := 8, bytes := 64, zero := [.int .i64 0, .int .i64 0, .int .i64 0, .bool false, .bool false, .bool false, .int .i64 0, .nilsl], eq := true } := by kernel_rfl
@[simp] theorem T41 : L.T 41 = { k := .agg [(0, 3), (1, 3), (2, 3), (3, 4), (4, 4), (5, 4), (6, 3), (7, 24)], size := 8, bytes := 64, zero := [.int .i64 0, .int .i64 0, .int .i64 0, .bool false, .bool false, .bool false, .int .i64 0, .nilsl], eq := true } := by kernel_rfl
@[simp] theorem T42 : L.T 42 = { k := .func, size := 1, bytes := 8, zero := [.nilfunc], eq := true } := by kernel_rfl
@[simp] theorem T43 : L.T 43 = { k := .func, size := 1, bytes := 8, zero := [.nilfunc], eq := true } := by kernel_rfl
@[simp] theorem T44 : L.T 44 = { k := .func, size := 1, bytes := 8, zero := [.nilfunc], eq := true } := by kernel_rfl
@[simp] theorem T45 : L.T 45 = { k := .func, size := 1, bytes := 8, zero := [.nilfunc], eq := true } := by kernel_rfl
@[simp] theorem T46 : L.T 46 = { k := .func, size := 1, bytes := 8, zero := [.nilfunc], eq := true } := by kernel_rfl
@[simp] theorem T47 : L.T 47 = { k := .ptr 49, size := 1, bytes := 8, zero := [.nilptr], eq := true } := by kernel_rfl
@[simp] theorem T48 : L.T 48 = { k := .agg [(0, 22), (1, 4)], size := 2, bytes := 32, zero := [.nilsl, .bool false], eq := true } := by kernel_rfl
@[simp] theorem T49 : L.T 49 = { k := .agg [(0, 22), (1, 4)], size := 2, bytes := 32, zero := [.nilsl, .bool false], eq := true } := by kernel_rfl
@[simp] theorem T50 : L.T 50 = { k := .func, size := 1, bytes := 8, zero := [.nilfunc], eq := true } := by kernel_rfl
@[simp] theorem T51 : L.T 51 = { k := .func, size := 1, bytes := 8, zero := [.nilfunc], eq := true } := by kernel_rfl
@[simp] theorem T52 : L.T 52 = { k := .func, size := 1, bytes := 8, zero := [.nilfunc], eq := true } := by kernel_rfl
@[simp] theorem T53 : L.T 53 = { k := .func, size := 1, bytes := 8, zero := [.nilfunc], eq := true } := by kernel_rfl
@[simp] theorem T54 : L.T 54 = { k := .func, size := 1, bytes := 8, zero := [.nilfunc], eq := true } := by kernel_rfl
@[simp] theorem T55 : L.T 55 = { k := .ptr 57, size := 1, bytes := 8, zero := [.nilptr], eq := true } := by kernel_rfl
@[simp] theorem T56 : L.T 56 = { k := .agg [(0, 22), (1, 4)], size := 2, bytes := 32, zero := [.nilsl, .bool false], eq := true } := by kernel_rfl
@[simp] theorem T57 : L.T 57 = { k := .agg [(0, 22), (1, 4)], size := 2, bytes := 32, zero := [.nilsl, .bool false], eq := true } := by kernel_rfl
@[simp] theorem T58 : L.T 58 = { k := .func, size := 1, bytes := 8, zero := [.nilfunc], eq := true } := by kernel_rfl
@[simp] theorem T59 : L.T 59 = { k := .func, size := 1, bytes := 8, zero := [.nilfunc], eq := true } := by kernel_rfl
@[simp] theorem T60 : L.T 60 = { k := .func, size := 1, bytes := 8, zero := [.nilfunc], eq := true } := by kernel_rfl
@[simp] theorem T61 : L.T 61 = { k := .func, size := 1, bytes := 8, zero := [.nilfunc], eq := true } := by kernel_rfl
@[simp] theorem T62 : L.T 62 = { k := .func, size := 1, bytes := 8, zero := [.nilfunc], eq := true } := by kernel_rfl
@[simp] theorem T63 : L.T 63 = { k := .func, size := 1, bytes := 8, zero := [.nilfunc], eq := true } := by kernel_rfl
@[simp] theorem T64 : L.T 64 = { k := .func, size := 1, bytes := 8, zero := [.nilfunc], eq := true } := by kernel_rfl
@[simp] theorem T65 : L.T 65 = { k := .func, size := 1, bytes := 8, zero := [.nilfunc], eq := true } := by kernel_rfl
@[simp] theorem T66 : L.T 66 = { k := .func, size := 1, bytes := 8, zero := [.nilfunc], eq := true } := by kernel_rfl
@[simp] theorem T67 : L.T 67 = { k := .func, size := 1, bytes := 8, zero := [.nilfunc], eq := true } := by kernel_rfl
@[simp] theorem T68 : L.T 68 = { k := .func, size := 1, bytes := 8, zero := [.nilfunc], eq := true } := by kernel_rfl
@[simp] theorem T69 : L.T 69 = { k := .int .u64, size := 1, bytes := 8, zero := [.int .u64 0], eq := true } := by kernel_rfl
@[simp] theorem T70 : L.T 70 = { k := .int .u64, size := 1, bytes := 8, zero := [.int .u64 0], eq := true } := by kernel_rfl
@[simp] theorem T71 : L.T 71 = { k := .func, size := 1, bytes := 8, zero := [.nilfunc], eq := true } := by kernel_rfl
@[simp] theorem T72 : L.T 72 = { k := .func, size := 1, bytes := 8, zero := [.nilfunc], eq := true } := by kernel_rfl
@[simp] theorem T73 : L.T 73 = { k := .agg [(0, 17), (1, 17), (2, 17), (3, 9)], size := 4, bytes := 40, zero := [.nilptr, .nilptr, .nilptr, .str []], eq := false } := by kernel_rfl
@[simp] theorem T74 : L.T 74 = { k := .agg [(0, 17), (1, 17), (2, 17), (3, 9)], size := 4, bytes := 40, zero := [.nilptr, .nilptr, .nilptr, .str []], eq := false } := by kernel_rfl
@[simp] theorem T75 : L.T 75 = { k := .arr 0 16, size := 0, bytes := 0, zero := [], eq := true } := by kernel_rfl
@[simp] theorem T76 : L.T 76 = { k := .other, size := 0, bytes := 0, zero := [], eq := false } := by kernel_rfl
@[simp] theorem T77 : L.T 77 = { k := .other, size := 0, bytes := 0, zero := [], eq := false } := by kernel_rfl
@[simp] theorem T78 : L.T 78 = { k := .int .u32, size := 1, bytes := 4, zero := [.int .u32 0], eq := true } := by kernel_rfl
@[simp] theorem T79 : L.T 79 = { k := .int .u8, size := 1, bytes := 1, zero := [.int .u8 0], eq := true } := by kernel_rfl
@[simp] theorem T80 : L.T 80 = { k := .int .u8, size := 1, bytes := 1, zero := [.int .u8 0], eq := true } := by kernel_rfl
@[simp] theorem T81 : L.T 81 = { k := .func, size := 1, bytes := 8, zero := [.nilfunc], eq := true } := by kernel_rfl
@[simp] theorem T82 : L.T 82 = { k := .ptr 5, size := 1, bytes := 8, zero := [.nilptr], eq := true } := by kernel_rfl
@[simp] theorem T83 : L.T 83 = { k := .int .i32, size := 1, bytes := 4, zero := [.int .i32 0], eq := true } := by kernel_rfl
@[simp] theorem T84 : L.T 84 = { k := .int .i32, size := 1, bytes := 4, zero := [.int .i32 0], eq := true } := by kernel_rfl
@[simp] theorem T85 : L.T 85 = { k := .agg [(0, 12), (1, 12), (2, 78), (3, 79), (4, 5), (5, 5), (6, 80), (7, 81), (8, 82), (9, 83), (10, 84)], size := 11, bytes := 48, zero := [.int .u64 0, .int .u64 0, .int .u32 0, .int .u8 0, .int .u8 0, .int .u8 0, .int .u8 0, .nilfunc, .nilptr, .int .i32 0, .int .i32 0], eq := false } := by kernel_rfl
@[simp] theorem T86 : L.T 86 = { k := .agg [(0, 12), (1, 12), (2, 78), (3, 79), (4, 5), (5, 5), (6, 80), (7, 81), (8, 82), (9, 83), (10, 84)], size := 11, bytes := 48, zero := [.int .u64 0, .int .u64 0, .int .u32 0, .int .u8 0, .int .u8 0, .int .u8 0, .int .u8 0, .nilfunc, .nilptr, .int .i32 0, .int .i32 0], eq := false } := by kernel_rfl
@[simp] theorem T87 : L.T 87 = { k := .other, size := 1, bytes := 8, zero := [.nilptr], eq := true } := by kernel_rfl
end Go.Proofs.Ytejpgmemohchaaa.Vm
