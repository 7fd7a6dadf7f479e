/- The types of the program, as they are computed. -/
import Derived.Test.YtknkkfdkcemolaaVmT
import Derived.Test.YtknkkfdkcemolaaVmR
namespace Go.Proofs.Ytknkkfdkcemolaa.Vm
open Go
@[simp] theorem T0 {m : Int} : (L m).T 0 = { k := .other, size := 0, bytes := 0, zero := [], eq := false } := by kernel_rfl
@[simp] theorem T1 {m : Int} : (L m).T 1 = { k := .func, size := 1, bytes := 8, zero := [.nilfunc], eq := true } := by kernel_rfl
@[simp] theorem T2 {m : Int} : (L m).T 2 = { k := .int .i64, size := 1, bytes := 8, zero := [.int .i64 0], eq := true } := by kernel_rfl
@[simp] theorem T3 {m : Int} : (L m).T 3 = { k := .int .i64, size := 1, bytes := 8, zero := [.int .i64 0], eq := true } := by kernel_rfl
@[simp] theorem T4 {m : Int} : (L m).T 4 = { k := .bool, size := 1, bytes := 1, zero := [.bool false], eq := true } := by kernel_rfl
@[simp] theorem T5 {m : Int} : (L m).T 5 = { k := .int .u8, size := 1, bytes := 1, zero := [.int .u8 0], eq := true } := by kernel_rfl
@[simp] theorem T6 {m : Int} : (L m).T 6 = { k := .int .u8, size := 1, bytes := 1, zero := [.int .u8 0], eq := true } := by kernel_rfl
@[simp] theorem T7 {m : Int} : (L m).T 7 = { k := .agg [(0, 2), (1, 3), (2, 4), (3, 6)], size := 4, bytes := 24, zero := [.int .i64 0, .int .i64 0, .bool false, .int .u8 0], eq := true } := by kernel_rfl
@[simp] theorem T8 {m : Int} : (L m).T 8 = { k := .agg [(0, 2), (1, 3), (2, 4), (3, 6)], size := 4, bytes := 24, zero := [.int .i64 0, .int .i64 0, .bool false, .int .u8 0], eq := true } := by kernel_rfl
@[simp] theorem T9 {m : Int} : (L m).T 9 = { k := .str, size := 1, bytes := 16, zero := [.str []], eq := true } := by kernel_rfl
@[simp] theorem T10 {m : Int} : (L m).T 10 = { k := .str, size := 1, bytes := 16, zero := [.str []], eq := true } := by kernel_rfl
@[simp] theorem T11 {m : Int} : (L m).T 11 = { k := .str, size := 1, bytes := 16, zero := [.str []], eq := true } := by kernel_rfl
@[simp] theorem T12 {m : Int} : (L m).T 12 = { k := .int .u64, size := 1, bytes := 8, zero := [.int .u64 0], eq := true } := by kernel_rfl
@[simp] theorem T13 {m : Int} : (L m).T 13 = { k := .agg [(0, 9), (1, 12)], size := 2, bytes := 24, zero := [.str [], .int .u64 0], eq := false } := by kernel_rfl
@[simp] theorem T14 {m : Int} : (L m).T 14 = { k := .agg [(0, 9), (1, 12)], size := 2, bytes := 24, zero := [.str [], .int .u64 0], eq := false } := by kernel_rfl
@[simp] theorem T15 {m : Int} : (L m).T 15 = { k := .ptr 130, size := 1, bytes := 8, zero := [.nilptr], eq := true } := by kernel_rfl
@[simp] theorem T16 {m : Int} : (L m).T 16 = { k := .ptr 133, size := 1, bytes := 8, zero := [.nilptr], eq := true } := by kernel_rfl
@[simp] theorem T17 {m : Int} : (L m).T 17 = { k := .ptr 141, size := 1, bytes := 8, zero := [.nilptr], eq := true } := by kernel_rfl
@[simp] theorem T18 {m : Int} : (L m).T 18 = { k := .agg [(0, 17)], size := 1, bytes := 8, zero := [.nilptr], eq := false } := by kernel_rfl
@[simp] theorem T19 {m : Int} : (L m).T 19 = { k := .agg [(0, 17)], size := 1, bytes := 8, zero := [.nilptr], eq := false } := by kernel_rfl
@[simp] theorem T20 {m : Int} : (L m).T 20 = { k := .iface, size := 1, bytes := 16, zero := [.niliface], eq := true } := by kernel_rfl
@[simp] theorem T21 {m : Int} : (L m).T 21 = { k := .int .i32, size := 1, bytes := 4, zero := [.int .i32 0], eq := true } := by kernel_rfl
@[simp] theorem T22 {m : Int} : (L m).T 22 = { k := .func, size := 1, bytes := 8, zero := [.nilfunc], eq := true } := by kernel_rfl
@[simp] theorem T23 {m : Int} : (L m).T 23 = { k := .int .i64, size := 1, bytes := 8, zero := [.int .i64 0], eq := true } := by kernel_rfl
@[simp] theorem T24 {m : Int} : (L m).T 24 = { k := .agg [(0, 23), (1, 3)], size := 2, bytes := 16, zero := [.int .i64 0, .int .i64 0], eq := true } := by kernel_rfl
@[simp] theorem T25 {m : Int} : (L m).T 25 = { k := .agg [(0, 23), (1, 3)], size := 2, bytes := 16, zero := [.int .i64 0, .int .i64 0], eq := true } := by kernel_rfl
@[simp] theorem T26 {m : Int} : (L m).T 26 = { k := .other, size := 0, bytes := 0, zero := [], eq := false } := by kernel_rfl
@[simp] theorem T27 {m : Int} : (L m).T 27 = { k := .func, size := 1, bytes := 8, zero := [.nilfunc], eq := true } := by kernel_rfl
@[simp] theorem T28 {m : Int} : (L m).T 28 = { k := .slice 3, size := 1, bytes := 24, zero := [.nilsl], eq := true } := by kernel_rfl
@[simp] theorem T29 {m : Int} : (L m).T 29 = { k := .other, size := 0, bytes := 0, zero := [], eq := false } := by kernel_rfl
@[simp] theorem T30 {m : Int} : (L m).T 30 = { k := .func, size := 1, bytes := 8, zero := [.nilfunc], eq := true } := by kernel_rfl
@[simp] theorem T31 {m : Int} : (L m).T 31 = { k := .slice 40, size := 1, bytes := 24, zero := [.nilsl], eq := true } := by kernel_rfl
@[simp] theorem T32 {m : Int} : (L m).T 32 = { k := .other, size := 0, bytes := 0, zero := [], eq := false } := by kernel_rfl
@[simp] theorem T33 {m : Int} : (L m).T 33 = { k := .func, size := 1, bytes := 8, zero := [.nilfunc], eq := true } := by kernel_rfl
@[simp] theorem T34 {m : Int} : (L m).T 34 = { k := .func, size := 1, bytes := 8, zero := [.nilfunc], eq := true } := by kernel_rfl
@[simp] theorem T35 {m : Int} : (L m).T 35 = { k := .agg [(0, 3), (1, 3), (2, 9)], size := 3, bytes := 32, zero := [.int .i64 0, .int .i64 0, .str []], eq := true } := by kernel_rfl
@[simp] theorem T36 {m : Int} : (L m).T 36 = { k := .agg [(0, 3), (1, 3), (2, 9)], size := 3, bytes := 32, zero := [.int .i64 0, .int .i64 0, .str []], eq := true } := by kernel_rfl
@[simp] theorem T37 {m : Int} : (L m).T 37 = { k := .slice 83, size := 1, bytes := 24, zero := [.nilsl], eq := true } := by kernel_rfl
@[simp] theorem T38 {m : Int} : (L m).T 38 = { k := .ptr 104, size := 1, bytes := 8, zero := [.nilptr], eq := true } := by kernel_rfl
@[simp] theorem T39 {m : Int} : (L m).T 39 = { k := .agg [(0, 9), (1, 3), (2, 36), (5, 36), (8, 36), (11, 36), (14, 37), (15, 38)], size := 16, bytes := 184, zero := [.str [], .int .i64 0, .int .i64 0, .int .i64 0, .str [], .int .i64 0, .int .i64 0, .str [], .int .i64 0, .int .i64 0, .str [], .int .i64 0, .int .i64 0, .str [], .nilsl, .nilptr], eq := true } := by kernel_rfl
@[simp] theorem T40 {m : Int} : (L m).T 40 = { k := .agg [(0, 9), (1, 3), (2, 36), (5, 36), (8, 36), (11, 36), (14, 37), (15, 38)], size := 16, bytes := 184, zero := [.str [], .int .i64 0, .int .i64 0, .int .i64 0, .str [], .int .i64 0, .int .i64 0, .str [], .int .i64 0, .int .i64 0, .str [], .int .i64 0, .int .i64 0, .str [], .nilsl, .nilptr], eq := true } := by kernel_rfl
@[simp] theorem T41 {m : Int} : (L m).T 41 = { k := .func, size := 1, bytes := 8, zero := [.nilfunc], eq := true } := by kernel_rfl
@[simp] theorem T42 {m : Int} : (L m).T 42 = { k := .func, size := 1, bytes := 8, zero := [.nilfunc], eq := true } := by kernel_rfl
@[simp] theorem T43 {m : Int} : (L m).T 43 = { k := .func, size := 1, bytes := 8, zero := [.nilfunc], eq := true } := by kernel_rfl
@[simp] theorem T44 {m : Int} : (L m).T 44 = { k := .func, size := 1, bytes := 8, zero := [.nilfunc], eq := true } := by kernel_rfl
@[simp] theorem T45 {m : Int} : (L m).T 45 = { k := .func, size := 1, bytes := 8, zero := [.nilfunc], eq := true } := by kernel_rfl
@[simp] theorem T46 {m : Int} : (L m).T 46 = { k := .func, size := 1, bytes := 8, zero := [.nilfunc], eq := true } := by kernel_rfl
@[simp] theorem T47 {m : Int} : (L m).T 47 = { k := .slice 5, size := 1, bytes := 24, zero := [.nilsl], eq := true } := by kernel_rfl
@[simp] theorem T48 {m : Int} : (L m).T 48 = { k := .func, size := 1, bytes := 8, zero := [.nilfunc], eq := true } := by kernel_rfl
@[simp] theorem T49 {m : Int} : (L m).T 49 = { k := .func, size := 1, bytes := 8, zero := [.nilfunc], eq := true } := by kernel_rfl
@[simp] theorem T50 {m : Int} : (L m).T 50 = { k := .slice 9, size := 1, bytes := 24, zero := [.nilsl], eq := true } := by kernel_rfl
@[simp] theorem T51 {m : Int} : (L m).T 51 = { k := .func, size := 1, bytes := 8, zero := [.nilfunc], eq := true } := by kernel_rfl
@[simp] theorem T52 {m : Int} : (L m).T 52 = { k := .slice 61, size := 1, bytes := 24, zero := [.nilsl], eq := true } := by kernel_rfl
@[simp] theorem T53 {m : Int} : (L m).T 53 = { k := .other, size := 0, bytes := 0, zero := [], eq := false } := by kernel_rfl
@[simp] theorem T54 {m : Int} : (L m).T 54 = { k := .func, size := 1, bytes := 8, zero := [.nilfunc], eq := true } := by kernel_rfl
@[simp] theorem T55 {m : Int} : (L m).T 55 = { k := .ptr 57, size := 1, bytes := 8, zero := [.nilptr], eq := true } := by kernel_rfl
@[simp] theorem T56 {m : Int} : (L m).T 56 = { k := .agg [(0, 55), (1, 47)], size := 2, bytes := 32, zero := [.nilptr, .nilsl], eq := true } := by kernel_rfl
@[simp] theorem T57 {m : Int} : (L m).T 57 = { k := .agg [(0, 55), (1, 47)], size := 2, bytes := 32, zero := [.nilptr, .nilsl], eq := true } := by kernel_rfl
@[simp] theorem T58 {m : Int} : (L m).T 58 = { k := .slice 69, size := 1, bytes := 24, zero := [.nilsl], eq := true } := by kernel_rfl
@[simp] theorem T59 {m : Int} : (L m).T 59 = { k := .ptr 93, size := 1, bytes := 8, zero := [.nilptr], eq := true } := by kernel_rfl
@[simp] theorem T60 {m : Int} : (L m).T 60 = { k := .agg [(0, 36), (3, 36), (6, 36), (9, 36), (12, 36), (15, 58), (16, 59)], size := 17, bytes := 192, zero := [.int .i64 0, .int .i64 0, .str [], .int .i64 0, .int .i64 0, .str [], .int .i64 0, .int .i64 0, .str [], .int .i64 0, .int .i64 0, .str [], .int .i64 0, .int .i64 0, .str [], .nilsl, .nilptr], eq := true } := by kernel_rfl
@[simp] theorem T61 {m : Int} : (L m).T 61 = { k := .agg [(0, 36), (3, 36), (6, 36), (9, 36), (12, 36), (15, 58), (16, 59)], size := 17, bytes := 192, zero := [.int .i64 0, .int .i64 0, .str [], .int .i64 0, .int .i64 0, .str [], .int .i64 0, .int .i64 0, .str [], .int .i64 0, .int .i64 0, .str [], .int .i64 0, .int .i64 0, .str [], .nilsl, .nilptr], eq := true } := by kernel_rfl
@[simp] theorem T62 {m : Int} : (L m).T 62 = { k := .iface, size := 1, bytes := 16, zero := [.niliface], eq := false } := by kernel_rfl
@[simp] theorem T63 {m : Int} : (L m).T 63 = { k := .iface, size := 1, bytes := 16, zero := [.niliface], eq := false } := by kernel_rfl
@[simp] theorem T64 {m : Int} : (L m).T 64 = { k := .other, size := 0, bytes := 0, zero := [], eq := false } := by kernel_rfl
@[simp] theorem T65 {m : Int} : (L m).T 65 = { k := .func, size := 1, bytes := 8, zero := [.nilfunc], eq := true } := by kernel_rfl
@[simp] theorem T66 {m : Int} : (L m).T 66 = { k := .func, size := 1, bytes := 8, zero := [.nilfunc], eq := true } := by kernel_rfl
@[simp] theorem T67 {m : Int} : (L m).T 67 = { k := .func, size := 1, bytes := 8, zero := [.nilfunc], eq := true } := by kernel_rfl
@[simp] theorem T68 {m : Int} : (L m).T 68 = { k := .agg [(0, 36), (3, 36)], size := 6, bytes := 64, zero := [.int .i64 0, .int .i64 0, .str [], .int .i64 0, .int .i64 0, .str []], eq := true } := by kernel_rfl
@[simp] theorem T69 {m : Int} : (L m).T 69 = { k := .agg [(0, 36), (3, 36)], size := 6, bytes := 64, zero := [.int .i64 0, .int .i64 0, .str [], .int .i64 0, .int .i64 0, .str []], eq := true } := by kernel_rfl
@[simp] theorem T70 {m : Int} : (L m).T 70 = { k := .func, size := 1, bytes := 8, zero := [.nilfunc], eq := true } := by kernel_rfl
@[simp] theorem T71 {m : Int} : (L m).T 71 = { k := .func, size := 1, bytes := 8, zero := [.nilfunc], eq := true } := by kernel_rfl
@[simp] theorem T72 {m : Int} : (L m).T 72 = { k := .slice 36, size := 1, bytes := 24, zero := [.nilsl], eq := true } := by kernel_rfl
@[simp] theorem T73 {m : Int} : (L m).T 73 = { k := .other, size := 0, bytes := 0, zero := [], eq := false } := by kernel_rfl
@[simp] theorem T74 {m : Int} : (L m).T 74 = { k := .func, size := 1, bytes := 8, zero := [.nilfunc], eq := true } := by kernel_rfl
@[simp] theorem T75 {m : Int} : (L m).T 75 = { k := .ptr 77, size := 1, bytes := 8, zero := [.nilptr], eq := true } := by kernel_rfl
@[simp] theorem T76 {m : Int} : (L m).T 76 = { k := .agg [(0, 72), (1, 3), (2, 25)], size := 4, bytes := 48, zero := [.nilsl, .int .i64 0, .int .i64 0, .int .i64 0], eq := true } := by kernel_rfl
@[simp] theorem T77 {m : Int} : (L m).T 77 = { k := .agg [(0, 72), (1, 3), (2, 25)], size := 4, bytes := 48, zero := [.nilsl, .int .i64 0, .int .i64 0, .int .i64 0], eq := true } := by kernel_rfl
@[simp] theorem T78 {m : Int} : (L m).T 78 = { k := .func, size := 1, bytes := 8, zero := [.nilfunc], eq := true } := by kernel_rfl
@[simp] theorem T79 {m : Int} : (L m).T 79 = { k := .func, size := 1, bytes := 8, zero := [.nilfunc], eq := true } := by kernel_rfl
@[simp] theorem T80 {m : Int} : (L m).T 80 = { k := .func, size := 1, bytes := 8, zero := [.nilfunc], eq := true } := by kernel_rfl
@[simp] theorem T81 {m : Int} : (L m).T 81 = { k := .func, size := 1, bytes := 8, zero := [.nilfunc], eq := true } := by kernel_rfl
@[simp] theorem T82 {m : Int} : (L m).T 82 = { k := .agg [(0, 9), (1, 3), (2, 36)], size := 5, bytes := 56, zero := [.str [], .int .i64 0, .int .i64 0, .int .i64 0, .str []], eq := true } := by kernel_rfl
@[simp] theorem T83 {m : Int} : (L m).T 83 = { k := .agg [(0, 9), (1, 3), (2, 36)], size := 5, bytes := 56, zero := [.str [], .int .i64 0, .int .i64 0, .int .i64 0, .str []], eq := true } := by kernel_rfl
@[simp] theorem T84 {m : Int} : (L m).T 84 = { k := .int .u64, size := 1, bytes := 8, zero := [.int .u64 0], eq := true } := by kernel_rfl
@[simp] theorem T85 {m : Int} : (L m).T 85 = { k := .ptr 87, size := 1, bytes := 8, zero := [.nilptr], eq := true } := by kernel_rfl
@[simp] theorem T86 {m : Int} : (L m).T 86 = { k := .agg [(0, 72), (1, 3)], size := 2, bytes := 32, zero := [.nilsl, .int .i64 0], eq := true } := by kernel_rfl
@[simp] theorem T87 {m : Int} : (L m).T 87 = { k := .agg [(0, 72), (1, 3)], size := 2, bytes := 32, zero := [.nilsl, .int .i64 0], eq := true } := by kernel_rfl
@[simp] theorem T88 {m : Int} : (L m).T 88 = { k := .func, size := 1, bytes := 8, zero := [.nilfunc], eq := true } := by kernel_rfl
@[simp] theorem T89 {m : Int} : (L m).T 89 = { k := .func, size := 1, bytes := 8, zero := [.nilfunc], eq := true } := by kernel_rfl
@[simp] theorem T90 {m : Int} : (L m).T 90 = { k := .func, size := 1, bytes := 8, zero := [.nilfunc], eq := true } := by kernel_rfl
@[simp] theorem T91 {m : Int} : (L m).T 91 = { k := .slice 59, size := 1, bytes := 24, zero := [.nilsl], eq := true } := by kernel_rfl
@[simp] theorem T92 {m : Int} : (L m).T 92 = { k := .agg [(0, 36), (3, 36), (6, 91)], size := 7, bytes := 88, zero := [.int .i64 0, .int .i64 0, .str [], .int .i64 0, .int .i64 0, .str [], .nilsl], eq := true } := by kernel_rfl
@[simp] theorem T93 {m : Int} : (L m).T 93 = { k := .agg [(0, 36), (3, 36), (6, 91)], size := 7, bytes := 88, zero := [.int .i64 0, .int .i64 0, .str [], .int .i64 0, .int .i64 0, .str [], .nilsl], eq := true } := by kernel_rfl
@[simp] theorem T94 {m : Int} : (L m).T 94 = { k := .ptr 5, size := 1, bytes := 8, zero := [.nilptr], eq := true } := by kernel_rfl
@[simp] theorem T95 {m : Int} : (L m).T 95 = { k := .func, size := 1, bytes := 8, zero := [.nilfunc], eq := true } := by kernel_rfl
@[simp] theorem T96 {m : Int} : (L m).T 96 = { k := .other, size := 0, bytes := 0, zero := [], eq := false } := by kernel_rfl
@[simp] theorem T97 {m : Int} : (L m).T 97 = { k := .func, size := 1, bytes := 8, zero := [.nilfunc], eq := true } := by kernel_rfl
@[simp] theorem T98 {m : Int} : (L m).T 98 = { k := .func, size := 1, bytes := 8, zero := [.nilfunc], eq := true } := by kernel_rfl
@[simp] theorem T99 {m : Int} : (L m).T 99 = { k := .func, size := 1, bytes := 8, zero := [.nilfunc], eq := true } := by kernel_rfl
@[simp] theorem T100 {m : Int} : (L m).T 100 = { k := .func, size := 1, bytes := 8, zero := [.nilfunc], eq := true } := by kernel_rfl
@[simp] theorem T101 {m : Int} : (L m).T 101 = { k := .func, size := 1, bytes := 8, zero := [.nilfunc], eq := true } := by kernel_rfl
@[simp] theorem T102 {m : Int} : (L m).T 102 = { k := .slice 38, size := 1, bytes := 24, zero := [.nilsl], eq := true } := by kernel_rfl
@[simp] theorem T103 {m : Int} : (L m).T 103 = { k := .agg [(0, 9), (1, 9), (2, 3), (3, 102)], size := 4, bytes := 64, zero := [.str [], .str [], .int .i64 0, .nilsl], eq := true } := by kernel_rfl
@[simp] theorem T104 {m : Int} : (L m).T 104 = { k := .agg [(0, 9), (1, 9), (2, 3), (3, 102)], size := 4, bytes := 64, zero := [.str [], .str [], .int .i64 0, .nilsl], eq := true } := by kernel_rfl
@[simp] theorem T105 {m : Int} : (L m).T 105 = { k := .func, size := 1, bytes := 8, zero := [.nilfunc], eq := true } := by kernel_rfl
@[simp] theorem T106 {m : Int} : (L m).T 106 = { k := .agg [(0, 25)], size := 2, bytes := 16, zero := [.int .i64 0, .int .i64 0], eq := true } := by kernel_rfl
@[simp] theorem T107 {m : Int} : (L m).T 107 = { k := .agg [(0, 25)], size := 2, bytes := 16, zero := [.int .i64 0, .int .i64 0], eq := true } := by kernel_rfl
@[simp] theorem T108 {m : Int} : (L m).T 108 = { k := .other, size := 0, bytes := 0, zero := [], eq := false } := by kernel_rfl
@[simp] theorem T109 {m : Int} : (L m).T 109 = { k := .func, size := 1, bytes := 8, zero := [.nilfunc], eq := true } := by kernel_rfl
@[simp] theorem T110 {m : Int} : (L m).T 110 = { k := .other, size := 1, bytes := 8, zero := [.nilptr], eq := true } := by kernel_rfl
@[simp] theorem T111 {m : Int} : (L m).T 111 = { k := .func, size := 1, bytes := 8, zero := [.nilfunc], eq := true } := by kernel_rfl
@[simp] theorem T112 {m : Int} : (L m).T 112 = { k := .func, size := 1, bytes := 8, zero := [.nilfunc], eq := true } := by kernel_rfl
@[simp] theorem T113 {m : Int} : (L m).T 113 = { k := .func, size := 1, bytes := 8, zero := [.nilfunc], eq := true } := by kernel_rfl
@[simp] theorem T114 {m : Int} : (L m).T 114 = { k := .func, size := 1, bytes := 8, zero := [.nilfunc], eq := true } := by kernel_rfl
@[simp] theorem T115 {m : Int} : (L m).T 115 = { k := .func, size := 1, bytes := 8, zero := [.nilfunc], eq := true } := by kernel_rfl
@[simp] theorem T116 {m : Int} : (L m).T 116 = { k := .other, size := 0, bytes := 0, zero := [], eq := false } := by kernel_rfl
@[simp] theorem T117 {m : Int} : (L m).T 117 = { k := .func, size := 1, bytes := 8, zero := [.nilfunc], eq := true } := by kernel_rfl
@[simp] theorem T118 {m : Int} : (L m).T 118 = { k := .func, size := 1, bytes := 8, zero := [.nilfunc], eq := true } := by kernel_rfl
@[simp] theorem T119 {m : Int} : (L m).T 119 = { k := .func, size := 1, bytes := 8, zero := [.nilfunc], eq := true } := by kernel_rfl
@[simp] theorem T120 {m : Int} : (L m).T 120 = { k := .func, size := 1, bytes := 8, zero := [.nilfunc], eq := true } := by kernel_rfl
@[simp] theorem T121 {m : Int} : (L m).T 121 = { k := .func, size := 1, bytes := 8, zero := [.nilfunc], eq := true } := by kernel_rfl
@[simp] theorem T122 {m : Int} : (L m).T 122 = { k := .func, size := 1, bytes := 8, zero := [.nilfunc], eq := true } := by kernel_rfl
@[simp] theorem T123 {m : Int} : (L m).T 123 = { k := .func, size := 1, bytes := 8, zero := [.nilfunc], eq := true } := by kernel_rfl
@[simp] theorem T124 {m : Int} : (L m).T 124 = { k := .func, size := 1, bytes := 8, zero := [.nilfunc], eq := true } := by kernel_rfl
@[simp] theorem T125 {m : Int} : (L m).T 125 = { k := .func, size := 1, bytes := 8, zero := [.nilfunc], eq := true } := by kernel_rfl
@[simp] theorem T126 {m : Int} : (L m).T 126 = { k := .int .u32, size := 1, bytes := 4, zero := [.int .u32 0], eq := true } := by kernel_rfl
@[simp] theorem T127 {m : Int} : (L m).T 127 = { k := .other, size := 0, bytes := 0, zero := [], eq := false } := by kernel_rfl
@[simp] theorem T128 {m : Int} : (L m).T 128 = { k := .func, size := 1, bytes := 8, zero := [.nilfunc], eq := true } := by kernel_rfl
@[simp] theorem T129 {m : Int} : (L m).T 129 = { k := .agg [(0, 17), (1, 17), (2, 17), (3, 9)], size := 4, bytes := 40, zero := [.nilptr, .nilptr, .nilptr, .str []], eq := false } := by kernel_rfl
@[simp] theorem T130 {m : Int} : (L m).T 130 = { k := .agg [(0, 17), (1, 17), (2, 17), (3, 9)], size := 4, bytes := 40, zero := [.nilptr, .nilptr, .nilptr, .str []], eq := false } := by kernel_rfl
@[simp] theorem T131 {m : Int} : (L m).T 131 = { k := .arr 0 16, size := 0, bytes := 0, zero := [], eq := true } := by kernel_rfl
@[simp] theorem T132 {m : Int} : (L m).T 132 = { k := .other, size := 0, bytes := 0, zero := [], eq := false } := by kernel_rfl
@[simp] theorem T133 {m : Int} : (L m).T 133 = { k := .other, size := 0, bytes := 0, zero := [], eq := false } := by kernel_rfl
@[simp] theorem T134 {m : Int} : (L m).T 134 = { k := .func, size := 1, bytes := 8, zero := [.nilfunc], eq := true } := by kernel_rfl
@[simp] theorem T135 {m : Int} : (L m).T 135 = { k := .int .u8, size := 1, bytes := 1, zero := [.int .u8 0], eq := true } := by kernel_rfl
@[simp] theorem T136 {m : Int} : (L m).T 136 = { k := .int .u8, size := 1, bytes := 1, zero := [.int .u8 0], eq := true } := by kernel_rfl
@[simp] theorem T137 {m : Int} : (L m).T 137 = { k := .func, size := 1, bytes := 8, zero := [.nilfunc], eq := true } := by kernel_rfl
@[simp] theorem T138 {m : Int} : (L m).T 138 = { k := .int .i32, size := 1, bytes := 4, zero := [.int .i32 0], eq := true } := by kernel_rfl
@[simp] theorem T139 {m : Int} : (L m).T 139 = { k := .int .i32, size := 1, bytes := 4, zero := [.int .i32 0], eq := true } := by kernel_rfl
@[simp] theorem T140 {m : Int} : (L m).T 140 = { k := .agg [(0, 12), (1, 12), (2, 126), (3, 135), (4, 5), (5, 5), (6, 136), (7, 137), (8, 94), (9, 138), (10, 139)], size := 11, bytes := 48, zero := [.int .u64 0, .int .u64 0, .int .u32 0, .int .u8 0, .int .u8 0, .int .u8 0, .int .u8 0, .nilfunc, .nilptr, .int .i32 0, .int .i32 0], eq := false } := by kernel_rfl
@[simp] theorem T141 {m : Int} : (L m).T 141 = { k := .agg [(0, 12), (1, 12), (2, 126), (3, 135), (4, 5), (5, 5), (6, 136), (7, 137), (8, 94), (9, 138), (10, 139)], size := 11, bytes := 48, zero := [.int .u64 0, .int .u64 0, .int .u32 0, .int .u8 0, .int .u8 0, .int .u8 0, .int .u8 0, .nilfunc, .nilptr, .int .i32 0, .int .i32 0], eq := false } := by kernel_rfl
end Go.Proofs.Ytknkkfdkcemolaa.Vm
