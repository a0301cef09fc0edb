/- The seat of this claim, as the machine over pure values sees it: its types, its functions; that they are the program's. Printed by wip/gen.py. (Own work of this repo.) -/
import Derived.Test.YtpfcijgcjghgeaaRows
import Derived.KernelRfl
import Derived.Test.YtpfcijgcjghgeaaVm21
set_option linter.unusedVariables false
set_option linter.unusedSimpArgs false
namespace Go.Proofs.Ytpfcijgcjghgeaa
def TL : List (Option Vm.TI) := [none,
  some ⟨1, 8, false, .nilf, .func⟩,
  some ⟨1, 8, false, (.int .i64 0), (.int .i64)⟩,
  some ⟨1, 8, false, (.int .i64 0), (.int .i64)⟩,
  some ⟨1, 1, false, (.bool false), .bool⟩,
  some ⟨1, 1, false, (.int .u8 0), (.int .u8)⟩,
  some ⟨1, 1, false, (.int .u8 0), (.int .u8)⟩,
  some ⟨4, 24, true, (.agg [.int .i64 0, .int .i64 0, .bool false, .int .u8 0]), (.struct [(0, 2), (1, 3), (2, 4), (3, 6)])⟩,
  some ⟨4, 24, true, (.agg [.int .i64 0, .int .i64 0, .bool false, .int .u8 0]), (.struct [(0, 2), (1, 3), (2, 4), (3, 6)])⟩,
  some ⟨1, 16, false, (.str ByteArray.empty), .str⟩,
  some ⟨1, 16, false, (.str ByteArray.empty), .str⟩,
  some ⟨1, 16, false, (.str ByteArray.empty), .str⟩,
  some ⟨1, 8, false, (.int .u64 0), (.int .u64)⟩,
  some ⟨2, 24, true, (.agg [.str ByteArray.empty, .int .u64 0]), (.struct [(0, 9), (1, 12)])⟩,
  some ⟨2, 24, true, (.agg [.str ByteArray.empty, .int .u64 0]), (.struct [(0, 9), (1, 12)])⟩,
  some ⟨1, 8, false, .nilp, (.ptr 110)⟩,
  some ⟨1, 8, false, .nilp, (.ptr 113)⟩,
  some ⟨1, 8, false, .nilp, (.ptr 122)⟩,
  some ⟨1, 8, true, (.agg [.nilp]), (.struct [(0, 17)])⟩,
  some ⟨1, 8, true, (.agg [.nilp]), (.struct [(0, 17)])⟩,
  some ⟨1, 16, false, .nili, .iface⟩,
  some ⟨1, 4, false, (.int .i32 0), (.int .i32)⟩,
  some ⟨1, 2, false, (.int .u16 0), (.int .u16)⟩,
  some ⟨1, 8, false, (.int .i64 0), (.int .i64)⟩,
  none,
  some ⟨1, 8, false, .nilf, .func⟩,
  some ⟨1, 24, false, (.lst true []), (.slice 69)⟩,
  some ⟨2, 32, true, (.agg [.bool false, .lst true []]), (.struct [(0, 4), (1, 26)])⟩,
  some ⟨2, 32, true, (.agg [.bool false, .lst true []]), (.struct [(0, 4), (1, 26)])⟩,
  some ⟨1, 8, false, .nilf, .func⟩,
  some ⟨1, 8, false, .nilf, .func⟩,
  some ⟨1, 8, false, .nilf, .func⟩,
  some ⟨1, 8, false, .nilf, .func⟩,
  some ⟨1, 8, false, .nilf, .func⟩,
  none,
  some ⟨1, 8, false, .nilf, .func⟩,
  some ⟨1, 8, false, .nilf, .func⟩,
  some ⟨1, 8, false, .nilf, .func⟩,
  none,
  some ⟨1, 8, false, .nilf, .func⟩,
  none,
  some ⟨1, 8, false, .nilf, .func⟩,
  some ⟨1, 8, false, .nilf, .func⟩,
  some ⟨1, 8, false, .nilf, .func⟩,
  some ⟨1, 8, false, .nilf, .func⟩,
  some ⟨1, 8, false, .nilf, .func⟩,
  some ⟨1, 8, false, .nilf, .func⟩,
  some ⟨1, 8, false, .nilf, .func⟩,
  some ⟨1, 8, false, .nilf, .func⟩,
  some ⟨1, 8, false, .nilf, .func⟩,
  some ⟨1, 8, false, .nilf, .func⟩,
  some ⟨1, 8, false, .nilf, .func⟩,
  some ⟨1, 8, false, .nilf, .func⟩,
  none,
  some ⟨1, 8, false, .nilf, .func⟩,
  none,
  some ⟨1, 8, false, .nilf, .func⟩,
  none,
  some ⟨1, 8, false, .nilf, .func⟩,
  some ⟨1, 8, false, .nilf, .func⟩,
  none,
  some ⟨1, 8, false, .nilf, .func⟩,
  some ⟨1, 8, false, .nilf, .func⟩,
  none,
  some ⟨1, 8, false, .nilf, .func⟩,
  some ⟨1, 8, false, .nilf, .func⟩,
  some ⟨1, 8, false, .nilf, .func⟩,
  some ⟨1, 8, false, .nilf, .func⟩,
  some ⟨1, 8, false, .nilf, .func⟩,
  some ⟨1, 4, false, (.int .u32 0), (.int .u32)⟩,
  some ⟨1, 8, false, (.int .u64 0), (.int .u64)⟩,
  some ⟨1, 8, false, .nilf, .func⟩,
  some ⟨1, 8, false, (.int .u64 0), (.int .u64)⟩,
  some ⟨1, 24, false, (.lst true []), (.slice 69)⟩,
  some ⟨1, 24, false, (.lst true []), (.slice 4)⟩,
  none,
  some ⟨1, 8, false, .nilf, .func⟩,
  some ⟨1, 24, false, (.lst true []), (.slice 28)⟩,
  some ⟨1, 8, false, .nilf, .func⟩,
  some ⟨1, 8, false, .nilf, .func⟩,
  some ⟨1, 8, false, .nilf, .func⟩,
  some ⟨1, 8, false, .nilf, .func⟩,
  some ⟨1, 8, false, .nilf, .func⟩,
  some ⟨1, 8, false, .nilf, .func⟩,
  some ⟨1, 8, false, .nilf, .func⟩,
  some ⟨1, 8, false, .nilf, .func⟩,
  none,
  some ⟨1, 8, false, .nilf, .func⟩,
  some ⟨1, 8, false, .nilf, .func⟩,
  some ⟨1, 8, false, .nilf, .func⟩,
  none,
  some ⟨1, 8, false, .nilf, .func⟩,
  some ⟨1, 8, false, .nilf, .func⟩,
  some ⟨1, 8, false, .nilf, .func⟩,
  none,
  some ⟨1, 8, false, .nilf, .func⟩,
  none,
  some ⟨1, 8, false, .nilf, .func⟩,
  some ⟨1, 24, false, (.lst true []), (.slice 5)⟩,
  none,
  some ⟨1, 8, false, .nilf, .func⟩,
  some ⟨1, 8, false, .nilf, .func⟩,
  some ⟨1, 8, false, .nilf, .func⟩,
  some ⟨1, 8, false, .nilf, .func⟩,
  some ⟨1, 8, false, .nilf, .func⟩,
  some ⟨1, 8, false, .nilf, .func⟩,
  some ⟨1, 8, false, .nilf, .func⟩,
  some ⟨1, 8, false, .nilf, .func⟩,
  some ⟨1, 8, false, .nilf, .func⟩,
  some ⟨4, 40, true, (.agg [.nilp, .nilp, .nilp, .str ByteArray.empty]), (.struct [(0, 17), (1, 17), (2, 17), (3, 9)])⟩,
  some ⟨4, 40, true, (.agg [.nilp, .nilp, .nilp, .str ByteArray.empty]), (.struct [(0, 17), (1, 17), (2, 17), (3, 9)])⟩,
  some ⟨0, 0, true, (.agg []), (.array 0 16)⟩,
  some ⟨0, 0, true, (.agg []), (.struct [(0, 111)])⟩,
  some ⟨0, 0, true, (.agg []), (.struct [(0, 111)])⟩,
  some ⟨1, 8, false, .nilf, .func⟩,
  some ⟨1, 1, false, (.int .u8 0), (.int .u8)⟩,
  some ⟨1, 1, false, (.int .u8 0), (.int .u8)⟩,
  some ⟨1, 8, false, .nilf, .func⟩,
  some ⟨1, 8, false, .nilp, (.ptr 5)⟩,
  some ⟨1, 4, false, (.int .i32 0), (.int .i32)⟩,
  some ⟨1, 4, false, (.int .i32 0), (.int .i32)⟩,
  some ⟨11, 48, true, (.agg [.int .u64 0, .int .u64 0, .int .u32 0, .int .u8 0, .int .u8 0, .int .u8 0, .int .u8 0, .nilf, .nilp, .int .i32 0, .int .i32 0]), (.struct [(0, 12), (1, 12), (2, 69), (3, 115), (4, 5), (5, 5), (6, 116), (7, 117), (8, 118), (9, 119), (10, 120)])⟩,
  some ⟨11, 48, true, (.agg [.int .u64 0, .int .u64 0, .int .u32 0, .int .u8 0, .int .u8 0, .int .u8 0, .int .u8 0, .nilf, .nilp, .int .i32 0, .int .i32 0]), (.struct [(0, 12), (1, 12), (2, 69), (3, 115), (4, 5), (5, 5), (6, 116), (7, 117), (8, 118), (9, 119), (10, 120)])⟩,
  none]
noncomputable def FL : List Func := [Try.f0, Try.f1, Try.f2, Try.f3, Try.f4, Try.f5, Try.f6, Try.f7, Try.f8, Try.f9, Try.f10, Try.f11, Try.f12, Try.f13, Try.f14, Try.f15, Try.f16, Try.f17, Try.f18, Try.f19, Try.f20, Try.f21, Try.f22, Try.f23, Try.f24, Try.f25, Try.f26, Try.f27, Try.f28, Try.f29, Try.f30, Try.f31, Try.f32, Try.f33, Try.f34, Try.f35, Try.f36, Try.f37, Try.f38, Try.f39, Try.f40, Try.f41, Try.f42, Try.f43, Try.f44, Try.f45, Try.f46, Try.f47, Try.f48, Try.f49, Try.f50, Try.f51, Try.f52, Try.f53, Try.f54, Try.f55, Try.f56, Try.f57, Try.f58, Try.f59, Try.f60, Try.f61, Try.f62, Try.f63, Try.f64, Try.f65, Try.f66, Try.f67, Try.f68, Try.f69, Try.f70, Try.f71, Try.f72, Try.f73, Try.f74, Try.f75, Try.f76, Try.f77, Try.f78, Try.f79, Try.f80, Try.f81, Try.f82, Try.f83, Try.f84, Try.f85, Try.f86, Try.f87, Try.f88, Try.f89, Try.f90, Try.f91, Try.f92, Try.f93, Try.f94, Try.f95, Try.f96, Try.f97, Try.f98, Try.f99, Try.f100, Try.f101, Try.f102, Try.f103]
noncomputable def E : Vm.Env := ⟨fun t => (TL[t]?).join, fun f => FL[f]?, fun f => [86].contains f⟩
theorem T1 : E.T 1 = some ⟨1, 8, false, .nilf, .func⟩ := rfl
theorem T2 : E.T 2 = some ⟨1, 8, false, (.int .i64 0), (.int .i64)⟩ := rfl
theorem T3 : E.T 3 = some ⟨1, 8, false, (.int .i64 0), (.int .i64)⟩ := rfl
theorem T4 : E.T 4 = some ⟨1, 1, false, (.bool false), .bool⟩ := rfl
theorem T5 : E.T 5 = some ⟨1, 1, false, (.int .u8 0), (.int .u8)⟩ := rfl
theorem T6 : E.T 6 = some ⟨1, 1, false, (.int .u8 0), (.int .u8)⟩ := rfl
theorem T7 : E.T 7 = some ⟨4, 24, true, (.agg [.int .i64 0, .int .i64 0, .bool false, .int .u8 0]), (.struct [(0, 2), (1, 3), (2, 4), (3, 6)])⟩ := rfl
theorem T8 : E.T 8 = some ⟨4, 24, true, (.agg [.int .i64 0, .int .i64 0, .bool false, .int .u8 0]), (.struct [(0, 2), (1, 3), (2, 4), (3, 6)])⟩ := rfl
theorem T9 : E.T 9 = some ⟨1, 16, false, (.str ByteArray.empty), .str⟩ := rfl
theorem T10 : E.T 10 = some ⟨1, 16, false, (.str ByteArray.empty), .str⟩ := rfl
theorem T11 : E.T 11 = some ⟨1, 16, false, (.str ByteArray.empty), .str⟩ := rfl
theorem T12 : E.T 12 = some ⟨1, 8, false, (.int .u64 0), (.int .u64)⟩ := rfl
theorem T13 : E.T 13 = some ⟨2, 24, true, (.agg [.str ByteArray.empty, .int .u64 0]), (.struct [(0, 9), (1, 12)])⟩ := rfl
theorem T14 : E.T 14 = some ⟨2, 24, true, (.agg [.str ByteArray.empty, .int .u64 0]), (.struct [(0, 9), (1, 12)])⟩ := rfl
theorem T15 : E.T 15 = some ⟨1, 8, false, .nilp, (.ptr 110)⟩ := rfl
theorem T16 : E.T 16 = some ⟨1, 8, false, .nilp, (.ptr 113)⟩ := rfl
theorem T17 : E.T 17 = some ⟨1, 8, false, .nilp, (.ptr 122)⟩ := rfl
theorem T18 : E.T 18 = some ⟨1, 8, true, (.agg [.nilp]), (.struct [(0, 17)])⟩ := rfl
theorem T19 : E.T 19 = some ⟨1, 8, true, (.agg [.nilp]), (.struct [(0, 17)])⟩ := rfl
theorem T20 : E.T 20 = some ⟨1, 16, false, .nili, .iface⟩ := rfl
theorem T21 : E.T 21 = some ⟨1, 4, false, (.int .i32 0), (.int .i32)⟩ := rfl
theorem T22 : E.T 22 = some ⟨1, 2, false, (.int .u16 0), (.int .u16)⟩ := rfl
theorem T23 : E.T 23 = some ⟨1, 8, false, (.int .i64 0), (.int .i64)⟩ := rfl
theorem T25 : E.T 25 = some ⟨1, 8, false, .nilf, .func⟩ := rfl
theorem T26 : E.T 26 = some ⟨1, 24, false, (.lst true []), (.slice 69)⟩ := rfl
theorem T27 : E.T 27 = some ⟨2, 32, true, (.agg [.bool false, .lst true []]), (.struct [(0, 4), (1, 26)])⟩ := rfl
theorem T28 : E.T 28 = some ⟨2, 32, true, (.agg [.bool false, .lst true []]), (.struct [(0, 4), (1, 26)])⟩ := rfl
theorem T29 : E.T 29 = some ⟨1, 8, false, .nilf, .func⟩ := rfl
theorem T30 : E.T 30 = some ⟨1, 8, false, .nilf, .func⟩ := rfl
theorem T31 : E.T 31 = some ⟨1, 8, false, .nilf, .func⟩ := rfl
theorem T32 : E.T 32 = some ⟨1, 8, false, .nilf, .func⟩ := rfl
theorem T33 : E.T 33 = some ⟨1, 8, false, .nilf, .func⟩ := rfl
theorem T35 : E.T 35 = some ⟨1, 8, false, .nilf, .func⟩ := rfl
theorem T36 : E.T 36 = some ⟨1, 8, false, .nilf, .func⟩ := rfl
theorem T37 : E.T 37 = some ⟨1, 8, false, .nilf, .func⟩ := rfl
theorem T39 : E.T 39 = some ⟨1, 8, false, .nilf, .func⟩ := rfl
theorem T41 : E.T 41 = some ⟨1, 8, false, .nilf, .func⟩ := rfl
theorem T42 : E.T 42 = some ⟨1, 8, false, .nilf, .func⟩ := rfl
theorem T43 : E.T 43 = some ⟨1, 8, false, .nilf, .func⟩ := rfl
theorem T44 : E.T 44 = some ⟨1, 8, false, .nilf, .func⟩ := rfl
theorem T45 : E.T 45 = some ⟨1, 8, false, .nilf, .func⟩ := rfl
theorem T46 : E.T 46 = some ⟨1, 8, false, .nilf, .func⟩ := rfl
theorem T47 : E.T 47 = some ⟨1, 8, false, .nilf, .func⟩ := rfl
theorem T48 : E.T 48 = some ⟨1, 8, false, .nilf, .func⟩ := rfl
theorem T49 : E.T 49 = some ⟨1, 8, false, .nilf, .func⟩ := rfl
theorem T50 : E.T 50 = some ⟨1, 8, false, .nilf, .func⟩ := rfl
theorem T51 : E.T 51 = some ⟨1, 8, false, .nilf, .func⟩ := rfl
theorem T52 : E.T 52 = some ⟨1, 8, false, .nilf, .func⟩ := rfl
theorem T54 : E.T 54 = some ⟨1, 8, false, .nilf, .func⟩ := rfl
theorem T56 : E.T 56 = some ⟨1, 8, false, .nilf, .func⟩ := rfl
theorem T58 : E.T 58 = some ⟨1, 8, false, .nilf, .func⟩ := rfl
theorem T59 : E.T 59 = some ⟨1, 8, false, .nilf, .func⟩ := rfl
theorem T61 : E.T 61 = some ⟨1, 8, false, .nilf, .func⟩ := rfl
theorem T62 : E.T 62 = some ⟨1, 8, false, .nilf, .func⟩ := rfl
theorem T64 : E.T 64 = some ⟨1, 8, false, .nilf, .func⟩ := rfl
theorem T65 : E.T 65 = some ⟨1, 8, false, .nilf, .func⟩ := rfl
theorem T66 : E.T 66 = some ⟨1, 8, false, .nilf, .func⟩ := rfl
theorem T67 : E.T 67 = some ⟨1, 8, false, .nilf, .func⟩ := rfl
theorem T68 : E.T 68 = some ⟨1, 8, false, .nilf, .func⟩ := rfl
theorem T69 : E.T 69 = some ⟨1, 4, false, (.int .u32 0), (.int .u32)⟩ := rfl
theorem T70 : E.T 70 = some ⟨1, 8, false, (.int .u64 0), (.int .u64)⟩ := rfl
theorem T71 : E.T 71 = some ⟨1, 8, false, .nilf, .func⟩ := rfl
theorem T72 : E.T 72 = some ⟨1, 8, false, (.int .u64 0), (.int .u64)⟩ := rfl
theorem T73 : E.T 73 = some ⟨1, 24, false, (.lst true []), (.slice 69)⟩ := rfl
theorem T74 : E.T 74 = some ⟨1, 24, false, (.lst true []), (.slice 4)⟩ := rfl
theorem T76 : E.T 76 = some ⟨1, 8, false, .nilf, .func⟩ := rfl
theorem T77 : E.T 77 = some ⟨1, 24, false, (.lst true []), (.slice 28)⟩ := rfl
theorem T78 : E.T 78 = some ⟨1, 8, false, .nilf, .func⟩ := rfl
theorem T79 : E.T 79 = some ⟨1, 8, false, .nilf, .func⟩ := rfl
theorem T80 : E.T 80 = some ⟨1, 8, false, .nilf, .func⟩ := rfl
theorem T81 : E.T 81 = some ⟨1, 8, false, .nilf, .func⟩ := rfl
theorem T82 : E.T 82 = some ⟨1, 8, false, .nilf, .func⟩ := rfl
theorem T83 : E.T 83 = some ⟨1, 8, false, .nilf, .func⟩ := rfl
theorem T84 : E.T 84 = some ⟨1, 8, false, .nilf, .func⟩ := rfl
theorem T85 : E.T 85 = some ⟨1, 8, false, .nilf, .func⟩ := rfl
theorem T87 : E.T 87 = some ⟨1, 8, false, .nilf, .func⟩ := rfl
theorem T88 : E.T 88 = some ⟨1, 8, false, .nilf, .func⟩ := rfl
theorem T89 : E.T 89 = some ⟨1, 8, false, .nilf, .func⟩ := rfl
theorem T91 : E.T 91 = some ⟨1, 8, false, .nilf, .func⟩ := rfl
theorem T92 : E.T 92 = some ⟨1, 8, false, .nilf, .func⟩ := rfl
theorem T93 : E.T 93 = some ⟨1, 8, false, .nilf, .func⟩ := rfl
theorem T95 : E.T 95 = some ⟨1, 8, false, .nilf, .func⟩ := rfl
theorem T97 : E.T 97 = some ⟨1, 8, false, .nilf, .func⟩ := rfl
theorem T98 : E.T 98 = some ⟨1, 24, false, (.lst true []), (.slice 5)⟩ := rfl
theorem T100 : E.T 100 = some ⟨1, 8, false, .nilf, .func⟩ := rfl
theorem T101 : E.T 101 = some ⟨1, 8, false, .nilf, .func⟩ := rfl
theorem T102 : E.T 102 = some ⟨1, 8, false, .nilf, .func⟩ := rfl
theorem T103 : E.T 103 = some ⟨1, 8, false, .nilf, .func⟩ := rfl
theorem T104 : E.T 104 = some ⟨1, 8, false, .nilf, .func⟩ := rfl
theorem T105 : E.T 105 = some ⟨1, 8, false, .nilf, .func⟩ := rfl
theorem T106 : E.T 106 = some ⟨1, 8, false, .nilf, .func⟩ := rfl
theorem T107 : E.T 107 = some ⟨1, 8, false, .nilf, .func⟩ := rfl
theorem T108 : E.T 108 = some ⟨1, 8, false, .nilf, .func⟩ := rfl
theorem T109 : E.T 109 = some ⟨4, 40, true, (.agg [.nilp, .nilp, .nilp, .str ByteArray.empty]), (.struct [(0, 17), (1, 17), (2, 17), (3, 9)])⟩ := rfl
theorem T110 : E.T 110 = some ⟨4, 40, true, (.agg [.nilp, .nilp, .nilp, .str ByteArray.empty]), (.struct [(0, 17), (1, 17), (2, 17), (3, 9)])⟩ := rfl
theorem T111 : E.T 111 = some ⟨0, 0, true, (.agg []), (.array 0 16)⟩ := rfl
theorem T112 : E.T 112 = some ⟨0, 0, true, (.agg []), (.struct [(0, 111)])⟩ := rfl
theorem T113 : E.T 113 = some ⟨0, 0, true, (.agg []), (.struct [(0, 111)])⟩ := rfl
theorem T114 : E.T 114 = some ⟨1, 8, false, .nilf, .func⟩ := rfl
theorem T115 : E.T 115 = some ⟨1, 1, false, (.int .u8 0), (.int .u8)⟩ := rfl
theorem T116 : E.T 116 = some ⟨1, 1, false, (.int .u8 0), (.int .u8)⟩ := rfl
theorem T117 : E.T 117 = some ⟨1, 8, false, .nilf, .func⟩ := rfl
theorem T118 : E.T 118 = some ⟨1, 8, false, .nilp, (.ptr 5)⟩ := rfl
theorem T119 : E.T 119 = some ⟨1, 4, false, (.int .i32 0), (.int .i32)⟩ := rfl
theorem T120 : E.T 120 = some ⟨1, 4, false, (.int .i32 0), (.int .i32)⟩ := rfl
theorem T121 : E.T 121 = some ⟨11, 48, true, (.agg [.int .u64 0, .int .u64 0, .int .u32 0, .int .u8 0, .int .u8 0, .int .u8 0, .int .u8 0, .nilf, .nilp, .int .i32 0, .int .i32 0]), (.struct [(0, 12), (1, 12), (2, 69), (3, 115), (4, 5), (5, 5), (6, 116), (7, 117), (8, 118), (9, 119), (10, 120)])⟩ := rfl
theorem T122 : E.T 122 = some ⟨11, 48, true, (.agg [.int .u64 0, .int .u64 0, .int .u32 0, .int .u8 0, .int .u8 0, .int .u8 0, .int .u8 0, .nilf, .nilp, .int .i32 0, .int .i32 0]), (.struct [(0, 12), (1, 12), (2, 69), (3, 115), (4, 5), (5, 5), (6, 116), (7, 117), (8, 118), (9, 119), (10, 120)])⟩ := rfl
theorem opn_eq (g : Nat) : E.opn g = decide (g = 86) := by simp [E, List.contains_cons]
set_option maxRecDepth 100000 in
theorem tl_ok : (List.range 124).map (fun t => match (TL[t]?).join with | some _ => Vm.tiOf Try.prog t | none => none) = TL := by kernel_rfl
set_option maxRecDepth 100000 in
theorem fl_ok : FL = Try.prog.funcs.toList := by kernel_rfl
set_option maxRecDepth 100000 in
theorem fl_all : FL.all (fun fn => fn.name != "runtime.NumGoroutine" && (match fn.body with | some c => Vm.codeOk c | none => true)) = true := by kernel_rfl
theorem eok : Vm.POk Try.prog E where
  ty t ti h := by
    have h1 : (TL[t]?).join = some ti := h
    have hlt : t < 124 := by
      rcases Nat.lt_or_ge t 124 with h | h
      · exact h
      · rw [List.getElem?_eq_none (by exact h)] at h1; cases h1
    have h2 := congrArg (fun l => (l[t]?).join) tl_ok
    rw [h1, List.getElem?_map, List.getElem?_range hlt] at h2
    simp only [Option.map_some, h1] at h2
    simpa using h2
  fn f fn h := by
    have h1 : FL[f]? = some fn := h
    have h2 := List.all_eq_true.1 fl_all fn (List.mem_of_getElem? h1)
    rw [Bool.and_eq_true] at h2
    refine ⟨?_, by simpa using h2.1, fun c hc => ?_⟩
    · rw [fl_ok] at h1
      rw [← Array.getElem?_toList]
      exact h1
    · have h3 := h2.2
      rw [hc] at h3
      exact h3
  mixed := by kernel_rfl
end Go.Proofs.Ytpfcijgcjghgeaa
