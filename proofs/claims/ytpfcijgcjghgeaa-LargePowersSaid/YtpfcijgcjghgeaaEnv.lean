/- The seat of this claim, as the machine over pure values sees it: its types, its functions; that they are the program's. Printed by wip/gen.py. (Own work of this repo.) -/
import Derived.Test.YtpfcijgcjghgeaaRows
import Derived.KernelRfl
import Derived.Test.YtpfcijgcjghgeaaVm21
set_option linter.unusedVariables false
set_option linter.unusedSimpArgs false
namespace Go.Proofs.Ytpfcijgcjghgeaa
def TL : List (Option Vm.TI) := [none,
  some ⟨1, 8, false, .nilf, .func⟩,
  some ⟨1, 8, false, (.int .i64 0), (.int .i64)⟩,
  some ⟨1, 8, false, (.int .i64 0), (.int .i64)⟩,
  some ⟨1, 1, false, (.bool false), .bool⟩,
  some ⟨1, 1, false, (.int .u8 0), (.int .u8)⟩,
  some ⟨1, 1, false, (.int .u8 0), (.int .u8)⟩,
  some ⟨4, 24, true, (.agg [.int .i64 0, .int .i64 0, .bool false, .int .u8 0]), (.struct [(0, 2), (1, 3), (2, 4), (3, 6)])⟩,
  some ⟨4, 24, true, (.agg [.int .i64 0, .int .i64 0, .bool false, .int .u8 0]), (.struct [(0, 2), (1, 3), (2, 4), (3, 6)])⟩,
  some ⟨1, 16, false, (.str ByteArray.empty), .str⟩,
  some ⟨1, 16, false, (.str ByteArray.empty), .str⟩,
  some ⟨1, 16, false, (.str ByteArray.empty), .str⟩,
  some ⟨1, 8, false, (.int .u64 0), (.int .u64)⟩,
  some ⟨2, 24, true, (.agg [.str ByteArray.empty, .int .u64 0]), (.struct [(0, 9), (1, 12)])⟩,
  some ⟨2, 24, true, (.agg [.str ByteArray.empty, .int .u64 0]), (.struct [(0, 9), (1, 12)])⟩,
  some ⟨1, 8, false, .nilp, (.ptr 110)⟩,
  some ⟨1, 8, false, .nilp, (.ptr 113)⟩,
  some ⟨1, 8, false, .nilp, (.ptr 122)⟩,
  some ⟨1, 8, true, (.agg [.nilp]), (.struct [(0, 17)])⟩,
  some ⟨1, 8, true, (.agg [.nilp]), (.struct [(0, 17)])⟩,
  some ⟨1, 16, false, .nili, .iface⟩,
  some ⟨1, 4, false, (.int .i32 0), (.int .i32)⟩,
  some ⟨1, 2, false, (.int .u16 0), (.int .u16)⟩,
  some ⟨1, 8, false, (.int .i64 0), (.int .i64)⟩,
  none,
  some ⟨1, 8, false, .nilf, .func⟩,
  some ⟨1, 24, false, (.lst true []), (.slice 69)⟩,
  some ⟨2, 32, true, (.agg [.bool false, .lst true []]), (.struct [(0, 4), (1, 26)])⟩,
  some ⟨2, 32, true, (.agg [.bool false, .lst true []]), (.struct [(0, 4), (1, 26)])⟩,
  some ⟨1, 8, false, .nilf, .func⟩,
  some ⟨1, 8, false, .nilf, .func⟩,
  some ⟨1, 8, false, .nilf, .func⟩,
  some ⟨1, 8, false, .nilf, .func⟩,
  some ⟨1, 8, false, .nilf, .func⟩,
  none,
  some ⟨1, 8, false, .nilf, .func⟩,
  some ⟨1, 8, false, .nilf, .func⟩,
  some ⟨1, 8, false, .nilf, .func⟩,
  none,
  some ⟨1, 8, false, .nilf, .func⟩,
  none,
  some ⟨1, 8, false, .nilf, .func⟩,
  some ⟨1, 8, false, .nilf, .func⟩,
  some ⟨1, 8, false, .nilf, .func⟩,
  some ⟨1, 8, false, .nilf, .func⟩,
  some ⟨1, 8, false, .nilf, .func⟩,
  some ⟨1, 8, false, .nilf, .func⟩,
  some ⟨1, 8, false, .nilf, .func⟩,
  some ⟨1, 8, false, .nilf, .func⟩,
  some ⟨1, 8, false, .nilf, .func⟩,
  some ⟨1, 8, false, .nilf, .func⟩,
  some ⟨1, 8, false, .nilf, .func⟩,
  some ⟨1, 8, false, .nilf, .func⟩,
  none,
  some ⟨1, 8, false, .nilf, .func⟩,
  none,
  some ⟨1, 8, false, .nilf, .func⟩,
  none,
  some ⟨1, 8, false, .nilf, .func⟩,
  some ⟨1, 8, false, .nilf, .func⟩,
  none,
  some ⟨1, 8, false, .nilf, .func⟩,
  some ⟨1, 8, false, .nilf, .func⟩,
  none,
  some ⟨1, 8, false, .nilf, .func⟩,
  some ⟨1, 8, false, .nilf, .func⟩,
  some ⟨1, 8, false, .nilf, .func⟩,
  some ⟨1, 8, false, .nilf, .func⟩,
  some ⟨1, 8, false, .nilf, .func⟩,
  some ⟨1, 4, false, (.int .u32 0), (.int .u32)⟩,
  some ⟨1, 8, false, (.int .u64 0), (.int .u64)⟩,
  some ⟨1, 8, false, .nilf, .func⟩,
  some ⟨1, 8, false, (.int .u64 0), (.int .u64)⟩,
  some ⟨1, 24, false, (.lst true []), (.slice 69)⟩,
  some ⟨1, 24, false, (.lst true []), (.slice 4)⟩,
  none,
  some ⟨1, 8, false, .nilf, .func⟩,
  some ⟨1, 24, false, (.lst true []), (.slice 28)⟩,
  some ⟨1, 8, false, .nilf, .func⟩,
  some ⟨1, 8, false, .nilf, .func⟩,
  some ⟨1, 8, false, .nilf, .func⟩,
  some ⟨1, 8, false, .nilf, .func⟩,
  some ⟨1, 8, false, .nilf, .func⟩,
  some ⟨1, 8, false, .nilf, .func⟩,
  some ⟨1, 8, false, .nilf, .func⟩,
  some ⟨1, 8, false, .nilf, .func⟩,
  none,
  some ⟨1, 8, false, .nilf, .func⟩,
  some ⟨1, 8, false, .nilf, .func⟩,
  some ⟨1, 8, false, .nilf, .func⟩,
  none,
  some ⟨1, 8, false, .nilf, .func⟩,
  some ⟨1, 8, false, .nilf, .func⟩,
  some ⟨1, 8, false, .nilf, .func⟩,
  none,
  some ⟨1, 8, false, .nilf, .func⟩,
  none,
  some ⟨1, 8, false, .nilf, .func⟩,
  some ⟨1, 24, false, (.lst true []), (.slice 5)⟩,
  none,
  some ⟨1, 8, false, .nilf, .func⟩,
  some ⟨1, 8, false, .nilf, .func⟩,
  some ⟨1, 8, false, .nilf, .func⟩,
  some ⟨1, 8, false, .nilf, .func⟩,
  some ⟨1, 8, false, .nilf, .func⟩,
  some ⟨1, 8, false, .nilf, .func⟩,
  some ⟨1, 8, false, .nilf, .func⟩,
  some ⟨1, 8, false, .nilf, .func⟩,
  some ⟨1, 8, false, .nilf, .func⟩,
  some ⟨4, 40, true, (.agg [.nilp, .nilp, .nilp, .str ByteArray.empty]), (.struct [(0, 17), (1, 17), (2, 17), (3, 9)])⟩,
  some ⟨4, 40, true, (.agg [.nilp, .nilp, .nilp, .str ByteArray.empty]), (.struct [(0, 17), (1, 17), (2, 17), (3, 9)])⟩,
  some ⟨0, 0, true, (.agg []), (.array 0 16)⟩,
  some ⟨0, 0, true, (.agg []), (.struct [(0, 111)])⟩,
  some ⟨0, 0, true, (.agg []), (.struct [(0, 111)])⟩,
  some ⟨1, 8, false, .nilf, .func⟩,
  some ⟨1, 1, false, (.int .u8 0), (.int .u8)⟩,
  some ⟨1, 1, false, (.int .u8 0), (.int .u8)⟩,
  some ⟨1, 8, false, .nilf, .func⟩,
  some ⟨1, 8, false, .nilp, (.ptr 5)⟩,
  some ⟨1, 4, false, (.int .i32 0), (.int .i32)⟩,
  some ⟨1, 4, false, (.int .i32 0), (.int .i32)⟩,
  some ⟨11, 48, true, (.agg [.int .u64 0, .int .u64 0, .int .u32 0, .int .u8 0, .int .u8 0, .int .u8 0, .int .u8 0, .nilf, .nilp, .int .i32 0, .int .i32 0]), (.struct [(0, 12), (1, 12), (2, 69), (3, 115), (4, 5), (5, 5), (6, 116), (7, 117), (8, 118), (9, 119), (10, 120)])⟩,
  some ⟨11, 48, true, (.agg [.int .u64 0, .int .u64 0, .int .u32 0, .int .u8 0, .int .u8 0, .int .u8 0, .int .u8 0, .nilf, .nilp, .int .i32 0, .int .i32 0]), (.struct [(0, 12), (1, 12), (2, 69), (3, 115), (4, 5), (5, 5), (6, 116), (7, 117), (8, 118), (9, 119), (10, 120)])⟩,
  none]
noncomputable def FL : List Func := [Try.f0, Try.f1, Try.f2, Try.f3, Try.f4, Try.f5, Try.f6, Try.f7, Try.f8, Try.f9, Try.f10, Try.f11, Try.f12, Try.f13, Try.f14, Try.f15, Try.f16, Try.f17, Try.f18, Try.f19, Try.f20, Try.f21, Try.f22, Try.f23, Try.f24, Try.f25, Try.f26, Try.f27, Try.f28, Try.f29, Try.f30, Try.f31, Try.f32, Try.f33, Try.f34, Try.f35, Try.f36, Try.f37, Try.f38, Try.f39, Try.f40, Try.f41, Try.f42, Try.f43, Try.f44, Try.f45, Try.f46, Try.f47, Try.f48, Try.f49, Try.f50, Try.f51, Try.f52, Try.f53, Try.f54, Try.f55, Try.f56, Try.f57, Try.f58, Try.f59, Try.f60, Try.f61, Try.f62, Try.f63, Try.f64, Try.f65, Try.f66, Try.f67, Try.f68, Try.f69, Try.f70, Try.f71, Try.f72, Try.f73, Try.f74, Try.f75, Try.f76, Try.f77, Try.f78, Try.f79, Try.f80, Try.f81, Try.f82, Try.f83, Try.f84, Try.f85, Try.f86, Try.f87, Try.f88, Try.f89, Try.f90, Try.f91, Try.f92, Try.f93, Try.f94, Try.f95, Try.f96, Try.f97, Try.f98, Try.f99, Try.f100, Try.f101, Try.f102, Try.f103]
noncomputable def E : Vm.Env := ⟨fun t => (TL[t]?).join, fun f => FL[f]?, fun f => [86, 70, 81, 79].contains f⟩
theorem E0 : E.fn 0 = some Try.f0 := rfl
theorem E1 : E.fn 1 = some Try.f1 := rfl
theorem E2 : E.fn 2 = some Try.f2 := rfl
theorem E3 : E.fn 3 = some Try.f3 := rfl
theorem E4 : E.fn 4 = some Try.f4 := rfl
theorem E5 : E.fn 5 = some Try.f5 := rfl
theorem E6 : E.fn 6 = some Try.f6 := rfl
theorem E7 : E.fn 7 = some Try.f7 := rfl
theorem E8 : E.fn 8 = some Try.f8 := rfl
theorem E9 : E.fn 9 = some Try.f9 := rfl
theorem E10 : E.fn 10 = some Try.f10 := rfl
theorem E11 : E.fn 11 = some Try.f11 := rfl
theorem E12 : E.fn 12 = some Try.f12 := rfl
theorem E13 : E.fn 13 = some Try.f13 := rfl
theorem E14 : E.fn 14 = some Try.f14 := rfl
theorem E15 : E.fn 15 = some Try.f15 := rfl
theorem E16 : E.fn 16 = some Try.f16 := rfl
theorem E17 : E.fn 17 = some Try.f17 := rfl
theorem E18 : E.fn 18 = some Try.f18 := rfl
theorem E19 : E.fn 19 = some Try.f19 := rfl
theorem E20 : E.fn 20 = some Try.f20 := rfl
theorem E21 : E.fn 21 = some Try.f21 := rfl
theorem E22 : E.fn 22 = some Try.f22 := rfl
theorem E23 : E.fn 23 = some Try.f23 := rfl
theorem E24 : E.fn 24 = some Try.f24 := rfl
theorem E25 : E.fn 25 = some Try.f25 := rfl
theorem E26 : E.fn 26 = some Try.f26 := rfl
theorem E27 : E.fn 27 = some Try.f27 := rfl
theorem E28 : E.fn 28 = some Try.f28 := rfl
theorem E29 : E.fn 29 = some Try.f29 := rfl
theorem E30 : E.fn 30 = some Try.f30 := rfl
theorem E31 : E.fn 31 = some Try.f31 := rfl
theorem E32 : E.fn 32 = some Try.f32 := rfl
theorem E33 : E.fn 33 = some Try.f33 := rfl
theorem E34 : E.fn 34 = some Try.f34 := rfl
theorem E35 : E.fn 35 = some Try.f35 := rfl
theorem E36 : E.fn 36 = some Try.f36 := rfl
theorem E37 : E.fn 37 = some Try.f37 := rfl
theorem E38 : E.fn 38 = some Try.f38 := rfl
theorem E39 : E.fn 39 = some Try.f39 := rfl
theorem E40 : E.fn 40 = some Try.f40 := rfl
theorem E41 : E.fn 41 = some Try.f41 := rfl
theorem E42 : E.fn 42 = some Try.f42 := rfl
theorem E43 : E.fn 43 = some Try.f43 := rfl
theorem E44 : E.fn 44 = some Try.f44 := rfl
theorem E45 : E.fn 45 = some Try.f45 := rfl
theorem E46 : E.fn 46 = some Try.f46 := rfl
theorem E47 : E.fn 47 = some Try.f47 := rfl
theorem E48 : E.fn 48 = some Try.f48 := rfl
theorem E49 : E.fn 49 = some Try.f49 := rfl
theorem E50 : E.fn 50 = some Try.f50 := rfl
theorem E51 : E.fn 51 = some Try.f51 := rfl
theorem E52 : E.fn 52 = some Try.f52 := rfl
theorem E53 : E.fn 53 = some Try.f53 := rfl
theorem E54 : E.fn 54 = some Try.f54 := rfl
theorem E55 : E.fn 55 = some Try.f55 := rfl
theorem E56 : E.fn 56 = some Try.f56 := rfl
theorem E57 : E.fn 57 = some Try.f57 := rfl
theorem E58 : E.fn 58 = some Try.f58 := rfl
theorem E59 : E.fn 59 = some Try.f59 := rfl
theorem E60 : E.fn 60 = some Try.f60 := rfl
theorem E61 : E.fn 61 = some Try.f61 := rfl
theorem E62 : E.fn 62 = some Try.f62 := rfl
theorem E63 : E.fn 63 = some Try.f63 := rfl
theorem E64 : E.fn 64 = some Try.f64 := rfl
theorem E65 : E.fn 65 = some Try.f65 := rfl
theorem E66 : E.fn 66 = some Try.f66 := rfl
theorem E67 : E.fn 67 = some Try.f67 := rfl
theorem E68 : E.fn 68 = some Try.f68 := rfl
theorem E69 : E.fn 69 = some Try.f69 := rfl
theorem E70 : E.fn 70 = some Try.f70 := rfl
theorem E71 : E.fn 71 = some Try.f71 := rfl
theorem E72 : E.fn 72 = some Try.f72 := rfl
theorem E73 : E.fn 73 = some Try.f73 := rfl
theorem E74 : E.fn 74 = some Try.f74 := rfl
theorem E75 : E.fn 75 = some Try.f75 := rfl
theorem E76 : E.fn 76 = some Try.f76 := rfl
theorem E77 : E.fn 77 = some Try.f77 := rfl
theorem E78 : E.fn 78 = some Try.f78 := rfl
theorem E79 : E.fn 79 = some Try.f79 := rfl
theorem E80 : E.fn 80 = some Try.f80 := rfl
theorem E81 : E.fn 81 = some Try.f81 := rfl
theorem E82 : E.fn 82 = some Try.f82 := rfl
theorem E83 : E.fn 83 = some Try.f83 := rfl
theorem E84 : E.fn 84 = some Try.f84 := rfl
theorem E85 : E.fn 85 = some Try.f85 := rfl
theorem E86 : E.fn 86 = some Try.f86 := rfl
theorem E87 : E.fn 87 = some Try.f87 := rfl
theorem E88 : E.fn 88 = some Try.f88 := rfl
theorem E89 : E.fn 89 = some Try.f89 := rfl
theorem E90 : E.fn 90 = some Try.f90 := rfl
theorem E91 : E.fn 91 = some Try.f91 := rfl
theorem E92 : E.fn 92 = some Try.f92 := rfl
theorem E93 : E.fn 93 = some Try.f93 := rfl
theorem E94 : E.fn 94 = some Try.f94 := rfl
theorem E95 : E.fn 95 = some Try.f95 := rfl
theorem E96 : E.fn 96 = some Try.f96 := rfl
theorem E97 : E.fn 97 = some Try.f97 := rfl
theorem E98 : E.fn 98 = some Try.f98 := rfl
theorem E99 : E.fn 99 = some Try.f99 := rfl
theorem E100 : E.fn 100 = some Try.f100 := rfl
theorem E101 : E.fn 101 = some Try.f101 := rfl
theorem E102 : E.fn 102 = some Try.f102 := rfl
theorem E103 : E.fn 103 = some Try.f103 := rfl
theorem T1 : E.T 1 = some ⟨1, 8, false, .nilf, .func⟩ := rfl
theorem T2 : E.T 2 = some ⟨1, 8, false, (.int .i64 0), (.int .i64)⟩ := rfl
theorem T3 : E.T 3 = some ⟨1, 8, false, (.int .i64 0), (.int .i64)⟩ := rfl
theorem T4 : E.T 4 = some ⟨1, 1, false, (.bool false), .bool⟩ := rfl
theorem T5 : E.T 5 = some ⟨1, 1, false, (.int .u8 0), (.int .u8)⟩ := rfl
theorem T6 : E.T 6 = some ⟨1, 1, false, (.int .u8 0), (.int .u8)⟩ := rfl
theorem T7 : E.T 7 = some ⟨4, 24, true, (.agg [.int .i64 0, .int .i64 0, .bool false, .int .u8 0]), (.struct [(0, 2), (1, 3), (2, 4), (3, 6)])⟩ := rfl
theorem T8 : E.T 8 = some ⟨4, 24, true, (.agg [.int .i64 0, .int .i64 0, .bool false, .int .u8 0]), (.struct [(0, 2), (1, 3), (2, 4), (3, 6)])⟩ := rfl
theorem T9 : E.T 9 = some ⟨1, 16, false, (.str ByteArray.empty), .str⟩ := rfl
theorem T10 : E.T 10 = some ⟨1, 16, false, (.str ByteArray.empty), .str⟩ := rfl
theorem T11 : E.T 11 = some ⟨1, 16, false, (.str ByteArray.empty), .str⟩ := rfl
theorem T12 : E.T 12 = some ⟨1, 8, false, (.int .u64 0), (.int .u64)⟩ := rfl
theorem T13 : E.T 13 = some ⟨2, 24, true, (.agg [.str ByteArray.empty, .int .u64 0]), (.struct [(0, 9), (1, 12)])⟩ := rfl
theorem T14 : E.T 14 = some ⟨2, 24, true, (.agg [.str ByteArray.empty, .int .u64 0]), (.struct [(0, 9), (1, 12)])⟩ := rfl
theorem T15 : E.T 15 = some ⟨1, 8, false, .nilp, (.ptr 110)⟩ := rfl
theorem T16 : E.T 16 = some ⟨1, 8, false, .nilp, (.ptr 113)⟩ := rfl
theorem T17 : E.T 17 = some ⟨1, 8, false, .nilp, (.ptr 122)⟩ := rfl
theorem T18 : E.T 18 = some ⟨1, 8, true, (.agg [.nilp]), (.struct [(0, 17)])⟩ := rfl
theorem T19 : E.T 19 = some ⟨1, 8, true, (.agg [.nilp]), (.struct [(0, 17)])⟩ := rfl
theorem T20 : E.T 20 = some ⟨1, 16, false, .nili, .iface⟩ := rfl
theorem T21 : E.T 21 = some ⟨1, 4, false, (.int .i32 0), (.int .i32)⟩ := rfl
theorem T22 : E.T 22 = some ⟨1, 2, false, (.int .u16 0), (.int .u16)⟩ := rfl
theorem T23 : E.T 23 = some ⟨1, 8, false, (.int .i64 0), (.int .i64)⟩ := rfl
theorem T25 : E.T 25 = some ⟨1, 8, false, .nilf, .func⟩ := rfl
theorem T26 : E.T 26 = some ⟨1, 24, false, (.lst true []), (.slice 69)⟩ := rfl
theorem T27 : E.T 27 = some ⟨2, 32, true, (.agg [.bool false, .lst true []]), (.struct [(0, 4), (1, 26)])⟩ := rfl
theorem T28 : E.T 28 = some ⟨2, 32, true, (.agg [.bool false, .lst true []]), (.struct [(0, 4), (1, 26)])⟩ := rfl
theorem T29 : E.T 29 = some ⟨1, 8, false, .nilf, .func⟩ := rfl
theorem T30 : E.T 30 = some ⟨1, 8, false, .nilf, .func⟩ := rfl
theorem T31 : E.T 31 = some ⟨1, 8, false, .nilf, .func⟩ := rfl
theorem T32 : E.T 32 = some ⟨1, 8, false, .nilf, .func⟩ := rfl
theorem T33 : E.T 33 = some ⟨1, 8, false, .nilf, .func⟩ := rfl
theorem T35 : E.T 35 = some ⟨1, 8, false, .nilf, .func⟩ := rfl
theorem T36 : E.T 36 = some ⟨1, 8, false, .nilf, .func⟩ := rfl
theorem T37 : E.T 37 = some ⟨1, 8, false, .nilf, .func⟩ := rfl
theorem T39 : E.T 39 = some ⟨1, 8, false, .nilf, .func⟩ := rfl
theorem T41 : E.T 41 = some ⟨1, 8, false, .nilf, .func⟩ := rfl
theorem T42 : E.T 42 = some ⟨1, 8, false, .nilf, .func⟩ := rfl
theorem T43 : E.T 43 = some ⟨1, 8, false, .nilf, .func⟩ := rfl
theorem T44 : E.T 44 = some ⟨1, 8, false, .nilf, .func⟩ := rfl
theorem T45 : E.T 45 = some ⟨1, 8, false, .nilf, .func⟩ := rfl
theorem T46 : E.T 46 = some ⟨1, 8, false, .nilf, .func⟩ := rfl
theorem T47 : E.T 47 = some ⟨1, 8, false, .nilf, .func⟩ := rfl
theorem T48 : E.T 48 = some ⟨1, 8, false, .nilf, .func⟩ := rfl
theorem T49 : E.T 49 = some ⟨1, 8, false, .nilf, .func⟩ := rfl
theorem T50 : E.T 50 = some ⟨1, 8, false, .nilf, .func⟩ := rfl
theorem T51 : E.T 51 = some ⟨1, 8, false, .nilf, .func⟩ := rfl
theorem T52 : E.T 52 = some ⟨1, 8, false, .nilf, .func⟩ := rfl
theorem T54 : E.T 54 = some ⟨1, 8, false, .nilf, .func⟩ := rfl
theorem T56 : E.T 56 = some ⟨1, 8, false, .nilf, .func⟩ := rfl
theorem T58 : E.T 58 = some ⟨1, 8, false, .nilf, .func⟩ := rfl
theorem T59 : E.T 59 = some ⟨1, 8, false, .nilf, .func⟩ := rfl
theorem T61 : E.T 61 = some ⟨1, 8, false, .nilf, .func⟩ := rfl
theorem T62 : E.T 62 = some ⟨1, 8, false, .nilf, .func⟩ := rfl
theorem T64 : E.T 64 = some ⟨1, 8, false, .nilf, .func⟩ := rfl
theorem T65 : E.T 65 = some ⟨1, 8, false, .nilf, .func⟩ := rfl
theorem T66 : E.T 66 = some ⟨1, 8, false, .nilf, .func⟩ := rfl
theorem T67 : E.T 67 = some ⟨1, 8, false, .nilf, .func⟩ := rfl
theorem T68 : E.T 68 = some ⟨1, 8, false, .nilf, .func⟩ := rfl
theorem T69 : E.T 69 = some ⟨1, 4, false, (.int .u32 0), (.int .u32)⟩ := rfl
theorem T70 : E.T 70 = some ⟨1, 8, false, (.int .u64 0), (.int .u64)⟩ := rfl
theorem T71 : E.T 71 = some ⟨1, 8, false, .nilf, .func⟩ := rfl
theorem T72 : E.T 72 = some ⟨1, 8, false, (.int .u64 0), (.int .u64)⟩ := rfl
theorem T73 : E.T 73 = some ⟨1, 24, false, (.lst true []), (.slice 69)⟩ := rfl
theorem T74 : E.T 74 = some ⟨1, 24, false, (.lst true []), (.slice 4)⟩ := rfl
theorem T76 : E.T 76 = some ⟨1, 8, false, .nilf, .func⟩ := rfl
theorem T77 : E.T 77 = some ⟨1, 24, false, (.lst true []), (.slice 28)⟩ := rfl
theorem T78 : E.T 78 = some ⟨1, 8, false, .nilf, .func⟩ := rfl
theorem T79 : E.T 79 = some ⟨1, 8, false, .nilf, .func⟩ := rfl
theorem T80 : E.T 80 = some ⟨1, 8, false, .nilf, .func⟩ := rfl
theorem T81 : E.T 81 = some ⟨1, 8, false, .nilf, .func⟩ := rfl
theorem T82 : E.T 82 = some ⟨1, 8, false, .nilf, .func⟩ := rfl
theorem T83 : E.T 83 = some ⟨1, 8, false, .nilf, .func⟩ := rfl
theorem T84 : E.T 84 = some ⟨1, 8, false, .nilf, .func⟩ := rfl
theorem T85 : E.T 85 = some ⟨1, 8, false, .nilf, .func⟩ := rfl
theorem T87 : E.T 87 = some ⟨1, 8, false, .nilf, .func⟩ := rfl
theorem T88 : E.T 88 = some ⟨1, 8, false, .nilf, .func⟩ := rfl
theorem T89 : E.T 89 = some ⟨1, 8, false, .nilf, .func⟩ := rfl
theorem T91 : E.T 91 = some ⟨1, 8, false, .nilf, .func⟩ := rfl
theorem T92 : E.T 92 = some ⟨1, 8, false, .nilf, .func⟩ := rfl
theorem T93 : E.T 93 = some ⟨1, 8, false, .nilf, .func⟩ := rfl
theorem T95 : E.T 95 = some ⟨1, 8, false, .nilf, .func⟩ := rfl
theorem T97 : E.T 97 = some ⟨1, 8, false, .nilf, .func⟩ := rfl
theorem T98 : E.T 98 = some ⟨1, 24, false, (.lst true []), (.slice 5)⟩ := rfl
theorem T100 : E.T 100 = some ⟨1, 8, false, .nilf, .func⟩ := rfl
theorem T101 : E.T 101 = some ⟨1, 8, false, .nilf, .func⟩ := rfl
theorem T102 : E.T 102 = some ⟨1, 8, false, .nilf, .func⟩ := rfl
theorem T103 : E.T 103 = some ⟨1, 8, false, .nilf, .func⟩ := rfl
theorem T104 : E.T 104 = some ⟨1, 8, false, .nilf, .func⟩ := rfl
theorem T105 : E.T 105 = some ⟨1, 8, false, .nilf, .func⟩ := rfl
theorem T106 : E.T 106 = some ⟨1, 8, false, .nilf, .func⟩ := rfl
theorem T107 : E.T 107 = some ⟨1, 8, false, .nilf, .func⟩ := rfl
theorem T108 : E.T 108 = some ⟨1, 8, false, .nilf, .func⟩ := rfl
theorem T109 : E.T 109 = some ⟨4, 40, true, (.agg [.nilp, .nilp, .nilp, .str ByteArray.empty]), (.struct [(0, 17), (1, 17), (2, 17), (3, 9)])⟩ := rfl
theorem T110 : E.T 110 = some ⟨4, 40, true, (.agg [.nilp, .nilp, .nilp, .str ByteArray.empty]), (.struct [(0, 17), (1, 17), (2, 17), (3, 9)])⟩ := rfl
theorem T111 : E.T 111 = some ⟨0, 0, true, (.agg []), (.array 0 16)⟩ := rfl
theorem T112 : E.T 112 = some ⟨0, 0, true, (.agg []), (.struct [(0, 111)])⟩ := rfl
theorem T113 : E.T 113 = some ⟨0, 0, true, (.agg []), (.struct [(0, 111)])⟩ := rfl
theorem T114 : E.T 114 = some ⟨1, 8, false, .nilf, .func⟩ := rfl
theorem T115 : E.T 115 = some ⟨1, 1, false, (.int .u8 0), (.int .u8)⟩ := rfl
theorem T116 : E.T 116 = some ⟨1, 1, false, (.int .u8 0), (.int .u8)⟩ := rfl
theorem T117 : E.T 117 = some ⟨1, 8, false, .nilf, .func⟩ := rfl
theorem T118 : E.T 118 = some ⟨1, 8, false, .nilp, (.ptr 5)⟩ := rfl
theorem T119 : E.T 119 = some ⟨1, 4, false, (.int .i32 0), (.int .i32)⟩ := rfl
theorem T120 : E.T 120 = some ⟨1, 4, false, (.int .i32 0), (.int .i32)⟩ := rfl
theorem T121 : E.T 121 = some ⟨11, 48, true, (.agg [.int .u64 0, .int .u64 0, .int .u32 0, .int .u8 0, .int .u8 0, .int .u8 0, .int .u8 0, .nilf, .nilp, .int .i32 0, .int .i32 0]), (.struct [(0, 12), (1, 12), (2, 69), (3, 115), (4, 5), (5, 5), (6, 116), (7, 117), (8, 118), (9, 119), (10, 120)])⟩ := rfl
theorem T122 : E.T 122 = some ⟨11, 48, true, (.agg [.int .u64 0, .int .u64 0, .int .u32 0, .int .u8 0, .int .u8 0, .int .u8 0, .int .u8 0, .nilf, .nilp, .int .i32 0, .int .i32 0]), (.struct [(0, 12), (1, 12), (2, 69), (3, 115), (4, 5), (5, 5), (6, 116), (7, 117), (8, 118), (9, 119), (10, 120)])⟩ := rfl
theorem opn_eq (g : Nat) : E.opn g = (decide (g = 86) || (decide (g = 70) || (decide (g = 81) || decide (g = 79)))) := by simp [E, List.contains_cons]
set_option maxRecDepth 100000 in
theorem tl_ok : (List.range 124).map (fun t => match (TL[t]?).join with | some _ => Vm.tiOf Try.prog t | none => none) = TL := by kernel_rfl
set_option maxRecDepth 100000 in
theorem fl_ok : FL = Try.prog.funcs.toList := by kernel_rfl
set_option maxRecDepth 100000 in
theorem fl_all : FL.all (fun fn => fn.name != "runtime.NumGoroutine" && (match fn.body with | some c => Vm.codeOk c | none => true)) = true := by kernel_rfl
theorem eok : Vm.POk Try.prog E where
  ty t ti h := by
    have h1 : (TL[t]?).join = some ti := h
    have hlt : t < 124 := by
      rcases Nat.lt_or_ge t 124 with h | h
      · exact h
      · rw [List.getElem?_eq_none (by exact h)] at h1; cases h1
    have h2 := congrArg (fun l => (l[t]?).join) tl_ok
    rw [h1, List.getElem?_map, List.getElem?_range hlt] at h2
    simp only [Option.map_some, h1] at h2
    simpa using h2
  fn f fn h := by
    have h1 : FL[f]? = some fn := h
    have h2 := List.all_eq_true.1 fl_all fn (List.mem_of_getElem? h1)
    rw [Bool.and_eq_true] at h2
    refine ⟨?_, by simpa using h2.1, fun c hc => ?_⟩
    · rw [fl_ok] at h1
      rw [← Array.getElem?_toList]
      exact h1
    · have h3 := h2.2
      rw [hc] at h3
      exact h3
  mixed := by kernel_rfl
end Go.Proofs.Ytpfcijgcjghgeaa
