/-
  Lemmas and contracts that hold of the whole program: 3 texts in one.
  No condition.
-/
import Derived.Test.YtnjhblcfjhpoiaaGreatDoorZ1
import Derived.Test.YtnjhblcfjhpoiaaGreatDoorChecked
import Derived.KernelRfl
set_option linter.all false

namespace Go.Qg
open Go.Proofs
theorem mixed : Tryz.prog.follows .mixedOrders = true := by kernel_rfl
@[simp] theorem tsz1 : tsz Tryz.prog 1 = some 1 := by kernel_rfl
@[simp] theorem trow1 : trow Tryz.prog 1 = some false := by kernel_rfl
@[simp] theorem tel1 : tel Tryz.prog 1 = none := by kernel_rfl
@[simp] theorem tarr1 : tarr Tryz.prog 1 = none := by kernel_rfl
@[simp] theorem tifc1 : tifc Tryz.prog 1 = some false := by kernel_rfl
@[simp] theorem pzero1 : pzero Tryz.prog 1 = some (.v (.nilFunc)) := by kernel_rfl
@[simp] theorem tbytes1 : tbytes Tryz.prog 1 = some 8 := by kernel_rfl
@[simp] theorem tzero1 : tzero Tryz.prog 1 = some [.v (.nilFunc)] := by kernel_rfl
@[simp] theorem tsz2 : tsz Tryz.prog 2 = some 1 := by kernel_rfl
@[simp] theorem trow2 : trow Tryz.prog 2 = some false := by kernel_rfl
@[simp] theorem tel2 : tel Tryz.prog 2 = none := by kernel_rfl
@[simp] theorem tarr2 : tarr Tryz.prog 2 = none := by kernel_rfl
@[simp] theorem tifc2 : tifc Tryz.prog 2 = some false := by kernel_rfl
@[simp] theorem pzero2 : pzero Tryz.prog 2 = some (.v (.int .i64 0)) := by kernel_rfl
@[simp] theorem tint2 : tint Tryz.prog 2 = some .i64 := by kernel_rfl
@[simp] theorem tbytes2 : tbytes Tryz.prog 2 = some 8 := by kernel_rfl
@[simp] theorem tzero2 : tzero Tryz.prog 2 = some [.v (.int .i64 0)] := by kernel_rfl
@[simp] theorem tsz3 : tsz Tryz.prog 3 = some 1 := by kernel_rfl
@[simp] theorem trow3 : trow Tryz.prog 3 = some false := by kernel_rfl
@[simp] theorem tel3 : tel Tryz.prog 3 = none := by kernel_rfl
@[simp] theorem tarr3 : tarr Tryz.prog 3 = none := by kernel_rfl
@[simp] theorem tifc3 : tifc Tryz.prog 3 = some false := by kernel_rfl
@[simp] theorem pzero3 : pzero Tryz.prog 3 = some (.v (.int .i64 0)) := by kernel_rfl
@[simp] theorem tint3 : tint Tryz.prog 3 = some .i64 := by kernel_rfl
@[simp] theorem tbytes3 : tbytes Tryz.prog 3 = some 8 := by kernel_rfl
@[simp] theorem tzero3 : tzero Tryz.prog 3 = some [.v (.int .i64 0)] := by kernel_rfl
@[simp] theorem tsz4 : tsz Tryz.prog 4 = some 1 := by kernel_rfl
@[simp] theorem trow4 : trow Tryz.prog 4 = some false := by kernel_rfl
@[simp] theorem tel4 : tel Tryz.prog 4 = none := by kernel_rfl
@[simp] theorem tarr4 : tarr Tryz.prog 4 = none := by kernel_rfl
@[simp] theorem tifc4 : tifc Tryz.prog 4 = some false := by kernel_rfl
@[simp] theorem pzero4 : pzero Tryz.prog 4 = some (.v (.bool false)) := by kernel_rfl
@[simp] theorem tbool4 : tbool Tryz.prog 4 = true := by kernel_rfl
@[simp] theorem tbytes4 : tbytes Tryz.prog 4 = some 1 := by kernel_rfl
@[simp] theorem tzero4 : tzero Tryz.prog 4 = some [.v (.bool false)] := by kernel_rfl
@[simp] theorem tsz5 : tsz Tryz.prog 5 = some 1 := by kernel_rfl
@[simp] theorem trow5 : trow Tryz.prog 5 = some false := by kernel_rfl
@[simp] theorem tel5 : tel Tryz.prog 5 = none := by kernel_rfl
@[simp] theorem tarr5 : tarr Tryz.prog 5 = none := by kernel_rfl
@[simp] theorem tifc5 : tifc Tryz.prog 5 = some false := by kernel_rfl
@[simp] theorem pzero5 : pzero Tryz.prog 5 = some (.v (.int .u8 0)) := by kernel_rfl
@[simp] theorem tint5 : tint Tryz.prog 5 = some .u8 := by kernel_rfl
@[simp] theorem tbytes5 : tbytes Tryz.prog 5 = some 1 := by kernel_rfl
@[simp] theorem tzero5 : tzero Tryz.prog 5 = some [.v (.int .u8 0)] := by kernel_rfl
@[simp] theorem tsz6 : tsz Tryz.prog 6 = some 1 := by kernel_rfl
@[simp] theorem trow6 : trow Tryz.prog 6 = some false := by kernel_rfl
@[simp] theorem tel6 : tel Tryz.prog 6 = none := by kernel_rfl
@[simp] theorem tarr6 : tarr Tryz.prog 6 = none := by kernel_rfl
@[simp] theorem tifc6 : tifc Tryz.prog 6 = some false := by kernel_rfl
@[simp] theorem pzero6 : pzero Tryz.prog 6 = some (.v (.int .u8 0)) := by kernel_rfl
@[simp] theorem tint6 : tint Tryz.prog 6 = some .u8 := by kernel_rfl
@[simp] theorem tbytes6 : tbytes Tryz.prog 6 = some 1 := by kernel_rfl
@[simp] theorem tzero6 : tzero Tryz.prog 6 = some [.v (.int .u8 0)] := by kernel_rfl
@[simp] theorem tsz7 : tsz Tryz.prog 7 = some 4 := by kernel_rfl
@[simp] theorem trow7 : trow Tryz.prog 7 = some true := by kernel_rfl
@[simp] theorem tel7 : tel Tryz.prog 7 = none := by kernel_rfl
@[simp] theorem tarr7 : tarr Tryz.prog 7 = none := by kernel_rfl
@[simp] theorem tifc7 : tifc Tryz.prog 7 = some false := by kernel_rfl
@[simp] theorem pzero7 : pzero Tryz.prog 7 = some (.agg [.v (.int .i64 0), .v (.int .i64 0), .v (.bool false), .v (.int .u8 0)]) := by kernel_rfl
@[simp] theorem tfld7x0 : tfld Tryz.prog 7 0 = some (0, 2) := by kernel_rfl
@[simp] theorem tfld7x1 : tfld Tryz.prog 7 1 = some (1, 3) := by kernel_rfl
@[simp] theorem tfld7x2 : tfld Tryz.prog 7 2 = some (2, 4) := by kernel_rfl
@[simp] theorem tfld7x3 : tfld Tryz.prog 7 3 = some (3, 6) := by kernel_rfl
@[simp] theorem tpl7 : tpl Tryz.prog 7 = some [(0, 1), (1, 1), (2, 1), (3, 1)] := by kernel_rfl
@[simp] theorem teqf7 : teqf Tryz.prog 7 = some [(0, 0), (1, 0), (2, 1), (3, 0)] := by kernel_rfl
@[simp] theorem tbytes7 : tbytes Tryz.prog 7 = some 24 := by kernel_rfl
@[simp] theorem tzero7 : tzero Tryz.prog 7 = some [.v (.int .i64 0), .v (.int .i64 0), .v (.bool false), .v (.int .u8 0)] := by kernel_rfl
@[simp] theorem tsz8 : tsz Tryz.prog 8 = some 4 := by kernel_rfl
@[simp] theorem trow8 : trow Tryz.prog 8 = some true := by kernel_rfl
@[simp] theorem tel8 : tel Tryz.prog 8 = none := by kernel_rfl
@[simp] theorem tarr8 : tarr Tryz.prog 8 = none := by kernel_rfl
@[simp] theorem tifc8 : tifc Tryz.prog 8 = some false := by kernel_rfl
@[simp] theorem pzero8 : pzero Tryz.prog 8 = some (.agg [.v (.int .i64 0), .v (.int .i64 0), .v (.bool false), .v (.int .u8 0)]) := by kernel_rfl
@[simp] theorem tfld8x0 : tfld Tryz.prog 8 0 = some (0, 2) := by kernel_rfl
@[simp] theorem tfld8x1 : tfld Tryz.prog 8 1 = some (1, 3) := by kernel_rfl
@[simp] theorem tfld8x2 : tfld Tryz.prog 8 2 = some (2, 4) := by kernel_rfl
@[simp] theorem tfld8x3 : tfld Tryz.prog 8 3 = some (3, 6) := by kernel_rfl
@[simp] theorem tpl8 : tpl Tryz.prog 8 = some [(0, 1), (1, 1), (2, 1), (3, 1)] := by kernel_rfl
@[simp] theorem teqf8 : teqf Tryz.prog 8 = some [(0, 0), (1, 0), (2, 1), (3, 0)] := by kernel_rfl
@[simp] theorem tbytes8 : tbytes Tryz.prog 8 = some 24 := by kernel_rfl
@[simp] theorem tzero8 : tzero Tryz.prog 8 = some [.v (.int .i64 0), .v (.int .i64 0), .v (.bool false), .v (.int .u8 0)] := by kernel_rfl
@[simp] theorem tsz9 : tsz Tryz.prog 9 = some 1 := by kernel_rfl
@[simp] theorem trow9 : trow Tryz.prog 9 = some false := by kernel_rfl
@[simp] theorem tel9 : tel Tryz.prog 9 = none := by kernel_rfl
@[simp] theorem tarr9 : tarr Tryz.prog 9 = none := by kernel_rfl
@[simp] theorem tifc9 : tifc Tryz.prog 9 = some false := by kernel_rfl
@[simp] theorem pzero9 : pzero Tryz.prog 9 = some (.v (.string ByteArray.empty)) := by kernel_rfl
@[simp] theorem tstr9 : tstr Tryz.prog 9 = true := by kernel_rfl
@[simp] theorem tbytes9 : tbytes Tryz.prog 9 = some 16 := by kernel_rfl
@[simp] theorem tzero9 : tzero Tryz.prog 9 = some [.v (.string ByteArray.empty)] := by kernel_rfl
@[simp] theorem tsz10 : tsz Tryz.prog 10 = some 1 := by kernel_rfl
@[simp] theorem trow10 : trow Tryz.prog 10 = some false := by kernel_rfl
@[simp] theorem tel10 : tel Tryz.prog 10 = none := by kernel_rfl
@[simp] theorem tarr10 : tarr Tryz.prog 10 = none := by kernel_rfl
@[simp] theorem tifc10 : tifc Tryz.prog 10 = some false := by kernel_rfl
@[simp] theorem pzero10 : pzero Tryz.prog 10 = some (.v (.string ByteArray.empty)) := by kernel_rfl
@[simp] theorem tstr10 : tstr Tryz.prog 10 = true := by kernel_rfl
@[simp] theorem tbytes10 : tbytes Tryz.prog 10 = some 16 := by kernel_rfl
@[simp] theorem tzero10 : tzero Tryz.prog 10 = some [.v (.string ByteArray.empty)] := by kernel_rfl
@[simp] theorem tsz11 : tsz Tryz.prog 11 = some 1 := by kernel_rfl
@[simp] theorem trow11 : trow Tryz.prog 11 = some false := by kernel_rfl
@[simp] theorem tel11 : tel Tryz.prog 11 = none := by kernel_rfl
@[simp] theorem tarr11 : tarr Tryz.prog 11 = none := by kernel_rfl
@[simp] theorem tifc11 : tifc Tryz.prog 11 = some false := by kernel_rfl
@[simp] theorem pzero11 : pzero Tryz.prog 11 = some (.v (.string ByteArray.empty)) := by kernel_rfl
@[simp] theorem tstr11 : tstr Tryz.prog 11 = true := by kernel_rfl
@[simp] theorem tbytes11 : tbytes Tryz.prog 11 = some 16 := by kernel_rfl
@[simp] theorem tzero11 : tzero Tryz.prog 11 = some [.v (.string ByteArray.empty)] := by kernel_rfl
@[simp] theorem tsz12 : tsz Tryz.prog 12 = some 1 := by kernel_rfl
@[simp] theorem trow12 : trow Tryz.prog 12 = some false := by kernel_rfl
@[simp] theorem tel12 : tel Tryz.prog 12 = none := by kernel_rfl
@[simp] theorem tarr12 : tarr Tryz.prog 12 = none := by kernel_rfl
@[simp] theorem tifc12 : tifc Tryz.prog 12 = some false := by kernel_rfl
@[simp] theorem pzero12 : pzero Tryz.prog 12 = some (.v (.int .u64 0)) := by kernel_rfl
@[simp] theorem tint12 : tint Tryz.prog 12 = some .u64 := by kernel_rfl
@[simp] theorem tbytes12 : tbytes Tryz.prog 12 = some 8 := by kernel_rfl
@[simp] theorem tzero12 : tzero Tryz.prog 12 = some [.v (.int .u64 0)] := by kernel_rfl
@[simp] theorem tsz13 : tsz Tryz.prog 13 = some 2 := by kernel_rfl
@[simp] theorem trow13 : trow Tryz.prog 13 = some true := by kernel_rfl
@[simp] theorem tel13 : tel Tryz.prog 13 = none := by kernel_rfl
@[simp] theorem tarr13 : tarr Tryz.prog 13 = none := by kernel_rfl
@[simp] theorem tifc13 : tifc Tryz.prog 13 = some false := by kernel_rfl
@[simp] theorem pzero13 : pzero Tryz.prog 13 = some (.agg [.v (.string ByteArray.empty), .v (.int .u64 0)]) := by kernel_rfl
@[simp] theorem tfld13x0 : tfld Tryz.prog 13 0 = some (0, 9) := by kernel_rfl
@[simp] theorem tfld13x1 : tfld Tryz.prog 13 1 = some (1, 12) := by kernel_rfl
@[simp] theorem tpl13 : tpl Tryz.prog 13 = some [(0, 1), (1, 1)] := by kernel_rfl
@[simp] theorem tbytes13 : tbytes Tryz.prog 13 = some 24 := by kernel_rfl
@[simp] theorem tzero13 : tzero Tryz.prog 13 = some [.v (.string ByteArray.empty), .v (.int .u64 0)] := by kernel_rfl
@[simp] theorem tsz14 : tsz Tryz.prog 14 = some 2 := by kernel_rfl
@[simp] theorem trow14 : trow Tryz.prog 14 = some true := by kernel_rfl
@[simp] theorem tel14 : tel Tryz.prog 14 = none := by kernel_rfl
@[simp] theorem tarr14 : tarr Tryz.prog 14 = none := by kernel_rfl
@[simp] theorem tifc14 : tifc Tryz.prog 14 = some false := by kernel_rfl
@[simp] theorem pzero14 : pzero Tryz.prog 14 = some (.agg [.v (.string ByteArray.empty), .v (.int .u64 0)]) := by kernel_rfl
@[simp] theorem tfld14x0 : tfld Tryz.prog 14 0 = some (0, 9) := by kernel_rfl
@[simp] theorem tfld14x1 : tfld Tryz.prog 14 1 = some (1, 12) := by kernel_rfl
@[simp] theorem tpl14 : tpl Tryz.prog 14 = some [(0, 1), (1, 1)] := by kernel_rfl
@[simp] theorem tbytes14 : tbytes Tryz.prog 14 = some 24 := by kernel_rfl
@[simp] theorem tzero14 : tzero Tryz.prog 14 = some [.v (.string ByteArray.empty), .v (.int .u64 0)] := by kernel_rfl
@[simp] theorem tsz15 : tsz Tryz.prog 15 = some 1 := by kernel_rfl
@[simp] theorem trow15 : trow Tryz.prog 15 = some false := by kernel_rfl
@[simp] theorem tel15 : tel Tryz.prog 15 = none := by kernel_rfl
@[simp] theorem tarr15 : tarr Tryz.prog 15 = none := by kernel_rfl
@[simp] theorem tifc15 : tifc Tryz.prog 15 = some false := by kernel_rfl
@[simp] theorem pzero15 : pzero Tryz.prog 15 = some (.v (.pointer none)) := by kernel_rfl
@[simp] theorem tbytes15 : tbytes Tryz.prog 15 = some 8 := by kernel_rfl
@[simp] theorem tzero15 : tzero Tryz.prog 15 = some [.v (.pointer none)] := by kernel_rfl
@[simp] theorem tsz16 : tsz Tryz.prog 16 = some 1 := by kernel_rfl
@[simp] theorem trow16 : trow Tryz.prog 16 = some false := by kernel_rfl
@[simp] theorem tel16 : tel Tryz.prog 16 = none := by kernel_rfl
@[simp] theorem tarr16 : tarr Tryz.prog 16 = none := by kernel_rfl
@[simp] theorem tifc16 : tifc Tryz.prog 16 = some false := by kernel_rfl
@[simp] theorem pzero16 : pzero Tryz.prog 16 = some (.v (.pointer none)) := by kernel_rfl
@[simp] theorem tbytes16 : tbytes Tryz.prog 16 = some 8 := by kernel_rfl
@[simp] theorem tzero16 : tzero Tryz.prog 16 = some [.v (.pointer none)] := by kernel_rfl
@[simp] theorem tsz17 : tsz Tryz.prog 17 = some 1 := by kernel_rfl
@[simp] theorem trow17 : trow Tryz.prog 17 = some false := by kernel_rfl
@[simp] theorem tel17 : tel Tryz.prog 17 = none := by kernel_rfl
@[simp] theorem tarr17 : tarr Tryz.prog 17 = none := by kernel_rfl
@[simp] theorem tifc17 : tifc Tryz.prog 17 = some false := by kernel_rfl
@[simp] theorem pzero17 : pzero Tryz.prog 17 = some (.v (.pointer none)) := by kernel_rfl
@[simp] theorem tbytes17 : tbytes Tryz.prog 17 = some 8 := by kernel_rfl
@[simp] theorem tzero17 : tzero Tryz.prog 17 = some [.v (.pointer none)] := by kernel_rfl
@[simp] theorem tsz18 : tsz Tryz.prog 18 = some 1 := by kernel_rfl
@[simp] theorem trow18 : trow Tryz.prog 18 = some true := by kernel_rfl
@[simp] theorem tel18 : tel Tryz.prog 18 = none := by kernel_rfl
@[simp] theorem tarr18 : tarr Tryz.prog 18 = none := by kernel_rfl
@[simp] theorem tifc18 : tifc Tryz.prog 18 = some false := by kernel_rfl
@[simp] theorem pzero18 : pzero Tryz.prog 18 = some (.agg [.v (.pointer none)]) := by kernel_rfl
@[simp] theorem tfld18x0 : tfld Tryz.prog 18 0 = some (0, 17) := by kernel_rfl
@[simp] theorem tpl18 : tpl Tryz.prog 18 = some [(0, 1)] := by kernel_rfl
@[simp] theorem tbytes18 : tbytes Tryz.prog 18 = some 8 := by kernel_rfl
@[simp] theorem tzero18 : tzero Tryz.prog 18 = some [.v (.pointer none)] := by kernel_rfl
@[simp] theorem tsz19 : tsz Tryz.prog 19 = some 1 := by kernel_rfl
@[simp] theorem trow19 : trow Tryz.prog 19 = some true := by kernel_rfl
@[simp] theorem tel19 : tel Tryz.prog 19 = none := by kernel_rfl
@[simp] theorem tarr19 : tarr Tryz.prog 19 = none := by kernel_rfl
@[simp] theorem tifc19 : tifc Tryz.prog 19 = some false := by kernel_rfl
@[simp] theorem pzero19 : pzero Tryz.prog 19 = some (.agg [.v (.pointer none)]) := by kernel_rfl
@[simp] theorem tfld19x0 : tfld Tryz.prog 19 0 = some (0, 17) := by kernel_rfl
@[simp] theorem tpl19 : tpl Tryz.prog 19 = some [(0, 1)] := by kernel_rfl
@[simp] theorem tbytes19 : tbytes Tryz.prog 19 = some 8 := by kernel_rfl
@[simp] theorem tzero19 : tzero Tryz.prog 19 = some [.v (.pointer none)] := by kernel_rfl
@[simp] theorem tsz20 : tsz Tryz.prog 20 = some 1 := by kernel_rfl
@[simp] theorem trow20 : trow Tryz.prog 20 = some false := by kernel_rfl
@[simp] theorem tel20 : tel Tryz.prog 20 = none := by kernel_rfl
@[simp] theorem tarr20 : tarr Tryz.prog 20 = none := by kernel_rfl
@[simp] theorem tifc20 : tifc Tryz.prog 20 = some true := by kernel_rfl
@[simp] theorem pzero20 : pzero Tryz.prog 20 = some (.v (.nilIface)) := by kernel_rfl
@[simp] theorem tbytes20 : tbytes Tryz.prog 20 = some 16 := by kernel_rfl
@[simp] theorem tzero20 : tzero Tryz.prog 20 = some [.v (.nilIface)] := by kernel_rfl
@[simp] theorem tsz21 : tsz Tryz.prog 21 = some 1 := by kernel_rfl
@[simp] theorem trow21 : trow Tryz.prog 21 = some false := by kernel_rfl
@[simp] theorem tel21 : tel Tryz.prog 21 = none := by kernel_rfl
@[simp] theorem tarr21 : tarr Tryz.prog 21 = none := by kernel_rfl
@[simp] theorem tifc21 : tifc Tryz.prog 21 = some false := by kernel_rfl
@[simp] theorem pzero21 : pzero Tryz.prog 21 = some (.v (.int .i32 0)) := by kernel_rfl
@[simp] theorem tint21 : tint Tryz.prog 21 = some .i32 := by kernel_rfl
@[simp] theorem tbytes21 : tbytes Tryz.prog 21 = some 4 := by kernel_rfl
@[simp] theorem tzero21 : tzero Tryz.prog 21 = some [.v (.int .i32 0)] := by kernel_rfl
@[simp] theorem tsz22 : tsz Tryz.prog 22 = some 1 := by kernel_rfl
@[simp] theorem trow22 : trow Tryz.prog 22 = some false := by kernel_rfl
@[simp] theorem tel22 : tel Tryz.prog 22 = some 116 := by kernel_rfl
@[simp] theorem tarr22 : tarr Tryz.prog 22 = none := by kernel_rfl
@[simp] theorem tifc22 : tifc Tryz.prog 22 = some false := by kernel_rfl
@[simp] theorem pzero22 : pzero Tryz.prog 22 = some (.nil) := by kernel_rfl
@[simp] theorem tbytes22 : tbytes Tryz.prog 22 = some 24 := by kernel_rfl
@[simp] theorem tzero22 : tzero Tryz.prog 22 = some [.nil] := by kernel_rfl
@[simp] theorem tsz23 : tsz Tryz.prog 23 = some 1 := by kernel_rfl
@[simp] theorem trow23 : trow Tryz.prog 23 = some false := by kernel_rfl
@[simp] theorem tel23 : tel Tryz.prog 23 = some 25 := by kernel_rfl
@[simp] theorem tarr23 : tarr Tryz.prog 23 = none := by kernel_rfl
@[simp] theorem tifc23 : tifc Tryz.prog 23 = some false := by kernel_rfl
@[simp] theorem pzero23 : pzero Tryz.prog 23 = some (.nil) := by kernel_rfl
@[simp] theorem tbytes23 : tbytes Tryz.prog 23 = some 24 := by kernel_rfl
@[simp] theorem tzero23 : tzero Tryz.prog 23 = some [.nil] := by kernel_rfl
@[simp] theorem tsz24 : tsz Tryz.prog 24 = some 2 := by kernel_rfl
@[simp] theorem trow24 : trow Tryz.prog 24 = some true := by kernel_rfl
@[simp] theorem tel24 : tel Tryz.prog 24 = none := by kernel_rfl
@[simp] theorem tarr24 : tarr Tryz.prog 24 = none := by kernel_rfl
@[simp] theorem tifc24 : tifc Tryz.prog 24 = some false := by kernel_rfl
@[simp] theorem pzero24 : pzero Tryz.prog 24 = some (.agg [.v (.int .i64 0), .v (.int .i64 0)]) := by kernel_rfl
@[simp] theorem tfld24x0 : tfld Tryz.prog 24 0 = some (0, 3) := by kernel_rfl
@[simp] theorem tfld24x1 : tfld Tryz.prog 24 1 = some (1, 3) := by kernel_rfl
@[simp] theorem tpl24 : tpl Tryz.prog 24 = some [(0, 1), (1, 1)] := by kernel_rfl
@[simp] theorem teqf24 : teqf Tryz.prog 24 = some [(0, 0), (1, 0)] := by kernel_rfl
@[simp] theorem tbytes24 : tbytes Tryz.prog 24 = some 16 := by kernel_rfl
@[simp] theorem tzero24 : tzero Tryz.prog 24 = some [.v (.int .i64 0), .v (.int .i64 0)] := by kernel_rfl
@[simp] theorem tsz25 : tsz Tryz.prog 25 = some 2 := by kernel_rfl
@[simp] theorem trow25 : trow Tryz.prog 25 = some true := by kernel_rfl
@[simp] theorem tel25 : tel Tryz.prog 25 = none := by kernel_rfl
@[simp] theorem tarr25 : tarr Tryz.prog 25 = none := by kernel_rfl
@[simp] theorem tifc25 : tifc Tryz.prog 25 = some false := by kernel_rfl
@[simp] theorem pzero25 : pzero Tryz.prog 25 = some (.agg [.v (.int .i64 0), .v (.int .i64 0)]) := by kernel_rfl
@[simp] theorem tfld25x0 : tfld Tryz.prog 25 0 = some (0, 3) := by kernel_rfl
@[simp] theorem tfld25x1 : tfld Tryz.prog 25 1 = some (1, 3) := by kernel_rfl
@[simp] theorem tpl25 : tpl Tryz.prog 25 = some [(0, 1), (1, 1)] := by kernel_rfl
@[simp] theorem teqf25 : teqf Tryz.prog 25 = some [(0, 0), (1, 0)] := by kernel_rfl
@[simp] theorem tbytes25 : tbytes Tryz.prog 25 = some 16 := by kernel_rfl
@[simp] theorem tzero25 : tzero Tryz.prog 25 = some [.v (.int .i64 0), .v (.int .i64 0)] := by kernel_rfl
@[simp] theorem tsz26 : tsz Tryz.prog 26 = some 10 := by kernel_rfl
@[simp] theorem trow26 : trow Tryz.prog 26 = some true := by kernel_rfl
@[simp] theorem tel26 : tel Tryz.prog 26 = none := by kernel_rfl
@[simp] theorem tarr26 : tarr Tryz.prog 26 = none := by kernel_rfl
@[simp] theorem tifc26 : tifc Tryz.prog 26 = some false := by kernel_rfl
@[simp] theorem pzero26 : pzero Tryz.prog 26 = some (.agg [.v (.int .i64 0), .v (.int .i64 0), .v (.int .i64 0), .v (.int .i64 0), .nil, .nil, .v (.int .i64 0), .v (.int .i64 0), .v (.int .i64 0), .nil]) := by kernel_rfl
@[simp] theorem tfld26x0 : tfld Tryz.prog 26 0 = some (0, 3) := by kernel_rfl
@[simp] theorem tfld26x1 : tfld Tryz.prog 26 1 = some (1, 3) := by kernel_rfl
@[simp] theorem tfld26x2 : tfld Tryz.prog 26 2 = some (2, 3) := by kernel_rfl
@[simp] theorem tfld26x3 : tfld Tryz.prog 26 3 = some (3, 3) := by kernel_rfl
@[simp] theorem tfld26x4 : tfld Tryz.prog 26 4 = some (4, 22) := by kernel_rfl
@[simp] theorem tfld26x5 : tfld Tryz.prog 26 5 = some (5, 23) := by kernel_rfl
@[simp] theorem tfld26x6 : tfld Tryz.prog 26 6 = some (6, 25) := by kernel_rfl
@[simp] theorem tfld26x7 : tfld Tryz.prog 26 7 = some (8, 3) := by kernel_rfl
@[simp] theorem tfld26x8 : tfld Tryz.prog 26 8 = some (9, 23) := by kernel_rfl
@[simp] theorem tpl26 : tpl Tryz.prog 26 = some [(0, 1), (1, 1), (2, 1), (3, 1), (4, 1), (5, 1), (6, 2), (8, 1), (9, 1)] := by kernel_rfl
@[simp] theorem tbytes26 : tbytes Tryz.prog 26 = some 128 := by kernel_rfl
@[simp] theorem tzero26 : tzero Tryz.prog 26 = some [.v (.int .i64 0), .v (.int .i64 0), .v (.int .i64 0), .v (.int .i64 0), .nil, .nil, .v (.int .i64 0), .v (.int .i64 0), .v (.int .i64 0), .nil] := by kernel_rfl
@[simp] theorem tsz27 : tsz Tryz.prog 27 = some 10 := by kernel_rfl
@[simp] theorem trow27 : trow Tryz.prog 27 = some true := by kernel_rfl
@[simp] theorem tel27 : tel Tryz.prog 27 = none := by kernel_rfl
@[simp] theorem tarr27 : tarr Tryz.prog 27 = none := by kernel_rfl
@[simp] theorem tifc27 : tifc Tryz.prog 27 = some false := by kernel_rfl
@[simp] theorem pzero27 : pzero Tryz.prog 27 = some (.agg [.v (.int .i64 0), .v (.int .i64 0), .v (.int .i64 0), .v (.int .i64 0), .nil, .nil, .v (.int .i64 0), .v (.int .i64 0), .v (.int .i64 0), .nil]) := by kernel_rfl
@[simp] theorem tfld27x0 : tfld Tryz.prog 27 0 = some (0, 3) := by kernel_rfl
@[simp] theorem tfld27x1 : tfld Tryz.prog 27 1 = some (1, 3) := by kernel_rfl
@[simp] theorem tfld27x2 : tfld Tryz.prog 27 2 = some (2, 3) := by kernel_rfl
@[simp] theorem tfld27x3 : tfld Tryz.prog 27 3 = some (3, 3) := by kernel_rfl
@[simp] theorem tfld27x4 : tfld Tryz.prog 27 4 = some (4, 22) := by kernel_rfl
@[simp] theorem tfld27x5 : tfld Tryz.prog 27 5 = some (5, 23) := by kernel_rfl
@[simp] theorem tfld27x6 : tfld Tryz.prog 27 6 = some (6, 25) := by kernel_rfl
@[simp] theorem tfld27x7 : tfld Tryz.prog 27 7 = some (8, 3) := by kernel_rfl
@[simp] theorem tfld27x8 : tfld Tryz.prog 27 8 = some (9, 23) := by kernel_rfl
@[simp] theorem tpl27 : tpl Tryz.prog 27 = some [(0, 1), (1, 1), (2, 1), (3, 1), (4, 1), (5, 1), (6, 2), (8, 1), (9, 1)] := by kernel_rfl
@[simp] theorem tbytes27 : tbytes Tryz.prog 27 = some 128 := by kernel_rfl
@[simp] theorem tzero27 : tzero Tryz.prog 27 = some [.v (.int .i64 0), .v (.int .i64 0), .v (.int .i64 0), .v (.int .i64 0), .nil, .nil, .v (.int .i64 0), .v (.int .i64 0), .v (.int .i64 0), .nil] := by kernel_rfl
@[simp] theorem tsz28 : tsz Tryz.prog 28 = some 1 := by kernel_rfl
@[simp] theorem trow28 : trow Tryz.prog 28 = some false := by kernel_rfl
@[simp] theorem tel28 : tel Tryz.prog 28 = some 112 := by kernel_rfl
@[simp] theorem tarr28 : tarr Tryz.prog 28 = none := by kernel_rfl
@[simp] theorem tifc28 : tifc Tryz.prog 28 = some false := by kernel_rfl
@[simp] theorem pzero28 : pzero Tryz.prog 28 = some (.nil) := by kernel_rfl
@[simp] theorem tbytes28 : tbytes Tryz.prog 28 = some 24 := by kernel_rfl
@[simp] theorem tzero28 : tzero Tryz.prog 28 = some [.nil] := by kernel_rfl
@[simp] theorem tsz29 : tsz Tryz.prog 29 = some 1 := by kernel_rfl
@[simp] theorem trow29 : trow Tryz.prog 29 = some false := by kernel_rfl
@[simp] theorem tel29 : tel Tryz.prog 29 = none := by kernel_rfl
@[simp] theorem tarr29 : tarr Tryz.prog 29 = none := by kernel_rfl
@[simp] theorem tifc29 : tifc Tryz.prog 29 = some false := by kernel_rfl
@[simp] theorem pzero29 : pzero Tryz.prog 29 = some (.v (.nilFunc)) := by kernel_rfl
@[simp] theorem tbytes29 : tbytes Tryz.prog 29 = some 8 := by kernel_rfl
@[simp] theorem tzero29 : tzero Tryz.prog 29 = some [.v (.nilFunc)] := by kernel_rfl
@[simp] theorem tsz30 : tsz Tryz.prog 30 = some 1 := by kernel_rfl
@[simp] theorem trow30 : trow Tryz.prog 30 = some false := by kernel_rfl
@[simp] theorem tel30 : tel Tryz.prog 30 = none := by kernel_rfl
@[simp] theorem tarr30 : tarr Tryz.prog 30 = none := by kernel_rfl
@[simp] theorem tifc30 : tifc Tryz.prog 30 = some false := by kernel_rfl
@[simp] theorem pzero30 : pzero Tryz.prog 30 = some (.v (.nilFunc)) := by kernel_rfl
@[simp] theorem tbytes30 : tbytes Tryz.prog 30 = some 8 := by kernel_rfl
@[simp] theorem tzero30 : tzero Tryz.prog 30 = some [.v (.nilFunc)] := by kernel_rfl
@[simp] theorem tsz31 : tsz Tryz.prog 31 = some 1 := by kernel_rfl
@[simp] theorem trow31 : trow Tryz.prog 31 = some false := by kernel_rfl
@[simp] theorem tel31 : tel Tryz.prog 31 = none := by kernel_rfl
@[simp] theorem tarr31 : tarr Tryz.prog 31 = none := by kernel_rfl
@[simp] theorem tifc31 : tifc Tryz.prog 31 = some false := by kernel_rfl
@[simp] theorem pzero31 : pzero Tryz.prog 31 = some (.v (.nilFunc)) := by kernel_rfl
@[simp] theorem tbytes31 : tbytes Tryz.prog 31 = some 8 := by kernel_rfl
@[simp] theorem tzero31 : tzero Tryz.prog 31 = some [.v (.nilFunc)] := by kernel_rfl
@[simp] theorem tsz32 : tsz Tryz.prog 32 = some 1 := by kernel_rfl
@[simp] theorem trow32 : trow Tryz.prog 32 = some false := by kernel_rfl
@[simp] theorem tel32 : tel Tryz.prog 32 = none := by kernel_rfl
@[simp] theorem tarr32 : tarr Tryz.prog 32 = none := by kernel_rfl
@[simp] theorem tifc32 : tifc Tryz.prog 32 = some false := by kernel_rfl
@[simp] theorem pzero32 : pzero Tryz.prog 32 = some (.v (.int .i64 0)) := by kernel_rfl
@[simp] theorem tint32 : tint Tryz.prog 32 = some .i64 := by kernel_rfl
@[simp] theorem tbytes32 : tbytes Tryz.prog 32 = some 8 := by kernel_rfl
@[simp] theorem tzero32 : tzero Tryz.prog 32 = some [.v (.int .i64 0)] := by kernel_rfl
@[simp] theorem tsz34 : tsz Tryz.prog 34 = some 1 := by kernel_rfl
@[simp] theorem trow34 : trow Tryz.prog 34 = some false := by kernel_rfl
@[simp] theorem tel34 : tel Tryz.prog 34 = none := by kernel_rfl
@[simp] theorem tarr34 : tarr Tryz.prog 34 = none := by kernel_rfl
@[simp] theorem tifc34 : tifc Tryz.prog 34 = some false := by kernel_rfl
@[simp] theorem pzero34 : pzero Tryz.prog 34 = some (.v (.nilFunc)) := by kernel_rfl
@[simp] theorem tbytes34 : tbytes Tryz.prog 34 = some 8 := by kernel_rfl
@[simp] theorem tzero34 : tzero Tryz.prog 34 = some [.v (.nilFunc)] := by kernel_rfl
@[simp] theorem tsz35 : tsz Tryz.prog 35 = some 1 := by kernel_rfl
@[simp] theorem trow35 : trow Tryz.prog 35 = some false := by kernel_rfl
@[simp] theorem tel35 : tel Tryz.prog 35 = none := by kernel_rfl
@[simp] theorem tarr35 : tarr Tryz.prog 35 = none := by kernel_rfl
@[simp] theorem tifc35 : tifc Tryz.prog 35 = some false := by kernel_rfl
@[simp] theorem pzero35 : pzero Tryz.prog 35 = some (.v (.nilFunc)) := by kernel_rfl
@[simp] theorem tbytes35 : tbytes Tryz.prog 35 = some 8 := by kernel_rfl
@[simp] theorem tzero35 : tzero Tryz.prog 35 = some [.v (.nilFunc)] := by kernel_rfl
@[simp] theorem tsz36 : tsz Tryz.prog 36 = some 2 := by kernel_rfl
@[simp] theorem trow36 : trow Tryz.prog 36 = some true := by kernel_rfl
@[simp] theorem tel36 : tel Tryz.prog 36 = none := by kernel_rfl
@[simp] theorem tarr36 : tarr Tryz.prog 36 = none := by kernel_rfl
@[simp] theorem tifc36 : tifc Tryz.prog 36 = some false := by kernel_rfl
@[simp] theorem pzero36 : pzero Tryz.prog 36 = some (.agg [.v (.int .i64 0), .v (.int .i64 0)]) := by kernel_rfl
@[simp] theorem tfld36x0 : tfld Tryz.prog 36 0 = some (0, 3) := by kernel_rfl
@[simp] theorem tfld36x1 : tfld Tryz.prog 36 1 = some (1, 3) := by kernel_rfl
@[simp] theorem tpl36 : tpl Tryz.prog 36 = some [(0, 1), (1, 1)] := by kernel_rfl
@[simp] theorem teqf36 : teqf Tryz.prog 36 = some [(0, 0), (1, 0)] := by kernel_rfl
@[simp] theorem tbytes36 : tbytes Tryz.prog 36 = some 16 := by kernel_rfl
@[simp] theorem tzero36 : tzero Tryz.prog 36 = some [.v (.int .i64 0), .v (.int .i64 0)] := by kernel_rfl
@[simp] theorem tsz37 : tsz Tryz.prog 37 = some 2 := by kernel_rfl
@[simp] theorem trow37 : trow Tryz.prog 37 = some true := by kernel_rfl
@[simp] theorem tel37 : tel Tryz.prog 37 = none := by kernel_rfl
@[simp] theorem tarr37 : tarr Tryz.prog 37 = none := by kernel_rfl
@[simp] theorem tifc37 : tifc Tryz.prog 37 = some false := by kernel_rfl
@[simp] theorem pzero37 : pzero Tryz.prog 37 = some (.agg [.v (.int .i64 0), .v (.int .i64 0)]) := by kernel_rfl
@[simp] theorem tfld37x0 : tfld Tryz.prog 37 0 = some (0, 3) := by kernel_rfl
@[simp] theorem tfld37x1 : tfld Tryz.prog 37 1 = some (1, 3) := by kernel_rfl
@[simp] theorem tpl37 : tpl Tryz.prog 37 = some [(0, 1), (1, 1)] := by kernel_rfl
@[simp] theorem teqf37 : teqf Tryz.prog 37 = some [(0, 0), (1, 0)] := by kernel_rfl
@[simp] theorem tbytes37 : tbytes Tryz.prog 37 = some 16 := by kernel_rfl
@[simp] theorem tzero37 : tzero Tryz.prog 37 = some [.v (.int .i64 0), .v (.int .i64 0)] := by kernel_rfl
@[simp] theorem tsz38 : tsz Tryz.prog 38 = some 1 := by kernel_rfl
@[simp] theorem trow38 : trow Tryz.prog 38 = some false := by kernel_rfl
@[simp] theorem tel38 : tel Tryz.prog 38 = none := by kernel_rfl
@[simp] theorem tarr38 : tarr Tryz.prog 38 = none := by kernel_rfl
@[simp] theorem tifc38 : tifc Tryz.prog 38 = some false := by kernel_rfl
@[simp] theorem pzero38 : pzero Tryz.prog 38 = some (.v (.nilFunc)) := by kernel_rfl
@[simp] theorem tbytes38 : tbytes Tryz.prog 38 = some 8 := by kernel_rfl
@[simp] theorem tzero38 : tzero Tryz.prog 38 = some [.v (.nilFunc)] := by kernel_rfl
@[simp] theorem tsz39 : tsz Tryz.prog 39 = some 1 := by kernel_rfl
@[simp] theorem trow39 : trow Tryz.prog 39 = some false := by kernel_rfl
@[simp] theorem tel39 : tel Tryz.prog 39 = none := by kernel_rfl
@[simp] theorem tarr39 : tarr Tryz.prog 39 = none := by kernel_rfl
@[simp] theorem tifc39 : tifc Tryz.prog 39 = some false := by kernel_rfl
@[simp] theorem pzero39 : pzero Tryz.prog 39 = some (.v (.nilFunc)) := by kernel_rfl
@[simp] theorem tbytes39 : tbytes Tryz.prog 39 = some 8 := by kernel_rfl
@[simp] theorem tzero39 : tzero Tryz.prog 39 = some [.v (.nilFunc)] := by kernel_rfl
@[simp] theorem tsz40 : tsz Tryz.prog 40 = some 1 := by kernel_rfl
@[simp] theorem trow40 : trow Tryz.prog 40 = some false := by kernel_rfl
@[simp] theorem tel40 : tel Tryz.prog 40 = some 123 := by kernel_rfl
@[simp] theorem tarr40 : tarr Tryz.prog 40 = none := by kernel_rfl
@[simp] theorem tifc40 : tifc Tryz.prog 40 = some false := by kernel_rfl
@[simp] theorem pzero40 : pzero Tryz.prog 40 = some (.nil) := by kernel_rfl
@[simp] theorem tbytes40 : tbytes Tryz.prog 40 = some 24 := by kernel_rfl
@[simp] theorem tzero40 : tzero Tryz.prog 40 = some [.nil] := by kernel_rfl
@[simp] theorem tsz41 : tsz Tryz.prog 41 = some 1 := by kernel_rfl
@[simp] theorem trow41 : trow Tryz.prog 41 = some false := by kernel_rfl
@[simp] theorem tel41 : tel Tryz.prog 41 = some 3 := by kernel_rfl
@[simp] theorem tarr41 : tarr Tryz.prog 41 = none := by kernel_rfl
@[simp] theorem tifc41 : tifc Tryz.prog 41 = some false := by kernel_rfl
@[simp] theorem pzero41 : pzero Tryz.prog 41 = some (.nil) := by kernel_rfl
@[simp] theorem tbytes41 : tbytes Tryz.prog 41 = some 24 := by kernel_rfl
@[simp] theorem tzero41 : tzero Tryz.prog 41 = some [.nil] := by kernel_rfl
@[simp] theorem tsz43 : tsz Tryz.prog 43 = some 1 := by kernel_rfl
@[simp] theorem trow43 : trow Tryz.prog 43 = some false := by kernel_rfl
@[simp] theorem tel43 : tel Tryz.prog 43 = none := by kernel_rfl
@[simp] theorem tarr43 : tarr Tryz.prog 43 = none := by kernel_rfl
@[simp] theorem tifc43 : tifc Tryz.prog 43 = some false := by kernel_rfl
@[simp] theorem pzero43 : pzero Tryz.prog 43 = some (.v (.nilFunc)) := by kernel_rfl
@[simp] theorem tbytes43 : tbytes Tryz.prog 43 = some 8 := by kernel_rfl
@[simp] theorem tzero43 : tzero Tryz.prog 43 = some [.v (.nilFunc)] := by kernel_rfl
@[simp] theorem tsz44 : tsz Tryz.prog 44 = some 1 := by kernel_rfl
@[simp] theorem trow44 : trow Tryz.prog 44 = some false := by kernel_rfl
@[simp] theorem tel44 : tel Tryz.prog 44 = none := by kernel_rfl
@[simp] theorem tarr44 : tarr Tryz.prog 44 = none := by kernel_rfl
@[simp] theorem tifc44 : tifc Tryz.prog 44 = some false := by kernel_rfl
@[simp] theorem pzero44 : pzero Tryz.prog 44 = some (.v (.nilFunc)) := by kernel_rfl
@[simp] theorem tbytes44 : tbytes Tryz.prog 44 = some 8 := by kernel_rfl
@[simp] theorem tzero44 : tzero Tryz.prog 44 = some [.v (.nilFunc)] := by kernel_rfl
@[simp] theorem tsz46 : tsz Tryz.prog 46 = some 1 := by kernel_rfl
@[simp] theorem trow46 : trow Tryz.prog 46 = some false := by kernel_rfl
@[simp] theorem tel46 : tel Tryz.prog 46 = none := by kernel_rfl
@[simp] theorem tarr46 : tarr Tryz.prog 46 = none := by kernel_rfl
@[simp] theorem tifc46 : tifc Tryz.prog 46 = some false := by kernel_rfl
@[simp] theorem pzero46 : pzero Tryz.prog 46 = some (.v (.nilFunc)) := by kernel_rfl
@[simp] theorem tbytes46 : tbytes Tryz.prog 46 = some 8 := by kernel_rfl
@[simp] theorem tzero46 : tzero Tryz.prog 46 = some [.v (.nilFunc)] := by kernel_rfl
@[simp] theorem tsz47 : tsz Tryz.prog 47 = some 1 := by kernel_rfl
@[simp] theorem trow47 : trow Tryz.prog 47 = some false := by kernel_rfl
@[simp] theorem tel47 : tel Tryz.prog 47 = none := by kernel_rfl
@[simp] theorem tarr47 : tarr Tryz.prog 47 = none := by kernel_rfl
@[simp] theorem tifc47 : tifc Tryz.prog 47 = some false := by kernel_rfl
@[simp] theorem pzero47 : pzero Tryz.prog 47 = some (.v (.nilFunc)) := by kernel_rfl
@[simp] theorem tbytes47 : tbytes Tryz.prog 47 = some 8 := by kernel_rfl
@[simp] theorem tzero47 : tzero Tryz.prog 47 = some [.v (.nilFunc)] := by kernel_rfl
@[simp] theorem tsz48 : tsz Tryz.prog 48 = some 1 := by kernel_rfl
@[simp] theorem trow48 : trow Tryz.prog 48 = some false := by kernel_rfl
@[simp] theorem tel48 : tel Tryz.prog 48 = none := by kernel_rfl
@[simp] theorem tarr48 : tarr Tryz.prog 48 = none := by kernel_rfl
@[simp] theorem tifc48 : tifc Tryz.prog 48 = some false := by kernel_rfl
@[simp] theorem pzero48 : pzero Tryz.prog 48 = some (.v (.nilFunc)) := by kernel_rfl
@[simp] theorem tbytes48 : tbytes Tryz.prog 48 = some 8 := by kernel_rfl
@[simp] theorem tzero48 : tzero Tryz.prog 48 = some [.v (.nilFunc)] := by kernel_rfl
@[simp] theorem tsz49 : tsz Tryz.prog 49 = some 1 := by kernel_rfl
@[simp] theorem trow49 : trow Tryz.prog 49 = some false := by kernel_rfl
@[simp] theorem tel49 : tel Tryz.prog 49 = none := by kernel_rfl
@[simp] theorem tarr49 : tarr Tryz.prog 49 = none := by kernel_rfl
@[simp] theorem tifc49 : tifc Tryz.prog 49 = some false := by kernel_rfl
@[simp] theorem pzero49 : pzero Tryz.prog 49 = some (.v (.nilFunc)) := by kernel_rfl
@[simp] theorem tbytes49 : tbytes Tryz.prog 49 = some 8 := by kernel_rfl
@[simp] theorem tzero49 : tzero Tryz.prog 49 = some [.v (.nilFunc)] := by kernel_rfl
@[simp] theorem tsz50 : tsz Tryz.prog 50 = some 1 := by kernel_rfl
@[simp] theorem trow50 : trow Tryz.prog 50 = some false := by kernel_rfl
@[simp] theorem tel50 : tel Tryz.prog 50 = none := by kernel_rfl
@[simp] theorem tarr50 : tarr Tryz.prog 50 = none := by kernel_rfl
@[simp] theorem tifc50 : tifc Tryz.prog 50 = some false := by kernel_rfl
@[simp] theorem pzero50 : pzero Tryz.prog 50 = some (.v (.nilFunc)) := by kernel_rfl
@[simp] theorem tbytes50 : tbytes Tryz.prog 50 = some 8 := by kernel_rfl
@[simp] theorem tzero50 : tzero Tryz.prog 50 = some [.v (.nilFunc)] := by kernel_rfl
@[simp] theorem tsz51 : tsz Tryz.prog 51 = some 1 := by kernel_rfl
@[simp] theorem trow51 : trow Tryz.prog 51 = some false := by kernel_rfl
@[simp] theorem tel51 : tel Tryz.prog 51 = none := by kernel_rfl
@[simp] theorem tarr51 : tarr Tryz.prog 51 = none := by kernel_rfl
@[simp] theorem tifc51 : tifc Tryz.prog 51 = some false := by kernel_rfl
@[simp] theorem pzero51 : pzero Tryz.prog 51 = some (.v (.nilFunc)) := by kernel_rfl
@[simp] theorem tbytes51 : tbytes Tryz.prog 51 = some 8 := by kernel_rfl
@[simp] theorem tzero51 : tzero Tryz.prog 51 = some [.v (.nilFunc)] := by kernel_rfl
@[simp] theorem tsz52 : tsz Tryz.prog 52 = some 1 := by kernel_rfl
@[simp] theorem trow52 : trow Tryz.prog 52 = some false := by kernel_rfl
@[simp] theorem tel52 : tel Tryz.prog 52 = some 66 := by kernel_rfl
@[simp] theorem tarr52 : tarr Tryz.prog 52 = none := by kernel_rfl
@[simp] theorem tifc52 : tifc Tryz.prog 52 = some false := by kernel_rfl
@[simp] theorem pzero52 : pzero Tryz.prog 52 = some (.nil) := by kernel_rfl
@[simp] theorem tbytes52 : tbytes Tryz.prog 52 = some 24 := by kernel_rfl
@[simp] theorem tzero52 : tzero Tryz.prog 52 = some [.nil] := by kernel_rfl
@[simp] theorem tsz54 : tsz Tryz.prog 54 = some 1 := by kernel_rfl
@[simp] theorem trow54 : trow Tryz.prog 54 = some false := by kernel_rfl
@[simp] theorem tel54 : tel Tryz.prog 54 = none := by kernel_rfl
@[simp] theorem tarr54 : tarr Tryz.prog 54 = none := by kernel_rfl
@[simp] theorem tifc54 : tifc Tryz.prog 54 = some false := by kernel_rfl
@[simp] theorem pzero54 : pzero Tryz.prog 54 = some (.v (.nilFunc)) := by kernel_rfl
@[simp] theorem tbytes54 : tbytes Tryz.prog 54 = some 8 := by kernel_rfl
@[simp] theorem tzero54 : tzero Tryz.prog 54 = some [.v (.nilFunc)] := by kernel_rfl
@[simp] theorem tsz55 : tsz Tryz.prog 55 = some 1 := by kernel_rfl
@[simp] theorem trow55 : trow Tryz.prog 55 = some false := by kernel_rfl
@[simp] theorem tel55 : tel Tryz.prog 55 = none := by kernel_rfl
@[simp] theorem tarr55 : tarr Tryz.prog 55 = none := by kernel_rfl
@[simp] theorem tifc55 : tifc Tryz.prog 55 = some false := by kernel_rfl
@[simp] theorem pzero55 : pzero Tryz.prog 55 = some (.v (.int .i64 0)) := by kernel_rfl
@[simp] theorem tint55 : tint Tryz.prog 55 = some .i64 := by kernel_rfl
@[simp] theorem tbytes55 : tbytes Tryz.prog 55 = some 8 := by kernel_rfl
@[simp] theorem tzero55 : tzero Tryz.prog 55 = some [.v (.int .i64 0)] := by kernel_rfl
@[simp] theorem tsz57 : tsz Tryz.prog 57 = some 1 := by kernel_rfl
@[simp] theorem trow57 : trow Tryz.prog 57 = some false := by kernel_rfl
@[simp] theorem tel57 : tel Tryz.prog 57 = none := by kernel_rfl
@[simp] theorem tarr57 : tarr Tryz.prog 57 = none := by kernel_rfl
@[simp] theorem tifc57 : tifc Tryz.prog 57 = some false := by kernel_rfl
@[simp] theorem pzero57 : pzero Tryz.prog 57 = some (.v (.nilFunc)) := by kernel_rfl
@[simp] theorem tbytes57 : tbytes Tryz.prog 57 = some 8 := by kernel_rfl
@[simp] theorem tzero57 : tzero Tryz.prog 57 = some [.v (.nilFunc)] := by kernel_rfl
@[simp] theorem tsz59 : tsz Tryz.prog 59 = some 1 := by kernel_rfl
@[simp] theorem trow59 : trow Tryz.prog 59 = some false := by kernel_rfl
@[simp] theorem tel59 : tel Tryz.prog 59 = none := by kernel_rfl
@[simp] theorem tarr59 : tarr Tryz.prog 59 = none := by kernel_rfl
@[simp] theorem tifc59 : tifc Tryz.prog 59 = some false := by kernel_rfl
@[simp] theorem pzero59 : pzero Tryz.prog 59 = some (.v (.nilFunc)) := by kernel_rfl
@[simp] theorem tbytes59 : tbytes Tryz.prog 59 = some 8 := by kernel_rfl
@[simp] theorem tzero59 : tzero Tryz.prog 59 = some [.v (.nilFunc)] := by kernel_rfl
@[simp] theorem tsz60 : tsz Tryz.prog 60 = some 1 := by kernel_rfl
@[simp] theorem trow60 : trow Tryz.prog 60 = some false := by kernel_rfl
@[simp] theorem tel60 : tel Tryz.prog 60 = none := by kernel_rfl
@[simp] theorem tarr60 : tarr Tryz.prog 60 = none := by kernel_rfl
@[simp] theorem tifc60 : tifc Tryz.prog 60 = some false := by kernel_rfl
@[simp] theorem pzero60 : pzero Tryz.prog 60 = some (.v (.nilFunc)) := by kernel_rfl
@[simp] theorem tbytes60 : tbytes Tryz.prog 60 = some 8 := by kernel_rfl
@[simp] theorem tzero60 : tzero Tryz.prog 60 = some [.v (.nilFunc)] := by kernel_rfl
@[simp] theorem tsz61 : tsz Tryz.prog 61 = some 1 := by kernel_rfl
@[simp] theorem trow61 : trow Tryz.prog 61 = some false := by kernel_rfl
@[simp] theorem tel61 : tel Tryz.prog 61 = none := by kernel_rfl
@[simp] theorem tarr61 : tarr Tryz.prog 61 = none := by kernel_rfl
@[simp] theorem tifc61 : tifc Tryz.prog 61 = some false := by kernel_rfl
@[simp] theorem pzero61 : pzero Tryz.prog 61 = some (.v (.nilFunc)) := by kernel_rfl
@[simp] theorem tbytes61 : tbytes Tryz.prog 61 = some 8 := by kernel_rfl
@[simp] theorem tzero61 : tzero Tryz.prog 61 = some [.v (.nilFunc)] := by kernel_rfl
@[simp] theorem tsz62 : tsz Tryz.prog 62 = some 1 := by kernel_rfl
@[simp] theorem trow62 : trow Tryz.prog 62 = some false := by kernel_rfl
@[simp] theorem tel62 : tel Tryz.prog 62 = none := by kernel_rfl
@[simp] theorem tarr62 : tarr Tryz.prog 62 = none := by kernel_rfl
@[simp] theorem tifc62 : tifc Tryz.prog 62 = some false := by kernel_rfl
@[simp] theorem pzero62 : pzero Tryz.prog 62 = some (.v (.nilFunc)) := by kernel_rfl
@[simp] theorem tbytes62 : tbytes Tryz.prog 62 = some 8 := by kernel_rfl
@[simp] theorem tzero62 : tzero Tryz.prog 62 = some [.v (.nilFunc)] := by kernel_rfl
@[simp] theorem tsz63 : tsz Tryz.prog 63 = some 1 := by kernel_rfl
@[simp] theorem trow63 : trow Tryz.prog 63 = some false := by kernel_rfl
@[simp] theorem tel63 : tel Tryz.prog 63 = some 120 := by kernel_rfl
@[simp] theorem tarr63 : tarr Tryz.prog 63 = none := by kernel_rfl
@[simp] theorem tifc63 : tifc Tryz.prog 63 = some false := by kernel_rfl
@[simp] theorem pzero63 : pzero Tryz.prog 63 = some (.nil) := by kernel_rfl
@[simp] theorem tbytes63 : tbytes Tryz.prog 63 = some 24 := by kernel_rfl
@[simp] theorem tzero63 : tzero Tryz.prog 63 = some [.nil] := by kernel_rfl
@[simp] theorem tsz64 : tsz Tryz.prog 64 = some 1 := by kernel_rfl
@[simp] theorem trow64 : trow Tryz.prog 64 = some false := by kernel_rfl
@[simp] theorem tel64 : tel Tryz.prog 64 = some 37 := by kernel_rfl
@[simp] theorem tarr64 : tarr Tryz.prog 64 = none := by kernel_rfl
@[simp] theorem tifc64 : tifc Tryz.prog 64 = some false := by kernel_rfl
@[simp] theorem pzero64 : pzero Tryz.prog 64 = some (.nil) := by kernel_rfl
@[simp] theorem tbytes64 : tbytes Tryz.prog 64 = some 24 := by kernel_rfl
@[simp] theorem tzero64 : tzero Tryz.prog 64 = some [.nil] := by kernel_rfl
@[simp] theorem tsz65 : tsz Tryz.prog 65 = some 5 := by kernel_rfl
@[simp] theorem trow65 : trow Tryz.prog 65 = some true := by kernel_rfl
@[simp] theorem tel65 : tel Tryz.prog 65 = none := by kernel_rfl
@[simp] theorem tarr65 : tarr Tryz.prog 65 = none := by kernel_rfl
@[simp] theorem tifc65 : tifc Tryz.prog 65 = some false := by kernel_rfl
@[simp] theorem pzero65 : pzero Tryz.prog 65 = some (.agg [.nil, .v (.int .i64 0), .v (.int .i64 0), .nil, .v (.bool false)]) := by kernel_rfl
@[simp] theorem tfld65x0 : tfld Tryz.prog 65 0 = some (0, 63) := by kernel_rfl
@[simp] theorem tfld65x1 : tfld Tryz.prog 65 1 = some (1, 37) := by kernel_rfl
@[simp] theorem tfld65x2 : tfld Tryz.prog 65 2 = some (3, 64) := by kernel_rfl
@[simp] theorem tfld65x3 : tfld Tryz.prog 65 3 = some (4, 4) := by kernel_rfl
@[simp] theorem tpl65 : tpl Tryz.prog 65 = some [(0, 1), (1, 2), (3, 1), (4, 1)] := by kernel_rfl
@[simp] theorem tbytes65 : tbytes Tryz.prog 65 = some 72 := by kernel_rfl
@[simp] theorem tzero65 : tzero Tryz.prog 65 = some [.nil, .v (.int .i64 0), .v (.int .i64 0), .nil, .v (.bool false)] := by kernel_rfl
@[simp] theorem tsz66 : tsz Tryz.prog 66 = some 5 := by kernel_rfl
@[simp] theorem trow66 : trow Tryz.prog 66 = some true := by kernel_rfl
@[simp] theorem tel66 : tel Tryz.prog 66 = none := by kernel_rfl
@[simp] theorem tarr66 : tarr Tryz.prog 66 = none := by kernel_rfl
@[simp] theorem tifc66 : tifc Tryz.prog 66 = some false := by kernel_rfl
@[simp] theorem pzero66 : pzero Tryz.prog 66 = some (.agg [.nil, .v (.int .i64 0), .v (.int .i64 0), .nil, .v (.bool false)]) := by kernel_rfl
@[simp] theorem tfld66x0 : tfld Tryz.prog 66 0 = some (0, 63) := by kernel_rfl
@[simp] theorem tfld66x1 : tfld Tryz.prog 66 1 = some (1, 37) := by kernel_rfl
@[simp] theorem tfld66x2 : tfld Tryz.prog 66 2 = some (3, 64) := by kernel_rfl
@[simp] theorem tfld66x3 : tfld Tryz.prog 66 3 = some (4, 4) := by kernel_rfl
@[simp] theorem tpl66 : tpl Tryz.prog 66 = some [(0, 1), (1, 2), (3, 1), (4, 1)] := by kernel_rfl
@[simp] theorem tbytes66 : tbytes Tryz.prog 66 = some 72 := by kernel_rfl
@[simp] theorem tzero66 : tzero Tryz.prog 66 = some [.nil, .v (.int .i64 0), .v (.int .i64 0), .nil, .v (.bool false)] := by kernel_rfl
@[simp] theorem tsz67 : tsz Tryz.prog 67 = some 1 := by kernel_rfl
@[simp] theorem trow67 : trow Tryz.prog 67 = some false := by kernel_rfl
@[simp] theorem tel67 : tel Tryz.prog 67 = none := by kernel_rfl
@[simp] theorem tarr67 : tarr Tryz.prog 67 = none := by kernel_rfl
@[simp] theorem tifc67 : tifc Tryz.prog 67 = some false := by kernel_rfl
@[simp] theorem pzero67 : pzero Tryz.prog 67 = some (.v (.nilFunc)) := by kernel_rfl
@[simp] theorem tbytes67 : tbytes Tryz.prog 67 = some 8 := by kernel_rfl
@[simp] theorem tzero67 : tzero Tryz.prog 67 = some [.v (.nilFunc)] := by kernel_rfl
@[simp] theorem tsz68 : tsz Tryz.prog 68 = some 4 := by kernel_rfl
@[simp] theorem trow68 : trow Tryz.prog 68 = some true := by kernel_rfl
@[simp] theorem tel68 : tel Tryz.prog 68 = none := by kernel_rfl
@[simp] theorem tarr68 : tarr Tryz.prog 68 = none := by kernel_rfl
@[simp] theorem tifc68 : tifc Tryz.prog 68 = some false := by kernel_rfl
@[simp] theorem pzero68 : pzero Tryz.prog 68 = some (.agg [.v (.int .i64 0), .v (.int .i64 0), .v (.int .i64 0), .v (.int .i64 0)]) := by kernel_rfl
@[simp] theorem tfld68x0 : tfld Tryz.prog 68 0 = some (0, 37) := by kernel_rfl
@[simp] theorem tfld68x1 : tfld Tryz.prog 68 1 = some (2, 37) := by kernel_rfl
@[simp] theorem tpl68 : tpl Tryz.prog 68 = some [(0, 2), (2, 2)] := by kernel_rfl
@[simp] theorem tbytes68 : tbytes Tryz.prog 68 = some 32 := by kernel_rfl
@[simp] theorem tzero68 : tzero Tryz.prog 68 = some [.v (.int .i64 0), .v (.int .i64 0), .v (.int .i64 0), .v (.int .i64 0)] := by kernel_rfl
@[simp] theorem tsz69 : tsz Tryz.prog 69 = some 4 := by kernel_rfl
@[simp] theorem trow69 : trow Tryz.prog 69 = some true := by kernel_rfl
@[simp] theorem tel69 : tel Tryz.prog 69 = none := by kernel_rfl
@[simp] theorem tarr69 : tarr Tryz.prog 69 = none := by kernel_rfl
@[simp] theorem tifc69 : tifc Tryz.prog 69 = some false := by kernel_rfl
@[simp] theorem pzero69 : pzero Tryz.prog 69 = some (.agg [.v (.int .i64 0), .v (.int .i64 0), .v (.int .i64 0), .v (.int .i64 0)]) := by kernel_rfl
@[simp] theorem tfld69x0 : tfld Tryz.prog 69 0 = some (0, 37) := by kernel_rfl
@[simp] theorem tfld69x1 : tfld Tryz.prog 69 1 = some (2, 37) := by kernel_rfl
@[simp] theorem tpl69 : tpl Tryz.prog 69 = some [(0, 2), (2, 2)] := by kernel_rfl
@[simp] theorem tbytes69 : tbytes Tryz.prog 69 = some 32 := by kernel_rfl
@[simp] theorem tzero69 : tzero Tryz.prog 69 = some [.v (.int .i64 0), .v (.int .i64 0), .v (.int .i64 0), .v (.int .i64 0)] := by kernel_rfl
@[simp] theorem tsz71 : tsz Tryz.prog 71 = some 1 := by kernel_rfl
@[simp] theorem trow71 : trow Tryz.prog 71 = some false := by kernel_rfl
@[simp] theorem tel71 : tel Tryz.prog 71 = none := by kernel_rfl
@[simp] theorem tarr71 : tarr Tryz.prog 71 = none := by kernel_rfl
@[simp] theorem tifc71 : tifc Tryz.prog 71 = some false := by kernel_rfl
@[simp] theorem pzero71 : pzero Tryz.prog 71 = some (.v (.nilFunc)) := by kernel_rfl
@[simp] theorem tbytes71 : tbytes Tryz.prog 71 = some 8 := by kernel_rfl
@[simp] theorem tzero71 : tzero Tryz.prog 71 = some [.v (.nilFunc)] := by kernel_rfl
@[simp] theorem tsz72 : tsz Tryz.prog 72 = some 3 := by kernel_rfl
@[simp] theorem trow72 : trow Tryz.prog 72 = some true := by kernel_rfl
@[simp] theorem tel72 : tel Tryz.prog 72 = none := by kernel_rfl
@[simp] theorem tarr72 : tarr Tryz.prog 72 = none := by kernel_rfl
@[simp] theorem tifc72 : tifc Tryz.prog 72 = some false := by kernel_rfl
@[simp] theorem pzero72 : pzero Tryz.prog 72 = some (.agg [.nil, .v (.int .i64 0), .nil]) := by kernel_rfl
@[simp] theorem tfld72x0 : tfld Tryz.prog 72 0 = some (0, 41) := by kernel_rfl
@[simp] theorem tfld72x1 : tfld Tryz.prog 72 1 = some (1, 3) := by kernel_rfl
@[simp] theorem tfld72x2 : tfld Tryz.prog 72 2 = some (2, 41) := by kernel_rfl
@[simp] theorem tpl72 : tpl Tryz.prog 72 = some [(0, 1), (1, 1), (2, 1)] := by kernel_rfl
@[simp] theorem tbytes72 : tbytes Tryz.prog 72 = some 56 := by kernel_rfl
@[simp] theorem tzero72 : tzero Tryz.prog 72 = some [.nil, .v (.int .i64 0), .nil] := by kernel_rfl
@[simp] theorem tsz73 : tsz Tryz.prog 73 = some 3 := by kernel_rfl
@[simp] theorem trow73 : trow Tryz.prog 73 = some true := by kernel_rfl
@[simp] theorem tel73 : tel Tryz.prog 73 = none := by kernel_rfl
@[simp] theorem tarr73 : tarr Tryz.prog 73 = none := by kernel_rfl
@[simp] theorem tifc73 : tifc Tryz.prog 73 = some false := by kernel_rfl
@[simp] theorem pzero73 : pzero Tryz.prog 73 = some (.agg [.nil, .v (.int .i64 0), .nil]) := by kernel_rfl
@[simp] theorem tfld73x0 : tfld Tryz.prog 73 0 = some (0, 41) := by kernel_rfl
@[simp] theorem tfld73x1 : tfld Tryz.prog 73 1 = some (1, 3) := by kernel_rfl
@[simp] theorem tfld73x2 : tfld Tryz.prog 73 2 = some (2, 41) := by kernel_rfl
@[simp] theorem tpl73 : tpl Tryz.prog 73 = some [(0, 1), (1, 1), (2, 1)] := by kernel_rfl
@[simp] theorem tbytes73 : tbytes Tryz.prog 73 = some 56 := by kernel_rfl
@[simp] theorem tzero73 : tzero Tryz.prog 73 = some [.nil, .v (.int .i64 0), .nil] := by kernel_rfl
@[simp] theorem tsz75 : tsz Tryz.prog 75 = some 1 := by kernel_rfl
@[simp] theorem trow75 : trow Tryz.prog 75 = some false := by kernel_rfl
@[simp] theorem tel75 : tel Tryz.prog 75 = none := by kernel_rfl
@[simp] theorem tarr75 : tarr Tryz.prog 75 = none := by kernel_rfl
@[simp] theorem tifc75 : tifc Tryz.prog 75 = some false := by kernel_rfl
@[simp] theorem pzero75 : pzero Tryz.prog 75 = some (.v (.nilFunc)) := by kernel_rfl
@[simp] theorem tbytes75 : tbytes Tryz.prog 75 = some 8 := by kernel_rfl
@[simp] theorem tzero75 : tzero Tryz.prog 75 = some [.v (.nilFunc)] := by kernel_rfl
@[simp] theorem tsz76 : tsz Tryz.prog 76 = some 1 := by kernel_rfl
@[simp] theorem trow76 : trow Tryz.prog 76 = some false := by kernel_rfl
@[simp] theorem tel76 : tel Tryz.prog 76 = none := by kernel_rfl
@[simp] theorem tarr76 : tarr Tryz.prog 76 = none := by kernel_rfl
@[simp] theorem tifc76 : tifc Tryz.prog 76 = some false := by kernel_rfl
@[simp] theorem pzero76 : pzero Tryz.prog 76 = some (.v (.nilFunc)) := by kernel_rfl
@[simp] theorem tbytes76 : tbytes Tryz.prog 76 = some 8 := by kernel_rfl
@[simp] theorem tzero76 : tzero Tryz.prog 76 = some [.v (.nilFunc)] := by kernel_rfl
@[simp] theorem tsz77 : tsz Tryz.prog 77 = some 1 := by kernel_rfl
@[simp] theorem trow77 : trow Tryz.prog 77 = some false := by kernel_rfl
@[simp] theorem tel77 : tel Tryz.prog 77 = none := by kernel_rfl
@[simp] theorem tarr77 : tarr Tryz.prog 77 = none := by kernel_rfl
@[simp] theorem tifc77 : tifc Tryz.prog 77 = some false := by kernel_rfl
@[simp] theorem pzero77 : pzero Tryz.prog 77 = some (.v (.nilFunc)) := by kernel_rfl
@[simp] theorem tbytes77 : tbytes Tryz.prog 77 = some 8 := by kernel_rfl
@[simp] theorem tzero77 : tzero Tryz.prog 77 = some [.v (.nilFunc)] := by kernel_rfl
@[simp] theorem tsz79 : tsz Tryz.prog 79 = some 1 := by kernel_rfl
@[simp] theorem trow79 : trow Tryz.prog 79 = some false := by kernel_rfl
@[simp] theorem tel79 : tel Tryz.prog 79 = none := by kernel_rfl
@[simp] theorem tarr79 : tarr Tryz.prog 79 = none := by kernel_rfl
@[simp] theorem tifc79 : tifc Tryz.prog 79 = some false := by kernel_rfl
@[simp] theorem pzero79 : pzero Tryz.prog 79 = some (.v (.nilFunc)) := by kernel_rfl
@[simp] theorem tbytes79 : tbytes Tryz.prog 79 = some 8 := by kernel_rfl
@[simp] theorem tzero79 : tzero Tryz.prog 79 = some [.v (.nilFunc)] := by kernel_rfl
@[simp] theorem tsz80 : tsz Tryz.prog 80 = some 1 := by kernel_rfl
@[simp] theorem trow80 : trow Tryz.prog 80 = some false := by kernel_rfl
@[simp] theorem tel80 : tel Tryz.prog 80 = none := by kernel_rfl
@[simp] theorem tarr80 : tarr Tryz.prog 80 = none := by kernel_rfl
@[simp] theorem tifc80 : tifc Tryz.prog 80 = some false := by kernel_rfl
@[simp] theorem pzero80 : pzero Tryz.prog 80 = some (.v (.nilFunc)) := by kernel_rfl
@[simp] theorem tbytes80 : tbytes Tryz.prog 80 = some 8 := by kernel_rfl
@[simp] theorem tzero80 : tzero Tryz.prog 80 = some [.v (.nilFunc)] := by kernel_rfl
@[simp] theorem tsz82 : tsz Tryz.prog 82 = some 1 := by kernel_rfl
@[simp] theorem trow82 : trow Tryz.prog 82 = some false := by kernel_rfl
@[simp] theorem tel82 : tel Tryz.prog 82 = none := by kernel_rfl
@[simp] theorem tarr82 : tarr Tryz.prog 82 = none := by kernel_rfl
@[simp] theorem tifc82 : tifc Tryz.prog 82 = some false := by kernel_rfl
@[simp] theorem pzero82 : pzero Tryz.prog 82 = some (.v (.nilFunc)) := by kernel_rfl
@[simp] theorem tbytes82 : tbytes Tryz.prog 82 = some 8 := by kernel_rfl
@[simp] theorem tzero82 : tzero Tryz.prog 82 = some [.v (.nilFunc)] := by kernel_rfl
@[simp] theorem tsz84 : tsz Tryz.prog 84 = some 1 := by kernel_rfl
@[simp] theorem trow84 : trow Tryz.prog 84 = some false := by kernel_rfl
@[simp] theorem tel84 : tel Tryz.prog 84 = none := by kernel_rfl
@[simp] theorem tarr84 : tarr Tryz.prog 84 = none := by kernel_rfl
@[simp] theorem tifc84 : tifc Tryz.prog 84 = some false := by kernel_rfl
@[simp] theorem pzero84 : pzero Tryz.prog 84 = some (.v (.nilFunc)) := by kernel_rfl
@[simp] theorem tbytes84 : tbytes Tryz.prog 84 = some 8 := by kernel_rfl
@[simp] theorem tzero84 : tzero Tryz.prog 84 = some [.v (.nilFunc)] := by kernel_rfl
@[simp] theorem tsz85 : tsz Tryz.prog 85 = some 1 := by kernel_rfl
@[simp] theorem trow85 : trow Tryz.prog 85 = some false := by kernel_rfl
@[simp] theorem tel85 : tel Tryz.prog 85 = none := by kernel_rfl
@[simp] theorem tarr85 : tarr Tryz.prog 85 = none := by kernel_rfl
@[simp] theorem tifc85 : tifc Tryz.prog 85 = some false := by kernel_rfl
@[simp] theorem pzero85 : pzero Tryz.prog 85 = some (.v (.nilFunc)) := by kernel_rfl
@[simp] theorem tbytes85 : tbytes Tryz.prog 85 = some 8 := by kernel_rfl
@[simp] theorem tzero85 : tzero Tryz.prog 85 = some [.v (.nilFunc)] := by kernel_rfl
@[simp] theorem tsz86 : tsz Tryz.prog 86 = some 1 := by kernel_rfl
@[simp] theorem trow86 : trow Tryz.prog 86 = some false := by kernel_rfl
@[simp] theorem tel86 : tel Tryz.prog 86 = none := by kernel_rfl
@[simp] theorem tarr86 : tarr Tryz.prog 86 = none := by kernel_rfl
@[simp] theorem tifc86 : tifc Tryz.prog 86 = some false := by kernel_rfl
@[simp] theorem pzero86 : pzero Tryz.prog 86 = some (.v (.nilFunc)) := by kernel_rfl
@[simp] theorem tbytes86 : tbytes Tryz.prog 86 = some 8 := by kernel_rfl
@[simp] theorem tzero86 : tzero Tryz.prog 86 = some [.v (.nilFunc)] := by kernel_rfl
@[simp] theorem tsz87 : tsz Tryz.prog 87 = some 1 := by kernel_rfl
@[simp] theorem trow87 : trow Tryz.prog 87 = some false := by kernel_rfl
@[simp] theorem tel87 : tel Tryz.prog 87 = none := by kernel_rfl
@[simp] theorem tarr87 : tarr Tryz.prog 87 = none := by kernel_rfl
@[simp] theorem tifc87 : tifc Tryz.prog 87 = some false := by kernel_rfl
@[simp] theorem pzero87 : pzero Tryz.prog 87 = some (.v (.nilFunc)) := by kernel_rfl
@[simp] theorem tbytes87 : tbytes Tryz.prog 87 = some 8 := by kernel_rfl
@[simp] theorem tzero87 : tzero Tryz.prog 87 = some [.v (.nilFunc)] := by kernel_rfl
@[simp] theorem tsz88 : tsz Tryz.prog 88 = some 1 := by kernel_rfl
@[simp] theorem trow88 : trow Tryz.prog 88 = some false := by kernel_rfl
@[simp] theorem tel88 : tel Tryz.prog 88 = none := by kernel_rfl
@[simp] theorem tarr88 : tarr Tryz.prog 88 = none := by kernel_rfl
@[simp] theorem tifc88 : tifc Tryz.prog 88 = some false := by kernel_rfl
@[simp] theorem pzero88 : pzero Tryz.prog 88 = some (.v (.nilFunc)) := by kernel_rfl
@[simp] theorem tbytes88 : tbytes Tryz.prog 88 = some 8 := by kernel_rfl
@[simp] theorem tzero88 : tzero Tryz.prog 88 = some [.v (.nilFunc)] := by kernel_rfl
@[simp] theorem tsz90 : tsz Tryz.prog 90 = some 1 := by kernel_rfl
@[simp] theorem trow90 : trow Tryz.prog 90 = some false := by kernel_rfl
@[simp] theorem tel90 : tel Tryz.prog 90 = none := by kernel_rfl
@[simp] theorem tarr90 : tarr Tryz.prog 90 = none := by kernel_rfl
@[simp] theorem tifc90 : tifc Tryz.prog 90 = some false := by kernel_rfl
@[simp] theorem pzero90 : pzero Tryz.prog 90 = some (.v (.nilFunc)) := by kernel_rfl
@[simp] theorem tbytes90 : tbytes Tryz.prog 90 = some 8 := by kernel_rfl
@[simp] theorem tzero90 : tzero Tryz.prog 90 = some [.v (.nilFunc)] := by kernel_rfl
@[simp] theorem tsz91 : tsz Tryz.prog 91 = some 1 := by kernel_rfl
@[simp] theorem trow91 : trow Tryz.prog 91 = some false := by kernel_rfl
@[simp] theorem tel91 : tel Tryz.prog 91 = none := by kernel_rfl
@[simp] theorem tarr91 : tarr Tryz.prog 91 = none := by kernel_rfl
@[simp] theorem tifc91 : tifc Tryz.prog 91 = some false := by kernel_rfl
@[simp] theorem pzero91 : pzero Tryz.prog 91 = some (.v (.nilFunc)) := by kernel_rfl
@[simp] theorem tbytes91 : tbytes Tryz.prog 91 = some 8 := by kernel_rfl
@[simp] theorem tzero91 : tzero Tryz.prog 91 = some [.v (.nilFunc)] := by kernel_rfl
@[simp] theorem tsz92 : tsz Tryz.prog 92 = some 1 := by kernel_rfl
@[simp] theorem trow92 : trow Tryz.prog 92 = some false := by kernel_rfl
@[simp] theorem tel92 : tel Tryz.prog 92 = none := by kernel_rfl
@[simp] theorem tarr92 : tarr Tryz.prog 92 = none := by kernel_rfl
@[simp] theorem tifc92 : tifc Tryz.prog 92 = some false := by kernel_rfl
@[simp] theorem pzero92 : pzero Tryz.prog 92 = some (.v (.nilFunc)) := by kernel_rfl
@[simp] theorem tbytes92 : tbytes Tryz.prog 92 = some 8 := by kernel_rfl
@[simp] theorem tzero92 : tzero Tryz.prog 92 = some [.v (.nilFunc)] := by kernel_rfl
@[simp] theorem tsz93 : tsz Tryz.prog 93 = some 1 := by kernel_rfl
@[simp] theorem trow93 : trow Tryz.prog 93 = some false := by kernel_rfl
@[simp] theorem tel93 : tel Tryz.prog 93 = none := by kernel_rfl
@[simp] theorem tarr93 : tarr Tryz.prog 93 = none := by kernel_rfl
@[simp] theorem tifc93 : tifc Tryz.prog 93 = some false := by kernel_rfl
@[simp] theorem pzero93 : pzero Tryz.prog 93 = some (.v (.nilFunc)) := by kernel_rfl
@[simp] theorem tbytes93 : tbytes Tryz.prog 93 = some 8 := by kernel_rfl
@[simp] theorem tzero93 : tzero Tryz.prog 93 = some [.v (.nilFunc)] := by kernel_rfl
@[simp] theorem tsz94 : tsz Tryz.prog 94 = some 1 := by kernel_rfl
@[simp] theorem trow94 : trow Tryz.prog 94 = some false := by kernel_rfl
@[simp] theorem tel94 : tel Tryz.prog 94 = none := by kernel_rfl
@[simp] theorem tarr94 : tarr Tryz.prog 94 = none := by kernel_rfl
@[simp] theorem tifc94 : tifc Tryz.prog 94 = some false := by kernel_rfl
@[simp] theorem pzero94 : pzero Tryz.prog 94 = some (.v (.nilFunc)) := by kernel_rfl
@[simp] theorem tbytes94 : tbytes Tryz.prog 94 = some 8 := by kernel_rfl
@[simp] theorem tzero94 : tzero Tryz.prog 94 = some [.v (.nilFunc)] := by kernel_rfl
@[simp] theorem tsz95 : tsz Tryz.prog 95 = some 1 := by kernel_rfl
@[simp] theorem trow95 : trow Tryz.prog 95 = some false := by kernel_rfl
@[simp] theorem tel95 : tel Tryz.prog 95 = none := by kernel_rfl
@[simp] theorem tarr95 : tarr Tryz.prog 95 = none := by kernel_rfl
@[simp] theorem tifc95 : tifc Tryz.prog 95 = some false := by kernel_rfl
@[simp] theorem pzero95 : pzero Tryz.prog 95 = some (.v (.nilFunc)) := by kernel_rfl
@[simp] theorem tbytes95 : tbytes Tryz.prog 95 = some 8 := by kernel_rfl
@[simp] theorem tzero95 : tzero Tryz.prog 95 = some [.v (.nilFunc)] := by kernel_rfl
@[simp] theorem tsz96 : tsz Tryz.prog 96 = some 1 := by kernel_rfl
@[simp] theorem trow96 : trow Tryz.prog 96 = some false := by kernel_rfl
@[simp] theorem tel96 : tel Tryz.prog 96 = none := by kernel_rfl
@[simp] theorem tarr96 : tarr Tryz.prog 96 = none := by kernel_rfl
@[simp] theorem tifc96 : tifc Tryz.prog 96 = some false := by kernel_rfl
@[simp] theorem pzero96 : pzero Tryz.prog 96 = some (.v (.nilFunc)) := by kernel_rfl
@[simp] theorem tbytes96 : tbytes Tryz.prog 96 = some 8 := by kernel_rfl
@[simp] theorem tzero96 : tzero Tryz.prog 96 = some [.v (.nilFunc)] := by kernel_rfl
@[simp] theorem tsz98 : tsz Tryz.prog 98 = some 1 := by kernel_rfl
@[simp] theorem trow98 : trow Tryz.prog 98 = some false := by kernel_rfl
@[simp] theorem tel98 : tel Tryz.prog 98 = none := by kernel_rfl
@[simp] theorem tarr98 : tarr Tryz.prog 98 = none := by kernel_rfl
@[simp] theorem tifc98 : tifc Tryz.prog 98 = some false := by kernel_rfl
@[simp] theorem pzero98 : pzero Tryz.prog 98 = some (.v (.nilFunc)) := by kernel_rfl
@[simp] theorem tbytes98 : tbytes Tryz.prog 98 = some 8 := by kernel_rfl
@[simp] theorem tzero98 : tzero Tryz.prog 98 = some [.v (.nilFunc)] := by kernel_rfl
@[simp] theorem tsz99 : tsz Tryz.prog 99 = some 1 := by kernel_rfl
@[simp] theorem trow99 : trow Tryz.prog 99 = some false := by kernel_rfl
@[simp] theorem tel99 : tel Tryz.prog 99 = none := by kernel_rfl
@[simp] theorem tarr99 : tarr Tryz.prog 99 = none := by kernel_rfl
@[simp] theorem tifc99 : tifc Tryz.prog 99 = some false := by kernel_rfl
@[simp] theorem pzero99 : pzero Tryz.prog 99 = some (.v (.nilFunc)) := by kernel_rfl
@[simp] theorem tbytes99 : tbytes Tryz.prog 99 = some 8 := by kernel_rfl
@[simp] theorem tzero99 : tzero Tryz.prog 99 = some [.v (.nilFunc)] := by kernel_rfl
@[simp] theorem tsz100 : tsz Tryz.prog 100 = some 1 := by kernel_rfl
@[simp] theorem trow100 : trow Tryz.prog 100 = some false := by kernel_rfl
@[simp] theorem tel100 : tel Tryz.prog 100 = none := by kernel_rfl
@[simp] theorem tarr100 : tarr Tryz.prog 100 = none := by kernel_rfl
@[simp] theorem tifc100 : tifc Tryz.prog 100 = some false := by kernel_rfl
@[simp] theorem pzero100 : pzero Tryz.prog 100 = some (.v (.nilFunc)) := by kernel_rfl
@[simp] theorem tbytes100 : tbytes Tryz.prog 100 = some 8 := by kernel_rfl
@[simp] theorem tzero100 : tzero Tryz.prog 100 = some [.v (.nilFunc)] := by kernel_rfl
@[simp] theorem tsz102 : tsz Tryz.prog 102 = some 1 := by kernel_rfl
@[simp] theorem trow102 : trow Tryz.prog 102 = some false := by kernel_rfl
@[simp] theorem tel102 : tel Tryz.prog 102 = none := by kernel_rfl
@[simp] theorem tarr102 : tarr Tryz.prog 102 = none := by kernel_rfl
@[simp] theorem tifc102 : tifc Tryz.prog 102 = some false := by kernel_rfl
@[simp] theorem pzero102 : pzero Tryz.prog 102 = some (.v (.nilFunc)) := by kernel_rfl
@[simp] theorem tbytes102 : tbytes Tryz.prog 102 = some 8 := by kernel_rfl
@[simp] theorem tzero102 : tzero Tryz.prog 102 = some [.v (.nilFunc)] := by kernel_rfl
@[simp] theorem tsz103 : tsz Tryz.prog 103 = some 1 := by kernel_rfl
@[simp] theorem trow103 : trow Tryz.prog 103 = some false := by kernel_rfl
@[simp] theorem tel103 : tel Tryz.prog 103 = none := by kernel_rfl
@[simp] theorem tarr103 : tarr Tryz.prog 103 = none := by kernel_rfl
@[simp] theorem tifc103 : tifc Tryz.prog 103 = some false := by kernel_rfl
@[simp] theorem pzero103 : pzero Tryz.prog 103 = some (.v (.nilFunc)) := by kernel_rfl
@[simp] theorem tbytes103 : tbytes Tryz.prog 103 = some 8 := by kernel_rfl
@[simp] theorem tzero103 : tzero Tryz.prog 103 = some [.v (.nilFunc)] := by kernel_rfl
@[simp] theorem tsz104 : tsz Tryz.prog 104 = some 1 := by kernel_rfl
@[simp] theorem trow104 : trow Tryz.prog 104 = some false := by kernel_rfl
@[simp] theorem tel104 : tel Tryz.prog 104 = none := by kernel_rfl
@[simp] theorem tarr104 : tarr Tryz.prog 104 = none := by kernel_rfl
@[simp] theorem tifc104 : tifc Tryz.prog 104 = some false := by kernel_rfl
@[simp] theorem pzero104 : pzero Tryz.prog 104 = some (.v (.nilFunc)) := by kernel_rfl
@[simp] theorem tbytes104 : tbytes Tryz.prog 104 = some 8 := by kernel_rfl
@[simp] theorem tzero104 : tzero Tryz.prog 104 = some [.v (.nilFunc)] := by kernel_rfl
@[simp] theorem tsz105 : tsz Tryz.prog 105 = some 1 := by kernel_rfl
@[simp] theorem trow105 : trow Tryz.prog 105 = some false := by kernel_rfl
@[simp] theorem tel105 : tel Tryz.prog 105 = none := by kernel_rfl
@[simp] theorem tarr105 : tarr Tryz.prog 105 = none := by kernel_rfl
@[simp] theorem tifc105 : tifc Tryz.prog 105 = some false := by kernel_rfl
@[simp] theorem pzero105 : pzero Tryz.prog 105 = some (.v (.nilFunc)) := by kernel_rfl
@[simp] theorem tbytes105 : tbytes Tryz.prog 105 = some 8 := by kernel_rfl
@[simp] theorem tzero105 : tzero Tryz.prog 105 = some [.v (.nilFunc)] := by kernel_rfl
@[simp] theorem tsz107 : tsz Tryz.prog 107 = some 1 := by kernel_rfl
@[simp] theorem trow107 : trow Tryz.prog 107 = some false := by kernel_rfl
@[simp] theorem tel107 : tel Tryz.prog 107 = none := by kernel_rfl
@[simp] theorem tarr107 : tarr Tryz.prog 107 = none := by kernel_rfl
@[simp] theorem tifc107 : tifc Tryz.prog 107 = some false := by kernel_rfl
@[simp] theorem pzero107 : pzero Tryz.prog 107 = some (.v (.nilFunc)) := by kernel_rfl
@[simp] theorem tbytes107 : tbytes Tryz.prog 107 = some 8 := by kernel_rfl
@[simp] theorem tzero107 : tzero Tryz.prog 107 = some [.v (.nilFunc)] := by kernel_rfl
@[simp] theorem tsz108 : tsz Tryz.prog 108 = some 1 := by kernel_rfl
@[simp] theorem trow108 : trow Tryz.prog 108 = some false := by kernel_rfl
@[simp] theorem tel108 : tel Tryz.prog 108 = none := by kernel_rfl
@[simp] theorem tarr108 : tarr Tryz.prog 108 = none := by kernel_rfl
@[simp] theorem tifc108 : tifc Tryz.prog 108 = some false := by kernel_rfl
@[simp] theorem pzero108 : pzero Tryz.prog 108 = some (.v (.nilFunc)) := by kernel_rfl
@[simp] theorem tbytes108 : tbytes Tryz.prog 108 = some 8 := by kernel_rfl
@[simp] theorem tzero108 : tzero Tryz.prog 108 = some [.v (.nilFunc)] := by kernel_rfl
@[simp] theorem tsz109 : tsz Tryz.prog 109 = some 1 := by kernel_rfl
@[simp] theorem trow109 : trow Tryz.prog 109 = some false := by kernel_rfl
@[simp] theorem tel109 : tel Tryz.prog 109 = some 5 := by kernel_rfl
@[simp] theorem tarr109 : tarr Tryz.prog 109 = none := by kernel_rfl
@[simp] theorem tifc109 : tifc Tryz.prog 109 = some false := by kernel_rfl
@[simp] theorem pzero109 : pzero Tryz.prog 109 = some (.nil) := by kernel_rfl
@[simp] theorem tbytes109 : tbytes Tryz.prog 109 = some 24 := by kernel_rfl
@[simp] theorem tzero109 : tzero Tryz.prog 109 = some [.nil] := by kernel_rfl
@[simp] theorem tsz110 : tsz Tryz.prog 110 = some 1 := by kernel_rfl
@[simp] theorem trow110 : trow Tryz.prog 110 = some false := by kernel_rfl
@[simp] theorem tel110 : tel Tryz.prog 110 = none := by kernel_rfl
@[simp] theorem tarr110 : tarr Tryz.prog 110 = none := by kernel_rfl
@[simp] theorem tifc110 : tifc Tryz.prog 110 = some false := by kernel_rfl
@[simp] theorem pzero110 : pzero Tryz.prog 110 = some (.v (.nilFunc)) := by kernel_rfl
@[simp] theorem tbytes110 : tbytes Tryz.prog 110 = some 8 := by kernel_rfl
@[simp] theorem tzero110 : tzero Tryz.prog 110 = some [.v (.nilFunc)] := by kernel_rfl
@[simp] theorem tsz111 : tsz Tryz.prog 111 = some 7 := by kernel_rfl
@[simp] theorem trow111 : trow Tryz.prog 111 = some true := by kernel_rfl
@[simp] theorem tel111 : tel Tryz.prog 111 = none := by kernel_rfl
@[simp] theorem tarr111 : tarr Tryz.prog 111 = none := by kernel_rfl
@[simp] theorem tifc111 : tifc Tryz.prog 111 = some false := by kernel_rfl
@[simp] theorem pzero111 : pzero Tryz.prog 111 = some (.agg [.nil, .v (.bool false), .v (.int .i64 0), .v (.int .i64 0), .v (.int .i64 0), .v (.int .i64 0), .v (.int .i64 0)]) := by kernel_rfl
@[simp] theorem tfld111x0 : tfld Tryz.prog 111 0 = some (0, 63) := by kernel_rfl
@[simp] theorem tfld111x1 : tfld Tryz.prog 111 1 = some (1, 4) := by kernel_rfl
@[simp] theorem tfld111x2 : tfld Tryz.prog 111 2 = some (2, 3) := by kernel_rfl
@[simp] theorem tfld111x3 : tfld Tryz.prog 111 3 = some (3, 37) := by kernel_rfl
@[simp] theorem tfld111x4 : tfld Tryz.prog 111 4 = some (5, 37) := by kernel_rfl
@[simp] theorem tpl111 : tpl Tryz.prog 111 = some [(0, 1), (1, 1), (2, 1), (3, 2), (5, 2)] := by kernel_rfl
@[simp] theorem tbytes111 : tbytes Tryz.prog 111 = some 72 := by kernel_rfl
@[simp] theorem tzero111 : tzero Tryz.prog 111 = some [.nil, .v (.bool false), .v (.int .i64 0), .v (.int .i64 0), .v (.int .i64 0), .v (.int .i64 0), .v (.int .i64 0)] := by kernel_rfl
@[simp] theorem tsz112 : tsz Tryz.prog 112 = some 7 := by kernel_rfl
@[simp] theorem trow112 : trow Tryz.prog 112 = some true := by kernel_rfl
@[simp] theorem tel112 : tel Tryz.prog 112 = none := by kernel_rfl
@[simp] theorem tarr112 : tarr Tryz.prog 112 = none := by kernel_rfl
@[simp] theorem tifc112 : tifc Tryz.prog 112 = some false := by kernel_rfl
@[simp] theorem pzero112 : pzero Tryz.prog 112 = some (.agg [.nil, .v (.bool false), .v (.int .i64 0), .v (.int .i64 0), .v (.int .i64 0), .v (.int .i64 0), .v (.int .i64 0)]) := by kernel_rfl
@[simp] theorem tfld112x0 : tfld Tryz.prog 112 0 = some (0, 63) := by kernel_rfl
@[simp] theorem tfld112x1 : tfld Tryz.prog 112 1 = some (1, 4) := by kernel_rfl
@[simp] theorem tfld112x2 : tfld Tryz.prog 112 2 = some (2, 3) := by kernel_rfl
@[simp] theorem tfld112x3 : tfld Tryz.prog 112 3 = some (3, 37) := by kernel_rfl
@[simp] theorem tfld112x4 : tfld Tryz.prog 112 4 = some (5, 37) := by kernel_rfl
@[simp] theorem tpl112 : tpl Tryz.prog 112 = some [(0, 1), (1, 1), (2, 1), (3, 2), (5, 2)] := by kernel_rfl
@[simp] theorem tbytes112 : tbytes Tryz.prog 112 = some 72 := by kernel_rfl
@[simp] theorem tzero112 : tzero Tryz.prog 112 = some [.nil, .v (.bool false), .v (.int .i64 0), .v (.int .i64 0), .v (.int .i64 0), .v (.int .i64 0), .v (.int .i64 0)] := by kernel_rfl
@[simp] theorem tsz113 : tsz Tryz.prog 113 = some 1 := by kernel_rfl
@[simp] theorem trow113 : trow Tryz.prog 113 = some false := by kernel_rfl
@[simp] theorem tel113 : tel Tryz.prog 113 = none := by kernel_rfl
@[simp] theorem tarr113 : tarr Tryz.prog 113 = none := by kernel_rfl
@[simp] theorem tifc113 : tifc Tryz.prog 113 = some false := by kernel_rfl
@[simp] theorem pzero113 : pzero Tryz.prog 113 = some (.v (.nilFunc)) := by kernel_rfl
@[simp] theorem tbytes113 : tbytes Tryz.prog 113 = some 8 := by kernel_rfl
@[simp] theorem tzero113 : tzero Tryz.prog 113 = some [.v (.nilFunc)] := by kernel_rfl
@[simp] theorem tsz114 : tsz Tryz.prog 114 = some 1 := by kernel_rfl
@[simp] theorem trow114 : trow Tryz.prog 114 = some false := by kernel_rfl
@[simp] theorem tel114 : tel Tryz.prog 114 = none := by kernel_rfl
@[simp] theorem tarr114 : tarr Tryz.prog 114 = none := by kernel_rfl
@[simp] theorem tifc114 : tifc Tryz.prog 114 = some false := by kernel_rfl
@[simp] theorem pzero114 : pzero Tryz.prog 114 = some (.v (.nilFunc)) := by kernel_rfl
@[simp] theorem tbytes114 : tbytes Tryz.prog 114 = some 8 := by kernel_rfl
@[simp] theorem tzero114 : tzero Tryz.prog 114 = some [.v (.nilFunc)] := by kernel_rfl
@[simp] theorem tsz115 : tsz Tryz.prog 115 = some 2 := by kernel_rfl
@[simp] theorem trow115 : trow Tryz.prog 115 = some true := by kernel_rfl
@[simp] theorem tel115 : tel Tryz.prog 115 = none := by kernel_rfl
@[simp] theorem tarr115 : tarr Tryz.prog 115 = none := by kernel_rfl
@[simp] theorem tifc115 : tifc Tryz.prog 115 = some false := by kernel_rfl
@[simp] theorem pzero115 : pzero Tryz.prog 115 = some (.agg [.v (.int .i64 0), .v (.int .i64 0)]) := by kernel_rfl
@[simp] theorem tfld115x0 : tfld Tryz.prog 115 0 = some (0, 3) := by kernel_rfl
@[simp] theorem tfld115x1 : tfld Tryz.prog 115 1 = some (1, 3) := by kernel_rfl
@[simp] theorem tpl115 : tpl Tryz.prog 115 = some [(0, 1), (1, 1)] := by kernel_rfl
@[simp] theorem teqf115 : teqf Tryz.prog 115 = some [(0, 0), (1, 0)] := by kernel_rfl
@[simp] theorem tbytes115 : tbytes Tryz.prog 115 = some 16 := by kernel_rfl
@[simp] theorem tzero115 : tzero Tryz.prog 115 = some [.v (.int .i64 0), .v (.int .i64 0)] := by kernel_rfl
@[simp] theorem tsz116 : tsz Tryz.prog 116 = some 2 := by kernel_rfl
@[simp] theorem trow116 : trow Tryz.prog 116 = some true := by kernel_rfl
@[simp] theorem tel116 : tel Tryz.prog 116 = none := by kernel_rfl
@[simp] theorem tarr116 : tarr Tryz.prog 116 = none := by kernel_rfl
@[simp] theorem tifc116 : tifc Tryz.prog 116 = some false := by kernel_rfl
@[simp] theorem pzero116 : pzero Tryz.prog 116 = some (.agg [.v (.int .i64 0), .v (.int .i64 0)]) := by kernel_rfl
@[simp] theorem tfld116x0 : tfld Tryz.prog 116 0 = some (0, 3) := by kernel_rfl
@[simp] theorem tfld116x1 : tfld Tryz.prog 116 1 = some (1, 3) := by kernel_rfl
@[simp] theorem tpl116 : tpl Tryz.prog 116 = some [(0, 1), (1, 1)] := by kernel_rfl
@[simp] theorem teqf116 : teqf Tryz.prog 116 = some [(0, 0), (1, 0)] := by kernel_rfl
@[simp] theorem tbytes116 : tbytes Tryz.prog 116 = some 16 := by kernel_rfl
@[simp] theorem tzero116 : tzero Tryz.prog 116 = some [.v (.int .i64 0), .v (.int .i64 0)] := by kernel_rfl
@[simp] theorem tsz117 : tsz Tryz.prog 117 = some 1 := by kernel_rfl
@[simp] theorem trow117 : trow Tryz.prog 117 = some false := by kernel_rfl
@[simp] theorem tel117 : tel Tryz.prog 117 = none := by kernel_rfl
@[simp] theorem tarr117 : tarr Tryz.prog 117 = none := by kernel_rfl
@[simp] theorem tifc117 : tifc Tryz.prog 117 = some false := by kernel_rfl
@[simp] theorem pzero117 : pzero Tryz.prog 117 = some (.v (.nilFunc)) := by kernel_rfl
@[simp] theorem tbytes117 : tbytes Tryz.prog 117 = some 8 := by kernel_rfl
@[simp] theorem tzero117 : tzero Tryz.prog 117 = some [.v (.nilFunc)] := by kernel_rfl
@[simp] theorem tsz118 : tsz Tryz.prog 118 = some 1 := by kernel_rfl
@[simp] theorem trow118 : trow Tryz.prog 118 = some false := by kernel_rfl
@[simp] theorem tel118 : tel Tryz.prog 118 = none := by kernel_rfl
@[simp] theorem tarr118 : tarr Tryz.prog 118 = none := by kernel_rfl
@[simp] theorem tifc118 : tifc Tryz.prog 118 = some false := by kernel_rfl
@[simp] theorem pzero118 : pzero Tryz.prog 118 = some (.v (.nilFunc)) := by kernel_rfl
@[simp] theorem tbytes118 : tbytes Tryz.prog 118 = some 8 := by kernel_rfl
@[simp] theorem tzero118 : tzero Tryz.prog 118 = some [.v (.nilFunc)] := by kernel_rfl
@[simp] theorem tsz119 : tsz Tryz.prog 119 = some 3 := by kernel_rfl
@[simp] theorem trow119 : trow Tryz.prog 119 = some true := by kernel_rfl
@[simp] theorem tel119 : tel Tryz.prog 119 = none := by kernel_rfl
@[simp] theorem tarr119 : tarr Tryz.prog 119 = none := by kernel_rfl
@[simp] theorem tifc119 : tifc Tryz.prog 119 = some false := by kernel_rfl
@[simp] theorem pzero119 : pzero Tryz.prog 119 = some (.agg [.v (.int .i64 0), .v (.int .i64 0), .v (.int .i64 0)]) := by kernel_rfl
@[simp] theorem tfld119x0 : tfld Tryz.prog 119 0 = some (0, 3) := by kernel_rfl
@[simp] theorem tfld119x1 : tfld Tryz.prog 119 1 = some (1, 37) := by kernel_rfl
@[simp] theorem tpl119 : tpl Tryz.prog 119 = some [(0, 1), (1, 2)] := by kernel_rfl
@[simp] theorem tbytes119 : tbytes Tryz.prog 119 = some 24 := by kernel_rfl
@[simp] theorem tzero119 : tzero Tryz.prog 119 = some [.v (.int .i64 0), .v (.int .i64 0), .v (.int .i64 0)] := by kernel_rfl
@[simp] theorem tsz120 : tsz Tryz.prog 120 = some 3 := by kernel_rfl
@[simp] theorem trow120 : trow Tryz.prog 120 = some true := by kernel_rfl
@[simp] theorem tel120 : tel Tryz.prog 120 = none := by kernel_rfl
@[simp] theorem tarr120 : tarr Tryz.prog 120 = none := by kernel_rfl
@[simp] theorem tifc120 : tifc Tryz.prog 120 = some false := by kernel_rfl
@[simp] theorem pzero120 : pzero Tryz.prog 120 = some (.agg [.v (.int .i64 0), .v (.int .i64 0), .v (.int .i64 0)]) := by kernel_rfl
@[simp] theorem tfld120x0 : tfld Tryz.prog 120 0 = some (0, 3) := by kernel_rfl
@[simp] theorem tfld120x1 : tfld Tryz.prog 120 1 = some (1, 37) := by kernel_rfl
@[simp] theorem tpl120 : tpl Tryz.prog 120 = some [(0, 1), (1, 2)] := by kernel_rfl
@[simp] theorem tbytes120 : tbytes Tryz.prog 120 = some 24 := by kernel_rfl
@[simp] theorem tzero120 : tzero Tryz.prog 120 = some [.v (.int .i64 0), .v (.int .i64 0), .v (.int .i64 0)] := by kernel_rfl
@[simp] theorem tsz121 : tsz Tryz.prog 121 = some 1 := by kernel_rfl
@[simp] theorem trow121 : trow Tryz.prog 121 = some false := by kernel_rfl
@[simp] theorem tel121 : tel Tryz.prog 121 = none := by kernel_rfl
@[simp] theorem tarr121 : tarr Tryz.prog 121 = none := by kernel_rfl
@[simp] theorem tifc121 : tifc Tryz.prog 121 = some false := by kernel_rfl
@[simp] theorem pzero121 : pzero Tryz.prog 121 = some (.v (.nilFunc)) := by kernel_rfl
@[simp] theorem tbytes121 : tbytes Tryz.prog 121 = some 8 := by kernel_rfl
@[simp] theorem tzero121 : tzero Tryz.prog 121 = some [.v (.nilFunc)] := by kernel_rfl
@[simp] theorem tsz122 : tsz Tryz.prog 122 = some 6 := by kernel_rfl
@[simp] theorem trow122 : trow Tryz.prog 122 = some true := by kernel_rfl
@[simp] theorem tel122 : tel Tryz.prog 122 = none := by kernel_rfl
@[simp] theorem tarr122 : tarr Tryz.prog 122 = none := by kernel_rfl
@[simp] theorem tifc122 : tifc Tryz.prog 122 = some false := by kernel_rfl
@[simp] theorem pzero122 : pzero Tryz.prog 122 = some (.agg [.v (.int .i64 0), .v (.int .i64 0), .v (.int .i64 0), .v (.int .i64 0), .v (.int .i64 0), .v (.int .i64 0)]) := by kernel_rfl
@[simp] theorem tfld122x0 : tfld Tryz.prog 122 0 = some (0, 37) := by kernel_rfl
@[simp] theorem tfld122x1 : tfld Tryz.prog 122 1 = some (2, 3) := by kernel_rfl
@[simp] theorem tfld122x2 : tfld Tryz.prog 122 2 = some (3, 37) := by kernel_rfl
@[simp] theorem tfld122x3 : tfld Tryz.prog 122 3 = some (5, 3) := by kernel_rfl
@[simp] theorem tpl122 : tpl Tryz.prog 122 = some [(0, 2), (2, 1), (3, 2), (5, 1)] := by kernel_rfl
@[simp] theorem tbytes122 : tbytes Tryz.prog 122 = some 48 := by kernel_rfl
@[simp] theorem tzero122 : tzero Tryz.prog 122 = some [.v (.int .i64 0), .v (.int .i64 0), .v (.int .i64 0), .v (.int .i64 0), .v (.int .i64 0), .v (.int .i64 0)] := by kernel_rfl
@[simp] theorem tsz123 : tsz Tryz.prog 123 = some 6 := by kernel_rfl
@[simp] theorem trow123 : trow Tryz.prog 123 = some true := by kernel_rfl
@[simp] theorem tel123 : tel Tryz.prog 123 = none := by kernel_rfl
@[simp] theorem tarr123 : tarr Tryz.prog 123 = none := by kernel_rfl
@[simp] theorem tifc123 : tifc Tryz.prog 123 = some false := by kernel_rfl
@[simp] theorem pzero123 : pzero Tryz.prog 123 = some (.agg [.v (.int .i64 0), .v (.int .i64 0), .v (.int .i64 0), .v (.int .i64 0), .v (.int .i64 0), .v (.int .i64 0)]) := by kernel_rfl
@[simp] theorem tfld123x0 : tfld Tryz.prog 123 0 = some (0, 37) := by kernel_rfl
@[simp] theorem tfld123x1 : tfld Tryz.prog 123 1 = some (2, 3) := by kernel_rfl
@[simp] theorem tfld123x2 : tfld Tryz.prog 123 2 = some (3, 37) := by kernel_rfl
@[simp] theorem tfld123x3 : tfld Tryz.prog 123 3 = some (5, 3) := by kernel_rfl
@[simp] theorem tpl123 : tpl Tryz.prog 123 = some [(0, 2), (2, 1), (3, 2), (5, 1)] := by kernel_rfl
@[simp] theorem tbytes123 : tbytes Tryz.prog 123 = some 48 := by kernel_rfl
@[simp] theorem tzero123 : tzero Tryz.prog 123 = some [.v (.int .i64 0), .v (.int .i64 0), .v (.int .i64 0), .v (.int .i64 0), .v (.int .i64 0), .v (.int .i64 0)] := by kernel_rfl
@[simp] theorem tsz124 : tsz Tryz.prog 124 = some 1 := by kernel_rfl
@[simp] theorem trow124 : trow Tryz.prog 124 = some false := by kernel_rfl
@[simp] theorem tel124 : tel Tryz.prog 124 = none := by kernel_rfl
@[simp] theorem tarr124 : tarr Tryz.prog 124 = none := by kernel_rfl
@[simp] theorem tifc124 : tifc Tryz.prog 124 = some false := by kernel_rfl
@[simp] theorem pzero124 : pzero Tryz.prog 124 = some (.v (.nilFunc)) := by kernel_rfl
@[simp] theorem tbytes124 : tbytes Tryz.prog 124 = some 8 := by kernel_rfl
@[simp] theorem tzero124 : tzero Tryz.prog 124 = some [.v (.nilFunc)] := by kernel_rfl
@[simp] theorem tsz125 : tsz Tryz.prog 125 = some 1 := by kernel_rfl
@[simp] theorem trow125 : trow Tryz.prog 125 = some false := by kernel_rfl
@[simp] theorem tel125 : tel Tryz.prog 125 = some 4 := by kernel_rfl
@[simp] theorem tarr125 : tarr Tryz.prog 125 = none := by kernel_rfl
@[simp] theorem tifc125 : tifc Tryz.prog 125 = some false := by kernel_rfl
@[simp] theorem pzero125 : pzero Tryz.prog 125 = some (.nil) := by kernel_rfl
@[simp] theorem tbytes125 : tbytes Tryz.prog 125 = some 24 := by kernel_rfl
@[simp] theorem tzero125 : tzero Tryz.prog 125 = some [.nil] := by kernel_rfl
@[simp] theorem tsz126 : tsz Tryz.prog 126 = some 1 := by kernel_rfl
@[simp] theorem trow126 : trow Tryz.prog 126 = some false := by kernel_rfl
@[simp] theorem tel126 : tel Tryz.prog 126 = none := by kernel_rfl
@[simp] theorem tarr126 : tarr Tryz.prog 126 = none := by kernel_rfl
@[simp] theorem tifc126 : tifc Tryz.prog 126 = some false := by kernel_rfl
@[simp] theorem pzero126 : pzero Tryz.prog 126 = some (.v (.nilFunc)) := by kernel_rfl
@[simp] theorem tbytes126 : tbytes Tryz.prog 126 = some 8 := by kernel_rfl
@[simp] theorem tzero126 : tzero Tryz.prog 126 = some [.v (.nilFunc)] := by kernel_rfl
@[simp] theorem tsz127 : tsz Tryz.prog 127 = some 1 := by kernel_rfl
@[simp] theorem trow127 : trow Tryz.prog 127 = some false := by kernel_rfl
@[simp] theorem tel127 : tel Tryz.prog 127 = none := by kernel_rfl
@[simp] theorem tarr127 : tarr Tryz.prog 127 = none := by kernel_rfl
@[simp] theorem tifc127 : tifc Tryz.prog 127 = some false := by kernel_rfl
@[simp] theorem pzero127 : pzero Tryz.prog 127 = some (.v (.nilFunc)) := by kernel_rfl
@[simp] theorem tbytes127 : tbytes Tryz.prog 127 = some 8 := by kernel_rfl
@[simp] theorem tzero127 : tzero Tryz.prog 127 = some [.v (.nilFunc)] := by kernel_rfl
@[simp] theorem tsz128 : tsz Tryz.prog 128 = some 1 := by kernel_rfl
@[simp] theorem trow128 : trow Tryz.prog 128 = some false := by kernel_rfl
@[simp] theorem tel128 : tel Tryz.prog 128 = none := by kernel_rfl
@[simp] theorem tarr128 : tarr Tryz.prog 128 = none := by kernel_rfl
@[simp] theorem tifc128 : tifc Tryz.prog 128 = some false := by kernel_rfl
@[simp] theorem pzero128 : pzero Tryz.prog 128 = some (.v (.nilFunc)) := by kernel_rfl
@[simp] theorem tbytes128 : tbytes Tryz.prog 128 = some 8 := by kernel_rfl
@[simp] theorem tzero128 : tzero Tryz.prog 128 = some [.v (.nilFunc)] := by kernel_rfl
@[simp] theorem tsz129 : tsz Tryz.prog 129 = some 1 := by kernel_rfl
@[simp] theorem trow129 : trow Tryz.prog 129 = some false := by kernel_rfl
@[simp] theorem tel129 : tel Tryz.prog 129 = none := by kernel_rfl
@[simp] theorem tarr129 : tarr Tryz.prog 129 = none := by kernel_rfl
@[simp] theorem tifc129 : tifc Tryz.prog 129 = some false := by kernel_rfl
@[simp] theorem pzero129 : pzero Tryz.prog 129 = some (.v (.nilFunc)) := by kernel_rfl
@[simp] theorem tbytes129 : tbytes Tryz.prog 129 = some 8 := by kernel_rfl
@[simp] theorem tzero129 : tzero Tryz.prog 129 = some [.v (.nilFunc)] := by kernel_rfl
@[simp] theorem tsz130 : tsz Tryz.prog 130 = some 1 := by kernel_rfl
@[simp] theorem trow130 : trow Tryz.prog 130 = some false := by kernel_rfl
@[simp] theorem tel130 : tel Tryz.prog 130 = none := by kernel_rfl
@[simp] theorem tarr130 : tarr Tryz.prog 130 = none := by kernel_rfl
@[simp] theorem tifc130 : tifc Tryz.prog 130 = some false := by kernel_rfl
@[simp] theorem pzero130 : pzero Tryz.prog 130 = some (.v (.nilFunc)) := by kernel_rfl
@[simp] theorem tbytes130 : tbytes Tryz.prog 130 = some 8 := by kernel_rfl
@[simp] theorem tzero130 : tzero Tryz.prog 130 = some [.v (.nilFunc)] := by kernel_rfl
@[simp] theorem tsz131 : tsz Tryz.prog 131 = some 1 := by kernel_rfl
@[simp] theorem trow131 : trow Tryz.prog 131 = some false := by kernel_rfl
@[simp] theorem tel131 : tel Tryz.prog 131 = none := by kernel_rfl
@[simp] theorem tarr131 : tarr Tryz.prog 131 = none := by kernel_rfl
@[simp] theorem tifc131 : tifc Tryz.prog 131 = some false := by kernel_rfl
@[simp] theorem pzero131 : pzero Tryz.prog 131 = some (.v (.nilFunc)) := by kernel_rfl
@[simp] theorem tbytes131 : tbytes Tryz.prog 131 = some 8 := by kernel_rfl
@[simp] theorem tzero131 : tzero Tryz.prog 131 = some [.v (.nilFunc)] := by kernel_rfl
@[simp] theorem tsz133 : tsz Tryz.prog 133 = some 1 := by kernel_rfl
@[simp] theorem trow133 : trow Tryz.prog 133 = some false := by kernel_rfl
@[simp] theorem tel133 : tel Tryz.prog 133 = none := by kernel_rfl
@[simp] theorem tarr133 : tarr Tryz.prog 133 = none := by kernel_rfl
@[simp] theorem tifc133 : tifc Tryz.prog 133 = some false := by kernel_rfl
@[simp] theorem pzero133 : pzero Tryz.prog 133 = some (.v (.nilFunc)) := by kernel_rfl
@[simp] theorem tbytes133 : tbytes Tryz.prog 133 = some 8 := by kernel_rfl
@[simp] theorem tzero133 : tzero Tryz.prog 133 = some [.v (.nilFunc)] := by kernel_rfl
@[simp] theorem tsz134 : tsz Tryz.prog 134 = some 1 := by kernel_rfl
@[simp] theorem trow134 : trow Tryz.prog 134 = some false := by kernel_rfl
@[simp] theorem tel134 : tel Tryz.prog 134 = none := by kernel_rfl
@[simp] theorem tarr134 : tarr Tryz.prog 134 = none := by kernel_rfl
@[simp] theorem tifc134 : tifc Tryz.prog 134 = some false := by kernel_rfl
@[simp] theorem pzero134 : pzero Tryz.prog 134 = some (.v (.nilFunc)) := by kernel_rfl
@[simp] theorem tbytes134 : tbytes Tryz.prog 134 = some 8 := by kernel_rfl
@[simp] theorem tzero134 : tzero Tryz.prog 134 = some [.v (.nilFunc)] := by kernel_rfl
@[simp] theorem tsz135 : tsz Tryz.prog 135 = some 1 := by kernel_rfl
@[simp] theorem trow135 : trow Tryz.prog 135 = some false := by kernel_rfl
@[simp] theorem tel135 : tel Tryz.prog 135 = none := by kernel_rfl
@[simp] theorem tarr135 : tarr Tryz.prog 135 = none := by kernel_rfl
@[simp] theorem tifc135 : tifc Tryz.prog 135 = some false := by kernel_rfl
@[simp] theorem pzero135 : pzero Tryz.prog 135 = some (.v (.nilFunc)) := by kernel_rfl
@[simp] theorem tbytes135 : tbytes Tryz.prog 135 = some 8 := by kernel_rfl
@[simp] theorem tzero135 : tzero Tryz.prog 135 = some [.v (.nilFunc)] := by kernel_rfl
@[simp] theorem tsz136 : tsz Tryz.prog 136 = some 1 := by kernel_rfl
@[simp] theorem trow136 : trow Tryz.prog 136 = some false := by kernel_rfl
@[simp] theorem tel136 : tel Tryz.prog 136 = none := by kernel_rfl
@[simp] theorem tarr136 : tarr Tryz.prog 136 = none := by kernel_rfl
@[simp] theorem tifc136 : tifc Tryz.prog 136 = some false := by kernel_rfl
@[simp] theorem pzero136 : pzero Tryz.prog 136 = some (.v (.nilFunc)) := by kernel_rfl
@[simp] theorem tbytes136 : tbytes Tryz.prog 136 = some 8 := by kernel_rfl
@[simp] theorem tzero136 : tzero Tryz.prog 136 = some [.v (.nilFunc)] := by kernel_rfl
@[simp] theorem tsz137 : tsz Tryz.prog 137 = some 1 := by kernel_rfl
@[simp] theorem trow137 : trow Tryz.prog 137 = some false := by kernel_rfl
@[simp] theorem tel137 : tel Tryz.prog 137 = none := by kernel_rfl
@[simp] theorem tarr137 : tarr Tryz.prog 137 = none := by kernel_rfl
@[simp] theorem tifc137 : tifc Tryz.prog 137 = some false := by kernel_rfl
@[simp] theorem pzero137 : pzero Tryz.prog 137 = some (.v (.nilFunc)) := by kernel_rfl
@[simp] theorem tbytes137 : tbytes Tryz.prog 137 = some 8 := by kernel_rfl
@[simp] theorem tzero137 : tzero Tryz.prog 137 = some [.v (.nilFunc)] := by kernel_rfl
@[simp] theorem tsz138 : tsz Tryz.prog 138 = some 1 := by kernel_rfl
@[simp] theorem trow138 : trow Tryz.prog 138 = some false := by kernel_rfl
@[simp] theorem tel138 : tel Tryz.prog 138 = none := by kernel_rfl
@[simp] theorem tarr138 : tarr Tryz.prog 138 = none := by kernel_rfl
@[simp] theorem tifc138 : tifc Tryz.prog 138 = some false := by kernel_rfl
@[simp] theorem pzero138 : pzero Tryz.prog 138 = some (.v (.nilFunc)) := by kernel_rfl
@[simp] theorem tbytes138 : tbytes Tryz.prog 138 = some 8 := by kernel_rfl
@[simp] theorem tzero138 : tzero Tryz.prog 138 = some [.v (.nilFunc)] := by kernel_rfl
@[simp] theorem tsz139 : tsz Tryz.prog 139 = some 10 := by kernel_rfl
@[simp] theorem trow139 : trow Tryz.prog 139 = some true := by kernel_rfl
@[simp] theorem tel139 : tel Tryz.prog 139 = none := by kernel_rfl
@[simp] theorem tarr139 : tarr Tryz.prog 139 = none := by kernel_rfl
@[simp] theorem tifc139 : tifc Tryz.prog 139 = some false := by kernel_rfl
@[simp] theorem pzero139 : pzero Tryz.prog 139 = some (.agg [.v (.int .i64 0), .v (.int .i64 0), .v (.int .i64 0), .v (.int .i64 0), .nil, .nil, .v (.int .i64 0), .v (.int .i64 0), .v (.int .i64 0), .nil]) := by kernel_rfl
@[simp] theorem tfld139x0 : tfld Tryz.prog 139 0 = some (0, 27) := by kernel_rfl
@[simp] theorem tpl139 : tpl Tryz.prog 139 = some [(0, 10)] := by kernel_rfl
@[simp] theorem tbytes139 : tbytes Tryz.prog 139 = some 128 := by kernel_rfl
@[simp] theorem tzero139 : tzero Tryz.prog 139 = some [.v (.int .i64 0), .v (.int .i64 0), .v (.int .i64 0), .v (.int .i64 0), .nil, .nil, .v (.int .i64 0), .v (.int .i64 0), .v (.int .i64 0), .nil] := by kernel_rfl
@[simp] theorem tsz140 : tsz Tryz.prog 140 = some 10 := by kernel_rfl
@[simp] theorem trow140 : trow Tryz.prog 140 = some true := by kernel_rfl
@[simp] theorem tel140 : tel Tryz.prog 140 = none := by kernel_rfl
@[simp] theorem tarr140 : tarr Tryz.prog 140 = none := by kernel_rfl
@[simp] theorem tifc140 : tifc Tryz.prog 140 = some false := by kernel_rfl
@[simp] theorem pzero140 : pzero Tryz.prog 140 = some (.agg [.v (.int .i64 0), .v (.int .i64 0), .v (.int .i64 0), .v (.int .i64 0), .nil, .nil, .v (.int .i64 0), .v (.int .i64 0), .v (.int .i64 0), .nil]) := by kernel_rfl
@[simp] theorem tfld140x0 : tfld Tryz.prog 140 0 = some (0, 27) := by kernel_rfl
@[simp] theorem tpl140 : tpl Tryz.prog 140 = some [(0, 10)] := by kernel_rfl
@[simp] theorem tbytes140 : tbytes Tryz.prog 140 = some 128 := by kernel_rfl
@[simp] theorem tzero140 : tzero Tryz.prog 140 = some [.v (.int .i64 0), .v (.int .i64 0), .v (.int .i64 0), .v (.int .i64 0), .nil, .nil, .v (.int .i64 0), .v (.int .i64 0), .v (.int .i64 0), .nil] := by kernel_rfl
@[simp] theorem tsz141 : tsz Tryz.prog 141 = some 15 := by kernel_rfl
@[simp] theorem trow141 : trow Tryz.prog 141 = some true := by kernel_rfl
@[simp] theorem tel141 : tel Tryz.prog 141 = none := by kernel_rfl
@[simp] theorem tarr141 : tarr Tryz.prog 141 = none := by kernel_rfl
@[simp] theorem tifc141 : tifc Tryz.prog 141 = some false := by kernel_rfl
@[simp] theorem pzero141 : pzero Tryz.prog 141 = some (.agg [.v (.int .i64 0), .v (.int .i64 0), .v (.int .i64 0), .v (.int .i64 0), .nil, .nil, .v (.int .i64 0), .v (.int .i64 0), .v (.int .i64 0), .nil, .nil, .v (.int .i64 0), .v (.int .i64 0), .nil, .v (.bool false)]) := by kernel_rfl
@[simp] theorem tfld141x0 : tfld Tryz.prog 141 0 = some (0, 140) := by kernel_rfl
@[simp] theorem tfld141x1 : tfld Tryz.prog 141 1 = some (10, 66) := by kernel_rfl
@[simp] theorem tpl141 : tpl Tryz.prog 141 = some [(0, 10), (10, 5)] := by kernel_rfl
@[simp] theorem tbytes141 : tbytes Tryz.prog 141 = some 200 := by kernel_rfl
@[simp] theorem tzero141 : tzero Tryz.prog 141 = some [.v (.int .i64 0), .v (.int .i64 0), .v (.int .i64 0), .v (.int .i64 0), .nil, .nil, .v (.int .i64 0), .v (.int .i64 0), .v (.int .i64 0), .nil, .nil, .v (.int .i64 0), .v (.int .i64 0), .nil, .v (.bool false)] := by kernel_rfl
@[simp] theorem tsz142 : tsz Tryz.prog 142 = some 15 := by kernel_rfl
@[simp] theorem trow142 : trow Tryz.prog 142 = some true := by kernel_rfl
@[simp] theorem tel142 : tel Tryz.prog 142 = none := by kernel_rfl
@[simp] theorem tarr142 : tarr Tryz.prog 142 = none := by kernel_rfl
@[simp] theorem tifc142 : tifc Tryz.prog 142 = some false := by kernel_rfl
@[simp] theorem pzero142 : pzero Tryz.prog 142 = some (.agg [.v (.int .i64 0), .v (.int .i64 0), .v (.int .i64 0), .v (.int .i64 0), .nil, .nil, .v (.int .i64 0), .v (.int .i64 0), .v (.int .i64 0), .nil, .nil, .v (.int .i64 0), .v (.int .i64 0), .nil, .v (.bool false)]) := by kernel_rfl
@[simp] theorem tfld142x0 : tfld Tryz.prog 142 0 = some (0, 140) := by kernel_rfl
@[simp] theorem tfld142x1 : tfld Tryz.prog 142 1 = some (10, 66) := by kernel_rfl
@[simp] theorem tpl142 : tpl Tryz.prog 142 = some [(0, 10), (10, 5)] := by kernel_rfl
@[simp] theorem tbytes142 : tbytes Tryz.prog 142 = some 200 := by kernel_rfl
@[simp] theorem tzero142 : tzero Tryz.prog 142 = some [.v (.int .i64 0), .v (.int .i64 0), .v (.int .i64 0), .v (.int .i64 0), .nil, .nil, .v (.int .i64 0), .v (.int .i64 0), .v (.int .i64 0), .nil, .nil, .v (.int .i64 0), .v (.int .i64 0), .nil, .v (.bool false)] := by kernel_rfl
@[simp] theorem tsz143 : tsz Tryz.prog 143 = some 1 := by kernel_rfl
@[simp] theorem trow143 : trow Tryz.prog 143 = some false := by kernel_rfl
@[simp] theorem tel143 : tel Tryz.prog 143 = none := by kernel_rfl
@[simp] theorem tarr143 : tarr Tryz.prog 143 = none := by kernel_rfl
@[simp] theorem tifc143 : tifc Tryz.prog 143 = some false := by kernel_rfl
@[simp] theorem pzero143 : pzero Tryz.prog 143 = some (.v (.nilFunc)) := by kernel_rfl
@[simp] theorem tbytes143 : tbytes Tryz.prog 143 = some 8 := by kernel_rfl
@[simp] theorem tzero143 : tzero Tryz.prog 143 = some [.v (.nilFunc)] := by kernel_rfl
@[simp] theorem tsz145 : tsz Tryz.prog 145 = some 1 := by kernel_rfl
@[simp] theorem trow145 : trow Tryz.prog 145 = some false := by kernel_rfl
@[simp] theorem tel145 : tel Tryz.prog 145 = none := by kernel_rfl
@[simp] theorem tarr145 : tarr Tryz.prog 145 = none := by kernel_rfl
@[simp] theorem tifc145 : tifc Tryz.prog 145 = some false := by kernel_rfl
@[simp] theorem pzero145 : pzero Tryz.prog 145 = some (.v (.nilFunc)) := by kernel_rfl
@[simp] theorem tbytes145 : tbytes Tryz.prog 145 = some 8 := by kernel_rfl
@[simp] theorem tzero145 : tzero Tryz.prog 145 = some [.v (.nilFunc)] := by kernel_rfl
@[simp] theorem tsz146 : tsz Tryz.prog 146 = some 1 := by kernel_rfl
@[simp] theorem trow146 : trow Tryz.prog 146 = some false := by kernel_rfl
@[simp] theorem tel146 : tel Tryz.prog 146 = none := by kernel_rfl
@[simp] theorem tarr146 : tarr Tryz.prog 146 = none := by kernel_rfl
@[simp] theorem tifc146 : tifc Tryz.prog 146 = some false := by kernel_rfl
@[simp] theorem pzero146 : pzero Tryz.prog 146 = some (.v (.nilFunc)) := by kernel_rfl
@[simp] theorem tbytes146 : tbytes Tryz.prog 146 = some 8 := by kernel_rfl
@[simp] theorem tzero146 : tzero Tryz.prog 146 = some [.v (.nilFunc)] := by kernel_rfl
@[simp] theorem tsz147 : tsz Tryz.prog 147 = some 1 := by kernel_rfl
@[simp] theorem trow147 : trow Tryz.prog 147 = some false := by kernel_rfl
@[simp] theorem tel147 : tel Tryz.prog 147 = none := by kernel_rfl
@[simp] theorem tarr147 : tarr Tryz.prog 147 = none := by kernel_rfl
@[simp] theorem tifc147 : tifc Tryz.prog 147 = some false := by kernel_rfl
@[simp] theorem pzero147 : pzero Tryz.prog 147 = some (.v (.nilFunc)) := by kernel_rfl
@[simp] theorem tbytes147 : tbytes Tryz.prog 147 = some 8 := by kernel_rfl
@[simp] theorem tzero147 : tzero Tryz.prog 147 = some [.v (.nilFunc)] := by kernel_rfl
@[simp] theorem tsz148 : tsz Tryz.prog 148 = some 1 := by kernel_rfl
@[simp] theorem trow148 : trow Tryz.prog 148 = some false := by kernel_rfl
@[simp] theorem tel148 : tel Tryz.prog 148 = none := by kernel_rfl
@[simp] theorem tarr148 : tarr Tryz.prog 148 = none := by kernel_rfl
@[simp] theorem tifc148 : tifc Tryz.prog 148 = some false := by kernel_rfl
@[simp] theorem pzero148 : pzero Tryz.prog 148 = some (.v (.nilFunc)) := by kernel_rfl
@[simp] theorem tbytes148 : tbytes Tryz.prog 148 = some 8 := by kernel_rfl
@[simp] theorem tzero148 : tzero Tryz.prog 148 = some [.v (.nilFunc)] := by kernel_rfl
@[simp] theorem tsz149 : tsz Tryz.prog 149 = some 1 := by kernel_rfl
@[simp] theorem trow149 : trow Tryz.prog 149 = some false := by kernel_rfl
@[simp] theorem tel149 : tel Tryz.prog 149 = none := by kernel_rfl
@[simp] theorem tarr149 : tarr Tryz.prog 149 = none := by kernel_rfl
@[simp] theorem tifc149 : tifc Tryz.prog 149 = some false := by kernel_rfl
@[simp] theorem pzero149 : pzero Tryz.prog 149 = some (.v (.nilFunc)) := by kernel_rfl
@[simp] theorem tbytes149 : tbytes Tryz.prog 149 = some 8 := by kernel_rfl
@[simp] theorem tzero149 : tzero Tryz.prog 149 = some [.v (.nilFunc)] := by kernel_rfl
@[simp] theorem tsz150 : tsz Tryz.prog 150 = some 1 := by kernel_rfl
@[simp] theorem trow150 : trow Tryz.prog 150 = some false := by kernel_rfl
@[simp] theorem tel150 : tel Tryz.prog 150 = none := by kernel_rfl
@[simp] theorem tarr150 : tarr Tryz.prog 150 = none := by kernel_rfl
@[simp] theorem tifc150 : tifc Tryz.prog 150 = some false := by kernel_rfl
@[simp] theorem pzero150 : pzero Tryz.prog 150 = some (.v (.nilFunc)) := by kernel_rfl
@[simp] theorem tbytes150 : tbytes Tryz.prog 150 = some 8 := by kernel_rfl
@[simp] theorem tzero150 : tzero Tryz.prog 150 = some [.v (.nilFunc)] := by kernel_rfl
@[simp] theorem tsz151 : tsz Tryz.prog 151 = some 1 := by kernel_rfl
@[simp] theorem trow151 : trow Tryz.prog 151 = some false := by kernel_rfl
@[simp] theorem tel151 : tel Tryz.prog 151 = none := by kernel_rfl
@[simp] theorem tarr151 : tarr Tryz.prog 151 = none := by kernel_rfl
@[simp] theorem tifc151 : tifc Tryz.prog 151 = some false := by kernel_rfl
@[simp] theorem pzero151 : pzero Tryz.prog 151 = some (.v (.nilFunc)) := by kernel_rfl
@[simp] theorem tbytes151 : tbytes Tryz.prog 151 = some 8 := by kernel_rfl
@[simp] theorem tzero151 : tzero Tryz.prog 151 = some [.v (.nilFunc)] := by kernel_rfl
@[simp] theorem tsz152 : tsz Tryz.prog 152 = some 1 := by kernel_rfl
@[simp] theorem trow152 : trow Tryz.prog 152 = some false := by kernel_rfl
@[simp] theorem tel152 : tel Tryz.prog 152 = none := by kernel_rfl
@[simp] theorem tarr152 : tarr Tryz.prog 152 = none := by kernel_rfl
@[simp] theorem tifc152 : tifc Tryz.prog 152 = some false := by kernel_rfl
@[simp] theorem pzero152 : pzero Tryz.prog 152 = some (.v (.nilFunc)) := by kernel_rfl
@[simp] theorem tbytes152 : tbytes Tryz.prog 152 = some 8 := by kernel_rfl
@[simp] theorem tzero152 : tzero Tryz.prog 152 = some [.v (.nilFunc)] := by kernel_rfl
@[simp] theorem tsz154 : tsz Tryz.prog 154 = some 1 := by kernel_rfl
@[simp] theorem trow154 : trow Tryz.prog 154 = some false := by kernel_rfl
@[simp] theorem tel154 : tel Tryz.prog 154 = none := by kernel_rfl
@[simp] theorem tarr154 : tarr Tryz.prog 154 = none := by kernel_rfl
@[simp] theorem tifc154 : tifc Tryz.prog 154 = some false := by kernel_rfl
@[simp] theorem pzero154 : pzero Tryz.prog 154 = some (.v (.nilFunc)) := by kernel_rfl
@[simp] theorem tbytes154 : tbytes Tryz.prog 154 = some 8 := by kernel_rfl
@[simp] theorem tzero154 : tzero Tryz.prog 154 = some [.v (.nilFunc)] := by kernel_rfl
@[simp] theorem tsz155 : tsz Tryz.prog 155 = some 1 := by kernel_rfl
@[simp] theorem trow155 : trow Tryz.prog 155 = some false := by kernel_rfl
@[simp] theorem tel155 : tel Tryz.prog 155 = none := by kernel_rfl
@[simp] theorem tarr155 : tarr Tryz.prog 155 = none := by kernel_rfl
@[simp] theorem tifc155 : tifc Tryz.prog 155 = some false := by kernel_rfl
@[simp] theorem pzero155 : pzero Tryz.prog 155 = some (.v (.nilFunc)) := by kernel_rfl
@[simp] theorem tbytes155 : tbytes Tryz.prog 155 = some 8 := by kernel_rfl
@[simp] theorem tzero155 : tzero Tryz.prog 155 = some [.v (.nilFunc)] := by kernel_rfl
@[simp] theorem tsz156 : tsz Tryz.prog 156 = some 1 := by kernel_rfl
@[simp] theorem trow156 : trow Tryz.prog 156 = some false := by kernel_rfl
@[simp] theorem tel156 : tel Tryz.prog 156 = none := by kernel_rfl
@[simp] theorem tarr156 : tarr Tryz.prog 156 = none := by kernel_rfl
@[simp] theorem tifc156 : tifc Tryz.prog 156 = some false := by kernel_rfl
@[simp] theorem pzero156 : pzero Tryz.prog 156 = some (.v (.nilFunc)) := by kernel_rfl
@[simp] theorem tbytes156 : tbytes Tryz.prog 156 = some 8 := by kernel_rfl
@[simp] theorem tzero156 : tzero Tryz.prog 156 = some [.v (.nilFunc)] := by kernel_rfl
@[simp] theorem tsz157 : tsz Tryz.prog 157 = some 1 := by kernel_rfl
@[simp] theorem trow157 : trow Tryz.prog 157 = some false := by kernel_rfl
@[simp] theorem tel157 : tel Tryz.prog 157 = none := by kernel_rfl
@[simp] theorem tarr157 : tarr Tryz.prog 157 = none := by kernel_rfl
@[simp] theorem tmap157 : tmap Tryz.prog 157 = some (3, 3) := by kernel_rfl
@[simp] theorem tifc157 : tifc Tryz.prog 157 = some false := by kernel_rfl
@[simp] theorem pzero157 : pzero Tryz.prog 157 = some (.v (.map none)) := by kernel_rfl
@[simp] theorem tbytes157 : tbytes Tryz.prog 157 = some 8 := by kernel_rfl
@[simp] theorem tzero157 : tzero Tryz.prog 157 = some [.v (.map none)] := by kernel_rfl
@[simp] theorem tsz158 : tsz Tryz.prog 158 = some 1 := by kernel_rfl
@[simp] theorem trow158 : trow Tryz.prog 158 = some false := by kernel_rfl
@[simp] theorem tel158 : tel Tryz.prog 158 = none := by kernel_rfl
@[simp] theorem tarr158 : tarr Tryz.prog 158 = none := by kernel_rfl
@[simp] theorem tifc158 : tifc Tryz.prog 158 = some false := by kernel_rfl
@[simp] theorem pzero158 : pzero Tryz.prog 158 = some (.v (.nilFunc)) := by kernel_rfl
@[simp] theorem tbytes158 : tbytes Tryz.prog 158 = some 8 := by kernel_rfl
@[simp] theorem tzero158 : tzero Tryz.prog 158 = some [.v (.nilFunc)] := by kernel_rfl
@[simp] theorem tsz159 : tsz Tryz.prog 159 = some 1 := by kernel_rfl
@[simp] theorem trow159 : trow Tryz.prog 159 = some false := by kernel_rfl
@[simp] theorem tel159 : tel Tryz.prog 159 = none := by kernel_rfl
@[simp] theorem tarr159 : tarr Tryz.prog 159 = none := by kernel_rfl
@[simp] theorem tifc159 : tifc Tryz.prog 159 = some false := by kernel_rfl
@[simp] theorem pzero159 : pzero Tryz.prog 159 = some (.v (.nilFunc)) := by kernel_rfl
@[simp] theorem tbytes159 : tbytes Tryz.prog 159 = some 8 := by kernel_rfl
@[simp] theorem tzero159 : tzero Tryz.prog 159 = some [.v (.nilFunc)] := by kernel_rfl
@[simp] theorem tsz160 : tsz Tryz.prog 160 = some 1 := by kernel_rfl
@[simp] theorem trow160 : trow Tryz.prog 160 = some false := by kernel_rfl
@[simp] theorem tel160 : tel Tryz.prog 160 = none := by kernel_rfl
@[simp] theorem tarr160 : tarr Tryz.prog 160 = none := by kernel_rfl
@[simp] theorem tifc160 : tifc Tryz.prog 160 = some false := by kernel_rfl
@[simp] theorem pzero160 : pzero Tryz.prog 160 = some (.v (.pointer none)) := by kernel_rfl
@[simp] theorem tbytes160 : tbytes Tryz.prog 160 = some 8 := by kernel_rfl
@[simp] theorem tzero160 : tzero Tryz.prog 160 = some [.v (.pointer none)] := by kernel_rfl
@[simp] theorem tsz161 : tsz Tryz.prog 161 = some 2 := by kernel_rfl
@[simp] theorem trow161 : trow Tryz.prog 161 = some true := by kernel_rfl
@[simp] theorem tel161 : tel Tryz.prog 161 = none := by kernel_rfl
@[simp] theorem tarr161 : tarr Tryz.prog 161 = none := by kernel_rfl
@[simp] theorem tifc161 : tifc Tryz.prog 161 = some false := by kernel_rfl
@[simp] theorem pzero161 : pzero Tryz.prog 161 = some (.agg [.v (.pointer none), .nil]) := by kernel_rfl
@[simp] theorem tfld161x0 : tfld Tryz.prog 161 0 = some (0, 160) := by kernel_rfl
@[simp] theorem tfld161x1 : tfld Tryz.prog 161 1 = some (1, 109) := by kernel_rfl
@[simp] theorem tpl161 : tpl Tryz.prog 161 = some [(0, 1), (1, 1)] := by kernel_rfl
@[simp] theorem tbytes161 : tbytes Tryz.prog 161 = some 32 := by kernel_rfl
@[simp] theorem tzero161 : tzero Tryz.prog 161 = some [.v (.pointer none), .nil] := by kernel_rfl
@[simp] theorem tsz162 : tsz Tryz.prog 162 = some 2 := by kernel_rfl
@[simp] theorem trow162 : trow Tryz.prog 162 = some true := by kernel_rfl
@[simp] theorem tel162 : tel Tryz.prog 162 = none := by kernel_rfl
@[simp] theorem tarr162 : tarr Tryz.prog 162 = none := by kernel_rfl
@[simp] theorem tifc162 : tifc Tryz.prog 162 = some false := by kernel_rfl
@[simp] theorem pzero162 : pzero Tryz.prog 162 = some (.agg [.v (.pointer none), .nil]) := by kernel_rfl
@[simp] theorem tfld162x0 : tfld Tryz.prog 162 0 = some (0, 160) := by kernel_rfl
@[simp] theorem tfld162x1 : tfld Tryz.prog 162 1 = some (1, 109) := by kernel_rfl
@[simp] theorem tpl162 : tpl Tryz.prog 162 = some [(0, 1), (1, 1)] := by kernel_rfl
@[simp] theorem tbytes162 : tbytes Tryz.prog 162 = some 32 := by kernel_rfl
@[simp] theorem tzero162 : tzero Tryz.prog 162 = some [.v (.pointer none), .nil] := by kernel_rfl
@[simp] theorem tsz163 : tsz Tryz.prog 163 = some 3 := by kernel_rfl
@[simp] theorem trow163 : trow Tryz.prog 163 = some true := by kernel_rfl
@[simp] theorem tel163 : tel Tryz.prog 163 = none := by kernel_rfl
@[simp] theorem tarr163 : tarr Tryz.prog 163 = none := by kernel_rfl
@[simp] theorem tifc163 : tifc Tryz.prog 163 = some false := by kernel_rfl
@[simp] theorem pzero163 : pzero Tryz.prog 163 = some (.agg [.v (.pointer none), .nil, .v (.int .i64 0)]) := by kernel_rfl
@[simp] theorem tfld163x0 : tfld Tryz.prog 163 0 = some (0, 162) := by kernel_rfl
@[simp] theorem tfld163x1 : tfld Tryz.prog 163 1 = some (2, 3) := by kernel_rfl
@[simp] theorem tpl163 : tpl Tryz.prog 163 = some [(0, 2), (2, 1)] := by kernel_rfl
@[simp] theorem tbytes163 : tbytes Tryz.prog 163 = some 40 := by kernel_rfl
@[simp] theorem tzero163 : tzero Tryz.prog 163 = some [.v (.pointer none), .nil, .v (.int .i64 0)] := by kernel_rfl
@[simp] theorem tsz164 : tsz Tryz.prog 164 = some 3 := by kernel_rfl
@[simp] theorem trow164 : trow Tryz.prog 164 = some true := by kernel_rfl
@[simp] theorem tel164 : tel Tryz.prog 164 = none := by kernel_rfl
@[simp] theorem tarr164 : tarr Tryz.prog 164 = none := by kernel_rfl
@[simp] theorem tifc164 : tifc Tryz.prog 164 = some false := by kernel_rfl
@[simp] theorem pzero164 : pzero Tryz.prog 164 = some (.agg [.v (.pointer none), .nil, .v (.int .i64 0)]) := by kernel_rfl
@[simp] theorem tfld164x0 : tfld Tryz.prog 164 0 = some (0, 162) := by kernel_rfl
@[simp] theorem tfld164x1 : tfld Tryz.prog 164 1 = some (2, 3) := by kernel_rfl
@[simp] theorem tpl164 : tpl Tryz.prog 164 = some [(0, 2), (2, 1)] := by kernel_rfl
@[simp] theorem tbytes164 : tbytes Tryz.prog 164 = some 40 := by kernel_rfl
@[simp] theorem tzero164 : tzero Tryz.prog 164 = some [.v (.pointer none), .nil, .v (.int .i64 0)] := by kernel_rfl
@[simp] theorem tsz165 : tsz Tryz.prog 165 = some 1 := by kernel_rfl
@[simp] theorem trow165 : trow Tryz.prog 165 = some false := by kernel_rfl
@[simp] theorem tel165 : tel Tryz.prog 165 = none := by kernel_rfl
@[simp] theorem tarr165 : tarr Tryz.prog 165 = none := by kernel_rfl
@[simp] theorem tifc165 : tifc Tryz.prog 165 = some false := by kernel_rfl
@[simp] theorem pzero165 : pzero Tryz.prog 165 = some (.v (.nilFunc)) := by kernel_rfl
@[simp] theorem tbytes165 : tbytes Tryz.prog 165 = some 8 := by kernel_rfl
@[simp] theorem tzero165 : tzero Tryz.prog 165 = some [.v (.nilFunc)] := by kernel_rfl
@[simp] theorem tsz166 : tsz Tryz.prog 166 = some 1 := by kernel_rfl
@[simp] theorem trow166 : trow Tryz.prog 166 = some false := by kernel_rfl
@[simp] theorem tel166 : tel Tryz.prog 166 = some 9 := by kernel_rfl
@[simp] theorem tarr166 : tarr Tryz.prog 166 = none := by kernel_rfl
@[simp] theorem tifc166 : tifc Tryz.prog 166 = some false := by kernel_rfl
@[simp] theorem pzero166 : pzero Tryz.prog 166 = some (.nil) := by kernel_rfl
@[simp] theorem tbytes166 : tbytes Tryz.prog 166 = some 24 := by kernel_rfl
@[simp] theorem tzero166 : tzero Tryz.prog 166 = some [.nil] := by kernel_rfl
@[simp] theorem tsz167 : tsz Tryz.prog 167 = some 1 := by kernel_rfl
@[simp] theorem trow167 : trow Tryz.prog 167 = some false := by kernel_rfl
@[simp] theorem tel167 : tel Tryz.prog 167 = none := by kernel_rfl
@[simp] theorem tarr167 : tarr Tryz.prog 167 = none := by kernel_rfl
@[simp] theorem tifc167 : tifc Tryz.prog 167 = some false := by kernel_rfl
@[simp] theorem pzero167 : pzero Tryz.prog 167 = some (.v (.nilFunc)) := by kernel_rfl
@[simp] theorem tbytes167 : tbytes Tryz.prog 167 = some 8 := by kernel_rfl
@[simp] theorem tzero167 : tzero Tryz.prog 167 = some [.v (.nilFunc)] := by kernel_rfl
@[simp] theorem tsz168 : tsz Tryz.prog 168 = some 1 := by kernel_rfl
@[simp] theorem trow168 : trow Tryz.prog 168 = some false := by kernel_rfl
@[simp] theorem tel168 : tel Tryz.prog 168 = none := by kernel_rfl
@[simp] theorem tarr168 : tarr Tryz.prog 168 = none := by kernel_rfl
@[simp] theorem tifc168 : tifc Tryz.prog 168 = some false := by kernel_rfl
@[simp] theorem pzero168 : pzero Tryz.prog 168 = some (.v (.nilFunc)) := by kernel_rfl
@[simp] theorem tbytes168 : tbytes Tryz.prog 168 = some 8 := by kernel_rfl
@[simp] theorem tzero168 : tzero Tryz.prog 168 = some [.v (.nilFunc)] := by kernel_rfl
@[simp] theorem tsz169 : tsz Tryz.prog 169 = some 1 := by kernel_rfl
@[simp] theorem trow169 : trow Tryz.prog 169 = some true := by kernel_rfl
@[simp] theorem tel169 : tel Tryz.prog 169 = none := by kernel_rfl
@[simp] theorem tarr169 : tarr Tryz.prog 169 = none := by kernel_rfl
@[simp] theorem tifc169 : tifc Tryz.prog 169 = some false := by kernel_rfl
@[simp] theorem pzero169 : pzero Tryz.prog 169 = some (.agg [.v (.string ByteArray.empty)]) := by kernel_rfl
@[simp] theorem tfld169x0 : tfld Tryz.prog 169 0 = some (0, 9) := by kernel_rfl
@[simp] theorem tpl169 : tpl Tryz.prog 169 = some [(0, 1)] := by kernel_rfl
@[simp] theorem teqf169 : teqf Tryz.prog 169 = some [(0, 2)] := by kernel_rfl
@[simp] theorem tbytes169 : tbytes Tryz.prog 169 = some 16 := by kernel_rfl
@[simp] theorem tzero169 : tzero Tryz.prog 169 = some [.v (.string ByteArray.empty)] := by kernel_rfl
@[simp] theorem tsz170 : tsz Tryz.prog 170 = some 1 := by kernel_rfl
@[simp] theorem trow170 : trow Tryz.prog 170 = some true := by kernel_rfl
@[simp] theorem tel170 : tel Tryz.prog 170 = none := by kernel_rfl
@[simp] theorem tarr170 : tarr Tryz.prog 170 = none := by kernel_rfl
@[simp] theorem tifc170 : tifc Tryz.prog 170 = some false := by kernel_rfl
@[simp] theorem pzero170 : pzero Tryz.prog 170 = some (.agg [.v (.string ByteArray.empty)]) := by kernel_rfl
@[simp] theorem tfld170x0 : tfld Tryz.prog 170 0 = some (0, 9) := by kernel_rfl
@[simp] theorem tpl170 : tpl Tryz.prog 170 = some [(0, 1)] := by kernel_rfl
@[simp] theorem teqf170 : teqf Tryz.prog 170 = some [(0, 2)] := by kernel_rfl
@[simp] theorem tbytes170 : tbytes Tryz.prog 170 = some 16 := by kernel_rfl
@[simp] theorem tzero170 : tzero Tryz.prog 170 = some [.v (.string ByteArray.empty)] := by kernel_rfl
@[simp] theorem tsz171 : tsz Tryz.prog 171 = some 1 := by kernel_rfl
@[simp] theorem trow171 : trow Tryz.prog 171 = some false := by kernel_rfl
@[simp] theorem tel171 : tel Tryz.prog 171 = none := by kernel_rfl
@[simp] theorem tarr171 : tarr Tryz.prog 171 = none := by kernel_rfl
@[simp] theorem tifc171 : tifc Tryz.prog 171 = some false := by kernel_rfl
@[simp] theorem pzero171 : pzero Tryz.prog 171 = some (.v (.pointer none)) := by kernel_rfl
@[simp] theorem tbytes171 : tbytes Tryz.prog 171 = some 8 := by kernel_rfl
@[simp] theorem tzero171 : tzero Tryz.prog 171 = some [.v (.pointer none)] := by kernel_rfl
@[simp] theorem tsz172 : tsz Tryz.prog 172 = some 2 := by kernel_rfl
@[simp] theorem trow172 : trow Tryz.prog 172 = some true := by kernel_rfl
@[simp] theorem tel172 : tel Tryz.prog 172 = none := by kernel_rfl
@[simp] theorem tarr172 : tarr Tryz.prog 172 = none := by kernel_rfl
@[simp] theorem tifc172 : tifc Tryz.prog 172 = some false := by kernel_rfl
@[simp] theorem pzero172 : pzero Tryz.prog 172 = some (.agg [.v (.string ByteArray.empty), .v (.int .i64 0)]) := by kernel_rfl
@[simp] theorem tfld172x0 : tfld Tryz.prog 172 0 = some (0, 9) := by kernel_rfl
@[simp] theorem tfld172x1 : tfld Tryz.prog 172 1 = some (1, 3) := by kernel_rfl
@[simp] theorem tpl172 : tpl Tryz.prog 172 = some [(0, 1), (1, 1)] := by kernel_rfl
@[simp] theorem teqf172 : teqf Tryz.prog 172 = some [(0, 2), (1, 0)] := by kernel_rfl
@[simp] theorem tbytes172 : tbytes Tryz.prog 172 = some 24 := by kernel_rfl
@[simp] theorem tzero172 : tzero Tryz.prog 172 = some [.v (.string ByteArray.empty), .v (.int .i64 0)] := by kernel_rfl
@[simp] theorem tsz173 : tsz Tryz.prog 173 = some 2 := by kernel_rfl
@[simp] theorem trow173 : trow Tryz.prog 173 = some true := by kernel_rfl
@[simp] theorem tel173 : tel Tryz.prog 173 = none := by kernel_rfl
@[simp] theorem tarr173 : tarr Tryz.prog 173 = none := by kernel_rfl
@[simp] theorem tifc173 : tifc Tryz.prog 173 = some false := by kernel_rfl
@[simp] theorem pzero173 : pzero Tryz.prog 173 = some (.agg [.v (.string ByteArray.empty), .v (.int .i64 0)]) := by kernel_rfl
@[simp] theorem tfld173x0 : tfld Tryz.prog 173 0 = some (0, 9) := by kernel_rfl
@[simp] theorem tfld173x1 : tfld Tryz.prog 173 1 = some (1, 3) := by kernel_rfl
@[simp] theorem tpl173 : tpl Tryz.prog 173 = some [(0, 1), (1, 1)] := by kernel_rfl
@[simp] theorem teqf173 : teqf Tryz.prog 173 = some [(0, 2), (1, 0)] := by kernel_rfl
@[simp] theorem tbytes173 : tbytes Tryz.prog 173 = some 24 := by kernel_rfl
@[simp] theorem tzero173 : tzero Tryz.prog 173 = some [.v (.string ByteArray.empty), .v (.int .i64 0)] := by kernel_rfl
@[simp] theorem tsz174 : tsz Tryz.prog 174 = some 1 := by kernel_rfl
@[simp] theorem trow174 : trow Tryz.prog 174 = some false := by kernel_rfl
@[simp] theorem tel174 : tel Tryz.prog 174 = none := by kernel_rfl
@[simp] theorem tarr174 : tarr Tryz.prog 174 = none := by kernel_rfl
@[simp] theorem tifc174 : tifc Tryz.prog 174 = some false := by kernel_rfl
@[simp] theorem pzero174 : pzero Tryz.prog 174 = some (.v (.nilFunc)) := by kernel_rfl
@[simp] theorem tbytes174 : tbytes Tryz.prog 174 = some 8 := by kernel_rfl
@[simp] theorem tzero174 : tzero Tryz.prog 174 = some [.v (.nilFunc)] := by kernel_rfl
@[simp] theorem tsz176 : tsz Tryz.prog 176 = some 1 := by kernel_rfl
@[simp] theorem trow176 : trow Tryz.prog 176 = some false := by kernel_rfl
@[simp] theorem tel176 : tel Tryz.prog 176 = none := by kernel_rfl
@[simp] theorem tarr176 : tarr Tryz.prog 176 = none := by kernel_rfl
@[simp] theorem tifc176 : tifc Tryz.prog 176 = some false := by kernel_rfl
@[simp] theorem pzero176 : pzero Tryz.prog 176 = some (.v (.nilFunc)) := by kernel_rfl
@[simp] theorem tbytes176 : tbytes Tryz.prog 176 = some 8 := by kernel_rfl
@[simp] theorem tzero176 : tzero Tryz.prog 176 = some [.v (.nilFunc)] := by kernel_rfl
@[simp] theorem tsz177 : tsz Tryz.prog 177 = some 1 := by kernel_rfl
@[simp] theorem trow177 : trow Tryz.prog 177 = some false := by kernel_rfl
@[simp] theorem tel177 : tel Tryz.prog 177 = none := by kernel_rfl
@[simp] theorem tarr177 : tarr Tryz.prog 177 = none := by kernel_rfl
@[simp] theorem tifc177 : tifc Tryz.prog 177 = some false := by kernel_rfl
@[simp] theorem pzero177 : pzero Tryz.prog 177 = some (.v (.nilFunc)) := by kernel_rfl
@[simp] theorem tbytes177 : tbytes Tryz.prog 177 = some 8 := by kernel_rfl
@[simp] theorem tzero177 : tzero Tryz.prog 177 = some [.v (.nilFunc)] := by kernel_rfl
@[simp] theorem tsz178 : tsz Tryz.prog 178 = some 1 := by kernel_rfl
@[simp] theorem trow178 : trow Tryz.prog 178 = some false := by kernel_rfl
@[simp] theorem tel178 : tel Tryz.prog 178 = none := by kernel_rfl
@[simp] theorem tarr178 : tarr Tryz.prog 178 = none := by kernel_rfl
@[simp] theorem tifc178 : tifc Tryz.prog 178 = some false := by kernel_rfl
@[simp] theorem pzero178 : pzero Tryz.prog 178 = some (.v (.nilFunc)) := by kernel_rfl
@[simp] theorem tbytes178 : tbytes Tryz.prog 178 = some 8 := by kernel_rfl
@[simp] theorem tzero178 : tzero Tryz.prog 178 = some [.v (.nilFunc)] := by kernel_rfl
@[simp] theorem tsz179 : tsz Tryz.prog 179 = some 1 := by kernel_rfl
@[simp] theorem trow179 : trow Tryz.prog 179 = some false := by kernel_rfl
@[simp] theorem tel179 : tel Tryz.prog 179 = none := by kernel_rfl
@[simp] theorem tarr179 : tarr Tryz.prog 179 = none := by kernel_rfl
@[simp] theorem tifc179 : tifc Tryz.prog 179 = some false := by kernel_rfl
@[simp] theorem pzero179 : pzero Tryz.prog 179 = some (.v (.nilFunc)) := by kernel_rfl
@[simp] theorem tbytes179 : tbytes Tryz.prog 179 = some 8 := by kernel_rfl
@[simp] theorem tzero179 : tzero Tryz.prog 179 = some [.v (.nilFunc)] := by kernel_rfl
@[simp] theorem tsz180 : tsz Tryz.prog 180 = some 1 := by kernel_rfl
@[simp] theorem trow180 : trow Tryz.prog 180 = some false := by kernel_rfl
@[simp] theorem tel180 : tel Tryz.prog 180 = none := by kernel_rfl
@[simp] theorem tarr180 : tarr Tryz.prog 180 = none := by kernel_rfl
@[simp] theorem tifc180 : tifc Tryz.prog 180 = some false := by kernel_rfl
@[simp] theorem pzero180 : pzero Tryz.prog 180 = some (.v (.nilFunc)) := by kernel_rfl
@[simp] theorem tbytes180 : tbytes Tryz.prog 180 = some 8 := by kernel_rfl
@[simp] theorem tzero180 : tzero Tryz.prog 180 = some [.v (.nilFunc)] := by kernel_rfl
@[simp] theorem tsz181 : tsz Tryz.prog 181 = some 6 := by kernel_rfl
@[simp] theorem trow181 : trow Tryz.prog 181 = some true := by kernel_rfl
@[simp] theorem tel181 : tel Tryz.prog 181 = none := by kernel_rfl
@[simp] theorem tarr181 : tarr Tryz.prog 181 = some (6, 180) := by kernel_rfl
@[simp] theorem tifc181 : tifc Tryz.prog 181 = some false := by kernel_rfl
@[simp] theorem pzero181 : pzero Tryz.prog 181 = some (.agg [.v (.nilFunc), .v (.nilFunc), .v (.nilFunc), .v (.nilFunc), .v (.nilFunc), .v (.nilFunc)]) := by kernel_rfl
@[simp] theorem tpl181 : tpl Tryz.prog 181 = none := by kernel_rfl
@[simp] theorem tbytes181 : tbytes Tryz.prog 181 = some 48 := by kernel_rfl
@[simp] theorem tzero181 : tzero Tryz.prog 181 = some [.v (.nilFunc), .v (.nilFunc), .v (.nilFunc), .v (.nilFunc), .v (.nilFunc), .v (.nilFunc)] := by kernel_rfl
@[simp] theorem tsz182 : tsz Tryz.prog 182 = some 1 := by kernel_rfl
@[simp] theorem trow182 : trow Tryz.prog 182 = some false := by kernel_rfl
@[simp] theorem tel182 : tel Tryz.prog 182 = none := by kernel_rfl
@[simp] theorem tarr182 : tarr Tryz.prog 182 = none := by kernel_rfl
@[simp] theorem tifc182 : tifc Tryz.prog 182 = some false := by kernel_rfl
@[simp] theorem pzero182 : pzero Tryz.prog 182 = some (.v (.nilFunc)) := by kernel_rfl
@[simp] theorem tbytes182 : tbytes Tryz.prog 182 = some 8 := by kernel_rfl
@[simp] theorem tzero182 : tzero Tryz.prog 182 = some [.v (.nilFunc)] := by kernel_rfl
@[simp] theorem tsz183 : tsz Tryz.prog 183 = some 1 := by kernel_rfl
@[simp] theorem trow183 : trow Tryz.prog 183 = some false := by kernel_rfl
@[simp] theorem tel183 : tel Tryz.prog 183 = none := by kernel_rfl
@[simp] theorem tarr183 : tarr Tryz.prog 183 = none := by kernel_rfl
@[simp] theorem tifc183 : tifc Tryz.prog 183 = some false := by kernel_rfl
@[simp] theorem pzero183 : pzero Tryz.prog 183 = some (.v (.nilFunc)) := by kernel_rfl
@[simp] theorem tbytes183 : tbytes Tryz.prog 183 = some 8 := by kernel_rfl
@[simp] theorem tzero183 : tzero Tryz.prog 183 = some [.v (.nilFunc)] := by kernel_rfl
@[simp] theorem tsz184 : tsz Tryz.prog 184 = some 1 := by kernel_rfl
@[simp] theorem trow184 : trow Tryz.prog 184 = some false := by kernel_rfl
@[simp] theorem tel184 : tel Tryz.prog 184 = none := by kernel_rfl
@[simp] theorem tarr184 : tarr Tryz.prog 184 = none := by kernel_rfl
@[simp] theorem tifc184 : tifc Tryz.prog 184 = some false := by kernel_rfl
@[simp] theorem pzero184 : pzero Tryz.prog 184 = some (.v (.nilFunc)) := by kernel_rfl
@[simp] theorem tbytes184 : tbytes Tryz.prog 184 = some 8 := by kernel_rfl
@[simp] theorem tzero184 : tzero Tryz.prog 184 = some [.v (.nilFunc)] := by kernel_rfl
@[simp] theorem tsz185 : tsz Tryz.prog 185 = some 1 := by kernel_rfl
@[simp] theorem trow185 : trow Tryz.prog 185 = some false := by kernel_rfl
@[simp] theorem tel185 : tel Tryz.prog 185 = none := by kernel_rfl
@[simp] theorem tarr185 : tarr Tryz.prog 185 = none := by kernel_rfl
@[simp] theorem tifc185 : tifc Tryz.prog 185 = some false := by kernel_rfl
@[simp] theorem pzero185 : pzero Tryz.prog 185 = some (.v (.nilFunc)) := by kernel_rfl
@[simp] theorem tbytes185 : tbytes Tryz.prog 185 = some 8 := by kernel_rfl
@[simp] theorem tzero185 : tzero Tryz.prog 185 = some [.v (.nilFunc)] := by kernel_rfl
@[simp] theorem tsz186 : tsz Tryz.prog 186 = some 1 := by kernel_rfl
@[simp] theorem trow186 : trow Tryz.prog 186 = some false := by kernel_rfl
@[simp] theorem tel186 : tel Tryz.prog 186 = none := by kernel_rfl
@[simp] theorem tarr186 : tarr Tryz.prog 186 = none := by kernel_rfl
@[simp] theorem tifc186 : tifc Tryz.prog 186 = some false := by kernel_rfl
@[simp] theorem pzero186 : pzero Tryz.prog 186 = some (.v (.int .i64 0)) := by kernel_rfl
@[simp] theorem tint186 : tint Tryz.prog 186 = some .i64 := by kernel_rfl
@[simp] theorem tbytes186 : tbytes Tryz.prog 186 = some 8 := by kernel_rfl
@[simp] theorem tzero186 : tzero Tryz.prog 186 = some [.v (.int .i64 0)] := by kernel_rfl
@[simp] theorem tsz187 : tsz Tryz.prog 187 = some 5 := by kernel_rfl
@[simp] theorem trow187 : trow Tryz.prog 187 = some true := by kernel_rfl
@[simp] theorem tel187 : tel Tryz.prog 187 = none := by kernel_rfl
@[simp] theorem tarr187 : tarr Tryz.prog 187 = none := by kernel_rfl
@[simp] theorem tifc187 : tifc Tryz.prog 187 = some false := by kernel_rfl
@[simp] theorem pzero187 : pzero Tryz.prog 187 = some (.agg [.v (.int .i64 0), .v (.int .i64 0), .v (.int .i64 0), .v (.int .i64 0), .v (.int .i64 0)]) := by kernel_rfl
@[simp] theorem tfld187x0 : tfld Tryz.prog 187 0 = some (0, 186) := by kernel_rfl
@[simp] theorem tfld187x1 : tfld Tryz.prog 187 1 = some (1, 3) := by kernel_rfl
@[simp] theorem tfld187x2 : tfld Tryz.prog 187 2 = some (2, 3) := by kernel_rfl
@[simp] theorem tfld187x3 : tfld Tryz.prog 187 3 = some (3, 37) := by kernel_rfl
@[simp] theorem tpl187 : tpl Tryz.prog 187 = some [(0, 1), (1, 1), (2, 1), (3, 2)] := by kernel_rfl
@[simp] theorem tbytes187 : tbytes Tryz.prog 187 = some 40 := by kernel_rfl
@[simp] theorem tzero187 : tzero Tryz.prog 187 = some [.v (.int .i64 0), .v (.int .i64 0), .v (.int .i64 0), .v (.int .i64 0), .v (.int .i64 0)] := by kernel_rfl
@[simp] theorem tsz188 : tsz Tryz.prog 188 = some 5 := by kernel_rfl
@[simp] theorem trow188 : trow Tryz.prog 188 = some true := by kernel_rfl
@[simp] theorem tel188 : tel Tryz.prog 188 = none := by kernel_rfl
@[simp] theorem tarr188 : tarr Tryz.prog 188 = none := by kernel_rfl
@[simp] theorem tifc188 : tifc Tryz.prog 188 = some false := by kernel_rfl
@[simp] theorem pzero188 : pzero Tryz.prog 188 = some (.agg [.v (.int .i64 0), .v (.int .i64 0), .v (.int .i64 0), .v (.int .i64 0), .v (.int .i64 0)]) := by kernel_rfl
@[simp] theorem tfld188x0 : tfld Tryz.prog 188 0 = some (0, 186) := by kernel_rfl
@[simp] theorem tfld188x1 : tfld Tryz.prog 188 1 = some (1, 3) := by kernel_rfl
@[simp] theorem tfld188x2 : tfld Tryz.prog 188 2 = some (2, 3) := by kernel_rfl
@[simp] theorem tfld188x3 : tfld Tryz.prog 188 3 = some (3, 37) := by kernel_rfl
@[simp] theorem tpl188 : tpl Tryz.prog 188 = some [(0, 1), (1, 1), (2, 1), (3, 2)] := by kernel_rfl
@[simp] theorem tbytes188 : tbytes Tryz.prog 188 = some 40 := by kernel_rfl
@[simp] theorem tzero188 : tzero Tryz.prog 188 = some [.v (.int .i64 0), .v (.int .i64 0), .v (.int .i64 0), .v (.int .i64 0), .v (.int .i64 0)] := by kernel_rfl
@[simp] theorem tsz189 : tsz Tryz.prog 189 = some 1 := by kernel_rfl
@[simp] theorem trow189 : trow Tryz.prog 189 = some false := by kernel_rfl
@[simp] theorem tel189 : tel Tryz.prog 189 = none := by kernel_rfl
@[simp] theorem tarr189 : tarr Tryz.prog 189 = none := by kernel_rfl
@[simp] theorem tifc189 : tifc Tryz.prog 189 = some false := by kernel_rfl
@[simp] theorem pzero189 : pzero Tryz.prog 189 = some (.v (.nilFunc)) := by kernel_rfl
@[simp] theorem tbytes189 : tbytes Tryz.prog 189 = some 8 := by kernel_rfl
@[simp] theorem tzero189 : tzero Tryz.prog 189 = some [.v (.nilFunc)] := by kernel_rfl
@[simp] theorem tsz190 : tsz Tryz.prog 190 = some 1 := by kernel_rfl
@[simp] theorem trow190 : trow Tryz.prog 190 = some false := by kernel_rfl
@[simp] theorem tel190 : tel Tryz.prog 190 = none := by kernel_rfl
@[simp] theorem tarr190 : tarr Tryz.prog 190 = none := by kernel_rfl
@[simp] theorem tifc190 : tifc Tryz.prog 190 = some false := by kernel_rfl
@[simp] theorem pzero190 : pzero Tryz.prog 190 = some (.v (.nilFunc)) := by kernel_rfl
@[simp] theorem tbytes190 : tbytes Tryz.prog 190 = some 8 := by kernel_rfl
@[simp] theorem tzero190 : tzero Tryz.prog 190 = some [.v (.nilFunc)] := by kernel_rfl
@[simp] theorem tsz191 : tsz Tryz.prog 191 = some 5 := by kernel_rfl
@[simp] theorem trow191 : trow Tryz.prog 191 = some true := by kernel_rfl
@[simp] theorem tel191 : tel Tryz.prog 191 = none := by kernel_rfl
@[simp] theorem tarr191 : tarr Tryz.prog 191 = none := by kernel_rfl
@[simp] theorem tifc191 : tifc Tryz.prog 191 = some false := by kernel_rfl
@[simp] theorem pzero191 : pzero Tryz.prog 191 = some (.agg [.v (.int .i64 0), .v (.int .i64 0), .v (.int .i64 0), .v (.int .i64 0), .v (.int .i64 0)]) := by kernel_rfl
@[simp] theorem tfld191x0 : tfld Tryz.prog 191 0 = some (0, 3) := by kernel_rfl
@[simp] theorem tfld191x1 : tfld Tryz.prog 191 1 = some (1, 3) := by kernel_rfl
@[simp] theorem tfld191x2 : tfld Tryz.prog 191 2 = some (2, 3) := by kernel_rfl
@[simp] theorem tfld191x3 : tfld Tryz.prog 191 3 = some (3, 3) := by kernel_rfl
@[simp] theorem tfld191x4 : tfld Tryz.prog 191 4 = some (4, 3) := by kernel_rfl
@[simp] theorem tpl191 : tpl Tryz.prog 191 = some [(0, 1), (1, 1), (2, 1), (3, 1), (4, 1)] := by kernel_rfl
@[simp] theorem teqf191 : teqf Tryz.prog 191 = some [(0, 0), (1, 0), (2, 0), (3, 0), (4, 0)] := by kernel_rfl
@[simp] theorem tbytes191 : tbytes Tryz.prog 191 = some 40 := by kernel_rfl
@[simp] theorem tzero191 : tzero Tryz.prog 191 = some [.v (.int .i64 0), .v (.int .i64 0), .v (.int .i64 0), .v (.int .i64 0), .v (.int .i64 0)] := by kernel_rfl
@[simp] theorem tsz192 : tsz Tryz.prog 192 = some 5 := by kernel_rfl
@[simp] theorem trow192 : trow Tryz.prog 192 = some true := by kernel_rfl
@[simp] theorem tel192 : tel Tryz.prog 192 = none := by kernel_rfl
@[simp] theorem tarr192 : tarr Tryz.prog 192 = none := by kernel_rfl
@[simp] theorem tifc192 : tifc Tryz.prog 192 = some false := by kernel_rfl
@[simp] theorem pzero192 : pzero Tryz.prog 192 = some (.agg [.v (.int .i64 0), .v (.int .i64 0), .v (.int .i64 0), .v (.int .i64 0), .v (.int .i64 0)]) := by kernel_rfl
@[simp] theorem tfld192x0 : tfld Tryz.prog 192 0 = some (0, 3) := by kernel_rfl
@[simp] theorem tfld192x1 : tfld Tryz.prog 192 1 = some (1, 3) := by kernel_rfl
@[simp] theorem tfld192x2 : tfld Tryz.prog 192 2 = some (2, 3) := by kernel_rfl
@[simp] theorem tfld192x3 : tfld Tryz.prog 192 3 = some (3, 3) := by kernel_rfl
@[simp] theorem tfld192x4 : tfld Tryz.prog 192 4 = some (4, 3) := by kernel_rfl
@[simp] theorem tpl192 : tpl Tryz.prog 192 = some [(0, 1), (1, 1), (2, 1), (3, 1), (4, 1)] := by kernel_rfl
@[simp] theorem teqf192 : teqf Tryz.prog 192 = some [(0, 0), (1, 0), (2, 0), (3, 0), (4, 0)] := by kernel_rfl
@[simp] theorem tbytes192 : tbytes Tryz.prog 192 = some 40 := by kernel_rfl
@[simp] theorem tzero192 : tzero Tryz.prog 192 = some [.v (.int .i64 0), .v (.int .i64 0), .v (.int .i64 0), .v (.int .i64 0), .v (.int .i64 0)] := by kernel_rfl
@[simp] theorem tsz193 : tsz Tryz.prog 193 = some 1 := by kernel_rfl
@[simp] theorem trow193 : trow Tryz.prog 193 = some false := by kernel_rfl
@[simp] theorem tel193 : tel Tryz.prog 193 = none := by kernel_rfl
@[simp] theorem tarr193 : tarr Tryz.prog 193 = none := by kernel_rfl
@[simp] theorem tifc193 : tifc Tryz.prog 193 = some false := by kernel_rfl
@[simp] theorem pzero193 : pzero Tryz.prog 193 = some (.v (.nilFunc)) := by kernel_rfl
@[simp] theorem tbytes193 : tbytes Tryz.prog 193 = some 8 := by kernel_rfl
@[simp] theorem tzero193 : tzero Tryz.prog 193 = some [.v (.nilFunc)] := by kernel_rfl
@[simp] theorem tsz194 : tsz Tryz.prog 194 = some 1 := by kernel_rfl
@[simp] theorem trow194 : trow Tryz.prog 194 = some false := by kernel_rfl
@[simp] theorem tel194 : tel Tryz.prog 194 = none := by kernel_rfl
@[simp] theorem tarr194 : tarr Tryz.prog 194 = none := by kernel_rfl
@[simp] theorem tifc194 : tifc Tryz.prog 194 = some false := by kernel_rfl
@[simp] theorem pzero194 : pzero Tryz.prog 194 = some (.v (.nilFunc)) := by kernel_rfl
@[simp] theorem tbytes194 : tbytes Tryz.prog 194 = some 8 := by kernel_rfl
@[simp] theorem tzero194 : tzero Tryz.prog 194 = some [.v (.nilFunc)] := by kernel_rfl
@[simp] theorem tsz195 : tsz Tryz.prog 195 = some 1 := by kernel_rfl
@[simp] theorem trow195 : trow Tryz.prog 195 = some false := by kernel_rfl
@[simp] theorem tel195 : tel Tryz.prog 195 = none := by kernel_rfl
@[simp] theorem tarr195 : tarr Tryz.prog 195 = none := by kernel_rfl
@[simp] theorem tifc195 : tifc Tryz.prog 195 = some false := by kernel_rfl
@[simp] theorem pzero195 : pzero Tryz.prog 195 = some (.v (.nilFunc)) := by kernel_rfl
@[simp] theorem tbytes195 : tbytes Tryz.prog 195 = some 8 := by kernel_rfl
@[simp] theorem tzero195 : tzero Tryz.prog 195 = some [.v (.nilFunc)] := by kernel_rfl
@[simp] theorem tsz196 : tsz Tryz.prog 196 = some 1 := by kernel_rfl
@[simp] theorem trow196 : trow Tryz.prog 196 = some false := by kernel_rfl
@[simp] theorem tel196 : tel Tryz.prog 196 = none := by kernel_rfl
@[simp] theorem tarr196 : tarr Tryz.prog 196 = none := by kernel_rfl
@[simp] theorem tifc196 : tifc Tryz.prog 196 = some false := by kernel_rfl
@[simp] theorem pzero196 : pzero Tryz.prog 196 = some (.v (.nilFunc)) := by kernel_rfl
@[simp] theorem tbytes196 : tbytes Tryz.prog 196 = some 8 := by kernel_rfl
@[simp] theorem tzero196 : tzero Tryz.prog 196 = some [.v (.nilFunc)] := by kernel_rfl
@[simp] theorem tsz197 : tsz Tryz.prog 197 = some 1 := by kernel_rfl
@[simp] theorem trow197 : trow Tryz.prog 197 = some false := by kernel_rfl
@[simp] theorem tel197 : tel Tryz.prog 197 = none := by kernel_rfl
@[simp] theorem tarr197 : tarr Tryz.prog 197 = none := by kernel_rfl
@[simp] theorem tifc197 : tifc Tryz.prog 197 = some false := by kernel_rfl
@[simp] theorem pzero197 : pzero Tryz.prog 197 = some (.v (.nilFunc)) := by kernel_rfl
@[simp] theorem tbytes197 : tbytes Tryz.prog 197 = some 8 := by kernel_rfl
@[simp] theorem tzero197 : tzero Tryz.prog 197 = some [.v (.nilFunc)] := by kernel_rfl
@[simp] theorem tsz198 : tsz Tryz.prog 198 = some 1 := by kernel_rfl
@[simp] theorem trow198 : trow Tryz.prog 198 = some false := by kernel_rfl
@[simp] theorem tel198 : tel Tryz.prog 198 = none := by kernel_rfl
@[simp] theorem tarr198 : tarr Tryz.prog 198 = none := by kernel_rfl
@[simp] theorem tifc198 : tifc Tryz.prog 198 = some false := by kernel_rfl
@[simp] theorem pzero198 : pzero Tryz.prog 198 = some (.v (.nilFunc)) := by kernel_rfl
@[simp] theorem tbytes198 : tbytes Tryz.prog 198 = some 8 := by kernel_rfl
@[simp] theorem tzero198 : tzero Tryz.prog 198 = some [.v (.nilFunc)] := by kernel_rfl
@[simp] theorem tsz199 : tsz Tryz.prog 199 = some 1 := by kernel_rfl
@[simp] theorem trow199 : trow Tryz.prog 199 = some false := by kernel_rfl
@[simp] theorem tel199 : tel Tryz.prog 199 = none := by kernel_rfl
@[simp] theorem tarr199 : tarr Tryz.prog 199 = none := by kernel_rfl
@[simp] theorem tifc199 : tifc Tryz.prog 199 = some false := by kernel_rfl
@[simp] theorem pzero199 : pzero Tryz.prog 199 = some (.v (.nilFunc)) := by kernel_rfl
@[simp] theorem tbytes199 : tbytes Tryz.prog 199 = some 8 := by kernel_rfl
@[simp] theorem tzero199 : tzero Tryz.prog 199 = some [.v (.nilFunc)] := by kernel_rfl
@[simp] theorem tsz200 : tsz Tryz.prog 200 = some 1 := by kernel_rfl
@[simp] theorem trow200 : trow Tryz.prog 200 = some false := by kernel_rfl
@[simp] theorem tel200 : tel Tryz.prog 200 = none := by kernel_rfl
@[simp] theorem tarr200 : tarr Tryz.prog 200 = none := by kernel_rfl
@[simp] theorem tifc200 : tifc Tryz.prog 200 = some false := by kernel_rfl
@[simp] theorem pzero200 : pzero Tryz.prog 200 = some (.v (.pointer none)) := by kernel_rfl
@[simp] theorem tbytes200 : tbytes Tryz.prog 200 = some 8 := by kernel_rfl
@[simp] theorem tzero200 : tzero Tryz.prog 200 = some [.v (.pointer none)] := by kernel_rfl
@[simp] theorem tsz201 : tsz Tryz.prog 201 = some 1 := by kernel_rfl
@[simp] theorem trow201 : trow Tryz.prog 201 = some false := by kernel_rfl
@[simp] theorem tel201 : tel Tryz.prog 201 = none := by kernel_rfl
@[simp] theorem tarr201 : tarr Tryz.prog 201 = none := by kernel_rfl
@[simp] theorem tifc201 : tifc Tryz.prog 201 = some true := by kernel_rfl
@[simp] theorem pzero201 : pzero Tryz.prog 201 = some (.v (.nilIface)) := by kernel_rfl
@[simp] theorem tbytes201 : tbytes Tryz.prog 201 = some 16 := by kernel_rfl
@[simp] theorem tzero201 : tzero Tryz.prog 201 = some [.v (.nilIface)] := by kernel_rfl
@[simp] theorem tsz202 : tsz Tryz.prog 202 = some 1 := by kernel_rfl
@[simp] theorem trow202 : trow Tryz.prog 202 = some false := by kernel_rfl
@[simp] theorem tel202 : tel Tryz.prog 202 = none := by kernel_rfl
@[simp] theorem tarr202 : tarr Tryz.prog 202 = none := by kernel_rfl
@[simp] theorem tifc202 : tifc Tryz.prog 202 = some true := by kernel_rfl
@[simp] theorem pzero202 : pzero Tryz.prog 202 = some (.v (.nilIface)) := by kernel_rfl
@[simp] theorem tbytes202 : tbytes Tryz.prog 202 = some 16 := by kernel_rfl
@[simp] theorem tzero202 : tzero Tryz.prog 202 = some [.v (.nilIface)] := by kernel_rfl
@[simp] theorem tsz204 : tsz Tryz.prog 204 = some 1 := by kernel_rfl
@[simp] theorem trow204 : trow Tryz.prog 204 = some false := by kernel_rfl
@[simp] theorem tel204 : tel Tryz.prog 204 = none := by kernel_rfl
@[simp] theorem tarr204 : tarr Tryz.prog 204 = none := by kernel_rfl
@[simp] theorem tifc204 : tifc Tryz.prog 204 = some false := by kernel_rfl
@[simp] theorem pzero204 : pzero Tryz.prog 204 = some (.v (.nilFunc)) := by kernel_rfl
@[simp] theorem tbytes204 : tbytes Tryz.prog 204 = some 8 := by kernel_rfl
@[simp] theorem tzero204 : tzero Tryz.prog 204 = some [.v (.nilFunc)] := by kernel_rfl
@[simp] theorem tsz205 : tsz Tryz.prog 205 = some 1 := by kernel_rfl
@[simp] theorem trow205 : trow Tryz.prog 205 = some false := by kernel_rfl
@[simp] theorem tel205 : tel Tryz.prog 205 = none := by kernel_rfl
@[simp] theorem tarr205 : tarr Tryz.prog 205 = none := by kernel_rfl
@[simp] theorem tifc205 : tifc Tryz.prog 205 = some false := by kernel_rfl
@[simp] theorem pzero205 : pzero Tryz.prog 205 = some (.v (.nilFunc)) := by kernel_rfl
@[simp] theorem tbytes205 : tbytes Tryz.prog 205 = some 8 := by kernel_rfl
@[simp] theorem tzero205 : tzero Tryz.prog 205 = some [.v (.nilFunc)] := by kernel_rfl
@[simp] theorem tsz206 : tsz Tryz.prog 206 = some 1 := by kernel_rfl
@[simp] theorem trow206 : trow Tryz.prog 206 = some false := by kernel_rfl
@[simp] theorem tel206 : tel Tryz.prog 206 = none := by kernel_rfl
@[simp] theorem tarr206 : tarr Tryz.prog 206 = none := by kernel_rfl
@[simp] theorem tifc206 : tifc Tryz.prog 206 = some false := by kernel_rfl
@[simp] theorem pzero206 : pzero Tryz.prog 206 = some (.v (.pointer none)) := by kernel_rfl
@[simp] theorem tbytes206 : tbytes Tryz.prog 206 = some 8 := by kernel_rfl
@[simp] theorem tzero206 : tzero Tryz.prog 206 = some [.v (.pointer none)] := by kernel_rfl
@[simp] theorem tsz207 : tsz Tryz.prog 207 = some 1 := by kernel_rfl
@[simp] theorem trow207 : trow Tryz.prog 207 = some false := by kernel_rfl
@[simp] theorem tel207 : tel Tryz.prog 207 = none := by kernel_rfl
@[simp] theorem tarr207 : tarr Tryz.prog 207 = none := by kernel_rfl
@[simp] theorem tifc207 : tifc Tryz.prog 207 = some false := by kernel_rfl
@[simp] theorem pzero207 : pzero Tryz.prog 207 = some (.v (.nilFunc)) := by kernel_rfl
@[simp] theorem tbytes207 : tbytes Tryz.prog 207 = some 8 := by kernel_rfl
@[simp] theorem tzero207 : tzero Tryz.prog 207 = some [.v (.nilFunc)] := by kernel_rfl
@[simp] theorem tsz208 : tsz Tryz.prog 208 = some 1 := by kernel_rfl
@[simp] theorem trow208 : trow Tryz.prog 208 = some false := by kernel_rfl
@[simp] theorem tel208 : tel Tryz.prog 208 = none := by kernel_rfl
@[simp] theorem tarr208 : tarr Tryz.prog 208 = none := by kernel_rfl
@[simp] theorem tifc208 : tifc Tryz.prog 208 = some false := by kernel_rfl
@[simp] theorem pzero208 : pzero Tryz.prog 208 = some (.v (.nilFunc)) := by kernel_rfl
@[simp] theorem tbytes208 : tbytes Tryz.prog 208 = some 8 := by kernel_rfl
@[simp] theorem tzero208 : tzero Tryz.prog 208 = some [.v (.nilFunc)] := by kernel_rfl
@[simp] theorem tsz209 : tsz Tryz.prog 209 = some 1 := by kernel_rfl
@[simp] theorem trow209 : trow Tryz.prog 209 = some false := by kernel_rfl
@[simp] theorem tel209 : tel Tryz.prog 209 = none := by kernel_rfl
@[simp] theorem tarr209 : tarr Tryz.prog 209 = none := by kernel_rfl
@[simp] theorem tifc209 : tifc Tryz.prog 209 = some false := by kernel_rfl
@[simp] theorem pzero209 : pzero Tryz.prog 209 = some (.v (.nilFunc)) := by kernel_rfl
@[simp] theorem tbytes209 : tbytes Tryz.prog 209 = some 8 := by kernel_rfl
@[simp] theorem tzero209 : tzero Tryz.prog 209 = some [.v (.nilFunc)] := by kernel_rfl
@[simp] theorem tsz211 : tsz Tryz.prog 211 = some 1 := by kernel_rfl
@[simp] theorem trow211 : trow Tryz.prog 211 = some false := by kernel_rfl
@[simp] theorem tel211 : tel Tryz.prog 211 = none := by kernel_rfl
@[simp] theorem tarr211 : tarr Tryz.prog 211 = none := by kernel_rfl
@[simp] theorem tifc211 : tifc Tryz.prog 211 = some false := by kernel_rfl
@[simp] theorem pzero211 : pzero Tryz.prog 211 = some (.v (.nilFunc)) := by kernel_rfl
@[simp] theorem tbytes211 : tbytes Tryz.prog 211 = some 8 := by kernel_rfl
@[simp] theorem tzero211 : tzero Tryz.prog 211 = some [.v (.nilFunc)] := by kernel_rfl
@[simp] theorem tsz212 : tsz Tryz.prog 212 = some 1 := by kernel_rfl
@[simp] theorem trow212 : trow Tryz.prog 212 = some false := by kernel_rfl
@[simp] theorem tel212 : tel Tryz.prog 212 = none := by kernel_rfl
@[simp] theorem tarr212 : tarr Tryz.prog 212 = none := by kernel_rfl
@[simp] theorem tifc212 : tifc Tryz.prog 212 = some false := by kernel_rfl
@[simp] theorem pzero212 : pzero Tryz.prog 212 = some (.v (.nilFunc)) := by kernel_rfl
@[simp] theorem tbytes212 : tbytes Tryz.prog 212 = some 8 := by kernel_rfl
@[simp] theorem tzero212 : tzero Tryz.prog 212 = some [.v (.nilFunc)] := by kernel_rfl
@[simp] theorem tsz213 : tsz Tryz.prog 213 = some 1 := by kernel_rfl
@[simp] theorem trow213 : trow Tryz.prog 213 = some false := by kernel_rfl
@[simp] theorem tel213 : tel Tryz.prog 213 = none := by kernel_rfl
@[simp] theorem tarr213 : tarr Tryz.prog 213 = none := by kernel_rfl
@[simp] theorem tifc213 : tifc Tryz.prog 213 = some false := by kernel_rfl
@[simp] theorem pzero213 : pzero Tryz.prog 213 = some (.v (.nilFunc)) := by kernel_rfl
@[simp] theorem tbytes213 : tbytes Tryz.prog 213 = some 8 := by kernel_rfl
@[simp] theorem tzero213 : tzero Tryz.prog 213 = some [.v (.nilFunc)] := by kernel_rfl
@[simp] theorem tsz214 : tsz Tryz.prog 214 = some 1 := by kernel_rfl
@[simp] theorem trow214 : trow Tryz.prog 214 = some false := by kernel_rfl
@[simp] theorem tel214 : tel Tryz.prog 214 = none := by kernel_rfl
@[simp] theorem tarr214 : tarr Tryz.prog 214 = none := by kernel_rfl
@[simp] theorem tifc214 : tifc Tryz.prog 214 = some false := by kernel_rfl
@[simp] theorem pzero214 : pzero Tryz.prog 214 = some (.v (.nilFunc)) := by kernel_rfl
@[simp] theorem tbytes214 : tbytes Tryz.prog 214 = some 8 := by kernel_rfl
@[simp] theorem tzero214 : tzero Tryz.prog 214 = some [.v (.nilFunc)] := by kernel_rfl
@[simp] theorem tsz215 : tsz Tryz.prog 215 = some 1 := by kernel_rfl
@[simp] theorem trow215 : trow Tryz.prog 215 = some false := by kernel_rfl
@[simp] theorem tel215 : tel Tryz.prog 215 = none := by kernel_rfl
@[simp] theorem tarr215 : tarr Tryz.prog 215 = none := by kernel_rfl
@[simp] theorem tifc215 : tifc Tryz.prog 215 = some false := by kernel_rfl
@[simp] theorem pzero215 : pzero Tryz.prog 215 = some (.v (.nilFunc)) := by kernel_rfl
@[simp] theorem tbytes215 : tbytes Tryz.prog 215 = some 8 := by kernel_rfl
@[simp] theorem tzero215 : tzero Tryz.prog 215 = some [.v (.nilFunc)] := by kernel_rfl
@[simp] theorem tsz216 : tsz Tryz.prog 216 = some 1 := by kernel_rfl
@[simp] theorem trow216 : trow Tryz.prog 216 = some false := by kernel_rfl
@[simp] theorem tel216 : tel Tryz.prog 216 = none := by kernel_rfl
@[simp] theorem tarr216 : tarr Tryz.prog 216 = none := by kernel_rfl
@[simp] theorem tifc216 : tifc Tryz.prog 216 = some false := by kernel_rfl
@[simp] theorem pzero216 : pzero Tryz.prog 216 = some (.v (.nilFunc)) := by kernel_rfl
@[simp] theorem tbytes216 : tbytes Tryz.prog 216 = some 8 := by kernel_rfl
@[simp] theorem tzero216 : tzero Tryz.prog 216 = some [.v (.nilFunc)] := by kernel_rfl
@[simp] theorem tsz217 : tsz Tryz.prog 217 = some 1 := by kernel_rfl
@[simp] theorem trow217 : trow Tryz.prog 217 = some false := by kernel_rfl
@[simp] theorem tel217 : tel Tryz.prog 217 = none := by kernel_rfl
@[simp] theorem tarr217 : tarr Tryz.prog 217 = none := by kernel_rfl
@[simp] theorem tifc217 : tifc Tryz.prog 217 = some false := by kernel_rfl
@[simp] theorem pzero217 : pzero Tryz.prog 217 = some (.v (.nilFunc)) := by kernel_rfl
@[simp] theorem tbytes217 : tbytes Tryz.prog 217 = some 8 := by kernel_rfl
@[simp] theorem tzero217 : tzero Tryz.prog 217 = some [.v (.nilFunc)] := by kernel_rfl
@[simp] theorem tsz218 : tsz Tryz.prog 218 = some 1 := by kernel_rfl
@[simp] theorem trow218 : trow Tryz.prog 218 = some false := by kernel_rfl
@[simp] theorem tel218 : tel Tryz.prog 218 = none := by kernel_rfl
@[simp] theorem tarr218 : tarr Tryz.prog 218 = none := by kernel_rfl
@[simp] theorem tifc218 : tifc Tryz.prog 218 = some false := by kernel_rfl
@[simp] theorem pzero218 : pzero Tryz.prog 218 = some (.v (.nilFunc)) := by kernel_rfl
@[simp] theorem tbytes218 : tbytes Tryz.prog 218 = some 8 := by kernel_rfl
@[simp] theorem tzero218 : tzero Tryz.prog 218 = some [.v (.nilFunc)] := by kernel_rfl
@[simp] theorem tsz219 : tsz Tryz.prog 219 = some 1 := by kernel_rfl
@[simp] theorem trow219 : trow Tryz.prog 219 = some false := by kernel_rfl
@[simp] theorem tel219 : tel Tryz.prog 219 = none := by kernel_rfl
@[simp] theorem tarr219 : tarr Tryz.prog 219 = none := by kernel_rfl
@[simp] theorem tifc219 : tifc Tryz.prog 219 = some false := by kernel_rfl
@[simp] theorem pzero219 : pzero Tryz.prog 219 = some (.v (.nilFunc)) := by kernel_rfl
@[simp] theorem tbytes219 : tbytes Tryz.prog 219 = some 8 := by kernel_rfl
@[simp] theorem tzero219 : tzero Tryz.prog 219 = some [.v (.nilFunc)] := by kernel_rfl
@[simp] theorem tsz220 : tsz Tryz.prog 220 = some 1 := by kernel_rfl
@[simp] theorem trow220 : trow Tryz.prog 220 = some false := by kernel_rfl
@[simp] theorem tel220 : tel Tryz.prog 220 = none := by kernel_rfl
@[simp] theorem tarr220 : tarr Tryz.prog 220 = none := by kernel_rfl
@[simp] theorem tifc220 : tifc Tryz.prog 220 = some false := by kernel_rfl
@[simp] theorem pzero220 : pzero Tryz.prog 220 = some (.v (.nilFunc)) := by kernel_rfl
@[simp] theorem tbytes220 : tbytes Tryz.prog 220 = some 8 := by kernel_rfl
@[simp] theorem tzero220 : tzero Tryz.prog 220 = some [.v (.nilFunc)] := by kernel_rfl
@[simp] theorem tsz222 : tsz Tryz.prog 222 = some 1 := by kernel_rfl
@[simp] theorem trow222 : trow Tryz.prog 222 = some false := by kernel_rfl
@[simp] theorem tel222 : tel Tryz.prog 222 = none := by kernel_rfl
@[simp] theorem tarr222 : tarr Tryz.prog 222 = none := by kernel_rfl
@[simp] theorem tifc222 : tifc Tryz.prog 222 = some false := by kernel_rfl
@[simp] theorem pzero222 : pzero Tryz.prog 222 = some (.v (.nilFunc)) := by kernel_rfl
@[simp] theorem tbytes222 : tbytes Tryz.prog 222 = some 8 := by kernel_rfl
@[simp] theorem tzero222 : tzero Tryz.prog 222 = some [.v (.nilFunc)] := by kernel_rfl
@[simp] theorem tsz223 : tsz Tryz.prog 223 = some 1 := by kernel_rfl
@[simp] theorem trow223 : trow Tryz.prog 223 = some false := by kernel_rfl
@[simp] theorem tel223 : tel Tryz.prog 223 = none := by kernel_rfl
@[simp] theorem tarr223 : tarr Tryz.prog 223 = none := by kernel_rfl
@[simp] theorem tifc223 : tifc Tryz.prog 223 = some false := by kernel_rfl
@[simp] theorem pzero223 : pzero Tryz.prog 223 = some (.v (.nilFunc)) := by kernel_rfl
@[simp] theorem tbytes223 : tbytes Tryz.prog 223 = some 8 := by kernel_rfl
@[simp] theorem tzero223 : tzero Tryz.prog 223 = some [.v (.nilFunc)] := by kernel_rfl
@[simp] theorem tsz224 : tsz Tryz.prog 224 = some 1 := by kernel_rfl
@[simp] theorem trow224 : trow Tryz.prog 224 = some false := by kernel_rfl
@[simp] theorem tel224 : tel Tryz.prog 224 = none := by kernel_rfl
@[simp] theorem tarr224 : tarr Tryz.prog 224 = none := by kernel_rfl
@[simp] theorem tifc224 : tifc Tryz.prog 224 = some false := by kernel_rfl
@[simp] theorem pzero224 : pzero Tryz.prog 224 = some (.v (.nilFunc)) := by kernel_rfl
@[simp] theorem tbytes224 : tbytes Tryz.prog 224 = some 8 := by kernel_rfl
@[simp] theorem tzero224 : tzero Tryz.prog 224 = some [.v (.nilFunc)] := by kernel_rfl
@[simp] theorem tsz225 : tsz Tryz.prog 225 = some 1 := by kernel_rfl
@[simp] theorem trow225 : trow Tryz.prog 225 = some false := by kernel_rfl
@[simp] theorem tel225 : tel Tryz.prog 225 = none := by kernel_rfl
@[simp] theorem tarr225 : tarr Tryz.prog 225 = none := by kernel_rfl
@[simp] theorem tifc225 : tifc Tryz.prog 225 = some false := by kernel_rfl
@[simp] theorem pzero225 : pzero Tryz.prog 225 = some (.v (.nilFunc)) := by kernel_rfl
@[simp] theorem tbytes225 : tbytes Tryz.prog 225 = some 8 := by kernel_rfl
@[simp] theorem tzero225 : tzero Tryz.prog 225 = some [.v (.nilFunc)] := by kernel_rfl
@[simp] theorem tsz227 : tsz Tryz.prog 227 = some 1 := by kernel_rfl
@[simp] theorem trow227 : trow Tryz.prog 227 = some false := by kernel_rfl
@[simp] theorem tel227 : tel Tryz.prog 227 = none := by kernel_rfl
@[simp] theorem tarr227 : tarr Tryz.prog 227 = none := by kernel_rfl
@[simp] theorem tifc227 : tifc Tryz.prog 227 = some false := by kernel_rfl
@[simp] theorem pzero227 : pzero Tryz.prog 227 = some (.v (.nilFunc)) := by kernel_rfl
@[simp] theorem tbytes227 : tbytes Tryz.prog 227 = some 8 := by kernel_rfl
@[simp] theorem tzero227 : tzero Tryz.prog 227 = some [.v (.nilFunc)] := by kernel_rfl
@[simp] theorem tsz228 : tsz Tryz.prog 228 = some 1 := by kernel_rfl
@[simp] theorem trow228 : trow Tryz.prog 228 = some false := by kernel_rfl
@[simp] theorem tel228 : tel Tryz.prog 228 = none := by kernel_rfl
@[simp] theorem tarr228 : tarr Tryz.prog 228 = none := by kernel_rfl
@[simp] theorem tifc228 : tifc Tryz.prog 228 = some false := by kernel_rfl
@[simp] theorem pzero228 : pzero Tryz.prog 228 = some (.v (.nilFunc)) := by kernel_rfl
@[simp] theorem tbytes228 : tbytes Tryz.prog 228 = some 8 := by kernel_rfl
@[simp] theorem tzero228 : tzero Tryz.prog 228 = some [.v (.nilFunc)] := by kernel_rfl
@[simp] theorem tsz229 : tsz Tryz.prog 229 = some 1 := by kernel_rfl
@[simp] theorem trow229 : trow Tryz.prog 229 = some false := by kernel_rfl
@[simp] theorem tel229 : tel Tryz.prog 229 = none := by kernel_rfl
@[simp] theorem tarr229 : tarr Tryz.prog 229 = none := by kernel_rfl
@[simp] theorem tifc229 : tifc Tryz.prog 229 = some false := by kernel_rfl
@[simp] theorem pzero229 : pzero Tryz.prog 229 = some (.v (.nilFunc)) := by kernel_rfl
@[simp] theorem tbytes229 : tbytes Tryz.prog 229 = some 8 := by kernel_rfl
@[simp] theorem tzero229 : tzero Tryz.prog 229 = some [.v (.nilFunc)] := by kernel_rfl
@[simp] theorem tsz230 : tsz Tryz.prog 230 = some 1 := by kernel_rfl
@[simp] theorem trow230 : trow Tryz.prog 230 = some false := by kernel_rfl
@[simp] theorem tel230 : tel Tryz.prog 230 = none := by kernel_rfl
@[simp] theorem tarr230 : tarr Tryz.prog 230 = none := by kernel_rfl
@[simp] theorem tifc230 : tifc Tryz.prog 230 = some false := by kernel_rfl
@[simp] theorem pzero230 : pzero Tryz.prog 230 = some (.v (.nilFunc)) := by kernel_rfl
@[simp] theorem tbytes230 : tbytes Tryz.prog 230 = some 8 := by kernel_rfl
@[simp] theorem tzero230 : tzero Tryz.prog 230 = some [.v (.nilFunc)] := by kernel_rfl
@[simp] theorem tsz231 : tsz Tryz.prog 231 = some 1 := by kernel_rfl
@[simp] theorem trow231 : trow Tryz.prog 231 = some false := by kernel_rfl
@[simp] theorem tel231 : tel Tryz.prog 231 = none := by kernel_rfl
@[simp] theorem tarr231 : tarr Tryz.prog 231 = none := by kernel_rfl
@[simp] theorem tifc231 : tifc Tryz.prog 231 = some false := by kernel_rfl
@[simp] theorem pzero231 : pzero Tryz.prog 231 = some (.v (.nilFunc)) := by kernel_rfl
@[simp] theorem tbytes231 : tbytes Tryz.prog 231 = some 8 := by kernel_rfl
@[simp] theorem tzero231 : tzero Tryz.prog 231 = some [.v (.nilFunc)] := by kernel_rfl
@[simp] theorem tsz232 : tsz Tryz.prog 232 = some 24 := by kernel_rfl
@[simp] theorem trow232 : trow Tryz.prog 232 = some true := by kernel_rfl
@[simp] theorem tel232 : tel Tryz.prog 232 = none := by kernel_rfl
@[simp] theorem tarr232 : tarr Tryz.prog 232 = some (24, 5) := by kernel_rfl
@[simp] theorem tifc232 : tifc Tryz.prog 232 = some false := by kernel_rfl
@[simp] theorem pzero232 : pzero Tryz.prog 232 = some (.agg [.v (.int .u8 0), .v (.int .u8 0), .v (.int .u8 0), .v (.int .u8 0), .v (.int .u8 0), .v (.int .u8 0), .v (.int .u8 0), .v (.int .u8 0), .v (.int .u8 0), .v (.int .u8 0), .v (.int .u8 0), .v (.int .u8 0), .v (.int .u8 0), .v (.int .u8 0), .v (.int .u8 0), .v (.int .u8 0), .v (.int .u8 0), .v (.int .u8 0), .v (.int .u8 0), .v (.int .u8 0), .v (.int .u8 0), .v (.int .u8 0), .v (.int .u8 0), .v (.int .u8 0)]) := by kernel_rfl
@[simp] theorem tpl232 : tpl Tryz.prog 232 = none := by kernel_rfl
@[simp] theorem tbytes232 : tbytes Tryz.prog 232 = some 24 := by kernel_rfl
@[simp] theorem tzero232 : tzero Tryz.prog 232 = some [.v (.int .u8 0), .v (.int .u8 0), .v (.int .u8 0), .v (.int .u8 0), .v (.int .u8 0), .v (.int .u8 0), .v (.int .u8 0), .v (.int .u8 0), .v (.int .u8 0), .v (.int .u8 0), .v (.int .u8 0), .v (.int .u8 0), .v (.int .u8 0), .v (.int .u8 0), .v (.int .u8 0), .v (.int .u8 0), .v (.int .u8 0), .v (.int .u8 0), .v (.int .u8 0), .v (.int .u8 0), .v (.int .u8 0), .v (.int .u8 0), .v (.int .u8 0), .v (.int .u8 0)] := by kernel_rfl
@[simp] theorem tsz233 : tsz Tryz.prog 233 = some 1 := by kernel_rfl
@[simp] theorem trow233 : trow Tryz.prog 233 = some false := by kernel_rfl
@[simp] theorem tel233 : tel Tryz.prog 233 = none := by kernel_rfl
@[simp] theorem tarr233 : tarr Tryz.prog 233 = none := by kernel_rfl
@[simp] theorem tifc233 : tifc Tryz.prog 233 = some false := by kernel_rfl
@[simp] theorem pzero233 : pzero Tryz.prog 233 = some (.v (.int .u64 0)) := by kernel_rfl
@[simp] theorem tint233 : tint Tryz.prog 233 = some .u64 := by kernel_rfl
@[simp] theorem tbytes233 : tbytes Tryz.prog 233 = some 8 := by kernel_rfl
@[simp] theorem tzero233 : tzero Tryz.prog 233 = some [.v (.int .u64 0)] := by kernel_rfl
@[simp] theorem tsz234 : tsz Tryz.prog 234 = some 1 := by kernel_rfl
@[simp] theorem trow234 : trow Tryz.prog 234 = some false := by kernel_rfl
@[simp] theorem tel234 : tel Tryz.prog 234 = none := by kernel_rfl
@[simp] theorem tarr234 : tarr Tryz.prog 234 = none := by kernel_rfl
@[simp] theorem tifc234 : tifc Tryz.prog 234 = some false := by kernel_rfl
@[simp] theorem pzero234 : pzero Tryz.prog 234 = some (.v (.nilFunc)) := by kernel_rfl
@[simp] theorem tbytes234 : tbytes Tryz.prog 234 = some 8 := by kernel_rfl
@[simp] theorem tzero234 : tzero Tryz.prog 234 = some [.v (.nilFunc)] := by kernel_rfl
@[simp] theorem tsz235 : tsz Tryz.prog 235 = some 1 := by kernel_rfl
@[simp] theorem trow235 : trow Tryz.prog 235 = some false := by kernel_rfl
@[simp] theorem tel235 : tel Tryz.prog 235 = none := by kernel_rfl
@[simp] theorem tarr235 : tarr Tryz.prog 235 = none := by kernel_rfl
@[simp] theorem tifc235 : tifc Tryz.prog 235 = some false := by kernel_rfl
@[simp] theorem pzero235 : pzero Tryz.prog 235 = some (.v (.nilFunc)) := by kernel_rfl
@[simp] theorem tbytes235 : tbytes Tryz.prog 235 = some 8 := by kernel_rfl
@[simp] theorem tzero235 : tzero Tryz.prog 235 = some [.v (.nilFunc)] := by kernel_rfl
@[simp] theorem tsz237 : tsz Tryz.prog 237 = some 1 := by kernel_rfl
@[simp] theorem trow237 : trow Tryz.prog 237 = some false := by kernel_rfl
@[simp] theorem tel237 : tel Tryz.prog 237 = none := by kernel_rfl
@[simp] theorem tarr237 : tarr Tryz.prog 237 = none := by kernel_rfl
@[simp] theorem tifc237 : tifc Tryz.prog 237 = some false := by kernel_rfl
@[simp] theorem pzero237 : pzero Tryz.prog 237 = some (.v (.nilFunc)) := by kernel_rfl
@[simp] theorem tbytes237 : tbytes Tryz.prog 237 = some 8 := by kernel_rfl
@[simp] theorem tzero237 : tzero Tryz.prog 237 = some [.v (.nilFunc)] := by kernel_rfl
@[simp] theorem tsz238 : tsz Tryz.prog 238 = some 1 := by kernel_rfl
@[simp] theorem trow238 : trow Tryz.prog 238 = some false := by kernel_rfl
@[simp] theorem tel238 : tel Tryz.prog 238 = none := by kernel_rfl
@[simp] theorem tarr238 : tarr Tryz.prog 238 = none := by kernel_rfl
@[simp] theorem tifc238 : tifc Tryz.prog 238 = some false := by kernel_rfl
@[simp] theorem pzero238 : pzero Tryz.prog 238 = some (.v (.nilFunc)) := by kernel_rfl
@[simp] theorem tbytes238 : tbytes Tryz.prog 238 = some 8 := by kernel_rfl
@[simp] theorem tzero238 : tzero Tryz.prog 238 = some [.v (.nilFunc)] := by kernel_rfl
@[simp] theorem tsz239 : tsz Tryz.prog 239 = some 1 := by kernel_rfl
@[simp] theorem trow239 : trow Tryz.prog 239 = some false := by kernel_rfl
@[simp] theorem tel239 : tel Tryz.prog 239 = none := by kernel_rfl
@[simp] theorem tarr239 : tarr Tryz.prog 239 = none := by kernel_rfl
@[simp] theorem tifc239 : tifc Tryz.prog 239 = some false := by kernel_rfl
@[simp] theorem pzero239 : pzero Tryz.prog 239 = some (.v (.nilFunc)) := by kernel_rfl
@[simp] theorem tbytes239 : tbytes Tryz.prog 239 = some 8 := by kernel_rfl
@[simp] theorem tzero239 : tzero Tryz.prog 239 = some [.v (.nilFunc)] := by kernel_rfl
@[simp] theorem tsz240 : tsz Tryz.prog 240 = some 1 := by kernel_rfl
@[simp] theorem trow240 : trow Tryz.prog 240 = some false := by kernel_rfl
@[simp] theorem tel240 : tel Tryz.prog 240 = none := by kernel_rfl
@[simp] theorem tarr240 : tarr Tryz.prog 240 = none := by kernel_rfl
@[simp] theorem tifc240 : tifc Tryz.prog 240 = some false := by kernel_rfl
@[simp] theorem pzero240 : pzero Tryz.prog 240 = some (.v (.int .i64 0)) := by kernel_rfl
@[simp] theorem tint240 : tint Tryz.prog 240 = some .i64 := by kernel_rfl
@[simp] theorem tbytes240 : tbytes Tryz.prog 240 = some 8 := by kernel_rfl
@[simp] theorem tzero240 : tzero Tryz.prog 240 = some [.v (.int .i64 0)] := by kernel_rfl
@[simp] theorem tsz242 : tsz Tryz.prog 242 = some 1 := by kernel_rfl
@[simp] theorem trow242 : trow Tryz.prog 242 = some false := by kernel_rfl
@[simp] theorem tel242 : tel Tryz.prog 242 = none := by kernel_rfl
@[simp] theorem tarr242 : tarr Tryz.prog 242 = none := by kernel_rfl
@[simp] theorem tifc242 : tifc Tryz.prog 242 = some false := by kernel_rfl
@[simp] theorem pzero242 : pzero Tryz.prog 242 = some (.v (.nilFunc)) := by kernel_rfl
@[simp] theorem tbytes242 : tbytes Tryz.prog 242 = some 8 := by kernel_rfl
@[simp] theorem tzero242 : tzero Tryz.prog 242 = some [.v (.nilFunc)] := by kernel_rfl
@[simp] theorem tsz243 : tsz Tryz.prog 243 = some 1 := by kernel_rfl
@[simp] theorem trow243 : trow Tryz.prog 243 = some false := by kernel_rfl
@[simp] theorem tel243 : tel Tryz.prog 243 = none := by kernel_rfl
@[simp] theorem tarr243 : tarr Tryz.prog 243 = none := by kernel_rfl
@[simp] theorem tifc243 : tifc Tryz.prog 243 = some false := by kernel_rfl
@[simp] theorem pzero243 : pzero Tryz.prog 243 = some (.v (.pointer none)) := by kernel_rfl
@[simp] theorem tbytes243 : tbytes Tryz.prog 243 = some 8 := by kernel_rfl
@[simp] theorem tzero243 : tzero Tryz.prog 243 = some [.v (.pointer none)] := by kernel_rfl
@[simp] theorem tsz244 : tsz Tryz.prog 244 = some 1 := by kernel_rfl
@[simp] theorem trow244 : trow Tryz.prog 244 = some false := by kernel_rfl
@[simp] theorem tel244 : tel Tryz.prog 244 = none := by kernel_rfl
@[simp] theorem tarr244 : tarr Tryz.prog 244 = none := by kernel_rfl
@[simp] theorem tifc244 : tifc Tryz.prog 244 = some false := by kernel_rfl
@[simp] theorem pzero244 : pzero Tryz.prog 244 = some (.v (.nilFunc)) := by kernel_rfl
@[simp] theorem tbytes244 : tbytes Tryz.prog 244 = some 8 := by kernel_rfl
@[simp] theorem tzero244 : tzero Tryz.prog 244 = some [.v (.nilFunc)] := by kernel_rfl
@[simp] theorem tsz245 : tsz Tryz.prog 245 = some 1 := by kernel_rfl
@[simp] theorem trow245 : trow Tryz.prog 245 = some false := by kernel_rfl
@[simp] theorem tel245 : tel Tryz.prog 245 = none := by kernel_rfl
@[simp] theorem tarr245 : tarr Tryz.prog 245 = none := by kernel_rfl
@[simp] theorem tifc245 : tifc Tryz.prog 245 = some false := by kernel_rfl
@[simp] theorem pzero245 : pzero Tryz.prog 245 = some (.v (.nilFunc)) := by kernel_rfl
@[simp] theorem tbytes245 : tbytes Tryz.prog 245 = some 8 := by kernel_rfl
@[simp] theorem tzero245 : tzero Tryz.prog 245 = some [.v (.nilFunc)] := by kernel_rfl
@[simp] theorem tsz246 : tsz Tryz.prog 246 = some 1 := by kernel_rfl
@[simp] theorem trow246 : trow Tryz.prog 246 = some false := by kernel_rfl
@[simp] theorem tel246 : tel Tryz.prog 246 = none := by kernel_rfl
@[simp] theorem tarr246 : tarr Tryz.prog 246 = none := by kernel_rfl
@[simp] theorem tifc246 : tifc Tryz.prog 246 = some false := by kernel_rfl
@[simp] theorem pzero246 : pzero Tryz.prog 246 = some (.v (.nilFunc)) := by kernel_rfl
@[simp] theorem tbytes246 : tbytes Tryz.prog 246 = some 8 := by kernel_rfl
@[simp] theorem tzero246 : tzero Tryz.prog 246 = some [.v (.nilFunc)] := by kernel_rfl
@[simp] theorem tsz247 : tsz Tryz.prog 247 = some 20 := by kernel_rfl
@[simp] theorem trow247 : trow Tryz.prog 247 = some true := by kernel_rfl
@[simp] theorem tel247 : tel Tryz.prog 247 = none := by kernel_rfl
@[simp] theorem tarr247 : tarr Tryz.prog 247 = some (20, 233) := by kernel_rfl
@[simp] theorem tifc247 : tifc Tryz.prog 247 = some false := by kernel_rfl
@[simp] theorem pzero247 : pzero Tryz.prog 247 = some (.agg [.v (.int .u64 0), .v (.int .u64 0), .v (.int .u64 0), .v (.int .u64 0), .v (.int .u64 0), .v (.int .u64 0), .v (.int .u64 0), .v (.int .u64 0), .v (.int .u64 0), .v (.int .u64 0), .v (.int .u64 0), .v (.int .u64 0), .v (.int .u64 0), .v (.int .u64 0), .v (.int .u64 0), .v (.int .u64 0), .v (.int .u64 0), .v (.int .u64 0), .v (.int .u64 0), .v (.int .u64 0)]) := by kernel_rfl
@[simp] theorem tpl247 : tpl Tryz.prog 247 = none := by kernel_rfl
@[simp] theorem tbytes247 : tbytes Tryz.prog 247 = some 160 := by kernel_rfl
@[simp] theorem tzero247 : tzero Tryz.prog 247 = some [.v (.int .u64 0), .v (.int .u64 0), .v (.int .u64 0), .v (.int .u64 0), .v (.int .u64 0), .v (.int .u64 0), .v (.int .u64 0), .v (.int .u64 0), .v (.int .u64 0), .v (.int .u64 0), .v (.int .u64 0), .v (.int .u64 0), .v (.int .u64 0), .v (.int .u64 0), .v (.int .u64 0), .v (.int .u64 0), .v (.int .u64 0), .v (.int .u64 0), .v (.int .u64 0), .v (.int .u64 0)] := by kernel_rfl
@[simp] theorem tsz248 : tsz Tryz.prog 248 = some 1 := by kernel_rfl
@[simp] theorem trow248 : trow Tryz.prog 248 = some false := by kernel_rfl
@[simp] theorem tel248 : tel Tryz.prog 248 = none := by kernel_rfl
@[simp] theorem tarr248 : tarr Tryz.prog 248 = none := by kernel_rfl
@[simp] theorem tifc248 : tifc Tryz.prog 248 = some false := by kernel_rfl
@[simp] theorem pzero248 : pzero Tryz.prog 248 = some (.v (.int .u32 0)) := by kernel_rfl
@[simp] theorem tint248 : tint Tryz.prog 248 = some .u32 := by kernel_rfl
@[simp] theorem tbytes248 : tbytes Tryz.prog 248 = some 4 := by kernel_rfl
@[simp] theorem tzero248 : tzero Tryz.prog 248 = some [.v (.int .u32 0)] := by kernel_rfl
@[simp] theorem tsz249 : tsz Tryz.prog 249 = some 65 := by kernel_rfl
@[simp] theorem trow249 : trow Tryz.prog 249 = some true := by kernel_rfl
@[simp] theorem tel249 : tel Tryz.prog 249 = none := by kernel_rfl
@[simp] theorem tarr249 : tarr Tryz.prog 249 = some (65, 5) := by kernel_rfl
@[simp] theorem tifc249 : tifc Tryz.prog 249 = some false := by kernel_rfl
@[simp] theorem tpl249 : tpl Tryz.prog 249 = none := by kernel_rfl
@[simp] theorem tbytes249 : tbytes Tryz.prog 249 = some 65 := by kernel_rfl
@[simp] theorem tsz250 : tsz Tryz.prog 250 = some 1 := by kernel_rfl
@[simp] theorem trow250 : trow Tryz.prog 250 = some false := by kernel_rfl
@[simp] theorem tel250 : tel Tryz.prog 250 = none := by kernel_rfl
@[simp] theorem tarr250 : tarr Tryz.prog 250 = none := by kernel_rfl
@[simp] theorem tifc250 : tifc Tryz.prog 250 = some false := by kernel_rfl
@[simp] theorem pzero250 : pzero Tryz.prog 250 = some (.v (.int .u64 0)) := by kernel_rfl
@[simp] theorem tint250 : tint Tryz.prog 250 = some .u64 := by kernel_rfl
@[simp] theorem tbytes250 : tbytes Tryz.prog 250 = some 8 := by kernel_rfl
@[simp] theorem tzero250 : tzero Tryz.prog 250 = some [.v (.int .u64 0)] := by kernel_rfl
@[simp] theorem tsz251 : tsz Tryz.prog 251 = some 1 := by kernel_rfl
@[simp] theorem trow251 : trow Tryz.prog 251 = some false := by kernel_rfl
@[simp] theorem tel251 : tel Tryz.prog 251 = none := by kernel_rfl
@[simp] theorem tarr251 : tarr Tryz.prog 251 = none := by kernel_rfl
@[simp] theorem tifc251 : tifc Tryz.prog 251 = some false := by kernel_rfl
@[simp] theorem pzero251 : pzero Tryz.prog 251 = some (.v (.nilFunc)) := by kernel_rfl
@[simp] theorem tbytes251 : tbytes Tryz.prog 251 = some 8 := by kernel_rfl
@[simp] theorem tzero251 : tzero Tryz.prog 251 = some [.v (.nilFunc)] := by kernel_rfl
@[simp] theorem tsz252 : tsz Tryz.prog 252 = some 1 := by kernel_rfl
@[simp] theorem trow252 : trow Tryz.prog 252 = some false := by kernel_rfl
@[simp] theorem tel252 : tel Tryz.prog 252 = none := by kernel_rfl
@[simp] theorem tarr252 : tarr Tryz.prog 252 = none := by kernel_rfl
@[simp] theorem tifc252 : tifc Tryz.prog 252 = some false := by kernel_rfl
@[simp] theorem pzero252 : pzero Tryz.prog 252 = some (.v (.nilFunc)) := by kernel_rfl
@[simp] theorem tbytes252 : tbytes Tryz.prog 252 = some 8 := by kernel_rfl
@[simp] theorem tzero252 : tzero Tryz.prog 252 = some [.v (.nilFunc)] := by kernel_rfl
@[simp] theorem tsz254 : tsz Tryz.prog 254 = some 1 := by kernel_rfl
@[simp] theorem trow254 : trow Tryz.prog 254 = some false := by kernel_rfl
@[simp] theorem tel254 : tel Tryz.prog 254 = none := by kernel_rfl
@[simp] theorem tarr254 : tarr Tryz.prog 254 = none := by kernel_rfl
@[simp] theorem tifc254 : tifc Tryz.prog 254 = some false := by kernel_rfl
@[simp] theorem pzero254 : pzero Tryz.prog 254 = some (.v (.nilFunc)) := by kernel_rfl
@[simp] theorem tbytes254 : tbytes Tryz.prog 254 = some 8 := by kernel_rfl
@[simp] theorem tzero254 : tzero Tryz.prog 254 = some [.v (.nilFunc)] := by kernel_rfl
@[simp] theorem tsz256 : tsz Tryz.prog 256 = some 1 := by kernel_rfl
@[simp] theorem trow256 : trow Tryz.prog 256 = some false := by kernel_rfl
@[simp] theorem tel256 : tel Tryz.prog 256 = none := by kernel_rfl
@[simp] theorem tarr256 : tarr Tryz.prog 256 = none := by kernel_rfl
@[simp] theorem tifc256 : tifc Tryz.prog 256 = some false := by kernel_rfl
@[simp] theorem pzero256 : pzero Tryz.prog 256 = some (.v (.nilFunc)) := by kernel_rfl
@[simp] theorem tbytes256 : tbytes Tryz.prog 256 = some 8 := by kernel_rfl
@[simp] theorem tzero256 : tzero Tryz.prog 256 = some [.v (.nilFunc)] := by kernel_rfl
@[simp] theorem tsz257 : tsz Tryz.prog 257 = some 1 := by kernel_rfl
@[simp] theorem trow257 : trow Tryz.prog 257 = some false := by kernel_rfl
@[simp] theorem tel257 : tel Tryz.prog 257 = none := by kernel_rfl
@[simp] theorem tarr257 : tarr Tryz.prog 257 = none := by kernel_rfl
@[simp] theorem tifc257 : tifc Tryz.prog 257 = some false := by kernel_rfl
@[simp] theorem pzero257 : pzero Tryz.prog 257 = some (.v (.nilFunc)) := by kernel_rfl
@[simp] theorem tbytes257 : tbytes Tryz.prog 257 = some 8 := by kernel_rfl
@[simp] theorem tzero257 : tzero Tryz.prog 257 = some [.v (.nilFunc)] := by kernel_rfl
@[simp] theorem tsz258 : tsz Tryz.prog 258 = some 3 := by kernel_rfl
@[simp] theorem trow258 : trow Tryz.prog 258 = some true := by kernel_rfl
@[simp] theorem tel258 : tel Tryz.prog 258 = none := by kernel_rfl
@[simp] theorem tarr258 : tarr Tryz.prog 258 = none := by kernel_rfl
@[simp] theorem tifc258 : tifc Tryz.prog 258 = some false := by kernel_rfl
@[simp] theorem pzero258 : pzero Tryz.prog 258 = some (.agg [.v (.string ByteArray.empty), .v (.string ByteArray.empty), .v (.nilIface)]) := by kernel_rfl
@[simp] theorem tfld258x0 : tfld Tryz.prog 258 0 = some (0, 9) := by kernel_rfl
@[simp] theorem tfld258x1 : tfld Tryz.prog 258 1 = some (1, 9) := by kernel_rfl
@[simp] theorem tfld258x2 : tfld Tryz.prog 258 2 = some (2, 202) := by kernel_rfl
@[simp] theorem tpl258 : tpl Tryz.prog 258 = some [(0, 1), (1, 1), (2, 1)] := by kernel_rfl
@[simp] theorem tbytes258 : tbytes Tryz.prog 258 = some 48 := by kernel_rfl
@[simp] theorem tzero258 : tzero Tryz.prog 258 = some [.v (.string ByteArray.empty), .v (.string ByteArray.empty), .v (.nilIface)] := by kernel_rfl
@[simp] theorem tsz259 : tsz Tryz.prog 259 = some 3 := by kernel_rfl
@[simp] theorem trow259 : trow Tryz.prog 259 = some true := by kernel_rfl
@[simp] theorem tel259 : tel Tryz.prog 259 = none := by kernel_rfl
@[simp] theorem tarr259 : tarr Tryz.prog 259 = none := by kernel_rfl
@[simp] theorem tifc259 : tifc Tryz.prog 259 = some false := by kernel_rfl
@[simp] theorem pzero259 : pzero Tryz.prog 259 = some (.agg [.v (.string ByteArray.empty), .v (.string ByteArray.empty), .v (.nilIface)]) := by kernel_rfl
@[simp] theorem tfld259x0 : tfld Tryz.prog 259 0 = some (0, 9) := by kernel_rfl
@[simp] theorem tfld259x1 : tfld Tryz.prog 259 1 = some (1, 9) := by kernel_rfl
@[simp] theorem tfld259x2 : tfld Tryz.prog 259 2 = some (2, 202) := by kernel_rfl
@[simp] theorem tpl259 : tpl Tryz.prog 259 = some [(0, 1), (1, 1), (2, 1)] := by kernel_rfl
@[simp] theorem tbytes259 : tbytes Tryz.prog 259 = some 48 := by kernel_rfl
@[simp] theorem tzero259 : tzero Tryz.prog 259 = some [.v (.string ByteArray.empty), .v (.string ByteArray.empty), .v (.nilIface)] := by kernel_rfl
@[simp] theorem tsz260 : tsz Tryz.prog 260 = some 1 := by kernel_rfl
@[simp] theorem trow260 : trow Tryz.prog 260 = some false := by kernel_rfl
@[simp] theorem tel260 : tel Tryz.prog 260 = none := by kernel_rfl
@[simp] theorem tarr260 : tarr Tryz.prog 260 = none := by kernel_rfl
@[simp] theorem tifc260 : tifc Tryz.prog 260 = some false := by kernel_rfl
@[simp] theorem pzero260 : pzero Tryz.prog 260 = some (.v (.nilFunc)) := by kernel_rfl
@[simp] theorem tbytes260 : tbytes Tryz.prog 260 = some 8 := by kernel_rfl
@[simp] theorem tzero260 : tzero Tryz.prog 260 = some [.v (.nilFunc)] := by kernel_rfl
@[simp] theorem tsz261 : tsz Tryz.prog 261 = some 1 := by kernel_rfl
@[simp] theorem trow261 : trow Tryz.prog 261 = some false := by kernel_rfl
@[simp] theorem tel261 : tel Tryz.prog 261 = none := by kernel_rfl
@[simp] theorem tarr261 : tarr Tryz.prog 261 = none := by kernel_rfl
@[simp] theorem tifc261 : tifc Tryz.prog 261 = some false := by kernel_rfl
@[simp] theorem pzero261 : pzero Tryz.prog 261 = some (.v (.nilFunc)) := by kernel_rfl
@[simp] theorem tbytes261 : tbytes Tryz.prog 261 = some 8 := by kernel_rfl
@[simp] theorem tzero261 : tzero Tryz.prog 261 = some [.v (.nilFunc)] := by kernel_rfl
@[simp] theorem tsz263 : tsz Tryz.prog 263 = some 1 := by kernel_rfl
@[simp] theorem trow263 : trow Tryz.prog 263 = some false := by kernel_rfl
@[simp] theorem tel263 : tel Tryz.prog 263 = none := by kernel_rfl
@[simp] theorem tarr263 : tarr Tryz.prog 263 = none := by kernel_rfl
@[simp] theorem tifc263 : tifc Tryz.prog 263 = some false := by kernel_rfl
@[simp] theorem pzero263 : pzero Tryz.prog 263 = some (.v (.nilFunc)) := by kernel_rfl
@[simp] theorem tbytes263 : tbytes Tryz.prog 263 = some 8 := by kernel_rfl
@[simp] theorem tzero263 : tzero Tryz.prog 263 = some [.v (.nilFunc)] := by kernel_rfl
@[simp] theorem tsz264 : tsz Tryz.prog 264 = some 1 := by kernel_rfl
@[simp] theorem trow264 : trow Tryz.prog 264 = some false := by kernel_rfl
@[simp] theorem tel264 : tel Tryz.prog 264 = none := by kernel_rfl
@[simp] theorem tarr264 : tarr Tryz.prog 264 = none := by kernel_rfl
@[simp] theorem tifc264 : tifc Tryz.prog 264 = some false := by kernel_rfl
@[simp] theorem pzero264 : pzero Tryz.prog 264 = some (.v (.nilFunc)) := by kernel_rfl
@[simp] theorem tbytes264 : tbytes Tryz.prog 264 = some 8 := by kernel_rfl
@[simp] theorem tzero264 : tzero Tryz.prog 264 = some [.v (.nilFunc)] := by kernel_rfl
@[simp] theorem tsz265 : tsz Tryz.prog 265 = some 1 := by kernel_rfl
@[simp] theorem trow265 : trow Tryz.prog 265 = some false := by kernel_rfl
@[simp] theorem tel265 : tel Tryz.prog 265 = none := by kernel_rfl
@[simp] theorem tarr265 : tarr Tryz.prog 265 = none := by kernel_rfl
@[simp] theorem tifc265 : tifc Tryz.prog 265 = some false := by kernel_rfl
@[simp] theorem pzero265 : pzero Tryz.prog 265 = some (.v (.pointer none)) := by kernel_rfl
@[simp] theorem tbytes265 : tbytes Tryz.prog 265 = some 8 := by kernel_rfl
@[simp] theorem tzero265 : tzero Tryz.prog 265 = some [.v (.pointer none)] := by kernel_rfl
@[simp] theorem tsz266 : tsz Tryz.prog 266 = some 1 := by kernel_rfl
@[simp] theorem trow266 : trow Tryz.prog 266 = some true := by kernel_rfl
@[simp] theorem tel266 : tel Tryz.prog 266 = none := by kernel_rfl
@[simp] theorem tarr266 : tarr Tryz.prog 266 = none := by kernel_rfl
@[simp] theorem tifc266 : tifc Tryz.prog 266 = some false := by kernel_rfl
@[simp] theorem pzero266 : pzero Tryz.prog 266 = some (.agg [.v (.string ByteArray.empty)]) := by kernel_rfl
@[simp] theorem tfld266x0 : tfld Tryz.prog 266 0 = some (0, 9) := by kernel_rfl
@[simp] theorem tpl266 : tpl Tryz.prog 266 = some [(0, 1)] := by kernel_rfl
@[simp] theorem teqf266 : teqf Tryz.prog 266 = some [(0, 2)] := by kernel_rfl
@[simp] theorem tbytes266 : tbytes Tryz.prog 266 = some 16 := by kernel_rfl
@[simp] theorem tzero266 : tzero Tryz.prog 266 = some [.v (.string ByteArray.empty)] := by kernel_rfl
@[simp] theorem tsz267 : tsz Tryz.prog 267 = some 1 := by kernel_rfl
@[simp] theorem trow267 : trow Tryz.prog 267 = some true := by kernel_rfl
@[simp] theorem tel267 : tel Tryz.prog 267 = none := by kernel_rfl
@[simp] theorem tarr267 : tarr Tryz.prog 267 = none := by kernel_rfl
@[simp] theorem tifc267 : tifc Tryz.prog 267 = some false := by kernel_rfl
@[simp] theorem pzero267 : pzero Tryz.prog 267 = some (.agg [.v (.string ByteArray.empty)]) := by kernel_rfl
@[simp] theorem tfld267x0 : tfld Tryz.prog 267 0 = some (0, 9) := by kernel_rfl
@[simp] theorem tpl267 : tpl Tryz.prog 267 = some [(0, 1)] := by kernel_rfl
@[simp] theorem teqf267 : teqf Tryz.prog 267 = some [(0, 2)] := by kernel_rfl
@[simp] theorem tbytes267 : tbytes Tryz.prog 267 = some 16 := by kernel_rfl
@[simp] theorem tzero267 : tzero Tryz.prog 267 = some [.v (.string ByteArray.empty)] := by kernel_rfl
@[simp] theorem tsz268 : tsz Tryz.prog 268 = some 32 := by kernel_rfl
@[simp] theorem trow268 : trow Tryz.prog 268 = some true := by kernel_rfl
@[simp] theorem tel268 : tel Tryz.prog 268 = none := by kernel_rfl
@[simp] theorem tarr268 : tarr Tryz.prog 268 = some (32, 5) := by kernel_rfl
@[simp] theorem tifc268 : tifc Tryz.prog 268 = some false := by kernel_rfl
@[simp] theorem pzero268 : pzero Tryz.prog 268 = some (.agg [.v (.int .u8 0), .v (.int .u8 0), .v (.int .u8 0), .v (.int .u8 0), .v (.int .u8 0), .v (.int .u8 0), .v (.int .u8 0), .v (.int .u8 0), .v (.int .u8 0), .v (.int .u8 0), .v (.int .u8 0), .v (.int .u8 0), .v (.int .u8 0), .v (.int .u8 0), .v (.int .u8 0), .v (.int .u8 0), .v (.int .u8 0), .v (.int .u8 0), .v (.int .u8 0), .v (.int .u8 0), .v (.int .u8 0), .v (.int .u8 0), .v (.int .u8 0), .v (.int .u8 0), .v (.int .u8 0), .v (.int .u8 0), .v (.int .u8 0), .v (.int .u8 0), .v (.int .u8 0), .v (.int .u8 0), .v (.int .u8 0), .v (.int .u8 0)]) := by kernel_rfl
@[simp] theorem tpl268 : tpl Tryz.prog 268 = none := by kernel_rfl
@[simp] theorem tbytes268 : tbytes Tryz.prog 268 = some 32 := by kernel_rfl
@[simp] theorem tzero268 : tzero Tryz.prog 268 = some [.v (.int .u8 0), .v (.int .u8 0), .v (.int .u8 0), .v (.int .u8 0), .v (.int .u8 0), .v (.int .u8 0), .v (.int .u8 0), .v (.int .u8 0), .v (.int .u8 0), .v (.int .u8 0), .v (.int .u8 0), .v (.int .u8 0), .v (.int .u8 0), .v (.int .u8 0), .v (.int .u8 0), .v (.int .u8 0), .v (.int .u8 0), .v (.int .u8 0), .v (.int .u8 0), .v (.int .u8 0), .v (.int .u8 0), .v (.int .u8 0), .v (.int .u8 0), .v (.int .u8 0), .v (.int .u8 0), .v (.int .u8 0), .v (.int .u8 0), .v (.int .u8 0), .v (.int .u8 0), .v (.int .u8 0), .v (.int .u8 0), .v (.int .u8 0)] := by kernel_rfl
@[simp] theorem tsz269 : tsz Tryz.prog 269 = some 64 := by kernel_rfl
@[simp] theorem trow269 : trow Tryz.prog 269 = some true := by kernel_rfl
@[simp] theorem tel269 : tel Tryz.prog 269 = none := by kernel_rfl
@[simp] theorem tarr269 : tarr Tryz.prog 269 = some (64, 5) := by kernel_rfl
@[simp] theorem tifc269 : tifc Tryz.prog 269 = some false := by kernel_rfl
@[simp] theorem tpl269 : tpl Tryz.prog 269 = none := by kernel_rfl
@[simp] theorem tbytes269 : tbytes Tryz.prog 269 = some 64 := by kernel_rfl
@[simp] theorem tsz270 : tsz Tryz.prog 270 = some 256 := by kernel_rfl
@[simp] theorem trow270 : trow Tryz.prog 270 = some true := by kernel_rfl
@[simp] theorem tel270 : tel Tryz.prog 270 = none := by kernel_rfl
@[simp] theorem tarr270 : tarr Tryz.prog 270 = some (256, 5) := by kernel_rfl
@[simp] theorem tifc270 : tifc Tryz.prog 270 = some false := by kernel_rfl
@[simp] theorem tpl270 : tpl Tryz.prog 270 = none := by kernel_rfl
@[simp] theorem tbytes270 : tbytes Tryz.prog 270 = some 256 := by kernel_rfl
@[simp] theorem tsz271 : tsz Tryz.prog 271 = some 2 := by kernel_rfl
@[simp] theorem trow271 : trow Tryz.prog 271 = some true := by kernel_rfl
@[simp] theorem tel271 : tel Tryz.prog 271 = none := by kernel_rfl
@[simp] theorem tarr271 : tarr Tryz.prog 271 = none := by kernel_rfl
@[simp] theorem tifc271 : tifc Tryz.prog 271 = some false := by kernel_rfl
@[simp] theorem pzero271 : pzero Tryz.prog 271 = some (.agg [.v (.int .u8 0), .v (.int .u8 0)]) := by kernel_rfl
@[simp] theorem tfld271x0 : tfld Tryz.prog 271 0 = some (0, 5) := by kernel_rfl
@[simp] theorem tfld271x1 : tfld Tryz.prog 271 1 = some (1, 5) := by kernel_rfl
@[simp] theorem tpl271 : tpl Tryz.prog 271 = some [(0, 1), (1, 1)] := by kernel_rfl
@[simp] theorem teqf271 : teqf Tryz.prog 271 = some [(0, 0), (1, 0)] := by kernel_rfl
@[simp] theorem tbytes271 : tbytes Tryz.prog 271 = some 2 := by kernel_rfl
@[simp] theorem tzero271 : tzero Tryz.prog 271 = some [.v (.int .u8 0), .v (.int .u8 0)] := by kernel_rfl
@[simp] theorem tsz272 : tsz Tryz.prog 272 = some 2 := by kernel_rfl
@[simp] theorem trow272 : trow Tryz.prog 272 = some true := by kernel_rfl
@[simp] theorem tel272 : tel Tryz.prog 272 = none := by kernel_rfl
@[simp] theorem tarr272 : tarr Tryz.prog 272 = none := by kernel_rfl
@[simp] theorem tifc272 : tifc Tryz.prog 272 = some false := by kernel_rfl
@[simp] theorem pzero272 : pzero Tryz.prog 272 = some (.agg [.v (.int .u8 0), .v (.int .u8 0)]) := by kernel_rfl
@[simp] theorem tfld272x0 : tfld Tryz.prog 272 0 = some (0, 5) := by kernel_rfl
@[simp] theorem tfld272x1 : tfld Tryz.prog 272 1 = some (1, 5) := by kernel_rfl
@[simp] theorem tpl272 : tpl Tryz.prog 272 = some [(0, 1), (1, 1)] := by kernel_rfl
@[simp] theorem teqf272 : teqf Tryz.prog 272 = some [(0, 0), (1, 0)] := by kernel_rfl
@[simp] theorem tbytes272 : tbytes Tryz.prog 272 = some 2 := by kernel_rfl
@[simp] theorem tzero272 : tzero Tryz.prog 272 = some [.v (.int .u8 0), .v (.int .u8 0)] := by kernel_rfl
@[simp] theorem tsz273 : tsz Tryz.prog 273 = some 32 := by kernel_rfl
@[simp] theorem trow273 : trow Tryz.prog 273 = some true := by kernel_rfl
@[simp] theorem tel273 : tel Tryz.prog 273 = none := by kernel_rfl
@[simp] theorem tarr273 : tarr Tryz.prog 273 = some (16, 272) := by kernel_rfl
@[simp] theorem tifc273 : tifc Tryz.prog 273 = some false := by kernel_rfl
@[simp] theorem pzero273 : pzero Tryz.prog 273 = some (.agg [.v (.int .u8 0), .v (.int .u8 0), .v (.int .u8 0), .v (.int .u8 0), .v (.int .u8 0), .v (.int .u8 0), .v (.int .u8 0), .v (.int .u8 0), .v (.int .u8 0), .v (.int .u8 0), .v (.int .u8 0), .v (.int .u8 0), .v (.int .u8 0), .v (.int .u8 0), .v (.int .u8 0), .v (.int .u8 0), .v (.int .u8 0), .v (.int .u8 0), .v (.int .u8 0), .v (.int .u8 0), .v (.int .u8 0), .v (.int .u8 0), .v (.int .u8 0), .v (.int .u8 0), .v (.int .u8 0), .v (.int .u8 0), .v (.int .u8 0), .v (.int .u8 0), .v (.int .u8 0), .v (.int .u8 0), .v (.int .u8 0), .v (.int .u8 0)]) := by kernel_rfl
@[simp] theorem tpl273 : tpl Tryz.prog 273 = none := by kernel_rfl
@[simp] theorem tbytes273 : tbytes Tryz.prog 273 = some 32 := by kernel_rfl
@[simp] theorem tzero273 : tzero Tryz.prog 273 = some [.v (.int .u8 0), .v (.int .u8 0), .v (.int .u8 0), .v (.int .u8 0), .v (.int .u8 0), .v (.int .u8 0), .v (.int .u8 0), .v (.int .u8 0), .v (.int .u8 0), .v (.int .u8 0), .v (.int .u8 0), .v (.int .u8 0), .v (.int .u8 0), .v (.int .u8 0), .v (.int .u8 0), .v (.int .u8 0), .v (.int .u8 0), .v (.int .u8 0), .v (.int .u8 0), .v (.int .u8 0), .v (.int .u8 0), .v (.int .u8 0), .v (.int .u8 0), .v (.int .u8 0), .v (.int .u8 0), .v (.int .u8 0), .v (.int .u8 0), .v (.int .u8 0), .v (.int .u8 0), .v (.int .u8 0), .v (.int .u8 0), .v (.int .u8 0)] := by kernel_rfl
@[simp] theorem tsz274 : tsz Tryz.prog 274 = some 4 := by kernel_rfl
@[simp] theorem trow274 : trow Tryz.prog 274 = some true := by kernel_rfl
@[simp] theorem tel274 : tel Tryz.prog 274 = none := by kernel_rfl
@[simp] theorem tarr274 : tarr Tryz.prog 274 = none := by kernel_rfl
@[simp] theorem tifc274 : tifc Tryz.prog 274 = some false := by kernel_rfl
@[simp] theorem pzero274 : pzero Tryz.prog 274 = some (.agg [.v (.pointer none), .v (.pointer none), .v (.pointer none), .v (.string ByteArray.empty)]) := by kernel_rfl
@[simp] theorem tfld274x0 : tfld Tryz.prog 274 0 = some (0, 17) := by kernel_rfl
@[simp] theorem tfld274x1 : tfld Tryz.prog 274 1 = some (1, 17) := by kernel_rfl
@[simp] theorem tfld274x2 : tfld Tryz.prog 274 2 = some (2, 17) := by kernel_rfl
@[simp] theorem tfld274x3 : tfld Tryz.prog 274 3 = some (3, 9) := by kernel_rfl
@[simp] theorem tpl274 : tpl Tryz.prog 274 = some [(0, 1), (1, 1), (2, 1), (3, 1)] := by kernel_rfl
@[simp] theorem tbytes274 : tbytes Tryz.prog 274 = some 40 := by kernel_rfl
@[simp] theorem tzero274 : tzero Tryz.prog 274 = some [.v (.pointer none), .v (.pointer none), .v (.pointer none), .v (.string ByteArray.empty)] := by kernel_rfl
@[simp] theorem tsz275 : tsz Tryz.prog 275 = some 4 := by kernel_rfl
@[simp] theorem trow275 : trow Tryz.prog 275 = some true := by kernel_rfl
@[simp] theorem tel275 : tel Tryz.prog 275 = none := by kernel_rfl
@[simp] theorem tarr275 : tarr Tryz.prog 275 = none := by kernel_rfl
@[simp] theorem tifc275 : tifc Tryz.prog 275 = some false := by kernel_rfl
@[simp] theorem pzero275 : pzero Tryz.prog 275 = some (.agg [.v (.pointer none), .v (.pointer none), .v (.pointer none), .v (.string ByteArray.empty)]) := by kernel_rfl
@[simp] theorem tfld275x0 : tfld Tryz.prog 275 0 = some (0, 17) := by kernel_rfl
@[simp] theorem tfld275x1 : tfld Tryz.prog 275 1 = some (1, 17) := by kernel_rfl
@[simp] theorem tfld275x2 : tfld Tryz.prog 275 2 = some (2, 17) := by kernel_rfl
@[simp] theorem tfld275x3 : tfld Tryz.prog 275 3 = some (3, 9) := by kernel_rfl
@[simp] theorem tpl275 : tpl Tryz.prog 275 = some [(0, 1), (1, 1), (2, 1), (3, 1)] := by kernel_rfl
@[simp] theorem tbytes275 : tbytes Tryz.prog 275 = some 40 := by kernel_rfl
@[simp] theorem tzero275 : tzero Tryz.prog 275 = some [.v (.pointer none), .v (.pointer none), .v (.pointer none), .v (.string ByteArray.empty)] := by kernel_rfl
@[simp] theorem tsz276 : tsz Tryz.prog 276 = some 0 := by kernel_rfl
@[simp] theorem trow276 : trow Tryz.prog 276 = some true := by kernel_rfl
@[simp] theorem tel276 : tel Tryz.prog 276 = none := by kernel_rfl
@[simp] theorem tarr276 : tarr Tryz.prog 276 = some (0, 16) := by kernel_rfl
@[simp] theorem tifc276 : tifc Tryz.prog 276 = some false := by kernel_rfl
@[simp] theorem pzero276 : pzero Tryz.prog 276 = some (.agg []) := by kernel_rfl
@[simp] theorem tpl276 : tpl Tryz.prog 276 = none := by kernel_rfl
@[simp] theorem tbytes276 : tbytes Tryz.prog 276 = some 0 := by kernel_rfl
@[simp] theorem tzero276 : tzero Tryz.prog 276 = some [] := by kernel_rfl
@[simp] theorem tsz277 : tsz Tryz.prog 277 = some 0 := by kernel_rfl
@[simp] theorem trow277 : trow Tryz.prog 277 = some true := by kernel_rfl
@[simp] theorem tel277 : tel Tryz.prog 277 = none := by kernel_rfl
@[simp] theorem tarr277 : tarr Tryz.prog 277 = none := by kernel_rfl
@[simp] theorem tifc277 : tifc Tryz.prog 277 = some false := by kernel_rfl
@[simp] theorem pzero277 : pzero Tryz.prog 277 = some (.agg []) := by kernel_rfl
@[simp] theorem tpl277 : tpl Tryz.prog 277 = some [(0, 0)] := by kernel_rfl
@[simp] theorem tbytes277 : tbytes Tryz.prog 277 = some 0 := by kernel_rfl
@[simp] theorem tzero277 : tzero Tryz.prog 277 = some [] := by kernel_rfl
@[simp] theorem tsz278 : tsz Tryz.prog 278 = some 0 := by kernel_rfl
@[simp] theorem trow278 : trow Tryz.prog 278 = some true := by kernel_rfl
@[simp] theorem tel278 : tel Tryz.prog 278 = none := by kernel_rfl
@[simp] theorem tarr278 : tarr Tryz.prog 278 = none := by kernel_rfl
@[simp] theorem tifc278 : tifc Tryz.prog 278 = some false := by kernel_rfl
@[simp] theorem pzero278 : pzero Tryz.prog 278 = some (.agg []) := by kernel_rfl
@[simp] theorem tpl278 : tpl Tryz.prog 278 = some [(0, 0)] := by kernel_rfl
@[simp] theorem tbytes278 : tbytes Tryz.prog 278 = some 0 := by kernel_rfl
@[simp] theorem tzero278 : tzero Tryz.prog 278 = some [] := by kernel_rfl
@[simp] theorem tsz279 : tsz Tryz.prog 279 = some 1 := by kernel_rfl
@[simp] theorem trow279 : trow Tryz.prog 279 = some false := by kernel_rfl
@[simp] theorem tel279 : tel Tryz.prog 279 = none := by kernel_rfl
@[simp] theorem tarr279 : tarr Tryz.prog 279 = none := by kernel_rfl
@[simp] theorem tifc279 : tifc Tryz.prog 279 = some false := by kernel_rfl
@[simp] theorem pzero279 : pzero Tryz.prog 279 = some (.v (.int .u8 0)) := by kernel_rfl
@[simp] theorem tint279 : tint Tryz.prog 279 = some .u8 := by kernel_rfl
@[simp] theorem tbytes279 : tbytes Tryz.prog 279 = some 1 := by kernel_rfl
@[simp] theorem tzero279 : tzero Tryz.prog 279 = some [.v (.int .u8 0)] := by kernel_rfl
@[simp] theorem tsz280 : tsz Tryz.prog 280 = some 1 := by kernel_rfl
@[simp] theorem trow280 : trow Tryz.prog 280 = some false := by kernel_rfl
@[simp] theorem tel280 : tel Tryz.prog 280 = none := by kernel_rfl
@[simp] theorem tarr280 : tarr Tryz.prog 280 = none := by kernel_rfl
@[simp] theorem tifc280 : tifc Tryz.prog 280 = some false := by kernel_rfl
@[simp] theorem pzero280 : pzero Tryz.prog 280 = some (.v (.int .u8 0)) := by kernel_rfl
@[simp] theorem tint280 : tint Tryz.prog 280 = some .u8 := by kernel_rfl
@[simp] theorem tbytes280 : tbytes Tryz.prog 280 = some 1 := by kernel_rfl
@[simp] theorem tzero280 : tzero Tryz.prog 280 = some [.v (.int .u8 0)] := by kernel_rfl
@[simp] theorem tsz281 : tsz Tryz.prog 281 = some 1 := by kernel_rfl
@[simp] theorem trow281 : trow Tryz.prog 281 = some false := by kernel_rfl
@[simp] theorem tel281 : tel Tryz.prog 281 = none := by kernel_rfl
@[simp] theorem tarr281 : tarr Tryz.prog 281 = none := by kernel_rfl
@[simp] theorem tifc281 : tifc Tryz.prog 281 = some false := by kernel_rfl
@[simp] theorem pzero281 : pzero Tryz.prog 281 = some (.v (.nilFunc)) := by kernel_rfl
@[simp] theorem tbytes281 : tbytes Tryz.prog 281 = some 8 := by kernel_rfl
@[simp] theorem tzero281 : tzero Tryz.prog 281 = some [.v (.nilFunc)] := by kernel_rfl
@[simp] theorem tsz282 : tsz Tryz.prog 282 = some 1 := by kernel_rfl
@[simp] theorem trow282 : trow Tryz.prog 282 = some false := by kernel_rfl
@[simp] theorem tel282 : tel Tryz.prog 282 = none := by kernel_rfl
@[simp] theorem tarr282 : tarr Tryz.prog 282 = none := by kernel_rfl
@[simp] theorem tifc282 : tifc Tryz.prog 282 = some false := by kernel_rfl
@[simp] theorem pzero282 : pzero Tryz.prog 282 = some (.v (.int .i32 0)) := by kernel_rfl
@[simp] theorem tint282 : tint Tryz.prog 282 = some .i32 := by kernel_rfl
@[simp] theorem tbytes282 : tbytes Tryz.prog 282 = some 4 := by kernel_rfl
@[simp] theorem tzero282 : tzero Tryz.prog 282 = some [.v (.int .i32 0)] := by kernel_rfl
@[simp] theorem tsz283 : tsz Tryz.prog 283 = some 1 := by kernel_rfl
@[simp] theorem trow283 : trow Tryz.prog 283 = some false := by kernel_rfl
@[simp] theorem tel283 : tel Tryz.prog 283 = none := by kernel_rfl
@[simp] theorem tarr283 : tarr Tryz.prog 283 = none := by kernel_rfl
@[simp] theorem tifc283 : tifc Tryz.prog 283 = some false := by kernel_rfl
@[simp] theorem pzero283 : pzero Tryz.prog 283 = some (.v (.int .i32 0)) := by kernel_rfl
@[simp] theorem tint283 : tint Tryz.prog 283 = some .i32 := by kernel_rfl
@[simp] theorem tbytes283 : tbytes Tryz.prog 283 = some 4 := by kernel_rfl
@[simp] theorem tzero283 : tzero Tryz.prog 283 = some [.v (.int .i32 0)] := by kernel_rfl
@[simp] theorem tsz284 : tsz Tryz.prog 284 = some 11 := by kernel_rfl
@[simp] theorem trow284 : trow Tryz.prog 284 = some true := by kernel_rfl
@[simp] theorem tel284 : tel Tryz.prog 284 = none := by kernel_rfl
@[simp] theorem tarr284 : tarr Tryz.prog 284 = none := by kernel_rfl
@[simp] theorem tifc284 : tifc Tryz.prog 284 = some false := by kernel_rfl
@[simp] theorem pzero284 : pzero Tryz.prog 284 = some (.agg [.v (.int .u64 0), .v (.int .u64 0), .v (.int .u32 0), .v (.int .u8 0), .v (.int .u8 0), .v (.int .u8 0), .v (.int .u8 0), .v (.nilFunc), .v (.pointer none), .v (.int .i32 0), .v (.int .i32 0)]) := by kernel_rfl
@[simp] theorem tfld284x0 : tfld Tryz.prog 284 0 = some (0, 12) := by kernel_rfl
@[simp] theorem tfld284x1 : tfld Tryz.prog 284 1 = some (1, 12) := by kernel_rfl
@[simp] theorem tfld284x2 : tfld Tryz.prog 284 2 = some (2, 248) := by kernel_rfl
@[simp] theorem tfld284x3 : tfld Tryz.prog 284 3 = some (3, 279) := by kernel_rfl
@[simp] theorem tfld284x4 : tfld Tryz.prog 284 4 = some (4, 5) := by kernel_rfl
@[simp] theorem tfld284x5 : tfld Tryz.prog 284 5 = some (5, 5) := by kernel_rfl
@[simp] theorem tfld284x6 : tfld Tryz.prog 284 6 = some (6, 280) := by kernel_rfl
@[simp] theorem tfld284x7 : tfld Tryz.prog 284 7 = some (7, 281) := by kernel_rfl
@[simp] theorem tfld284x8 : tfld Tryz.prog 284 8 = some (8, 206) := by kernel_rfl
@[simp] theorem tfld284x9 : tfld Tryz.prog 284 9 = some (9, 282) := by kernel_rfl
@[simp] theorem tfld284x10 : tfld Tryz.prog 284 10 = some (10, 283) := by kernel_rfl
@[simp] theorem tpl284 : tpl Tryz.prog 284 = some [(0, 1), (1, 1), (2, 1), (3, 1), (4, 1), (5, 1), (6, 1), (7, 1), (8, 1), (9, 1), (10, 1)] := by kernel_rfl
@[simp] theorem tbytes284 : tbytes Tryz.prog 284 = some 48 := by kernel_rfl
@[simp] theorem tzero284 : tzero Tryz.prog 284 = some [.v (.int .u64 0), .v (.int .u64 0), .v (.int .u32 0), .v (.int .u8 0), .v (.int .u8 0), .v (.int .u8 0), .v (.int .u8 0), .v (.nilFunc), .v (.pointer none), .v (.int .i32 0), .v (.int .i32 0)] := by kernel_rfl
@[simp] theorem tsz285 : tsz Tryz.prog 285 = some 11 := by kernel_rfl
@[simp] theorem trow285 : trow Tryz.prog 285 = some true := by kernel_rfl
@[simp] theorem tel285 : tel Tryz.prog 285 = none := by kernel_rfl
@[simp] theorem tarr285 : tarr Tryz.prog 285 = none := by kernel_rfl
@[simp] theorem tifc285 : tifc Tryz.prog 285 = some false := by kernel_rfl
@[simp] theorem pzero285 : pzero Tryz.prog 285 = some (.agg [.v (.int .u64 0), .v (.int .u64 0), .v (.int .u32 0), .v (.int .u8 0), .v (.int .u8 0), .v (.int .u8 0), .v (.int .u8 0), .v (.nilFunc), .v (.pointer none), .v (.int .i32 0), .v (.int .i32 0)]) := by kernel_rfl
@[simp] theorem tfld285x0 : tfld Tryz.prog 285 0 = some (0, 12) := by kernel_rfl
@[simp] theorem tfld285x1 : tfld Tryz.prog 285 1 = some (1, 12) := by kernel_rfl
@[simp] theorem tfld285x2 : tfld Tryz.prog 285 2 = some (2, 248) := by kernel_rfl
@[simp] theorem tfld285x3 : tfld Tryz.prog 285 3 = some (3, 279) := by kernel_rfl
@[simp] theorem tfld285x4 : tfld Tryz.prog 285 4 = some (4, 5) := by kernel_rfl
@[simp] theorem tfld285x5 : tfld Tryz.prog 285 5 = some (5, 5) := by kernel_rfl
@[simp] theorem tfld285x6 : tfld Tryz.prog 285 6 = some (6, 280) := by kernel_rfl
@[simp] theorem tfld285x7 : tfld Tryz.prog 285 7 = some (7, 281) := by kernel_rfl
@[simp] theorem tfld285x8 : tfld Tryz.prog 285 8 = some (8, 206) := by kernel_rfl
@[simp] theorem tfld285x9 : tfld Tryz.prog 285 9 = some (9, 282) := by kernel_rfl
@[simp] theorem tfld285x10 : tfld Tryz.prog 285 10 = some (10, 283) := by kernel_rfl
@[simp] theorem tpl285 : tpl Tryz.prog 285 = some [(0, 1), (1, 1), (2, 1), (3, 1), (4, 1), (5, 1), (6, 1), (7, 1), (8, 1), (9, 1), (10, 1)] := by kernel_rfl
@[simp] theorem tbytes285 : tbytes Tryz.prog 285 = some 48 := by kernel_rfl
@[simp] theorem tzero285 : tzero Tryz.prog 285 = some [.v (.int .u64 0), .v (.int .u64 0), .v (.int .u32 0), .v (.int .u8 0), .v (.int .u8 0), .v (.int .u8 0), .v (.int .u8 0), .v (.nilFunc), .v (.pointer none), .v (.int .i32 0), .v (.int .i32 0)] := by kernel_rfl
end Go.Qg

namespace Go.Qg
open Go.RowKit (Below)
section
variable {P : Program} {N : Nat} {B : Base} {w w' : World} {R R' : Nat → Nat → Prop} {Γ Γ' : Nat → Option Loc} {a : Act} {fr fr' : PF}
structure Appended (w w' : World) (base : Nat) (e : TypeId) (size n m : Nat) (v v' : Value) (xs news : List Value) : Prop where
  own : w'.ownsRow base e size v' (n + m) (xs ++ news)
  grown : w.grownBy w' v.ownBlock
  old : ∀ g, v.ownBlock = some g → ∀ o, o < n * size → w'.cell? ⟨g, o, none⟩ = w.cell? ⟨g, o, none⟩
  from_ : ∀ g, v'.ownBlock = some g → v.ownBlock = some g ∨ w.heap.size ≤ g
theorem run_append_tip (base : Nat) (t ty e : TypeId) (i : TypeInfo) (z : Value) (size bytes : Nat) (ht : P.underlying t = some (.slice e)) (hi : P.info? e = some i) (hz : i.zero = some z)
    (hsize : i.size = size) (hby : i.bytes = bytes) (hzs : z.cells.size = size) (hsz : 0 < size)
    (v : Value) (n : Nat) (xs : List Value) (hown : w.ownsRow base e size v n xs)
    (ad : Addr) (m c : Nat) (news : List Value) (hl : news.length = m * size) (hnews : ∀ j u, news[j]? = some u → w.cell? (ad.add j) = some u) (h1 : ∀ u ∈ news, u.oneCell' = true)
    (h63 : n + m ≤ maxLen) (hbytes : (n + m) * bytes ≤ 140737488355328) (hbase : base ≤ w.heap.size) :
    ∃ v' w', (Builtin.append_ #[t, t] ty #[v, .slice (some ad) m c]).run P w = .ok v' w' ∧ Appended w w' base e size n m v v' xs news := by
  obtain ⟨v', w', hr, h2, h3, h4⟩ := run_append_own (P := P) w base t ty e i z size bytes ht hi hz hsize hby hzs hsz v n xs hown ad m c news hl hnews h1 h63 hbytes hbase
  refine ⟨v', w', hr, h2, h3, ?_, ?_⟩
  · intro g hg o ho
    subst hsize
    rcases hown.2 with ⟨rfl, _⟩ | ⟨g', cap, cur, rfl, hbg, hgg, hnc, hcm, hcs, htake⟩
    · cases hg
    · obtain rfl : g' = g := by simpa [Value.ownBlock] using hg
      by_cases hroom : n + m ≤ cap
      · have hfit : n * i.size + news.length ≤ cur.size := by rw [hl, hcs, ← Nat.add_mul]; exact Nat.mul_le_mul_right _ hroom
        have hr2 := run_append_room (P := P) w t ty e i ht hi g' n cap cur hgg ad m c news hl hnews h1 hroom hfit
        rw [hr] at hr2
        simp only [Result.ok.injEq] at hr2
        rw [hr2.2, cell_setRow_same w g' o cur _ e _ hgg, cell_of_row w g' o cur e (0, 0) hgg]
        have hlt : o < cur.size := by omega
        rw [List.getElem?_toArray, List.append_assoc, List.getElem?_append_left (by simp; omega), List.getElem?_take_of_lt ho, Array.getElem?_toList]
      · have hold := hown.cells (g := g') rfl
        have hr2 := run_append_grow (P := P) w t ty e i z ht hi hz ⟨g', 0, none⟩ n cap xs hown.1 hold ad m c news hl hnews (by omega) (by simp only [maxLen] at h63; omega) (growslice_fits (by omega) (by rw [hby]; exact hbytes))
        rw [hr] at hr2
        simp only [Result.ok.injEq] at hr2
        rw [hr2.2]
        exact cell?_of_heap (Below.heap_alloc w.drew _ g' (Array.getElem?_eq_some_iff.1 hgg).1)
  · intro g hg
    by_cases hgs : w.heap.size ≤ g
    · exact .inr hgs
    · refine .inl ?_
      subst hsize
      rcases hown.2 with ⟨rfl, rfl⟩ | ⟨g', cap, cur, rfl, hbg, hgg, hnc, hcm, hcs, htake⟩
      · by_cases hm : m = 0
        · have := h4.2 ⟨rfl, hm⟩; subst this; exact hg
        · have hr2 := run_append_nil (P := P) w t ty e i z ht hi hz ad m c news hl hnews (by omega) (by simp only [maxLen] at h63; omega) (by rw [hby]; simp only [Nat.zero_add] at hbytes; omega)
          rw [hr] at hr2
          simp only [Result.ok.injEq] at hr2
          rw [hr2.1] at hg
          simp [Value.ownBlock] at hg
          omega
      · by_cases hroom : n + m ≤ cap
        · have hfit : n * i.size + news.length ≤ cur.size := by rw [hl, hcs, ← Nat.add_mul]; exact Nat.mul_le_mul_right _ hroom
          have hr2 := run_append_room (P := P) w t ty e i ht hi g' n cap cur hgg ad m c news hl hnews h1 hroom hfit
          rw [hr] at hr2
          simp only [Result.ok.injEq] at hr2
          rw [hr2.1] at hg
          exact hg
        · have hold := hown.cells (g := g') rfl
          have hr2 := run_append_grow (P := P) w t ty e i z ht hi hz ⟨g', 0, none⟩ n cap xs hown.1 hold ad m c news hl hnews (by omega) (by simp only [maxLen] at h63; omega) (growslice_fits (by omega) (by rw [hby]; exact hbytes))
          rw [hr] at hr2
          simp only [Result.ok.injEq] at hr2
          rw [hr2.1] at hg
          simp [Value.ownBlock] at hg
          omega
theorem run_append_nothing (base : Nat) (t ty e : TypeId) (i : TypeInfo) (size : Nat) (ht : P.underlying t = some (.slice e)) (hi : P.info? e = some i)
    (v : Value) (n : Nat) (xs : List Value) (hown : w.ownsRow base e size v n xs) (c : Nat) :
    (Builtin.append_ #[t, t] ty #[v, .slice none 0 c]).run P w = .ok v w := by
  rcases hown.2 with ⟨rfl, rfl⟩ | ⟨g, cap, cur, rfl, hbg, hg, hnc, hcm, hcs, htake⟩
  · simp [Builtin.append_, run_underlying ht, sizeOf, typeInfo, hi, Builtin.lenOf, Builtin.firstCells]
  · simp [Builtin.append_, run_underlying ht, sizeOf, typeInfo, hi, Builtin.lenOf, Builtin.firstCells, hnc, storeCells]
structure RowsAt (w : World) (R : Nat → Nat → Prop) (Γ : Nat → Option Loc) (sz : Nat) (rs : List (List PV)) (ad : Addr) (us : Nat → Value) : Prop where
  cell : ∀ j, j < rs.length * sz → w.cell? (ad.add j) = some (us j)
  rep : ∀ (i j : Nat) (r : List PV) (p : PV), rs[i]? = some r → r[j]? = some p → Rep w R Γ (us (i * sz + j)) p
def RowsOf (w : World) (R : Nat → Nat → Prop) (Γ : Nat → Option Loc) (sz : Nat) (rs : List (List PV)) (u : Value) : Prop :=
  (∀ r ∈ rs, r.length = sz ∧ ∀ p ∈ r, p.one = true) ∧ ∃ A c, u = .slice A rs.length c ∧ ((rs = [] ∧ A = none) ∨ ∃ ad us, A = some ad ∧ RowsAt w R Γ sz rs ad us)
theorem Sim.rows (h : Sim N B R Γ a w fr) {u : Value} {x : PV} {sz : Nat} {rs : List (List PV)} (hv : Rep w R Γ u x) (hy : prows fr x = some (sz, rs)) : RowsOf w R Γ sz rs u := by
  unfold prows at hy
  split at hy
  · rename_i i ep off n c
    split at hy
    case h_2 => cases hy
    rename_i sz' rs' hown
    obtain ⟨hg, hy⟩ := guard_some hy
    simp only [Option.some.injEq, Prod.mk.injEq] at hy
    obtain ⟨rfl, rfl⟩ := hy
    obtain ⟨l, hΓ, ho, hsz⟩ := h.ownAt hv hown
    obtain ⟨l2, f, e, hΓ2, hfr, _⟩ := h.pown hown
    obtain ⟨l3, hΓ3, _, hrow, _, hl⟩ := h.slot i _ hfr
    rw [hΓ] at hΓ3
    simp only [Option.some.injEq, Loc.rows.injEq, true_and] at hΓ3
    subst hΓ3
    have hlen : ((rs'.drop off).take n).length = n := by simp; omega
    refine ⟨fun r hr => hrow r (List.mem_of_mem_drop (List.mem_of_mem_take hr)), ?_⟩
    rw [hlen]
    cases l with
    | none =>
      obtain ⟨rfl, rfl, _⟩ := ho
      exact ⟨none, 0, rfl, .inl ⟨by simp, rfl⟩⟩
    | some bc =>
      obtain ⟨b, cap⟩ := bc
      obtain ⟨rfl, ho2⟩ := ho
      obtain ⟨vs, g1, g2, g3, g4, g5⟩ := hl
      refine ⟨_, _, rfl, .inr ⟨_, fun j => vs.getD (off * sz' + j) undef, rfl, fun j hj => ?_, fun i j r p hr hp => ?_⟩⟩
      · rw [hlen] at hj
        have hlt : off * sz' + j < vs.size := by
          have : (off + n) * sz' ≤ cap * sz' := Nat.mul_le_mul_right _ ho2
          rw [Nat.add_mul] at this; omega
        rw [Addr.add_mid]
        simp [World.cell?, g1, hlt]
      · have hi : i < n := by have := lt_of_get? hr; omega
        rw [List.getElem?_take, if_pos hi, List.getElem?_drop] at hr
        have hrl := (hrow r (List.mem_of_getElem? hr)).1
        have hj := lt_of_get? hp
        have hlt : off * sz' + (i * sz' + j) < vs.size := by
          have : (off + i + 1) * sz' ≤ cap * sz' := Nat.mul_le_mul_right _ (by omega)
          rw [Nat.add_mul, Nat.add_mul] at this; omega
        refine g5 (off + i) j r p _ hr hp ?_
        rw [show (off + i) * sz' + j = off * sz' + (i * sz' + j) from by rw [Nat.add_mul]; omega]
        simp [hlt]
  · rename_i sz' n f
    split at hy
    case isFalse => cases hy
    rename_i hs0
    simp only [Option.some.injEq, Prod.mk.injEq] at hy
    obtain ⟨rfl, rfl⟩ := hy
    cases hv with
    | sl A _ c _ _ us h1 h2 h3 h4 h5 h6 =>
    have hget : ∀ i r, ((List.range n).map f)[i]? = some r → i < n ∧ r = f i := fun i r hr => by
      have hi : i < n := by have := lt_of_get? hr; simpa using this
      rw [List.getElem?_map, List.getElem?_range hi] at hr
      exact ⟨hi, (Option.some.inj hr).symm⟩
    refine ⟨fun r hr => ?_, A, c, by simp, ?_⟩
    · obtain ⟨i, hi⟩ := List.mem_iff_getElem?.1 hr
      obtain ⟨hi', rfl⟩ := hget i r hi
      exact ⟨h3 i hi', fun p hp => by obtain ⟨j, hj⟩ := List.mem_iff_getElem?.1 hp; exact (h4 i j p hi' hj).1⟩
    · cases A with
      | none =>
        left
        refine ⟨?_, rfl⟩
        by_cases hn : n = 0
        · subst hn; rfl
        · obtain ⟨b, o, hA, _⟩ := h5 0 0 (by omega) (by omega)
          cases hA
      | some ad =>
        right
        refine ⟨ad, fun j => us (j / sz') (j % sz'), rfl, fun j hj => ?_, fun i j r p hr hp => ?_⟩
        · simp only [List.length_map, List.length_range] at hj
          have hq : j / sz' < n := (Nat.div_lt_iff_lt_mul hs0).2 hj
          obtain ⟨b, o, hA, _, hcl⟩ := h5 (j / sz') (j % sz') hq (Nat.mod_lt _ hs0)
          obtain rfl := Option.some.inj hA
          rw [Addr.add_mid]
          rw [show j / sz' * sz' + j % sz' = j from by rw [Nat.mul_comm]; exact Nat.div_add_mod j sz'] at hcl
          exact hcl
        · obtain ⟨hi, rfl⟩ := hget i r hr
          have hj : j < sz' := by have := lt_of_get? hp; rw [h3 i hi] at this; exact this
          have e1 : (i * sz' + j) / sz' = i := by rw [Nat.mul_comm, Nat.mul_add_div (by omega), Nat.div_eq_of_lt hj, Nat.add_zero]
          have e2 : (i * sz' + j) % sz' = j := by rw [Nat.mul_comm, Nat.mul_add_mod, Nat.mod_eq_of_lt hj]
          show Rep w R Γ (us ((i * sz' + j) / sz') ((i * sz' + j) % sz')) p
          rw [e1, e2]
          exact h6 i j p hi hp
  · simp only [Option.some.injEq, Prod.mk.injEq] at hy
    obtain ⟨rfl, rfl⟩ := hy
    cases hv with
    | nil => exact ⟨fun r hr => (by cases hr), none, 0, rfl, .inl ⟨rfl, rfl⟩⟩
  · cases hy
theorem append_rows {t e : TypeId} {sz bytes zl : Nat} (ht : tel P t = some e) (hs : tsz P e = some sz) (hb : tbytes P e = some bytes) (hz : (tzero P e).map (·.length) = some zl) (hzl : zl = sz) (hsz : 0 < sz)
    {v : Value} {rs : List (List PV)} {xs : List Value} (hown : w.ownsRow 0 e sz v rs.length xs) (hrs : ∀ r ∈ rs, r.length = sz ∧ ∀ p ∈ r, p.one = true)
    (hrep : ∀ (i j : Nat) (r : List PV) (p : PV) (x : Value), rs[i]? = some r → r[j]? = some p → xs[i * sz + j]? = some x → Rep w R Γ x p)
    {y : Value} {news : List (List PV)} (hy : RowsOf w R Γ sz news y) (hlim : (rs.length + news.length) * bytes ≤ 140737488355328 ∧ rs.length + news.length ≤ maxLen) (ty : TypeId) :
    ∃ v' w' l', (Builtin.append_ #[t, t] ty #[v, y]).run P w = .ok v' w' ∧ w.grownBy w' v.ownBlock ∧ (l' = none → v' = .slice none 0 0 ∧ rs ++ news = []) ∧
      ∀ b cap, l' = some (b, cap) → v' = .slice (some ⟨b, 0, none⟩) (rs.length + news.length) cap ∧ (v.ownBlock = some b ∨ (w.heap.size ≤ b ∧ b < w'.heap.size)) ∧
        ∃ vs : Array Value, w'.heap[b]? = some (.cells vs e (0, 0)) ∧ (rs ++ news).length ≤ cap ∧ cap ≤ maxLen ∧ vs.size = cap * sz ∧
          ∀ (i j : Nat) (r : List PV) (p : PV) (x : Value), (rs ++ news)[i]? = some r → r[j]? = some p → vs[i * sz + j]? = some x → Rep w R Γ x p := by
  obtain ⟨i, hi, hi1, hi2⟩ : ∃ i, P.info? e = some i ∧ i.size = sz ∧ i.bytes = bytes := by
    unfold tsz at hs; unfold tbytes at hb
    cases hq : P.info? e with
    | none => simp [hq] at hs
    | some i => rw [hq] at hs hb; exact ⟨i, rfl, by simpa using hs, by simpa using hb⟩
  obtain ⟨hnews, A, c, rfl, hy⟩ := hy
  have fin : ∀ {v' : Value} {w' : World} {xs' : List Value}, w'.ownsRow 0 e sz v' (rs.length + news.length) (xs ++ xs') → xs'.length = news.length * sz →
      (∀ (i j : Nat) (r : List PV) (p : PV) (x : Value), news[i]? = some r → r[j]? = some p → xs'[i * sz + j]? = some x → Rep w R Γ x p) → (∀ g, v'.ownBlock = some g → v.ownBlock = some g ∨ w.heap.size ≤ g) →
      ∃ l' : Option (Nat × Nat), (l' = none → v' = .slice none 0 0 ∧ rs ++ news = []) ∧
      ∀ b cap, l' = some (b, cap) → v' = .slice (some ⟨b, 0, none⟩) (rs.length + news.length) cap ∧ (v.ownBlock = some b ∨ (w.heap.size ≤ b ∧ b < w'.heap.size)) ∧
        ∃ vs : Array Value, w'.heap[b]? = some (.cells vs e (0, 0)) ∧ (rs ++ news).length ≤ cap ∧ cap ≤ maxLen ∧ vs.size = cap * sz ∧
          ∀ (i j : Nat) (r : List PV) (p : PV) (x : Value), (rs ++ news)[i]? = some r → r[j]? = some p → vs[i * sz + j]? = some x → Rep w R Γ x p := by
    intro v' w' xs' ho hx' hrep' hfrom
    rcases ho.2 with ⟨rfl, hn⟩ | ⟨g, cap, cur, rfl, _, hg, hnc, hcm, hcs, htake⟩
    · refine ⟨none, fun _ => ⟨rfl, List.eq_nil_of_length_eq_zero (by simpa using hn)⟩, fun b cap hb => by cases hb⟩
    · refine ⟨some (g, cap), fun hq => (by cases hq), fun b cap' hb => ?_⟩
      simp only [Option.some.injEq, Prod.mk.injEq] at hb
      obtain ⟨rfl, rfl⟩ := hb
      refine ⟨rfl, (hfrom g rfl).elim Or.inl fun hh => Or.inr ⟨hh, (Array.getElem?_eq_some_iff.1 hg).1⟩, cur, hg, by simpa using hnc, hcm, hcs, fun i j r p x hr hp hx => ?_⟩
      have hxs : xs.length = rs.length * sz := hown.1
      have hj : j < sz := by
        have := lt_of_get? hp
        rcases List.mem_append.1 (List.mem_of_getElem? hr) with hm | hm
        · rw [(hrs r hm).1] at this; exact this
        · rw [(hnews r hm).1] at this; exact this
      have hil := lt_of_get? hr
      have hin : i * sz + j < (rs.length + news.length) * sz := by
        have : (i + 1) * sz ≤ (rs.length + news.length) * sz := Nat.mul_le_mul_right _ (by rw [List.length_append] at hil; omega)
        rw [Nat.add_mul] at this; omega
      have hx2 : (xs ++ xs')[i * sz + j]? = some x := by
        rw [← htake, List.getElem?_take_of_lt hin]; simpa using hx
      by_cases hk : i < rs.length
      · rw [List.getElem?_append_left hk] at hr
        have hlt : i * sz + j < xs.length := by
          rw [hxs]
          have : (i + 1) * sz ≤ rs.length * sz := Nat.mul_le_mul_right _ hk
          rw [Nat.add_mul] at this; omega
        rw [List.getElem?_append_left hlt] at hx2
        exact hrep i j r p x hr hp hx2
      · rw [List.getElem?_append_right (by omega)] at hr
        have hge : xs.length ≤ i * sz + j := by
          rw [hxs]
          have : rs.length * sz ≤ i * sz := Nat.mul_le_mul_right _ (by omega)
          omega
        rw [List.getElem?_append_right hge] at hx2
        have hidx : i * sz + j - xs.length = (i - rs.length) * sz + j := by
          rw [hxs, Nat.sub_mul]
          have : rs.length * sz ≤ i * sz := Nat.mul_le_mul_right _ (by omega)
          omega
        rw [hidx] at hx2
        exact hrep' _ j r p x hr hp hx2
  rcases hy with ⟨rfl, rfl⟩ | ⟨ad, us, rfl, hcell, hrepn⟩
  · obtain ⟨l', f1, f2⟩ := fin (v' := v) (w' := w) (xs' := []) (by simpa using hown) (by simp) (fun i j r p x hr => by simp at hr) (fun g hg => .inl hg)
    exact ⟨v, w, l', run_append_nothing 0 t ty e i sz (tel_some ht) hi v rs.length xs hown c, ⟨rfl, rfl, rfl, Nat.le_refl _, fun _ _ _ => rfl⟩, f1, f2⟩
  · obtain ⟨z, hz'⟩ : ∃ z, tzero P e = some z := by cases hq : tzero P e with | none => simp [hq] at hz | some z => exact ⟨z, rfl⟩
    have hzl' : z.length = sz := by rw [hz'] at hz; simp at hz; omega
    obtain ⟨zv, _, hzv, hzs, _⟩ := tzero_run hz'
    rw [hi] at hzv
    have hval : ∀ j u, ((List.range (news.length * sz)).map us)[j]? = some u → j < news.length * sz ∧ u = us j := fun j u hu => by
      have hj : j < news.length * sz := by have := lt_of_get? hu; simpa using this
      rw [List.getElem?_map, List.getElem?_range hj] at hu
      exact ⟨hj, (Option.some.inj hu).symm⟩
    obtain ⟨v', w', hr, hap⟩ := run_append_tip (P := P) (w := w) 0 t ty e i zv sz bytes (tel_some ht) hi (by simpa using hzv) hi1 hi2 (by omega) hsz v rs.length xs hown ad news.length c
      ((List.range (news.length * sz)).map us) (by simp) (fun j u hu => by obtain ⟨hj, rfl⟩ := hval j u hu; exact hcell j hj) (fun u hu => by
        obtain ⟨j, hj⟩ := List.mem_iff_getElem?.1 hu
        obtain ⟨hj', rfl⟩ := hval j u hj
        have hq : j / sz < news.length := (Nat.div_lt_iff_lt_mul hsz).2 hj'
        have hg : news[j / sz]? = some (news[j / sz]) := List.getElem?_eq_getElem hq
        obtain ⟨hl, hone⟩ := hnews _ (List.mem_of_getElem? hg)
        have hm : j % sz < (news[j / sz]).length := by rw [hl]; exact Nat.mod_lt _ hsz
        have hp : (news[j / sz])[j % sz]? = some ((news[j / sz])[j % sz]) := List.getElem?_eq_getElem hm
        have := hrepn _ _ _ _ hg hp
        rw [show j / sz * sz + j % sz = j from by rw [Nat.mul_comm]; exact Nat.div_add_mod j sz] at this
        exact this.oneCell (hone _ (List.mem_of_getElem? hp))) hlim.2 hlim.1 (Nat.zero_le _)
    obtain ⟨l', f1, f2⟩ := fin hap.own (by simp) (fun k j r p x hr hp hx => by obtain ⟨_, rfl⟩ := hval _ _ hx; exact hrepn k j r p hr hp) hap.from_
    exact ⟨v', w', l', hr, hap.grown, f1, f2⟩
theorem append_capped {t e : TypeId} {sz bytes zl : Nat} (ht : tel P t = some e) (hs : tsz P e = some sz) (hb : tbytes P e = some bytes) (hz : (tzero P e).map (·.length) = some zl) (hzl : zl = sz) (hsz : 0 < sz)
    {olds news : List (List PV)} {A : Option Addr} (hx : RowsOf w R Γ sz olds (.slice A olds.length olds.length)) {y : Value} (hy : RowsOf w R Γ sz news y) (hne : news ≠ [])
    (hlim : (olds.length + news.length) * bytes ≤ 140737488355328 ∧ olds.length + news.length ≤ maxLen) (ty : TypeId) :
    ∃ v' w' l', (Builtin.append_ #[t, t] ty #[.slice A olds.length olds.length, y]).run P w = .ok v' w' ∧ w.grownBy w' none ∧ (l' = none → v' = .slice none 0 0 ∧ olds ++ news = []) ∧
      ∀ b cap, l' = some (b, cap) → v' = .slice (some ⟨b, 0, none⟩) (olds ++ news).length cap ∧ (w.heap.size ≤ b ∧ b < w'.heap.size) ∧
        ∃ vs : Array Value, w'.heap[b]? = some (.cells vs e (0, 0)) ∧ (olds ++ news).length ≤ cap ∧ cap ≤ maxLen ∧ vs.size = cap * sz ∧
          ∀ (i j : Nat) (r : List PV) (p : PV) (x : Value), (olds ++ news)[i]? = some r → r[j]? = some p → vs[i * sz + j]? = some x → Rep w R Γ x p := by
  obtain ⟨hxr, A', c', hxe, hxx⟩ := hx
  simp only [Value.slice.injEq] at hxe
  obtain ⟨rfl, -, -⟩ := hxe
  rcases hxx with ⟨rfl, rfl⟩ | ⟨ad, us, rfl, hxc, hxrep⟩
  · obtain ⟨v', w', l', h1, h2, h3, h4⟩ := append_rows (P := P) (w := w) (R := R) (Γ := Γ) (rs := []) (xs := []) ht hs hb hz hzl hsz (World.ownsRow_nil w 0 e sz) (fun r hr => by cases hr) (fun i j r p x hr => by simp at hr) hy (by simpa using hlim) ty
    refine ⟨v', w', l', h1, h2, h3, fun b cap hb => ?_⟩
    obtain ⟨g1, g2, g3⟩ := h4 b cap hb
    refine ⟨by simpa using g1, ?_, g3⟩
    rcases g2 with g2 | g2
    · cases g2
    · exact g2
  · obtain ⟨info, hi, hi1, hi2⟩ : ∃ i, P.info? e = some i ∧ i.size = sz ∧ i.bytes = bytes := by
      unfold tsz at hs; unfold tbytes at hb
      cases hq : P.info? e with
      | none => simp [hq] at hs
      | some i => rw [hq] at hs hb; exact ⟨i, rfl, by simpa using hs, by simpa using hb⟩
    obtain ⟨z, hz'⟩ : ∃ z, tzero P e = some z := by cases hq : tzero P e with | none => simp [hq] at hz | some z => exact ⟨z, rfl⟩
    have hzl' : z.length = sz := by rw [hz'] at hz; simp at hz; omega
    obtain ⟨zv, _, hzv, hzs, _⟩ := tzero_run hz'
    rw [hi] at hzv
    obtain ⟨hnews, A, c, rfl, hyy⟩ := hy
    rcases hyy with ⟨hn, _⟩ | ⟨ad2, us2, rfl, hyc, hyrep⟩
    · exact absurd hn hne
    have hnl : 0 < news.length := by cases news with | nil => exact absurd rfl hne | cons _ _ => simp
    have hval : ∀ (m : Nat) (f : Nat → Value) j u, ((List.range m).map f)[j]? = some u → j < m ∧ u = f j := fun m f j u hu => by
      have hj : j < m := by have := lt_of_get? hu; simpa using this
      rw [List.getElem?_map, List.getElem?_range hj] at hu
      exact ⟨hj, (Option.some.inj hu).symm⟩
    have hr := run_append_grow (P := P) w t ty e info zv (tel_some ht) hi (by simpa using hzv) ad olds.length olds.length ((List.range (olds.length * sz)).map us) (by simp [hi1]) (fun j v hv => by obtain ⟨hj, rfl⟩ := hval _ _ _ _ hv; exact hxc j hj)
      ad2 news.length c ((List.range (news.length * sz)).map us2) (by simp [hi1]) (fun j v hv => by obtain ⟨hj, rfl⟩ := hval _ _ _ _ hv; exact hyc j hj) (by omega) (by have := hlim.2; simp only [maxLen] at this; omega)
      (growslice_fits (by omega) (by rw [hi2]; exact hlim.1))
    refine ⟨_, _, some (w.heap.size, grownCap w (olds.length + news.length) olds.length e), hr, ⟨rfl, rfl, rfl, by simp, fun k hk _ => heap_alloc_old w.drew _ hk⟩, (fun h => by cases h), fun b cap hb => ?_⟩
    simp only [Option.some.injEq, Prod.mk.injEq] at hb
    obtain ⟨rfl, rfl⟩ := hb
    have hge := grownCap_ge w (olds.length + news.length) olds.length e
    have hcm := grownCap_le_maxLen w (olds.length + news.length) olds.length e hlim.2
    refine ⟨by simp, ⟨Nat.le_refl _, by simp⟩, _, heap_alloc_new w.drew _, by simpa using hge, hcm, ?_, fun i j r p x hr hp hx => ?_⟩
    · have hzz : zv.cells.size = sz := by omega
      simp only [Array.size_append, List.size_toArray, size_zeroCells, hzz, List.length_map, List.length_range, ← Nat.add_mul]
      congr 1
      omega
    · have hj : j < sz := by
        have := lt_of_get? hp
        rcases List.mem_append.1 (List.mem_of_getElem? hr) with hm | hm
        · rw [(hxr r hm).1] at this; exact this
        · rw [(hnews r hm).1] at this; exact this
      have hil := lt_of_get? hr
      rw [← Array.getElem?_toList] at hx
      simp only [Array.toList_append, List.append_assoc] at hx
      by_cases hk : i < olds.length
      · have hin : i * sz + j < olds.length * sz := by
          have : (i + 1) * sz ≤ olds.length * sz := Nat.mul_le_mul_right _ hk
          rw [Nat.add_mul] at this; omega
        rw [List.getElem?_append_left hk] at hr
        rw [List.getElem?_append_left (by simpa using hin)] at hx
        obtain ⟨_, rfl⟩ := hval _ _ _ _ hx
        exact hxrep i j r p hr hp
      · rw [List.getElem?_append_right (by omega)] at hr
        have hle : olds.length * sz ≤ i * sz := Nat.mul_le_mul_right _ (by omega)
        have hin : i * sz + j < (olds.length + news.length) * sz := by
          have : (i + 1) * sz ≤ (olds.length + news.length) * sz := Nat.mul_le_mul_right _ (by rw [List.length_append] at hil; omega)
          rw [Nat.add_mul] at this; omega
        have hidx : i * sz + j - olds.length * sz = (i - olds.length) * sz + j := by
          rw [Nat.sub_mul]; omega
        rw [List.getElem?_append_right (by simp; omega)] at hx
        simp only [List.length_map, List.length_range] at hx
        rw [hidx, List.getElem?_append_left (by simp; rw [Nat.add_mul] at hin; omega)] at hx
        obtain ⟨_, rfl⟩ := hval _ _ _ _ hx
        exact hyrep _ j r p hr hp
end
end Go.Qg

namespace Go.Qg
open Go.RowKit (Below)
theorem setRange_length (ps : List PV) : ∀ (cells : List PV) (off : Nat), (setRange cells off ps).length = cells.length := by
  induction ps with
  | nil => intro cells off; rfl
  | cons p ps ih => intro cells off; simp [setRange, ih]
theorem setRange_get (ps : List PV) : ∀ (cells : List PV) (off i : Nat), off + ps.length ≤ cells.length → (setRange cells off ps)[i]? = if off ≤ i ∧ i < off + ps.length then ps[i - off]? else cells[i]? := by
  induction ps with
  | nil => intro cells off i _; simp only [setRange, List.length_nil, Nat.add_zero]; rw [if_neg (by omega)]
  | cons p ps ih =>
    intro cells off i h
    simp only [List.length_cons] at h
    simp only [setRange]
    rw [ih (cells.set off p) (off + 1) i (by simp; omega)]
    by_cases h1 : off + 1 ≤ i ∧ i < off + 1 + ps.length
    · rw [if_pos h1, if_pos (by simp; omega)]
      rw [show i - off = (i - (off + 1)) + 1 from by omega, List.getElem?_cons_succ]
    · rw [if_neg h1]
      by_cases h2 : i = off
      · subst h2
        rw [if_pos (by simp), List.getElem?_set_self (by omega)]
        simp
      · rw [if_neg (by simp; omega), List.getElem?_set_ne (Ne.symm h2)]
def pstore (fr : PF) (p : PV) (cells : List PV) : Option PF :=
  match p with
  | .ref s off => match fr[s]? with
    | some (.box h cs) => if off + cells.length ≤ cs.length then some (fr.set s (.box h (setRange cs off cells))) else none
    | _ => none
  | .elt i ep k f => match fr[i]? with
    | some (.rows h ep' e sz rs) => if ep' = ep then match rs[k]? with
        | some r => if f + cells.length ≤ r.length then some (fr.set i (.rows h ep e sz (rs.set k (setRange r f cells)))) else none
        | none => none
      else none
    | _ => none
  | _ => none
section
variable {P : Program} {N : Nat} {B : Base} {w w' : World} {R R' : Nat → Nat → Prop} {Γ Γ' : Nat → Option Loc} {a : Act} {fr fr' : PF}
theorem give_same {i : Nat} {l : Loc} (h : Γ i = some l) : give i l Γ = Γ := by
  funext s; unfold give; split
  · rename_i e; rw [e, h]
  · rfl
theorem store_block {b off : Nat} {vs : Array Value} {ty t : TypeId} {v : Value} {len : Nat} (hh : w.heap[b]? = some (.cells vs ty (0, 0))) (hsz : tsz P t = some len) (hv : v.cells.size = len) (hone : ∀ x ∈ v.cells.toList, x.oneCell' = true) (hfit : off + len ≤ vs.size) :
    ∃ w' vs', (Instr.storeAt t (.pointer (some ⟨b, off, none⟩)) v).run P w = .ok () w' ∧ w.grownBy w' (some b) ∧ w'.heap[b]? = some (.cells vs' ty (0, 0)) ∧ vs'.size = vs.size ∧ ∀ j, vs'[j]? = if off ≤ j ∧ j < off + len then v.cells[j - off]? else vs[j]? := by
  have hlen : v.cells.toList.length = len := by simpa using hv
  have hst := run_storeCells_at P b off ty v.cells.toList 0 vs w hh (by rw [hlen]; omega) hone
  simp only [Nat.add_zero] at hst
  refine ⟨w.setRow b (vs.toList.take off ++ v.cells.toList ++ vs.toList.drop (off + v.cells.toList.length)).toArray, (vs.toList.take off ++ v.cells.toList ++ vs.toList.drop (off + v.cells.toList.length)).toArray, ?_, ⟨rfl, rfl, rfl, by simp, fun k _ hne => setRow_other w b k _ (fun e => hne (by rw [e]))⟩, setRow_heap w b vs _ ty _ hh, by simp; omega, fun j => ?_⟩
  · simp only [Instr.storeAt, Instr.sureAddr, Sem.run_bind, Sem.run_pure, Result.andThen_ok, storeVar, run_sizeOf hsz, hv, ne_eq, not_true_eq_false, if_false, hst]
  · rw [List.getElem?_toArray]
    split
    · rename_i hin
      rw [List.append_assoc, List.getElem?_append_right (by simp; omega), List.getElem?_append_left (by simp; omega)]
      simp only [List.length_take, Array.length_toList, Array.getElem?_toList]
      congr 1; omega
    · rename_i hout
      by_cases hj : j < off
      · rw [List.append_assoc, List.getElem?_append_left (by simp; omega), List.getElem?_take_of_lt hj]; simp
      · rw [List.getElem?_append_right (by simp; omega), List.getElem?_drop, ← Array.getElem?_toList]
        congr 1
        simp only [List.length_append, List.length_take, Array.length_toList] at *
        omega
theorem store_sound (h : Sim N B R Γ a w fr) {u v : Value} {q p : PV} (hu : Rep w R Γ u q) {t : TypeId} (hv : Rep w R Γ v p)
    (hone : p.cells.all (·.one) = true) (hsz : tsz P t = some p.cells.length) (hp : pstore fr q p.cells = some fr') :
    ∃ w', (Instr.storeAt t u v).run P w = .ok () w' ∧ Sim N B R Γ a w' fr' := by
  obtain ⟨e1, e2⟩ := rep_cells_of hv hone
  have hone' : ∀ x ∈ v.cells.toList, x.oneCell' = true := fun x hx => by
    obtain ⟨j, hj, rfl⟩ := List.getElem_of_mem hx
    have hj' : j < p.cells.length := by simpa [e1] using hj
    have hp : p.cells[j]? = some (p.cells[j]) := List.getElem?_eq_getElem hj'
    refine (e2 j _ _ ?_ hp).oneCell (List.all_eq_true.1 hone _ (List.mem_of_getElem? hp))
    simp
  unfold pstore at hp
  split at hp
  · rename_i s off
    split at hp
    case h_2 => cases hp
    rename_i f cs hs
    split at hp
    case isFalse => cases hp
    rename_i hfit
    obtain rfl := Option.some.inj hp
    obtain ⟨b, vs, ty, hb, htmp, hh, hvs, h1, hr⟩ := h.slot s _ hs
    cases hu with
    | ref _ _ b' hb' =>
    obtain rfl : b' = b := by rw [hb] at hb'; simpa using hb'.symm
    obtain ⟨w', vs', hrun, hg, hh', hvs', hget⟩ := store_block (P := P) (off := off) hh hsz e1 hone' (by omega)
    refine ⟨w', hrun, ?_⟩
    have hk : ∀ b o, R b o → R b o ∧ w'.cell? ⟨b, o, none⟩ = w.cell? ⟨b, o, none⟩ := fun b o hbo =>
      ⟨hbo, cell?_of_heap (hg.block b (h.bnd b o hbo) (fun e => ((h.own s _ hb).2 _ rfl).2.2 o (Option.some.inj e ▸ hbo)))⟩
    have := h.setObj hb (Loc.le_refl _) hg (.inl rfl) (p' := .box f (setRange cs off p.cells)) rfl (by
      rw [give_same hb]
      refine ⟨b', vs', ty, hb, htmp, hh', by rw [setRange_length]; omega, fun q hq => ?_, fun j x q hx hq => ?_⟩
      · obtain ⟨j, hj⟩ := List.mem_iff_getElem?.1 hq
        rw [setRange_get _ _ _ _ hfit] at hj
        split at hj
        · exact List.all_eq_true.1 hone _ (List.mem_of_getElem? hj)
        · exact h1 _ (List.mem_of_getElem? hj)
      · rw [setRange_get _ _ _ _ hfit] at hq
        rw [hget j] at hx
        refine Rep.keep hk ?_
        split at hq
        · rename_i hin
          rw [if_pos hin] at hx
          exact e2 _ _ _ hx hq
        · rename_i hout
          rw [if_neg hout] at hx
          exact hr _ _ _ hx hq)
    rwa [give_same hb] at this
  · rename_i i ep k f
    split at hp
    case h_2 => cases hp
    rename_i fl ep' e sz rs hs
    split at hp
    case isFalse => cases hp
    rename_i he
    subst he
    split at hp
    case h_2 => cases hp
    rename_i r hrk
    split at hp
    case isFalse => cases hp
    rename_i hfit
    obtain rfl := Option.some.inj hp
    obtain ⟨b, cap, hΓ, rfl⟩ := h.eltAt (sz := sz) (rs := rs) hu (by simp [Qg.pown, hs])
    obtain ⟨l, hΓ2, htmp, hrow, hsz0, hl⟩ := h.slot i _ hs
    rw [hΓ] at hΓ2
    simp only [Option.some.injEq, Loc.rows.injEq, true_and] at hΓ2
    subst hΓ2
    obtain ⟨vs, hh, hcap, hmax, hvs, hr⟩ := hl
    have hkl := lt_of_get? hrk
    obtain ⟨hrl, hrone⟩ := hrow r (List.mem_of_getElem? hrk)
    have hbig : (k + 1) * sz ≤ cap * sz := Nat.mul_le_mul_right _ (by omega)
    rw [Nat.add_mul] at hbig
    obtain ⟨w', vs', hrun, hg, hh', hvs', hget⟩ := store_block (P := P) hh hsz e1 hone' (off := k * sz + f) (by omega)
    refine ⟨w', hrun, ?_⟩
    have hk : ∀ b o, R b o → R b o ∧ w'.cell? ⟨b, o, none⟩ = w.cell? ⟨b, o, none⟩ := fun b o hbo =>
      ⟨hbo, cell?_of_heap (hg.block b (h.bnd b o hbo) (fun e => ((h.own i _ hΓ).2 _ rfl).2.2 o (Option.some.inj e ▸ hbo)))⟩
    have := h.setObj hΓ (Loc.le_refl _) hg (.inl rfl) (p' := .rows fl ep' e sz (rs.set k (setRange r f p.cells))) rfl (by
      rw [give_same hΓ]
      refine ⟨some (b, cap), hΓ, fun ep0 n0 e => ⟨(htmp ep0 n0 e).1, (htmp ep0 n0 e).2.keep hk⟩, fun r' hr' => ?_, hsz0, vs', hh', by simpa using hcap, hmax, by omega, fun i' j r' q x hr' hq hx => ?_⟩
      · rcases List.mem_or_eq_of_mem_set hr' with hm | hm
        · exact hrow r' hm
        · subst hm
          refine ⟨by rw [setRange_length]; exact hrl, fun q hq => ?_⟩
          obtain ⟨j, hj⟩ := List.mem_iff_getElem?.1 hq
          rw [setRange_get _ _ _ _ hfit] at hj
          split at hj
          · exact List.all_eq_true.1 hone _ (List.mem_of_getElem? hj)
          · exact hrone _ (List.mem_of_getElem? hj)
      · refine Rep.keep hk ?_
        rw [hget] at hx
        rcases getElem?_set' hr' with ⟨rfl, rfl, _⟩ | ⟨hne, hr''⟩
        · rw [setRange_get _ _ _ _ hfit] at hq
          split at hq
          · rename_i hin
            rw [if_pos (by omega)] at hx
            rw [show i' * sz + j - (i' * sz + f) = j - f from by omega] at hx
            exact e2 _ _ _ hx hq
          · rename_i hout
            rw [if_neg (by omega)] at hx
            exact hr i' j r q x hrk hq hx
        · have hj : j < sz := by have := lt_of_get? hq; rw [(hrow r' (List.mem_of_getElem? hr'')).1] at this; exact this
          have hfs : f + p.cells.length ≤ sz := by omega
          rw [if_neg (by
            rintro ⟨h1, h2⟩
            rcases Nat.lt_or_gt_of_ne hne with hlt | hlt
            · have : (i' + 1) * sz ≤ k * sz := Nat.mul_le_mul_right _ hlt
              rw [Nat.add_mul] at this; omega
            · have : (k + 1) * sz ≤ i' * sz := Nat.mul_le_mul_right _ hlt
              rw [Nat.add_mul] at this; omega)] at hx
          exact hr i' j r' q x hr'' hq hx)
    rwa [give_same hΓ] at this
  · cases hp
end
end Go.Qg
