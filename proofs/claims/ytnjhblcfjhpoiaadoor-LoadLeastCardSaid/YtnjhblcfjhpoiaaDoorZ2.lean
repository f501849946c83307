/-
  Lemmas and contracts that hold of the whole program: 7 texts in one.
  No condition.
-/
import Derived.Test.YtnjhblcfjhpoiaaDoorZ1
import Derived.Test.YtnjhblcfjhpoiaaDoorChecked
import Derived.KernelRfl
import Derived.MapKept
import Derived.Carry
set_option linter.all false

namespace Go.Qg
open Go.Proofs
theorem mixed : Tryd.prog.follows .mixedOrders = true := by kernel_rfl
@[simp] theorem tsz1 : tsz Tryd.prog 1 = some 1 := by kernel_rfl
@[simp] theorem trow1 : trow Tryd.prog 1 = some false := by kernel_rfl
@[simp] theorem tel1 : tel Tryd.prog 1 = none := by kernel_rfl
@[simp] theorem tarr1 : tarr Tryd.prog 1 = none := by kernel_rfl
@[simp] theorem tifc1 : tifc Tryd.prog 1 = some false := by kernel_rfl
@[simp] theorem pzero1 : pzero Tryd.prog 1 = some (.v (.nilFunc)) := by kernel_rfl
@[simp] theorem tbytes1 : tbytes Tryd.prog 1 = some 8 := by kernel_rfl
@[simp] theorem tzero1 : tzero Tryd.prog 1 = some [.v (.nilFunc)] := by kernel_rfl
@[simp] theorem tsz2 : tsz Tryd.prog 2 = some 1 := by kernel_rfl
@[simp] theorem trow2 : trow Tryd.prog 2 = some false := by kernel_rfl
@[simp] theorem tel2 : tel Tryd.prog 2 = none := by kernel_rfl
@[simp] theorem tarr2 : tarr Tryd.prog 2 = none := by kernel_rfl
@[simp] theorem tifc2 : tifc Tryd.prog 2 = some false := by kernel_rfl
@[simp] theorem pzero2 : pzero Tryd.prog 2 = some (.v (.int .i64 0)) := by kernel_rfl
@[simp] theorem tint2 : tint Tryd.prog 2 = some .i64 := by kernel_rfl
@[simp] theorem tbytes2 : tbytes Tryd.prog 2 = some 8 := by kernel_rfl
@[simp] theorem tzero2 : tzero Tryd.prog 2 = some [.v (.int .i64 0)] := by kernel_rfl
@[simp] theorem tsz3 : tsz Tryd.prog 3 = some 1 := by kernel_rfl
@[simp] theorem trow3 : trow Tryd.prog 3 = some false := by kernel_rfl
@[simp] theorem tel3 : tel Tryd.prog 3 = none := by kernel_rfl
@[simp] theorem tarr3 : tarr Tryd.prog 3 = none := by kernel_rfl
@[simp] theorem tifc3 : tifc Tryd.prog 3 = some false := by kernel_rfl
@[simp] theorem pzero3 : pzero Tryd.prog 3 = some (.v (.int .i64 0)) := by kernel_rfl
@[simp] theorem tint3 : tint Tryd.prog 3 = some .i64 := by kernel_rfl
@[simp] theorem tbytes3 : tbytes Tryd.prog 3 = some 8 := by kernel_rfl
@[simp] theorem tzero3 : tzero Tryd.prog 3 = some [.v (.int .i64 0)] := by kernel_rfl
@[simp] theorem tsz4 : tsz Tryd.prog 4 = some 1 := by kernel_rfl
@[simp] theorem trow4 : trow Tryd.prog 4 = some false := by kernel_rfl
@[simp] theorem tel4 : tel Tryd.prog 4 = none := by kernel_rfl
@[simp] theorem tarr4 : tarr Tryd.prog 4 = none := by kernel_rfl
@[simp] theorem tifc4 : tifc Tryd.prog 4 = some false := by kernel_rfl
@[simp] theorem pzero4 : pzero Tryd.prog 4 = some (.v (.bool false)) := by kernel_rfl
@[simp] theorem tbool4 : tbool Tryd.prog 4 = true := by kernel_rfl
@[simp] theorem tbytes4 : tbytes Tryd.prog 4 = some 1 := by kernel_rfl
@[simp] theorem tzero4 : tzero Tryd.prog 4 = some [.v (.bool false)] := by kernel_rfl
@[simp] theorem tsz5 : tsz Tryd.prog 5 = some 1 := by kernel_rfl
@[simp] theorem trow5 : trow Tryd.prog 5 = some false := by kernel_rfl
@[simp] theorem tel5 : tel Tryd.prog 5 = none := by kernel_rfl
@[simp] theorem tarr5 : tarr Tryd.prog 5 = none := by kernel_rfl
@[simp] theorem tifc5 : tifc Tryd.prog 5 = some false := by kernel_rfl
@[simp] theorem pzero5 : pzero Tryd.prog 5 = some (.v (.int .u8 0)) := by kernel_rfl
@[simp] theorem tint5 : tint Tryd.prog 5 = some .u8 := by kernel_rfl
@[simp] theorem tbytes5 : tbytes Tryd.prog 5 = some 1 := by kernel_rfl
@[simp] theorem tzero5 : tzero Tryd.prog 5 = some [.v (.int .u8 0)] := by kernel_rfl
@[simp] theorem tsz6 : tsz Tryd.prog 6 = some 1 := by kernel_rfl
@[simp] theorem trow6 : trow Tryd.prog 6 = some false := by kernel_rfl
@[simp] theorem tel6 : tel Tryd.prog 6 = none := by kernel_rfl
@[simp] theorem tarr6 : tarr Tryd.prog 6 = none := by kernel_rfl
@[simp] theorem tifc6 : tifc Tryd.prog 6 = some false := by kernel_rfl
@[simp] theorem pzero6 : pzero Tryd.prog 6 = some (.v (.int .u8 0)) := by kernel_rfl
@[simp] theorem tint6 : tint Tryd.prog 6 = some .u8 := by kernel_rfl
@[simp] theorem tbytes6 : tbytes Tryd.prog 6 = some 1 := by kernel_rfl
@[simp] theorem tzero6 : tzero Tryd.prog 6 = some [.v (.int .u8 0)] := by kernel_rfl
@[simp] theorem tsz7 : tsz Tryd.prog 7 = some 4 := by kernel_rfl
@[simp] theorem trow7 : trow Tryd.prog 7 = some true := by kernel_rfl
@[simp] theorem tel7 : tel Tryd.prog 7 = none := by kernel_rfl
@[simp] theorem tarr7 : tarr Tryd.prog 7 = none := by kernel_rfl
@[simp] theorem tifc7 : tifc Tryd.prog 7 = some false := by kernel_rfl
@[simp] theorem pzero7 : pzero Tryd.prog 7 = some (.agg [.v (.int .i64 0), .v (.int .i64 0), .v (.bool false), .v (.int .u8 0)]) := by kernel_rfl
@[simp] theorem tfld7x0 : tfld Tryd.prog 7 0 = some (0, 2) := by kernel_rfl
@[simp] theorem tfld7x1 : tfld Tryd.prog 7 1 = some (1, 3) := by kernel_rfl
@[simp] theorem tfld7x2 : tfld Tryd.prog 7 2 = some (2, 4) := by kernel_rfl
@[simp] theorem tfld7x3 : tfld Tryd.prog 7 3 = some (3, 6) := by kernel_rfl
@[simp] theorem tpl7 : tpl Tryd.prog 7 = some [(0, 1), (1, 1), (2, 1), (3, 1)] := by kernel_rfl
@[simp] theorem teqf7 : teqf Tryd.prog 7 = some [(0, 0), (1, 0), (2, 1), (3, 0)] := by kernel_rfl
@[simp] theorem tbytes7 : tbytes Tryd.prog 7 = some 24 := by kernel_rfl
@[simp] theorem tzero7 : tzero Tryd.prog 7 = some [.v (.int .i64 0), .v (.int .i64 0), .v (.bool false), .v (.int .u8 0)] := by kernel_rfl
@[simp] theorem tsz8 : tsz Tryd.prog 8 = some 4 := by kernel_rfl
@[simp] theorem trow8 : trow Tryd.prog 8 = some true := by kernel_rfl
@[simp] theorem tel8 : tel Tryd.prog 8 = none := by kernel_rfl
@[simp] theorem tarr8 : tarr Tryd.prog 8 = none := by kernel_rfl
@[simp] theorem tifc8 : tifc Tryd.prog 8 = some false := by kernel_rfl
@[simp] theorem pzero8 : pzero Tryd.prog 8 = some (.agg [.v (.int .i64 0), .v (.int .i64 0), .v (.bool false), .v (.int .u8 0)]) := by kernel_rfl
@[simp] theorem tfld8x0 : tfld Tryd.prog 8 0 = some (0, 2) := by kernel_rfl
@[simp] theorem tfld8x1 : tfld Tryd.prog 8 1 = some (1, 3) := by kernel_rfl
@[simp] theorem tfld8x2 : tfld Tryd.prog 8 2 = some (2, 4) := by kernel_rfl
@[simp] theorem tfld8x3 : tfld Tryd.prog 8 3 = some (3, 6) := by kernel_rfl
@[simp] theorem tpl8 : tpl Tryd.prog 8 = some [(0, 1), (1, 1), (2, 1), (3, 1)] := by kernel_rfl
@[simp] theorem teqf8 : teqf Tryd.prog 8 = some [(0, 0), (1, 0), (2, 1), (3, 0)] := by kernel_rfl
@[simp] theorem tbytes8 : tbytes Tryd.prog 8 = some 24 := by kernel_rfl
@[simp] theorem tzero8 : tzero Tryd.prog 8 = some [.v (.int .i64 0), .v (.int .i64 0), .v (.bool false), .v (.int .u8 0)] := by kernel_rfl
@[simp] theorem tsz9 : tsz Tryd.prog 9 = some 1 := by kernel_rfl
@[simp] theorem trow9 : trow Tryd.prog 9 = some false := by kernel_rfl
@[simp] theorem tel9 : tel Tryd.prog 9 = none := by kernel_rfl
@[simp] theorem tarr9 : tarr Tryd.prog 9 = none := by kernel_rfl
@[simp] theorem tifc9 : tifc Tryd.prog 9 = some false := by kernel_rfl
@[simp] theorem pzero9 : pzero Tryd.prog 9 = some (.v (.string ByteArray.empty)) := by kernel_rfl
@[simp] theorem tstr9 : tstr Tryd.prog 9 = true := by kernel_rfl
@[simp] theorem tbytes9 : tbytes Tryd.prog 9 = some 16 := by kernel_rfl
@[simp] theorem tzero9 : tzero Tryd.prog 9 = some [.v (.string ByteArray.empty)] := by kernel_rfl
@[simp] theorem tsz10 : tsz Tryd.prog 10 = some 1 := by kernel_rfl
@[simp] theorem trow10 : trow Tryd.prog 10 = some false := by kernel_rfl
@[simp] theorem tel10 : tel Tryd.prog 10 = none := by kernel_rfl
@[simp] theorem tarr10 : tarr Tryd.prog 10 = none := by kernel_rfl
@[simp] theorem tifc10 : tifc Tryd.prog 10 = some false := by kernel_rfl
@[simp] theorem pzero10 : pzero Tryd.prog 10 = some (.v (.string ByteArray.empty)) := by kernel_rfl
@[simp] theorem tstr10 : tstr Tryd.prog 10 = true := by kernel_rfl
@[simp] theorem tbytes10 : tbytes Tryd.prog 10 = some 16 := by kernel_rfl
@[simp] theorem tzero10 : tzero Tryd.prog 10 = some [.v (.string ByteArray.empty)] := by kernel_rfl
@[simp] theorem tsz11 : tsz Tryd.prog 11 = some 1 := by kernel_rfl
@[simp] theorem trow11 : trow Tryd.prog 11 = some false := by kernel_rfl
@[simp] theorem tel11 : tel Tryd.prog 11 = none := by kernel_rfl
@[simp] theorem tarr11 : tarr Tryd.prog 11 = none := by kernel_rfl
@[simp] theorem tifc11 : tifc Tryd.prog 11 = some false := by kernel_rfl
@[simp] theorem pzero11 : pzero Tryd.prog 11 = some (.v (.string ByteArray.empty)) := by kernel_rfl
@[simp] theorem tstr11 : tstr Tryd.prog 11 = true := by kernel_rfl
@[simp] theorem tbytes11 : tbytes Tryd.prog 11 = some 16 := by kernel_rfl
@[simp] theorem tzero11 : tzero Tryd.prog 11 = some [.v (.string ByteArray.empty)] := by kernel_rfl
@[simp] theorem tsz12 : tsz Tryd.prog 12 = some 1 := by kernel_rfl
@[simp] theorem trow12 : trow Tryd.prog 12 = some false := by kernel_rfl
@[simp] theorem tel12 : tel Tryd.prog 12 = none := by kernel_rfl
@[simp] theorem tarr12 : tarr Tryd.prog 12 = none := by kernel_rfl
@[simp] theorem tifc12 : tifc Tryd.prog 12 = some false := by kernel_rfl
@[simp] theorem pzero12 : pzero Tryd.prog 12 = some (.v (.int .u64 0)) := by kernel_rfl
@[simp] theorem tint12 : tint Tryd.prog 12 = some .u64 := by kernel_rfl
@[simp] theorem tbytes12 : tbytes Tryd.prog 12 = some 8 := by kernel_rfl
@[simp] theorem tzero12 : tzero Tryd.prog 12 = some [.v (.int .u64 0)] := by kernel_rfl
@[simp] theorem tsz13 : tsz Tryd.prog 13 = some 2 := by kernel_rfl
@[simp] theorem trow13 : trow Tryd.prog 13 = some true := by kernel_rfl
@[simp] theorem tel13 : tel Tryd.prog 13 = none := by kernel_rfl
@[simp] theorem tarr13 : tarr Tryd.prog 13 = none := by kernel_rfl
@[simp] theorem tifc13 : tifc Tryd.prog 13 = some false := by kernel_rfl
@[simp] theorem pzero13 : pzero Tryd.prog 13 = some (.agg [.v (.string ByteArray.empty), .v (.int .u64 0)]) := by kernel_rfl
@[simp] theorem tfld13x0 : tfld Tryd.prog 13 0 = some (0, 9) := by kernel_rfl
@[simp] theorem tfld13x1 : tfld Tryd.prog 13 1 = some (1, 12) := by kernel_rfl
@[simp] theorem tpl13 : tpl Tryd.prog 13 = some [(0, 1), (1, 1)] := by kernel_rfl
@[simp] theorem tbytes13 : tbytes Tryd.prog 13 = some 24 := by kernel_rfl
@[simp] theorem tzero13 : tzero Tryd.prog 13 = some [.v (.string ByteArray.empty), .v (.int .u64 0)] := by kernel_rfl
@[simp] theorem tsz14 : tsz Tryd.prog 14 = some 2 := by kernel_rfl
@[simp] theorem trow14 : trow Tryd.prog 14 = some true := by kernel_rfl
@[simp] theorem tel14 : tel Tryd.prog 14 = none := by kernel_rfl
@[simp] theorem tarr14 : tarr Tryd.prog 14 = none := by kernel_rfl
@[simp] theorem tifc14 : tifc Tryd.prog 14 = some false := by kernel_rfl
@[simp] theorem pzero14 : pzero Tryd.prog 14 = some (.agg [.v (.string ByteArray.empty), .v (.int .u64 0)]) := by kernel_rfl
@[simp] theorem tfld14x0 : tfld Tryd.prog 14 0 = some (0, 9) := by kernel_rfl
@[simp] theorem tfld14x1 : tfld Tryd.prog 14 1 = some (1, 12) := by kernel_rfl
@[simp] theorem tpl14 : tpl Tryd.prog 14 = some [(0, 1), (1, 1)] := by kernel_rfl
@[simp] theorem tbytes14 : tbytes Tryd.prog 14 = some 24 := by kernel_rfl
@[simp] theorem tzero14 : tzero Tryd.prog 14 = some [.v (.string ByteArray.empty), .v (.int .u64 0)] := by kernel_rfl
@[simp] theorem tsz15 : tsz Tryd.prog 15 = some 1 := by kernel_rfl
@[simp] theorem trow15 : trow Tryd.prog 15 = some false := by kernel_rfl
@[simp] theorem tel15 : tel Tryd.prog 15 = none := by kernel_rfl
@[simp] theorem tarr15 : tarr Tryd.prog 15 = none := by kernel_rfl
@[simp] theorem tifc15 : tifc Tryd.prog 15 = some false := by kernel_rfl
@[simp] theorem pzero15 : pzero Tryd.prog 15 = some (.v (.pointer none)) := by kernel_rfl
@[simp] theorem tbytes15 : tbytes Tryd.prog 15 = some 8 := by kernel_rfl
@[simp] theorem tzero15 : tzero Tryd.prog 15 = some [.v (.pointer none)] := by kernel_rfl
@[simp] theorem tsz16 : tsz Tryd.prog 16 = some 1 := by kernel_rfl
@[simp] theorem trow16 : trow Tryd.prog 16 = some false := by kernel_rfl
@[simp] theorem tel16 : tel Tryd.prog 16 = none := by kernel_rfl
@[simp] theorem tarr16 : tarr Tryd.prog 16 = none := by kernel_rfl
@[simp] theorem tifc16 : tifc Tryd.prog 16 = some false := by kernel_rfl
@[simp] theorem pzero16 : pzero Tryd.prog 16 = some (.v (.pointer none)) := by kernel_rfl
@[simp] theorem tbytes16 : tbytes Tryd.prog 16 = some 8 := by kernel_rfl
@[simp] theorem tzero16 : tzero Tryd.prog 16 = some [.v (.pointer none)] := by kernel_rfl
@[simp] theorem tsz17 : tsz Tryd.prog 17 = some 1 := by kernel_rfl
@[simp] theorem trow17 : trow Tryd.prog 17 = some false := by kernel_rfl
@[simp] theorem tel17 : tel Tryd.prog 17 = none := by kernel_rfl
@[simp] theorem tarr17 : tarr Tryd.prog 17 = none := by kernel_rfl
@[simp] theorem tifc17 : tifc Tryd.prog 17 = some false := by kernel_rfl
@[simp] theorem pzero17 : pzero Tryd.prog 17 = some (.v (.pointer none)) := by kernel_rfl
@[simp] theorem tbytes17 : tbytes Tryd.prog 17 = some 8 := by kernel_rfl
@[simp] theorem tzero17 : tzero Tryd.prog 17 = some [.v (.pointer none)] := by kernel_rfl
@[simp] theorem tsz18 : tsz Tryd.prog 18 = some 1 := by kernel_rfl
@[simp] theorem trow18 : trow Tryd.prog 18 = some true := by kernel_rfl
@[simp] theorem tel18 : tel Tryd.prog 18 = none := by kernel_rfl
@[simp] theorem tarr18 : tarr Tryd.prog 18 = none := by kernel_rfl
@[simp] theorem tifc18 : tifc Tryd.prog 18 = some false := by kernel_rfl
@[simp] theorem pzero18 : pzero Tryd.prog 18 = some (.agg [.v (.pointer none)]) := by kernel_rfl
@[simp] theorem tfld18x0 : tfld Tryd.prog 18 0 = some (0, 17) := by kernel_rfl
@[simp] theorem tpl18 : tpl Tryd.prog 18 = some [(0, 1)] := by kernel_rfl
@[simp] theorem tbytes18 : tbytes Tryd.prog 18 = some 8 := by kernel_rfl
@[simp] theorem tzero18 : tzero Tryd.prog 18 = some [.v (.pointer none)] := by kernel_rfl
@[simp] theorem tsz19 : tsz Tryd.prog 19 = some 1 := by kernel_rfl
@[simp] theorem trow19 : trow Tryd.prog 19 = some true := by kernel_rfl
@[simp] theorem tel19 : tel Tryd.prog 19 = none := by kernel_rfl
@[simp] theorem tarr19 : tarr Tryd.prog 19 = none := by kernel_rfl
@[simp] theorem tifc19 : tifc Tryd.prog 19 = some false := by kernel_rfl
@[simp] theorem pzero19 : pzero Tryd.prog 19 = some (.agg [.v (.pointer none)]) := by kernel_rfl
@[simp] theorem tfld19x0 : tfld Tryd.prog 19 0 = some (0, 17) := by kernel_rfl
@[simp] theorem tpl19 : tpl Tryd.prog 19 = some [(0, 1)] := by kernel_rfl
@[simp] theorem tbytes19 : tbytes Tryd.prog 19 = some 8 := by kernel_rfl
@[simp] theorem tzero19 : tzero Tryd.prog 19 = some [.v (.pointer none)] := by kernel_rfl
@[simp] theorem tsz20 : tsz Tryd.prog 20 = some 1 := by kernel_rfl
@[simp] theorem trow20 : trow Tryd.prog 20 = some false := by kernel_rfl
@[simp] theorem tel20 : tel Tryd.prog 20 = none := by kernel_rfl
@[simp] theorem tarr20 : tarr Tryd.prog 20 = none := by kernel_rfl
@[simp] theorem tifc20 : tifc Tryd.prog 20 = some true := by kernel_rfl
@[simp] theorem pzero20 : pzero Tryd.prog 20 = some (.v (.nilIface)) := by kernel_rfl
@[simp] theorem tbytes20 : tbytes Tryd.prog 20 = some 16 := by kernel_rfl
@[simp] theorem tzero20 : tzero Tryd.prog 20 = some [.v (.nilIface)] := by kernel_rfl
@[simp] theorem tsz21 : tsz Tryd.prog 21 = some 1 := by kernel_rfl
@[simp] theorem trow21 : trow Tryd.prog 21 = some false := by kernel_rfl
@[simp] theorem tel21 : tel Tryd.prog 21 = none := by kernel_rfl
@[simp] theorem tarr21 : tarr Tryd.prog 21 = none := by kernel_rfl
@[simp] theorem tifc21 : tifc Tryd.prog 21 = some false := by kernel_rfl
@[simp] theorem pzero21 : pzero Tryd.prog 21 = some (.v (.int .i32 0)) := by kernel_rfl
@[simp] theorem tint21 : tint Tryd.prog 21 = some .i32 := by kernel_rfl
@[simp] theorem tbytes21 : tbytes Tryd.prog 21 = some 4 := by kernel_rfl
@[simp] theorem tzero21 : tzero Tryd.prog 21 = some [.v (.int .i32 0)] := by kernel_rfl
@[simp] theorem tsz22 : tsz Tryd.prog 22 = some 1 := by kernel_rfl
@[simp] theorem trow22 : trow Tryd.prog 22 = some false := by kernel_rfl
@[simp] theorem tel22 : tel Tryd.prog 22 = some 51 := by kernel_rfl
@[simp] theorem tarr22 : tarr Tryd.prog 22 = none := by kernel_rfl
@[simp] theorem tifc22 : tifc Tryd.prog 22 = some false := by kernel_rfl
@[simp] theorem pzero22 : pzero Tryd.prog 22 = some (.nil) := by kernel_rfl
@[simp] theorem tbytes22 : tbytes Tryd.prog 22 = some 24 := by kernel_rfl
@[simp] theorem tzero22 : tzero Tryd.prog 22 = some [.nil] := by kernel_rfl
@[simp] theorem tsz23 : tsz Tryd.prog 23 = some 1 := by kernel_rfl
@[simp] theorem trow23 : trow Tryd.prog 23 = some false := by kernel_rfl
@[simp] theorem tel23 : tel Tryd.prog 23 = some 25 := by kernel_rfl
@[simp] theorem tarr23 : tarr Tryd.prog 23 = none := by kernel_rfl
@[simp] theorem tifc23 : tifc Tryd.prog 23 = some false := by kernel_rfl
@[simp] theorem pzero23 : pzero Tryd.prog 23 = some (.nil) := by kernel_rfl
@[simp] theorem tbytes23 : tbytes Tryd.prog 23 = some 24 := by kernel_rfl
@[simp] theorem tzero23 : tzero Tryd.prog 23 = some [.nil] := by kernel_rfl
@[simp] theorem tsz24 : tsz Tryd.prog 24 = some 2 := by kernel_rfl
@[simp] theorem trow24 : trow Tryd.prog 24 = some true := by kernel_rfl
@[simp] theorem tel24 : tel Tryd.prog 24 = none := by kernel_rfl
@[simp] theorem tarr24 : tarr Tryd.prog 24 = none := by kernel_rfl
@[simp] theorem tifc24 : tifc Tryd.prog 24 = some false := by kernel_rfl
@[simp] theorem pzero24 : pzero Tryd.prog 24 = some (.agg [.v (.int .i64 0), .v (.int .i64 0)]) := by kernel_rfl
@[simp] theorem tfld24x0 : tfld Tryd.prog 24 0 = some (0, 3) := by kernel_rfl
@[simp] theorem tfld24x1 : tfld Tryd.prog 24 1 = some (1, 3) := by kernel_rfl
@[simp] theorem tpl24 : tpl Tryd.prog 24 = some [(0, 1), (1, 1)] := by kernel_rfl
@[simp] theorem teqf24 : teqf Tryd.prog 24 = some [(0, 0), (1, 0)] := by kernel_rfl
@[simp] theorem tbytes24 : tbytes Tryd.prog 24 = some 16 := by kernel_rfl
@[simp] theorem tzero24 : tzero Tryd.prog 24 = some [.v (.int .i64 0), .v (.int .i64 0)] := by kernel_rfl
@[simp] theorem tsz25 : tsz Tryd.prog 25 = some 2 := by kernel_rfl
@[simp] theorem trow25 : trow Tryd.prog 25 = some true := by kernel_rfl
@[simp] theorem tel25 : tel Tryd.prog 25 = none := by kernel_rfl
@[simp] theorem tarr25 : tarr Tryd.prog 25 = none := by kernel_rfl
@[simp] theorem tifc25 : tifc Tryd.prog 25 = some false := by kernel_rfl
@[simp] theorem pzero25 : pzero Tryd.prog 25 = some (.agg [.v (.int .i64 0), .v (.int .i64 0)]) := by kernel_rfl
@[simp] theorem tfld25x0 : tfld Tryd.prog 25 0 = some (0, 3) := by kernel_rfl
@[simp] theorem tfld25x1 : tfld Tryd.prog 25 1 = some (1, 3) := by kernel_rfl
@[simp] theorem tpl25 : tpl Tryd.prog 25 = some [(0, 1), (1, 1)] := by kernel_rfl
@[simp] theorem teqf25 : teqf Tryd.prog 25 = some [(0, 0), (1, 0)] := by kernel_rfl
@[simp] theorem tbytes25 : tbytes Tryd.prog 25 = some 16 := by kernel_rfl
@[simp] theorem tzero25 : tzero Tryd.prog 25 = some [.v (.int .i64 0), .v (.int .i64 0)] := by kernel_rfl
@[simp] theorem tsz26 : tsz Tryd.prog 26 = some 10 := by kernel_rfl
@[simp] theorem trow26 : trow Tryd.prog 26 = some true := by kernel_rfl
@[simp] theorem tel26 : tel Tryd.prog 26 = none := by kernel_rfl
@[simp] theorem tarr26 : tarr Tryd.prog 26 = none := by kernel_rfl
@[simp] theorem tifc26 : tifc Tryd.prog 26 = some false := by kernel_rfl
@[simp] theorem pzero26 : pzero Tryd.prog 26 = some (.agg [.v (.int .i64 0), .v (.int .i64 0), .v (.int .i64 0), .v (.int .i64 0), .nil, .nil, .v (.int .i64 0), .v (.int .i64 0), .v (.int .i64 0), .nil]) := by kernel_rfl
@[simp] theorem tfld26x0 : tfld Tryd.prog 26 0 = some (0, 3) := by kernel_rfl
@[simp] theorem tfld26x1 : tfld Tryd.prog 26 1 = some (1, 3) := by kernel_rfl
@[simp] theorem tfld26x2 : tfld Tryd.prog 26 2 = some (2, 3) := by kernel_rfl
@[simp] theorem tfld26x3 : tfld Tryd.prog 26 3 = some (3, 3) := by kernel_rfl
@[simp] theorem tfld26x4 : tfld Tryd.prog 26 4 = some (4, 22) := by kernel_rfl
@[simp] theorem tfld26x5 : tfld Tryd.prog 26 5 = some (5, 23) := by kernel_rfl
@[simp] theorem tfld26x6 : tfld Tryd.prog 26 6 = some (6, 25) := by kernel_rfl
@[simp] theorem tfld26x7 : tfld Tryd.prog 26 7 = some (8, 3) := by kernel_rfl
@[simp] theorem tfld26x8 : tfld Tryd.prog 26 8 = some (9, 23) := by kernel_rfl
@[simp] theorem tpl26 : tpl Tryd.prog 26 = some [(0, 1), (1, 1), (2, 1), (3, 1), (4, 1), (5, 1), (6, 2), (8, 1), (9, 1)] := by kernel_rfl
@[simp] theorem tbytes26 : tbytes Tryd.prog 26 = some 128 := by kernel_rfl
@[simp] theorem tzero26 : tzero Tryd.prog 26 = some [.v (.int .i64 0), .v (.int .i64 0), .v (.int .i64 0), .v (.int .i64 0), .nil, .nil, .v (.int .i64 0), .v (.int .i64 0), .v (.int .i64 0), .nil] := by kernel_rfl
@[simp] theorem tsz27 : tsz Tryd.prog 27 = some 10 := by kernel_rfl
@[simp] theorem trow27 : trow Tryd.prog 27 = some true := by kernel_rfl
@[simp] theorem tel27 : tel Tryd.prog 27 = none := by kernel_rfl
@[simp] theorem tarr27 : tarr Tryd.prog 27 = none := by kernel_rfl
@[simp] theorem tifc27 : tifc Tryd.prog 27 = some false := by kernel_rfl
@[simp] theorem pzero27 : pzero Tryd.prog 27 = some (.agg [.v (.int .i64 0), .v (.int .i64 0), .v (.int .i64 0), .v (.int .i64 0), .nil, .nil, .v (.int .i64 0), .v (.int .i64 0), .v (.int .i64 0), .nil]) := by kernel_rfl
@[simp] theorem tfld27x0 : tfld Tryd.prog 27 0 = some (0, 3) := by kernel_rfl
@[simp] theorem tfld27x1 : tfld Tryd.prog 27 1 = some (1, 3) := by kernel_rfl
@[simp] theorem tfld27x2 : tfld Tryd.prog 27 2 = some (2, 3) := by kernel_rfl
@[simp] theorem tfld27x3 : tfld Tryd.prog 27 3 = some (3, 3) := by kernel_rfl
@[simp] theorem tfld27x4 : tfld Tryd.prog 27 4 = some (4, 22) := by kernel_rfl
@[simp] theorem tfld27x5 : tfld Tryd.prog 27 5 = some (5, 23) := by kernel_rfl
@[simp] theorem tfld27x6 : tfld Tryd.prog 27 6 = some (6, 25) := by kernel_rfl
@[simp] theorem tfld27x7 : tfld Tryd.prog 27 7 = some (8, 3) := by kernel_rfl
@[simp] theorem tfld27x8 : tfld Tryd.prog 27 8 = some (9, 23) := by kernel_rfl
@[simp] theorem tpl27 : tpl Tryd.prog 27 = some [(0, 1), (1, 1), (2, 1), (3, 1), (4, 1), (5, 1), (6, 2), (8, 1), (9, 1)] := by kernel_rfl
@[simp] theorem tbytes27 : tbytes Tryd.prog 27 = some 128 := by kernel_rfl
@[simp] theorem tzero27 : tzero Tryd.prog 27 = some [.v (.int .i64 0), .v (.int .i64 0), .v (.int .i64 0), .v (.int .i64 0), .nil, .nil, .v (.int .i64 0), .v (.int .i64 0), .v (.int .i64 0), .nil] := by kernel_rfl
@[simp] theorem tsz28 : tsz Tryd.prog 28 = some 2 := by kernel_rfl
@[simp] theorem trow28 : trow Tryd.prog 28 = some true := by kernel_rfl
@[simp] theorem tel28 : tel Tryd.prog 28 = none := by kernel_rfl
@[simp] theorem tarr28 : tarr Tryd.prog 28 = none := by kernel_rfl
@[simp] theorem tifc28 : tifc Tryd.prog 28 = some false := by kernel_rfl
@[simp] theorem pzero28 : pzero Tryd.prog 28 = some (.agg [.v (.int .i64 0), .v (.int .i64 0)]) := by kernel_rfl
@[simp] theorem tfld28x0 : tfld Tryd.prog 28 0 = some (0, 3) := by kernel_rfl
@[simp] theorem tfld28x1 : tfld Tryd.prog 28 1 = some (1, 3) := by kernel_rfl
@[simp] theorem tpl28 : tpl Tryd.prog 28 = some [(0, 1), (1, 1)] := by kernel_rfl
@[simp] theorem teqf28 : teqf Tryd.prog 28 = some [(0, 0), (1, 0)] := by kernel_rfl
@[simp] theorem tbytes28 : tbytes Tryd.prog 28 = some 16 := by kernel_rfl
@[simp] theorem tzero28 : tzero Tryd.prog 28 = some [.v (.int .i64 0), .v (.int .i64 0)] := by kernel_rfl
@[simp] theorem tsz29 : tsz Tryd.prog 29 = some 2 := by kernel_rfl
@[simp] theorem trow29 : trow Tryd.prog 29 = some true := by kernel_rfl
@[simp] theorem tel29 : tel Tryd.prog 29 = none := by kernel_rfl
@[simp] theorem tarr29 : tarr Tryd.prog 29 = none := by kernel_rfl
@[simp] theorem tifc29 : tifc Tryd.prog 29 = some false := by kernel_rfl
@[simp] theorem pzero29 : pzero Tryd.prog 29 = some (.agg [.v (.int .i64 0), .v (.int .i64 0)]) := by kernel_rfl
@[simp] theorem tfld29x0 : tfld Tryd.prog 29 0 = some (0, 3) := by kernel_rfl
@[simp] theorem tfld29x1 : tfld Tryd.prog 29 1 = some (1, 3) := by kernel_rfl
@[simp] theorem tpl29 : tpl Tryd.prog 29 = some [(0, 1), (1, 1)] := by kernel_rfl
@[simp] theorem teqf29 : teqf Tryd.prog 29 = some [(0, 0), (1, 0)] := by kernel_rfl
@[simp] theorem tbytes29 : tbytes Tryd.prog 29 = some 16 := by kernel_rfl
@[simp] theorem tzero29 : tzero Tryd.prog 29 = some [.v (.int .i64 0), .v (.int .i64 0)] := by kernel_rfl
@[simp] theorem tsz30 : tsz Tryd.prog 30 = some 1 := by kernel_rfl
@[simp] theorem trow30 : trow Tryd.prog 30 = some false := by kernel_rfl
@[simp] theorem tel30 : tel Tryd.prog 30 = some 47 := by kernel_rfl
@[simp] theorem tarr30 : tarr Tryd.prog 30 = none := by kernel_rfl
@[simp] theorem tifc30 : tifc Tryd.prog 30 = some false := by kernel_rfl
@[simp] theorem pzero30 : pzero Tryd.prog 30 = some (.nil) := by kernel_rfl
@[simp] theorem tbytes30 : tbytes Tryd.prog 30 = some 24 := by kernel_rfl
@[simp] theorem tzero30 : tzero Tryd.prog 30 = some [.nil] := by kernel_rfl
@[simp] theorem tsz31 : tsz Tryd.prog 31 = some 1 := by kernel_rfl
@[simp] theorem trow31 : trow Tryd.prog 31 = some false := by kernel_rfl
@[simp] theorem tel31 : tel Tryd.prog 31 = some 32 := by kernel_rfl
@[simp] theorem tarr31 : tarr Tryd.prog 31 = none := by kernel_rfl
@[simp] theorem tifc31 : tifc Tryd.prog 31 = some false := by kernel_rfl
@[simp] theorem pzero31 : pzero Tryd.prog 31 = some (.nil) := by kernel_rfl
@[simp] theorem tbytes31 : tbytes Tryd.prog 31 = some 24 := by kernel_rfl
@[simp] theorem tzero31 : tzero Tryd.prog 31 = some [.nil] := by kernel_rfl
@[simp] theorem tsz32 : tsz Tryd.prog 32 = some 1 := by kernel_rfl
@[simp] theorem trow32 : trow Tryd.prog 32 = some false := by kernel_rfl
@[simp] theorem tel32 : tel Tryd.prog 32 = some 3 := by kernel_rfl
@[simp] theorem tarr32 : tarr Tryd.prog 32 = none := by kernel_rfl
@[simp] theorem tifc32 : tifc Tryd.prog 32 = some false := by kernel_rfl
@[simp] theorem pzero32 : pzero Tryd.prog 32 = some (.nil) := by kernel_rfl
@[simp] theorem tbytes32 : tbytes Tryd.prog 32 = some 24 := by kernel_rfl
@[simp] theorem tzero32 : tzero Tryd.prog 32 = some [.nil] := by kernel_rfl
@[simp] theorem tsz33 : tsz Tryd.prog 33 = some 4 := by kernel_rfl
@[simp] theorem trow33 : trow Tryd.prog 33 = some true := by kernel_rfl
@[simp] theorem tel33 : tel Tryd.prog 33 = none := by kernel_rfl
@[simp] theorem tarr33 : tarr Tryd.prog 33 = none := by kernel_rfl
@[simp] theorem tifc33 : tifc Tryd.prog 33 = some false := by kernel_rfl
@[simp] theorem pzero33 : pzero Tryd.prog 33 = some (.agg [.nil, .v (.int .i64 0), .nil, .nil]) := by kernel_rfl
@[simp] theorem tfld33x0 : tfld Tryd.prog 33 0 = some (0, 31) := by kernel_rfl
@[simp] theorem tfld33x1 : tfld Tryd.prog 33 1 = some (1, 3) := by kernel_rfl
@[simp] theorem tfld33x2 : tfld Tryd.prog 33 2 = some (2, 32) := by kernel_rfl
@[simp] theorem tfld33x3 : tfld Tryd.prog 33 3 = some (3, 31) := by kernel_rfl
@[simp] theorem tpl33 : tpl Tryd.prog 33 = some [(0, 1), (1, 1), (2, 1), (3, 1)] := by kernel_rfl
@[simp] theorem tbytes33 : tbytes Tryd.prog 33 = some 80 := by kernel_rfl
@[simp] theorem tzero33 : tzero Tryd.prog 33 = some [.nil, .v (.int .i64 0), .nil, .nil] := by kernel_rfl
@[simp] theorem tsz34 : tsz Tryd.prog 34 = some 4 := by kernel_rfl
@[simp] theorem trow34 : trow Tryd.prog 34 = some true := by kernel_rfl
@[simp] theorem tel34 : tel Tryd.prog 34 = none := by kernel_rfl
@[simp] theorem tarr34 : tarr Tryd.prog 34 = none := by kernel_rfl
@[simp] theorem tifc34 : tifc Tryd.prog 34 = some false := by kernel_rfl
@[simp] theorem pzero34 : pzero Tryd.prog 34 = some (.agg [.nil, .v (.int .i64 0), .nil, .nil]) := by kernel_rfl
@[simp] theorem tfld34x0 : tfld Tryd.prog 34 0 = some (0, 31) := by kernel_rfl
@[simp] theorem tfld34x1 : tfld Tryd.prog 34 1 = some (1, 3) := by kernel_rfl
@[simp] theorem tfld34x2 : tfld Tryd.prog 34 2 = some (2, 32) := by kernel_rfl
@[simp] theorem tfld34x3 : tfld Tryd.prog 34 3 = some (3, 31) := by kernel_rfl
@[simp] theorem tpl34 : tpl Tryd.prog 34 = some [(0, 1), (1, 1), (2, 1), (3, 1)] := by kernel_rfl
@[simp] theorem tbytes34 : tbytes Tryd.prog 34 = some 80 := by kernel_rfl
@[simp] theorem tzero34 : tzero Tryd.prog 34 = some [.nil, .v (.int .i64 0), .nil, .nil] := by kernel_rfl
@[simp] theorem tsz35 : tsz Tryd.prog 35 = some 1 := by kernel_rfl
@[simp] theorem trow35 : trow Tryd.prog 35 = some false := by kernel_rfl
@[simp] theorem tel35 : tel Tryd.prog 35 = none := by kernel_rfl
@[simp] theorem tarr35 : tarr Tryd.prog 35 = none := by kernel_rfl
@[simp] theorem tifc35 : tifc Tryd.prog 35 = some false := by kernel_rfl
@[simp] theorem pzero35 : pzero Tryd.prog 35 = some (.v (.nilFunc)) := by kernel_rfl
@[simp] theorem tbytes35 : tbytes Tryd.prog 35 = some 8 := by kernel_rfl
@[simp] theorem tzero35 : tzero Tryd.prog 35 = some [.v (.nilFunc)] := by kernel_rfl
@[simp] theorem tsz36 : tsz Tryd.prog 36 = some 1 := by kernel_rfl
@[simp] theorem trow36 : trow Tryd.prog 36 = some false := by kernel_rfl
@[simp] theorem tel36 : tel Tryd.prog 36 = none := by kernel_rfl
@[simp] theorem tarr36 : tarr Tryd.prog 36 = none := by kernel_rfl
@[simp] theorem tifc36 : tifc Tryd.prog 36 = some false := by kernel_rfl
@[simp] theorem pzero36 : pzero Tryd.prog 36 = some (.v (.nilFunc)) := by kernel_rfl
@[simp] theorem tbytes36 : tbytes Tryd.prog 36 = some 8 := by kernel_rfl
@[simp] theorem tzero36 : tzero Tryd.prog 36 = some [.v (.nilFunc)] := by kernel_rfl
@[simp] theorem tsz37 : tsz Tryd.prog 37 = some 1 := by kernel_rfl
@[simp] theorem trow37 : trow Tryd.prog 37 = some false := by kernel_rfl
@[simp] theorem tel37 : tel Tryd.prog 37 = none := by kernel_rfl
@[simp] theorem tarr37 : tarr Tryd.prog 37 = none := by kernel_rfl
@[simp] theorem tifc37 : tifc Tryd.prog 37 = some false := by kernel_rfl
@[simp] theorem pzero37 : pzero Tryd.prog 37 = some (.v (.int .i64 0)) := by kernel_rfl
@[simp] theorem tint37 : tint Tryd.prog 37 = some .i64 := by kernel_rfl
@[simp] theorem tbytes37 : tbytes Tryd.prog 37 = some 8 := by kernel_rfl
@[simp] theorem tzero37 : tzero Tryd.prog 37 = some [.v (.int .i64 0)] := by kernel_rfl
@[simp] theorem tsz38 : tsz Tryd.prog 38 = some 1 := by kernel_rfl
@[simp] theorem trow38 : trow Tryd.prog 38 = some false := by kernel_rfl
@[simp] theorem tel38 : tel Tryd.prog 38 = none := by kernel_rfl
@[simp] theorem tarr38 : tarr Tryd.prog 38 = none := by kernel_rfl
@[simp] theorem tifc38 : tifc Tryd.prog 38 = some false := by kernel_rfl
@[simp] theorem pzero38 : pzero Tryd.prog 38 = some (.v (.nilFunc)) := by kernel_rfl
@[simp] theorem tbytes38 : tbytes Tryd.prog 38 = some 8 := by kernel_rfl
@[simp] theorem tzero38 : tzero Tryd.prog 38 = some [.v (.nilFunc)] := by kernel_rfl
@[simp] theorem tsz39 : tsz Tryd.prog 39 = some 1 := by kernel_rfl
@[simp] theorem trow39 : trow Tryd.prog 39 = some false := by kernel_rfl
@[simp] theorem tel39 : tel Tryd.prog 39 = none := by kernel_rfl
@[simp] theorem tarr39 : tarr Tryd.prog 39 = none := by kernel_rfl
@[simp] theorem tifc39 : tifc Tryd.prog 39 = some false := by kernel_rfl
@[simp] theorem pzero39 : pzero Tryd.prog 39 = some (.v (.nilFunc)) := by kernel_rfl
@[simp] theorem tbytes39 : tbytes Tryd.prog 39 = some 8 := by kernel_rfl
@[simp] theorem tzero39 : tzero Tryd.prog 39 = some [.v (.nilFunc)] := by kernel_rfl
@[simp] theorem tsz40 : tsz Tryd.prog 40 = some 1 := by kernel_rfl
@[simp] theorem trow40 : trow Tryd.prog 40 = some false := by kernel_rfl
@[simp] theorem tel40 : tel Tryd.prog 40 = none := by kernel_rfl
@[simp] theorem tarr40 : tarr Tryd.prog 40 = none := by kernel_rfl
@[simp] theorem tifc40 : tifc Tryd.prog 40 = some false := by kernel_rfl
@[simp] theorem pzero40 : pzero Tryd.prog 40 = some (.v (.nilFunc)) := by kernel_rfl
@[simp] theorem tbytes40 : tbytes Tryd.prog 40 = some 8 := by kernel_rfl
@[simp] theorem tzero40 : tzero Tryd.prog 40 = some [.v (.nilFunc)] := by kernel_rfl
@[simp] theorem tsz41 : tsz Tryd.prog 41 = some 1 := by kernel_rfl
@[simp] theorem trow41 : trow Tryd.prog 41 = some false := by kernel_rfl
@[simp] theorem tel41 : tel Tryd.prog 41 = none := by kernel_rfl
@[simp] theorem tarr41 : tarr Tryd.prog 41 = none := by kernel_rfl
@[simp] theorem tifc41 : tifc Tryd.prog 41 = some false := by kernel_rfl
@[simp] theorem pzero41 : pzero Tryd.prog 41 = some (.v (.int .i64 0)) := by kernel_rfl
@[simp] theorem tint41 : tint Tryd.prog 41 = some .i64 := by kernel_rfl
@[simp] theorem tbytes41 : tbytes Tryd.prog 41 = some 8 := by kernel_rfl
@[simp] theorem tzero41 : tzero Tryd.prog 41 = some [.v (.int .i64 0)] := by kernel_rfl
@[simp] theorem tsz43 : tsz Tryd.prog 43 = some 1 := by kernel_rfl
@[simp] theorem trow43 : trow Tryd.prog 43 = some false := by kernel_rfl
@[simp] theorem tel43 : tel Tryd.prog 43 = none := by kernel_rfl
@[simp] theorem tarr43 : tarr Tryd.prog 43 = none := by kernel_rfl
@[simp] theorem tifc43 : tifc Tryd.prog 43 = some false := by kernel_rfl
@[simp] theorem pzero43 : pzero Tryd.prog 43 = some (.v (.nilFunc)) := by kernel_rfl
@[simp] theorem tbytes43 : tbytes Tryd.prog 43 = some 8 := by kernel_rfl
@[simp] theorem tzero43 : tzero Tryd.prog 43 = some [.v (.nilFunc)] := by kernel_rfl
@[simp] theorem tsz44 : tsz Tryd.prog 44 = some 1 := by kernel_rfl
@[simp] theorem trow44 : trow Tryd.prog 44 = some false := by kernel_rfl
@[simp] theorem tel44 : tel Tryd.prog 44 = none := by kernel_rfl
@[simp] theorem tarr44 : tarr Tryd.prog 44 = none := by kernel_rfl
@[simp] theorem tifc44 : tifc Tryd.prog 44 = some false := by kernel_rfl
@[simp] theorem pzero44 : pzero Tryd.prog 44 = some (.v (.nilFunc)) := by kernel_rfl
@[simp] theorem tbytes44 : tbytes Tryd.prog 44 = some 8 := by kernel_rfl
@[simp] theorem tzero44 : tzero Tryd.prog 44 = some [.v (.nilFunc)] := by kernel_rfl
@[simp] theorem tsz45 : tsz Tryd.prog 45 = some 1 := by kernel_rfl
@[simp] theorem trow45 : trow Tryd.prog 45 = some false := by kernel_rfl
@[simp] theorem tel45 : tel Tryd.prog 45 = some 49 := by kernel_rfl
@[simp] theorem tarr45 : tarr Tryd.prog 45 = none := by kernel_rfl
@[simp] theorem tifc45 : tifc Tryd.prog 45 = some false := by kernel_rfl
@[simp] theorem pzero45 : pzero Tryd.prog 45 = some (.nil) := by kernel_rfl
@[simp] theorem tbytes45 : tbytes Tryd.prog 45 = some 24 := by kernel_rfl
@[simp] theorem tzero45 : tzero Tryd.prog 45 = some [.nil] := by kernel_rfl
@[simp] theorem tsz46 : tsz Tryd.prog 46 = some 7 := by kernel_rfl
@[simp] theorem trow46 : trow Tryd.prog 46 = some true := by kernel_rfl
@[simp] theorem tel46 : tel Tryd.prog 46 = none := by kernel_rfl
@[simp] theorem tarr46 : tarr Tryd.prog 46 = none := by kernel_rfl
@[simp] theorem tifc46 : tifc Tryd.prog 46 = some false := by kernel_rfl
@[simp] theorem pzero46 : pzero Tryd.prog 46 = some (.agg [.nil, .v (.bool false), .v (.int .i64 0), .v (.int .i64 0), .v (.int .i64 0), .v (.int .i64 0), .v (.int .i64 0)]) := by kernel_rfl
@[simp] theorem tfld46x0 : tfld Tryd.prog 46 0 = some (0, 45) := by kernel_rfl
@[simp] theorem tfld46x1 : tfld Tryd.prog 46 1 = some (1, 4) := by kernel_rfl
@[simp] theorem tfld46x2 : tfld Tryd.prog 46 2 = some (2, 3) := by kernel_rfl
@[simp] theorem tfld46x3 : tfld Tryd.prog 46 3 = some (3, 29) := by kernel_rfl
@[simp] theorem tfld46x4 : tfld Tryd.prog 46 4 = some (5, 29) := by kernel_rfl
@[simp] theorem tpl46 : tpl Tryd.prog 46 = some [(0, 1), (1, 1), (2, 1), (3, 2), (5, 2)] := by kernel_rfl
@[simp] theorem tbytes46 : tbytes Tryd.prog 46 = some 72 := by kernel_rfl
@[simp] theorem tzero46 : tzero Tryd.prog 46 = some [.nil, .v (.bool false), .v (.int .i64 0), .v (.int .i64 0), .v (.int .i64 0), .v (.int .i64 0), .v (.int .i64 0)] := by kernel_rfl
@[simp] theorem tsz47 : tsz Tryd.prog 47 = some 7 := by kernel_rfl
@[simp] theorem trow47 : trow Tryd.prog 47 = some true := by kernel_rfl
@[simp] theorem tel47 : tel Tryd.prog 47 = none := by kernel_rfl
@[simp] theorem tarr47 : tarr Tryd.prog 47 = none := by kernel_rfl
@[simp] theorem tifc47 : tifc Tryd.prog 47 = some false := by kernel_rfl
@[simp] theorem pzero47 : pzero Tryd.prog 47 = some (.agg [.nil, .v (.bool false), .v (.int .i64 0), .v (.int .i64 0), .v (.int .i64 0), .v (.int .i64 0), .v (.int .i64 0)]) := by kernel_rfl
@[simp] theorem tfld47x0 : tfld Tryd.prog 47 0 = some (0, 45) := by kernel_rfl
@[simp] theorem tfld47x1 : tfld Tryd.prog 47 1 = some (1, 4) := by kernel_rfl
@[simp] theorem tfld47x2 : tfld Tryd.prog 47 2 = some (2, 3) := by kernel_rfl
@[simp] theorem tfld47x3 : tfld Tryd.prog 47 3 = some (3, 29) := by kernel_rfl
@[simp] theorem tfld47x4 : tfld Tryd.prog 47 4 = some (5, 29) := by kernel_rfl
@[simp] theorem tpl47 : tpl Tryd.prog 47 = some [(0, 1), (1, 1), (2, 1), (3, 2), (5, 2)] := by kernel_rfl
@[simp] theorem tbytes47 : tbytes Tryd.prog 47 = some 72 := by kernel_rfl
@[simp] theorem tzero47 : tzero Tryd.prog 47 = some [.nil, .v (.bool false), .v (.int .i64 0), .v (.int .i64 0), .v (.int .i64 0), .v (.int .i64 0), .v (.int .i64 0)] := by kernel_rfl
@[simp] theorem tsz48 : tsz Tryd.prog 48 = some 3 := by kernel_rfl
@[simp] theorem trow48 : trow Tryd.prog 48 = some true := by kernel_rfl
@[simp] theorem tel48 : tel Tryd.prog 48 = none := by kernel_rfl
@[simp] theorem tarr48 : tarr Tryd.prog 48 = none := by kernel_rfl
@[simp] theorem tifc48 : tifc Tryd.prog 48 = some false := by kernel_rfl
@[simp] theorem pzero48 : pzero Tryd.prog 48 = some (.agg [.v (.int .i64 0), .v (.int .i64 0), .v (.int .i64 0)]) := by kernel_rfl
@[simp] theorem tfld48x0 : tfld Tryd.prog 48 0 = some (0, 3) := by kernel_rfl
@[simp] theorem tfld48x1 : tfld Tryd.prog 48 1 = some (1, 29) := by kernel_rfl
@[simp] theorem tpl48 : tpl Tryd.prog 48 = some [(0, 1), (1, 2)] := by kernel_rfl
@[simp] theorem tbytes48 : tbytes Tryd.prog 48 = some 24 := by kernel_rfl
@[simp] theorem tzero48 : tzero Tryd.prog 48 = some [.v (.int .i64 0), .v (.int .i64 0), .v (.int .i64 0)] := by kernel_rfl
@[simp] theorem tsz49 : tsz Tryd.prog 49 = some 3 := by kernel_rfl
@[simp] theorem trow49 : trow Tryd.prog 49 = some true := by kernel_rfl
@[simp] theorem tel49 : tel Tryd.prog 49 = none := by kernel_rfl
@[simp] theorem tarr49 : tarr Tryd.prog 49 = none := by kernel_rfl
@[simp] theorem tifc49 : tifc Tryd.prog 49 = some false := by kernel_rfl
@[simp] theorem pzero49 : pzero Tryd.prog 49 = some (.agg [.v (.int .i64 0), .v (.int .i64 0), .v (.int .i64 0)]) := by kernel_rfl
@[simp] theorem tfld49x0 : tfld Tryd.prog 49 0 = some (0, 3) := by kernel_rfl
@[simp] theorem tfld49x1 : tfld Tryd.prog 49 1 = some (1, 29) := by kernel_rfl
@[simp] theorem tpl49 : tpl Tryd.prog 49 = some [(0, 1), (1, 2)] := by kernel_rfl
@[simp] theorem tbytes49 : tbytes Tryd.prog 49 = some 24 := by kernel_rfl
@[simp] theorem tzero49 : tzero Tryd.prog 49 = some [.v (.int .i64 0), .v (.int .i64 0), .v (.int .i64 0)] := by kernel_rfl
@[simp] theorem tsz50 : tsz Tryd.prog 50 = some 2 := by kernel_rfl
@[simp] theorem trow50 : trow Tryd.prog 50 = some true := by kernel_rfl
@[simp] theorem tel50 : tel Tryd.prog 50 = none := by kernel_rfl
@[simp] theorem tarr50 : tarr Tryd.prog 50 = none := by kernel_rfl
@[simp] theorem tifc50 : tifc Tryd.prog 50 = some false := by kernel_rfl
@[simp] theorem pzero50 : pzero Tryd.prog 50 = some (.agg [.v (.int .i64 0), .v (.int .i64 0)]) := by kernel_rfl
@[simp] theorem tfld50x0 : tfld Tryd.prog 50 0 = some (0, 3) := by kernel_rfl
@[simp] theorem tfld50x1 : tfld Tryd.prog 50 1 = some (1, 3) := by kernel_rfl
@[simp] theorem tpl50 : tpl Tryd.prog 50 = some [(0, 1), (1, 1)] := by kernel_rfl
@[simp] theorem teqf50 : teqf Tryd.prog 50 = some [(0, 0), (1, 0)] := by kernel_rfl
@[simp] theorem tbytes50 : tbytes Tryd.prog 50 = some 16 := by kernel_rfl
@[simp] theorem tzero50 : tzero Tryd.prog 50 = some [.v (.int .i64 0), .v (.int .i64 0)] := by kernel_rfl
@[simp] theorem tsz51 : tsz Tryd.prog 51 = some 2 := by kernel_rfl
@[simp] theorem trow51 : trow Tryd.prog 51 = some true := by kernel_rfl
@[simp] theorem tel51 : tel Tryd.prog 51 = none := by kernel_rfl
@[simp] theorem tarr51 : tarr Tryd.prog 51 = none := by kernel_rfl
@[simp] theorem tifc51 : tifc Tryd.prog 51 = some false := by kernel_rfl
@[simp] theorem pzero51 : pzero Tryd.prog 51 = some (.agg [.v (.int .i64 0), .v (.int .i64 0)]) := by kernel_rfl
@[simp] theorem tfld51x0 : tfld Tryd.prog 51 0 = some (0, 3) := by kernel_rfl
@[simp] theorem tfld51x1 : tfld Tryd.prog 51 1 = some (1, 3) := by kernel_rfl
@[simp] theorem tpl51 : tpl Tryd.prog 51 = some [(0, 1), (1, 1)] := by kernel_rfl
@[simp] theorem teqf51 : teqf Tryd.prog 51 = some [(0, 0), (1, 0)] := by kernel_rfl
@[simp] theorem tbytes51 : tbytes Tryd.prog 51 = some 16 := by kernel_rfl
@[simp] theorem tzero51 : tzero Tryd.prog 51 = some [.v (.int .i64 0), .v (.int .i64 0)] := by kernel_rfl
@[simp] theorem tsz52 : tsz Tryd.prog 52 = some 1 := by kernel_rfl
@[simp] theorem trow52 : trow Tryd.prog 52 = some false := by kernel_rfl
@[simp] theorem tel52 : tel Tryd.prog 52 = none := by kernel_rfl
@[simp] theorem tarr52 : tarr Tryd.prog 52 = none := by kernel_rfl
@[simp] theorem tifc52 : tifc Tryd.prog 52 = some false := by kernel_rfl
@[simp] theorem pzero52 : pzero Tryd.prog 52 = some (.v (.nilFunc)) := by kernel_rfl
@[simp] theorem tbytes52 : tbytes Tryd.prog 52 = some 8 := by kernel_rfl
@[simp] theorem tzero52 : tzero Tryd.prog 52 = some [.v (.nilFunc)] := by kernel_rfl
@[simp] theorem tsz54 : tsz Tryd.prog 54 = some 1 := by kernel_rfl
@[simp] theorem trow54 : trow Tryd.prog 54 = some false := by kernel_rfl
@[simp] theorem tel54 : tel Tryd.prog 54 = none := by kernel_rfl
@[simp] theorem tarr54 : tarr Tryd.prog 54 = none := by kernel_rfl
@[simp] theorem tifc54 : tifc Tryd.prog 54 = some false := by kernel_rfl
@[simp] theorem pzero54 : pzero Tryd.prog 54 = some (.v (.nilFunc)) := by kernel_rfl
@[simp] theorem tbytes54 : tbytes Tryd.prog 54 = some 8 := by kernel_rfl
@[simp] theorem tzero54 : tzero Tryd.prog 54 = some [.v (.nilFunc)] := by kernel_rfl
@[simp] theorem tsz55 : tsz Tryd.prog 55 = some 1 := by kernel_rfl
@[simp] theorem trow55 : trow Tryd.prog 55 = some false := by kernel_rfl
@[simp] theorem tel55 : tel Tryd.prog 55 = none := by kernel_rfl
@[simp] theorem tarr55 : tarr Tryd.prog 55 = none := by kernel_rfl
@[simp] theorem tifc55 : tifc Tryd.prog 55 = some false := by kernel_rfl
@[simp] theorem pzero55 : pzero Tryd.prog 55 = some (.v (.nilFunc)) := by kernel_rfl
@[simp] theorem tbytes55 : tbytes Tryd.prog 55 = some 8 := by kernel_rfl
@[simp] theorem tzero55 : tzero Tryd.prog 55 = some [.v (.nilFunc)] := by kernel_rfl
@[simp] theorem tsz56 : tsz Tryd.prog 56 = some 1 := by kernel_rfl
@[simp] theorem trow56 : trow Tryd.prog 56 = some false := by kernel_rfl
@[simp] theorem tel56 : tel Tryd.prog 56 = none := by kernel_rfl
@[simp] theorem tarr56 : tarr Tryd.prog 56 = none := by kernel_rfl
@[simp] theorem tifc56 : tifc Tryd.prog 56 = some false := by kernel_rfl
@[simp] theorem pzero56 : pzero Tryd.prog 56 = some (.v (.nilFunc)) := by kernel_rfl
@[simp] theorem tbytes56 : tbytes Tryd.prog 56 = some 8 := by kernel_rfl
@[simp] theorem tzero56 : tzero Tryd.prog 56 = some [.v (.nilFunc)] := by kernel_rfl
@[simp] theorem tsz57 : tsz Tryd.prog 57 = some 1 := by kernel_rfl
@[simp] theorem trow57 : trow Tryd.prog 57 = some false := by kernel_rfl
@[simp] theorem tel57 : tel Tryd.prog 57 = none := by kernel_rfl
@[simp] theorem tarr57 : tarr Tryd.prog 57 = none := by kernel_rfl
@[simp] theorem tifc57 : tifc Tryd.prog 57 = some false := by kernel_rfl
@[simp] theorem pzero57 : pzero Tryd.prog 57 = some (.v (.nilFunc)) := by kernel_rfl
@[simp] theorem tbytes57 : tbytes Tryd.prog 57 = some 8 := by kernel_rfl
@[simp] theorem tzero57 : tzero Tryd.prog 57 = some [.v (.nilFunc)] := by kernel_rfl
@[simp] theorem tsz58 : tsz Tryd.prog 58 = some 1 := by kernel_rfl
@[simp] theorem trow58 : trow Tryd.prog 58 = some false := by kernel_rfl
@[simp] theorem tel58 : tel Tryd.prog 58 = none := by kernel_rfl
@[simp] theorem tarr58 : tarr Tryd.prog 58 = none := by kernel_rfl
@[simp] theorem tifc58 : tifc Tryd.prog 58 = some false := by kernel_rfl
@[simp] theorem pzero58 : pzero Tryd.prog 58 = some (.v (.nilFunc)) := by kernel_rfl
@[simp] theorem tbytes58 : tbytes Tryd.prog 58 = some 8 := by kernel_rfl
@[simp] theorem tzero58 : tzero Tryd.prog 58 = some [.v (.nilFunc)] := by kernel_rfl
@[simp] theorem tsz60 : tsz Tryd.prog 60 = some 1 := by kernel_rfl
@[simp] theorem trow60 : trow Tryd.prog 60 = some false := by kernel_rfl
@[simp] theorem tel60 : tel Tryd.prog 60 = none := by kernel_rfl
@[simp] theorem tarr60 : tarr Tryd.prog 60 = none := by kernel_rfl
@[simp] theorem tifc60 : tifc Tryd.prog 60 = some false := by kernel_rfl
@[simp] theorem pzero60 : pzero Tryd.prog 60 = some (.v (.nilFunc)) := by kernel_rfl
@[simp] theorem tbytes60 : tbytes Tryd.prog 60 = some 8 := by kernel_rfl
@[simp] theorem tzero60 : tzero Tryd.prog 60 = some [.v (.nilFunc)] := by kernel_rfl
@[simp] theorem tsz61 : tsz Tryd.prog 61 = some 1 := by kernel_rfl
@[simp] theorem trow61 : trow Tryd.prog 61 = some false := by kernel_rfl
@[simp] theorem tel61 : tel Tryd.prog 61 = none := by kernel_rfl
@[simp] theorem tarr61 : tarr Tryd.prog 61 = none := by kernel_rfl
@[simp] theorem tifc61 : tifc Tryd.prog 61 = some false := by kernel_rfl
@[simp] theorem pzero61 : pzero Tryd.prog 61 = some (.v (.nilFunc)) := by kernel_rfl
@[simp] theorem tbytes61 : tbytes Tryd.prog 61 = some 8 := by kernel_rfl
@[simp] theorem tzero61 : tzero Tryd.prog 61 = some [.v (.nilFunc)] := by kernel_rfl
@[simp] theorem tsz62 : tsz Tryd.prog 62 = some 1 := by kernel_rfl
@[simp] theorem trow62 : trow Tryd.prog 62 = some false := by kernel_rfl
@[simp] theorem tel62 : tel Tryd.prog 62 = none := by kernel_rfl
@[simp] theorem tarr62 : tarr Tryd.prog 62 = none := by kernel_rfl
@[simp] theorem tifc62 : tifc Tryd.prog 62 = some false := by kernel_rfl
@[simp] theorem pzero62 : pzero Tryd.prog 62 = some (.v (.nilFunc)) := by kernel_rfl
@[simp] theorem tbytes62 : tbytes Tryd.prog 62 = some 8 := by kernel_rfl
@[simp] theorem tzero62 : tzero Tryd.prog 62 = some [.v (.nilFunc)] := by kernel_rfl
@[simp] theorem tsz63 : tsz Tryd.prog 63 = some 1 := by kernel_rfl
@[simp] theorem trow63 : trow Tryd.prog 63 = some false := by kernel_rfl
@[simp] theorem tel63 : tel Tryd.prog 63 = none := by kernel_rfl
@[simp] theorem tarr63 : tarr Tryd.prog 63 = none := by kernel_rfl
@[simp] theorem tifc63 : tifc Tryd.prog 63 = some false := by kernel_rfl
@[simp] theorem pzero63 : pzero Tryd.prog 63 = some (.v (.nilFunc)) := by kernel_rfl
@[simp] theorem tbytes63 : tbytes Tryd.prog 63 = some 8 := by kernel_rfl
@[simp] theorem tzero63 : tzero Tryd.prog 63 = some [.v (.nilFunc)] := by kernel_rfl
@[simp] theorem tsz64 : tsz Tryd.prog 64 = some 1 := by kernel_rfl
@[simp] theorem trow64 : trow Tryd.prog 64 = some false := by kernel_rfl
@[simp] theorem tel64 : tel Tryd.prog 64 = none := by kernel_rfl
@[simp] theorem tarr64 : tarr Tryd.prog 64 = none := by kernel_rfl
@[simp] theorem tifc64 : tifc Tryd.prog 64 = some false := by kernel_rfl
@[simp] theorem pzero64 : pzero Tryd.prog 64 = some (.v (.nilFunc)) := by kernel_rfl
@[simp] theorem tbytes64 : tbytes Tryd.prog 64 = some 8 := by kernel_rfl
@[simp] theorem tzero64 : tzero Tryd.prog 64 = some [.v (.nilFunc)] := by kernel_rfl
@[simp] theorem tsz65 : tsz Tryd.prog 65 = some 1 := by kernel_rfl
@[simp] theorem trow65 : trow Tryd.prog 65 = some false := by kernel_rfl
@[simp] theorem tel65 : tel Tryd.prog 65 = none := by kernel_rfl
@[simp] theorem tarr65 : tarr Tryd.prog 65 = none := by kernel_rfl
@[simp] theorem tifc65 : tifc Tryd.prog 65 = some false := by kernel_rfl
@[simp] theorem pzero65 : pzero Tryd.prog 65 = some (.v (.nilFunc)) := by kernel_rfl
@[simp] theorem tbytes65 : tbytes Tryd.prog 65 = some 8 := by kernel_rfl
@[simp] theorem tzero65 : tzero Tryd.prog 65 = some [.v (.nilFunc)] := by kernel_rfl
@[simp] theorem tsz66 : tsz Tryd.prog 66 = some 3 := by kernel_rfl
@[simp] theorem trow66 : trow Tryd.prog 66 = some true := by kernel_rfl
@[simp] theorem tel66 : tel Tryd.prog 66 = none := by kernel_rfl
@[simp] theorem tarr66 : tarr Tryd.prog 66 = none := by kernel_rfl
@[simp] theorem tifc66 : tifc Tryd.prog 66 = some false := by kernel_rfl
@[simp] theorem pzero66 : pzero Tryd.prog 66 = some (.agg [.nil, .v (.int .i64 0), .nil]) := by kernel_rfl
@[simp] theorem tfld66x0 : tfld Tryd.prog 66 0 = some (0, 32) := by kernel_rfl
@[simp] theorem tfld66x1 : tfld Tryd.prog 66 1 = some (1, 3) := by kernel_rfl
@[simp] theorem tfld66x2 : tfld Tryd.prog 66 2 = some (2, 32) := by kernel_rfl
@[simp] theorem tpl66 : tpl Tryd.prog 66 = some [(0, 1), (1, 1), (2, 1)] := by kernel_rfl
@[simp] theorem tbytes66 : tbytes Tryd.prog 66 = some 56 := by kernel_rfl
@[simp] theorem tzero66 : tzero Tryd.prog 66 = some [.nil, .v (.int .i64 0), .nil] := by kernel_rfl
@[simp] theorem tsz67 : tsz Tryd.prog 67 = some 3 := by kernel_rfl
@[simp] theorem trow67 : trow Tryd.prog 67 = some true := by kernel_rfl
@[simp] theorem tel67 : tel Tryd.prog 67 = none := by kernel_rfl
@[simp] theorem tarr67 : tarr Tryd.prog 67 = none := by kernel_rfl
@[simp] theorem tifc67 : tifc Tryd.prog 67 = some false := by kernel_rfl
@[simp] theorem pzero67 : pzero Tryd.prog 67 = some (.agg [.nil, .v (.int .i64 0), .nil]) := by kernel_rfl
@[simp] theorem tfld67x0 : tfld Tryd.prog 67 0 = some (0, 32) := by kernel_rfl
@[simp] theorem tfld67x1 : tfld Tryd.prog 67 1 = some (1, 3) := by kernel_rfl
@[simp] theorem tfld67x2 : tfld Tryd.prog 67 2 = some (2, 32) := by kernel_rfl
@[simp] theorem tpl67 : tpl Tryd.prog 67 = some [(0, 1), (1, 1), (2, 1)] := by kernel_rfl
@[simp] theorem tbytes67 : tbytes Tryd.prog 67 = some 56 := by kernel_rfl
@[simp] theorem tzero67 : tzero Tryd.prog 67 = some [.nil, .v (.int .i64 0), .nil] := by kernel_rfl
@[simp] theorem tsz69 : tsz Tryd.prog 69 = some 1 := by kernel_rfl
@[simp] theorem trow69 : trow Tryd.prog 69 = some false := by kernel_rfl
@[simp] theorem tel69 : tel Tryd.prog 69 = none := by kernel_rfl
@[simp] theorem tarr69 : tarr Tryd.prog 69 = none := by kernel_rfl
@[simp] theorem tifc69 : tifc Tryd.prog 69 = some false := by kernel_rfl
@[simp] theorem pzero69 : pzero Tryd.prog 69 = some (.v (.nilFunc)) := by kernel_rfl
@[simp] theorem tbytes69 : tbytes Tryd.prog 69 = some 8 := by kernel_rfl
@[simp] theorem tzero69 : tzero Tryd.prog 69 = some [.v (.nilFunc)] := by kernel_rfl
@[simp] theorem tsz70 : tsz Tryd.prog 70 = some 1 := by kernel_rfl
@[simp] theorem trow70 : trow Tryd.prog 70 = some false := by kernel_rfl
@[simp] theorem tel70 : tel Tryd.prog 70 = none := by kernel_rfl
@[simp] theorem tarr70 : tarr Tryd.prog 70 = none := by kernel_rfl
@[simp] theorem tifc70 : tifc Tryd.prog 70 = some false := by kernel_rfl
@[simp] theorem pzero70 : pzero Tryd.prog 70 = some (.v (.nilFunc)) := by kernel_rfl
@[simp] theorem tbytes70 : tbytes Tryd.prog 70 = some 8 := by kernel_rfl
@[simp] theorem tzero70 : tzero Tryd.prog 70 = some [.v (.nilFunc)] := by kernel_rfl
@[simp] theorem tsz71 : tsz Tryd.prog 71 = some 1 := by kernel_rfl
@[simp] theorem trow71 : trow Tryd.prog 71 = some false := by kernel_rfl
@[simp] theorem tel71 : tel Tryd.prog 71 = some 29 := by kernel_rfl
@[simp] theorem tarr71 : tarr Tryd.prog 71 = none := by kernel_rfl
@[simp] theorem tifc71 : tifc Tryd.prog 71 = some false := by kernel_rfl
@[simp] theorem pzero71 : pzero Tryd.prog 71 = some (.nil) := by kernel_rfl
@[simp] theorem tbytes71 : tbytes Tryd.prog 71 = some 24 := by kernel_rfl
@[simp] theorem tzero71 : tzero Tryd.prog 71 = some [.nil] := by kernel_rfl
@[simp] theorem tsz72 : tsz Tryd.prog 72 = some 5 := by kernel_rfl
@[simp] theorem trow72 : trow Tryd.prog 72 = some true := by kernel_rfl
@[simp] theorem tel72 : tel Tryd.prog 72 = none := by kernel_rfl
@[simp] theorem tarr72 : tarr Tryd.prog 72 = none := by kernel_rfl
@[simp] theorem tifc72 : tifc Tryd.prog 72 = some false := by kernel_rfl
@[simp] theorem pzero72 : pzero Tryd.prog 72 = some (.agg [.nil, .v (.int .i64 0), .v (.int .i64 0), .nil, .v (.bool false)]) := by kernel_rfl
@[simp] theorem tfld72x0 : tfld Tryd.prog 72 0 = some (0, 45) := by kernel_rfl
@[simp] theorem tfld72x1 : tfld Tryd.prog 72 1 = some (1, 29) := by kernel_rfl
@[simp] theorem tfld72x2 : tfld Tryd.prog 72 2 = some (3, 71) := by kernel_rfl
@[simp] theorem tfld72x3 : tfld Tryd.prog 72 3 = some (4, 4) := by kernel_rfl
@[simp] theorem tpl72 : tpl Tryd.prog 72 = some [(0, 1), (1, 2), (3, 1), (4, 1)] := by kernel_rfl
@[simp] theorem tbytes72 : tbytes Tryd.prog 72 = some 72 := by kernel_rfl
@[simp] theorem tzero72 : tzero Tryd.prog 72 = some [.nil, .v (.int .i64 0), .v (.int .i64 0), .nil, .v (.bool false)] := by kernel_rfl
@[simp] theorem tsz73 : tsz Tryd.prog 73 = some 5 := by kernel_rfl
@[simp] theorem trow73 : trow Tryd.prog 73 = some true := by kernel_rfl
@[simp] theorem tel73 : tel Tryd.prog 73 = none := by kernel_rfl
@[simp] theorem tarr73 : tarr Tryd.prog 73 = none := by kernel_rfl
@[simp] theorem tifc73 : tifc Tryd.prog 73 = some false := by kernel_rfl
@[simp] theorem pzero73 : pzero Tryd.prog 73 = some (.agg [.nil, .v (.int .i64 0), .v (.int .i64 0), .nil, .v (.bool false)]) := by kernel_rfl
@[simp] theorem tfld73x0 : tfld Tryd.prog 73 0 = some (0, 45) := by kernel_rfl
@[simp] theorem tfld73x1 : tfld Tryd.prog 73 1 = some (1, 29) := by kernel_rfl
@[simp] theorem tfld73x2 : tfld Tryd.prog 73 2 = some (3, 71) := by kernel_rfl
@[simp] theorem tfld73x3 : tfld Tryd.prog 73 3 = some (4, 4) := by kernel_rfl
@[simp] theorem tpl73 : tpl Tryd.prog 73 = some [(0, 1), (1, 2), (3, 1), (4, 1)] := by kernel_rfl
@[simp] theorem tbytes73 : tbytes Tryd.prog 73 = some 72 := by kernel_rfl
@[simp] theorem tzero73 : tzero Tryd.prog 73 = some [.nil, .v (.int .i64 0), .v (.int .i64 0), .nil, .v (.bool false)] := by kernel_rfl
@[simp] theorem tsz74 : tsz Tryd.prog 74 = some 1 := by kernel_rfl
@[simp] theorem trow74 : trow Tryd.prog 74 = some false := by kernel_rfl
@[simp] theorem tel74 : tel Tryd.prog 74 = none := by kernel_rfl
@[simp] theorem tarr74 : tarr Tryd.prog 74 = none := by kernel_rfl
@[simp] theorem tifc74 : tifc Tryd.prog 74 = some false := by kernel_rfl
@[simp] theorem pzero74 : pzero Tryd.prog 74 = some (.v (.nilFunc)) := by kernel_rfl
@[simp] theorem tbytes74 : tbytes Tryd.prog 74 = some 8 := by kernel_rfl
@[simp] theorem tzero74 : tzero Tryd.prog 74 = some [.v (.nilFunc)] := by kernel_rfl
@[simp] theorem tsz76 : tsz Tryd.prog 76 = some 1 := by kernel_rfl
@[simp] theorem trow76 : trow Tryd.prog 76 = some false := by kernel_rfl
@[simp] theorem tel76 : tel Tryd.prog 76 = none := by kernel_rfl
@[simp] theorem tarr76 : tarr Tryd.prog 76 = none := by kernel_rfl
@[simp] theorem tifc76 : tifc Tryd.prog 76 = some false := by kernel_rfl
@[simp] theorem pzero76 : pzero Tryd.prog 76 = some (.v (.nilFunc)) := by kernel_rfl
@[simp] theorem tbytes76 : tbytes Tryd.prog 76 = some 8 := by kernel_rfl
@[simp] theorem tzero76 : tzero Tryd.prog 76 = some [.v (.nilFunc)] := by kernel_rfl
@[simp] theorem tsz77 : tsz Tryd.prog 77 = some 6 := by kernel_rfl
@[simp] theorem trow77 : trow Tryd.prog 77 = some true := by kernel_rfl
@[simp] theorem tel77 : tel Tryd.prog 77 = none := by kernel_rfl
@[simp] theorem tarr77 : tarr Tryd.prog 77 = none := by kernel_rfl
@[simp] theorem tifc77 : tifc Tryd.prog 77 = some false := by kernel_rfl
@[simp] theorem pzero77 : pzero Tryd.prog 77 = some (.agg [.v (.int .i64 0), .v (.int .i64 0), .v (.int .i64 0), .v (.int .i64 0), .v (.int .i64 0), .v (.int .i64 0)]) := by kernel_rfl
@[simp] theorem tfld77x0 : tfld Tryd.prog 77 0 = some (0, 29) := by kernel_rfl
@[simp] theorem tfld77x1 : tfld Tryd.prog 77 1 = some (2, 3) := by kernel_rfl
@[simp] theorem tfld77x2 : tfld Tryd.prog 77 2 = some (3, 29) := by kernel_rfl
@[simp] theorem tfld77x3 : tfld Tryd.prog 77 3 = some (5, 3) := by kernel_rfl
@[simp] theorem tpl77 : tpl Tryd.prog 77 = some [(0, 2), (2, 1), (3, 2), (5, 1)] := by kernel_rfl
@[simp] theorem tbytes77 : tbytes Tryd.prog 77 = some 48 := by kernel_rfl
@[simp] theorem tzero77 : tzero Tryd.prog 77 = some [.v (.int .i64 0), .v (.int .i64 0), .v (.int .i64 0), .v (.int .i64 0), .v (.int .i64 0), .v (.int .i64 0)] := by kernel_rfl
@[simp] theorem tsz78 : tsz Tryd.prog 78 = some 6 := by kernel_rfl
@[simp] theorem trow78 : trow Tryd.prog 78 = some true := by kernel_rfl
@[simp] theorem tel78 : tel Tryd.prog 78 = none := by kernel_rfl
@[simp] theorem tarr78 : tarr Tryd.prog 78 = none := by kernel_rfl
@[simp] theorem tifc78 : tifc Tryd.prog 78 = some false := by kernel_rfl
@[simp] theorem pzero78 : pzero Tryd.prog 78 = some (.agg [.v (.int .i64 0), .v (.int .i64 0), .v (.int .i64 0), .v (.int .i64 0), .v (.int .i64 0), .v (.int .i64 0)]) := by kernel_rfl
@[simp] theorem tfld78x0 : tfld Tryd.prog 78 0 = some (0, 29) := by kernel_rfl
@[simp] theorem tfld78x1 : tfld Tryd.prog 78 1 = some (2, 3) := by kernel_rfl
@[simp] theorem tfld78x2 : tfld Tryd.prog 78 2 = some (3, 29) := by kernel_rfl
@[simp] theorem tfld78x3 : tfld Tryd.prog 78 3 = some (5, 3) := by kernel_rfl
@[simp] theorem tpl78 : tpl Tryd.prog 78 = some [(0, 2), (2, 1), (3, 2), (5, 1)] := by kernel_rfl
@[simp] theorem tbytes78 : tbytes Tryd.prog 78 = some 48 := by kernel_rfl
@[simp] theorem tzero78 : tzero Tryd.prog 78 = some [.v (.int .i64 0), .v (.int .i64 0), .v (.int .i64 0), .v (.int .i64 0), .v (.int .i64 0), .v (.int .i64 0)] := by kernel_rfl
@[simp] theorem tsz79 : tsz Tryd.prog 79 = some 1 := by kernel_rfl
@[simp] theorem trow79 : trow Tryd.prog 79 = some false := by kernel_rfl
@[simp] theorem tel79 : tel Tryd.prog 79 = some 78 := by kernel_rfl
@[simp] theorem tarr79 : tarr Tryd.prog 79 = none := by kernel_rfl
@[simp] theorem tifc79 : tifc Tryd.prog 79 = some false := by kernel_rfl
@[simp] theorem pzero79 : pzero Tryd.prog 79 = some (.nil) := by kernel_rfl
@[simp] theorem tbytes79 : tbytes Tryd.prog 79 = some 24 := by kernel_rfl
@[simp] theorem tzero79 : tzero Tryd.prog 79 = some [.nil] := by kernel_rfl
@[simp] theorem tsz81 : tsz Tryd.prog 81 = some 1 := by kernel_rfl
@[simp] theorem trow81 : trow Tryd.prog 81 = some false := by kernel_rfl
@[simp] theorem tel81 : tel Tryd.prog 81 = none := by kernel_rfl
@[simp] theorem tarr81 : tarr Tryd.prog 81 = none := by kernel_rfl
@[simp] theorem tifc81 : tifc Tryd.prog 81 = some false := by kernel_rfl
@[simp] theorem pzero81 : pzero Tryd.prog 81 = some (.v (.nilFunc)) := by kernel_rfl
@[simp] theorem tbytes81 : tbytes Tryd.prog 81 = some 8 := by kernel_rfl
@[simp] theorem tzero81 : tzero Tryd.prog 81 = some [.v (.nilFunc)] := by kernel_rfl
@[simp] theorem tsz82 : tsz Tryd.prog 82 = some 1 := by kernel_rfl
@[simp] theorem trow82 : trow Tryd.prog 82 = some false := by kernel_rfl
@[simp] theorem tel82 : tel Tryd.prog 82 = none := by kernel_rfl
@[simp] theorem tarr82 : tarr Tryd.prog 82 = none := by kernel_rfl
@[simp] theorem tifc82 : tifc Tryd.prog 82 = some false := by kernel_rfl
@[simp] theorem pzero82 : pzero Tryd.prog 82 = some (.v (.nilFunc)) := by kernel_rfl
@[simp] theorem tbytes82 : tbytes Tryd.prog 82 = some 8 := by kernel_rfl
@[simp] theorem tzero82 : tzero Tryd.prog 82 = some [.v (.nilFunc)] := by kernel_rfl
@[simp] theorem tsz83 : tsz Tryd.prog 83 = some 1 := by kernel_rfl
@[simp] theorem trow83 : trow Tryd.prog 83 = some false := by kernel_rfl
@[simp] theorem tel83 : tel Tryd.prog 83 = none := by kernel_rfl
@[simp] theorem tarr83 : tarr Tryd.prog 83 = none := by kernel_rfl
@[simp] theorem tifc83 : tifc Tryd.prog 83 = some false := by kernel_rfl
@[simp] theorem pzero83 : pzero Tryd.prog 83 = some (.v (.nilFunc)) := by kernel_rfl
@[simp] theorem tbytes83 : tbytes Tryd.prog 83 = some 8 := by kernel_rfl
@[simp] theorem tzero83 : tzero Tryd.prog 83 = some [.v (.nilFunc)] := by kernel_rfl
@[simp] theorem tsz84 : tsz Tryd.prog 84 = some 1 := by kernel_rfl
@[simp] theorem trow84 : trow Tryd.prog 84 = some false := by kernel_rfl
@[simp] theorem tel84 : tel Tryd.prog 84 = none := by kernel_rfl
@[simp] theorem tarr84 : tarr Tryd.prog 84 = none := by kernel_rfl
@[simp] theorem tifc84 : tifc Tryd.prog 84 = some false := by kernel_rfl
@[simp] theorem pzero84 : pzero Tryd.prog 84 = some (.v (.nilFunc)) := by kernel_rfl
@[simp] theorem tbytes84 : tbytes Tryd.prog 84 = some 8 := by kernel_rfl
@[simp] theorem tzero84 : tzero Tryd.prog 84 = some [.v (.nilFunc)] := by kernel_rfl
@[simp] theorem tsz86 : tsz Tryd.prog 86 = some 1 := by kernel_rfl
@[simp] theorem trow86 : trow Tryd.prog 86 = some false := by kernel_rfl
@[simp] theorem tel86 : tel Tryd.prog 86 = none := by kernel_rfl
@[simp] theorem tarr86 : tarr Tryd.prog 86 = none := by kernel_rfl
@[simp] theorem tifc86 : tifc Tryd.prog 86 = some false := by kernel_rfl
@[simp] theorem pzero86 : pzero Tryd.prog 86 = some (.v (.nilFunc)) := by kernel_rfl
@[simp] theorem tbytes86 : tbytes Tryd.prog 86 = some 8 := by kernel_rfl
@[simp] theorem tzero86 : tzero Tryd.prog 86 = some [.v (.nilFunc)] := by kernel_rfl
@[simp] theorem tsz87 : tsz Tryd.prog 87 = some 1 := by kernel_rfl
@[simp] theorem trow87 : trow Tryd.prog 87 = some false := by kernel_rfl
@[simp] theorem tel87 : tel Tryd.prog 87 = some 4 := by kernel_rfl
@[simp] theorem tarr87 : tarr Tryd.prog 87 = none := by kernel_rfl
@[simp] theorem tifc87 : tifc Tryd.prog 87 = some false := by kernel_rfl
@[simp] theorem pzero87 : pzero Tryd.prog 87 = some (.nil) := by kernel_rfl
@[simp] theorem tbytes87 : tbytes Tryd.prog 87 = some 24 := by kernel_rfl
@[simp] theorem tzero87 : tzero Tryd.prog 87 = some [.nil] := by kernel_rfl
@[simp] theorem tsz88 : tsz Tryd.prog 88 = some 1 := by kernel_rfl
@[simp] theorem trow88 : trow Tryd.prog 88 = some false := by kernel_rfl
@[simp] theorem tel88 : tel Tryd.prog 88 = none := by kernel_rfl
@[simp] theorem tarr88 : tarr Tryd.prog 88 = none := by kernel_rfl
@[simp] theorem tifc88 : tifc Tryd.prog 88 = some false := by kernel_rfl
@[simp] theorem pzero88 : pzero Tryd.prog 88 = some (.v (.nilFunc)) := by kernel_rfl
@[simp] theorem tbytes88 : tbytes Tryd.prog 88 = some 8 := by kernel_rfl
@[simp] theorem tzero88 : tzero Tryd.prog 88 = some [.v (.nilFunc)] := by kernel_rfl
@[simp] theorem tsz89 : tsz Tryd.prog 89 = some 1 := by kernel_rfl
@[simp] theorem trow89 : trow Tryd.prog 89 = some false := by kernel_rfl
@[simp] theorem tel89 : tel Tryd.prog 89 = none := by kernel_rfl
@[simp] theorem tarr89 : tarr Tryd.prog 89 = none := by kernel_rfl
@[simp] theorem tifc89 : tifc Tryd.prog 89 = some false := by kernel_rfl
@[simp] theorem pzero89 : pzero Tryd.prog 89 = some (.v (.nilFunc)) := by kernel_rfl
@[simp] theorem tbytes89 : tbytes Tryd.prog 89 = some 8 := by kernel_rfl
@[simp] theorem tzero89 : tzero Tryd.prog 89 = some [.v (.nilFunc)] := by kernel_rfl
@[simp] theorem tsz90 : tsz Tryd.prog 90 = some 1 := by kernel_rfl
@[simp] theorem trow90 : trow Tryd.prog 90 = some false := by kernel_rfl
@[simp] theorem tel90 : tel Tryd.prog 90 = none := by kernel_rfl
@[simp] theorem tarr90 : tarr Tryd.prog 90 = none := by kernel_rfl
@[simp] theorem tifc90 : tifc Tryd.prog 90 = some false := by kernel_rfl
@[simp] theorem pzero90 : pzero Tryd.prog 90 = some (.v (.nilFunc)) := by kernel_rfl
@[simp] theorem tbytes90 : tbytes Tryd.prog 90 = some 8 := by kernel_rfl
@[simp] theorem tzero90 : tzero Tryd.prog 90 = some [.v (.nilFunc)] := by kernel_rfl
@[simp] theorem tsz91 : tsz Tryd.prog 91 = some 1 := by kernel_rfl
@[simp] theorem trow91 : trow Tryd.prog 91 = some false := by kernel_rfl
@[simp] theorem tel91 : tel Tryd.prog 91 = none := by kernel_rfl
@[simp] theorem tarr91 : tarr Tryd.prog 91 = none := by kernel_rfl
@[simp] theorem tifc91 : tifc Tryd.prog 91 = some false := by kernel_rfl
@[simp] theorem pzero91 : pzero Tryd.prog 91 = some (.v (.nilFunc)) := by kernel_rfl
@[simp] theorem tbytes91 : tbytes Tryd.prog 91 = some 8 := by kernel_rfl
@[simp] theorem tzero91 : tzero Tryd.prog 91 = some [.v (.nilFunc)] := by kernel_rfl
@[simp] theorem tsz92 : tsz Tryd.prog 92 = some 1 := by kernel_rfl
@[simp] theorem trow92 : trow Tryd.prog 92 = some false := by kernel_rfl
@[simp] theorem tel92 : tel Tryd.prog 92 = none := by kernel_rfl
@[simp] theorem tarr92 : tarr Tryd.prog 92 = none := by kernel_rfl
@[simp] theorem tifc92 : tifc Tryd.prog 92 = some false := by kernel_rfl
@[simp] theorem pzero92 : pzero Tryd.prog 92 = some (.v (.nilFunc)) := by kernel_rfl
@[simp] theorem tbytes92 : tbytes Tryd.prog 92 = some 8 := by kernel_rfl
@[simp] theorem tzero92 : tzero Tryd.prog 92 = some [.v (.nilFunc)] := by kernel_rfl
@[simp] theorem tsz93 : tsz Tryd.prog 93 = some 1 := by kernel_rfl
@[simp] theorem trow93 : trow Tryd.prog 93 = some false := by kernel_rfl
@[simp] theorem tel93 : tel Tryd.prog 93 = none := by kernel_rfl
@[simp] theorem tarr93 : tarr Tryd.prog 93 = none := by kernel_rfl
@[simp] theorem tifc93 : tifc Tryd.prog 93 = some false := by kernel_rfl
@[simp] theorem pzero93 : pzero Tryd.prog 93 = some (.v (.nilFunc)) := by kernel_rfl
@[simp] theorem tbytes93 : tbytes Tryd.prog 93 = some 8 := by kernel_rfl
@[simp] theorem tzero93 : tzero Tryd.prog 93 = some [.v (.nilFunc)] := by kernel_rfl
@[simp] theorem tsz94 : tsz Tryd.prog 94 = some 10 := by kernel_rfl
@[simp] theorem trow94 : trow Tryd.prog 94 = some true := by kernel_rfl
@[simp] theorem tel94 : tel Tryd.prog 94 = none := by kernel_rfl
@[simp] theorem tarr94 : tarr Tryd.prog 94 = none := by kernel_rfl
@[simp] theorem tifc94 : tifc Tryd.prog 94 = some false := by kernel_rfl
@[simp] theorem pzero94 : pzero Tryd.prog 94 = some (.agg [.v (.int .i64 0), .v (.int .i64 0), .v (.int .i64 0), .v (.int .i64 0), .nil, .nil, .v (.int .i64 0), .v (.int .i64 0), .v (.int .i64 0), .nil]) := by kernel_rfl
@[simp] theorem tfld94x0 : tfld Tryd.prog 94 0 = some (0, 27) := by kernel_rfl
@[simp] theorem tpl94 : tpl Tryd.prog 94 = some [(0, 10)] := by kernel_rfl
@[simp] theorem tbytes94 : tbytes Tryd.prog 94 = some 128 := by kernel_rfl
@[simp] theorem tzero94 : tzero Tryd.prog 94 = some [.v (.int .i64 0), .v (.int .i64 0), .v (.int .i64 0), .v (.int .i64 0), .nil, .nil, .v (.int .i64 0), .v (.int .i64 0), .v (.int .i64 0), .nil] := by kernel_rfl
@[simp] theorem tsz95 : tsz Tryd.prog 95 = some 10 := by kernel_rfl
@[simp] theorem trow95 : trow Tryd.prog 95 = some true := by kernel_rfl
@[simp] theorem tel95 : tel Tryd.prog 95 = none := by kernel_rfl
@[simp] theorem tarr95 : tarr Tryd.prog 95 = none := by kernel_rfl
@[simp] theorem tifc95 : tifc Tryd.prog 95 = some false := by kernel_rfl
@[simp] theorem pzero95 : pzero Tryd.prog 95 = some (.agg [.v (.int .i64 0), .v (.int .i64 0), .v (.int .i64 0), .v (.int .i64 0), .nil, .nil, .v (.int .i64 0), .v (.int .i64 0), .v (.int .i64 0), .nil]) := by kernel_rfl
@[simp] theorem tfld95x0 : tfld Tryd.prog 95 0 = some (0, 27) := by kernel_rfl
@[simp] theorem tpl95 : tpl Tryd.prog 95 = some [(0, 10)] := by kernel_rfl
@[simp] theorem tbytes95 : tbytes Tryd.prog 95 = some 128 := by kernel_rfl
@[simp] theorem tzero95 : tzero Tryd.prog 95 = some [.v (.int .i64 0), .v (.int .i64 0), .v (.int .i64 0), .v (.int .i64 0), .nil, .nil, .v (.int .i64 0), .v (.int .i64 0), .v (.int .i64 0), .nil] := by kernel_rfl
@[simp] theorem tsz96 : tsz Tryd.prog 96 = some 1 := by kernel_rfl
@[simp] theorem trow96 : trow Tryd.prog 96 = some false := by kernel_rfl
@[simp] theorem tel96 : tel Tryd.prog 96 = none := by kernel_rfl
@[simp] theorem tarr96 : tarr Tryd.prog 96 = none := by kernel_rfl
@[simp] theorem tifc96 : tifc Tryd.prog 96 = some false := by kernel_rfl
@[simp] theorem pzero96 : pzero Tryd.prog 96 = some (.v (.nilFunc)) := by kernel_rfl
@[simp] theorem tbytes96 : tbytes Tryd.prog 96 = some 8 := by kernel_rfl
@[simp] theorem tzero96 : tzero Tryd.prog 96 = some [.v (.nilFunc)] := by kernel_rfl
@[simp] theorem tsz97 : tsz Tryd.prog 97 = some 1 := by kernel_rfl
@[simp] theorem trow97 : trow Tryd.prog 97 = some false := by kernel_rfl
@[simp] theorem tel97 : tel Tryd.prog 97 = none := by kernel_rfl
@[simp] theorem tarr97 : tarr Tryd.prog 97 = none := by kernel_rfl
@[simp] theorem tifc97 : tifc Tryd.prog 97 = some false := by kernel_rfl
@[simp] theorem pzero97 : pzero Tryd.prog 97 = some (.v (.nilFunc)) := by kernel_rfl
@[simp] theorem tbytes97 : tbytes Tryd.prog 97 = some 8 := by kernel_rfl
@[simp] theorem tzero97 : tzero Tryd.prog 97 = some [.v (.nilFunc)] := by kernel_rfl
@[simp] theorem tsz98 : tsz Tryd.prog 98 = some 15 := by kernel_rfl
@[simp] theorem trow98 : trow Tryd.prog 98 = some true := by kernel_rfl
@[simp] theorem tel98 : tel Tryd.prog 98 = none := by kernel_rfl
@[simp] theorem tarr98 : tarr Tryd.prog 98 = none := by kernel_rfl
@[simp] theorem tifc98 : tifc Tryd.prog 98 = some false := by kernel_rfl
@[simp] theorem pzero98 : pzero Tryd.prog 98 = some (.agg [.v (.int .i64 0), .v (.int .i64 0), .v (.int .i64 0), .v (.int .i64 0), .nil, .nil, .v (.int .i64 0), .v (.int .i64 0), .v (.int .i64 0), .nil, .nil, .v (.int .i64 0), .v (.int .i64 0), .nil, .v (.bool false)]) := by kernel_rfl
@[simp] theorem tfld98x0 : tfld Tryd.prog 98 0 = some (0, 95) := by kernel_rfl
@[simp] theorem tfld98x1 : tfld Tryd.prog 98 1 = some (10, 73) := by kernel_rfl
@[simp] theorem tpl98 : tpl Tryd.prog 98 = some [(0, 10), (10, 5)] := by kernel_rfl
@[simp] theorem tbytes98 : tbytes Tryd.prog 98 = some 200 := by kernel_rfl
@[simp] theorem tzero98 : tzero Tryd.prog 98 = some [.v (.int .i64 0), .v (.int .i64 0), .v (.int .i64 0), .v (.int .i64 0), .nil, .nil, .v (.int .i64 0), .v (.int .i64 0), .v (.int .i64 0), .nil, .nil, .v (.int .i64 0), .v (.int .i64 0), .nil, .v (.bool false)] := by kernel_rfl
@[simp] theorem tsz99 : tsz Tryd.prog 99 = some 15 := by kernel_rfl
@[simp] theorem trow99 : trow Tryd.prog 99 = some true := by kernel_rfl
@[simp] theorem tel99 : tel Tryd.prog 99 = none := by kernel_rfl
@[simp] theorem tarr99 : tarr Tryd.prog 99 = none := by kernel_rfl
@[simp] theorem tifc99 : tifc Tryd.prog 99 = some false := by kernel_rfl
@[simp] theorem pzero99 : pzero Tryd.prog 99 = some (.agg [.v (.int .i64 0), .v (.int .i64 0), .v (.int .i64 0), .v (.int .i64 0), .nil, .nil, .v (.int .i64 0), .v (.int .i64 0), .v (.int .i64 0), .nil, .nil, .v (.int .i64 0), .v (.int .i64 0), .nil, .v (.bool false)]) := by kernel_rfl
@[simp] theorem tfld99x0 : tfld Tryd.prog 99 0 = some (0, 95) := by kernel_rfl
@[simp] theorem tfld99x1 : tfld Tryd.prog 99 1 = some (10, 73) := by kernel_rfl
@[simp] theorem tpl99 : tpl Tryd.prog 99 = some [(0, 10), (10, 5)] := by kernel_rfl
@[simp] theorem tbytes99 : tbytes Tryd.prog 99 = some 200 := by kernel_rfl
@[simp] theorem tzero99 : tzero Tryd.prog 99 = some [.v (.int .i64 0), .v (.int .i64 0), .v (.int .i64 0), .v (.int .i64 0), .nil, .nil, .v (.int .i64 0), .v (.int .i64 0), .v (.int .i64 0), .nil, .nil, .v (.int .i64 0), .v (.int .i64 0), .nil, .v (.bool false)] := by kernel_rfl
@[simp] theorem tsz101 : tsz Tryd.prog 101 = some 1 := by kernel_rfl
@[simp] theorem trow101 : trow Tryd.prog 101 = some false := by kernel_rfl
@[simp] theorem tel101 : tel Tryd.prog 101 = none := by kernel_rfl
@[simp] theorem tarr101 : tarr Tryd.prog 101 = none := by kernel_rfl
@[simp] theorem tifc101 : tifc Tryd.prog 101 = some false := by kernel_rfl
@[simp] theorem pzero101 : pzero Tryd.prog 101 = some (.v (.nilFunc)) := by kernel_rfl
@[simp] theorem tbytes101 : tbytes Tryd.prog 101 = some 8 := by kernel_rfl
@[simp] theorem tzero101 : tzero Tryd.prog 101 = some [.v (.nilFunc)] := by kernel_rfl
@[simp] theorem tsz102 : tsz Tryd.prog 102 = some 1 := by kernel_rfl
@[simp] theorem trow102 : trow Tryd.prog 102 = some false := by kernel_rfl
@[simp] theorem tel102 : tel Tryd.prog 102 = none := by kernel_rfl
@[simp] theorem tarr102 : tarr Tryd.prog 102 = none := by kernel_rfl
@[simp] theorem tifc102 : tifc Tryd.prog 102 = some false := by kernel_rfl
@[simp] theorem pzero102 : pzero Tryd.prog 102 = some (.v (.nilFunc)) := by kernel_rfl
@[simp] theorem tbytes102 : tbytes Tryd.prog 102 = some 8 := by kernel_rfl
@[simp] theorem tzero102 : tzero Tryd.prog 102 = some [.v (.nilFunc)] := by kernel_rfl
@[simp] theorem tsz103 : tsz Tryd.prog 103 = some 1 := by kernel_rfl
@[simp] theorem trow103 : trow Tryd.prog 103 = some false := by kernel_rfl
@[simp] theorem tel103 : tel Tryd.prog 103 = none := by kernel_rfl
@[simp] theorem tarr103 : tarr Tryd.prog 103 = none := by kernel_rfl
@[simp] theorem tifc103 : tifc Tryd.prog 103 = some false := by kernel_rfl
@[simp] theorem pzero103 : pzero Tryd.prog 103 = some (.v (.nilFunc)) := by kernel_rfl
@[simp] theorem tbytes103 : tbytes Tryd.prog 103 = some 8 := by kernel_rfl
@[simp] theorem tzero103 : tzero Tryd.prog 103 = some [.v (.nilFunc)] := by kernel_rfl
@[simp] theorem tsz104 : tsz Tryd.prog 104 = some 1 := by kernel_rfl
@[simp] theorem trow104 : trow Tryd.prog 104 = some false := by kernel_rfl
@[simp] theorem tel104 : tel Tryd.prog 104 = none := by kernel_rfl
@[simp] theorem tarr104 : tarr Tryd.prog 104 = none := by kernel_rfl
@[simp] theorem tifc104 : tifc Tryd.prog 104 = some false := by kernel_rfl
@[simp] theorem pzero104 : pzero Tryd.prog 104 = some (.v (.nilFunc)) := by kernel_rfl
@[simp] theorem tbytes104 : tbytes Tryd.prog 104 = some 8 := by kernel_rfl
@[simp] theorem tzero104 : tzero Tryd.prog 104 = some [.v (.nilFunc)] := by kernel_rfl
@[simp] theorem tsz105 : tsz Tryd.prog 105 = some 1 := by kernel_rfl
@[simp] theorem trow105 : trow Tryd.prog 105 = some false := by kernel_rfl
@[simp] theorem tel105 : tel Tryd.prog 105 = none := by kernel_rfl
@[simp] theorem tarr105 : tarr Tryd.prog 105 = none := by kernel_rfl
@[simp] theorem tifc105 : tifc Tryd.prog 105 = some false := by kernel_rfl
@[simp] theorem pzero105 : pzero Tryd.prog 105 = some (.v (.nilFunc)) := by kernel_rfl
@[simp] theorem tbytes105 : tbytes Tryd.prog 105 = some 8 := by kernel_rfl
@[simp] theorem tzero105 : tzero Tryd.prog 105 = some [.v (.nilFunc)] := by kernel_rfl
@[simp] theorem tsz107 : tsz Tryd.prog 107 = some 1 := by kernel_rfl
@[simp] theorem trow107 : trow Tryd.prog 107 = some false := by kernel_rfl
@[simp] theorem tel107 : tel Tryd.prog 107 = none := by kernel_rfl
@[simp] theorem tarr107 : tarr Tryd.prog 107 = none := by kernel_rfl
@[simp] theorem tifc107 : tifc Tryd.prog 107 = some false := by kernel_rfl
@[simp] theorem pzero107 : pzero Tryd.prog 107 = some (.v (.nilFunc)) := by kernel_rfl
@[simp] theorem tbytes107 : tbytes Tryd.prog 107 = some 8 := by kernel_rfl
@[simp] theorem tzero107 : tzero Tryd.prog 107 = some [.v (.nilFunc)] := by kernel_rfl
@[simp] theorem tsz108 : tsz Tryd.prog 108 = some 1 := by kernel_rfl
@[simp] theorem trow108 : trow Tryd.prog 108 = some false := by kernel_rfl
@[simp] theorem tel108 : tel Tryd.prog 108 = none := by kernel_rfl
@[simp] theorem tarr108 : tarr Tryd.prog 108 = none := by kernel_rfl
@[simp] theorem tifc108 : tifc Tryd.prog 108 = some false := by kernel_rfl
@[simp] theorem pzero108 : pzero Tryd.prog 108 = some (.v (.nilFunc)) := by kernel_rfl
@[simp] theorem tbytes108 : tbytes Tryd.prog 108 = some 8 := by kernel_rfl
@[simp] theorem tzero108 : tzero Tryd.prog 108 = some [.v (.nilFunc)] := by kernel_rfl
@[simp] theorem tsz109 : tsz Tryd.prog 109 = some 1 := by kernel_rfl
@[simp] theorem trow109 : trow Tryd.prog 109 = some false := by kernel_rfl
@[simp] theorem tel109 : tel Tryd.prog 109 = none := by kernel_rfl
@[simp] theorem tarr109 : tarr Tryd.prog 109 = none := by kernel_rfl
@[simp] theorem tifc109 : tifc Tryd.prog 109 = some false := by kernel_rfl
@[simp] theorem pzero109 : pzero Tryd.prog 109 = some (.v (.pointer none)) := by kernel_rfl
@[simp] theorem tbytes109 : tbytes Tryd.prog 109 = some 8 := by kernel_rfl
@[simp] theorem tzero109 : tzero Tryd.prog 109 = some [.v (.pointer none)] := by kernel_rfl
@[simp] theorem tsz110 : tsz Tryd.prog 110 = some 1 := by kernel_rfl
@[simp] theorem trow110 : trow Tryd.prog 110 = some false := by kernel_rfl
@[simp] theorem tel110 : tel Tryd.prog 110 = some 5 := by kernel_rfl
@[simp] theorem tarr110 : tarr Tryd.prog 110 = none := by kernel_rfl
@[simp] theorem tifc110 : tifc Tryd.prog 110 = some false := by kernel_rfl
@[simp] theorem pzero110 : pzero Tryd.prog 110 = some (.nil) := by kernel_rfl
@[simp] theorem tbytes110 : tbytes Tryd.prog 110 = some 24 := by kernel_rfl
@[simp] theorem tzero110 : tzero Tryd.prog 110 = some [.nil] := by kernel_rfl
@[simp] theorem tsz111 : tsz Tryd.prog 111 = some 2 := by kernel_rfl
@[simp] theorem trow111 : trow Tryd.prog 111 = some true := by kernel_rfl
@[simp] theorem tel111 : tel Tryd.prog 111 = none := by kernel_rfl
@[simp] theorem tarr111 : tarr Tryd.prog 111 = none := by kernel_rfl
@[simp] theorem tifc111 : tifc Tryd.prog 111 = some false := by kernel_rfl
@[simp] theorem pzero111 : pzero Tryd.prog 111 = some (.agg [.v (.pointer none), .nil]) := by kernel_rfl
@[simp] theorem tfld111x0 : tfld Tryd.prog 111 0 = some (0, 109) := by kernel_rfl
@[simp] theorem tfld111x1 : tfld Tryd.prog 111 1 = some (1, 110) := by kernel_rfl
@[simp] theorem tpl111 : tpl Tryd.prog 111 = some [(0, 1), (1, 1)] := by kernel_rfl
@[simp] theorem tbytes111 : tbytes Tryd.prog 111 = some 32 := by kernel_rfl
@[simp] theorem tzero111 : tzero Tryd.prog 111 = some [.v (.pointer none), .nil] := by kernel_rfl
@[simp] theorem tsz112 : tsz Tryd.prog 112 = some 2 := by kernel_rfl
@[simp] theorem trow112 : trow Tryd.prog 112 = some true := by kernel_rfl
@[simp] theorem tel112 : tel Tryd.prog 112 = none := by kernel_rfl
@[simp] theorem tarr112 : tarr Tryd.prog 112 = none := by kernel_rfl
@[simp] theorem tifc112 : tifc Tryd.prog 112 = some false := by kernel_rfl
@[simp] theorem pzero112 : pzero Tryd.prog 112 = some (.agg [.v (.pointer none), .nil]) := by kernel_rfl
@[simp] theorem tfld112x0 : tfld Tryd.prog 112 0 = some (0, 109) := by kernel_rfl
@[simp] theorem tfld112x1 : tfld Tryd.prog 112 1 = some (1, 110) := by kernel_rfl
@[simp] theorem tpl112 : tpl Tryd.prog 112 = some [(0, 1), (1, 1)] := by kernel_rfl
@[simp] theorem tbytes112 : tbytes Tryd.prog 112 = some 32 := by kernel_rfl
@[simp] theorem tzero112 : tzero Tryd.prog 112 = some [.v (.pointer none), .nil] := by kernel_rfl
@[simp] theorem tsz113 : tsz Tryd.prog 113 = some 3 := by kernel_rfl
@[simp] theorem trow113 : trow Tryd.prog 113 = some true := by kernel_rfl
@[simp] theorem tel113 : tel Tryd.prog 113 = none := by kernel_rfl
@[simp] theorem tarr113 : tarr Tryd.prog 113 = none := by kernel_rfl
@[simp] theorem tifc113 : tifc Tryd.prog 113 = some false := by kernel_rfl
@[simp] theorem pzero113 : pzero Tryd.prog 113 = some (.agg [.v (.pointer none), .nil, .v (.int .i64 0)]) := by kernel_rfl
@[simp] theorem tfld113x0 : tfld Tryd.prog 113 0 = some (0, 112) := by kernel_rfl
@[simp] theorem tfld113x1 : tfld Tryd.prog 113 1 = some (2, 3) := by kernel_rfl
@[simp] theorem tpl113 : tpl Tryd.prog 113 = some [(0, 2), (2, 1)] := by kernel_rfl
@[simp] theorem tbytes113 : tbytes Tryd.prog 113 = some 40 := by kernel_rfl
@[simp] theorem tzero113 : tzero Tryd.prog 113 = some [.v (.pointer none), .nil, .v (.int .i64 0)] := by kernel_rfl
@[simp] theorem tsz114 : tsz Tryd.prog 114 = some 3 := by kernel_rfl
@[simp] theorem trow114 : trow Tryd.prog 114 = some true := by kernel_rfl
@[simp] theorem tel114 : tel Tryd.prog 114 = none := by kernel_rfl
@[simp] theorem tarr114 : tarr Tryd.prog 114 = none := by kernel_rfl
@[simp] theorem tifc114 : tifc Tryd.prog 114 = some false := by kernel_rfl
@[simp] theorem pzero114 : pzero Tryd.prog 114 = some (.agg [.v (.pointer none), .nil, .v (.int .i64 0)]) := by kernel_rfl
@[simp] theorem tfld114x0 : tfld Tryd.prog 114 0 = some (0, 112) := by kernel_rfl
@[simp] theorem tfld114x1 : tfld Tryd.prog 114 1 = some (2, 3) := by kernel_rfl
@[simp] theorem tpl114 : tpl Tryd.prog 114 = some [(0, 2), (2, 1)] := by kernel_rfl
@[simp] theorem tbytes114 : tbytes Tryd.prog 114 = some 40 := by kernel_rfl
@[simp] theorem tzero114 : tzero Tryd.prog 114 = some [.v (.pointer none), .nil, .v (.int .i64 0)] := by kernel_rfl
@[simp] theorem tsz115 : tsz Tryd.prog 115 = some 1 := by kernel_rfl
@[simp] theorem trow115 : trow Tryd.prog 115 = some false := by kernel_rfl
@[simp] theorem tel115 : tel Tryd.prog 115 = none := by kernel_rfl
@[simp] theorem tarr115 : tarr Tryd.prog 115 = none := by kernel_rfl
@[simp] theorem tifc115 : tifc Tryd.prog 115 = some false := by kernel_rfl
@[simp] theorem pzero115 : pzero Tryd.prog 115 = some (.v (.nilFunc)) := by kernel_rfl
@[simp] theorem tbytes115 : tbytes Tryd.prog 115 = some 8 := by kernel_rfl
@[simp] theorem tzero115 : tzero Tryd.prog 115 = some [.v (.nilFunc)] := by kernel_rfl
@[simp] theorem tsz116 : tsz Tryd.prog 116 = some 1 := by kernel_rfl
@[simp] theorem trow116 : trow Tryd.prog 116 = some false := by kernel_rfl
@[simp] theorem tel116 : tel Tryd.prog 116 = some 9 := by kernel_rfl
@[simp] theorem tarr116 : tarr Tryd.prog 116 = none := by kernel_rfl
@[simp] theorem tifc116 : tifc Tryd.prog 116 = some false := by kernel_rfl
@[simp] theorem pzero116 : pzero Tryd.prog 116 = some (.nil) := by kernel_rfl
@[simp] theorem tbytes116 : tbytes Tryd.prog 116 = some 24 := by kernel_rfl
@[simp] theorem tzero116 : tzero Tryd.prog 116 = some [.nil] := by kernel_rfl
@[simp] theorem tsz117 : tsz Tryd.prog 117 = some 1 := by kernel_rfl
@[simp] theorem trow117 : trow Tryd.prog 117 = some false := by kernel_rfl
@[simp] theorem tel117 : tel Tryd.prog 117 = none := by kernel_rfl
@[simp] theorem tarr117 : tarr Tryd.prog 117 = none := by kernel_rfl
@[simp] theorem tifc117 : tifc Tryd.prog 117 = some false := by kernel_rfl
@[simp] theorem pzero117 : pzero Tryd.prog 117 = some (.v (.nilFunc)) := by kernel_rfl
@[simp] theorem tbytes117 : tbytes Tryd.prog 117 = some 8 := by kernel_rfl
@[simp] theorem tzero117 : tzero Tryd.prog 117 = some [.v (.nilFunc)] := by kernel_rfl
@[simp] theorem tsz118 : tsz Tryd.prog 118 = some 1 := by kernel_rfl
@[simp] theorem trow118 : trow Tryd.prog 118 = some false := by kernel_rfl
@[simp] theorem tel118 : tel Tryd.prog 118 = none := by kernel_rfl
@[simp] theorem tarr118 : tarr Tryd.prog 118 = none := by kernel_rfl
@[simp] theorem tifc118 : tifc Tryd.prog 118 = some false := by kernel_rfl
@[simp] theorem pzero118 : pzero Tryd.prog 118 = some (.v (.nilFunc)) := by kernel_rfl
@[simp] theorem tbytes118 : tbytes Tryd.prog 118 = some 8 := by kernel_rfl
@[simp] theorem tzero118 : tzero Tryd.prog 118 = some [.v (.nilFunc)] := by kernel_rfl
@[simp] theorem tsz119 : tsz Tryd.prog 119 = some 1 := by kernel_rfl
@[simp] theorem trow119 : trow Tryd.prog 119 = some false := by kernel_rfl
@[simp] theorem tel119 : tel Tryd.prog 119 = some 73 := by kernel_rfl
@[simp] theorem tarr119 : tarr Tryd.prog 119 = none := by kernel_rfl
@[simp] theorem tifc119 : tifc Tryd.prog 119 = some false := by kernel_rfl
@[simp] theorem pzero119 : pzero Tryd.prog 119 = some (.nil) := by kernel_rfl
@[simp] theorem tbytes119 : tbytes Tryd.prog 119 = some 24 := by kernel_rfl
@[simp] theorem tzero119 : tzero Tryd.prog 119 = some [.nil] := by kernel_rfl
@[simp] theorem tsz120 : tsz Tryd.prog 120 = some 1 := by kernel_rfl
@[simp] theorem trow120 : trow Tryd.prog 120 = some false := by kernel_rfl
@[simp] theorem tel120 : tel Tryd.prog 120 = none := by kernel_rfl
@[simp] theorem tarr120 : tarr Tryd.prog 120 = none := by kernel_rfl
@[simp] theorem tifc120 : tifc Tryd.prog 120 = some false := by kernel_rfl
@[simp] theorem pzero120 : pzero Tryd.prog 120 = some (.v (.nilFunc)) := by kernel_rfl
@[simp] theorem tbytes120 : tbytes Tryd.prog 120 = some 8 := by kernel_rfl
@[simp] theorem tzero120 : tzero Tryd.prog 120 = some [.v (.nilFunc)] := by kernel_rfl
@[simp] theorem tsz121 : tsz Tryd.prog 121 = some 1 := by kernel_rfl
@[simp] theorem trow121 : trow Tryd.prog 121 = some false := by kernel_rfl
@[simp] theorem tel121 : tel Tryd.prog 121 = none := by kernel_rfl
@[simp] theorem tarr121 : tarr Tryd.prog 121 = none := by kernel_rfl
@[simp] theorem tifc121 : tifc Tryd.prog 121 = some false := by kernel_rfl
@[simp] theorem pzero121 : pzero Tryd.prog 121 = some (.v (.nilFunc)) := by kernel_rfl
@[simp] theorem tbytes121 : tbytes Tryd.prog 121 = some 8 := by kernel_rfl
@[simp] theorem tzero121 : tzero Tryd.prog 121 = some [.v (.nilFunc)] := by kernel_rfl
@[simp] theorem tsz122 : tsz Tryd.prog 122 = some 6 := by kernel_rfl
@[simp] theorem trow122 : trow Tryd.prog 122 = some true := by kernel_rfl
@[simp] theorem tel122 : tel Tryd.prog 122 = none := by kernel_rfl
@[simp] theorem tarr122 : tarr Tryd.prog 122 = some (6, 121) := by kernel_rfl
@[simp] theorem tifc122 : tifc Tryd.prog 122 = some false := by kernel_rfl
@[simp] theorem pzero122 : pzero Tryd.prog 122 = some (.agg [.v (.nilFunc), .v (.nilFunc), .v (.nilFunc), .v (.nilFunc), .v (.nilFunc), .v (.nilFunc)]) := by kernel_rfl
@[simp] theorem tpl122 : tpl Tryd.prog 122 = none := by kernel_rfl
@[simp] theorem tbytes122 : tbytes Tryd.prog 122 = some 48 := by kernel_rfl
@[simp] theorem tzero122 : tzero Tryd.prog 122 = some [.v (.nilFunc), .v (.nilFunc), .v (.nilFunc), .v (.nilFunc), .v (.nilFunc), .v (.nilFunc)] := by kernel_rfl
@[simp] theorem tsz123 : tsz Tryd.prog 123 = some 1 := by kernel_rfl
@[simp] theorem trow123 : trow Tryd.prog 123 = some false := by kernel_rfl
@[simp] theorem tel123 : tel Tryd.prog 123 = none := by kernel_rfl
@[simp] theorem tarr123 : tarr Tryd.prog 123 = none := by kernel_rfl
@[simp] theorem tifc123 : tifc Tryd.prog 123 = some false := by kernel_rfl
@[simp] theorem pzero123 : pzero Tryd.prog 123 = some (.v (.nilFunc)) := by kernel_rfl
@[simp] theorem tbytes123 : tbytes Tryd.prog 123 = some 8 := by kernel_rfl
@[simp] theorem tzero123 : tzero Tryd.prog 123 = some [.v (.nilFunc)] := by kernel_rfl
@[simp] theorem tsz124 : tsz Tryd.prog 124 = some 1 := by kernel_rfl
@[simp] theorem trow124 : trow Tryd.prog 124 = some false := by kernel_rfl
@[simp] theorem tel124 : tel Tryd.prog 124 = none := by kernel_rfl
@[simp] theorem tarr124 : tarr Tryd.prog 124 = none := by kernel_rfl
@[simp] theorem tifc124 : tifc Tryd.prog 124 = some false := by kernel_rfl
@[simp] theorem pzero124 : pzero Tryd.prog 124 = some (.v (.nilFunc)) := by kernel_rfl
@[simp] theorem tbytes124 : tbytes Tryd.prog 124 = some 8 := by kernel_rfl
@[simp] theorem tzero124 : tzero Tryd.prog 124 = some [.v (.nilFunc)] := by kernel_rfl
@[simp] theorem tsz125 : tsz Tryd.prog 125 = some 1 := by kernel_rfl
@[simp] theorem trow125 : trow Tryd.prog 125 = some false := by kernel_rfl
@[simp] theorem tel125 : tel Tryd.prog 125 = none := by kernel_rfl
@[simp] theorem tarr125 : tarr Tryd.prog 125 = none := by kernel_rfl
@[simp] theorem tifc125 : tifc Tryd.prog 125 = some false := by kernel_rfl
@[simp] theorem pzero125 : pzero Tryd.prog 125 = some (.v (.nilFunc)) := by kernel_rfl
@[simp] theorem tbytes125 : tbytes Tryd.prog 125 = some 8 := by kernel_rfl
@[simp] theorem tzero125 : tzero Tryd.prog 125 = some [.v (.nilFunc)] := by kernel_rfl
@[simp] theorem tsz126 : tsz Tryd.prog 126 = some 1 := by kernel_rfl
@[simp] theorem trow126 : trow Tryd.prog 126 = some false := by kernel_rfl
@[simp] theorem tel126 : tel Tryd.prog 126 = none := by kernel_rfl
@[simp] theorem tarr126 : tarr Tryd.prog 126 = none := by kernel_rfl
@[simp] theorem tifc126 : tifc Tryd.prog 126 = some false := by kernel_rfl
@[simp] theorem pzero126 : pzero Tryd.prog 126 = some (.v (.nilFunc)) := by kernel_rfl
@[simp] theorem tbytes126 : tbytes Tryd.prog 126 = some 8 := by kernel_rfl
@[simp] theorem tzero126 : tzero Tryd.prog 126 = some [.v (.nilFunc)] := by kernel_rfl
@[simp] theorem tsz127 : tsz Tryd.prog 127 = some 1 := by kernel_rfl
@[simp] theorem trow127 : trow Tryd.prog 127 = some false := by kernel_rfl
@[simp] theorem tel127 : tel Tryd.prog 127 = none := by kernel_rfl
@[simp] theorem tarr127 : tarr Tryd.prog 127 = none := by kernel_rfl
@[simp] theorem tifc127 : tifc Tryd.prog 127 = some false := by kernel_rfl
@[simp] theorem pzero127 : pzero Tryd.prog 127 = some (.v (.nilFunc)) := by kernel_rfl
@[simp] theorem tbytes127 : tbytes Tryd.prog 127 = some 8 := by kernel_rfl
@[simp] theorem tzero127 : tzero Tryd.prog 127 = some [.v (.nilFunc)] := by kernel_rfl
@[simp] theorem tsz128 : tsz Tryd.prog 128 = some 1 := by kernel_rfl
@[simp] theorem trow128 : trow Tryd.prog 128 = some false := by kernel_rfl
@[simp] theorem tel128 : tel Tryd.prog 128 = none := by kernel_rfl
@[simp] theorem tarr128 : tarr Tryd.prog 128 = none := by kernel_rfl
@[simp] theorem tifc128 : tifc Tryd.prog 128 = some false := by kernel_rfl
@[simp] theorem pzero128 : pzero Tryd.prog 128 = some (.v (.nilFunc)) := by kernel_rfl
@[simp] theorem tbytes128 : tbytes Tryd.prog 128 = some 8 := by kernel_rfl
@[simp] theorem tzero128 : tzero Tryd.prog 128 = some [.v (.nilFunc)] := by kernel_rfl
@[simp] theorem tsz129 : tsz Tryd.prog 129 = some 1 := by kernel_rfl
@[simp] theorem trow129 : trow Tryd.prog 129 = some false := by kernel_rfl
@[simp] theorem tel129 : tel Tryd.prog 129 = none := by kernel_rfl
@[simp] theorem tarr129 : tarr Tryd.prog 129 = none := by kernel_rfl
@[simp] theorem tifc129 : tifc Tryd.prog 129 = some false := by kernel_rfl
@[simp] theorem pzero129 : pzero Tryd.prog 129 = some (.v (.nilFunc)) := by kernel_rfl
@[simp] theorem tbytes129 : tbytes Tryd.prog 129 = some 8 := by kernel_rfl
@[simp] theorem tzero129 : tzero Tryd.prog 129 = some [.v (.nilFunc)] := by kernel_rfl
@[simp] theorem tsz130 : tsz Tryd.prog 130 = some 5 := by kernel_rfl
@[simp] theorem trow130 : trow Tryd.prog 130 = some true := by kernel_rfl
@[simp] theorem tel130 : tel Tryd.prog 130 = none := by kernel_rfl
@[simp] theorem tarr130 : tarr Tryd.prog 130 = none := by kernel_rfl
@[simp] theorem tifc130 : tifc Tryd.prog 130 = some false := by kernel_rfl
@[simp] theorem pzero130 : pzero Tryd.prog 130 = some (.agg [.v (.int .i64 0), .v (.int .i64 0), .v (.int .i64 0), .v (.int .i64 0), .v (.int .i64 0)]) := by kernel_rfl
@[simp] theorem tfld130x0 : tfld Tryd.prog 130 0 = some (0, 3) := by kernel_rfl
@[simp] theorem tfld130x1 : tfld Tryd.prog 130 1 = some (1, 3) := by kernel_rfl
@[simp] theorem tfld130x2 : tfld Tryd.prog 130 2 = some (2, 3) := by kernel_rfl
@[simp] theorem tfld130x3 : tfld Tryd.prog 130 3 = some (3, 3) := by kernel_rfl
@[simp] theorem tfld130x4 : tfld Tryd.prog 130 4 = some (4, 3) := by kernel_rfl
@[simp] theorem tpl130 : tpl Tryd.prog 130 = some [(0, 1), (1, 1), (2, 1), (3, 1), (4, 1)] := by kernel_rfl
@[simp] theorem teqf130 : teqf Tryd.prog 130 = some [(0, 0), (1, 0), (2, 0), (3, 0), (4, 0)] := by kernel_rfl
@[simp] theorem tbytes130 : tbytes Tryd.prog 130 = some 40 := by kernel_rfl
@[simp] theorem tzero130 : tzero Tryd.prog 130 = some [.v (.int .i64 0), .v (.int .i64 0), .v (.int .i64 0), .v (.int .i64 0), .v (.int .i64 0)] := by kernel_rfl
@[simp] theorem tsz131 : tsz Tryd.prog 131 = some 5 := by kernel_rfl
@[simp] theorem trow131 : trow Tryd.prog 131 = some true := by kernel_rfl
@[simp] theorem tel131 : tel Tryd.prog 131 = none := by kernel_rfl
@[simp] theorem tarr131 : tarr Tryd.prog 131 = none := by kernel_rfl
@[simp] theorem tifc131 : tifc Tryd.prog 131 = some false := by kernel_rfl
@[simp] theorem pzero131 : pzero Tryd.prog 131 = some (.agg [.v (.int .i64 0), .v (.int .i64 0), .v (.int .i64 0), .v (.int .i64 0), .v (.int .i64 0)]) := by kernel_rfl
@[simp] theorem tfld131x0 : tfld Tryd.prog 131 0 = some (0, 3) := by kernel_rfl
@[simp] theorem tfld131x1 : tfld Tryd.prog 131 1 = some (1, 3) := by kernel_rfl
@[simp] theorem tfld131x2 : tfld Tryd.prog 131 2 = some (2, 3) := by kernel_rfl
@[simp] theorem tfld131x3 : tfld Tryd.prog 131 3 = some (3, 3) := by kernel_rfl
@[simp] theorem tfld131x4 : tfld Tryd.prog 131 4 = some (4, 3) := by kernel_rfl
@[simp] theorem tpl131 : tpl Tryd.prog 131 = some [(0, 1), (1, 1), (2, 1), (3, 1), (4, 1)] := by kernel_rfl
@[simp] theorem teqf131 : teqf Tryd.prog 131 = some [(0, 0), (1, 0), (2, 0), (3, 0), (4, 0)] := by kernel_rfl
@[simp] theorem tbytes131 : tbytes Tryd.prog 131 = some 40 := by kernel_rfl
@[simp] theorem tzero131 : tzero Tryd.prog 131 = some [.v (.int .i64 0), .v (.int .i64 0), .v (.int .i64 0), .v (.int .i64 0), .v (.int .i64 0)] := by kernel_rfl
@[simp] theorem tsz132 : tsz Tryd.prog 132 = some 1 := by kernel_rfl
@[simp] theorem trow132 : trow Tryd.prog 132 = some false := by kernel_rfl
@[simp] theorem tel132 : tel Tryd.prog 132 = none := by kernel_rfl
@[simp] theorem tarr132 : tarr Tryd.prog 132 = none := by kernel_rfl
@[simp] theorem tifc132 : tifc Tryd.prog 132 = some false := by kernel_rfl
@[simp] theorem pzero132 : pzero Tryd.prog 132 = some (.v (.nilFunc)) := by kernel_rfl
@[simp] theorem tbytes132 : tbytes Tryd.prog 132 = some 8 := by kernel_rfl
@[simp] theorem tzero132 : tzero Tryd.prog 132 = some [.v (.nilFunc)] := by kernel_rfl
@[simp] theorem tsz133 : tsz Tryd.prog 133 = some 1 := by kernel_rfl
@[simp] theorem trow133 : trow Tryd.prog 133 = some false := by kernel_rfl
@[simp] theorem tel133 : tel Tryd.prog 133 = none := by kernel_rfl
@[simp] theorem tarr133 : tarr Tryd.prog 133 = none := by kernel_rfl
@[simp] theorem tifc133 : tifc Tryd.prog 133 = some false := by kernel_rfl
@[simp] theorem pzero133 : pzero Tryd.prog 133 = some (.v (.nilFunc)) := by kernel_rfl
@[simp] theorem tbytes133 : tbytes Tryd.prog 133 = some 8 := by kernel_rfl
@[simp] theorem tzero133 : tzero Tryd.prog 133 = some [.v (.nilFunc)] := by kernel_rfl
@[simp] theorem tsz134 : tsz Tryd.prog 134 = some 1 := by kernel_rfl
@[simp] theorem trow134 : trow Tryd.prog 134 = some false := by kernel_rfl
@[simp] theorem tel134 : tel Tryd.prog 134 = none := by kernel_rfl
@[simp] theorem tarr134 : tarr Tryd.prog 134 = none := by kernel_rfl
@[simp] theorem tifc134 : tifc Tryd.prog 134 = some false := by kernel_rfl
@[simp] theorem pzero134 : pzero Tryd.prog 134 = some (.v (.nilFunc)) := by kernel_rfl
@[simp] theorem tbytes134 : tbytes Tryd.prog 134 = some 8 := by kernel_rfl
@[simp] theorem tzero134 : tzero Tryd.prog 134 = some [.v (.nilFunc)] := by kernel_rfl
@[simp] theorem tsz135 : tsz Tryd.prog 135 = some 1 := by kernel_rfl
@[simp] theorem trow135 : trow Tryd.prog 135 = some false := by kernel_rfl
@[simp] theorem tel135 : tel Tryd.prog 135 = none := by kernel_rfl
@[simp] theorem tarr135 : tarr Tryd.prog 135 = none := by kernel_rfl
@[simp] theorem tifc135 : tifc Tryd.prog 135 = some false := by kernel_rfl
@[simp] theorem pzero135 : pzero Tryd.prog 135 = some (.v (.int .i64 0)) := by kernel_rfl
@[simp] theorem tint135 : tint Tryd.prog 135 = some .i64 := by kernel_rfl
@[simp] theorem tbytes135 : tbytes Tryd.prog 135 = some 8 := by kernel_rfl
@[simp] theorem tzero135 : tzero Tryd.prog 135 = some [.v (.int .i64 0)] := by kernel_rfl
@[simp] theorem tsz136 : tsz Tryd.prog 136 = some 5 := by kernel_rfl
@[simp] theorem trow136 : trow Tryd.prog 136 = some true := by kernel_rfl
@[simp] theorem tel136 : tel Tryd.prog 136 = none := by kernel_rfl
@[simp] theorem tarr136 : tarr Tryd.prog 136 = none := by kernel_rfl
@[simp] theorem tifc136 : tifc Tryd.prog 136 = some false := by kernel_rfl
@[simp] theorem pzero136 : pzero Tryd.prog 136 = some (.agg [.v (.int .i64 0), .v (.int .i64 0), .v (.int .i64 0), .v (.int .i64 0), .v (.int .i64 0)]) := by kernel_rfl
@[simp] theorem tfld136x0 : tfld Tryd.prog 136 0 = some (0, 135) := by kernel_rfl
@[simp] theorem tfld136x1 : tfld Tryd.prog 136 1 = some (1, 3) := by kernel_rfl
@[simp] theorem tfld136x2 : tfld Tryd.prog 136 2 = some (2, 3) := by kernel_rfl
@[simp] theorem tfld136x3 : tfld Tryd.prog 136 3 = some (3, 29) := by kernel_rfl
@[simp] theorem tpl136 : tpl Tryd.prog 136 = some [(0, 1), (1, 1), (2, 1), (3, 2)] := by kernel_rfl
@[simp] theorem tbytes136 : tbytes Tryd.prog 136 = some 40 := by kernel_rfl
@[simp] theorem tzero136 : tzero Tryd.prog 136 = some [.v (.int .i64 0), .v (.int .i64 0), .v (.int .i64 0), .v (.int .i64 0), .v (.int .i64 0)] := by kernel_rfl
@[simp] theorem tsz137 : tsz Tryd.prog 137 = some 5 := by kernel_rfl
@[simp] theorem trow137 : trow Tryd.prog 137 = some true := by kernel_rfl
@[simp] theorem tel137 : tel Tryd.prog 137 = none := by kernel_rfl
@[simp] theorem tarr137 : tarr Tryd.prog 137 = none := by kernel_rfl
@[simp] theorem tifc137 : tifc Tryd.prog 137 = some false := by kernel_rfl
@[simp] theorem pzero137 : pzero Tryd.prog 137 = some (.agg [.v (.int .i64 0), .v (.int .i64 0), .v (.int .i64 0), .v (.int .i64 0), .v (.int .i64 0)]) := by kernel_rfl
@[simp] theorem tfld137x0 : tfld Tryd.prog 137 0 = some (0, 135) := by kernel_rfl
@[simp] theorem tfld137x1 : tfld Tryd.prog 137 1 = some (1, 3) := by kernel_rfl
@[simp] theorem tfld137x2 : tfld Tryd.prog 137 2 = some (2, 3) := by kernel_rfl
@[simp] theorem tfld137x3 : tfld Tryd.prog 137 3 = some (3, 29) := by kernel_rfl
@[simp] theorem tpl137 : tpl Tryd.prog 137 = some [(0, 1), (1, 1), (2, 1), (3, 2)] := by kernel_rfl
@[simp] theorem tbytes137 : tbytes Tryd.prog 137 = some 40 := by kernel_rfl
@[simp] theorem tzero137 : tzero Tryd.prog 137 = some [.v (.int .i64 0), .v (.int .i64 0), .v (.int .i64 0), .v (.int .i64 0), .v (.int .i64 0)] := by kernel_rfl
@[simp] theorem tsz138 : tsz Tryd.prog 138 = some 1 := by kernel_rfl
@[simp] theorem trow138 : trow Tryd.prog 138 = some false := by kernel_rfl
@[simp] theorem tel138 : tel Tryd.prog 138 = none := by kernel_rfl
@[simp] theorem tarr138 : tarr Tryd.prog 138 = none := by kernel_rfl
@[simp] theorem tifc138 : tifc Tryd.prog 138 = some false := by kernel_rfl
@[simp] theorem pzero138 : pzero Tryd.prog 138 = some (.v (.nilFunc)) := by kernel_rfl
@[simp] theorem tbytes138 : tbytes Tryd.prog 138 = some 8 := by kernel_rfl
@[simp] theorem tzero138 : tzero Tryd.prog 138 = some [.v (.nilFunc)] := by kernel_rfl
@[simp] theorem tsz139 : tsz Tryd.prog 139 = some 1 := by kernel_rfl
@[simp] theorem trow139 : trow Tryd.prog 139 = some false := by kernel_rfl
@[simp] theorem tel139 : tel Tryd.prog 139 = none := by kernel_rfl
@[simp] theorem tarr139 : tarr Tryd.prog 139 = none := by kernel_rfl
@[simp] theorem tifc139 : tifc Tryd.prog 139 = some false := by kernel_rfl
@[simp] theorem pzero139 : pzero Tryd.prog 139 = some (.v (.nilFunc)) := by kernel_rfl
@[simp] theorem tbytes139 : tbytes Tryd.prog 139 = some 8 := by kernel_rfl
@[simp] theorem tzero139 : tzero Tryd.prog 139 = some [.v (.nilFunc)] := by kernel_rfl
@[simp] theorem tsz140 : tsz Tryd.prog 140 = some 1 := by kernel_rfl
@[simp] theorem trow140 : trow Tryd.prog 140 = some false := by kernel_rfl
@[simp] theorem tel140 : tel Tryd.prog 140 = none := by kernel_rfl
@[simp] theorem tarr140 : tarr Tryd.prog 140 = none := by kernel_rfl
@[simp] theorem tifc140 : tifc Tryd.prog 140 = some false := by kernel_rfl
@[simp] theorem pzero140 : pzero Tryd.prog 140 = some (.v (.nilFunc)) := by kernel_rfl
@[simp] theorem tbytes140 : tbytes Tryd.prog 140 = some 8 := by kernel_rfl
@[simp] theorem tzero140 : tzero Tryd.prog 140 = some [.v (.nilFunc)] := by kernel_rfl
@[simp] theorem tsz141 : tsz Tryd.prog 141 = some 1 := by kernel_rfl
@[simp] theorem trow141 : trow Tryd.prog 141 = some false := by kernel_rfl
@[simp] theorem tel141 : tel Tryd.prog 141 = none := by kernel_rfl
@[simp] theorem tarr141 : tarr Tryd.prog 141 = none := by kernel_rfl
@[simp] theorem tifc141 : tifc Tryd.prog 141 = some false := by kernel_rfl
@[simp] theorem pzero141 : pzero Tryd.prog 141 = some (.v (.nilFunc)) := by kernel_rfl
@[simp] theorem tbytes141 : tbytes Tryd.prog 141 = some 8 := by kernel_rfl
@[simp] theorem tzero141 : tzero Tryd.prog 141 = some [.v (.nilFunc)] := by kernel_rfl
@[simp] theorem tsz142 : tsz Tryd.prog 142 = some 1 := by kernel_rfl
@[simp] theorem trow142 : trow Tryd.prog 142 = some false := by kernel_rfl
@[simp] theorem tel142 : tel Tryd.prog 142 = none := by kernel_rfl
@[simp] theorem tarr142 : tarr Tryd.prog 142 = none := by kernel_rfl
@[simp] theorem tifc142 : tifc Tryd.prog 142 = some false := by kernel_rfl
@[simp] theorem pzero142 : pzero Tryd.prog 142 = some (.v (.nilFunc)) := by kernel_rfl
@[simp] theorem tbytes142 : tbytes Tryd.prog 142 = some 8 := by kernel_rfl
@[simp] theorem tzero142 : tzero Tryd.prog 142 = some [.v (.nilFunc)] := by kernel_rfl
@[simp] theorem tsz143 : tsz Tryd.prog 143 = some 1 := by kernel_rfl
@[simp] theorem trow143 : trow Tryd.prog 143 = some false := by kernel_rfl
@[simp] theorem tel143 : tel Tryd.prog 143 = none := by kernel_rfl
@[simp] theorem tarr143 : tarr Tryd.prog 143 = none := by kernel_rfl
@[simp] theorem tifc143 : tifc Tryd.prog 143 = some false := by kernel_rfl
@[simp] theorem pzero143 : pzero Tryd.prog 143 = some (.v (.nilFunc)) := by kernel_rfl
@[simp] theorem tbytes143 : tbytes Tryd.prog 143 = some 8 := by kernel_rfl
@[simp] theorem tzero143 : tzero Tryd.prog 143 = some [.v (.nilFunc)] := by kernel_rfl
@[simp] theorem tsz144 : tsz Tryd.prog 144 = some 1 := by kernel_rfl
@[simp] theorem trow144 : trow Tryd.prog 144 = some false := by kernel_rfl
@[simp] theorem tel144 : tel Tryd.prog 144 = none := by kernel_rfl
@[simp] theorem tarr144 : tarr Tryd.prog 144 = none := by kernel_rfl
@[simp] theorem tifc144 : tifc Tryd.prog 144 = some false := by kernel_rfl
@[simp] theorem pzero144 : pzero Tryd.prog 144 = some (.v (.pointer none)) := by kernel_rfl
@[simp] theorem tbytes144 : tbytes Tryd.prog 144 = some 8 := by kernel_rfl
@[simp] theorem tzero144 : tzero Tryd.prog 144 = some [.v (.pointer none)] := by kernel_rfl
@[simp] theorem tsz145 : tsz Tryd.prog 145 = some 1 := by kernel_rfl
@[simp] theorem trow145 : trow Tryd.prog 145 = some false := by kernel_rfl
@[simp] theorem tel145 : tel Tryd.prog 145 = none := by kernel_rfl
@[simp] theorem tarr145 : tarr Tryd.prog 145 = none := by kernel_rfl
@[simp] theorem tifc145 : tifc Tryd.prog 145 = some true := by kernel_rfl
@[simp] theorem pzero145 : pzero Tryd.prog 145 = some (.v (.nilIface)) := by kernel_rfl
@[simp] theorem tbytes145 : tbytes Tryd.prog 145 = some 16 := by kernel_rfl
@[simp] theorem tzero145 : tzero Tryd.prog 145 = some [.v (.nilIface)] := by kernel_rfl
@[simp] theorem tsz146 : tsz Tryd.prog 146 = some 1 := by kernel_rfl
@[simp] theorem trow146 : trow Tryd.prog 146 = some false := by kernel_rfl
@[simp] theorem tel146 : tel Tryd.prog 146 = none := by kernel_rfl
@[simp] theorem tarr146 : tarr Tryd.prog 146 = none := by kernel_rfl
@[simp] theorem tifc146 : tifc Tryd.prog 146 = some true := by kernel_rfl
@[simp] theorem pzero146 : pzero Tryd.prog 146 = some (.v (.nilIface)) := by kernel_rfl
@[simp] theorem tbytes146 : tbytes Tryd.prog 146 = some 16 := by kernel_rfl
@[simp] theorem tzero146 : tzero Tryd.prog 146 = some [.v (.nilIface)] := by kernel_rfl
@[simp] theorem tsz148 : tsz Tryd.prog 148 = some 1 := by kernel_rfl
@[simp] theorem trow148 : trow Tryd.prog 148 = some false := by kernel_rfl
@[simp] theorem tel148 : tel Tryd.prog 148 = none := by kernel_rfl
@[simp] theorem tarr148 : tarr Tryd.prog 148 = none := by kernel_rfl
@[simp] theorem tifc148 : tifc Tryd.prog 148 = some false := by kernel_rfl
@[simp] theorem pzero148 : pzero Tryd.prog 148 = some (.v (.nilFunc)) := by kernel_rfl
@[simp] theorem tbytes148 : tbytes Tryd.prog 148 = some 8 := by kernel_rfl
@[simp] theorem tzero148 : tzero Tryd.prog 148 = some [.v (.nilFunc)] := by kernel_rfl
@[simp] theorem tsz149 : tsz Tryd.prog 149 = some 1 := by kernel_rfl
@[simp] theorem trow149 : trow Tryd.prog 149 = some false := by kernel_rfl
@[simp] theorem tel149 : tel Tryd.prog 149 = none := by kernel_rfl
@[simp] theorem tarr149 : tarr Tryd.prog 149 = none := by kernel_rfl
@[simp] theorem tifc149 : tifc Tryd.prog 149 = some false := by kernel_rfl
@[simp] theorem pzero149 : pzero Tryd.prog 149 = some (.v (.nilFunc)) := by kernel_rfl
@[simp] theorem tbytes149 : tbytes Tryd.prog 149 = some 8 := by kernel_rfl
@[simp] theorem tzero149 : tzero Tryd.prog 149 = some [.v (.nilFunc)] := by kernel_rfl
@[simp] theorem tsz150 : tsz Tryd.prog 150 = some 1 := by kernel_rfl
@[simp] theorem trow150 : trow Tryd.prog 150 = some false := by kernel_rfl
@[simp] theorem tel150 : tel Tryd.prog 150 = none := by kernel_rfl
@[simp] theorem tarr150 : tarr Tryd.prog 150 = none := by kernel_rfl
@[simp] theorem tifc150 : tifc Tryd.prog 150 = some false := by kernel_rfl
@[simp] theorem pzero150 : pzero Tryd.prog 150 = some (.v (.pointer none)) := by kernel_rfl
@[simp] theorem tbytes150 : tbytes Tryd.prog 150 = some 8 := by kernel_rfl
@[simp] theorem tzero150 : tzero Tryd.prog 150 = some [.v (.pointer none)] := by kernel_rfl
@[simp] theorem tsz151 : tsz Tryd.prog 151 = some 1 := by kernel_rfl
@[simp] theorem trow151 : trow Tryd.prog 151 = some false := by kernel_rfl
@[simp] theorem tel151 : tel Tryd.prog 151 = none := by kernel_rfl
@[simp] theorem tarr151 : tarr Tryd.prog 151 = none := by kernel_rfl
@[simp] theorem tifc151 : tifc Tryd.prog 151 = some false := by kernel_rfl
@[simp] theorem pzero151 : pzero Tryd.prog 151 = some (.v (.nilFunc)) := by kernel_rfl
@[simp] theorem tbytes151 : tbytes Tryd.prog 151 = some 8 := by kernel_rfl
@[simp] theorem tzero151 : tzero Tryd.prog 151 = some [.v (.nilFunc)] := by kernel_rfl
@[simp] theorem tsz152 : tsz Tryd.prog 152 = some 1 := by kernel_rfl
@[simp] theorem trow152 : trow Tryd.prog 152 = some false := by kernel_rfl
@[simp] theorem tel152 : tel Tryd.prog 152 = none := by kernel_rfl
@[simp] theorem tarr152 : tarr Tryd.prog 152 = none := by kernel_rfl
@[simp] theorem tifc152 : tifc Tryd.prog 152 = some false := by kernel_rfl
@[simp] theorem pzero152 : pzero Tryd.prog 152 = some (.v (.nilFunc)) := by kernel_rfl
@[simp] theorem tbytes152 : tbytes Tryd.prog 152 = some 8 := by kernel_rfl
@[simp] theorem tzero152 : tzero Tryd.prog 152 = some [.v (.nilFunc)] := by kernel_rfl
@[simp] theorem tsz153 : tsz Tryd.prog 153 = some 1 := by kernel_rfl
@[simp] theorem trow153 : trow Tryd.prog 153 = some false := by kernel_rfl
@[simp] theorem tel153 : tel Tryd.prog 153 = none := by kernel_rfl
@[simp] theorem tarr153 : tarr Tryd.prog 153 = none := by kernel_rfl
@[simp] theorem tifc153 : tifc Tryd.prog 153 = some false := by kernel_rfl
@[simp] theorem pzero153 : pzero Tryd.prog 153 = some (.v (.nilFunc)) := by kernel_rfl
@[simp] theorem tbytes153 : tbytes Tryd.prog 153 = some 8 := by kernel_rfl
@[simp] theorem tzero153 : tzero Tryd.prog 153 = some [.v (.nilFunc)] := by kernel_rfl
@[simp] theorem tsz154 : tsz Tryd.prog 154 = some 1 := by kernel_rfl
@[simp] theorem trow154 : trow Tryd.prog 154 = some false := by kernel_rfl
@[simp] theorem tel154 : tel Tryd.prog 154 = none := by kernel_rfl
@[simp] theorem tarr154 : tarr Tryd.prog 154 = none := by kernel_rfl
@[simp] theorem tifc154 : tifc Tryd.prog 154 = some false := by kernel_rfl
@[simp] theorem pzero154 : pzero Tryd.prog 154 = some (.v (.nilFunc)) := by kernel_rfl
@[simp] theorem tbytes154 : tbytes Tryd.prog 154 = some 8 := by kernel_rfl
@[simp] theorem tzero154 : tzero Tryd.prog 154 = some [.v (.nilFunc)] := by kernel_rfl
@[simp] theorem tsz155 : tsz Tryd.prog 155 = some 1 := by kernel_rfl
@[simp] theorem trow155 : trow Tryd.prog 155 = some false := by kernel_rfl
@[simp] theorem tel155 : tel Tryd.prog 155 = none := by kernel_rfl
@[simp] theorem tarr155 : tarr Tryd.prog 155 = none := by kernel_rfl
@[simp] theorem tifc155 : tifc Tryd.prog 155 = some false := by kernel_rfl
@[simp] theorem pzero155 : pzero Tryd.prog 155 = some (.v (.nilFunc)) := by kernel_rfl
@[simp] theorem tbytes155 : tbytes Tryd.prog 155 = some 8 := by kernel_rfl
@[simp] theorem tzero155 : tzero Tryd.prog 155 = some [.v (.nilFunc)] := by kernel_rfl
@[simp] theorem tsz156 : tsz Tryd.prog 156 = some 1 := by kernel_rfl
@[simp] theorem trow156 : trow Tryd.prog 156 = some false := by kernel_rfl
@[simp] theorem tel156 : tel Tryd.prog 156 = none := by kernel_rfl
@[simp] theorem tarr156 : tarr Tryd.prog 156 = none := by kernel_rfl
@[simp] theorem tifc156 : tifc Tryd.prog 156 = some false := by kernel_rfl
@[simp] theorem pzero156 : pzero Tryd.prog 156 = some (.v (.nilFunc)) := by kernel_rfl
@[simp] theorem tbytes156 : tbytes Tryd.prog 156 = some 8 := by kernel_rfl
@[simp] theorem tzero156 : tzero Tryd.prog 156 = some [.v (.nilFunc)] := by kernel_rfl
@[simp] theorem tsz157 : tsz Tryd.prog 157 = some 1 := by kernel_rfl
@[simp] theorem trow157 : trow Tryd.prog 157 = some false := by kernel_rfl
@[simp] theorem tel157 : tel Tryd.prog 157 = none := by kernel_rfl
@[simp] theorem tarr157 : tarr Tryd.prog 157 = none := by kernel_rfl
@[simp] theorem tmap157 : tmap Tryd.prog 157 = some (3, 3) := by kernel_rfl
@[simp] theorem tifc157 : tifc Tryd.prog 157 = some false := by kernel_rfl
@[simp] theorem pzero157 : pzero Tryd.prog 157 = some (.v (.map none)) := by kernel_rfl
@[simp] theorem tbytes157 : tbytes Tryd.prog 157 = some 8 := by kernel_rfl
@[simp] theorem tzero157 : tzero Tryd.prog 157 = some [.v (.map none)] := by kernel_rfl
@[simp] theorem tsz158 : tsz Tryd.prog 158 = some 4 := by kernel_rfl
@[simp] theorem trow158 : trow Tryd.prog 158 = some true := by kernel_rfl
@[simp] theorem tel158 : tel Tryd.prog 158 = none := by kernel_rfl
@[simp] theorem tarr158 : tarr Tryd.prog 158 = none := by kernel_rfl
@[simp] theorem tifc158 : tifc Tryd.prog 158 = some false := by kernel_rfl
@[simp] theorem pzero158 : pzero Tryd.prog 158 = some (.agg [.v (.int .i64 0), .v (.int .i64 0), .v (.int .i64 0), .v (.int .i64 0)]) := by kernel_rfl
@[simp] theorem tfld158x0 : tfld Tryd.prog 158 0 = some (0, 29) := by kernel_rfl
@[simp] theorem tfld158x1 : tfld Tryd.prog 158 1 = some (2, 29) := by kernel_rfl
@[simp] theorem tpl158 : tpl Tryd.prog 158 = some [(0, 2), (2, 2)] := by kernel_rfl
@[simp] theorem tbytes158 : tbytes Tryd.prog 158 = some 32 := by kernel_rfl
@[simp] theorem tzero158 : tzero Tryd.prog 158 = some [.v (.int .i64 0), .v (.int .i64 0), .v (.int .i64 0), .v (.int .i64 0)] := by kernel_rfl
@[simp] theorem tsz159 : tsz Tryd.prog 159 = some 4 := by kernel_rfl
@[simp] theorem trow159 : trow Tryd.prog 159 = some true := by kernel_rfl
@[simp] theorem tel159 : tel Tryd.prog 159 = none := by kernel_rfl
@[simp] theorem tarr159 : tarr Tryd.prog 159 = none := by kernel_rfl
@[simp] theorem tifc159 : tifc Tryd.prog 159 = some false := by kernel_rfl
@[simp] theorem pzero159 : pzero Tryd.prog 159 = some (.agg [.v (.int .i64 0), .v (.int .i64 0), .v (.int .i64 0), .v (.int .i64 0)]) := by kernel_rfl
@[simp] theorem tfld159x0 : tfld Tryd.prog 159 0 = some (0, 29) := by kernel_rfl
@[simp] theorem tfld159x1 : tfld Tryd.prog 159 1 = some (2, 29) := by kernel_rfl
@[simp] theorem tpl159 : tpl Tryd.prog 159 = some [(0, 2), (2, 2)] := by kernel_rfl
@[simp] theorem tbytes159 : tbytes Tryd.prog 159 = some 32 := by kernel_rfl
@[simp] theorem tzero159 : tzero Tryd.prog 159 = some [.v (.int .i64 0), .v (.int .i64 0), .v (.int .i64 0), .v (.int .i64 0)] := by kernel_rfl
@[simp] theorem tsz160 : tsz Tryd.prog 160 = some 1 := by kernel_rfl
@[simp] theorem trow160 : trow Tryd.prog 160 = some false := by kernel_rfl
@[simp] theorem tel160 : tel Tryd.prog 160 = none := by kernel_rfl
@[simp] theorem tarr160 : tarr Tryd.prog 160 = none := by kernel_rfl
@[simp] theorem tifc160 : tifc Tryd.prog 160 = some false := by kernel_rfl
@[simp] theorem pzero160 : pzero Tryd.prog 160 = some (.v (.nilFunc)) := by kernel_rfl
@[simp] theorem tbytes160 : tbytes Tryd.prog 160 = some 8 := by kernel_rfl
@[simp] theorem tzero160 : tzero Tryd.prog 160 = some [.v (.nilFunc)] := by kernel_rfl
@[simp] theorem tsz161 : tsz Tryd.prog 161 = some 1 := by kernel_rfl
@[simp] theorem trow161 : trow Tryd.prog 161 = some false := by kernel_rfl
@[simp] theorem tel161 : tel Tryd.prog 161 = none := by kernel_rfl
@[simp] theorem tarr161 : tarr Tryd.prog 161 = none := by kernel_rfl
@[simp] theorem tifc161 : tifc Tryd.prog 161 = some false := by kernel_rfl
@[simp] theorem pzero161 : pzero Tryd.prog 161 = some (.v (.nilFunc)) := by kernel_rfl
@[simp] theorem tbytes161 : tbytes Tryd.prog 161 = some 8 := by kernel_rfl
@[simp] theorem tzero161 : tzero Tryd.prog 161 = some [.v (.nilFunc)] := by kernel_rfl
@[simp] theorem tsz162 : tsz Tryd.prog 162 = some 1 := by kernel_rfl
@[simp] theorem trow162 : trow Tryd.prog 162 = some false := by kernel_rfl
@[simp] theorem tel162 : tel Tryd.prog 162 = none := by kernel_rfl
@[simp] theorem tarr162 : tarr Tryd.prog 162 = none := by kernel_rfl
@[simp] theorem tifc162 : tifc Tryd.prog 162 = some false := by kernel_rfl
@[simp] theorem pzero162 : pzero Tryd.prog 162 = some (.v (.nilFunc)) := by kernel_rfl
@[simp] theorem tbytes162 : tbytes Tryd.prog 162 = some 8 := by kernel_rfl
@[simp] theorem tzero162 : tzero Tryd.prog 162 = some [.v (.nilFunc)] := by kernel_rfl
@[simp] theorem tsz164 : tsz Tryd.prog 164 = some 1 := by kernel_rfl
@[simp] theorem trow164 : trow Tryd.prog 164 = some false := by kernel_rfl
@[simp] theorem tel164 : tel Tryd.prog 164 = none := by kernel_rfl
@[simp] theorem tarr164 : tarr Tryd.prog 164 = none := by kernel_rfl
@[simp] theorem tifc164 : tifc Tryd.prog 164 = some false := by kernel_rfl
@[simp] theorem pzero164 : pzero Tryd.prog 164 = some (.v (.nilFunc)) := by kernel_rfl
@[simp] theorem tbytes164 : tbytes Tryd.prog 164 = some 8 := by kernel_rfl
@[simp] theorem tzero164 : tzero Tryd.prog 164 = some [.v (.nilFunc)] := by kernel_rfl
@[simp] theorem tsz165 : tsz Tryd.prog 165 = some 1 := by kernel_rfl
@[simp] theorem trow165 : trow Tryd.prog 165 = some false := by kernel_rfl
@[simp] theorem tel165 : tel Tryd.prog 165 = none := by kernel_rfl
@[simp] theorem tarr165 : tarr Tryd.prog 165 = none := by kernel_rfl
@[simp] theorem tifc165 : tifc Tryd.prog 165 = some false := by kernel_rfl
@[simp] theorem pzero165 : pzero Tryd.prog 165 = some (.v (.nilFunc)) := by kernel_rfl
@[simp] theorem tbytes165 : tbytes Tryd.prog 165 = some 8 := by kernel_rfl
@[simp] theorem tzero165 : tzero Tryd.prog 165 = some [.v (.nilFunc)] := by kernel_rfl
@[simp] theorem tsz166 : tsz Tryd.prog 166 = some 1 := by kernel_rfl
@[simp] theorem trow166 : trow Tryd.prog 166 = some false := by kernel_rfl
@[simp] theorem tel166 : tel Tryd.prog 166 = none := by kernel_rfl
@[simp] theorem tarr166 : tarr Tryd.prog 166 = none := by kernel_rfl
@[simp] theorem tifc166 : tifc Tryd.prog 166 = some false := by kernel_rfl
@[simp] theorem pzero166 : pzero Tryd.prog 166 = some (.v (.nilFunc)) := by kernel_rfl
@[simp] theorem tbytes166 : tbytes Tryd.prog 166 = some 8 := by kernel_rfl
@[simp] theorem tzero166 : tzero Tryd.prog 166 = some [.v (.nilFunc)] := by kernel_rfl
@[simp] theorem tsz167 : tsz Tryd.prog 167 = some 24 := by kernel_rfl
@[simp] theorem trow167 : trow Tryd.prog 167 = some true := by kernel_rfl
@[simp] theorem tel167 : tel Tryd.prog 167 = none := by kernel_rfl
@[simp] theorem tarr167 : tarr Tryd.prog 167 = some (24, 5) := by kernel_rfl
@[simp] theorem tifc167 : tifc Tryd.prog 167 = some false := by kernel_rfl
@[simp] theorem pzero167 : pzero Tryd.prog 167 = some (.agg [.v (.int .u8 0), .v (.int .u8 0), .v (.int .u8 0), .v (.int .u8 0), .v (.int .u8 0), .v (.int .u8 0), .v (.int .u8 0), .v (.int .u8 0), .v (.int .u8 0), .v (.int .u8 0), .v (.int .u8 0), .v (.int .u8 0), .v (.int .u8 0), .v (.int .u8 0), .v (.int .u8 0), .v (.int .u8 0), .v (.int .u8 0), .v (.int .u8 0), .v (.int .u8 0), .v (.int .u8 0), .v (.int .u8 0), .v (.int .u8 0), .v (.int .u8 0), .v (.int .u8 0)]) := by kernel_rfl
@[simp] theorem tpl167 : tpl Tryd.prog 167 = none := by kernel_rfl
@[simp] theorem tbytes167 : tbytes Tryd.prog 167 = some 24 := by kernel_rfl
@[simp] theorem tzero167 : tzero Tryd.prog 167 = some [.v (.int .u8 0), .v (.int .u8 0), .v (.int .u8 0), .v (.int .u8 0), .v (.int .u8 0), .v (.int .u8 0), .v (.int .u8 0), .v (.int .u8 0), .v (.int .u8 0), .v (.int .u8 0), .v (.int .u8 0), .v (.int .u8 0), .v (.int .u8 0), .v (.int .u8 0), .v (.int .u8 0), .v (.int .u8 0), .v (.int .u8 0), .v (.int .u8 0), .v (.int .u8 0), .v (.int .u8 0), .v (.int .u8 0), .v (.int .u8 0), .v (.int .u8 0), .v (.int .u8 0)] := by kernel_rfl
@[simp] theorem tsz168 : tsz Tryd.prog 168 = some 1 := by kernel_rfl
@[simp] theorem trow168 : trow Tryd.prog 168 = some false := by kernel_rfl
@[simp] theorem tel168 : tel Tryd.prog 168 = none := by kernel_rfl
@[simp] theorem tarr168 : tarr Tryd.prog 168 = none := by kernel_rfl
@[simp] theorem tifc168 : tifc Tryd.prog 168 = some false := by kernel_rfl
@[simp] theorem pzero168 : pzero Tryd.prog 168 = some (.v (.int .u64 0)) := by kernel_rfl
@[simp] theorem tint168 : tint Tryd.prog 168 = some .u64 := by kernel_rfl
@[simp] theorem tbytes168 : tbytes Tryd.prog 168 = some 8 := by kernel_rfl
@[simp] theorem tzero168 : tzero Tryd.prog 168 = some [.v (.int .u64 0)] := by kernel_rfl
@[simp] theorem tsz169 : tsz Tryd.prog 169 = some 1 := by kernel_rfl
@[simp] theorem trow169 : trow Tryd.prog 169 = some false := by kernel_rfl
@[simp] theorem tel169 : tel Tryd.prog 169 = none := by kernel_rfl
@[simp] theorem tarr169 : tarr Tryd.prog 169 = none := by kernel_rfl
@[simp] theorem tifc169 : tifc Tryd.prog 169 = some false := by kernel_rfl
@[simp] theorem pzero169 : pzero Tryd.prog 169 = some (.v (.nilFunc)) := by kernel_rfl
@[simp] theorem tbytes169 : tbytes Tryd.prog 169 = some 8 := by kernel_rfl
@[simp] theorem tzero169 : tzero Tryd.prog 169 = some [.v (.nilFunc)] := by kernel_rfl
@[simp] theorem tsz170 : tsz Tryd.prog 170 = some 1 := by kernel_rfl
@[simp] theorem trow170 : trow Tryd.prog 170 = some false := by kernel_rfl
@[simp] theorem tel170 : tel Tryd.prog 170 = none := by kernel_rfl
@[simp] theorem tarr170 : tarr Tryd.prog 170 = none := by kernel_rfl
@[simp] theorem tifc170 : tifc Tryd.prog 170 = some false := by kernel_rfl
@[simp] theorem pzero170 : pzero Tryd.prog 170 = some (.v (.nilFunc)) := by kernel_rfl
@[simp] theorem tbytes170 : tbytes Tryd.prog 170 = some 8 := by kernel_rfl
@[simp] theorem tzero170 : tzero Tryd.prog 170 = some [.v (.nilFunc)] := by kernel_rfl
@[simp] theorem tsz172 : tsz Tryd.prog 172 = some 1 := by kernel_rfl
@[simp] theorem trow172 : trow Tryd.prog 172 = some false := by kernel_rfl
@[simp] theorem tel172 : tel Tryd.prog 172 = none := by kernel_rfl
@[simp] theorem tarr172 : tarr Tryd.prog 172 = none := by kernel_rfl
@[simp] theorem tifc172 : tifc Tryd.prog 172 = some false := by kernel_rfl
@[simp] theorem pzero172 : pzero Tryd.prog 172 = some (.v (.nilFunc)) := by kernel_rfl
@[simp] theorem tbytes172 : tbytes Tryd.prog 172 = some 8 := by kernel_rfl
@[simp] theorem tzero172 : tzero Tryd.prog 172 = some [.v (.nilFunc)] := by kernel_rfl
@[simp] theorem tsz173 : tsz Tryd.prog 173 = some 1 := by kernel_rfl
@[simp] theorem trow173 : trow Tryd.prog 173 = some false := by kernel_rfl
@[simp] theorem tel173 : tel Tryd.prog 173 = none := by kernel_rfl
@[simp] theorem tarr173 : tarr Tryd.prog 173 = none := by kernel_rfl
@[simp] theorem tifc173 : tifc Tryd.prog 173 = some false := by kernel_rfl
@[simp] theorem pzero173 : pzero Tryd.prog 173 = some (.v (.nilFunc)) := by kernel_rfl
@[simp] theorem tbytes173 : tbytes Tryd.prog 173 = some 8 := by kernel_rfl
@[simp] theorem tzero173 : tzero Tryd.prog 173 = some [.v (.nilFunc)] := by kernel_rfl
@[simp] theorem tsz174 : tsz Tryd.prog 174 = some 20 := by kernel_rfl
@[simp] theorem trow174 : trow Tryd.prog 174 = some true := by kernel_rfl
@[simp] theorem tel174 : tel Tryd.prog 174 = none := by kernel_rfl
@[simp] theorem tarr174 : tarr Tryd.prog 174 = some (20, 168) := by kernel_rfl
@[simp] theorem tifc174 : tifc Tryd.prog 174 = some false := by kernel_rfl
@[simp] theorem pzero174 : pzero Tryd.prog 174 = some (.agg [.v (.int .u64 0), .v (.int .u64 0), .v (.int .u64 0), .v (.int .u64 0), .v (.int .u64 0), .v (.int .u64 0), .v (.int .u64 0), .v (.int .u64 0), .v (.int .u64 0), .v (.int .u64 0), .v (.int .u64 0), .v (.int .u64 0), .v (.int .u64 0), .v (.int .u64 0), .v (.int .u64 0), .v (.int .u64 0), .v (.int .u64 0), .v (.int .u64 0), .v (.int .u64 0), .v (.int .u64 0)]) := by kernel_rfl
@[simp] theorem tpl174 : tpl Tryd.prog 174 = none := by kernel_rfl
@[simp] theorem tbytes174 : tbytes Tryd.prog 174 = some 160 := by kernel_rfl
@[simp] theorem tzero174 : tzero Tryd.prog 174 = some [.v (.int .u64 0), .v (.int .u64 0), .v (.int .u64 0), .v (.int .u64 0), .v (.int .u64 0), .v (.int .u64 0), .v (.int .u64 0), .v (.int .u64 0), .v (.int .u64 0), .v (.int .u64 0), .v (.int .u64 0), .v (.int .u64 0), .v (.int .u64 0), .v (.int .u64 0), .v (.int .u64 0), .v (.int .u64 0), .v (.int .u64 0), .v (.int .u64 0), .v (.int .u64 0), .v (.int .u64 0)] := by kernel_rfl
@[simp] theorem tsz175 : tsz Tryd.prog 175 = some 1 := by kernel_rfl
@[simp] theorem trow175 : trow Tryd.prog 175 = some false := by kernel_rfl
@[simp] theorem tel175 : tel Tryd.prog 175 = none := by kernel_rfl
@[simp] theorem tarr175 : tarr Tryd.prog 175 = none := by kernel_rfl
@[simp] theorem tifc175 : tifc Tryd.prog 175 = some false := by kernel_rfl
@[simp] theorem pzero175 : pzero Tryd.prog 175 = some (.v (.int .u32 0)) := by kernel_rfl
@[simp] theorem tint175 : tint Tryd.prog 175 = some .u32 := by kernel_rfl
@[simp] theorem tbytes175 : tbytes Tryd.prog 175 = some 4 := by kernel_rfl
@[simp] theorem tzero175 : tzero Tryd.prog 175 = some [.v (.int .u32 0)] := by kernel_rfl
@[simp] theorem tsz176 : tsz Tryd.prog 176 = some 65 := by kernel_rfl
@[simp] theorem trow176 : trow Tryd.prog 176 = some true := by kernel_rfl
@[simp] theorem tel176 : tel Tryd.prog 176 = none := by kernel_rfl
@[simp] theorem tarr176 : tarr Tryd.prog 176 = some (65, 5) := by kernel_rfl
@[simp] theorem tifc176 : tifc Tryd.prog 176 = some false := by kernel_rfl
@[simp] theorem tpl176 : tpl Tryd.prog 176 = none := by kernel_rfl
@[simp] theorem tbytes176 : tbytes Tryd.prog 176 = some 65 := by kernel_rfl
@[simp] theorem tsz177 : tsz Tryd.prog 177 = some 1 := by kernel_rfl
@[simp] theorem trow177 : trow Tryd.prog 177 = some false := by kernel_rfl
@[simp] theorem tel177 : tel Tryd.prog 177 = none := by kernel_rfl
@[simp] theorem tarr177 : tarr Tryd.prog 177 = none := by kernel_rfl
@[simp] theorem tifc177 : tifc Tryd.prog 177 = some false := by kernel_rfl
@[simp] theorem pzero177 : pzero Tryd.prog 177 = some (.v (.int .u64 0)) := by kernel_rfl
@[simp] theorem tint177 : tint Tryd.prog 177 = some .u64 := by kernel_rfl
@[simp] theorem tbytes177 : tbytes Tryd.prog 177 = some 8 := by kernel_rfl
@[simp] theorem tzero177 : tzero Tryd.prog 177 = some [.v (.int .u64 0)] := by kernel_rfl
@[simp] theorem tsz178 : tsz Tryd.prog 178 = some 1 := by kernel_rfl
@[simp] theorem trow178 : trow Tryd.prog 178 = some false := by kernel_rfl
@[simp] theorem tel178 : tel Tryd.prog 178 = none := by kernel_rfl
@[simp] theorem tarr178 : tarr Tryd.prog 178 = none := by kernel_rfl
@[simp] theorem tifc178 : tifc Tryd.prog 178 = some false := by kernel_rfl
@[simp] theorem pzero178 : pzero Tryd.prog 178 = some (.v (.nilFunc)) := by kernel_rfl
@[simp] theorem tbytes178 : tbytes Tryd.prog 178 = some 8 := by kernel_rfl
@[simp] theorem tzero178 : tzero Tryd.prog 178 = some [.v (.nilFunc)] := by kernel_rfl
@[simp] theorem tsz179 : tsz Tryd.prog 179 = some 1 := by kernel_rfl
@[simp] theorem trow179 : trow Tryd.prog 179 = some false := by kernel_rfl
@[simp] theorem tel179 : tel Tryd.prog 179 = none := by kernel_rfl
@[simp] theorem tarr179 : tarr Tryd.prog 179 = none := by kernel_rfl
@[simp] theorem tifc179 : tifc Tryd.prog 179 = some false := by kernel_rfl
@[simp] theorem pzero179 : pzero Tryd.prog 179 = some (.v (.nilFunc)) := by kernel_rfl
@[simp] theorem tbytes179 : tbytes Tryd.prog 179 = some 8 := by kernel_rfl
@[simp] theorem tzero179 : tzero Tryd.prog 179 = some [.v (.nilFunc)] := by kernel_rfl
@[simp] theorem tsz180 : tsz Tryd.prog 180 = some 32 := by kernel_rfl
@[simp] theorem trow180 : trow Tryd.prog 180 = some true := by kernel_rfl
@[simp] theorem tel180 : tel Tryd.prog 180 = none := by kernel_rfl
@[simp] theorem tarr180 : tarr Tryd.prog 180 = some (32, 5) := by kernel_rfl
@[simp] theorem tifc180 : tifc Tryd.prog 180 = some false := by kernel_rfl
@[simp] theorem pzero180 : pzero Tryd.prog 180 = some (.agg [.v (.int .u8 0), .v (.int .u8 0), .v (.int .u8 0), .v (.int .u8 0), .v (.int .u8 0), .v (.int .u8 0), .v (.int .u8 0), .v (.int .u8 0), .v (.int .u8 0), .v (.int .u8 0), .v (.int .u8 0), .v (.int .u8 0), .v (.int .u8 0), .v (.int .u8 0), .v (.int .u8 0), .v (.int .u8 0), .v (.int .u8 0), .v (.int .u8 0), .v (.int .u8 0), .v (.int .u8 0), .v (.int .u8 0), .v (.int .u8 0), .v (.int .u8 0), .v (.int .u8 0), .v (.int .u8 0), .v (.int .u8 0), .v (.int .u8 0), .v (.int .u8 0), .v (.int .u8 0), .v (.int .u8 0), .v (.int .u8 0), .v (.int .u8 0)]) := by kernel_rfl
@[simp] theorem tpl180 : tpl Tryd.prog 180 = none := by kernel_rfl
@[simp] theorem tbytes180 : tbytes Tryd.prog 180 = some 32 := by kernel_rfl
@[simp] theorem tzero180 : tzero Tryd.prog 180 = some [.v (.int .u8 0), .v (.int .u8 0), .v (.int .u8 0), .v (.int .u8 0), .v (.int .u8 0), .v (.int .u8 0), .v (.int .u8 0), .v (.int .u8 0), .v (.int .u8 0), .v (.int .u8 0), .v (.int .u8 0), .v (.int .u8 0), .v (.int .u8 0), .v (.int .u8 0), .v (.int .u8 0), .v (.int .u8 0), .v (.int .u8 0), .v (.int .u8 0), .v (.int .u8 0), .v (.int .u8 0), .v (.int .u8 0), .v (.int .u8 0), .v (.int .u8 0), .v (.int .u8 0), .v (.int .u8 0), .v (.int .u8 0), .v (.int .u8 0), .v (.int .u8 0), .v (.int .u8 0), .v (.int .u8 0), .v (.int .u8 0), .v (.int .u8 0)] := by kernel_rfl
@[simp] theorem tsz181 : tsz Tryd.prog 181 = some 64 := by kernel_rfl
@[simp] theorem trow181 : trow Tryd.prog 181 = some true := by kernel_rfl
@[simp] theorem tel181 : tel Tryd.prog 181 = none := by kernel_rfl
@[simp] theorem tarr181 : tarr Tryd.prog 181 = some (64, 5) := by kernel_rfl
@[simp] theorem tifc181 : tifc Tryd.prog 181 = some false := by kernel_rfl
@[simp] theorem tpl181 : tpl Tryd.prog 181 = none := by kernel_rfl
@[simp] theorem tbytes181 : tbytes Tryd.prog 181 = some 64 := by kernel_rfl
@[simp] theorem tsz182 : tsz Tryd.prog 182 = some 4 := by kernel_rfl
@[simp] theorem trow182 : trow Tryd.prog 182 = some true := by kernel_rfl
@[simp] theorem tel182 : tel Tryd.prog 182 = none := by kernel_rfl
@[simp] theorem tarr182 : tarr Tryd.prog 182 = none := by kernel_rfl
@[simp] theorem tifc182 : tifc Tryd.prog 182 = some false := by kernel_rfl
@[simp] theorem pzero182 : pzero Tryd.prog 182 = some (.agg [.v (.pointer none), .v (.pointer none), .v (.pointer none), .v (.string ByteArray.empty)]) := by kernel_rfl
@[simp] theorem tfld182x0 : tfld Tryd.prog 182 0 = some (0, 17) := by kernel_rfl
@[simp] theorem tfld182x1 : tfld Tryd.prog 182 1 = some (1, 17) := by kernel_rfl
@[simp] theorem tfld182x2 : tfld Tryd.prog 182 2 = some (2, 17) := by kernel_rfl
@[simp] theorem tfld182x3 : tfld Tryd.prog 182 3 = some (3, 9) := by kernel_rfl
@[simp] theorem tpl182 : tpl Tryd.prog 182 = some [(0, 1), (1, 1), (2, 1), (3, 1)] := by kernel_rfl
@[simp] theorem tbytes182 : tbytes Tryd.prog 182 = some 40 := by kernel_rfl
@[simp] theorem tzero182 : tzero Tryd.prog 182 = some [.v (.pointer none), .v (.pointer none), .v (.pointer none), .v (.string ByteArray.empty)] := by kernel_rfl
@[simp] theorem tsz183 : tsz Tryd.prog 183 = some 4 := by kernel_rfl
@[simp] theorem trow183 : trow Tryd.prog 183 = some true := by kernel_rfl
@[simp] theorem tel183 : tel Tryd.prog 183 = none := by kernel_rfl
@[simp] theorem tarr183 : tarr Tryd.prog 183 = none := by kernel_rfl
@[simp] theorem tifc183 : tifc Tryd.prog 183 = some false := by kernel_rfl
@[simp] theorem pzero183 : pzero Tryd.prog 183 = some (.agg [.v (.pointer none), .v (.pointer none), .v (.pointer none), .v (.string ByteArray.empty)]) := by kernel_rfl
@[simp] theorem tfld183x0 : tfld Tryd.prog 183 0 = some (0, 17) := by kernel_rfl
@[simp] theorem tfld183x1 : tfld Tryd.prog 183 1 = some (1, 17) := by kernel_rfl
@[simp] theorem tfld183x2 : tfld Tryd.prog 183 2 = some (2, 17) := by kernel_rfl
@[simp] theorem tfld183x3 : tfld Tryd.prog 183 3 = some (3, 9) := by kernel_rfl
@[simp] theorem tpl183 : tpl Tryd.prog 183 = some [(0, 1), (1, 1), (2, 1), (3, 1)] := by kernel_rfl
@[simp] theorem tbytes183 : tbytes Tryd.prog 183 = some 40 := by kernel_rfl
@[simp] theorem tzero183 : tzero Tryd.prog 183 = some [.v (.pointer none), .v (.pointer none), .v (.pointer none), .v (.string ByteArray.empty)] := by kernel_rfl
@[simp] theorem tsz184 : tsz Tryd.prog 184 = some 0 := by kernel_rfl
@[simp] theorem trow184 : trow Tryd.prog 184 = some true := by kernel_rfl
@[simp] theorem tel184 : tel Tryd.prog 184 = none := by kernel_rfl
@[simp] theorem tarr184 : tarr Tryd.prog 184 = some (0, 16) := by kernel_rfl
@[simp] theorem tifc184 : tifc Tryd.prog 184 = some false := by kernel_rfl
@[simp] theorem pzero184 : pzero Tryd.prog 184 = some (.agg []) := by kernel_rfl
@[simp] theorem tpl184 : tpl Tryd.prog 184 = none := by kernel_rfl
@[simp] theorem tbytes184 : tbytes Tryd.prog 184 = some 0 := by kernel_rfl
@[simp] theorem tzero184 : tzero Tryd.prog 184 = some [] := by kernel_rfl
@[simp] theorem tsz185 : tsz Tryd.prog 185 = some 0 := by kernel_rfl
@[simp] theorem trow185 : trow Tryd.prog 185 = some true := by kernel_rfl
@[simp] theorem tel185 : tel Tryd.prog 185 = none := by kernel_rfl
@[simp] theorem tarr185 : tarr Tryd.prog 185 = none := by kernel_rfl
@[simp] theorem tifc185 : tifc Tryd.prog 185 = some false := by kernel_rfl
@[simp] theorem pzero185 : pzero Tryd.prog 185 = some (.agg []) := by kernel_rfl
@[simp] theorem tpl185 : tpl Tryd.prog 185 = some [(0, 0)] := by kernel_rfl
@[simp] theorem tbytes185 : tbytes Tryd.prog 185 = some 0 := by kernel_rfl
@[simp] theorem tzero185 : tzero Tryd.prog 185 = some [] := by kernel_rfl
@[simp] theorem tsz186 : tsz Tryd.prog 186 = some 0 := by kernel_rfl
@[simp] theorem trow186 : trow Tryd.prog 186 = some true := by kernel_rfl
@[simp] theorem tel186 : tel Tryd.prog 186 = none := by kernel_rfl
@[simp] theorem tarr186 : tarr Tryd.prog 186 = none := by kernel_rfl
@[simp] theorem tifc186 : tifc Tryd.prog 186 = some false := by kernel_rfl
@[simp] theorem pzero186 : pzero Tryd.prog 186 = some (.agg []) := by kernel_rfl
@[simp] theorem tpl186 : tpl Tryd.prog 186 = some [(0, 0)] := by kernel_rfl
@[simp] theorem tbytes186 : tbytes Tryd.prog 186 = some 0 := by kernel_rfl
@[simp] theorem tzero186 : tzero Tryd.prog 186 = some [] := by kernel_rfl
@[simp] theorem tsz187 : tsz Tryd.prog 187 = some 1 := by kernel_rfl
@[simp] theorem trow187 : trow Tryd.prog 187 = some false := by kernel_rfl
@[simp] theorem tel187 : tel Tryd.prog 187 = none := by kernel_rfl
@[simp] theorem tarr187 : tarr Tryd.prog 187 = none := by kernel_rfl
@[simp] theorem tifc187 : tifc Tryd.prog 187 = some false := by kernel_rfl
@[simp] theorem pzero187 : pzero Tryd.prog 187 = some (.v (.int .u8 0)) := by kernel_rfl
@[simp] theorem tint187 : tint Tryd.prog 187 = some .u8 := by kernel_rfl
@[simp] theorem tbytes187 : tbytes Tryd.prog 187 = some 1 := by kernel_rfl
@[simp] theorem tzero187 : tzero Tryd.prog 187 = some [.v (.int .u8 0)] := by kernel_rfl
@[simp] theorem tsz188 : tsz Tryd.prog 188 = some 1 := by kernel_rfl
@[simp] theorem trow188 : trow Tryd.prog 188 = some false := by kernel_rfl
@[simp] theorem tel188 : tel Tryd.prog 188 = none := by kernel_rfl
@[simp] theorem tarr188 : tarr Tryd.prog 188 = none := by kernel_rfl
@[simp] theorem tifc188 : tifc Tryd.prog 188 = some false := by kernel_rfl
@[simp] theorem pzero188 : pzero Tryd.prog 188 = some (.v (.int .u8 0)) := by kernel_rfl
@[simp] theorem tint188 : tint Tryd.prog 188 = some .u8 := by kernel_rfl
@[simp] theorem tbytes188 : tbytes Tryd.prog 188 = some 1 := by kernel_rfl
@[simp] theorem tzero188 : tzero Tryd.prog 188 = some [.v (.int .u8 0)] := by kernel_rfl
@[simp] theorem tsz189 : tsz Tryd.prog 189 = some 1 := by kernel_rfl
@[simp] theorem trow189 : trow Tryd.prog 189 = some false := by kernel_rfl
@[simp] theorem tel189 : tel Tryd.prog 189 = none := by kernel_rfl
@[simp] theorem tarr189 : tarr Tryd.prog 189 = none := by kernel_rfl
@[simp] theorem tifc189 : tifc Tryd.prog 189 = some false := by kernel_rfl
@[simp] theorem pzero189 : pzero Tryd.prog 189 = some (.v (.nilFunc)) := by kernel_rfl
@[simp] theorem tbytes189 : tbytes Tryd.prog 189 = some 8 := by kernel_rfl
@[simp] theorem tzero189 : tzero Tryd.prog 189 = some [.v (.nilFunc)] := by kernel_rfl
@[simp] theorem tsz190 : tsz Tryd.prog 190 = some 1 := by kernel_rfl
@[simp] theorem trow190 : trow Tryd.prog 190 = some false := by kernel_rfl
@[simp] theorem tel190 : tel Tryd.prog 190 = none := by kernel_rfl
@[simp] theorem tarr190 : tarr Tryd.prog 190 = none := by kernel_rfl
@[simp] theorem tifc190 : tifc Tryd.prog 190 = some false := by kernel_rfl
@[simp] theorem pzero190 : pzero Tryd.prog 190 = some (.v (.int .i32 0)) := by kernel_rfl
@[simp] theorem tint190 : tint Tryd.prog 190 = some .i32 := by kernel_rfl
@[simp] theorem tbytes190 : tbytes Tryd.prog 190 = some 4 := by kernel_rfl
@[simp] theorem tzero190 : tzero Tryd.prog 190 = some [.v (.int .i32 0)] := by kernel_rfl
@[simp] theorem tsz191 : tsz Tryd.prog 191 = some 1 := by kernel_rfl
@[simp] theorem trow191 : trow Tryd.prog 191 = some false := by kernel_rfl
@[simp] theorem tel191 : tel Tryd.prog 191 = none := by kernel_rfl
@[simp] theorem tarr191 : tarr Tryd.prog 191 = none := by kernel_rfl
@[simp] theorem tifc191 : tifc Tryd.prog 191 = some false := by kernel_rfl
@[simp] theorem pzero191 : pzero Tryd.prog 191 = some (.v (.int .i32 0)) := by kernel_rfl
@[simp] theorem tint191 : tint Tryd.prog 191 = some .i32 := by kernel_rfl
@[simp] theorem tbytes191 : tbytes Tryd.prog 191 = some 4 := by kernel_rfl
@[simp] theorem tzero191 : tzero Tryd.prog 191 = some [.v (.int .i32 0)] := by kernel_rfl
@[simp] theorem tsz192 : tsz Tryd.prog 192 = some 11 := by kernel_rfl
@[simp] theorem trow192 : trow Tryd.prog 192 = some true := by kernel_rfl
@[simp] theorem tel192 : tel Tryd.prog 192 = none := by kernel_rfl
@[simp] theorem tarr192 : tarr Tryd.prog 192 = none := by kernel_rfl
@[simp] theorem tifc192 : tifc Tryd.prog 192 = some false := by kernel_rfl
@[simp] theorem pzero192 : pzero Tryd.prog 192 = some (.agg [.v (.int .u64 0), .v (.int .u64 0), .v (.int .u32 0), .v (.int .u8 0), .v (.int .u8 0), .v (.int .u8 0), .v (.int .u8 0), .v (.nilFunc), .v (.pointer none), .v (.int .i32 0), .v (.int .i32 0)]) := by kernel_rfl
@[simp] theorem tfld192x0 : tfld Tryd.prog 192 0 = some (0, 12) := by kernel_rfl
@[simp] theorem tfld192x1 : tfld Tryd.prog 192 1 = some (1, 12) := by kernel_rfl
@[simp] theorem tfld192x2 : tfld Tryd.prog 192 2 = some (2, 175) := by kernel_rfl
@[simp] theorem tfld192x3 : tfld Tryd.prog 192 3 = some (3, 187) := by kernel_rfl
@[simp] theorem tfld192x4 : tfld Tryd.prog 192 4 = some (4, 5) := by kernel_rfl
@[simp] theorem tfld192x5 : tfld Tryd.prog 192 5 = some (5, 5) := by kernel_rfl
@[simp] theorem tfld192x6 : tfld Tryd.prog 192 6 = some (6, 188) := by kernel_rfl
@[simp] theorem tfld192x7 : tfld Tryd.prog 192 7 = some (7, 189) := by kernel_rfl
@[simp] theorem tfld192x8 : tfld Tryd.prog 192 8 = some (8, 150) := by kernel_rfl
@[simp] theorem tfld192x9 : tfld Tryd.prog 192 9 = some (9, 190) := by kernel_rfl
@[simp] theorem tfld192x10 : tfld Tryd.prog 192 10 = some (10, 191) := by kernel_rfl
@[simp] theorem tpl192 : tpl Tryd.prog 192 = some [(0, 1), (1, 1), (2, 1), (3, 1), (4, 1), (5, 1), (6, 1), (7, 1), (8, 1), (9, 1), (10, 1)] := by kernel_rfl
@[simp] theorem tbytes192 : tbytes Tryd.prog 192 = some 48 := by kernel_rfl
@[simp] theorem tzero192 : tzero Tryd.prog 192 = some [.v (.int .u64 0), .v (.int .u64 0), .v (.int .u32 0), .v (.int .u8 0), .v (.int .u8 0), .v (.int .u8 0), .v (.int .u8 0), .v (.nilFunc), .v (.pointer none), .v (.int .i32 0), .v (.int .i32 0)] := by kernel_rfl
@[simp] theorem tsz193 : tsz Tryd.prog 193 = some 11 := by kernel_rfl
@[simp] theorem trow193 : trow Tryd.prog 193 = some true := by kernel_rfl
@[simp] theorem tel193 : tel Tryd.prog 193 = none := by kernel_rfl
@[simp] theorem tarr193 : tarr Tryd.prog 193 = none := by kernel_rfl
@[simp] theorem tifc193 : tifc Tryd.prog 193 = some false := by kernel_rfl
@[simp] theorem pzero193 : pzero Tryd.prog 193 = some (.agg [.v (.int .u64 0), .v (.int .u64 0), .v (.int .u32 0), .v (.int .u8 0), .v (.int .u8 0), .v (.int .u8 0), .v (.int .u8 0), .v (.nilFunc), .v (.pointer none), .v (.int .i32 0), .v (.int .i32 0)]) := by kernel_rfl
@[simp] theorem tfld193x0 : tfld Tryd.prog 193 0 = some (0, 12) := by kernel_rfl
@[simp] theorem tfld193x1 : tfld Tryd.prog 193 1 = some (1, 12) := by kernel_rfl
@[simp] theorem tfld193x2 : tfld Tryd.prog 193 2 = some (2, 175) := by kernel_rfl
@[simp] theorem tfld193x3 : tfld Tryd.prog 193 3 = some (3, 187) := by kernel_rfl
@[simp] theorem tfld193x4 : tfld Tryd.prog 193 4 = some (4, 5) := by kernel_rfl
@[simp] theorem tfld193x5 : tfld Tryd.prog 193 5 = some (5, 5) := by kernel_rfl
@[simp] theorem tfld193x6 : tfld Tryd.prog 193 6 = some (6, 188) := by kernel_rfl
@[simp] theorem tfld193x7 : tfld Tryd.prog 193 7 = some (7, 189) := by kernel_rfl
@[simp] theorem tfld193x8 : tfld Tryd.prog 193 8 = some (8, 150) := by kernel_rfl
@[simp] theorem tfld193x9 : tfld Tryd.prog 193 9 = some (9, 190) := by kernel_rfl
@[simp] theorem tfld193x10 : tfld Tryd.prog 193 10 = some (10, 191) := by kernel_rfl
@[simp] theorem tpl193 : tpl Tryd.prog 193 = some [(0, 1), (1, 1), (2, 1), (3, 1), (4, 1), (5, 1), (6, 1), (7, 1), (8, 1), (9, 1), (10, 1)] := by kernel_rfl
@[simp] theorem tbytes193 : tbytes Tryd.prog 193 = some 48 := by kernel_rfl
@[simp] theorem tzero193 : tzero Tryd.prog 193 = some [.v (.int .u64 0), .v (.int .u64 0), .v (.int .u32 0), .v (.int .u8 0), .v (.int .u8 0), .v (.int .u8 0), .v (.int .u8 0), .v (.nilFunc), .v (.pointer none), .v (.int .i32 0), .v (.int .i32 0)] := by kernel_rfl
end Go.Qg

namespace Go.Qg
open Go.RowKit (Below)
section
variable {P : Program} {N : Nat} {B : Base} {w w' : World} {R R' : Nat → Nat → Prop} {Γ Γ' : Nat → Option Loc} {a : Act} {fr fr' : PF}
structure Appended (w w' : World) (base : Nat) (e : TypeId) (size n m : Nat) (v v' : Value) (xs news : List Value) : Prop where
  own : w'.ownsRow base e size v' (n + m) (xs ++ news)
  grown : w.grownBy w' v.ownBlock
  old : ∀ g, v.ownBlock = some g → ∀ o, o < n * size → w'.cell? ⟨g, o, none⟩ = w.cell? ⟨g, o, none⟩
  from_ : ∀ g, v'.ownBlock = some g → v.ownBlock = some g ∨ w.heap.size ≤ g
theorem run_append_tip (base : Nat) (t ty e : TypeId) (i : TypeInfo) (z : Value) (size bytes : Nat) (ht : P.underlying t = some (.slice e)) (hi : P.info? e = some i) (hz : i.zero = some z)
    (hsize : i.size = size) (hby : i.bytes = bytes) (hzs : z.cells.size = size) (hsz : 0 < size)
    (v : Value) (n : Nat) (xs : List Value) (hown : w.ownsRow base e size v n xs)
    (ad : Addr) (m c : Nat) (news : List Value) (hl : news.length = m * size) (hnews : ∀ j u, news[j]? = some u → w.cell? (ad.add j) = some u) (h1 : ∀ u ∈ news, u.oneCell' = true)
    (h63 : n + m ≤ maxLen) (hbytes : (n + m) * bytes ≤ 140737488355328) (hbase : base ≤ w.heap.size) :
    ∃ v' w', (Builtin.append_ #[t, t] ty #[v, .slice (some ad) m c]).run P w = .ok v' w' ∧ Appended w w' base e size n m v v' xs news := by
  obtain ⟨v', w', hr, h2, h3, h4⟩ := run_append_own (P := P) w base t ty e i z size bytes ht hi hz hsize hby hzs hsz v n xs hown ad m c news hl hnews h1 h63 hbytes hbase
  refine ⟨v', w', hr, h2, h3, ?_, ?_⟩
  · intro g hg o ho
    subst hsize
    rcases hown.2 with ⟨rfl, _⟩ | ⟨g', cap, cur, rfl, hbg, hgg, hnc, hcm, hcs, htake⟩
    · cases hg
    · obtain rfl : g' = g := by simpa [Value.ownBlock] using hg
      by_cases hroom : n + m ≤ cap
      · have hfit : n * i.size + news.length ≤ cur.size := by rw [hl, hcs, ← Nat.add_mul]; exact Nat.mul_le_mul_right _ hroom
        have hr2 := run_append_room (P := P) w t ty e i ht hi g' n cap cur hgg ad m c news hl hnews h1 hroom hfit
        rw [hr] at hr2
        simp only [Result.ok.injEq] at hr2
        rw [hr2.2, cell_setRow_same w g' o cur _ e _ hgg, cell_of_row w g' o cur e (0, 0) hgg]
        have hlt : o < cur.size := by omega
        rw [List.getElem?_toArray, List.append_assoc, List.getElem?_append_left (by simp; omega), List.getElem?_take_of_lt ho, Array.getElem?_toList]
      · have hold := hown.cells (g := g') rfl
        have hr2 := run_append_grow (P := P) w t ty e i z ht hi hz ⟨g', 0, none⟩ n cap xs hown.1 hold ad m c news hl hnews (by omega) (by simp only [maxLen] at h63; omega) (growslice_fits (by omega) (by rw [hby]; exact hbytes))
        rw [hr] at hr2
        simp only [Result.ok.injEq] at hr2
        rw [hr2.2]
        exact cell?_of_heap (Below.heap_alloc w.drew _ g' (Array.getElem?_eq_some_iff.1 hgg).1)
  · intro g hg
    by_cases hgs : w.heap.size ≤ g
    · exact .inr hgs
    · refine .inl ?_
      subst hsize
      rcases hown.2 with ⟨rfl, rfl⟩ | ⟨g', cap, cur, rfl, hbg, hgg, hnc, hcm, hcs, htake⟩
      · by_cases hm : m = 0
        · have := h4.2 ⟨rfl, hm⟩; subst this; exact hg
        · have hr2 := run_append_nil (P := P) w t ty e i z ht hi hz ad m c news hl hnews (by omega) (by simp only [maxLen] at h63; omega) (by rw [hby]; simp only [Nat.zero_add] at hbytes; omega)
          rw [hr] at hr2
          simp only [Result.ok.injEq] at hr2
          rw [hr2.1] at hg
          simp [Value.ownBlock] at hg
          omega
      · by_cases hroom : n + m ≤ cap
        · have hfit : n * i.size + news.length ≤ cur.size := by rw [hl, hcs, ← Nat.add_mul]; exact Nat.mul_le_mul_right _ hroom
          have hr2 := run_append_room (P := P) w t ty e i ht hi g' n cap cur hgg ad m c news hl hnews h1 hroom hfit
          rw [hr] at hr2
          simp only [Result.ok.injEq] at hr2
          rw [hr2.1] at hg
          exact hg
        · have hold := hown.cells (g := g') rfl
          have hr2 := run_append_grow (P := P) w t ty e i z ht hi hz ⟨g', 0, none⟩ n cap xs hown.1 hold ad m c news hl hnews (by omega) (by simp only [maxLen] at h63; omega) (growslice_fits (by omega) (by rw [hby]; exact hbytes))
          rw [hr] at hr2
          simp only [Result.ok.injEq] at hr2
          rw [hr2.1] at hg
          simp [Value.ownBlock] at hg
          omega
theorem run_append_nothing (base : Nat) (t ty e : TypeId) (i : TypeInfo) (size : Nat) (ht : P.underlying t = some (.slice e)) (hi : P.info? e = some i)
    (v : Value) (n : Nat) (xs : List Value) (hown : w.ownsRow base e size v n xs) (c : Nat) :
    (Builtin.append_ #[t, t] ty #[v, .slice none 0 c]).run P w = .ok v w := by
  rcases hown.2 with ⟨rfl, rfl⟩ | ⟨g, cap, cur, rfl, hbg, hg, hnc, hcm, hcs, htake⟩
  · simp [Builtin.append_, run_underlying ht, sizeOf, typeInfo, hi, Builtin.lenOf, Builtin.firstCells]
  · simp [Builtin.append_, run_underlying ht, sizeOf, typeInfo, hi, Builtin.lenOf, Builtin.firstCells, hnc, storeCells]
structure RowsAt (w : World) (R : Nat → Nat → Prop) (Γ : Nat → Option Loc) (sz : Nat) (rs : List (List PV)) (ad : Addr) (us : Nat → Value) : Prop where
  cell : ∀ j, j < rs.length * sz → w.cell? (ad.add j) = some (us j)
  rep : ∀ (i j : Nat) (r : List PV) (p : PV), rs[i]? = some r → r[j]? = some p → Rep w R Γ (us (i * sz + j)) p
def RowsOf (w : World) (R : Nat → Nat → Prop) (Γ : Nat → Option Loc) (sz : Nat) (rs : List (List PV)) (u : Value) : Prop :=
  (∀ r ∈ rs, r.length = sz ∧ ∀ p ∈ r, p.one = true) ∧ ∃ A c, u = .slice A rs.length c ∧ ((rs = [] ∧ A = none) ∨ ∃ ad us, A = some ad ∧ RowsAt w R Γ sz rs ad us)
theorem Sim.rows (h : Sim N B R Γ a w fr) {u : Value} {x : PV} {sz : Nat} {rs : List (List PV)} (hv : Rep w R Γ u x) (hy : prows fr x = some (sz, rs)) : RowsOf w R Γ sz rs u := by
  unfold prows at hy
  split at hy
  · rename_i i ep off n c
    split at hy
    case h_2 => cases hy
    rename_i sz' rs' hown
    obtain ⟨hg, hy⟩ := guard_some hy
    simp only [Option.some.injEq, Prod.mk.injEq] at hy
    obtain ⟨rfl, rfl⟩ := hy
    obtain ⟨l, hΓ, ho, hsz⟩ := h.ownAt hv hown
    obtain ⟨l2, f, e, hΓ2, hfr, _⟩ := h.pown hown
    obtain ⟨l3, hΓ3, _, hrow, _, hl⟩ := h.slot i _ hfr
    rw [hΓ] at hΓ3
    simp only [Option.some.injEq, Loc.rows.injEq, true_and] at hΓ3
    subst hΓ3
    have hlen : ((rs'.drop off).take n).length = n := by simp; omega
    refine ⟨fun r hr => hrow r (List.mem_of_mem_drop (List.mem_of_mem_take hr)), ?_⟩
    rw [hlen]
    cases l with
    | none =>
      obtain ⟨rfl, rfl, _⟩ := ho
      exact ⟨none, 0, rfl, .inl ⟨by simp, rfl⟩⟩
    | some bc =>
      obtain ⟨b, cap⟩ := bc
      obtain ⟨rfl, ho2⟩ := ho
      obtain ⟨vs, g1, g2, g3, g4, g5⟩ := hl
      refine ⟨_, _, rfl, .inr ⟨_, fun j => vs.getD (off * sz' + j) undef, rfl, fun j hj => ?_, fun i j r p hr hp => ?_⟩⟩
      · rw [hlen] at hj
        have hlt : off * sz' + j < vs.size := by
          have : (off + n) * sz' ≤ cap * sz' := Nat.mul_le_mul_right _ ho2
          rw [Nat.add_mul] at this; omega
        rw [Addr.add_mid]
        simp [World.cell?, g1, hlt]
      · have hi : i < n := by have := lt_of_get? hr; omega
        rw [List.getElem?_take, if_pos hi, List.getElem?_drop] at hr
        have hrl := (hrow r (List.mem_of_getElem? hr)).1
        have hj := lt_of_get? hp
        have hlt : off * sz' + (i * sz' + j) < vs.size := by
          have : (off + i + 1) * sz' ≤ cap * sz' := Nat.mul_le_mul_right _ (by omega)
          rw [Nat.add_mul, Nat.add_mul] at this; omega
        refine g5 (off + i) j r p _ hr hp ?_
        rw [show (off + i) * sz' + j = off * sz' + (i * sz' + j) from by rw [Nat.add_mul]; omega]
        simp [hlt]
  · rename_i sz' n f
    split at hy
    case isFalse => cases hy
    rename_i hs0
    simp only [Option.some.injEq, Prod.mk.injEq] at hy
    obtain ⟨rfl, rfl⟩ := hy
    cases hv with
    | sl A _ c _ _ us h1 h2 h3 h4 h5 h6 =>
    have hget : ∀ i r, ((List.range n).map f)[i]? = some r → i < n ∧ r = f i := fun i r hr => by
      have hi : i < n := by have := lt_of_get? hr; simpa using this
      rw [List.getElem?_map, List.getElem?_range hi] at hr
      exact ⟨hi, (Option.some.inj hr).symm⟩
    refine ⟨fun r hr => ?_, A, c, by simp, ?_⟩
    · obtain ⟨i, hi⟩ := List.mem_iff_getElem?.1 hr
      obtain ⟨hi', rfl⟩ := hget i r hi
      exact ⟨h3 i hi', fun p hp => by obtain ⟨j, hj⟩ := List.mem_iff_getElem?.1 hp; exact (h4 i j p hi' hj).1⟩
    · cases A with
      | none =>
        left
        refine ⟨?_, rfl⟩
        by_cases hn : n = 0
        · subst hn; rfl
        · obtain ⟨b, o, hA, _⟩ := h5 0 0 (by omega) (by omega)
          cases hA
      | some ad =>
        right
        refine ⟨ad, fun j => us (j / sz') (j % sz'), rfl, fun j hj => ?_, fun i j r p hr hp => ?_⟩
        · simp only [List.length_map, List.length_range] at hj
          have hq : j / sz' < n := (Nat.div_lt_iff_lt_mul hs0).2 hj
          obtain ⟨b, o, hA, _, hcl⟩ := h5 (j / sz') (j % sz') hq (Nat.mod_lt _ hs0)
          obtain rfl := Option.some.inj hA
          rw [Addr.add_mid]
          rw [show j / sz' * sz' + j % sz' = j from by rw [Nat.mul_comm]; exact Nat.div_add_mod j sz'] at hcl
          exact hcl
        · obtain ⟨hi, rfl⟩ := hget i r hr
          have hj : j < sz' := by have := lt_of_get? hp; rw [h3 i hi] at this; exact this
          have e1 : (i * sz' + j) / sz' = i := by rw [Nat.mul_comm, Nat.mul_add_div (by omega), Nat.div_eq_of_lt hj, Nat.add_zero]
          have e2 : (i * sz' + j) % sz' = j := by rw [Nat.mul_comm, Nat.mul_add_mod, Nat.mod_eq_of_lt hj]
          show Rep w R Γ (us ((i * sz' + j) / sz') ((i * sz' + j) % sz')) p
          rw [e1, e2]
          exact h6 i j p hi hp
  · simp only [Option.some.injEq, Prod.mk.injEq] at hy
    obtain ⟨rfl, rfl⟩ := hy
    cases hv with
    | nil => exact ⟨fun r hr => (by cases hr), none, 0, rfl, .inl ⟨rfl, rfl⟩⟩
  · cases hy
theorem append_rows {t e : TypeId} {sz bytes zl : Nat} (ht : tel P t = some e) (hs : tsz P e = some sz) (hb : tbytes P e = some bytes) (hz : (tzero P e).map (·.length) = some zl) (hzl : zl = sz) (hsz : 0 < sz)
    {v : Value} {rs : List (List PV)} {xs : List Value} (hown : w.ownsRow 0 e sz v rs.length xs) (hrs : ∀ r ∈ rs, r.length = sz ∧ ∀ p ∈ r, p.one = true)
    (hrep : ∀ (i j : Nat) (r : List PV) (p : PV) (x : Value), rs[i]? = some r → r[j]? = some p → xs[i * sz + j]? = some x → Rep w R Γ x p)
    {y : Value} {news : List (List PV)} (hy : RowsOf w R Γ sz news y) (hlim : (rs.length + news.length) * bytes ≤ 140737488355328 ∧ rs.length + news.length ≤ maxLen) (ty : TypeId) :
    ∃ v' w' l', (Builtin.append_ #[t, t] ty #[v, y]).run P w = .ok v' w' ∧ w.grownBy w' v.ownBlock ∧ (l' = none → v' = .slice none 0 0 ∧ rs ++ news = []) ∧
      ∀ b cap, l' = some (b, cap) → v' = .slice (some ⟨b, 0, none⟩) (rs.length + news.length) cap ∧ (v.ownBlock = some b ∨ (w.heap.size ≤ b ∧ b < w'.heap.size)) ∧
        ∃ vs : Array Value, w'.heap[b]? = some (.cells vs e (0, 0)) ∧ (rs ++ news).length ≤ cap ∧ cap ≤ maxLen ∧ vs.size = cap * sz ∧
          ∀ (i j : Nat) (r : List PV) (p : PV) (x : Value), (rs ++ news)[i]? = some r → r[j]? = some p → vs[i * sz + j]? = some x → Rep w R Γ x p := by
  obtain ⟨i, hi, hi1, hi2⟩ : ∃ i, P.info? e = some i ∧ i.size = sz ∧ i.bytes = bytes := by
    unfold tsz at hs; unfold tbytes at hb
    cases hq : P.info? e with
    | none => simp [hq] at hs
    | some i => rw [hq] at hs hb; exact ⟨i, rfl, by simpa using hs, by simpa using hb⟩
  obtain ⟨hnews, A, c, rfl, hy⟩ := hy
  have fin : ∀ {v' : Value} {w' : World} {xs' : List Value}, w'.ownsRow 0 e sz v' (rs.length + news.length) (xs ++ xs') → xs'.length = news.length * sz →
      (∀ (i j : Nat) (r : List PV) (p : PV) (x : Value), news[i]? = some r → r[j]? = some p → xs'[i * sz + j]? = some x → Rep w R Γ x p) → (∀ g, v'.ownBlock = some g → v.ownBlock = some g ∨ w.heap.size ≤ g) →
      ∃ l' : Option (Nat × Nat), (l' = none → v' = .slice none 0 0 ∧ rs ++ news = []) ∧
      ∀ b cap, l' = some (b, cap) → v' = .slice (some ⟨b, 0, none⟩) (rs.length + news.length) cap ∧ (v.ownBlock = some b ∨ (w.heap.size ≤ b ∧ b < w'.heap.size)) ∧
        ∃ vs : Array Value, w'.heap[b]? = some (.cells vs e (0, 0)) ∧ (rs ++ news).length ≤ cap ∧ cap ≤ maxLen ∧ vs.size = cap * sz ∧
          ∀ (i j : Nat) (r : List PV) (p : PV) (x : Value), (rs ++ news)[i]? = some r → r[j]? = some p → vs[i * sz + j]? = some x → Rep w R Γ x p := by
    intro v' w' xs' ho hx' hrep' hfrom
    rcases ho.2 with ⟨rfl, hn⟩ | ⟨g, cap, cur, rfl, _, hg, hnc, hcm, hcs, htake⟩
    · refine ⟨none, fun _ => ⟨rfl, List.eq_nil_of_length_eq_zero (by simpa using hn)⟩, fun b cap hb => by cases hb⟩
    · refine ⟨some (g, cap), fun hq => (by cases hq), fun b cap' hb => ?_⟩
      simp only [Option.some.injEq, Prod.mk.injEq] at hb
      obtain ⟨rfl, rfl⟩ := hb
      refine ⟨rfl, (hfrom g rfl).elim Or.inl fun hh => Or.inr ⟨hh, (Array.getElem?_eq_some_iff.1 hg).1⟩, cur, hg, by simpa using hnc, hcm, hcs, fun i j r p x hr hp hx => ?_⟩
      have hxs : xs.length = rs.length * sz := hown.1
      have hj : j < sz := by
        have := lt_of_get? hp
        rcases List.mem_append.1 (List.mem_of_getElem? hr) with hm | hm
        · rw [(hrs r hm).1] at this; exact this
        · rw [(hnews r hm).1] at this; exact this
      have hil := lt_of_get? hr
      have hin : i * sz + j < (rs.length + news.length) * sz := by
        have : (i + 1) * sz ≤ (rs.length + news.length) * sz := Nat.mul_le_mul_right _ (by rw [List.length_append] at hil; omega)
        rw [Nat.add_mul] at this; omega
      have hx2 : (xs ++ xs')[i * sz + j]? = some x := by
        rw [← htake, List.getElem?_take_of_lt hin]; simpa using hx
      by_cases hk : i < rs.length
      · rw [List.getElem?_append_left hk] at hr
        have hlt : i * sz + j < xs.length := by
          rw [hxs]
          have : (i + 1) * sz ≤ rs.length * sz := Nat.mul_le_mul_right _ hk
          rw [Nat.add_mul] at this; omega
        rw [List.getElem?_append_left hlt] at hx2
        exact hrep i j r p x hr hp hx2
      · rw [List.getElem?_append_right (by omega)] at hr
        have hge : xs.length ≤ i * sz + j := by
          rw [hxs]
          have : rs.length * sz ≤ i * sz := Nat.mul_le_mul_right _ (by omega)
          omega
        rw [List.getElem?_append_right hge] at hx2
        have hidx : i * sz + j - xs.length = (i - rs.length) * sz + j := by
          rw [hxs, Nat.sub_mul]
          have : rs.length * sz ≤ i * sz := Nat.mul_le_mul_right _ (by omega)
          omega
        rw [hidx] at hx2
        exact hrep' _ j r p x hr hp hx2
  rcases hy with ⟨rfl, rfl⟩ | ⟨ad, us, rfl, hcell, hrepn⟩
  · obtain ⟨l', f1, f2⟩ := fin (v' := v) (w' := w) (xs' := []) (by simpa using hown) (by simp) (fun i j r p x hr => by simp at hr) (fun g hg => .inl hg)
    exact ⟨v, w, l', run_append_nothing 0 t ty e i sz (tel_some ht) hi v rs.length xs hown c, ⟨rfl, rfl, rfl, Nat.le_refl _, fun _ _ _ => rfl⟩, f1, f2⟩
  · obtain ⟨z, hz'⟩ : ∃ z, tzero P e = some z := by cases hq : tzero P e with | none => simp [hq] at hz | some z => exact ⟨z, rfl⟩
    have hzl' : z.length = sz := by rw [hz'] at hz; simp at hz; omega
    obtain ⟨zv, _, hzv, hzs, _⟩ := tzero_run hz'
    rw [hi] at hzv
    have hval : ∀ j u, ((List.range (news.length * sz)).map us)[j]? = some u → j < news.length * sz ∧ u = us j := fun j u hu => by
      have hj : j < news.length * sz := by have := lt_of_get? hu; simpa using this
      rw [List.getElem?_map, List.getElem?_range hj] at hu
      exact ⟨hj, (Option.some.inj hu).symm⟩
    obtain ⟨v', w', hr, hap⟩ := run_append_tip (P := P) (w := w) 0 t ty e i zv sz bytes (tel_some ht) hi (by simpa using hzv) hi1 hi2 (by omega) hsz v rs.length xs hown ad news.length c
      ((List.range (news.length * sz)).map us) (by simp) (fun j u hu => by obtain ⟨hj, rfl⟩ := hval j u hu; exact hcell j hj) (fun u hu => by
        obtain ⟨j, hj⟩ := List.mem_iff_getElem?.1 hu
        obtain ⟨hj', rfl⟩ := hval j u hj
        have hq : j / sz < news.length := (Nat.div_lt_iff_lt_mul hsz).2 hj'
        have hg : news[j / sz]? = some (news[j / sz]) := List.getElem?_eq_getElem hq
        obtain ⟨hl, hone⟩ := hnews _ (List.mem_of_getElem? hg)
        have hm : j % sz < (news[j / sz]).length := by rw [hl]; exact Nat.mod_lt _ hsz
        have hp : (news[j / sz])[j % sz]? = some ((news[j / sz])[j % sz]) := List.getElem?_eq_getElem hm
        have := hrepn _ _ _ _ hg hp
        rw [show j / sz * sz + j % sz = j from by rw [Nat.mul_comm]; exact Nat.div_add_mod j sz] at this
        exact this.oneCell (hone _ (List.mem_of_getElem? hp))) hlim.2 hlim.1 (Nat.zero_le _)
    obtain ⟨l', f1, f2⟩ := fin hap.own (by simp) (fun k j r p x hr hp hx => by obtain ⟨_, rfl⟩ := hval _ _ hx; exact hrepn k j r p hr hp) hap.from_
    exact ⟨v', w', l', hr, hap.grown, f1, f2⟩
theorem append_capped {t e : TypeId} {sz bytes zl : Nat} (ht : tel P t = some e) (hs : tsz P e = some sz) (hb : tbytes P e = some bytes) (hz : (tzero P e).map (·.length) = some zl) (hzl : zl = sz) (hsz : 0 < sz)
    {olds news : List (List PV)} {A : Option Addr} (hx : RowsOf w R Γ sz olds (.slice A olds.length olds.length)) {y : Value} (hy : RowsOf w R Γ sz news y) (hne : news ≠ [])
    (hlim : (olds.length + news.length) * bytes ≤ 140737488355328 ∧ olds.length + news.length ≤ maxLen) (ty : TypeId) :
    ∃ v' w' l', (Builtin.append_ #[t, t] ty #[.slice A olds.length olds.length, y]).run P w = .ok v' w' ∧ w.grownBy w' none ∧ (l' = none → v' = .slice none 0 0 ∧ olds ++ news = []) ∧
      ∀ b cap, l' = some (b, cap) → v' = .slice (some ⟨b, 0, none⟩) (olds ++ news).length cap ∧ (w.heap.size ≤ b ∧ b < w'.heap.size) ∧
        ∃ vs : Array Value, w'.heap[b]? = some (.cells vs e (0, 0)) ∧ (olds ++ news).length ≤ cap ∧ cap ≤ maxLen ∧ vs.size = cap * sz ∧
          ∀ (i j : Nat) (r : List PV) (p : PV) (x : Value), (olds ++ news)[i]? = some r → r[j]? = some p → vs[i * sz + j]? = some x → Rep w R Γ x p := by
  obtain ⟨hxr, A', c', hxe, hxx⟩ := hx
  simp only [Value.slice.injEq] at hxe
  obtain ⟨rfl, -, -⟩ := hxe
  rcases hxx with ⟨rfl, rfl⟩ | ⟨ad, us, rfl, hxc, hxrep⟩
  · obtain ⟨v', w', l', h1, h2, h3, h4⟩ := append_rows (P := P) (w := w) (R := R) (Γ := Γ) (rs := []) (xs := []) ht hs hb hz hzl hsz (World.ownsRow_nil w 0 e sz) (fun r hr => by cases hr) (fun i j r p x hr => by simp at hr) hy (by simpa using hlim) ty
    refine ⟨v', w', l', h1, h2, h3, fun b cap hb => ?_⟩
    obtain ⟨g1, g2, g3⟩ := h4 b cap hb
    refine ⟨by simpa using g1, ?_, g3⟩
    rcases g2 with g2 | g2
    · cases g2
    · exact g2
  · obtain ⟨info, hi, hi1, hi2⟩ : ∃ i, P.info? e = some i ∧ i.size = sz ∧ i.bytes = bytes := by
      unfold tsz at hs; unfold tbytes at hb
      cases hq : P.info? e with
      | none => simp [hq] at hs
      | some i => rw [hq] at hs hb; exact ⟨i, rfl, by simpa using hs, by simpa using hb⟩
    obtain ⟨z, hz'⟩ : ∃ z, tzero P e = some z := by cases hq : tzero P e with | none => simp [hq] at hz | some z => exact ⟨z, rfl⟩
    have hzl' : z.length = sz := by rw [hz'] at hz; simp at hz; omega
    obtain ⟨zv, _, hzv, hzs, _⟩ := tzero_run hz'
    rw [hi] at hzv
    obtain ⟨hnews, A, c, rfl, hyy⟩ := hy
    rcases hyy with ⟨hn, _⟩ | ⟨ad2, us2, rfl, hyc, hyrep⟩
    · exact absurd hn hne
    have hnl : 0 < news.length := by cases news with | nil => exact absurd rfl hne | cons _ _ => simp
    have hval : ∀ (m : Nat) (f : Nat → Value) j u, ((List.range m).map f)[j]? = some u → j < m ∧ u = f j := fun m f j u hu => by
      have hj : j < m := by have := lt_of_get? hu; simpa using this
      rw [List.getElem?_map, List.getElem?_range hj] at hu
      exact ⟨hj, (Option.some.inj hu).symm⟩
    have hr := run_append_grow (P := P) w t ty e info zv (tel_some ht) hi (by simpa using hzv) ad olds.length olds.length ((List.range (olds.length * sz)).map us) (by simp [hi1]) (fun j v hv => by obtain ⟨hj, rfl⟩ := hval _ _ _ _ hv; exact hxc j hj)
      ad2 news.length c ((List.range (news.length * sz)).map us2) (by simp [hi1]) (fun j v hv => by obtain ⟨hj, rfl⟩ := hval _ _ _ _ hv; exact hyc j hj) (by omega) (by have := hlim.2; simp only [maxLen] at this; omega)
      (growslice_fits (by omega) (by rw [hi2]; exact hlim.1))
    refine ⟨_, _, some (w.heap.size, grownCap w (olds.length + news.length) olds.length e), hr, ⟨rfl, rfl, rfl, by simp, fun k hk _ => heap_alloc_old w.drew _ hk⟩, (fun h => by cases h), fun b cap hb => ?_⟩
    simp only [Option.some.injEq, Prod.mk.injEq] at hb
    obtain ⟨rfl, rfl⟩ := hb
    have hge := grownCap_ge w (olds.length + news.length) olds.length e
    have hcm := grownCap_le_maxLen w (olds.length + news.length) olds.length e hlim.2
    refine ⟨by simp, ⟨Nat.le_refl _, by simp⟩, _, heap_alloc_new w.drew _, by simpa using hge, hcm, ?_, fun i j r p x hr hp hx => ?_⟩
    · have hzz : zv.cells.size = sz := by omega
      simp only [Array.size_append, List.size_toArray, size_zeroCells, hzz, List.length_map, List.length_range, ← Nat.add_mul]
      congr 1
      omega
    · have hj : j < sz := by
        have := lt_of_get? hp
        rcases List.mem_append.1 (List.mem_of_getElem? hr) with hm | hm
        · rw [(hxr r hm).1] at this; exact this
        · rw [(hnews r hm).1] at this; exact this
      have hil := lt_of_get? hr
      rw [← Array.getElem?_toList] at hx
      simp only [Array.toList_append, List.append_assoc] at hx
      by_cases hk : i < olds.length
      · have hin : i * sz + j < olds.length * sz := by
          have : (i + 1) * sz ≤ olds.length * sz := Nat.mul_le_mul_right _ hk
          rw [Nat.add_mul] at this; omega
        rw [List.getElem?_append_left hk] at hr
        rw [List.getElem?_append_left (by simpa using hin)] at hx
        obtain ⟨_, rfl⟩ := hval _ _ _ _ hx
        exact hxrep i j r p hr hp
      · rw [List.getElem?_append_right (by omega)] at hr
        have hle : olds.length * sz ≤ i * sz := Nat.mul_le_mul_right _ (by omega)
        have hin : i * sz + j < (olds.length + news.length) * sz := by
          have : (i + 1) * sz ≤ (olds.length + news.length) * sz := Nat.mul_le_mul_right _ (by rw [List.length_append] at hil; omega)
          rw [Nat.add_mul] at this; omega
        have hidx : i * sz + j - olds.length * sz = (i - olds.length) * sz + j := by
          rw [Nat.sub_mul]; omega
        rw [List.getElem?_append_right (by simp; omega)] at hx
        simp only [List.length_map, List.length_range] at hx
        rw [hidx, List.getElem?_append_left (by simp; rw [Nat.add_mul] at hin; omega)] at hx
        obtain ⟨_, rfl⟩ := hval _ _ _ _ hx
        exact hyrep _ j r p hr hp
end
end Go.Qg

namespace Go.Qg
open Go.RowKit (Below)
theorem setRange_length (ps : List PV) : ∀ (cells : List PV) (off : Nat), (setRange cells off ps).length = cells.length := by
  induction ps with
  | nil => intro cells off; rfl
  | cons p ps ih => intro cells off; simp [setRange, ih]
theorem setRange_get (ps : List PV) : ∀ (cells : List PV) (off i : Nat), off + ps.length ≤ cells.length → (setRange cells off ps)[i]? = if off ≤ i ∧ i < off + ps.length then ps[i - off]? else cells[i]? := by
  induction ps with
  | nil => intro cells off i _; simp only [setRange, List.length_nil, Nat.add_zero]; rw [if_neg (by omega)]
  | cons p ps ih =>
    intro cells off i h
    simp only [List.length_cons] at h
    simp only [setRange]
    rw [ih (cells.set off p) (off + 1) i (by simp; omega)]
    by_cases h1 : off + 1 ≤ i ∧ i < off + 1 + ps.length
    · rw [if_pos h1, if_pos (by simp; omega)]
      rw [show i - off = (i - (off + 1)) + 1 from by omega, List.getElem?_cons_succ]
    · rw [if_neg h1]
      by_cases h2 : i = off
      · subst h2
        rw [if_pos (by simp), List.getElem?_set_self (by omega)]
        simp
      · rw [if_neg (by simp; omega), List.getElem?_set_ne (Ne.symm h2)]
def pstore (fr : PF) (p : PV) (cells : List PV) : Option PF :=
  match p with
  | .ref s off => match fr[s]? with
    | some (.box h cs) => if off + cells.length ≤ cs.length then some (fr.set s (.box h (setRange cs off cells))) else none
    | _ => none
  | .elt i ep k f => match fr[i]? with
    | some (.rows h ep' e sz rs) => if ep' = ep then match rs[k]? with
        | some r => if f + cells.length ≤ r.length then some (fr.set i (.rows h ep e sz (rs.set k (setRange r f cells)))) else none
        | none => none
      else none
    | _ => none
  | _ => none
section
variable {P : Program} {N : Nat} {B : Base} {w w' : World} {R R' : Nat → Nat → Prop} {Γ Γ' : Nat → Option Loc} {a : Act} {fr fr' : PF}
theorem give_same {i : Nat} {l : Loc} (h : Γ i = some l) : give i l Γ = Γ := by
  funext s; unfold give; split
  · rename_i e; rw [e, h]
  · rfl
theorem store_block {b off : Nat} {vs : Array Value} {ty t : TypeId} {v : Value} {len : Nat} (hh : w.heap[b]? = some (.cells vs ty (0, 0))) (hsz : tsz P t = some len) (hv : v.cells.size = len) (hone : ∀ x ∈ v.cells.toList, x.oneCell' = true) (hfit : off + len ≤ vs.size) :
    ∃ w' vs', (Instr.storeAt t (.pointer (some ⟨b, off, none⟩)) v).run P w = .ok () w' ∧ w.grownBy w' (some b) ∧ w'.heap[b]? = some (.cells vs' ty (0, 0)) ∧ vs'.size = vs.size ∧ ∀ j, vs'[j]? = if off ≤ j ∧ j < off + len then v.cells[j - off]? else vs[j]? := by
  have hlen : v.cells.toList.length = len := by simpa using hv
  have hst := run_storeCells_at P b off ty v.cells.toList 0 vs w hh (by rw [hlen]; omega) hone
  simp only [Nat.add_zero] at hst
  refine ⟨w.setRow b (vs.toList.take off ++ v.cells.toList ++ vs.toList.drop (off + v.cells.toList.length)).toArray, (vs.toList.take off ++ v.cells.toList ++ vs.toList.drop (off + v.cells.toList.length)).toArray, ?_, ⟨rfl, rfl, rfl, by simp, fun k _ hne => setRow_other w b k _ (fun e => hne (by rw [e]))⟩, setRow_heap w b vs _ ty _ hh, by simp; omega, fun j => ?_⟩
  · simp only [Instr.storeAt, Instr.sureAddr, Sem.run_bind, Sem.run_pure, Result.andThen_ok, storeVar, run_sizeOf hsz, hv, ne_eq, not_true_eq_false, if_false, hst]
  · rw [List.getElem?_toArray]
    split
    · rename_i hin
      rw [List.append_assoc, List.getElem?_append_right (by simp; omega), List.getElem?_append_left (by simp; omega)]
      simp only [List.length_take, Array.length_toList, Array.getElem?_toList]
      congr 1; omega
    · rename_i hout
      by_cases hj : j < off
      · rw [List.append_assoc, List.getElem?_append_left (by simp; omega), List.getElem?_take_of_lt hj]; simp
      · rw [List.getElem?_append_right (by simp; omega), List.getElem?_drop, ← Array.getElem?_toList]
        congr 1
        simp only [List.length_append, List.length_take, Array.length_toList] at *
        omega
theorem store_sound (h : Sim N B R Γ a w fr) {u v : Value} {q p : PV} (hu : Rep w R Γ u q) {t : TypeId} (hv : Rep w R Γ v p)
    (hone : p.cells.all (·.one) = true) (hsz : tsz P t = some p.cells.length) (hp : pstore fr q p.cells = some fr') :
    ∃ w', (Instr.storeAt t u v).run P w = .ok () w' ∧ Sim N B R Γ a w' fr' := by
  obtain ⟨e1, e2⟩ := rep_cells_of hv hone
  have hone' : ∀ x ∈ v.cells.toList, x.oneCell' = true := fun x hx => by
    obtain ⟨j, hj, rfl⟩ := List.getElem_of_mem hx
    have hj' : j < p.cells.length := by simpa [e1] using hj
    have hp : p.cells[j]? = some (p.cells[j]) := List.getElem?_eq_getElem hj'
    refine (e2 j _ _ ?_ hp).oneCell (List.all_eq_true.1 hone _ (List.mem_of_getElem? hp))
    simp
  unfold pstore at hp
  split at hp
  · rename_i s off
    split at hp
    case h_2 => cases hp
    rename_i f cs hs
    split at hp
    case isFalse => cases hp
    rename_i hfit
    obtain rfl := Option.some.inj hp
    obtain ⟨b, vs, ty, hb, htmp, hh, hvs, h1, hr⟩ := h.slot s _ hs
    cases hu with
    | ref _ _ b' hb' =>
    obtain rfl : b' = b := by rw [hb] at hb'; simpa using hb'.symm
    obtain ⟨w', vs', hrun, hg, hh', hvs', hget⟩ := store_block (P := P) (off := off) hh hsz e1 hone' (by omega)
    refine ⟨w', hrun, ?_⟩
    have hk : ∀ b o, R b o → R b o ∧ w'.cell? ⟨b, o, none⟩ = w.cell? ⟨b, o, none⟩ := fun b o hbo =>
      ⟨hbo, cell?_of_heap (hg.block b (h.bnd b o hbo) (fun e => ((h.own s _ hb).2 _ rfl).2.2 o (Option.some.inj e ▸ hbo)))⟩
    have := h.setObj hb (Loc.le_refl _) hg (.inl rfl) (p' := .box f (setRange cs off p.cells)) rfl (by
      rw [give_same hb]
      refine ⟨b', vs', ty, hb, htmp, hh', by rw [setRange_length]; omega, fun q hq => ?_, fun j x q hx hq => ?_⟩
      · obtain ⟨j, hj⟩ := List.mem_iff_getElem?.1 hq
        rw [setRange_get _ _ _ _ hfit] at hj
        split at hj
        · exact List.all_eq_true.1 hone _ (List.mem_of_getElem? hj)
        · exact h1 _ (List.mem_of_getElem? hj)
      · rw [setRange_get _ _ _ _ hfit] at hq
        rw [hget j] at hx
        refine Rep.keep hk ?_
        split at hq
        · rename_i hin
          rw [if_pos hin] at hx
          exact e2 _ _ _ hx hq
        · rename_i hout
          rw [if_neg hout] at hx
          exact hr _ _ _ hx hq)
    rwa [give_same hb] at this
  · rename_i i ep k f
    split at hp
    case h_2 => cases hp
    rename_i fl ep' e sz rs hs
    split at hp
    case isFalse => cases hp
    rename_i he
    subst he
    split at hp
    case h_2 => cases hp
    rename_i r hrk
    split at hp
    case isFalse => cases hp
    rename_i hfit
    obtain rfl := Option.some.inj hp
    obtain ⟨b, cap, hΓ, rfl⟩ := h.eltAt (sz := sz) (rs := rs) hu (by simp [Qg.pown, hs])
    obtain ⟨l, hΓ2, htmp, hrow, hsz0, hl⟩ := h.slot i _ hs
    rw [hΓ] at hΓ2
    simp only [Option.some.injEq, Loc.rows.injEq, true_and] at hΓ2
    subst hΓ2
    obtain ⟨vs, hh, hcap, hmax, hvs, hr⟩ := hl
    have hkl := lt_of_get? hrk
    obtain ⟨hrl, hrone⟩ := hrow r (List.mem_of_getElem? hrk)
    have hbig : (k + 1) * sz ≤ cap * sz := Nat.mul_le_mul_right _ (by omega)
    rw [Nat.add_mul] at hbig
    obtain ⟨w', vs', hrun, hg, hh', hvs', hget⟩ := store_block (P := P) hh hsz e1 hone' (off := k * sz + f) (by omega)
    refine ⟨w', hrun, ?_⟩
    have hk : ∀ b o, R b o → R b o ∧ w'.cell? ⟨b, o, none⟩ = w.cell? ⟨b, o, none⟩ := fun b o hbo =>
      ⟨hbo, cell?_of_heap (hg.block b (h.bnd b o hbo) (fun e => ((h.own i _ hΓ).2 _ rfl).2.2 o (Option.some.inj e ▸ hbo)))⟩
    have := h.setObj hΓ (Loc.le_refl _) hg (.inl rfl) (p' := .rows fl ep' e sz (rs.set k (setRange r f p.cells))) rfl (by
      rw [give_same hΓ]
      refine ⟨some (b, cap), hΓ, fun ep0 n0 e => ⟨(htmp ep0 n0 e).1, (htmp ep0 n0 e).2.keep hk⟩, fun r' hr' => ?_, hsz0, vs', hh', by simpa using hcap, hmax, by omega, fun i' j r' q x hr' hq hx => ?_⟩
      · rcases List.mem_or_eq_of_mem_set hr' with hm | hm
        · exact hrow r' hm
        · subst hm
          refine ⟨by rw [setRange_length]; exact hrl, fun q hq => ?_⟩
          obtain ⟨j, hj⟩ := List.mem_iff_getElem?.1 hq
          rw [setRange_get _ _ _ _ hfit] at hj
          split at hj
          · exact List.all_eq_true.1 hone _ (List.mem_of_getElem? hj)
          · exact hrone _ (List.mem_of_getElem? hj)
      · refine Rep.keep hk ?_
        rw [hget] at hx
        rcases getElem?_set' hr' with ⟨rfl, rfl, _⟩ | ⟨hne, hr''⟩
        · rw [setRange_get _ _ _ _ hfit] at hq
          split at hq
          · rename_i hin
            rw [if_pos (by omega)] at hx
            rw [show i' * sz + j - (i' * sz + f) = j - f from by omega] at hx
            exact e2 _ _ _ hx hq
          · rename_i hout
            rw [if_neg (by omega)] at hx
            exact hr i' j r q x hrk hq hx
        · have hj : j < sz := by have := lt_of_get? hq; rw [(hrow r' (List.mem_of_getElem? hr'')).1] at this; exact this
          have hfs : f + p.cells.length ≤ sz := by omega
          rw [if_neg (by
            rintro ⟨h1, h2⟩
            rcases Nat.lt_or_gt_of_ne hne with hlt | hlt
            · have : (i' + 1) * sz ≤ k * sz := Nat.mul_le_mul_right _ hlt
              rw [Nat.add_mul] at this; omega
            · have : (k + 1) * sz ≤ i' * sz := Nat.mul_le_mul_right _ hlt
              rw [Nat.add_mul] at this; omega)] at hx
          exact hr i' j r' q x hr'' hq hx)
    rwa [give_same hΓ] at this
  · cases hp
end
end Go.Qg

namespace Go.Qg
open Go.RowKit (Below)
def plookup (P : Program) (fr : PF) (t : TypeId) (m k : PV) (ok : Bool) : Option PV :=
  match tmap P t, m with
  | some (kt, et), .mp i => match fr[i]? with
    | some (.map _ ks vs) => if pkeyOk P kt k = true then match pkfind P kt k ks 0 with
        | some (some j) => match vs[j]? with
          | some v => some (if ok then .tup [v, .v (.bool true)] else v)
          | none => none
        | some none => match pzero P et with
          | some z => some (if ok then .tup [z, .v (.bool false)] else z)
          | none => none
        | none => none
      else none
    | _ => none
  | _, _ => none
def pmapUpdate (P : Program) (fr : PF) (t : TypeId) (m k v : PV) : Option PF :=
  match tmap P t, m with
  | some (kt, _), .mp i => match fr[i]? with
    | some (.map h ks vs) => if pkeyOk P kt k = true then match pkfind P kt k ks 0 with
        | some (some j) => some (fr.set i (.map h (ks.set j k) (vs.set j v)))
        | some none => some (fr.set i (.map h (ks ++ [k]) (vs ++ [v])))
        | none => none
      else none
    | _ => none
  | _, _ => none
section
variable {P : Program} {N : Nat} {B : Base} {w w' : World} {R R' : Nat → Nat → Prop} {Γ Γ' : Nat → Option Loc} {a : Act} {fr fr' : PF}
theorem tint_some {t : TypeId} (h : (tint P t).isSome = true) : ∃ k, P.underlying t = some (.int k) := by
  unfold tint at h
  split at h
  · exact ⟨_, ‹_›⟩
  · cases h
theorem peq_each {xs : List PV} : ∀ (ms : List (Nat × Nat)), (peq xs xs ms).isSome = true → ∀ m ∈ ms, ∃ x, xs[m.1]? = some x ∧ (peq1 m.2 x x).isSome = true
  | [], _, m, hm => by cases hm
  | (off, k) :: ms, h, m, hm => by
    simp only [peq] at h
    split at h
    case h_2 => cases h
    rename_i x y hx hy
    rw [hx] at hy
    obtain rfl := Option.some.inj hy
    split at h
    case h_2 => cases h
    rename_i s r hs hr
    rcases List.mem_cons.1 hm with rfl | hm
    · exact ⟨x, hx, by rw [hs]; rfl⟩
    · exact peq_each ms (by rw [hr]; rfl) m hm
theorem checkKey_sound {kt : TypeId} {k : PV} {u : Value} (hk : pkeyOk P kt k = true) (hu : Rep w R Γ u k) (em : Bool) : (Instr.checkKey em 10000 kt u).run P w = .ok () w := by
  unfold pkeyOk at hk
  split at hk
  · obtain ⟨q, hq⟩ := tint_some hk
    obtain rfl := Rep.of_v hu
    rw [show (10000 : Nat) = 9999 + 1 from rfl, Instr.checkKey]
    simp only [Sem.run_bind, run_underlying hq, Result.andThen_ok]
    rfl
  · rename_i xs
    split at hk
    case h_2 => cases hk
    rename_i ms hms
    cases hu with
    | agg us _ hl _ hr =>
    unfold teqf at hms
    split at hms
    case h_2 => cases hms
    rename_i fields hund
    split at hms
    · cases hms
    rename_i hok
    rw [show (10000 : Nat) = 9998 + 1 + 1 from rfl, Instr.checkKey]
    simp only [Sem.run_bind, run_underlying hund, Result.andThen_ok]
    rw [← Array.forIn_toList]
    have each := peq_each ms hk
    generalize fields.toList = fs at hms
    induction fs generalizing ms with
    | nil => simp
    | cons f fs ih =>
      rw [List.mapM_cons] at hms
      simp only [Option.bind_eq_bind, Option.bind_eq_some_iff] at hms
      obtain ⟨m, hm1, ms', hm2, hme⟩ := hms
      obtain rfl : m :: ms' = ms := by simpa using hme
      split at hm1
      · cases hm1
      rename_i hname
      obtain ⟨x, hx, hpe⟩ := each m List.mem_cons_self
      obtain ⟨s, hs⟩ := Option.isSome_iff_exists.1 hpe
      have hxl := lt_of_get? hx
      have hux : us[m.1]? = some (us[m.1]'(by omega)) := List.getElem?_eq_getElem (by omega)
      have hrx := hr m.1 _ x hux hx
      have h3 : trow P f.type = some false ∧ m.1 = f.offset ∧ (Instr.checkKey em (9998 + 1) f.type (us[m.1]'(by omega))).run P w = .ok () w := by
        split at hm1
        case h_4 => cases hm1
        all_goals
          rename_i hundf
          obtain rfl := Option.some.inj hm1
          refine ⟨by simp [trow, hundf], rfl, ?_⟩
          rw [Instr.checkKey]
          simp only [Sem.run_bind, run_underlying hundf, Result.andThen_ok]
          rfl
      obtain ⟨hrow, hoff, hck⟩ := h3
      have hpart : (part f.type us.toArray f.offset).run P w = .ok (us[m.1]'(by omega)) w := by
        rw [← hoff]
        simp [part, run_isAgg hrow, hux]
      simp only [List.forIn_cons, Sem.run_bind, hname, ne_eq, not_false_eq_true, if_true, Result.andThen_ok, hpart, hck, Sem.run_pure]
      have hps : (peq xs xs ms').isSome = true := by
        simp only [peq] at hk
        split at hk
        case h_2 => cases hk
        split at hk
        case h_2 => cases hk
        rename_i hr'
        rw [hr']; rfl
      exact ih ms' hps (fun m hm => each m (List.mem_cons_of_mem _ hm)) hm2
  · cases hk
theorem keyEq_sound {kt : TypeId} {x y : PV} {b : Bool} (h : pkeyEq P kt x y = some b) {u v : Value} (hu : Rep w R Γ u x) (hv : Rep w R Γ v y) : (Op.equal kt u v).run P w = .ok b w := by
  unfold pkeyEq at h
  split at h
  · split at h
    case isFalse => cases h
    rename_i hk
    obtain rfl := Option.some.inj h
    obtain rfl := Rep.of_v hu
    obtain rfl := Rep.of_v hv
    obtain ⟨q, hq⟩ := tint_some hk.2
    obtain rfl := hk.1
    exact run_equalIn_int w 9999 kt _ _ _ _ hq
  · rename_i xs ys
    split at h
    case h_2 => cases h
    rename_i fs hfs
    cases hu with
    | agg ux _ l1 _ r1 =>
    cases hv with
    | agg uy _ l2 _ r2 =>
    unfold teqf at hfs
    split at hfs
    case h_2 => cases hfs
    rename_i fields hund
    split at hfs
    · cases hfs
    rename_i hok
    simp only [Bool.or_eq_true, not_or, Bool.not_eq_true] at hok
    have hf : P.fieldsOf kt = fields := by simp [Program.fieldsOf, hund]
    have hrun : ∀ b, peq xs ys fs = some b → (Op.equalIn 10000 kt (.agg ux.toArray) (.agg uy.toArray)).run P w = .ok b w := fun b hb => by
      rw [run_equalIn_agg w 9999 kt _ _ (by rw [hf]; exact hund) hok.1, hf]
      exact peq_sound (rep_cells l1 r1) (rep_cells l2 r2) 9998 _ _ _ hfs hb
    split at h
    · rename_i hb
      split at h
      case isFalse => cases h
      obtain rfl := Option.some.inj h
      exact hrun _ hb
    · rename_i hb
      obtain rfl := Option.some.inj h
      exact hrun _ hb
    · cases h
  · cases h
theorem same_sound : ∀ (xs ys : List PV) (us vs : List Value), psame xs ys = true → us.length = xs.length → vs.length = ys.length → (∀ (i : Nat) (u : Value) (p : PV), us[i]? = some u → xs[i]? = some p → Rep w R Γ u p) →
    (∀ (i : Nat) (u : Value) (p : PV), vs[i]? = some u → ys[i]? = some p → Rep w R Γ u p) → us.length = vs.length ∧ ((us.zip vs).all fun (x, y) => Instr.sameBits 9999 x y) = true
  | [], ys, us, vs, h, hu, hv, _, _ => by
    cases ys with
    | nil => simp at hu hv; subst hu hv; exact ⟨rfl, rfl⟩
    | cons y ys => cases y <;> cases h
  | x :: xs, ys, us, vs, h, hu, hv, hx, hy => by
    cases us with
    | nil => simp at hu
    | cons u us =>
    unfold psame at h
    split at h
    · rename_i h1; cases h1
    · rename_i k a xs' k' b ys' h1
      simp only [List.cons.injEq] at h1
      obtain ⟨rfl, rfl⟩ := h1
      cases vs with
      | nil => simp at hv
      | cons v vs =>
      simp only [Bool.and_eq_true, decide_eq_true_eq, beq_iff_eq] at h
      obtain ⟨⟨rfl, rfl⟩, h⟩ := h
      have hu0 := Rep.of_v (hx 0 u _ rfl rfl)
      have hv0 := Rep.of_v (hy 0 v _ rfl rfl)
      subst hu0 hv0
      obtain ⟨e1, e2⟩ := same_sound xs ys' us vs h (by simpa using hu) (by simpa using hv) (fun i u p h1 h2 => hx (i + 1) u p (by simpa using h1) (by simpa using h2)) (fun i u p h1 h2 => hy (i + 1) u p (by simpa using h1) (by simpa using h2))
      refine ⟨by simp [e1], ?_⟩
      simp only [List.zip_cons_cons, List.all_cons, Bool.and_eq_true]
      exact ⟨by simp [Instr.sameBits], e2⟩
    · rename_i a xs' b ys' h1
      simp only [List.cons.injEq] at h1
      obtain ⟨rfl, rfl⟩ := h1
      cases vs with
      | nil => simp at hv
      | cons v vs =>
      simp only [Bool.and_eq_true, beq_iff_eq] at h
      obtain ⟨rfl, h⟩ := h
      have hu0 := Rep.of_v (hx 0 u _ rfl rfl)
      have hv0 := Rep.of_v (hy 0 v _ rfl rfl)
      subst hu0 hv0
      obtain ⟨e1, e2⟩ := same_sound xs ys' us vs h (by simpa using hu) (by simpa using hv) (fun i u p h1 h2 => hx (i + 1) u p (by simpa using h1) (by simpa using h2)) (fun i u p h1 h2 => hy (i + 1) u p (by simpa using h1) (by simpa using h2))
      refine ⟨by simp [e1], ?_⟩
      simp only [List.zip_cons_cons, List.all_cons, Bool.and_eq_true]
      exact ⟨by simp [Instr.sameBits], e2⟩
    · cases h
theorem stays_sound {kt : TypeId} {x y : PV} (h : pkeyEq P kt x y = some true) {u v : Value} (hu : Rep w R Γ u x) (hv : Rep w R Γ v y) : (Instr.keyThatStays v u).run P w = .ok u w := by
  have key : Instr.sameBits 10000 v u = true := by
    unfold pkeyEq at h
    split at h
    · split at h
      case isFalse => cases h
      rename_i hk
      obtain rfl := Rep.of_v hu
      obtain rfl := Rep.of_v hv
      obtain rfl := hk.1
      simp only [Option.some.injEq, beq_iff_eq] at h
      subst h
      simp [Instr.sameBits]
    · rename_i xs ys
      split at h
      case h_2 => cases h
      split at h
      · split at h
        case isFalse => cases h
        rename_i hs
        cases hu with
        | agg ux _ l1 _ r1 =>
        cases hv with
        | agg uy _ l2 _ r2 =>
        obtain ⟨e1, e2⟩ := same_sound _ _ _ _ hs l2 l1 r2 r1
        rw [show (10000 : Nat) = 9999 + 1 from rfl, Instr.sameBits]
        simp only [List.size_toArray, e1, beq_self_eq_true, Bool.true_and]
        exact e2
      · cases h
      · cases h
    · cases h
  simp [Instr.keyThatStays, key]
def Entries (w : World) (R : Nat → Nat → Prop) (Γ : Nat → Option Loc) (es : List MapEntry) (ks : List PV) : Prop :=
  es.length = ks.length ∧ ∀ (j : Nat) (x : MapEntry) (p : PV), es[j]? = some x → ks[j]? = some p → Rep w R Γ x.key p
theorem Entries.tail {e : MapEntry} {es : List MapEntry} {k : PV} {ks : List PV} (h : Entries w R Γ (e :: es) (k :: ks)) : Entries w R Γ es ks :=
  ⟨by simpa using h.1, fun j x p hx hp => h.2 (j + 1) x p (by simpa using hx) (by simpa using hp)⟩
def found (es : List MapEntry) (i : Nat) : Option Nat → Option (Nat × Value)
  | none => none
  | some j => ((es[j - i]?).map fun e => (j, e.val))
theorem pkfind_ge {kt : TypeId} {k : PV} : ∀ (ks : List PV) (i : Nat) {j : Nat}, pkfind P kt k ks i = some (some j) → i ≤ j ∧ j < i + ks.length
  | [], i, j, h => by simp [pkfind] at h
  | q :: ks, i, j, h => by
    simp only [pkfind] at h
    split at h
    · simp at h; subst h; simp
    · have := pkfind_ge ks (i + 1) h; simp; omega
    · cases h
theorem pkfind_hit {kt : TypeId} {k : PV} : ∀ (ks : List PV) (i : Nat) {j : Nat} (_ : pkfind P kt k ks i = some (some j)) {h : j - i < ks.length}, pkeyEq P kt k (ks[j - i]) = some true
  | [], i, j, h, _ => by simp [pkfind] at h
  | q :: ks, i, j, h, hl => by
    simp only [pkfind] at h
    split at h
    · rename_i hk
      simp at h; subst h; simpa using hk
    · have hge := (pkfind_ge ks (i + 1) h).1
      have hl' : j - (i + 1) < ks.length := by simp at hl; omega
      have := pkfind_hit ks (i + 1) h (h := hl')
      have e : (q :: ks)[j - i]? = some (ks[j - (i + 1)]) := by
        rw [show j - i = (j - (i + 1)) + 1 from by omega, List.getElem?_cons_succ, List.getElem?_eq_getElem hl']
      rw [List.getElem?_eq_getElem hl] at e
      rw [Option.some.inj e]; exact this
    · cases h
theorem asking_sound {kt : TypeId} {k : PV} {u : Value} (hu : Rep w R Γ u k) : ∀ (ks : List PV) (es : List MapEntry) (i : Nat) (r : Option Nat), Entries w R Γ es ks → pkfind P kt k ks i = some r → (Instr.findAsking kt u es i).run P w = .ok (found es i r) w
  | [], es, i, r, he, h => by
    obtain rfl : es = [] := List.eq_nil_of_length_eq_zero he.1
    simp [pkfind] at h; subst h
    simp [Instr.findAsking, found]
  | q :: ks, es, i, r, he, h => by
    cases es with
    | nil => have := he.1; simp at this
    | cons e es =>
    simp only [pkfind] at h
    have hq := he.2 0 e q rfl rfl
    unfold Instr.findAsking
    split at h
    · rename_i hk
      obtain rfl := Option.some.inj h
      simp only [Sem.run_bind, keyEq_sound hk hu hq, Result.andThen_ok, if_true, found]
      simp
    · rename_i hk
      simp only [Sem.run_bind, keyEq_sound hk hu hq, Result.andThen_ok, Bool.false_eq_true, if_false]
      rw [asking_sound hu ks es (i + 1) r he.tail h]
      cases r with
      | none => rfl
      | some j =>
        have := (pkfind_ge ks (i + 1) h).1
        simp only [found]
        rw [show j - i = (j - (i + 1)) + 1 from by omega, List.getElem?_cons_succ]
    · cases h
theorem now_sound {kt : TypeId} {q : IntKind} (hq : P.underlying kt = some (.int q)) {k : PV} {u : Value} (hu : Rep w R Γ u k) : ∀ (ks : List PV) (es : List MapEntry) (i : Nat) (r : Option Nat), Entries w R Γ es ks → pkfind P kt k ks i = some r →
    Instr.findNow (.int q) u es i = some (found es i r)
  | [], es, i, r, he, h => by
    obtain rfl : es = [] := List.eq_nil_of_length_eq_zero he.1
    simp [pkfind] at h; subst h
    simp [Instr.findNow, found]
  | p :: ks, es, i, r, he, h => by
    cases es with
    | nil => have := he.1; simp at this
    | cons e es =>
    simp only [pkfind] at h
    have hp := he.2 0 e p rfl rfl
    have hsame : ∀ b, pkeyEq P kt k p = some b → Instr.sameNow (.int q) u e.key = some b := fun b hb => by
      unfold pkeyEq at hb
      split at hb
      · split at hb
        case isFalse => cases hb
        rename_i hk
        have h1 := Rep.of_v hu
        have h2 := Rep.of_v hp
        rw [h1, h2]
        obtain rfl := hk.1
        simpa [Instr.sameNow] using hb
      · have : teqf P kt = none := by simp [teqf, hq]
        simp [this] at hb
      · cases hb
    unfold Instr.findNow
    split at h
    · rename_i hk
      obtain rfl := Option.some.inj h
      rw [hsame _ hk]
      simp [found]
    · rename_i hk
      rw [hsame _ hk]
      dsimp only
      rw [now_sound hq hu ks es (i + 1) r he.tail h]
      cases r with
      | none => rfl
      | some j =>
        have := (pkfind_ge ks (i + 1) h).1
        simp only [found]
        rw [show j - i = (j - (i + 1)) + 1 from by omega, List.getElem?_cons_succ]
    · cases h
theorem find_sound {kt : TypeId} {k : PV} {u : Value} (hok : pkeyOk P kt k = true) (hu : Rep w R Γ u k) {ks : List PV} {es : List MapEntry} {r : Option Nat} (he : Entries w R Γ es ks) (h : pkfind P kt k ks 0 = some r) :
    (Instr.findKey kt u es).run P w = .ok (found es 0 r) w := by
  unfold pkeyOk at hok
  split at hok
  · obtain ⟨q, hq⟩ := tint_some hok
    simp only [Instr.findKey, Sem.run_bind, run_underlying hq, Result.andThen_ok, now_sound hq hu ks es 0 r he h, Sem.run_pure]
  · rename_i xs
    split at hok
    case h_2 => cases hok
    rename_i fs hfs
    obtain ⟨fields, hund⟩ : ∃ fields, P.underlying kt = some (.struct fields) := by
      unfold teqf at hfs
      split at hfs
      · exact ⟨_, ‹_›⟩
      · cases hfs
    have hask := asking_sound hu ks es 0 r he h
    cases es with
    | nil =>
      simp only [Instr.findKey, Sem.run_bind, run_underlying hund, Result.andThen_ok, Instr.findNow, Sem.run_pure]
      simp only [Instr.findAsking, Sem.run_pure] at hask
      exact hask
    | cons e es =>
      have hn : Instr.findNow (.struct fields) u (e :: es) 0 = none := by
        simp [Instr.findNow, Instr.sameNow]
      simp only [Instr.findKey, Sem.run_bind, run_underlying hund, Result.andThen_ok, hn, hask]
  · cases hok
end
end Go.Qg

namespace Go.Qg
open Go.RowKit (Below)
def pstep (P : Program) (o : Oper) (fr : PF) : Option PF :=
  match o.op with
  | .alloc t => match tzero P t with
    | some z => pnew o.dst (.box (boxT t) z) fr
    | none => none
  | .box _ x => if (rd fr x).cells.all (·.one) = true then pnew o.dst (.box true (rd fr x).cells) fr else none
  | .store t p x => if (rd fr x).cells.all (·.one) = true ∧ tsz P t = some (rd fr x).cells.length then match pstore fr (rd fr p) (rd fr x).cells with
      | some fr' => pput o.dst .undef fr'
      | none => none
    else none
  | .buildSlice t len parts => match tel P t with
    | some e => match tsz P e, tzero P e with
      | some sz, some z => if z.length = sz ∧ 0 < sz ∧ len * sz ≤ 16777216 then
          match pfill (fun i => some (i * sz, sz)) (zeros z (len * sz)) (parts.toList.map fun p => (p.1, rd fr p.2)) with
          | some cs => pnew o.dst (.rows (some (0, len)) 0 e sz (chunk sz len cs)) fr
          | none => none
        else none
      | _, _ => none
    | none => none
  | .makeSlice t l c => match tel P t, rd fr l, rd fr c with
    | some e, .v (.int .i64 n), .v (.int .i64 m) => match tsz P e, tzero P e, tbytes P e with
      | some sz, some z, some bytes => if z.length = sz ∧ 0 < sz then
          guard (0 ≤ n ∧ n ≤ m ∧ bytes * m ≤ 281474976710656 ∧ m ≤ 9223372036854775807) (pnew o.dst (.rows (some (0, n.toNat)) 0 e sz (List.replicate n.toNat z)) fr) else none
      | _, _, _ => none
    | _, _, _ => none
  | .makeMap _ none => pnew o.dst (.map true [] []) fr
  | .mapUpdate t m k x => match pmapUpdate P fr t (rd fr m) (rd fr k) (rd fr x) with
    | some fr' => pput o.dst .undef fr'
    | none => none
  | .lookup t m k ok => match plookup P fr t (rd fr m) (rd fr k) ok with
    | some p => pput o.dst p fr
    | none => none
  | .call c => match c.callee, o.dst with
    | .builtin .append, some d => match c.args.toList, c.argTypes.toList with
      | [x, y], [t, t'] => if t = t' then pappend P t (rd fr x) (rd fr y) d fr else none
      | _, _ => none
    | _, _ => match pval P fr o.op with
      | some p => pput o.dst p fr
      | none => none
  | op => match pval P fr op with
    | some p => pput o.dst p fr
    | none => none
section
variable {P : Program} {N : Nat} {B : Base} {w w' : World} {R R' : Nat → Nat → Prop} {Γ Γ' : Nat → Option Loc} {a : Act} {fr fr' : PF} {K : Act → World → Prop} {Q : Exit → Act → World → Prop}
theorem put_step (h : Sim N B R Γ a w fr) {o : Oper} (hN : ∀ d, o.dst = some d → d < N) {u : Value} {p : PV} (hr : (execOp a.eval o).run P w = .ok (.value u) w) (hv : Rep w R Γ u p) (hp : pput o.dst p fr = some fr')
    (hK : ∀ a' w', SimE N B a' w' fr' → K a' w') : o.wp P a w K Q := by
  obtain ⟨hc, rfl⟩ := pput_some hp
  exact wp_val' hr (hK _ _ (h.put o.dst hN hc hv).toE)
theorem val_step (h : Sim N B R Γ a w fr) {o : Oper} (hN : ∀ d, o.dst = some d → d < N) (hp : (match pval P fr o.op with
    | some p => pput o.dst p fr
    | none => none) = some fr') (hK : ∀ a' w', SimE N B a' w' fr' → K a' w') : o.wp P a w K Q := by
  split at hp
  case h_2 => cases hp
  rename_i p hpv
  obtain ⟨u, hr, hv⟩ := pval_sound (P := P) h hpv
  exact put_step h hN hr hv hp hK
theorem skip_step {o : Oper} (hN : ∀ d, o.dst = some d → d < N) {fr1 : PF} (h : Sim N B R Γ a w' fr1) (hr : (execOp a.eval o).run P w = .ok .skip w') (hp : pput o.dst .undef fr1 = some fr')
    (hK : ∀ a' w', SimE N B a' w' fr' → K a' w') : o.wp P a w K Q := by
  obtain ⟨hc, rfl⟩ := pput_some hp
  unfold Oper.wp
  rw [hr]
  exact hK _ _ (h.put o.dst hN hc (u := undef) (.undef _)).toE
theorem Loc.rows_le {ep ep' sz : Nat} {l l' : Option (Nat × Nat)} (h : ep < ep') : Loc.le (.rows ep sz l) (.rows ep' sz l') := .inr ⟨_, _, _, _, _, _, rfl, rfl, h⟩
theorem append_step (h : Sim N B R Γ a w fr) {o : Oper} (hN : ∀ d, o.dst = some d → d < N) {c : Call} (ho : o.op = .call c) (hc : c.callee = .builtin .append) {d : Nat} (hd : o.dst = some d) {x y : Operand} {t : TypeId} (hargs : c.args.toList = [x, y]) (hts : c.argTypes.toList = [t, t])
    (hp : pappend P t (rd fr x) (rd fr y) d fr = some fr') (hK : ∀ a' w', SimE N B a' w' fr' → K a' w') : o.wp P a w K Q := by
  have e1 : c.args = #[x, y] := by rw [← Array.toArray_toList (xs := c.args), hargs]
  have e2 : c.argTypes = #[t, t] := by rw [← Array.toArray_toList (xs := c.argTypes), hts]
  have hdN := hN d hd
  have go : (∃ v' w', (Builtin.append_ #[t, t] o.type #[a.eval x, a.eval y]).run P w = .ok v' w' ∧ SimE N B (a.put (some d) v') w' fr') → o.wp P a w K Q := by
    rintro ⟨v', w', hr, hs⟩
    refine wp_val' (u := v') (w' := w') ?_ (hK _ _ (by rw [hd]; exact hs))
    obtain ⟨callee, args, ats⟩ := c
    dsimp only at hc e1 e2
    subst hc e1 e2
    simp only [execOp, ho, resolve, invoke, builtin, Sem.run_bind, Sem.run_pure, Result.andThen_ok, List.map_toArray, List.map_cons, List.map_nil, hr]
  refine go ?_
  unfold pappend at hp
  split at hp
  case h_1 => cases hp
  rename_i e he
  split at hp
  case h_2 => cases hp
  rename_i sz bytes zl sz' news hs hb hz hy
  split at hp
  case isFalse => cases hp
  rename_i hcond
  obtain ⟨hsz', hzl, hsz⟩ := hcond
  have hyr : RowsOf w R Γ sz news (a.eval y) := by
    have := h.rows (h.rd y) hy
    rcases hsz' with rfl | rfl
    · exact this
    · obtain ⟨_, A, c, hu, hx⟩ := this
      refine ⟨fun r hr => (by cases hr), A, c, hu, ?_⟩
      rcases hx with hx | ⟨ad, us, hA, hat⟩
      · exact .inl hx
      · exact .inr ⟨ad, us, hA, fun j hj => by simp at hj, fun i j r p hr => by simp at hr⟩
  have hRk : ∀ {w1 : World} {row : Option Nat}, w.grownBy w1 row → (∀ g, row = some g → ∀ o, ¬ R g o) → ∀ b o, R b o → R b o ∧ w1.cell? ⟨b, o, none⟩ = w.cell? ⟨b, o, none⟩ := fun hg hrow b o hbo =>
    ⟨hbo, cell?_of_heap (hg.block b (h.bnd b o hbo) (fun e => hrow b e.symm o hbo))⟩
  have fresh : ∀ {rs' : List (List PV)} {v' : Value} {w' : World} {l' : Option (Nat × Nat)}, (Builtin.append_ #[t, t] o.type #[a.eval x, a.eval y]).run P w = .ok v' w' → w.grownBy w' none →
      (l' = none → v' = .slice none 0 0 ∧ rs' = []) → (∀ b cap, l' = some (b, cap) → v' = .slice (some ⟨b, 0, none⟩) rs'.length cap ∧ (w.heap.size ≤ b ∧ b < w'.heap.size) ∧
        ∃ vs : Array Value, w'.heap[b]? = some (.cells vs e (0, 0)) ∧ rs'.length ≤ cap ∧ cap ≤ maxLen ∧ vs.size = cap * sz ∧
          ∀ (i j : Nat) (r : List PV) (p : PV) (x : Value), rs'[i]? = some r → r[j]? = some p → vs[i * sz + j]? = some x → Rep w R Γ x p) →
      (∀ r ∈ rs', r.length = sz ∧ ∀ p ∈ r, p.one = true) → pnew (some d) (.rows (some (0, rs'.length)) 0 e sz rs') fr = some fr' →
      ∃ v' w', (Builtin.append_ #[t, t] o.type #[a.eval x, a.eval y]).run P w = .ok v' w' ∧ SimE N B (a.put (some d) v') w' fr' := by
    intro rs' v' w' l' hrun hgrown hnone hsome hrw hp
    obtain ⟨d', hd', hdl, hcl, rfl⟩ := pnew_some hp
    obtain rfl := Option.some.inj hd'
    refine ⟨v', w', hrun, ?_⟩
    have hbelow : Below w.heap.size w w' := ⟨hgrown.os, hgrown.tape, hgrown.output, hgrown.size, fun k hk => hgrown.block k hk (fun e => by cases e)⟩
    have hk := hRk hgrown (fun g hg => by cases hg)
    have h1 := h.grown hbelow R (fun _ _ x => x) (fun _ _ x => .inl x)
    have h2 := h1.put (some d) (u := v') (p := .undef) (fun t ht => by obtain rfl := Option.some.inj ht; exact hdN) (pclear_undef hcl) (.undef _)
    have hΓd : erase (some d) Γ d = none := by simp [erase]
    have hnm := h1.named hcl (Γ' := give d (.rows 0 sz l') (erase (some d) Γ)) (fun i l hi hil => by rw [give_ne hi]; exact erase_of hil (by simpa using hi))
    have h3 := h2.giveObj (d := d) (l' := .rows 0 sz l') (p' := .rows (some (0, rs'.length)) 0 e sz rs') (by simpa [Qg.put] using hdl) hΓd (fun b hb' => by
      cases l' with
      | none => cases hb'
      | some bc =>
        obtain ⟨b', cap⟩ := bc
        obtain rfl : b' = b := Option.some.inj hb'
        obtain ⟨_, hfrom, _⟩ := hsome b' cap rfl
        have hfr : w.heap.size ≤ b' ∧ b' < w'.heap.size := hfrom
        refine ⟨fun hp => ?_, hfr.2, fun o ho => ?_, fun i l hil hlb => ?_⟩
        · have := h.prot _ hp; have := h.kept.size; omega
        · have := h.bnd _ _ ho; omega
        · have := ((h.own i l (erase_some hil).2).2 _ hlb).2.1; omega) rfl (by
      rw [Act.put_get a d v' (by rw [h.size]; exact hdN)]
      refine ⟨l', give_self _ _ _, fun ep0 n0 he => ?_, hrw, hsz, ?_⟩
      · simp only [Option.some.injEq, Prod.mk.injEq] at he
        obtain ⟨rfl, rfl⟩ := he
        refine ⟨hdN, ?_⟩
        cases l' with
        | none =>
          obtain ⟨rfl, hnil⟩ := hnone rfl
          exact .own _ _ _ _ _ _ _ _ _ (give_self _ _ _) (Nat.le_refl _) rfl fun _ => ⟨rfl, by rw [hnil]; rfl, rfl⟩
        | some bc =>
          obtain ⟨b, cap⟩ := bc
          obtain ⟨rfl, _, vs, _, hc2, _⟩ := hsome b cap rfl
          exact .own _ _ _ _ _ _ _ _ _ (give_self _ _ _) (Nat.le_refl _) rfl fun _ => ⟨by simp, by omega⟩
      · cases l' with
        | none => exact (hnone rfl).2
        | some bc =>
          obtain ⟨b, cap⟩ := bc
          obtain ⟨_, _, vs, c1, c2, c3, c4, c5⟩ := hsome b cap rfl
          exact ⟨vs, c1, c2, c3, c4, fun i j r p x hr hp hx => (c5 i j r p x hr hp hx).mono hk fun k hk' => hnm k (by
            simp only [PV.names]; exact mem_namesLL.2 ⟨r, List.mem_of_getElem? hr, mem_namesL.2 ⟨p, List.mem_of_getElem? hp, hk'⟩⟩)⟩)
    exact ⟨_, _, by simpa [Qg.put, List.set_set] using h3⟩
  split at hp
  · rename_i i ep off n cc hx
    split at hp
    case h_2 => cases hp
    rename_i hh ep' e' sz'' rs hfr
    split at hp
    case isFalse =>
      split at hp
      case isFalse => cases hp
      rename_i hq
      obtain ⟨rfl, rfl, rfl, rfl, hne, hdi⟩ := hq
      obtain ⟨⟨hlim, hol⟩, hp⟩ := guard_some hp
      have hxv := h.rd x
      rw [hx] at hxv
      obtain ⟨l2, hΓ2, hown, _⟩ := h.ownAt (sz := sz'') (rs := rs) hxv (by simp [Qg.pown, hfr])
      have hlen : ((rs.drop off).take n).length = n := by simp; omega
      have hxr : RowsOf w R Γ sz'' ((rs.drop off).take n) (a.eval x) := h.rows hxv (by simp [prows, Qg.pown, hfr, Qg.guard, hol])
      obtain ⟨A, hA⟩ : ∃ A, a.eval x = .slice A ((rs.drop off).take n).length ((rs.drop off).take n).length := by
        rw [hlen]
        unfold OwnAt at hown
        split at hown
        · obtain ⟨hu, rfl, _⟩ := hown; exact ⟨none, hu⟩
        · exact ⟨_, hown.1⟩
      rw [hA] at hxr
      obtain ⟨v', w', l', hrun, hgrown, hnone, hsome⟩ := append_capped (P := P) he hs hb hz hzl hsz hxr hyr hne (by rw [hlen]; exact hlim) o.type
      rw [← hA] at hrun
      refine fresh hrun hgrown hnone hsome (fun r hr => ?_) ?_
      · rcases List.mem_append.1 hr with hr | hr
        · exact hxr.1 r hr
        · exact hyr.1 r hr
      · rw [List.length_append, hlen]; exact hp
    rename_i hq
    obtain ⟨rfl, rfl, rfl, rfl, rfl⟩ := hq
    obtain ⟨hlim, hp⟩ := guard_some hp
    obtain ⟨l, hΓ, htmp, hrow, _, hl⟩ := h.slot i _ hfr
    have hxv := h.rd x
    rw [hx] at hxv
    obtain ⟨l2, hΓ2, hown, _⟩ := h.ownAt (sz := sz'') (rs := rs) hxv (by simp [Qg.pown, hfr])
    rw [hΓ] at hΓ2
    simp only [Option.some.injEq, Loc.rows.injEq, true_and] at hΓ2
    subst hΓ2
    have hlen : (rs.take n).length = n := by simp; omega
    have hget : ∀ k r, (rs.take n)[k]? = some r → rs[k]? = some r ∧ k < n := fun k r hr => by
      have hk : k < n := by have := lt_of_get? hr; omega
      rw [List.getElem?_take, if_pos hk] at hr
      exact ⟨hr, hk⟩
    obtain ⟨xs, hor, hxrep, hblk⟩ : ∃ xs, w.ownsRow 0 e' sz'' (a.eval x) (rs.take n).length xs ∧ (∀ (k j : Nat) (r : List PV) (p : PV) (x : Value), (rs.take n)[k]? = some r → r[j]? = some p → xs[k * sz'' + j]? = some x → Rep w R Γ x p) ∧ (Loc.rows ep' sz'' l).blk = (a.eval x).ownBlock := by
      rw [hlen]
      cases l with
      | none =>
        obtain ⟨hu, rfl, _⟩ := hown
        rw [hu]
        exact ⟨[], World.ownsRow_nil w 0 e' sz'', fun k j r p x hr => (by simp at hr), rfl⟩
      | some bc =>
        obtain ⟨b, cap⟩ := bc
        obtain ⟨hu, hcap⟩ := hown
        obtain ⟨vs, g1, g2, g3, g4, g5⟩ := hl
        rw [hu]
        simp only [Nat.zero_mul, Nat.sub_zero, Bool.false_eq_true, if_false]
        have hle : n * sz'' ≤ cap * sz'' := Nat.mul_le_mul_right _ (by omega)
        refine ⟨vs.toList.take (n * sz''), ⟨by simp; omega, .inr ⟨b, cap, vs, rfl, Nat.zero_le _, g1, by omega, g3, g4, rfl⟩⟩, fun k j r p x hr hp hx => ?_, rfl⟩
        obtain ⟨hr', hk⟩ := hget k r hr
        rw [List.getElem?_take] at hx
        split at hx
        · exact g5 k j r p x hr' hp (by simpa using hx)
        · cases hx
    obtain ⟨v', w', l', hrun, hgrown, hnone, hsome⟩ := append_rows (P := P) he hs hb hz hzl hsz hor (fun r hr => hrow r (List.mem_of_mem_take hr)) hxrep hyr (by rw [hlen]; exact ⟨hlim.1, hlim.2.1⟩) o.type
    rw [hlen] at hsome
    have hRo : ∀ g, (a.eval x).ownBlock = some g → ∀ o, ¬ R g o := fun g hg => ((h.own i _ hΓ).2 g (by rw [hblk]; exact hg)).2.2
    have hk := hRk hgrown hRo
    have hrows : ∀ r ∈ rs.take n ++ news, r.length = sz'' ∧ ∀ p ∈ r, p.one = true := fun r hr => by
      rcases List.mem_append.1 hr with hr | hr
      · exact hrow r (List.mem_of_mem_take hr)
      · exact hyr.1 r hr
    have hle : Loc.le (.rows ep' sz'' l) (.rows (ep' + 1) sz'' l') := Loc.rows_le (Nat.lt_succ_self _)
    have hΓle : ∀ j m, Γ j = some m → ∃ m', give i (.rows (ep' + 1) sz'' l') Γ j = some m' ∧ Loc.le m m' := fun j m hm => give_le (fun m hm => by rw [hΓ] at hm; obtain rfl := Option.some.inj hm; exact hle) hm
    have hval : ∀ Γ2 : Nat → Option Loc, Γ2 i = some (.rows (ep' + 1) sz'' l') → Rep w' R Γ2 v' (.own i (ep' + 1) 0 (n + news.length) false) := fun Γ2 hΓ2 => by
      cases l' with
      | none =>
        obtain ⟨rfl, hnil⟩ := hnone rfl
        have : (rs.take n ++ news).length = 0 := by rw [hnil]; rfl
        rw [List.length_append, hlen] at this
        exact .own _ _ _ _ _ _ _ _ _ hΓ2 (Nat.le_refl _) rfl fun _ => ⟨rfl, this, rfl⟩
      | some bc =>
        obtain ⟨b, cap⟩ := bc
        obtain ⟨rfl, _, vs, _, hc2, _⟩ := hsome b cap rfl
        rw [List.length_append, hlen] at hc2
        exact .own _ _ _ _ _ _ _ _ _ hΓ2 (Nat.le_refl _) rfl fun _ => ⟨by simp, by omega⟩
    have hobj : ∀ (u : Value) (h' : Option (Nat × Nat)), (∀ ep0 n0, h' = some (ep0, n0) → i < N ∧ Rep w' R (give i (.rows (ep' + 1) sz'' l') Γ) u (.own i ep0 0 n0 false)) → SlotRep N w' R (give i (.rows (ep' + 1) sz'' l') Γ) i u (.rows h' (ep' + 1) e' sz'' (rs.take n ++ news)) := fun u h' hh' => by
      refine ⟨l', give_self _ _ _, hh', hrows, hsz, ?_⟩
      cases l' with
      | none => exact (hnone rfl).2
      | some bc =>
        obtain ⟨b, cap⟩ := bc
        obtain ⟨_, _, vs, c1, c2, c3, c4, c5⟩ := hsome b cap rfl
        exact ⟨vs, c1, c2, c3, c4, fun k j r p x hr hp hx => (c5 k j r p x hr hp hx).mono hk fun j _ m hm => hΓle j m hm⟩
    have hblk' : (Loc.rows (ep' + 1) sz'' l').blk = (Loc.rows ep' sz'' l).blk ∨ ∀ b, (Loc.rows (ep' + 1) sz'' l').blk = some b → w.heap.size ≤ b ∧ b < w'.heap.size := by
      cases l' with
      | none => exact .inr fun b hb => by cases hb
      | some bc =>
        obtain ⟨b, cap⟩ := bc
        obtain ⟨_, hfrom, _⟩ := hsome b cap rfl
        rcases hfrom with hf | hf
        · exact .inl (by rw [hblk, hf]; rfl)
        · exact .inr fun b' hb' => by obtain rfl := Option.some.inj hb'; exact hf
    split at hp
    · rename_i hdi
      subst hdi
      split at hp
      case isFalse => cases hp
      obtain rfl := Option.some.inj hp
      refine ⟨v', w', hrun, ?_⟩
      have h1 := h.setObj (p' := .rows none (ep' + 1) e' sz'' (rs.take n ++ news)) hΓ hle (by rw [hblk]; exact hgrown) hblk' rfl (hobj _ none (fun ep0 n0 e => by cases e))
      refine ⟨R, give d (.rows (ep' + 1) sz'' l') Γ, ?_⟩
      refine ⟨by rw [Act.put_size]; exact h1.size, by simpa using h1.len, fun t q hq => ?_, h1.inj, fun j m hm => ?_, h1.bnd, h1.sub, h1.kept, h1.prot, h1.lo, h1.base, by simpa [Act.put] using h1.defers⟩
      · rcases getElem?_set' hq with ⟨rfl, rfl, _⟩ | ⟨ht, hq'⟩
        · rw [Act.put_get a t v' (by rw [h.size]; exact hdN)]
          exact hobj _ _ fun ep0 n0 e => by
            simp only [Option.some.injEq, Prod.mk.injEq] at e
            obtain ⟨rfl, rfl⟩ := e
            exact ⟨hdN, hval _ (give_self _ _ _)⟩
        · rw [Act.put_get_ne a d v' t ht]
          exact h1.slot t q (by rw [List.getElem?_set_ne (Ne.symm ht)]; exact hq')
      · obtain ⟨⟨q, hq, hqo⟩, h2⟩ := h1.own j m hm
        rcases getElem?_set' hq with ⟨rfl, rfl, hlt⟩ | ⟨ht, hq'⟩
        · exact ⟨⟨_, List.getElem?_set_self hlt, rfl⟩, h2⟩
        · exact ⟨⟨q, by rw [List.getElem?_set_ne (Ne.symm ht)]; exact hq', hqo⟩, h2⟩
    · rename_i hdi
      obtain ⟨hcl, rfl⟩ := pput_some hp
      have h1 := h.setObj (p' := .rows hh (ep' + 1) e' sz'' (rs.take n ++ news)) hΓ hle (by rw [hblk]; exact hgrown) hblk' rfl (hobj _ hh (fun ep0 n0 e => ⟨(htmp ep0 n0 e).1, (htmp ep0 n0 e).2.mono hk fun j _ m hm => hΓle j m hm⟩))
      exact ⟨v', w', hrun, (h1.put (some d) (fun t ht => by obtain rfl := Option.some.inj ht; exact hdN) hcl (hval _ (give_self _ _ _))).toE⟩
  · rename_i hx
    obtain ⟨hlim, hp⟩ := guard_some hp
    have hxv := h.rd x
    rw [hx] at hxv
    have hu : a.eval x = .slice none 0 0 := by
      generalize a.eval x = u at hxv
      cases hxv; rfl
    obtain ⟨v', w', l', hrun, hgrown, hnone, hsome⟩ := append_rows (P := P) (w := w) (R := R) (Γ := Γ) (rs := []) (xs := []) he hs hb hz hzl hsz (World.ownsRow_nil w 0 e sz) (fun r hr => by cases hr) (fun i j r p x hr => by simp at hr) hyr (by simpa using hlim) o.type
    rw [← hu] at hrun
    simp only [List.length_nil, Nat.zero_add, List.nil_append] at hnone hsome
    refine fresh hrun hgrown hnone (fun b cap hb => ?_) hyr.1 hp
    obtain ⟨g1, g2, g3⟩ := hsome b cap hb
    refine ⟨g1, ?_, g3⟩
    rcases g2 with g2 | g2
    · cases g2
    · exact g2
  · rename_i sz'' n f hx
    split at hp
    case isFalse => cases hp
    rename_i hq
    obtain ⟨rfl, hne⟩ := hq
    obtain ⟨hlim, hp⟩ := guard_some hp
    have hxv := h.rd x
    rw [hx] at hxv
    obtain ⟨A, hA, hin⟩ : ∃ A, a.eval x = .slice A n n ∧ Rep w R Γ (.slice A n n) (.sl sz'' n f) := by
      generalize a.eval x = u at hxv
      cases hxv with
      | slc A _ _ _ hr => exact ⟨A, rfl, hr⟩
    have hlen : ((List.range n).map f).length = n := by simp
    have hxr : RowsOf w R Γ sz'' ((List.range n).map f) (.slice A n n) := h.rows (x := .sl sz'' n f) hin (by simp [prows, hsz])
    have hxr2 : RowsOf w R Γ sz'' ((List.range n).map f) (.slice A ((List.range n).map f).length ((List.range n).map f).length) := by rw [hlen]; exact hxr
    obtain ⟨v', w', l', hrun, hgrown, hnone, hsome⟩ := append_capped (P := P) he hs hb hz hzl hsz hxr2 hyr hne (by rw [hlen]; exact hlim) o.type
    rw [hlen, ← hA] at hrun
    refine fresh hrun hgrown hnone hsome (fun r hr => ?_) ?_
    · rcases List.mem_append.1 hr with hr | hr
      · exact hxr.1 r hr
      · exact hyr.1 r hr
    · rw [List.length_append, hlen]; exact hp
  · cases hp
end
end Go.Qg

namespace Go.Qg
open Go.RowKit (Below)
section
variable {P : Program} {N : Nat} {B : Base} {w w' : World} {R R' : Nat → Nat → Prop} {Γ Γ' : Nat → Option Loc} {a : Act} {fr fr' : PF} {K : Act → World → Prop} {Q : Exit → Act → World → Prop}
theorem setBlock_grown {b : Nat} {o : Obj} : w.grownBy { w with heap := w.heap.setIfInBounds b o } (some b) :=
  ⟨rfl, rfl, rfl, by simp, fun k _ hne => by
    have : b ≠ k := fun e => hne (by rw [e])
    simp [Array.getElem?_setIfInBounds_ne this]⟩
theorem lookup_sound (h : Sim N B R Γ a w fr) {t : TypeId} {m k p : PV} {ok : Bool} {u v : Value} (hu : Rep w R Γ u m) (hv : Rep w R Γ v k) (hp : plookup P fr t m k ok = some p) :
    ∃ r, (Instr.lookup t u v ok).run P w = .ok r w ∧ Rep w R Γ r p := by
  unfold plookup at hp
  split at hp
  case h_2 => cases hp
  rename_i kt et i ht
  split at hp
  case h_2 => cases hp
  rename_i f ks vs hm
  split at hp
  case isFalse => cases hp
  rename_i hok
  obtain ⟨b, es, clock, h1, _, h3, h4, h5, h6, h7⟩ := h.slot i _ hm
  cases hu with
  | mp _ b' hb =>
  obtain rfl : b = b' := by rw [h1] at hb; simpa using hb
  have hE : Entries w R Γ es.toList ks := ⟨by simpa using h4, fun j x p hx hp => h6 j x p (by simpa using hx) hp⟩
  have hck := checkKey_sound (P := P) (w := w) (R := R) (Γ := Γ) hok hv es.isEmpty
  split at hp
  · rename_i j hj
    split at hp
    case h_2 => cases hp
    rename_i q hq
    have hjl := lt_of_get? hq
    have hx : es[j]? = some (es[j]'(by omega)) := Array.getElem?_eq_getElem (by omega)
    have hfind := find_sound (P := P) (w := w) (R := R) (Γ := Γ) hok hv hE hj
    simp only [found, Nat.sub_zero, Array.getElem?_toList, hx, Option.map_some] at hfind
    have hrep := h7 j _ q hx hq
    obtain rfl := Option.some.inj hp
    cases ok
    · exact ⟨_, by simp only [Instr.lookup, Sem.run_bind, run_underlying (tmap_some ht), Result.andThen_ok, MapKept.run_getObj_map h3, Sem.run_pure, hck, hfind]; rfl, hrep⟩
    · exact ⟨_, by simp only [Instr.lookup, Sem.run_bind, run_underlying (tmap_some ht), Result.andThen_ok, MapKept.run_getObj_map h3, Sem.run_pure, hck, hfind]; rfl, rep_pair hrep (.v (.bool true) rfl)⟩
  · rename_i hj
    split at hp
    case h_2 => cases hp
    rename_i z hz
    have hfind := find_sound (P := P) (w := w) (R := R) (Γ := Γ) hok hv hE hj
    simp only [found] at hfind
    obtain ⟨zv, hzr, hzrep⟩ := pzero_sound hz
    obtain rfl := Option.some.inj hp
    cases ok
    · exact ⟨_, by simp only [Instr.lookup, Sem.run_bind, run_underlying (tmap_some ht), Result.andThen_ok, MapKept.run_getObj_map h3, Sem.run_pure, hck, hfind, hzr]; rfl, hzrep w R Γ⟩
    · exact ⟨_, by simp only [Instr.lookup, Sem.run_bind, run_underlying (tmap_some ht), Result.andThen_ok, MapKept.run_getObj_map h3, Sem.run_pure, hck, hfind, hzr]; rfl, rep_pair (hzrep w R Γ) (.v (.bool false) rfl)⟩
  · cases hp
theorem mapUpdate_sound (h : Sim N B R Γ a w fr) {t : TypeId} {m k x : PV} {u v z : Value} (hu : Rep w R Γ u m) (hv : Rep w R Γ v k) (hz : Rep w R Γ z x) (hp : pmapUpdate P fr t m k x = some fr') :
    ∃ w', (Instr.mapUpdate t u v z).run P w = .ok () w' ∧ Sim N B R Γ a w' fr' := by
  unfold pmapUpdate at hp
  split at hp
  case h_2 => cases hp
  rename_i kt et i ht
  split at hp
  case h_2 => cases hp
  rename_i f ks vs hm
  split at hp
  case isFalse => cases hp
  rename_i hok
  obtain ⟨b, es, clock, h1, htmp, h3, h4, h5, h6, h7⟩ := h.slot i _ hm
  cases hu with
  | mp _ b' hb =>
  obtain rfl : b = b' := by rw [h1] at hb; simpa using hb
  have hE : Entries w R Γ es.toList ks := ⟨by simpa using h4, fun j x p hx hp => h6 j x p (by simpa using hx) hp⟩
  have hck := checkKey_sound (P := P) (w := w) (R := R) (Γ := Γ) hok hv false
  have hblt : b < w.heap.size := (Array.getElem?_eq_some_iff.1 h3).1
  have hset : ∀ (es' : Array MapEntry) (clock' : Nat), ({ w with heap := w.heap.setIfInBounds b (.map es' clock') } : World).heap[b]? = some (.map es' clock') := fun es' clock' => by
    simp [Array.getElem?_setIfInBounds_self_of_lt hblt]
  have fin : ∀ (es' : Array MapEntry) (clock' : Nat) (ks' vs' : List PV), es'.size = ks'.length → es'.size = vs'.length → (∀ (j : Nat) (x : MapEntry) (p : PV), es'[j]? = some x → ks'[j]? = some p → Rep w R Γ x.key p) →
      (∀ (j : Nat) (x : MapEntry) (p : PV), es'[j]? = some x → vs'[j]? = some p → Rep w R Γ x.val p) → Sim N B R Γ a { w with heap := w.heap.setIfInBounds b (.map es' clock') } (fr.set i (.map f ks' vs')) := by
    intro es' clock' ks' vs' g1 g2 g3 g4
    have hk : ∀ b' o, R b' o → R b' o ∧ ({ w with heap := w.heap.setIfInBounds b (.map es' clock') } : World).cell? ⟨b', o, none⟩ = w.cell? ⟨b', o, none⟩ := fun b' o hbo =>
      ⟨hbo, cell?_of_heap (setBlock_grown.block b' (h.bnd b' o hbo) (fun e => ((h.own i _ h1).2 _ rfl).2.2 o (Option.some.inj e ▸ hbo)))⟩
    have := h.setObj h1 (Loc.le_refl _) (w' := { w with heap := w.heap.setIfInBounds b (.map es' clock') }) setBlock_grown (.inl rfl) (p' := .map f ks' vs') rfl (by
      rw [give_same h1]
      exact ⟨b, es', clock', h1, htmp, hset es' clock', g1, g2, fun j x p hx hp => (g3 j x p hx hp).keep hk, fun j x p hx hp => (g4 j x p hx hp).keep hk⟩)
    rwa [give_same h1] at this
  split at hp
  · rename_i j hj
    obtain rfl := Option.some.inj hp
    have hjl : j < ks.length := by have := (pkfind_ge ks 0 hj).2; omega
    have hx : es[j]? = some (es[j]'(by omega)) := Array.getElem?_eq_getElem (by omega)
    have hfind := find_sound (P := P) (w := w) (R := R) (Γ := Γ) hok hv hE hj
    simp only [found, Nat.sub_zero, Array.getElem?_toList, hx, Option.map_some] at hfind
    have hkeq : pkeyEq P kt k (ks[j]) = some true := pkfind_hit ks 0 hj
    have hstay := stays_sound (P := P) (w := w) (R := R) (Γ := Γ) hkeq hv (h6 j _ _ hx (List.getElem?_eq_getElem hjl))
    refine ⟨_, ?_, fin (es.modify j fun e => { e with key := v, val := z }) clock (ks.set j k) (vs.set j x) (by simpa using h4) (by simpa using h5) (fun j' x' p' hx' hp' => ?_) (fun j' x' p' hx' hp' => ?_)⟩
    · simp only [Instr.mapUpdate, Sem.run_bind, run_underlying (tmap_some ht), Result.andThen_ok, MapKept.run_getObj_map h3, hck, hfind, hx, Option.map_some, Option.getD_some, hstay, MapKept.run_setObj_map _ h3]
    · rw [Array.getElem?_modify] at hx'
      rcases getElem?_set' hp' with ⟨rfl, rfl, _⟩ | ⟨hne, hp''⟩
      · rw [if_pos rfl, hx] at hx'
        obtain rfl := Option.some.inj hx'
        exact hv
      · rw [if_neg (Ne.symm hne)] at hx'
        exact h6 j' x' p' hx' hp''
    · rw [Array.getElem?_modify] at hx'
      rcases getElem?_set' hp' with ⟨rfl, rfl, _⟩ | ⟨hne, hp''⟩
      · rw [if_pos rfl, hx] at hx'
        obtain rfl := Option.some.inj hx'
        exact hz
      · rw [if_neg (Ne.symm hne)] at hx'
        exact h7 j' x' p' hx' hp''
  · rename_i hj
    obtain rfl := Option.some.inj hp
    have hfind := find_sound (P := P) (w := w) (R := R) (Γ := Γ) hok hv hE hj
    simp only [found] at hfind
    have hpush : ∀ (l : List PV) (y : PV) (j' : Nat) (x' : MapEntry) (p' : PV), es.size = l.length → (es.push { key := v, val := z, born := clock })[j']? = some x' → (l ++ [y])[j']? = some p' → (es[j']? = some x' ∧ l[j']? = some p') ∨ (x' = { key := v, val := z, born := clock } ∧ p' = y) := fun l y j' x' p' hl hx' hp' => by
      rw [Array.getElem?_push] at hx'
      split at hx'
      · rename_i hj'
        right
        rw [List.getElem?_append_right (by omega), hj', hl] at hp'
        simp at hp'
        exact ⟨(Option.some.inj hx').symm, hp'.symm⟩
      · left
        have hlt := (Array.getElem?_eq_some_iff.1 hx').1
        rw [List.getElem?_append_left (by omega)] at hp'
        exact ⟨hx', hp'⟩
    refine ⟨_, ?_, fin (es.push { key := v, val := z, born := clock }) (clock + 1) (ks ++ [k]) (vs ++ [x]) (by simp [h4]) (by simp [h5]) (fun j' x' p' hx' hp' => ?_) (fun j' x' p' hx' hp' => ?_)⟩
    · simp only [Instr.mapUpdate, Sem.run_bind, run_underlying (tmap_some ht), Result.andThen_ok, MapKept.run_getObj_map h3, hck, hfind, MapKept.run_setObj_map _ h3]
    · rcases hpush ks k j' x' p' h4 hx' hp' with ⟨e1, e2⟩ | ⟨rfl, rfl⟩
      · exact h6 j' x' p' e1 e2
      · exact hv
    · rcases hpush vs x j' x' p' h5 hx' hp' with ⟨e1, e2⟩ | ⟨rfl, rfl⟩
      · exact h7 j' x' p' e1 e2
      · exact hz
  · cases hp
end
end Go.Qg

namespace Go.Qg
open Go.RowKit (Below)
section
variable {P : Program} {N : Nat} {B : Base} {w w' : World} {R R' : Nat → Nat → Prop} {Γ Γ' : Nat → Option Loc} {a : Act} {fr fr' : PF} {K : Act → World → Prop} {Q : Exit → Act → World → Prop}
theorem pfill_length {sz : Nat} : ∀ (ps : List (Nat × PV)) (cells cs : List PV), pfill (fun i => some (i * sz, sz)) cells ps = some cs → cs.length = cells.length
  | [], cells, cs, h => by obtain rfl := Option.some.inj h; rfl
  | (i, q) :: ps, cells, cs, h => by
    simp only [pfill] at h
    split at h
    · rw [pfill_length ps _ _ h, setRange_length]
    · cases h
theorem pstep_sound (h : SimE N B a w fr) {o : Oper} (hN : ∀ d, o.dst = some d → d < N) (hp : pstep P o fr = some fr') (hK : ∀ a' w', SimE N B a' w' fr' → K a' w') : o.wp P a w K Q := by
  obtain ⟨R, Γ, h⟩ := h
  cases hop : o.op with
  | alloc t =>
    simp only [pstep, hop] at hp
    split at hp
    case h_2 => cases hp
    rename_i z hz
    obtain ⟨d, hd, hdl, hcl, rfl⟩ := pnew_some hp
    obtain ⟨zv, hrun, _, hzs, hz1, hzr, _⟩ := tzero_run hz
    refine wp_val' (u := .pointer (some ⟨w.heap.size, 0, none⟩)) (w' := w.alloc (.cells zv.cells t)) ?_ (hK _ _ (by rw [hd]; exact h.newBox (hN d hd) t (boxT t) (boxT_ty t) hcl hzs hz1 (hzr w R Γ)))
    simp [execOp, hop, Instr.alloc, hrun, run_newVar]
  | box t x =>
    simp only [pstep, hop] at hp
    split at hp
    case isFalse => cases hp
    rename_i hc
    obtain ⟨d, hd, hdl, hcl, rfl⟩ := pnew_some hp
    obtain ⟨e1, e2⟩ := rep_cells_of (h.rd x) hc
    refine wp_val' (u := .pointer (some ⟨w.heap.size, 0, none⟩)) (w' := w.alloc (.cells (a.eval x).cells t)) ?_ (hK _ _ (by rw [hd]; exact h.newBox (hN d hd) t true (fun _ e => by cases e) hcl e1 (fun p hp => List.all_eq_true.1 hc p hp) e2))
    simp [execOp, hop, Instr.box, run_newVar]
  | store t p x =>
    simp only [pstep, hop] at hp
    split at hp
    case isFalse => cases hp
    rename_i hc
    split at hp
    case h_2 => cases hp
    rename_i fr1 hst
    obtain ⟨w', hr, hs'⟩ := store_sound (P := P) h (h.rd p) (h.rd x) hc.1 hc.2 hst
    exact skip_step hN hs' (by simp [execOp, hop, hr]) hp hK
  | buildSlice t len parts =>
    simp only [pstep, hop] at hp
    split at hp
    case h_2 => cases hp
    rename_i e he
    split at hp
    case h_2 => cases hp
    rename_i sz z hs hz
    split at hp
    case isFalse => cases hp
    rename_i hc
    obtain ⟨hzl, hsz, hbig⟩ := hc
    split at hp
    case h_2 => cases hp
    rename_i cs hcs
    obtain ⟨d, hd, hdl, hcl, rfl⟩ := pnew_some hp
    obtain ⟨zv, hrun, _, hzs, hz1, hzr, _⟩ := tzero_run hz
    have hzsz : zv.cells.size = sz := by omega
    have hget : ∀ i, i < len * sz → z[i % sz]? = some (z.getD (i % z.length) .undef) := fun i _ => by
      have : i % sz < z.length := by rw [hzl]; exact Nat.mod_lt _ hsz
      rw [hzl]
      simp [List.getElem?_eq_getElem this]
    obtain ⟨cv', f1, f2, f3, f4⟩ := pfill_sound (w := w) (R := R) (Γ := Γ) (fun i => some (i * sz, sz)) (parts.toList.map fun p => (p.1, rd fr p.2)) (parts.toList.map fun p => (p.1, a.eval p.2)) (zeros z (len * sz)) cs
      ((Array.range (len * sz)).map (zv.cells[· % zv.cells.size]!)) (by simp) (fun i u p hu hp => by
        rw [List.getElem?_map] at hu hp
        cases hx : parts.toList[i]? with
        | none => rw [hx] at hu; cases hu
        | some x =>
          rw [hx] at hu hp
          obtain rfl := Option.some.inj hu
          obtain rfl := Option.some.inj hp
          exact ⟨rfl, h.rd x.2⟩)
      (by simp [zeros]) (fun i u p hu hp => by
        obtain ⟨hi, rfl⟩ := zeros_get hp
        have hm : i % sz < zv.cells.size := by rw [hzsz]; exact Nat.mod_lt _ hsz
        have hu' : zv.cells[i % sz]? = some u := by
          simp [hzsz, hi] at hu
          rw [← hu, getElem!_pos zv.cells (i % sz) hm]
          exact Array.getElem?_eq_getElem hm
        exact hzr w R Γ _ _ _ hu' (hget i hi)) (fun p hp => by
        obtain ⟨i, hi⟩ := List.mem_iff_getElem?.1 hp
        obtain ⟨hi', rfl⟩ := zeros_get hi
        exact hz1 _ (List.mem_of_getElem? (hget i hi'))) hcs
    have hcl' : cs.length = len * sz := by rw [pfill_length _ _ _ hcs]; simp [zeros]
    have hmaxl : len ≤ maxLen := by
      have : len ≤ len * sz := Nat.le_mul_of_pos_right _ hsz
      simp [maxLen]; omega
    have hnew := h.newRows (hN d hd) (e := e) (sz := sz) (n := len) (cap := len) (vs := cv') (rs := chunk sz len cs) hcl (by simp [chunk]) (Nat.le_refl _) hmaxl (by omega) hsz
      (fun r hr => by
        obtain ⟨i, hi, rfl⟩ := List.mem_map.1 hr
        have : (i + 1) * sz ≤ len * sz := Nat.mul_le_mul_right _ (by have := List.mem_range.1 hi; omega)
        rw [Nat.add_mul] at this
        exact ⟨by simp; omega, fun p hp => f4 p (List.mem_of_mem_drop (List.mem_of_mem_take hp))⟩)
      (fun i j r p x hi hj hx => f3 _ _ _ hx (chunk_get hi hj).2.2)
    refine wp_val' (u := .slice (some ⟨w.heap.size, 0, none⟩) len len) (w' := w.alloc (.cells cv' e)) ?_ (hK _ _ (by rw [hd]; exact hnew))
    have hfill : Instr.fill (fun i => some (i * sz, sz)) ((Array.range (len * sz)).map (zv.cells[· % zv.cells.size]!)) (parts.map fun p => (p.1, a.eval p.2)).toList = some cv' := by
      rw [Array.toList_map]; exact f1
    have hbs : (Instr.buildSlice t len (parts.map fun p => (p.1, a.eval p.2))).run P w = .ok (.slice (some ⟨w.heap.size, 0, none⟩) len len) (w.alloc (.cells cv' e)) := by
      unfold Instr.buildSlice
      simp only [Sem.run_bind, run_underlying (tel_some he), Result.andThen_ok, run_sizeOf hs]
      rw [if_neg (by simpa using hbig)]
      by_cases h0 : len * sz = 0
      · have er : ∀ f : Nat → Value, (Array.range 0).map f = #[] := fun f => by simp
        simp only [h0, er] at hfill
        simp only [h0, if_true, Sem.run_bind, Result.andThen_ok, Sem.run_pure, er, hfill, newRow]
        rfl
      · simp only [h0, if_false, Sem.run_bind, hrun, Result.andThen_ok, Sem.run_pure, hfill, newRow]
        rfl
    simp only [execOp, hop, Sem.run_bind]
    rw [show (parts.map fun x : Nat × Operand => match x with | (i, x) => (i, a.eval x)) = parts.map fun (p : Nat × Operand) => (p.1, a.eval p.2) from rfl, hbs]
    rfl
  | makeSlice t l c =>
    simp only [pstep, hop] at hp
    split at hp
    case h_2 => cases hp
    rename_i e n m he hn hm
    split at hp
    case h_2 => cases hp
    rename_i sz z bytes hs hz hby
    split at hp
    case isFalse => cases hp
    rename_i hc
    obtain ⟨hg, hp⟩ := guard_some hp
    obtain ⟨d, hd, hdl, hcl, rfl⟩ := pnew_some hp
    obtain ⟨zv, hrun, hzv, hzs, hz1, hzr, _⟩ := tzero_run hz
    have h1 := h.rd l; rw [hn] at h1
    have h2 := h.rd c; rw [hm] at h2
    have h1' := Rep.of_v h1
    have h2' := Rep.of_v h2
    obtain ⟨i, hi, hi1, hi2⟩ : ∃ i, P.info? e = some i ∧ i.size = sz ∧ i.bytes = bytes := by
      unfold tsz at hs; unfold tbytes at hby
      cases hq : P.info? e with
      | none => simp [hq] at hs
      | some i => rw [hq] at hs hby; exact ⟨i, rfl, by simpa using hs, by simpa using hby⟩
    have hzi : i.zero = some zv := by rw [hi] at hzv; simpa using hzv
    have hr := run_make (P := P) w t e i zv (tel_some he) hi hzi .i64 .i64 n m hg.1 hg.2.1 (by rw [hi2]; exact hg.2.2.1) hg.2.2.2
    have hnew := h.newRows (hN d hd) (e := e) (sz := sz) (n := n.toNat) (cap := m.toNat) (vs := madeCells zv.cells (m.toNat * i.size)) (rs := List.replicate n.toNat z) hcl (by simp) (by omega) (by simp [maxLen]; omega) (by rw [size_madeCells, hi1]) hc.2
      (fun r hr => by rw [(List.mem_replicate.1 hr).2]; exact ⟨hc.1, fun p hp => hz1 p hp⟩)
      (fun k j r p x hk hj hx => by
        have hk' : k < n.toNat := by have := lt_of_get? hk; simpa using this
        rw [List.getElem?_replicate, if_pos hk'] at hk
        obtain rfl := Option.some.inj hk
        have hjz : j < sz := by have := lt_of_get? hj; omega
        have hlt : k * sz + j < m.toNat * i.size := by
          rw [hi1]
          have : (k + 1) * sz ≤ m.toNat * sz := Nat.mul_le_mul_right _ (by omega)
          rw [Nat.add_mul] at this; omega
        have hmod : (k * sz + j) % zv.cells.size = j := by
          rw [hzs, hc.1, Nat.mul_comm, Nat.mul_add_mod, Nat.mod_eq_of_lt hjz]
        simp only [madeCells, Array.getElem?_map, Array.getElem?_range, hlt, if_true, Option.map_some, Option.some.injEq] at hx
        rw [hmod] at hx
        have hjc : j < zv.cells.size := by omega
        rw [getElem!_pos zv.cells j hjc] at hx
        exact hzr w R Γ j x p (by rw [← hx]; exact Array.getElem?_eq_getElem hjc) hj)
    refine wp_val' (u := .slice (some ⟨w.heap.size, 0, none⟩) n.toNat m.toNat) (w' := w.alloc (.cells (madeCells zv.cells (m.toNat * i.size)) e)) ?_ (hK _ _ (by rw [hd]; exact hnew))
    simp only [execOp, hop, Sem.run_bind, h1', h2', hr]
    rfl
  | makeMap t r =>
    cases r with
    | some r => simp only [pstep, hop, pval] at hp; cases hp
    | none =>
      simp only [pstep, hop] at hp
      obtain ⟨d, hd, hdl, hcl, rfl⟩ := pnew_some hp
      refine wp_val' (u := .map (some w.heap.size)) (w' := w.alloc (.map #[] 0)) ?_ (hK _ _ (by rw [hd]; exact h.newMap (hN d hd) hcl 0))
      have hr : (Instr.makeMap t none).run P w = .ok (.map (some w.heap.size)) (w.alloc (.map #[] 0)) := rfl
      simp [execOp, hop, hr]
  | mapUpdate t m k x =>
    simp only [pstep, hop] at hp
    split at hp
    case h_2 => cases hp
    rename_i fr1 hst
    obtain ⟨w', hr, hs'⟩ := mapUpdate_sound (P := P) h (h.rd m) (h.rd k) (h.rd x) hst
    exact skip_step hN hs' (by simp [execOp, hop, hr]) hp hK
  | lookup t m k ok =>
    simp only [pstep, hop] at hp
    split at hp
    case h_2 => cases hp
    rename_i q hq
    obtain ⟨r, hr, hrep⟩ := lookup_sound (P := P) h (h.rd m) (h.rd k) hq
    exact put_step h hN (by simp [execOp, hop, hr]) hrep hp hK
  | call c =>
    simp only [pstep, hop] at hp
    split at hp
    · rename_i d hc hd
      split at hp
      · rename_i x y t t' hargs hts
        split at hp
        case isFalse => cases hp
        rename_i htt
        subst htt
        exact append_step h hN hop hc hd hargs hts hp hK
      · cases hp
    · rw [← hop] at hp; exact val_step h hN hp hK
  | _ => simp only [pstep, hop] at hp; rw [← hop] at hp; exact val_step h hN hp hK
end
end Go.Qg
