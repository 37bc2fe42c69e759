/- What the program says of its types. -/
import Derived.Test.YtpaielaniekdbaaAi20
import Derived.Test.YtpaielaniekdbaaProg
namespace Go.Proofs.Ytpaielaniekdbaa
theorem arT_23 : arT Try.prog 23 = some (16, 3, 1) := by kernel_rfl
theorem arT_24 : arT Try.prog 24 = some (2, 23, 16) := by kernel_rfl
theorem arT_25 : arT Try.prog 25 = none := by kernel_rfl
theorem arT_26 : arT Try.prog 26 = some (2, 3, 1) := by kernel_rfl
theorem arT_27 : arT Try.prog 27 = none := by kernel_rfl
theorem arT_32 : arT Try.prog 32 = none := by kernel_rfl
theorem arT_41 : arT Try.prog 41 = none := by kernel_rfl
theorem arT_49 : arT Try.prog 49 = none := by kernel_rfl
theorem arT_9 : arT Try.prog 9 = none := by kernel_rfl
theorem boolT_23 : boolT Try.prog 23 = false := by kernel_rfl
theorem boolT_3 : boolT Try.prog 3 = false := by kernel_rfl
theorem boolT_4 : boolT Try.prog 4 = true := by kernel_rfl
theorem boolT_43 : boolT Try.prog 43 = false := by kernel_rfl
theorem flatT_23 : flatT Try.prog 23 = some (16, IntKind.i64) := by kernel_rfl
theorem flatT_3 : flatT Try.prog 3 = none := by kernel_rfl
theorem flatT_4 : flatT Try.prog 4 = none := by kernel_rfl
theorem flatT_43 : flatT Try.prog 43 = none := by kernel_rfl
theorem intT_3 : intT Try.prog 3 = some IntKind.i64 := by kernel_rfl
theorem intT_5 : intT Try.prog 5 = some IntKind.u8 := by kernel_rfl
theorem intT_61 : intT Try.prog 61 = some IntKind.u64 := by kernel_rfl
theorem intT_69 : intT Try.prog 69 = some IntKind.u32 := by kernel_rfl
theorem intT_71 : intT Try.prog 71 = some IntKind.u64 := by kernel_rfl
theorem lay_23 : lay Try.prog 23 = some (16, true) := by kernel_rfl
theorem lay_26 : lay Try.prog 26 = some (2, true) := by kernel_rfl
theorem lay_27 : lay Try.prog 27 = some (1, false) := by kernel_rfl
theorem lay_29 : lay Try.prog 29 = some (2, true) := by kernel_rfl
theorem lay_3 : lay Try.prog 3 = some (1, false) := by kernel_rfl
theorem okF_10 : okF Try.prog 10 = true := by kernel_rfl
theorem okF_11 : okF Try.prog 11 = true := by kernel_rfl
theorem okF_12 : okF Try.prog 12 = true := by kernel_rfl
theorem okF_13 : okF Try.prog 13 = true := by kernel_rfl
theorem okF_14 : okF Try.prog 14 = true := by kernel_rfl
theorem okF_15 : okF Try.prog 15 = true := by kernel_rfl
theorem okF_16 : okF Try.prog 16 = true := by kernel_rfl
theorem okF_17 : okF Try.prog 17 = true := by kernel_rfl
theorem okF_18 : okF Try.prog 18 = true := by kernel_rfl
theorem okF_19 : okF Try.prog 19 = true := by kernel_rfl
theorem okF_20 : okF Try.prog 20 = true := by kernel_rfl
theorem okF_21 : okF Try.prog 21 = true := by kernel_rfl
theorem okF_22 : okF Try.prog 22 = true := by kernel_rfl
theorem okF_23 : okF Try.prog 23 = true := by kernel_rfl
theorem okF_24 : okF Try.prog 24 = true := by kernel_rfl
theorem okF_25 : okF Try.prog 25 = true := by kernel_rfl
theorem okF_26 : okF Try.prog 26 = true := by kernel_rfl
theorem okF_27 : okF Try.prog 27 = true := by kernel_rfl
theorem okF_28 : okF Try.prog 28 = true := by kernel_rfl
theorem okF_29 : okF Try.prog 29 = true := by kernel_rfl
theorem okF_3 : okF Try.prog 3 = true := by kernel_rfl
theorem okF_30 : okF Try.prog 30 = true := by kernel_rfl
theorem okF_31 : okF Try.prog 31 = true := by kernel_rfl
theorem okF_32 : okF Try.prog 32 = true := by kernel_rfl
theorem okF_33 : okF Try.prog 33 = true := by kernel_rfl
theorem okF_34 : okF Try.prog 34 = true := by kernel_rfl
theorem okF_35 : okF Try.prog 35 = true := by kernel_rfl
theorem okF_36 : okF Try.prog 36 = true := by kernel_rfl
theorem okF_37 : okF Try.prog 37 = true := by kernel_rfl
theorem okF_38 : okF Try.prog 38 = true := by kernel_rfl
theorem okF_39 : okF Try.prog 39 = true := by kernel_rfl
theorem okF_4 : okF Try.prog 4 = true := by kernel_rfl
theorem okF_40 : okF Try.prog 40 = true := by kernel_rfl
theorem okF_41 : okF Try.prog 41 = true := by kernel_rfl
theorem okF_42 : okF Try.prog 42 = true := by kernel_rfl
theorem okF_43 : okF Try.prog 43 = true := by kernel_rfl
theorem okF_44 : okF Try.prog 44 = true := by kernel_rfl
theorem okF_45 : okF Try.prog 45 = true := by kernel_rfl
theorem okF_46 : okF Try.prog 46 = true := by kernel_rfl
theorem okF_47 : okF Try.prog 47 = true := by kernel_rfl
theorem okF_48 : okF Try.prog 48 = true := by kernel_rfl
theorem okF_49 : okF Try.prog 49 = true := by kernel_rfl
theorem okF_5 : okF Try.prog 5 = true := by kernel_rfl
theorem okF_50 : okF Try.prog 50 = true := by kernel_rfl
theorem okF_51 : okF Try.prog 51 = true := by kernel_rfl
theorem okF_52 : okF Try.prog 52 = true := by kernel_rfl
theorem okF_53 : okF Try.prog 53 = true := by kernel_rfl
theorem okF_54 : okF Try.prog 54 = true := by kernel_rfl
theorem okF_55 : okF Try.prog 55 = true := by kernel_rfl
theorem okF_56 : okF Try.prog 56 = true := by kernel_rfl
theorem okF_57 : okF Try.prog 57 = true := by kernel_rfl
theorem okF_58 : okF Try.prog 58 = true := by kernel_rfl
theorem okF_59 : okF Try.prog 59 = true := by kernel_rfl
theorem okF_6 : okF Try.prog 6 = true := by kernel_rfl
theorem okF_60 : okF Try.prog 60 = true := by kernel_rfl
theorem okF_61 : okF Try.prog 61 = true := by kernel_rfl
theorem okF_62 : okF Try.prog 62 = true := by kernel_rfl
theorem okF_7 : okF Try.prog 7 = true := by kernel_rfl
theorem okF_8 : okF Try.prog 8 = true := by kernel_rfl
theorem okF_9 : okF Try.prog 9 = true := by kernel_rfl
theorem plT_23 : plT Try.prog 23 = some [(0, 1), (1, 1), (2, 1), (3, 1), (4, 1), (5, 1), (6, 1), (7, 1), (8, 1), (9, 1), (10, 1), (11, 1), (12, 1), (13, 1), (14, 1), (15, 1)] := by kernel_rfl
theorem plT_26 : plT Try.prog 26 = some [(0, 1), (1, 1)] := by kernel_rfl
theorem plT_29 : plT Try.prog 29 = some [(0, 1), (1, 1)] := by kernel_rfl
theorem slT_23 : slT Try.prog 23 = none := by kernel_rfl
theorem slT_24 : slT Try.prog 24 = none := by kernel_rfl
theorem slT_25 : slT Try.prog 25 = some (26, 2, 16) := by kernel_rfl
theorem slT_26 : slT Try.prog 26 = none := by kernel_rfl
theorem slT_27 : slT Try.prog 27 = some (29, 2, 16) := by kernel_rfl
theorem slT_32 : slT Try.prog 32 = some (23, 16, 128) := by kernel_rfl
theorem slT_41 : slT Try.prog 41 = some (27, 1, 24) := by kernel_rfl
theorem slT_49 : slT Try.prog 49 = some (3, 1, 8) := by kernel_rfl
theorem stT_29_0 : stT Try.prog 29 0 = some (0, 1, false) := by kernel_rfl
theorem stT_29_1 : stT Try.prog 29 1 = some (1, 1, false) := by kernel_rfl
theorem zeroT_23 : zeroT Try.prog 23 = some (cellsI (List.replicate 16 0)) := by kernel_rfl
theorem zeroT_26 : zeroT Try.prog 26 = some [V.int IntKind.i64 0, V.int IntKind.i64 0] := by kernel_rfl
theorem zeroT_27 : zeroT Try.prog 27 = some [V.nsl] := by kernel_rfl
theorem zeroT_29 : zeroT Try.prog 29 = some [V.int IntKind.i64 0, V.int IntKind.i64 0] := by kernel_rfl
theorem zeroT_3 : zeroT Try.prog 3 = some [V.int IntKind.i64 0] := by kernel_rfl
theorem mixed : Try.prog.follows .mixedOrders = true := by kernel_rfl
end Go.Proofs.Ytpaielaniekdbaa
