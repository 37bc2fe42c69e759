/- What the program says of its types. -/
import Derived.Test.YtcphhbiehaimeaaAi20m
import Derived.Test.YtcphhbiehaimeaaProg
namespace Go.Proofs.Ytcphhbiehaimeaa
theorem arT_22 : arT Try.prog 22 = none := by kernel_rfl
theorem arT_23 : arT Try.prog 23 = some (8, 3, 1) := by kernel_rfl
theorem arT_24 : arT Try.prog 24 = none := by kernel_rfl
theorem arT_27 : arT Try.prog 27 = none := by kernel_rfl
theorem arT_34 : arT Try.prog 34 = none := by kernel_rfl
theorem arT_35 : arT Try.prog 35 = none := by kernel_rfl
theorem arT_50 : arT Try.prog 50 = none := by kernel_rfl
theorem arT_59 : arT Try.prog 59 = some (3, 3, 1) := by kernel_rfl
theorem arT_61 : arT Try.prog 61 = some (4, 3, 1) := by kernel_rfl
theorem arT_64 : arT Try.prog 64 = some (2, 3, 1) := by kernel_rfl
theorem arT_65 : arT Try.prog 65 = some (4, 4, 1) := by kernel_rfl
theorem arT_68 : arT Try.prog 68 = none := by kernel_rfl
theorem boolT_24 : boolT Try.prog 24 = false := by kernel_rfl
theorem boolT_3 : boolT Try.prog 3 = false := by kernel_rfl
theorem boolT_38 : boolT Try.prog 38 = false := by kernel_rfl
theorem boolT_4 : boolT Try.prog 4 = true := by kernel_rfl
theorem boolT_79 : boolT Try.prog 79 = false := by kernel_rfl
theorem flatT_24 : flatT Try.prog 24 = none := by kernel_rfl
theorem flatT_3 : flatT Try.prog 3 = none := by kernel_rfl
theorem flatT_38 : flatT Try.prog 38 = none := by kernel_rfl
theorem flatT_4 : flatT Try.prog 4 = none := by kernel_rfl
theorem flatT_79 : flatT Try.prog 79 = none := by kernel_rfl
theorem intT_3 : intT Try.prog 3 = some IntKind.i64 := by kernel_rfl
theorem intT_93 : intT Try.prog 93 = some IntKind.u64 := by kernel_rfl
theorem lay_23 : lay Try.prog 23 = some (8, true) := by kernel_rfl
theorem lay_24 : lay Try.prog 24 = some (1, false) := by kernel_rfl
theorem lay_26 : lay Try.prog 26 = some (6, true) := by kernel_rfl
theorem lay_27 : lay Try.prog 27 = some (1, false) := by kernel_rfl
theorem lay_29 : lay Try.prog 29 = some (3, true) := by kernel_rfl
theorem lay_3 : lay Try.prog 3 = some (1, false) := by kernel_rfl
theorem lay_32 : lay Try.prog 32 = some (1, false) := by kernel_rfl
theorem lay_35 : lay Try.prog 35 = some (1, false) := by kernel_rfl
theorem lay_37 : lay Try.prog 37 = some (4, true) := by kernel_rfl
theorem lay_4 : lay Try.prog 4 = some (1, false) := by kernel_rfl
theorem lay_59 : lay Try.prog 59 = some (3, true) := by kernel_rfl
theorem lay_68 : lay Try.prog 68 = some (1, false) := by kernel_rfl
theorem lay_70 : lay Try.prog 70 = some (4, true) := by kernel_rfl
theorem lay_79 : lay Try.prog 79 = some (2, true) := by kernel_rfl
theorem lay_82 : lay Try.prog 82 = some (1, false) := by kernel_rfl
theorem lay_88 : lay Try.prog 88 = some (1, false) := by kernel_rfl
theorem okF_10 : okF Try.prog 10 = true := by kernel_rfl
theorem okF_11 : okF Try.prog 11 = true := by kernel_rfl
theorem okF_12 : okF Try.prog 12 = true := by kernel_rfl
theorem okF_13 : okF Try.prog 13 = true := by kernel_rfl
theorem okF_14 : okF Try.prog 14 = true := by kernel_rfl
theorem okF_15 : okF Try.prog 15 = true := by kernel_rfl
theorem okF_16 : okF Try.prog 16 = true := by kernel_rfl
theorem okF_17 : okF Try.prog 17 = true := by kernel_rfl
theorem okF_18 : okF Try.prog 18 = true := by kernel_rfl
theorem okF_19 : okF Try.prog 19 = true := by kernel_rfl
theorem okF_20 : okF Try.prog 20 = true := by kernel_rfl
theorem okF_21 : okF Try.prog 21 = true := by kernel_rfl
theorem okF_22 : okF Try.prog 22 = true := by kernel_rfl
theorem okF_23 : okF Try.prog 23 = true := by kernel_rfl
theorem okF_24 : okF Try.prog 24 = true := by kernel_rfl
theorem okF_25 : okF Try.prog 25 = true := by kernel_rfl
theorem okF_26 : okF Try.prog 26 = true := by kernel_rfl
theorem okF_27 : okF Try.prog 27 = true := by kernel_rfl
theorem okF_28 : okF Try.prog 28 = true := by kernel_rfl
theorem okF_29 : okF Try.prog 29 = true := by kernel_rfl
theorem okF_3 : okF Try.prog 3 = true := by kernel_rfl
theorem okF_30 : okF Try.prog 30 = true := by kernel_rfl
theorem okF_31 : okF Try.prog 31 = true := by kernel_rfl
theorem okF_32 : okF Try.prog 32 = true := by kernel_rfl
theorem okF_33 : okF Try.prog 33 = true := by kernel_rfl
theorem okF_34 : okF Try.prog 34 = true := by kernel_rfl
theorem okF_35 : okF Try.prog 35 = true := by kernel_rfl
theorem okF_36 : okF Try.prog 36 = true := by kernel_rfl
theorem okF_37 : okF Try.prog 37 = true := by kernel_rfl
theorem okF_38 : okF Try.prog 38 = true := by kernel_rfl
theorem okF_39 : okF Try.prog 39 = true := by kernel_rfl
theorem okF_4 : okF Try.prog 4 = true := by kernel_rfl
theorem okF_40 : okF Try.prog 40 = true := by kernel_rfl
theorem okF_41 : okF Try.prog 41 = true := by kernel_rfl
theorem okF_42 : okF Try.prog 42 = true := by kernel_rfl
theorem okF_43 : okF Try.prog 43 = true := by kernel_rfl
theorem okF_44 : okF Try.prog 44 = true := by kernel_rfl
theorem okF_45 : okF Try.prog 45 = true := by kernel_rfl
theorem okF_46 : okF Try.prog 46 = true := by kernel_rfl
theorem okF_47 : okF Try.prog 47 = true := by kernel_rfl
theorem okF_48 : okF Try.prog 48 = true := by kernel_rfl
theorem okF_49 : okF Try.prog 49 = true := by kernel_rfl
theorem okF_5 : okF Try.prog 5 = true := by kernel_rfl
theorem okF_50 : okF Try.prog 50 = true := by kernel_rfl
theorem okF_51 : okF Try.prog 51 = true := by kernel_rfl
theorem okF_52 : okF Try.prog 52 = true := by kernel_rfl
theorem okF_53 : okF Try.prog 53 = true := by kernel_rfl
theorem okF_54 : okF Try.prog 54 = true := by kernel_rfl
theorem okF_55 : okF Try.prog 55 = true := by kernel_rfl
theorem okF_56 : okF Try.prog 56 = true := by kernel_rfl
theorem okF_57 : okF Try.prog 57 = true := by kernel_rfl
theorem okF_58 : okF Try.prog 58 = true := by kernel_rfl
theorem okF_59 : okF Try.prog 59 = true := by kernel_rfl
theorem okF_6 : okF Try.prog 6 = true := by kernel_rfl
theorem okF_60 : okF Try.prog 60 = true := by kernel_rfl
theorem okF_61 : okF Try.prog 61 = true := by kernel_rfl
theorem okF_62 : okF Try.prog 62 = true := by kernel_rfl
theorem okF_63 : okF Try.prog 63 = true := by kernel_rfl
theorem okF_64 : okF Try.prog 64 = true := by kernel_rfl
theorem okF_65 : okF Try.prog 65 = true := by kernel_rfl
theorem okF_66 : okF Try.prog 66 = true := by kernel_rfl
theorem okF_67 : okF Try.prog 67 = true := by kernel_rfl
theorem okF_68 : okF Try.prog 68 = true := by kernel_rfl
theorem okF_69 : okF Try.prog 69 = true := by kernel_rfl
theorem okF_7 : okF Try.prog 7 = true := by kernel_rfl
theorem okF_70 : okF Try.prog 70 = true := by kernel_rfl
theorem okF_71 : okF Try.prog 71 = true := by kernel_rfl
theorem okF_72 : okF Try.prog 72 = true := by kernel_rfl
theorem okF_73 : okF Try.prog 73 = true := by kernel_rfl
theorem okF_74 : okF Try.prog 74 = true := by kernel_rfl
theorem okF_75 : okF Try.prog 75 = true := by kernel_rfl
theorem okF_8 : okF Try.prog 8 = true := by kernel_rfl
theorem okF_9 : okF Try.prog 9 = true := by kernel_rfl
theorem plT_26 : plT Try.prog 26 = some [(0, 1), (1, 1), (2, 1), (3, 1), (4, 1), (5, 1)] := by kernel_rfl
theorem plT_29 : plT Try.prog 29 = some [(0, 1), (1, 1), (2, 1)] := by kernel_rfl
theorem plT_37 : plT Try.prog 37 = some [(0, 1), (1, 1), (2, 1), (3, 1)] := by kernel_rfl
theorem plT_70 : plT Try.prog 70 = some [(0, 1), (1, 1), (2, 1), (3, 1)] := by kernel_rfl
theorem plT_79 : plT Try.prog 79 = some [(0, 1), (1, 1)] := by kernel_rfl
theorem slT_22 : slT Try.prog 22 = some (59, 3, 24) := by kernel_rfl
theorem slT_23 : slT Try.prog 23 = none := by kernel_rfl
theorem slT_24 : slT Try.prog 24 = some (3, 1, 8) := by kernel_rfl
theorem slT_27 : slT Try.prog 27 = some (26, 6, 64) := by kernel_rfl
theorem slT_34 : slT Try.prog 34 = some (29, 3, 56) := by kernel_rfl
theorem slT_35 : slT Try.prog 35 = some (70, 4, 48) := by kernel_rfl
theorem slT_50 : slT Try.prog 50 = some (24, 1, 24) := by kernel_rfl
theorem slT_59 : slT Try.prog 59 = none := by kernel_rfl
theorem slT_61 : slT Try.prog 61 = none := by kernel_rfl
theorem slT_64 : slT Try.prog 64 = none := by kernel_rfl
theorem slT_65 : slT Try.prog 65 = none := by kernel_rfl
theorem slT_68 : slT Try.prog 68 = some (79, 2, 16) := by kernel_rfl
theorem stT_26_0 : stT Try.prog 26 0 = some (0, 1, false) := by kernel_rfl
theorem stT_26_1 : stT Try.prog 26 1 = some (1, 1, false) := by kernel_rfl
theorem stT_26_2 : stT Try.prog 26 2 = some (2, 1, false) := by kernel_rfl
theorem stT_26_3 : stT Try.prog 26 3 = some (3, 1, false) := by kernel_rfl
theorem stT_26_4 : stT Try.prog 26 4 = some (4, 1, false) := by kernel_rfl
theorem stT_26_5 : stT Try.prog 26 5 = some (5, 1, false) := by kernel_rfl
theorem stT_29_0 : stT Try.prog 29 0 = some (0, 1, false) := by kernel_rfl
theorem stT_29_1 : stT Try.prog 29 1 = some (1, 1, false) := by kernel_rfl
theorem stT_29_2 : stT Try.prog 29 2 = some (2, 1, false) := by kernel_rfl
theorem stT_37_0 : stT Try.prog 37 0 = some (0, 1, false) := by kernel_rfl
theorem stT_37_1 : stT Try.prog 37 1 = some (1, 1, false) := by kernel_rfl
theorem stT_37_2 : stT Try.prog 37 2 = some (2, 1, false) := by kernel_rfl
theorem stT_37_3 : stT Try.prog 37 3 = some (3, 1, false) := by kernel_rfl
theorem stT_70_0 : stT Try.prog 70 0 = some (0, 1, false) := by kernel_rfl
theorem stT_70_1 : stT Try.prog 70 1 = some (1, 1, false) := by kernel_rfl
theorem stT_70_2 : stT Try.prog 70 2 = some (2, 1, false) := by kernel_rfl
theorem stT_70_3 : stT Try.prog 70 3 = some (3, 1, false) := by kernel_rfl
theorem stT_79_0 : stT Try.prog 79 0 = some (0, 1, false) := by kernel_rfl
theorem stT_79_1 : stT Try.prog 79 1 = some (1, 1, false) := by kernel_rfl
theorem zeroT_24 : zeroT Try.prog 24 = some [V.nsl] := by kernel_rfl
theorem zeroT_26 : zeroT Try.prog 26 = some [V.int IntKind.i64 0, V.int IntKind.i64 0, V.int IntKind.i64 0, V.int IntKind.i64 0, V.nsl, V.int IntKind.i64 0] := by kernel_rfl
theorem zeroT_29 : zeroT Try.prog 29 = some [V.int IntKind.i64 0, V.nsl, V.nsl] := by kernel_rfl
theorem zeroT_3 : zeroT Try.prog 3 = some [V.int IntKind.i64 0] := by kernel_rfl
theorem zeroT_32 : zeroT Try.prog 32 = some [V.nf] := by kernel_rfl
theorem zeroT_35 : zeroT Try.prog 35 = some [V.nsl] := by kernel_rfl
theorem zeroT_37 : zeroT Try.prog 37 = some [V.bool false, V.int IntKind.i64 0, V.int IntKind.i64 0, V.nsl] := by kernel_rfl
theorem zeroT_59 : zeroT Try.prog 59 = some [V.int IntKind.i64 0, V.int IntKind.i64 0, V.int IntKind.i64 0] := by kernel_rfl
theorem zeroT_65 : zeroT Try.prog 65 = some [V.bool false, V.bool false, V.bool false, V.bool false] := by kernel_rfl
theorem zeroT_70 : zeroT Try.prog 70 = some [V.int IntKind.i64 0, V.int IntKind.i64 0, V.int IntKind.i64 0, V.nsl] := by kernel_rfl
theorem zeroT_79 : zeroT Try.prog 79 = some [V.int IntKind.i64 0, V.int IntKind.i64 0] := by kernel_rfl
theorem mixed : Try.prog.follows .mixedOrders = true := by kernel_rfl
end Go.Proofs.Ytcphhbiehaimeaa
