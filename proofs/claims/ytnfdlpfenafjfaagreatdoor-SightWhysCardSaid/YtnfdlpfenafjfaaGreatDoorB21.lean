/-
  The program's functions, contracts: what each one returns, whatever the world: part 22. No condition.
-/
import Derived.Test.YtnfdlpfenafjfaaGreatDoorB00
import Derived.Test.YtnfdlpfenafjfaaGreatDoorB01
import Derived.Test.YtnfdlpfenafjfaaGreatDoorB02
import Derived.Test.YtnfdlpfenafjfaaGreatDoorB03
import Derived.Test.YtnfdlpfenafjfaaGreatDoorB04
import Derived.Test.YtnfdlpfenafjfaaGreatDoorB05
import Derived.Test.YtnfdlpfenafjfaaGreatDoorB06
import Derived.Test.YtnfdlpfenafjfaaGreatDoorB07
import Derived.Test.YtnfdlpfenafjfaaGreatDoorB08
import Derived.Test.YtnfdlpfenafjfaaGreatDoorB09
import Derived.Test.YtnfdlpfenafjfaaGreatDoorB10
import Derived.Test.YtnfdlpfenafjfaaGreatDoorB11
import Derived.Test.YtnfdlpfenafjfaaGreatDoorB12
import Derived.Test.YtnfdlpfenafjfaaGreatDoorB13
import Derived.Test.YtnfdlpfenafjfaaGreatDoorB14
import Derived.Test.YtnfdlpfenafjfaaGreatDoorB15
import Derived.Test.YtnfdlpfenafjfaaGreatDoorB16
import Derived.Test.YtnfdlpfenafjfaaGreatDoorB17
import Derived.Test.YtnfdlpfenafjfaaGreatDoorB18
import Derived.Test.YtnfdlpfenafjfaaGreatDoorB19
import Derived.Test.YtnfdlpfenafjfaaGreatDoorB20
import Derived.Test.YtnfdlpfenafjfaaGreatDoorProg
import Derived.Lib.LaidTab
import Derived.Lib.ItoaNum
set_option linter.all false
set_option linter.unusedVariables false
set_option linter.unusedSectionVars false
set_option linter.unusedSimpArgs false
set_option linter.unnecessarySimpa false
namespace Go.Proofs.Sight
open Go Go.RX Go.Proofs
theorem Tryz_ldT_3 : ldT Tryz.prog 3 = some (false, 1) := by kernel_rfl
theorem Tryz_szT_3 : szT Tryz.prog 3 = some 1 := by kernel_rfl
theorem Tryz_zeroT_3 : zeroT Tryz.prog 3 = some [.d (.int .i64 0)] := by kernel_rfl
theorem Tryz_intT_3 : intT Tryz.prog 3 = some .i64 := by kernel_rfl
theorem Tryz_boolT_3 : boolT Tryz.prog 3 = false := by kernel_rfl
theorem Tryz_strT_3 : strT Tryz.prog 3 = false := by kernel_rfl
theorem Tryz_ldT_4 : ldT Tryz.prog 4 = some (false, 1) := by kernel_rfl
theorem Tryz_zeroT_4 : zeroT Tryz.prog 4 = some [.d (.bool false)] := by kernel_rfl
theorem Tryz_boolT_4 : boolT Tryz.prog 4 = true := by kernel_rfl
theorem Tryz_szT_5 : szT Tryz.prog 5 = some 1 := by kernel_rfl
theorem Tryz_zeroT_5 : zeroT Tryz.prog 5 = some [.d (.int .u8 0)] := by kernel_rfl
theorem Tryz_intT_5 : intT Tryz.prog 5 = some .u8 := by kernel_rfl
theorem Tryz_boolT_5 : boolT Tryz.prog 5 = false := by kernel_rfl
theorem Tryz_strT_5 : strT Tryz.prog 5 = false := by kernel_rfl
theorem Tryz_ldT_9 : ldT Tryz.prog 9 = some (false, 1) := by kernel_rfl
theorem Tryz_elT_9 : elT Tryz.prog 9 = none := by kernel_rfl
theorem Tryz_arrT_9 : arrT Tryz.prog 9 = none := by kernel_rfl
theorem Tryz_zeroT_9 : zeroT Tryz.prog 9 = some [.d (.str [])] := by kernel_rfl
theorem Tryz_boolT_9 : boolT Tryz.prog 9 = false := by kernel_rfl
theorem Tryz_strT_9 : strT Tryz.prog 9 = true := by kernel_rfl
theorem Tryz_mapT_9 : mapT Tryz.prog 9 = false := by kernel_rfl
theorem Tryz_boolT_20 : boolT Tryz.prog 20 = false := by kernel_rfl
theorem Tryz_intT_21 : intT Tryz.prog 21 = some .i32 := by kernel_rfl
theorem Tryz_strT_21 : strT Tryz.prog 21 = false := by kernel_rfl
theorem Tryz_ldT_23 : ldT Tryz.prog 23 = some (true, 2) := by kernel_rfl
theorem Tryz_szT_23 : szT Tryz.prog 23 = some 2 := by kernel_rfl
theorem Tryz_flsT_23 : flsT Tryz.prog 23 = some [(0, 1), (1, 1)] := by kernel_rfl
theorem Tryz_arrT_23 : arrT Tryz.prog 23 = none := by kernel_rfl
theorem Tryz_zeroT_23 : zeroT Tryz.prog 23 = some [.d (.int .i64 0), .d (.int .i64 0)] := by kernel_rfl
theorem Tryz_boolT_23 : boolT Tryz.prog 23 = false := by kernel_rfl
theorem Tryz_fldT_23_0 : fldT Tryz.prog 23 0 = some (0, 1) := by kernel_rfl
theorem Tryz_fldT_23_1 : fldT Tryz.prog 23 1 = some (1, 1) := by kernel_rfl
theorem Tryz_ldT_24 : ldT Tryz.prog 24 = some (false, 1) := by kernel_rfl
theorem Tryz_szT_24 : szT Tryz.prog 24 = some 1 := by kernel_rfl
theorem Tryz_elT_24 : elT Tryz.prog 24 = some (51, 2, 32) := by kernel_rfl
theorem Tryz_strT_24 : strT Tryz.prog 24 = false := by kernel_rfl
theorem Tryz_mapT_24 : mapT Tryz.prog 24 = false := by kernel_rfl
theorem Tryz_ldT_25 : ldT Tryz.prog 25 = some (false, 1) := by kernel_rfl
theorem Tryz_szT_25 : szT Tryz.prog 25 = some 1 := by kernel_rfl
theorem Tryz_elT_25 : elT Tryz.prog 25 = some (66, 5, 40) := by kernel_rfl
theorem Tryz_strT_25 : strT Tryz.prog 25 = false := by kernel_rfl
theorem Tryz_mapT_25 : mapT Tryz.prog 25 = false := by kernel_rfl
theorem Tryz_ldT_27 : ldT Tryz.prog 27 = some (true, 8) := by kernel_rfl
theorem Tryz_szT_27 : szT Tryz.prog 27 = some 8 := by kernel_rfl
theorem Tryz_flsT_27 : flsT Tryz.prog 27 = some [(0, 1), (1, 1), (2, 2), (4, 2), (6, 1), (7, 1)] := by kernel_rfl
theorem Tryz_arrT_27 : arrT Tryz.prog 27 = none := by kernel_rfl
theorem Tryz_zeroT_27 : zeroT Tryz.prog 27 = some [.d (.int .i64 0), .d (.int .i64 0), .d (.int .i64 0), .d (.int .i64 0), .d (.int .i64 0), .d (.int .i64 0), .d .nils, .d .nils] := by kernel_rfl
theorem Tryz_fldT_27_0 : fldT Tryz.prog 27 0 = some (0, 1) := by kernel_rfl
theorem Tryz_fldT_27_1 : fldT Tryz.prog 27 1 = some (1, 1) := by kernel_rfl
theorem Tryz_fldT_27_2 : fldT Tryz.prog 27 2 = some (2, 2) := by kernel_rfl
theorem Tryz_fldT_27_3 : fldT Tryz.prog 27 3 = some (4, 2) := by kernel_rfl
theorem Tryz_fldT_27_4 : fldT Tryz.prog 27 4 = some (6, 1) := by kernel_rfl
theorem Tryz_fldT_27_5 : fldT Tryz.prog 27 5 = some (7, 1) := by kernel_rfl
theorem Tryz_ldT_29 : ldT Tryz.prog 29 = some (true, 2) := by kernel_rfl
theorem Tryz_szT_29 : szT Tryz.prog 29 = some 2 := by kernel_rfl
theorem Tryz_flsT_29 : flsT Tryz.prog 29 = some [(0, 1), (1, 1)] := by kernel_rfl
theorem Tryz_arrT_29 : arrT Tryz.prog 29 = none := by kernel_rfl
theorem Tryz_zeroT_29 : zeroT Tryz.prog 29 = some [.d (.int .i64 0), .d (.int .i64 0)] := by kernel_rfl
theorem Tryz_boolT_29 : boolT Tryz.prog 29 = false := by kernel_rfl
theorem Tryz_fldT_29_0 : fldT Tryz.prog 29 0 = some (0, 1) := by kernel_rfl
theorem Tryz_fldT_29_1 : fldT Tryz.prog 29 1 = some (1, 1) := by kernel_rfl
theorem Tryz_ldT_32 : ldT Tryz.prog 32 = some (false, 1) := by kernel_rfl
theorem Tryz_zeroT_32 : zeroT Tryz.prog 32 = some [.d (.int .i64 0)] := by kernel_rfl
theorem Tryz_boolT_32 : boolT Tryz.prog 32 = false := by kernel_rfl
theorem Tryz_ldT_33 : ldT Tryz.prog 33 = some (false, 1) := by kernel_rfl
theorem Tryz_szT_33 : szT Tryz.prog 33 = some 1 := by kernel_rfl
theorem Tryz_zeroT_33 : zeroT Tryz.prog 33 = some [.d (.int .i64 0)] := by kernel_rfl
theorem Tryz_boolT_33 : boolT Tryz.prog 33 = false := by kernel_rfl
theorem Tryz_ldT_40 : ldT Tryz.prog 40 = some (false, 1) := by kernel_rfl
theorem Tryz_boolT_40 : boolT Tryz.prog 40 = false := by kernel_rfl
theorem Tryz_ldT_42 : ldT Tryz.prog 42 = some (true, 2) := by kernel_rfl
theorem Tryz_szT_42 : szT Tryz.prog 42 = some 2 := by kernel_rfl
theorem Tryz_flsT_42 : flsT Tryz.prog 42 = some [(0, 1), (1, 1)] := by kernel_rfl
theorem Tryz_arrT_42 : arrT Tryz.prog 42 = none := by kernel_rfl
theorem Tryz_zeroT_42 : zeroT Tryz.prog 42 = some [.d (.int .i64 0), .d (.int .i64 0)] := by kernel_rfl
theorem Tryz_boolT_42 : boolT Tryz.prog 42 = false := by kernel_rfl
theorem Tryz_fldT_42_0 : fldT Tryz.prog 42 0 = some (0, 1) := by kernel_rfl
theorem Tryz_fldT_42_1 : fldT Tryz.prog 42 1 = some (1, 1) := by kernel_rfl
theorem Tryz_ldT_49 : ldT Tryz.prog 49 = some (false, 1) := by kernel_rfl
theorem Tryz_szT_49 : szT Tryz.prog 49 = some 1 := by kernel_rfl
theorem Tryz_elT_49 : elT Tryz.prog 49 = some (59, 4, 32) := by kernel_rfl
theorem Tryz_strT_49 : strT Tryz.prog 49 = false := by kernel_rfl
theorem Tryz_mapT_49 : mapT Tryz.prog 49 = false := by kernel_rfl
theorem Tryz_ldT_51 : ldT Tryz.prog 51 = some (true, 2) := by kernel_rfl
theorem Tryz_szT_51 : szT Tryz.prog 51 = some 2 := by kernel_rfl
theorem Tryz_flsT_51 : flsT Tryz.prog 51 = some [(0, 1), (1, 1)] := by kernel_rfl
theorem Tryz_arrT_51 : arrT Tryz.prog 51 = none := by kernel_rfl
theorem Tryz_zeroT_51 : zeroT Tryz.prog 51 = some [.d (.int .i64 0), .d .nils] := by kernel_rfl
theorem Tryz_fldT_51_0 : fldT Tryz.prog 51 0 = some (0, 1) := by kernel_rfl
theorem Tryz_fldT_51_1 : fldT Tryz.prog 51 1 = some (1, 1) := by kernel_rfl
theorem Tryz_elT_52 : elT Tryz.prog 52 = some (32, 1, 8) := by kernel_rfl
theorem Tryz_strT_52 : strT Tryz.prog 52 = false := by kernel_rfl
theorem Tryz_mapT_52 : mapT Tryz.prog 52 = false := by kernel_rfl
theorem Tryz_elT_55 : elT Tryz.prog 55 = some (3, 1, 8) := by kernel_rfl
theorem Tryz_strT_55 : strT Tryz.prog 55 = false := by kernel_rfl
theorem Tryz_mapT_55 : mapT Tryz.prog 55 = false := by kernel_rfl
theorem Tryz_ldT_59 : ldT Tryz.prog 59 = some (true, 4) := by kernel_rfl
theorem Tryz_szT_59 : szT Tryz.prog 59 = some 4 := by kernel_rfl
theorem Tryz_flsT_59 : flsT Tryz.prog 59 = some [(0, 1), (1, 1), (2, 1), (3, 1)] := by kernel_rfl
theorem Tryz_arrT_59 : arrT Tryz.prog 59 = none := by kernel_rfl
theorem Tryz_zeroT_59 : zeroT Tryz.prog 59 = some [.d (.int .i64 0), .d (.int .i64 0), .d (.int .i64 0), .d (.int .i64 0)] := by kernel_rfl
theorem Tryz_boolT_59 : boolT Tryz.prog 59 = false := by kernel_rfl
theorem Tryz_fldT_59_0 : fldT Tryz.prog 59 0 = some (0, 1) := by kernel_rfl
theorem Tryz_fldT_59_1 : fldT Tryz.prog 59 1 = some (1, 1) := by kernel_rfl
theorem Tryz_fldT_59_2 : fldT Tryz.prog 59 2 = some (2, 1) := by kernel_rfl
theorem Tryz_fldT_59_3 : fldT Tryz.prog 59 3 = some (3, 1) := by kernel_rfl
theorem Tryz_ldT_66 : ldT Tryz.prog 66 = some (true, 5) := by kernel_rfl
theorem Tryz_szT_66 : szT Tryz.prog 66 = some 5 := by kernel_rfl
theorem Tryz_flsT_66 : flsT Tryz.prog 66 = some [(0, 2), (2, 2), (4, 1)] := by kernel_rfl
theorem Tryz_arrT_66 : arrT Tryz.prog 66 = none := by kernel_rfl
theorem Tryz_zeroT_66 : zeroT Tryz.prog 66 = some [.d (.int .i64 0), .d (.int .i64 0), .d (.int .i64 0), .d (.int .i64 0), .d (.bool false)] := by kernel_rfl
theorem Tryz_boolT_66 : boolT Tryz.prog 66 = false := by kernel_rfl
theorem Tryz_fldT_66_0 : fldT Tryz.prog 66 0 = some (0, 2) := by kernel_rfl
theorem Tryz_fldT_66_1 : fldT Tryz.prog 66 1 = some (2, 2) := by kernel_rfl
theorem Tryz_fldT_66_2 : fldT Tryz.prog 66 2 = some (4, 1) := by kernel_rfl
theorem Tryz_ldT_71 : ldT Tryz.prog 71 = some (false, 1) := by kernel_rfl
theorem Tryz_szT_71 : szT Tryz.prog 71 = some 1 := by kernel_rfl
theorem Tryz_elT_71 : elT Tryz.prog 71 = some (29, 2, 16) := by kernel_rfl
theorem Tryz_zeroT_71 : zeroT Tryz.prog 71 = some [.d .nils] := by kernel_rfl
theorem Tryz_strT_71 : strT Tryz.prog 71 = false := by kernel_rfl
theorem Tryz_mapT_71 : mapT Tryz.prog 71 = false := by kernel_rfl
theorem Tryz_elT_101 : elT Tryz.prog 101 = some (5, 1, 1) := by kernel_rfl
theorem Tryz_strT_101 : strT Tryz.prog 101 = false := by kernel_rfl
theorem Tryz_ldT_108 : ldT Tryz.prog 108 = some (true, 12) := by kernel_rfl
theorem Tryz_szT_108 : szT Tryz.prog 108 = some 12 := by kernel_rfl
theorem Tryz_flsT_108 : flsT Tryz.prog 108 = some [(0, 8), (8, 2), (10, 2)] := by kernel_rfl
theorem Tryz_arrT_108 : arrT Tryz.prog 108 = none := by kernel_rfl
theorem Tryz_zeroT_108 : zeroT Tryz.prog 108 = some [.d (.int .i64 0), .d (.int .i64 0), .d (.int .i64 0), .d (.int .i64 0), .d (.int .i64 0), .d (.int .i64 0), .d .nils, .d .nils, .d (.int .i64 0), .d .nils, .d (.int .i64 0), .d (.int .i64 0)] := by kernel_rfl
theorem Tryz_fldT_108_0 : fldT Tryz.prog 108 0 = some (0, 8) := by kernel_rfl
theorem Tryz_fldT_108_1 : fldT Tryz.prog 108 1 = some (8, 2) := by kernel_rfl
theorem Tryz_fldT_108_2 : fldT Tryz.prog 108 2 = some (10, 2) := by kernel_rfl
theorem Tryz_elT_116 : elT Tryz.prog 116 = some (4, 1, 1) := by kernel_rfl
theorem Tryz_ldT_124 : ldT Tryz.prog 124 = some (false, 1) := by kernel_rfl
theorem Tryz_szT_124 : szT Tryz.prog 124 = some 1 := by kernel_rfl
theorem Tryz_elT_124 : elT Tryz.prog 124 = none := by kernel_rfl
theorem Tryz_zeroT_124 : zeroT Tryz.prog 124 = some [.any] := by kernel_rfl
theorem Tryz_strT_124 : strT Tryz.prog 124 = false := by kernel_rfl
theorem Tryz_mapT_124 : mapT Tryz.prog 124 = true := by kernel_rfl
theorem Tryz_ldT_126 : ldT Tryz.prog 126 = some (false, 1) := by kernel_rfl
theorem Tryz_elT_132 : elT Tryz.prog 132 = some (134, 2, 16) := by kernel_rfl
theorem Tryz_strT_132 : strT Tryz.prog 132 = false := by kernel_rfl
theorem Tryz_mapT_132 : mapT Tryz.prog 132 = false := by kernel_rfl
theorem Tryz_ldT_134 : ldT Tryz.prog 134 = some (true, 2) := by kernel_rfl
theorem Tryz_szT_134 : szT Tryz.prog 134 = some 2 := by kernel_rfl
theorem Tryz_flsT_134 : flsT Tryz.prog 134 = some [(0, 1), (1, 1)] := by kernel_rfl
theorem Tryz_arrT_134 : arrT Tryz.prog 134 = none := by kernel_rfl
theorem Tryz_zeroT_134 : zeroT Tryz.prog 134 = some [.d (.int .i64 0), .d (.int .i64 0)] := by kernel_rfl
theorem Tryz_fldT_134_0 : fldT Tryz.prog 134 0 = some (0, 1) := by kernel_rfl
theorem Tryz_fldT_134_1 : fldT Tryz.prog 134 1 = some (1, 1) := by kernel_rfl
theorem Tryz_elT_140 : elT Tryz.prog 140 = some (9, 1, 16) := by kernel_rfl
theorem Tryz_strT_140 : strT Tryz.prog 140 = false := by kernel_rfl
theorem Tryz_mapT_140 : mapT Tryz.prog 140 = false := by kernel_rfl
theorem Tryz_szT_150 : szT Tryz.prog 150 = some 2 := by kernel_rfl
theorem Tryz_aggT_150 : aggT Tryz.prog 150 = some true := by kernel_rfl
theorem Tryz_flsT_150 : flsT Tryz.prog 150 = some [(0, 2)] := by kernel_rfl
theorem Tryz_arrT_150 : arrT Tryz.prog 150 = none := by kernel_rfl
theorem Tryz_zeroT_150 : zeroT Tryz.prog 150 = some [.d (.int .i64 0), .d (.int .i64 0)] := by kernel_rfl
theorem Tryz_zagT_150 : zagT Tryz.prog 150 = some true := by kernel_rfl
theorem Tryz_ifT_150 : ifT Tryz.prog 150 = false := by kernel_rfl
theorem Tryz_fldT_150_0 : fldT Tryz.prog 150 0 = some (0, 2) := by kernel_rfl
theorem Tryz_szT_152 : szT Tryz.prog 152 = some 1 := by kernel_rfl
theorem Tryz_aggT_152 : aggT Tryz.prog 152 = some true := by kernel_rfl
theorem Tryz_flsT_152 : flsT Tryz.prog 152 = some [(0, 1)] := by kernel_rfl
theorem Tryz_arrT_152 : arrT Tryz.prog 152 = none := by kernel_rfl
theorem Tryz_zeroT_152 : zeroT Tryz.prog 152 = some [.d (.str [])] := by kernel_rfl
theorem Tryz_zagT_152 : zagT Tryz.prog 152 = some true := by kernel_rfl
theorem Tryz_ifT_152 : ifT Tryz.prog 152 = false := by kernel_rfl
theorem Tryz_ldT_153 : ldT Tryz.prog 153 = some (false, 1) := by kernel_rfl
theorem Tryz_ldT_154 : ldT Tryz.prog 154 = some (true, 4) := by kernel_rfl
theorem Tryz_szT_154 : szT Tryz.prog 154 = some 4 := by kernel_rfl
theorem Tryz_flsT_154 : flsT Tryz.prog 154 = none := by kernel_rfl
theorem Tryz_arrT_154 : arrT Tryz.prog 154 = some (4, 153, 1) := by kernel_rfl
theorem Tryz_zeroT_154 : zeroT Tryz.prog 154 = some [.any, .any, .any, .any] := by kernel_rfl
theorem Tryz_strT_154 : strT Tryz.prog 154 = false := by kernel_rfl
theorem Tryz_szT_160 : szT Tryz.prog 160 = some 0 := by kernel_rfl
theorem Tryz_flsT_160 : flsT Tryz.prog 160 = some [] := by kernel_rfl
theorem Tryz_arrT_160 : arrT Tryz.prog 160 = none := by kernel_rfl
theorem Tryz_zeroT_160 : zeroT Tryz.prog 160 = some [] := by kernel_rfl
theorem Tryz_szT_169 : szT Tryz.prog 169 = some 8 := by kernel_rfl
theorem Tryz_aggT_169 : aggT Tryz.prog 169 = some true := by kernel_rfl
theorem Tryz_flsT_169 : flsT Tryz.prog 169 = some [(0, 8)] := by kernel_rfl
theorem Tryz_arrT_169 : arrT Tryz.prog 169 = none := by kernel_rfl
theorem Tryz_zeroT_169 : zeroT Tryz.prog 169 = some [.d (.int .i64 0), .d (.int .i64 0), .d (.int .i64 0), .d (.int .i64 0), .d (.int .i64 0), .d (.int .i64 0), .d .nils, .d .nils] := by kernel_rfl
theorem Tryz_zagT_169 : zagT Tryz.prog 169 = some true := by kernel_rfl
theorem Tryz_ifT_169 : ifT Tryz.prog 169 = false := by kernel_rfl
theorem Tryz_fldT_169_0 : fldT Tryz.prog 169 0 = some (0, 8) := by kernel_rfl
theorem Tryz_szT_171 : szT Tryz.prog 171 = some 2 := by kernel_rfl
theorem Tryz_aggT_171 : aggT Tryz.prog 171 = some true := by kernel_rfl
theorem Tryz_flsT_171 : flsT Tryz.prog 171 = some [(0, 2)] := by kernel_rfl
theorem Tryz_arrT_171 : arrT Tryz.prog 171 = none := by kernel_rfl
theorem Tryz_zeroT_171 : zeroT Tryz.prog 171 = some [.d (.int .i64 0), .d .nils] := by kernel_rfl
theorem Tryz_zagT_171 : zagT Tryz.prog 171 = some true := by kernel_rfl
theorem Tryz_ifT_171 : ifT Tryz.prog 171 = false := by kernel_rfl
theorem Tryz_fldT_171_0 : fldT Tryz.prog 171 0 = some (0, 2) := by kernel_rfl
theorem Tryz_szT_173 : szT Tryz.prog 173 = some 4 := by kernel_rfl
theorem Tryz_aggT_173 : aggT Tryz.prog 173 = some true := by kernel_rfl
theorem Tryz_flsT_173 : flsT Tryz.prog 173 = some [(0, 4)] := by kernel_rfl
theorem Tryz_arrT_173 : arrT Tryz.prog 173 = none := by kernel_rfl
theorem Tryz_zeroT_173 : zeroT Tryz.prog 173 = some [.d (.int .i64 0), .d (.int .i64 0), .d (.int .i64 0), .d (.int .i64 0)] := by kernel_rfl
theorem Tryz_zagT_173 : zagT Tryz.prog 173 = some true := by kernel_rfl
theorem Tryz_ifT_173 : ifT Tryz.prog 173 = false := by kernel_rfl
theorem Tryz_fldT_173_0 : fldT Tryz.prog 173 0 = some (0, 4) := by kernel_rfl
theorem Tryz_szT_175 : szT Tryz.prog 175 = some 5 := by kernel_rfl
theorem Tryz_aggT_175 : aggT Tryz.prog 175 = some true := by kernel_rfl
theorem Tryz_flsT_175 : flsT Tryz.prog 175 = some [(0, 5)] := by kernel_rfl
theorem Tryz_arrT_175 : arrT Tryz.prog 175 = none := by kernel_rfl
theorem Tryz_zeroT_175 : zeroT Tryz.prog 175 = some [.d (.int .i64 0), .d (.int .i64 0), .d (.int .i64 0), .d (.int .i64 0), .d (.bool false)] := by kernel_rfl
theorem Tryz_zagT_175 : zagT Tryz.prog 175 = some true := by kernel_rfl
theorem Tryz_ifT_175 : ifT Tryz.prog 175 = false := by kernel_rfl
theorem Tryz_fldT_175_0 : fldT Tryz.prog 175 0 = some (0, 5) := by kernel_rfl
theorem Tryz_ldT_181 : ldT Tryz.prog 181 = some (true, 4) := by kernel_rfl
theorem Tryz_szT_181 : szT Tryz.prog 181 = some 4 := by kernel_rfl
theorem Tryz_flsT_181 : flsT Tryz.prog 181 = none := by kernel_rfl
theorem Tryz_arrT_181 : arrT Tryz.prog 181 = some (4, 9, 1) := by kernel_rfl
theorem Tryz_zeroT_181 : zeroT Tryz.prog 181 = some [.d (.str []), .d (.str []), .d (.str []), .d (.str [])] := by kernel_rfl
theorem Tryz_strT_181 : strT Tryz.prog 181 = false := by kernel_rfl
attribute [go_sem] Tryz_ldT_3 Tryz_szT_3 Tryz_zeroT_3 Tryz_intT_3 Tryz_boolT_3 Tryz_strT_3 Tryz_ldT_4 Tryz_zeroT_4
attribute [go_sem] Tryz_boolT_4 Tryz_szT_5 Tryz_zeroT_5 Tryz_intT_5 Tryz_boolT_5 Tryz_strT_5 Tryz_ldT_9 Tryz_elT_9
attribute [go_sem] Tryz_arrT_9 Tryz_zeroT_9 Tryz_boolT_9 Tryz_strT_9 Tryz_mapT_9 Tryz_boolT_20 Tryz_intT_21 Tryz_strT_21
attribute [go_sem] Tryz_ldT_23 Tryz_szT_23 Tryz_flsT_23 Tryz_arrT_23 Tryz_zeroT_23 Tryz_boolT_23 Tryz_fldT_23_0 Tryz_fldT_23_1
attribute [go_sem] Tryz_ldT_24 Tryz_szT_24 Tryz_elT_24 Tryz_strT_24 Tryz_mapT_24 Tryz_ldT_25 Tryz_szT_25 Tryz_elT_25
attribute [go_sem] Tryz_strT_25 Tryz_mapT_25 Tryz_ldT_27 Tryz_szT_27 Tryz_flsT_27 Tryz_arrT_27 Tryz_zeroT_27 Tryz_fldT_27_0
attribute [go_sem] Tryz_fldT_27_1 Tryz_fldT_27_2 Tryz_fldT_27_3 Tryz_fldT_27_4 Tryz_fldT_27_5 Tryz_ldT_29 Tryz_szT_29 Tryz_flsT_29
attribute [go_sem] Tryz_arrT_29 Tryz_zeroT_29 Tryz_boolT_29 Tryz_fldT_29_0 Tryz_fldT_29_1 Tryz_ldT_32 Tryz_zeroT_32 Tryz_boolT_32
attribute [go_sem] Tryz_ldT_33 Tryz_szT_33 Tryz_zeroT_33 Tryz_boolT_33 Tryz_ldT_40 Tryz_boolT_40 Tryz_ldT_42 Tryz_szT_42
attribute [go_sem] Tryz_flsT_42 Tryz_arrT_42 Tryz_zeroT_42 Tryz_boolT_42 Tryz_fldT_42_0 Tryz_fldT_42_1 Tryz_ldT_49 Tryz_szT_49
attribute [go_sem] Tryz_elT_49 Tryz_strT_49 Tryz_mapT_49 Tryz_ldT_51 Tryz_szT_51 Tryz_flsT_51 Tryz_arrT_51 Tryz_zeroT_51
attribute [go_sem] Tryz_fldT_51_0 Tryz_fldT_51_1 Tryz_elT_52 Tryz_strT_52 Tryz_mapT_52 Tryz_elT_55 Tryz_strT_55 Tryz_mapT_55
attribute [go_sem] Tryz_ldT_59 Tryz_szT_59 Tryz_flsT_59 Tryz_arrT_59 Tryz_zeroT_59 Tryz_boolT_59 Tryz_fldT_59_0 Tryz_fldT_59_1
attribute [go_sem] Tryz_fldT_59_2 Tryz_fldT_59_3 Tryz_ldT_66 Tryz_szT_66 Tryz_flsT_66 Tryz_arrT_66 Tryz_zeroT_66 Tryz_boolT_66
attribute [go_sem] Tryz_fldT_66_0 Tryz_fldT_66_1 Tryz_fldT_66_2 Tryz_ldT_71 Tryz_szT_71 Tryz_elT_71 Tryz_zeroT_71 Tryz_strT_71
attribute [go_sem] Tryz_mapT_71 Tryz_elT_101 Tryz_strT_101 Tryz_ldT_108 Tryz_szT_108 Tryz_flsT_108 Tryz_arrT_108 Tryz_zeroT_108
attribute [go_sem] Tryz_fldT_108_0 Tryz_fldT_108_1 Tryz_fldT_108_2 Tryz_elT_116 Tryz_ldT_124 Tryz_szT_124 Tryz_elT_124 Tryz_zeroT_124
attribute [go_sem] Tryz_strT_124 Tryz_mapT_124 Tryz_ldT_126 Tryz_elT_132 Tryz_strT_132 Tryz_mapT_132 Tryz_ldT_134 Tryz_szT_134
attribute [go_sem] Tryz_flsT_134 Tryz_arrT_134 Tryz_zeroT_134 Tryz_fldT_134_0 Tryz_fldT_134_1 Tryz_elT_140 Tryz_strT_140 Tryz_mapT_140
attribute [go_sem] Tryz_szT_150 Tryz_aggT_150 Tryz_flsT_150 Tryz_arrT_150 Tryz_zeroT_150 Tryz_zagT_150 Tryz_ifT_150 Tryz_fldT_150_0
attribute [go_sem] Tryz_szT_152 Tryz_aggT_152 Tryz_flsT_152 Tryz_arrT_152 Tryz_zeroT_152 Tryz_zagT_152 Tryz_ifT_152 Tryz_ldT_153
attribute [go_sem] Tryz_ldT_154 Tryz_szT_154 Tryz_flsT_154 Tryz_arrT_154 Tryz_zeroT_154 Tryz_strT_154 Tryz_szT_160 Tryz_flsT_160
attribute [go_sem] Tryz_arrT_160 Tryz_zeroT_160 Tryz_szT_169 Tryz_aggT_169 Tryz_flsT_169 Tryz_arrT_169 Tryz_zeroT_169 Tryz_zagT_169
attribute [go_sem] Tryz_ifT_169 Tryz_fldT_169_0 Tryz_szT_171 Tryz_aggT_171 Tryz_flsT_171 Tryz_arrT_171 Tryz_zeroT_171 Tryz_zagT_171
attribute [go_sem] Tryz_ifT_171 Tryz_fldT_171_0 Tryz_szT_173 Tryz_aggT_173 Tryz_flsT_173 Tryz_arrT_173 Tryz_zeroT_173 Tryz_zagT_173
attribute [go_sem] Tryz_ifT_173 Tryz_fldT_173_0 Tryz_szT_175 Tryz_aggT_175 Tryz_flsT_175 Tryz_arrT_175 Tryz_zeroT_175 Tryz_zagT_175
attribute [go_sem] Tryz_ifT_175 Tryz_fldT_175_0 Tryz_ldT_181 Tryz_szT_181 Tryz_flsT_181 Tryz_arrT_181 Tryz_zeroT_181 Tryz_strT_181
end Go.Proofs.Sight
namespace Go.Proofs.Sight
open Go Go.RX
theorem Tryz_strT_59 : strT Tryz.prog 59 = false := by kernel_rfl
theorem Tryz_strT_51 : strT Tryz.prog 51 = false := by kernel_rfl
theorem Tryz_strT_66 : strT Tryz.prog 66 = false := by kernel_rfl
theorem Tryz_strT_32 : strT Tryz.prog 32 = false := by kernel_rfl
theorem Tryz_strT_29 : strT Tryz.prog 29 = false := by kernel_rfl
theorem Tryz_strT_134 : strT Tryz.prog 134 = false := by kernel_rfl
theorem Tryz_strT_4 : strT Tryz.prog 4 = false := by kernel_rfl
attribute [go_sem] Tryz_strT_59 Tryz_strT_51 Tryz_strT_66 Tryz_strT_32 Tryz_strT_29 Tryz_strT_134 Tryz_strT_4
end Go.Proofs.Sight
namespace Go.Proofs.Sight
open Go Go.RX Go.Proofs
set_option maxRecDepth 10000
def Tabs (w : World) : Prop := Lib.TabIs Tryz.prog w "internal/strconv.uint64pow10" .u64 Lib.pow10Tab ∧ ∃ m, w.cell? ⟨1, 0, none⟩ = some (.int .i64 m)
theorem Tabs.st (w w' : World) (h : Tabs w) (hb : Go.RowKit.Below w.heap.size w w') : Tabs w' := by
  obtain ⟨h1, m, h2⟩ := h
  refine ⟨?_, m, ?_⟩
  · unfold Lib.TabIs World.var? at h1 ⊢
    cases hg : Tryz.prog.globalNamed "internal/strconv.uint64pow10" with
    | none => rw [hg] at h1; cases h1
    | some g =>
      rw [hg] at h1
      simp only [Option.bind_some] at h1 ⊢
      have hlt : g < w.heap.size := by
        rcases Nat.lt_or_ge g w.heap.size with h | h
        · exact h
        · rw [Array.getElem?_eq_none h] at h1; cases h1
      rw [hb.block g hlt]; exact h1
  · have hlt : 1 < w.heap.size := by
      rcases Nat.lt_or_ge 1 w.heap.size with h | h
      · exact h
      · unfold World.cell? at h2
        rw [Array.getElem?_eq_none h] at h2; cases h2
    exact (hb.cell (p := ⟨1, 0, none⟩) hlt).trans h2
instance : Glob := ⟨Tabs, Tabs.st⟩
structure Letter where
  h : Int
  w : Int
  s : Int
  p : Int
  deriving Inhabited, DecidableEq
structure Board where
  at_ : Int
  ls : List Letter
  deriving Inhabited, DecidableEq
structure Block where
  al : Int
  ah : Int
  cl : Int
  ch : Int
  sure : Bool
  deriving Inhabited, DecidableEq
structure Street where
  len : Int
  wid : Int
  el : Int
  eh : Int
  ll : Int
  lh : Int
  bs : List Board
  ks : List Block
  deriving Inhabited, DecidableEq
structure Place where
  al : Int
  ac : Int
  deriving Inhabited, DecidableEq
abbrev slD {α : Type} [Inhabited α] (k : Nat) (f : α → Nat → DV) (l : List α) : DV := .sl k l.length (fun i => f (l.getD i default))
abbrev iD (n : Int) : DV := .int .i64 n
def letD (l : Letter) : Nat → DV
  | 0 => iD l.h | 1 => iD l.w | 2 => iD l.s | 3 => iD l.p | _ => .nilI
def boaD (b : Board) : Nat → DV
  | 0 => iD b.at_ | 1 => slD 4 letD b.ls | _ => .nilI
def bloD (k : Block) : Nat → DV
  | 0 => iD k.al | 1 => iD k.ah | 2 => iD k.cl | 3 => iD k.ch | 4 => .bool k.sure | _ => .nilI
def plaD (p : Place) : Nat → DV
  | 0 => iD p.al | 1 => iD p.ac | _ => .nilI
theorem letD_0 (l : Letter) : letD l 0 = iD l.h := rfl
theorem letD_1 (l : Letter) : letD l 1 = iD l.w := rfl
theorem letD_2 (l : Letter) : letD l 2 = iD l.s := rfl
theorem letD_3 (l : Letter) : letD l 3 = iD l.p := rfl
theorem boaD_0 (b : Board) : boaD b 0 = iD b.at_ := rfl
theorem boaD_1 (b : Board) : boaD b 1 = slD 4 letD b.ls := rfl
theorem bloD_0 (k : Block) : bloD k 0 = iD k.al := rfl
theorem bloD_1 (k : Block) : bloD k 1 = iD k.ah := rfl
theorem bloD_2 (k : Block) : bloD k 2 = iD k.cl := rfl
theorem bloD_3 (k : Block) : bloD k 3 = iD k.ch := rfl
theorem bloD_4 (k : Block) : bloD k 4 = .bool k.sure := rfl
theorem plaD_0 (p : Place) : plaD p 0 = iD p.al := rfl
theorem plaD_1 (p : Place) : plaD p 1 = iD p.ac := rfl
attribute [go_sem] letD_0 letD_1 letD_2 letD_3 boaD_0 boaD_1 bloD_0 bloD_1 bloD_2 bloD_3 bloD_4 plaD_0 plaD_1
abbrev iS (n : Int) : SV := .d (.int .i64 n)
abbrev bS (b : Bool) : SV := .d (.bool b)
abbrev Letter.sv (l : Letter) : SV := .agg [iS l.h, iS l.w, iS l.s, iS l.p]
abbrev Board.sv (b : Board) : SV := .agg [iS b.at_, .d (slD 4 letD b.ls)]
abbrev Block.sv (k : Block) : SV := .agg [iS k.al, iS k.ah, iS k.cl, iS k.ch, bS k.sure]
abbrev Place.sv (p : Place) : SV := .agg [iS p.al, iS p.ac]
abbrev Street.sv (s : Street) : SV := .agg [iS s.len, iS s.wid, iS s.el, iS s.eh, iS s.ll, iS s.lh, .d (slD 2 boaD s.bs), .d (slD 5 bloD s.ks)]
def inR (n lo hi : Int) : Bool := decide (lo ≤ n) && decide (n ≤ hi)
theorem c114 (n lo hi : Int) : Ctr Tryz.prog 114 [iS n, iS lo, iS hi] (bS (inR n lo hi)) := by
  (refine Ctr.mk (fn := Tryz.f114) rfl rfl rfl rfl rfl Tryz.results114 ?_; dsimp only [args, List.toList_toArray])
  ((first | refine Ok.seqF rfl rfl ?_ | refine Ok.seqT rfl rfl ?_ | refine Ok.regF rfl rfl ?_ | refine Ok.regT rfl rfl ?_); simp only [go_sem]; (repeat' with_reducible apply And.intro); all_goals first | (with_reducible first | refine OkW.mk ?_ | refine EndW.mk ?_ | apply AskI.id | apply AskGI.id) | (with_reducible apply KOt.mk; kernel_rfl) | exact trivial | rfl | omega | ((try intro _); first | apply R64 <;> omega | apply room_of <;> omega) | skip)
  ((first | refine Ok.seqF rfl rfl ?_ | refine Ok.seqT rfl rfl ?_ | refine Ok.regF rfl rfl ?_ | refine Ok.regT rfl rfl ?_); simp only [go_sem]; (repeat' with_reducible apply And.intro); all_goals first | (with_reducible first | refine OkW.mk ?_ | refine EndW.mk ?_ | apply AskI.id | apply AskGI.id) | (with_reducible apply KOt.mk; kernel_rfl) | exact trivial | rfl | omega | ((try intro _); first | apply R64 <;> omega | apply room_of <;> omega) | skip)
  (refine Ok.ret ?_; (try dsimp only [thenK, blockK, noGotoK]); simp only [toList_mk, List.toList_toArray, retK_ret, retK_normal, resOK, resV, celV, rowV, frzAll, frzT, subV, subL, go_sem])
  exact .refl _
def spanR (l h lo hi : Int) : Bool := inR l lo hi && inR h l hi
theorem c125 (l h lo hi : Int) : Ctr Tryz.prog 125 [.agg [iS l, iS h], iS lo, iS hi] (bS (spanR l h lo hi)) := by
  (refine Ctr.mk (fn := Tryz.f125) rfl rfl rfl rfl rfl Tryz.results125 ?_; dsimp only [args, List.toList_toArray])
  ((first | refine Ok.seqF rfl rfl ?_ | refine Ok.seqT rfl rfl ?_ | refine Ok.regF rfl rfl ?_ | refine Ok.regT rfl rfl ?_); simp only [go_sem]; (repeat' with_reducible apply And.intro); all_goals first | (with_reducible first | refine OkW.mk ?_ | refine EndW.mk ?_ | apply AskI.id | apply AskGI.id) | (with_reducible apply KOt.mk; kernel_rfl) | exact trivial | rfl | omega | ((try intro _); first | apply R64 <;> omega | apply room_of <;> omega) | skip)
  ((first | refine Ok.seqF rfl rfl ?_ | refine Ok.seqT rfl rfl ?_ | refine Ok.regF rfl rfl ?_ | refine Ok.regT rfl rfl ?_); simp only [go_sem]; (repeat' with_reducible apply And.intro); all_goals first | (with_reducible first | refine OkW.mk ?_ | refine EndW.mk ?_ | apply AskI.id | apply AskGI.id) | (with_reducible apply KOt.mk; kernel_rfl) | exact trivial | rfl | omega | ((try intro _); first | apply R64 <;> omega | apply room_of <;> omega) | skip)
  (refine AskI.ret (c114 _ _ _) ?_; simp only [go_sem]; (repeat' with_reducible apply And.intro); all_goals first | (with_reducible first | refine OkW.mk ?_ | refine EndW.mk ?_ | apply AskI.id | apply AskGI.id) | (with_reducible apply KOt.mk; kernel_rfl) | exact trivial | rfl | omega | ((try intro _); first | apply R64 <;> omega | apply room_of <;> omega) | skip)
  (refine AskGI.ret (fun _ => c114 _ _ _) ?_; simp only [go_sem]; (repeat' with_reducible apply And.intro); all_goals first | (with_reducible first | refine OkW.mk ?_ | refine EndW.mk ?_ | apply AskI.id | apply AskGI.id) | (with_reducible apply KOt.mk; kernel_rfl) | exact trivial | rfl | omega | ((try intro _); first | apply R64 <;> omega | apply room_of <;> omega) | skip)
  (refine Ok.ret ?_; (try dsimp only [thenK, blockK, noGotoK]); simp only [toList_mk, List.toList_toArray, retK_ret, retK_normal, resOK, resV, celV, rowV, frzAll, frzT, subV, subL, go_sem])
  exact .refl _
def isLetter (l : Letter) : Bool := inR l.h 1 30 && inR l.w 1 30 && inR l.s 1 10 && inR l.p 0 20
theorem c148 (l : Letter) : Ctr Tryz.prog 148 [l.sv] (bS (isLetter l)) := by
  (refine Ctr.mk (fn := Tryz.f148) rfl rfl rfl rfl rfl Tryz.results148 ?_; dsimp only [args, List.toList_toArray])
  ((first | refine Ok.seqF rfl rfl ?_ | refine Ok.seqT rfl rfl ?_ | refine Ok.regF rfl rfl ?_ | refine Ok.regT rfl rfl ?_); simp only [go_sem]; (repeat' with_reducible apply And.intro); all_goals first | (with_reducible first | refine OkW.mk ?_ | refine EndW.mk ?_ | apply AskI.id | apply AskGI.id) | (with_reducible apply KOt.mk; kernel_rfl) | exact trivial | rfl | omega | ((try intro _); first | apply R64 <;> omega | apply room_of <;> omega) | skip)
  ((first | refine Ok.seqF rfl rfl ?_ | refine Ok.seqT rfl rfl ?_ | refine Ok.regF rfl rfl ?_ | refine Ok.regT rfl rfl ?_); simp only [go_sem]; (repeat' with_reducible apply And.intro); all_goals first | (with_reducible first | refine OkW.mk ?_ | refine EndW.mk ?_ | apply AskI.id | apply AskGI.id) | (with_reducible apply KOt.mk; kernel_rfl) | exact trivial | rfl | omega | ((try intro _); first | apply R64 <;> omega | apply room_of <;> omega) | skip)
  (refine AskI.ret (c114 _ _ _) ?_; simp only [go_sem]; (repeat' with_reducible apply And.intro); all_goals first | (with_reducible first | refine OkW.mk ?_ | refine EndW.mk ?_ | apply AskI.id | apply AskGI.id) | (with_reducible apply KOt.mk; kernel_rfl) | exact trivial | rfl | omega | ((try intro _); first | apply R64 <;> omega | apply room_of <;> omega) | skip)
  (refine AskGI.ret (fun _ => c114 _ _ _) ?_; simp only [go_sem]; (repeat' with_reducible apply And.intro); all_goals first | (with_reducible first | refine OkW.mk ?_ | refine EndW.mk ?_ | apply AskI.id | apply AskGI.id) | (with_reducible apply KOt.mk; kernel_rfl) | exact trivial | rfl | omega | ((try intro _); first | apply R64 <;> omega | apply room_of <;> omega) | skip)
  (refine AskGI.ret (fun _ => c114 _ _ _) ?_; simp only [go_sem]; (repeat' with_reducible apply And.intro); all_goals first | (with_reducible first | refine OkW.mk ?_ | refine EndW.mk ?_ | apply AskI.id | apply AskGI.id) | (with_reducible apply KOt.mk; kernel_rfl) | exact trivial | rfl | omega | ((try intro _); first | apply R64 <;> omega | apply room_of <;> omega) | skip)
  (refine AskGI.ret (fun _ => c114 _ _ _) ?_; simp only [go_sem]; (repeat' with_reducible apply And.intro); all_goals first | (with_reducible first | refine OkW.mk ?_ | refine EndW.mk ?_ | apply AskI.id | apply AskGI.id) | (with_reducible apply KOt.mk; kernel_rfl) | exact trivial | rfl | omega | ((try intro _); first | apply R64 <;> omega | apply room_of <;> omega) | skip)
  (refine Ok.ret ?_; (try dsimp only [thenK, blockK, noGotoK]); simp only [toList_mk, List.toList_toArray, retK_ret, retK_normal, resOK, resV, celV, rowV, frzAll, frzT, subV, subL, go_sem])
  exact .refl _
theorem c147 (l : Letter) : Ctr Tryz.prog 147 [l.sv] (bS (!isLetter l)) := by
  (refine Ctr.mk (fn := Tryz.f147) rfl rfl rfl rfl rfl Tryz.results147 ?_; dsimp only [args, List.toList_toArray])
  ((first | refine Ok.seqF rfl rfl ?_ | refine Ok.seqT rfl rfl ?_ | refine Ok.regF rfl rfl ?_ | refine Ok.regT rfl rfl ?_); simp only [go_sem]; (repeat' with_reducible apply And.intro); all_goals first | (with_reducible first | refine OkW.mk ?_ | refine EndW.mk ?_ | apply AskI.id | apply AskGI.id) | (with_reducible apply KOt.mk; kernel_rfl) | exact trivial | rfl | omega | ((try intro _); first | apply R64 <;> omega | apply room_of <;> omega) | skip)
  ((first | refine Ok.seqF rfl rfl ?_ | refine Ok.seqT rfl rfl ?_ | refine Ok.regF rfl rfl ?_ | refine Ok.regT rfl rfl ?_); simp only [go_sem]; (repeat' with_reducible apply And.intro); all_goals first | (with_reducible first | refine OkW.mk ?_ | refine EndW.mk ?_ | apply AskI.id | apply AskGI.id) | (with_reducible apply KOt.mk; kernel_rfl) | exact trivial | rfl | omega | ((try intro _); first | apply R64 <;> omega | apply room_of <;> omega) | skip)
  (refine AskI.ret (c148 l) ?_; simp only [go_sem]; (repeat' with_reducible apply And.intro); all_goals first | (with_reducible first | refine OkW.mk ?_ | refine EndW.mk ?_ | apply AskI.id | apply AskGI.id) | (with_reducible apply KOt.mk; kernel_rfl) | exact trivial | rfl | omega | ((try intro _); first | apply R64 <;> omega | apply room_of <;> omega) | skip)
  (refine Ok.ret ?_; (try dsimp only [thenK, blockK, noGotoK]); simp only [toList_mk, List.toList_toArray, retK_ret, retK_normal, resOK, resV, celV, rowV, frzAll, frzT, subV, subL, go_sem])
  exact .refl _
end Go.Proofs.Sight
namespace Go.Proofs.Sight
open Go Go.RX Go.Proofs
def ixL {α : Type} (q : α → Bool) (l : List α) : Int := match l.findIdx? q with | some i => i | none => -1
theorem getD_mem {α : Type} [Inhabited α] {l : List α} {i : Nat} (h : i < l.length) : l.getD i default ∈ l := by
  rw [List.getD_eq_getElem?_getD, List.getElem?_eq_getElem h]; exact List.getElem_mem h
theorem getD_lt {α : Type} [Inhabited α] {l : List α} {i : Nat} (h : i < l.length) : l.getD i default = l[i] := by
  rw [List.getD_eq_getElem?_getD, List.getElem?_eq_getElem h]; rfl
theorem getD_take {α : Type} [Inhabited α] {l : List α} {i : Nat} (h : i < l.length) : l.take (i + 1) = l.take i ++ [l.getD i default] := by
  rw [getD_lt h, List.take_succ_eq_append_getElem h]
theorem ixL_at {α : Type} [Inhabited α] {q : α → Bool} {l : List α} {i : Nat} (hi : i < l.length) (h1 : q (l.getD i default) = true) (h0 : ∀ x ∈ l.take i, q x = false) : ixL q l = i := by
  unfold ixL
  have : l.findIdx? q = some i := by
    rw [List.findIdx?_eq_some_iff_getElem]
    refine ⟨hi, by rw [getD_lt hi] at h1; exact h1, fun j hj => ?_⟩
    have := h0 (l[j]'(by omega)) (by rw [List.mem_take_iff_getElem]; exact ⟨j, by omega, rfl⟩)
    simp [this]
  rw [this]
theorem ixL_no {α : Type} {q : α → Bool} {l : List α} (h0 : ∀ x ∈ l, q x = false) : ixL q l = -1 := by
  unfold ixL
  have : l.findIdx? q = none := by
    rw [List.findIdx?_eq_none_iff]; exact h0
  rw [this]
theorem ixL_any {α : Type} (q : α → Bool) (l : List α) : decide (0 ≤ ixL q l) = l.any q := by
  unfold ixL
  cases h : l.findIdx? q with
  | none =>
    rw [List.findIdx?_eq_none_iff] at h
    have : l.any q = false := by rw [List.any_eq_false]; intro x hx; simp [h x hx]
    rw [this]; rfl
  | some i =>
    rw [List.findIdx?_eq_some_iff_getElem] at h
    obtain ⟨h1, h2, _⟩ := h
    have : l.any q = true := by rw [List.any_eq_true]; exact ⟨_, List.getElem_mem h1, h2⟩
    rw [this]; simp
theorem no_step {α : Type} [Inhabited α] {q : α → Bool} {l : List α} {i : Nat} (hi : i < l.length) (h0 : ∀ x ∈ l.take i, q x = false) (h1 : q (l.getD i default) = false) : ∀ x ∈ l.take (i + 1), q x = false := by
  intro x hx
  rw [getD_take hi, List.mem_append] at hx
  rcases hx with hx | hx
  · exact h0 x hx
  · simp at hx; rw [hx]; simpa using h1
theorem slice_D {α : Type} [Inhabited α] {k n m a : Nat} {f : α → Nat → DV} {l : List α} (hn : n = m) (ha : a + m ≤ l.length) : DEq (.sl k n (fun i j => f (l.getD (a + i) default) j)) (slD k f ((l.drop a).take m)) := by
  subst hn
  refine DEq.sl (by simp; omega) (fun i j hi hj => .of_eq ?_)
  have e : ((l.drop a).take n).getD i default = l.getD (a + i) default := by
    rw [List.getD_eq_getElem?_getD, List.getD_eq_getElem?_getD, List.getElem?_take_of_lt hi, List.getElem?_drop]
  rw [e]
end Go.Proofs.Sight
namespace Go.Proofs.Sight
open Go Go.RX Go.Proofs
set_option maxRecDepth 10000
theorem c156 (l : List Letter) (f m : Nat) (c : Nat → DV) (q : Letter → Bool) (hn : l.length < 1000000) (hf : ∀ x ∈ l, Ctr Tryz.prog f (x.sv :: take c 0 m) (bS (q x))) :
    Ctr Tryz.prog 156 [.d (slD 4 letD l), .d (.clo f m c)] (iS (ixL q l)) := by
  (refine Ctr.mk (fn := Tryz.f156) rfl rfl rfl rfl rfl Tryz.results156 ?_; dsimp only [args, List.toList_toArray])
  ((first | refine Ok.seqF rfl rfl ?_ | refine Ok.seqT rfl rfl ?_ | refine Ok.regF rfl rfl ?_ | refine Ok.regT rfl rfl ?_); simp only [go_sem]; (repeat' with_reducible apply And.intro); all_goals first | (with_reducible first | refine OkW.mk ?_ | refine EndW.mk ?_ | apply AskI.id | apply AskGI.id) | (with_reducible apply KOt.mk; kernel_rfl) | exact trivial | rfl | omega | ((try intro _); first | apply R64 <;> omega | apply room_of <;> omega) | skip)
  refine Ok.seq ?_
  ((first | refine Ok.seqF rfl rfl ?_ | refine Ok.seqT rfl rfl ?_ | refine Ok.regF rfl rfl ?_ | refine Ok.regT rfl rfl ?_); simp only [go_sem]; (repeat' with_reducible apply And.intro); all_goals first | (with_reducible first | refine OkW.mk ?_ | refine EndW.mk ?_ | apply AskI.id | apply AskGI.id) | (with_reducible apply KOt.mk; kernel_rfl) | exact trivial | rfl | omega | ((try intro _); first | apply R64 <;> omega | apply room_of <;> omega) | skip)
  refine Ok.block ?_
  refine Ok.count l.length (fun i => ⟨[(0, .d (slD 4 letD l)), (1, .d (.clo f m c)), (7, iS l.length), (8, iS i)], [], []⟩) (fun i => ∀ x ∈ l.take i, q x = false) ⟨fun x hx => by simp at hx, ?_⟩ ?_ ?_
  · (refine Sub.of ([]) ([]) ?_ ?_ ?_ rfl rfl <;> simp only [subB, subB1, subT, subT1, newT, subE, subV, subL, go_sem] <;> (try (repeat' with_reducible apply And.intro)) <;> (try first | exact DEq.refl _ | refine DEq.int ?_ | refine DEq.bool ?_ | omega))
  · intro i hi h0
    ((first | refine Ok.seqF rfl rfl ?_ | refine Ok.seqT rfl rfl ?_ | refine Ok.regF rfl rfl ?_ | refine Ok.regT rfl rfl ?_); simp only [go_sem]; (repeat' with_reducible apply And.intro); all_goals first | (with_reducible first | refine OkW.mk ?_ | refine EndW.mk ?_ | apply AskI.id | apply AskGI.id) | (with_reducible apply KOt.mk; kernel_rfl) | exact trivial | rfl | omega | ((try intro _); first | apply R64 <;> omega | apply room_of <;> omega) | skip)
    refine Ok.seq ?_
    refine Ok.cond rfl (fun _ => ?_) (fun hb => by simp at hb; omega)
    (refine Ok.skip ?_; (try dsimp only [thenK, blockK, noGotoK]))
    refine Ok.seq ?_
    refine Ok.block ?_
    ((first | refine Ok.seqF rfl rfl ?_ | refine Ok.seqT rfl rfl ?_ | refine Ok.regF rfl rfl ?_ | refine Ok.regT rfl rfl ?_); simp only [go_sem]; (repeat' with_reducible apply And.intro); all_goals first | (with_reducible first | refine OkW.mk ?_ | refine EndW.mk ?_ | apply AskI.id | apply AskGI.id) | (with_reducible apply KOt.mk; kernel_rfl) | exact trivial | rfl | omega | ((try intro _); first | apply R64 <;> omega | apply room_of <;> omega) | skip)
    ((first | refine Ok.seqF rfl rfl ?_ | refine Ok.seqT rfl rfl ?_ | refine Ok.regF rfl rfl ?_ | refine Ok.regT rfl rfl ?_); simp only [go_sem]; (repeat' with_reducible apply And.intro); all_goals first | (with_reducible first | refine OkW.mk ?_ | refine EndW.mk ?_ | apply AskI.id | apply AskGI.id) | (with_reducible apply KOt.mk; kernel_rfl) | exact trivial | rfl | omega | ((try intro _); first | apply R64 <;> omega | apply room_of <;> omega) | skip)
    (refine AskI.ret (hf (l.getD i default) (getD_mem hi)) ?_; simp only [go_sem]; (repeat' with_reducible apply And.intro); all_goals first | (with_reducible first | refine OkW.mk ?_ | refine EndW.mk ?_ | apply AskI.id | apply AskGI.id) | (with_reducible apply KOt.mk; kernel_rfl) | exact trivial | rfl | omega | ((try intro _); first | apply R64 <;> omega | apply room_of <;> omega) | skip)
    refine Ok.cond rfl ?_ ?_
    · intro hp
      ((first | refine Ok.seqF rfl rfl ?_ | refine Ok.seqT rfl rfl ?_ | refine Ok.regF rfl rfl ?_ | refine Ok.regT rfl rfl ?_); simp only [go_sem]; (repeat' with_reducible apply And.intro); all_goals first | (with_reducible first | refine OkW.mk ?_ | refine EndW.mk ?_ | apply AskI.id | apply AskGI.id) | (with_reducible apply KOt.mk; kernel_rfl) | exact trivial | rfl | omega | ((try intro _); first | apply R64 <;> omega | apply room_of <;> omega) | skip)
      (refine Ok.ret ?_; (try dsimp only [thenK, blockK, noGotoK]); simp only [toList_mk, List.toList_toArray, retK_ret, retK_normal, resOK, resV, celV, rowV, frzAll, frzT, subV, subL, go_sem])
      refine DEq.int ?_
      rw [ixL_at hi hp h0]
    · intro hp
      (refine Ok.skip ?_; (try dsimp only [thenK, blockK, noGotoK]))
      ((first | refine Ok.seqF rfl rfl ?_ | refine Ok.seqT rfl rfl ?_ | refine Ok.regF rfl rfl ?_ | refine Ok.regT rfl rfl ?_); simp only [go_sem]; (repeat' with_reducible apply And.intro); all_goals first | (with_reducible first | refine OkW.mk ?_ | refine EndW.mk ?_ | apply AskI.id | apply AskGI.id) | (with_reducible apply KOt.mk; kernel_rfl) | exact trivial | rfl | omega | ((try intro _); first | apply R64 <;> omega | apply room_of <;> omega) | skip)
      (try dsimp only [thenK, blockK, noGotoK])
      refine ⟨no_step hi h0 hp, ?_⟩
      (refine Sub.of ([]) ([]) ?_ ?_ ?_ rfl rfl <;> simp only [subB, subB1, subT, subT1, newT, subE, subV, subL, go_sem] <;> (try (repeat' with_reducible apply And.intro)) <;> (try first | exact DEq.refl _ | refine DEq.int ?_ | refine DEq.bool ?_ | omega))
  · intro h0
    ((first | refine Ok.seqF rfl rfl ?_ | refine Ok.seqT rfl rfl ?_ | refine Ok.regF rfl rfl ?_ | refine Ok.regT rfl rfl ?_); simp only [go_sem]; (repeat' with_reducible apply And.intro); all_goals first | (with_reducible first | refine OkW.mk ?_ | refine EndW.mk ?_ | apply AskI.id | apply AskGI.id) | (with_reducible apply KOt.mk; kernel_rfl) | exact trivial | rfl | omega | ((try intro _); first | apply R64 <;> omega | apply room_of <;> omega) | skip)
    refine Ok.seq ?_
    refine Ok.cond rfl (fun hb => by simp at hb) (fun _ => ?_)
    (refine Ok.exit ?_; simp only [thenK_exit, blockK_exit, noGotoK_exit, thenK_normal, blockK_normal, noGotoK_normal, ↓reduceIte, Nat.reduceEqDiff])
    ((first | refine Ok.seqF rfl rfl ?_ | refine Ok.seqT rfl rfl ?_ | refine Ok.regF rfl rfl ?_ | refine Ok.regT rfl rfl ?_); simp only [go_sem]; (repeat' with_reducible apply And.intro); all_goals first | (with_reducible first | refine OkW.mk ?_ | refine EndW.mk ?_ | apply AskI.id | apply AskGI.id) | (with_reducible apply KOt.mk; kernel_rfl) | exact trivial | rfl | omega | ((try intro _); first | apply R64 <;> omega | apply room_of <;> omega) | skip)
    (refine Ok.ret ?_; (try dsimp only [thenK, blockK, noGotoK]); simp only [toList_mk, List.toList_toArray, retK_ret, retK_normal, resOK, resV, celV, rowV, frzAll, frzT, subV, subL, go_sem])
    refine DEq.int ?_
    rw [ixL_no (fun x hx => h0 x (by simpa using hx))]
theorem c146 (l : List Letter) (f m : Nat) (c : Nat → DV) (q : Letter → Bool) (hn : l.length < 1000000) (hf : ∀ x ∈ l, Ctr Tryz.prog f (x.sv :: take c 0 m) (bS (q x))) :
    Ctr Tryz.prog 146 [.d (slD 4 letD l), .d (.clo f m c)] (bS (l.any q)) := by
  (refine Ctr.mk (fn := Tryz.f146) rfl rfl rfl rfl rfl Tryz.results146 ?_; dsimp only [args, List.toList_toArray])
  ((first | refine Ok.seqF rfl rfl ?_ | refine Ok.seqT rfl rfl ?_ | refine Ok.regF rfl rfl ?_ | refine Ok.regT rfl rfl ?_); simp only [go_sem]; (repeat' with_reducible apply And.intro); all_goals first | (with_reducible first | refine OkW.mk ?_ | refine EndW.mk ?_ | apply AskI.id | apply AskGI.id) | (with_reducible apply KOt.mk; kernel_rfl) | exact trivial | rfl | omega | ((try intro _); first | apply R64 <;> omega | apply room_of <;> omega) | skip)
  ((first | refine Ok.seqF rfl rfl ?_ | refine Ok.seqT rfl rfl ?_ | refine Ok.regF rfl rfl ?_ | refine Ok.regT rfl rfl ?_); simp only [go_sem]; (repeat' with_reducible apply And.intro); all_goals first | (with_reducible first | refine OkW.mk ?_ | refine EndW.mk ?_ | apply AskI.id | apply AskGI.id) | (with_reducible apply KOt.mk; kernel_rfl) | exact trivial | rfl | omega | ((try intro _); first | apply R64 <;> omega | apply room_of <;> omega) | skip)
  (refine AskI.ret (c156 l f m c q hn hf) ?_; simp only [go_sem]; (repeat' with_reducible apply And.intro); all_goals first | (with_reducible first | refine OkW.mk ?_ | refine EndW.mk ?_ | apply AskI.id | apply AskGI.id) | (with_reducible apply KOt.mk; kernel_rfl) | exact trivial | rfl | omega | ((try intro _); first | apply R64 <;> omega | apply room_of <;> omega) | skip)
  (refine Ok.ret ?_; (try dsimp only [thenK, blockK, noGotoK]); simp only [toList_mk, List.toList_toArray, retK_ret, retK_normal, resOK, resV, celV, rowV, frzAll, frzT, subV, subL, go_sem])
  rw [ixL_any]
  exact .refl _
theorem c145 (l : List Board) (f m : Nat) (c : Nat → DV) (q : Board → Bool) (hn : l.length < 1000000) (hf : ∀ x ∈ l, Ctr Tryz.prog f (x.sv :: take c 0 m) (bS (q x))) :
    Ctr Tryz.prog 145 [.d (slD 2 boaD l), .d (.clo f m c)] (iS (ixL q l)) := by
  (refine Ctr.mk (fn := Tryz.f145) rfl rfl rfl rfl rfl Tryz.results145 ?_; dsimp only [args, List.toList_toArray])
  ((first | refine Ok.seqF rfl rfl ?_ | refine Ok.seqT rfl rfl ?_ | refine Ok.regF rfl rfl ?_ | refine Ok.regT rfl rfl ?_); simp only [go_sem]; (repeat' with_reducible apply And.intro); all_goals first | (with_reducible first | refine OkW.mk ?_ | refine EndW.mk ?_ | apply AskI.id | apply AskGI.id) | (with_reducible apply KOt.mk; kernel_rfl) | exact trivial | rfl | omega | ((try intro _); first | apply R64 <;> omega | apply room_of <;> omega) | skip)
  refine Ok.seq ?_
  ((first | refine Ok.seqF rfl rfl ?_ | refine Ok.seqT rfl rfl ?_ | refine Ok.regF rfl rfl ?_ | refine Ok.regT rfl rfl ?_); simp only [go_sem]; (repeat' with_reducible apply And.intro); all_goals first | (with_reducible first | refine OkW.mk ?_ | refine EndW.mk ?_ | apply AskI.id | apply AskGI.id) | (with_reducible apply KOt.mk; kernel_rfl) | exact trivial | rfl | omega | ((try intro _); first | apply R64 <;> omega | apply room_of <;> omega) | skip)
  refine Ok.block ?_
  refine Ok.count l.length (fun i => ⟨[(0, .d (slD 2 boaD l)), (1, .d (.clo f m c)), (7, iS l.length), (8, iS i)], [], []⟩) (fun i => ∀ x ∈ l.take i, q x = false) ⟨fun x hx => by simp at hx, ?_⟩ ?_ ?_
  · (refine Sub.of ([]) ([]) ?_ ?_ ?_ rfl rfl <;> simp only [subB, subB1, subT, subT1, newT, subE, subV, subL, go_sem] <;> (try (repeat' with_reducible apply And.intro)) <;> (try first | exact DEq.refl _ | refine DEq.int ?_ | refine DEq.bool ?_ | omega))
  · intro i hi h0
    ((first | refine Ok.seqF rfl rfl ?_ | refine Ok.seqT rfl rfl ?_ | refine Ok.regF rfl rfl ?_ | refine Ok.regT rfl rfl ?_); simp only [go_sem]; (repeat' with_reducible apply And.intro); all_goals first | (with_reducible first | refine OkW.mk ?_ | refine EndW.mk ?_ | apply AskI.id | apply AskGI.id) | (with_reducible apply KOt.mk; kernel_rfl) | exact trivial | rfl | omega | ((try intro _); first | apply R64 <;> omega | apply room_of <;> omega) | skip)
    refine Ok.seq ?_
    refine Ok.cond rfl (fun _ => ?_) (fun hb => by simp at hb; omega)
    (refine Ok.skip ?_; (try dsimp only [thenK, blockK, noGotoK]))
    refine Ok.seq ?_
    refine Ok.block ?_
    ((first | refine Ok.seqF rfl rfl ?_ | refine Ok.seqT rfl rfl ?_ | refine Ok.regF rfl rfl ?_ | refine Ok.regT rfl rfl ?_); simp only [go_sem]; (repeat' with_reducible apply And.intro); all_goals first | (with_reducible first | refine OkW.mk ?_ | refine EndW.mk ?_ | apply AskI.id | apply AskGI.id) | (with_reducible apply KOt.mk; kernel_rfl) | exact trivial | rfl | omega | ((try intro _); first | apply R64 <;> omega | apply room_of <;> omega) | skip)
    ((first | refine Ok.seqF rfl rfl ?_ | refine Ok.seqT rfl rfl ?_ | refine Ok.regF rfl rfl ?_ | refine Ok.regT rfl rfl ?_); simp only [go_sem]; (repeat' with_reducible apply And.intro); all_goals first | (with_reducible first | refine OkW.mk ?_ | refine EndW.mk ?_ | apply AskI.id | apply AskGI.id) | (with_reducible apply KOt.mk; kernel_rfl) | exact trivial | rfl | omega | ((try intro _); first | apply R64 <;> omega | apply room_of <;> omega) | skip)
    (refine AskI.ret (hf (l.getD i default) (getD_mem hi)) ?_; simp only [go_sem]; (repeat' with_reducible apply And.intro); all_goals first | (with_reducible first | refine OkW.mk ?_ | refine EndW.mk ?_ | apply AskI.id | apply AskGI.id) | (with_reducible apply KOt.mk; kernel_rfl) | exact trivial | rfl | omega | ((try intro _); first | apply R64 <;> omega | apply room_of <;> omega) | skip)
    refine Ok.cond rfl ?_ ?_
    · intro hp
      ((first | refine Ok.seqF rfl rfl ?_ | refine Ok.seqT rfl rfl ?_ | refine Ok.regF rfl rfl ?_ | refine Ok.regT rfl rfl ?_); simp only [go_sem]; (repeat' with_reducible apply And.intro); all_goals first | (with_reducible first | refine OkW.mk ?_ | refine EndW.mk ?_ | apply AskI.id | apply AskGI.id) | (with_reducible apply KOt.mk; kernel_rfl) | exact trivial | rfl | omega | ((try intro _); first | apply R64 <;> omega | apply room_of <;> omega) | skip)
      (refine Ok.ret ?_; (try dsimp only [thenK, blockK, noGotoK]); simp only [toList_mk, List.toList_toArray, retK_ret, retK_normal, resOK, resV, celV, rowV, frzAll, frzT, subV, subL, go_sem])
      refine DEq.int ?_
      rw [ixL_at hi hp h0]
    · intro hp
      (refine Ok.skip ?_; (try dsimp only [thenK, blockK, noGotoK]))
      ((first | refine Ok.seqF rfl rfl ?_ | refine Ok.seqT rfl rfl ?_ | refine Ok.regF rfl rfl ?_ | refine Ok.regT rfl rfl ?_); simp only [go_sem]; (repeat' with_reducible apply And.intro); all_goals first | (with_reducible first | refine OkW.mk ?_ | refine EndW.mk ?_ | apply AskI.id | apply AskGI.id) | (with_reducible apply KOt.mk; kernel_rfl) | exact trivial | rfl | omega | ((try intro _); first | apply R64 <;> omega | apply room_of <;> omega) | skip)
      (try dsimp only [thenK, blockK, noGotoK])
      refine ⟨no_step hi h0 hp, ?_⟩
      (refine Sub.of ([]) ([]) ?_ ?_ ?_ rfl rfl <;> simp only [subB, subB1, subT, subT1, newT, subE, subV, subL, go_sem] <;> (try (repeat' with_reducible apply And.intro)) <;> (try first | exact DEq.refl _ | refine DEq.int ?_ | refine DEq.bool ?_ | omega))
  · intro h0
    ((first | refine Ok.seqF rfl rfl ?_ | refine Ok.seqT rfl rfl ?_ | refine Ok.regF rfl rfl ?_ | refine Ok.regT rfl rfl ?_); simp only [go_sem]; (repeat' with_reducible apply And.intro); all_goals first | (with_reducible first | refine OkW.mk ?_ | refine EndW.mk ?_ | apply AskI.id | apply AskGI.id) | (with_reducible apply KOt.mk; kernel_rfl) | exact trivial | rfl | omega | ((try intro _); first | apply R64 <;> omega | apply room_of <;> omega) | skip)
    refine Ok.seq ?_
    refine Ok.cond rfl (fun hb => by simp at hb) (fun _ => ?_)
    (refine Ok.exit ?_; simp only [thenK_exit, blockK_exit, noGotoK_exit, thenK_normal, blockK_normal, noGotoK_normal, ↓reduceIte, Nat.reduceEqDiff])
    ((first | refine Ok.seqF rfl rfl ?_ | refine Ok.seqT rfl rfl ?_ | refine Ok.regF rfl rfl ?_ | refine Ok.regT rfl rfl ?_); simp only [go_sem]; (repeat' with_reducible apply And.intro); all_goals first | (with_reducible first | refine OkW.mk ?_ | refine EndW.mk ?_ | apply AskI.id | apply AskGI.id) | (with_reducible apply KOt.mk; kernel_rfl) | exact trivial | rfl | omega | ((try intro _); first | apply R64 <;> omega | apply room_of <;> omega) | skip)
    (refine Ok.ret ?_; (try dsimp only [thenK, blockK, noGotoK]); simp only [toList_mk, List.toList_toArray, retK_ret, retK_normal, resOK, resV, celV, rowV, frzAll, frzT, subV, subL, go_sem])
    refine DEq.int ?_
    rw [ixL_no (fun x hx => h0 x (by simpa using hx))]
theorem c126 (l : List Board) (f m : Nat) (c : Nat → DV) (q : Board → Bool) (hn : l.length < 1000000) (hf : ∀ x ∈ l, Ctr Tryz.prog f (x.sv :: take c 0 m) (bS (q x))) :
    Ctr Tryz.prog 126 [.d (slD 2 boaD l), .d (.clo f m c)] (bS (l.any q)) := by
  (refine Ctr.mk (fn := Tryz.f126) rfl rfl rfl rfl rfl Tryz.results126 ?_; dsimp only [args, List.toList_toArray])
  ((first | refine Ok.seqF rfl rfl ?_ | refine Ok.seqT rfl rfl ?_ | refine Ok.regF rfl rfl ?_ | refine Ok.regT rfl rfl ?_); simp only [go_sem]; (repeat' with_reducible apply And.intro); all_goals first | (with_reducible first | refine OkW.mk ?_ | refine EndW.mk ?_ | apply AskI.id | apply AskGI.id) | (with_reducible apply KOt.mk; kernel_rfl) | exact trivial | rfl | omega | ((try intro _); first | apply R64 <;> omega | apply room_of <;> omega) | skip)
  ((first | refine Ok.seqF rfl rfl ?_ | refine Ok.seqT rfl rfl ?_ | refine Ok.regF rfl rfl ?_ | refine Ok.regT rfl rfl ?_); simp only [go_sem]; (repeat' with_reducible apply And.intro); all_goals first | (with_reducible first | refine OkW.mk ?_ | refine EndW.mk ?_ | apply AskI.id | apply AskGI.id) | (with_reducible apply KOt.mk; kernel_rfl) | exact trivial | rfl | omega | ((try intro _); first | apply R64 <;> omega | apply room_of <;> omega) | skip)
  (refine AskI.ret (c145 l f m c q hn hf) ?_; simp only [go_sem]; (repeat' with_reducible apply And.intro); all_goals first | (with_reducible first | refine OkW.mk ?_ | refine EndW.mk ?_ | apply AskI.id | apply AskGI.id) | (with_reducible apply KOt.mk; kernel_rfl) | exact trivial | rfl | omega | ((try intro _); first | apply R64 <;> omega | apply room_of <;> omega) | skip)
  (refine Ok.ret ?_; (try dsimp only [thenK, blockK, noGotoK]); simp only [toList_mk, List.toList_toArray, retK_ret, retK_normal, resOK, resV, celV, rowV, frzAll, frzT, subV, subL, go_sem])
  rw [ixL_any]
  exact .refl _
theorem c149 (l : List Block) (f m : Nat) (c : Nat → DV) (q : Block → Bool) (hn : l.length < 1000000) (hf : ∀ x ∈ l, Ctr Tryz.prog f (x.sv :: take c 0 m) (bS (q x))) :
    Ctr Tryz.prog 149 [.d (slD 5 bloD l), .d (.clo f m c)] (iS (ixL q l)) := by
  (refine Ctr.mk (fn := Tryz.f149) rfl rfl rfl rfl rfl Tryz.results149 ?_; dsimp only [args, List.toList_toArray])
  ((first | refine Ok.seqF rfl rfl ?_ | refine Ok.seqT rfl rfl ?_ | refine Ok.regF rfl rfl ?_ | refine Ok.regT rfl rfl ?_); simp only [go_sem]; (repeat' with_reducible apply And.intro); all_goals first | (with_reducible first | refine OkW.mk ?_ | refine EndW.mk ?_ | apply AskI.id | apply AskGI.id) | (with_reducible apply KOt.mk; kernel_rfl) | exact trivial | rfl | omega | ((try intro _); first | apply R64 <;> omega | apply room_of <;> omega) | skip)
  refine Ok.seq ?_
  ((first | refine Ok.seqF rfl rfl ?_ | refine Ok.seqT rfl rfl ?_ | refine Ok.regF rfl rfl ?_ | refine Ok.regT rfl rfl ?_); simp only [go_sem]; (repeat' with_reducible apply And.intro); all_goals first | (with_reducible first | refine OkW.mk ?_ | refine EndW.mk ?_ | apply AskI.id | apply AskGI.id) | (with_reducible apply KOt.mk; kernel_rfl) | exact trivial | rfl | omega | ((try intro _); first | apply R64 <;> omega | apply room_of <;> omega) | skip)
  refine Ok.block ?_
  refine Ok.count l.length (fun i => ⟨[(0, .d (slD 5 bloD l)), (1, .d (.clo f m c)), (7, iS l.length), (8, iS i)], [], []⟩) (fun i => ∀ x ∈ l.take i, q x = false) ⟨fun x hx => by simp at hx, ?_⟩ ?_ ?_
  · (refine Sub.of ([]) ([]) ?_ ?_ ?_ rfl rfl <;> simp only [subB, subB1, subT, subT1, newT, subE, subV, subL, go_sem] <;> (try (repeat' with_reducible apply And.intro)) <;> (try first | exact DEq.refl _ | refine DEq.int ?_ | refine DEq.bool ?_ | omega))
  · intro i hi h0
    ((first | refine Ok.seqF rfl rfl ?_ | refine Ok.seqT rfl rfl ?_ | refine Ok.regF rfl rfl ?_ | refine Ok.regT rfl rfl ?_); simp only [go_sem]; (repeat' with_reducible apply And.intro); all_goals first | (with_reducible first | refine OkW.mk ?_ | refine EndW.mk ?_ | apply AskI.id | apply AskGI.id) | (with_reducible apply KOt.mk; kernel_rfl) | exact trivial | rfl | omega | ((try intro _); first | apply R64 <;> omega | apply room_of <;> omega) | skip)
    refine Ok.seq ?_
    refine Ok.cond rfl (fun _ => ?_) (fun hb => by simp at hb; omega)
    (refine Ok.skip ?_; (try dsimp only [thenK, blockK, noGotoK]))
    refine Ok.seq ?_
    refine Ok.block ?_
    ((first | refine Ok.seqF rfl rfl ?_ | refine Ok.seqT rfl rfl ?_ | refine Ok.regF rfl rfl ?_ | refine Ok.regT rfl rfl ?_); simp only [go_sem]; (repeat' with_reducible apply And.intro); all_goals first | (with_reducible first | refine OkW.mk ?_ | refine EndW.mk ?_ | apply AskI.id | apply AskGI.id) | (with_reducible apply KOt.mk; kernel_rfl) | exact trivial | rfl | omega | ((try intro _); first | apply R64 <;> omega | apply room_of <;> omega) | skip)
    ((first | refine Ok.seqF rfl rfl ?_ | refine Ok.seqT rfl rfl ?_ | refine Ok.regF rfl rfl ?_ | refine Ok.regT rfl rfl ?_); simp only [go_sem]; (repeat' with_reducible apply And.intro); all_goals first | (with_reducible first | refine OkW.mk ?_ | refine EndW.mk ?_ | apply AskI.id | apply AskGI.id) | (with_reducible apply KOt.mk; kernel_rfl) | exact trivial | rfl | omega | ((try intro _); first | apply R64 <;> omega | apply room_of <;> omega) | skip)
    (refine AskI.ret (hf (l.getD i default) (getD_mem hi)) ?_; simp only [go_sem]; (repeat' with_reducible apply And.intro); all_goals first | (with_reducible first | refine OkW.mk ?_ | refine EndW.mk ?_ | apply AskI.id | apply AskGI.id) | (with_reducible apply KOt.mk; kernel_rfl) | exact trivial | rfl | omega | ((try intro _); first | apply R64 <;> omega | apply room_of <;> omega) | skip)
    refine Ok.cond rfl ?_ ?_
    · intro hp
      ((first | refine Ok.seqF rfl rfl ?_ | refine Ok.seqT rfl rfl ?_ | refine Ok.regF rfl rfl ?_ | refine Ok.regT rfl rfl ?_); simp only [go_sem]; (repeat' with_reducible apply And.intro); all_goals first | (with_reducible first | refine OkW.mk ?_ | refine EndW.mk ?_ | apply AskI.id | apply AskGI.id) | (with_reducible apply KOt.mk; kernel_rfl) | exact trivial | rfl | omega | ((try intro _); first | apply R64 <;> omega | apply room_of <;> omega) | skip)
      (refine Ok.ret ?_; (try dsimp only [thenK, blockK, noGotoK]); simp only [toList_mk, List.toList_toArray, retK_ret, retK_normal, resOK, resV, celV, rowV, frzAll, frzT, subV, subL, go_sem])
      refine DEq.int ?_
      rw [ixL_at hi hp h0]
    · intro hp
      (refine Ok.skip ?_; (try dsimp only [thenK, blockK, noGotoK]))
      ((first | refine Ok.seqF rfl rfl ?_ | refine Ok.seqT rfl rfl ?_ | refine Ok.regF rfl rfl ?_ | refine Ok.regT rfl rfl ?_); simp only [go_sem]; (repeat' with_reducible apply And.intro); all_goals first | (with_reducible first | refine OkW.mk ?_ | refine EndW.mk ?_ | apply AskI.id | apply AskGI.id) | (with_reducible apply KOt.mk; kernel_rfl) | exact trivial | rfl | omega | ((try intro _); first | apply R64 <;> omega | apply room_of <;> omega) | skip)
      (try dsimp only [thenK, blockK, noGotoK])
      refine ⟨no_step hi h0 hp, ?_⟩
      (refine Sub.of ([]) ([]) ?_ ?_ ?_ rfl rfl <;> simp only [subB, subB1, subT, subT1, newT, subE, subV, subL, go_sem] <;> (try (repeat' with_reducible apply And.intro)) <;> (try first | exact DEq.refl _ | refine DEq.int ?_ | refine DEq.bool ?_ | omega))
  · intro h0
    ((first | refine Ok.seqF rfl rfl ?_ | refine Ok.seqT rfl rfl ?_ | refine Ok.regF rfl rfl ?_ | refine Ok.regT rfl rfl ?_); simp only [go_sem]; (repeat' with_reducible apply And.intro); all_goals first | (with_reducible first | refine OkW.mk ?_ | refine EndW.mk ?_ | apply AskI.id | apply AskGI.id) | (with_reducible apply KOt.mk; kernel_rfl) | exact trivial | rfl | omega | ((try intro _); first | apply R64 <;> omega | apply room_of <;> omega) | skip)
    refine Ok.seq ?_
    refine Ok.cond rfl (fun hb => by simp at hb) (fun _ => ?_)
    (refine Ok.exit ?_; simp only [thenK_exit, blockK_exit, noGotoK_exit, thenK_normal, blockK_normal, noGotoK_normal, ↓reduceIte, Nat.reduceEqDiff])
    ((first | refine Ok.seqF rfl rfl ?_ | refine Ok.seqT rfl rfl ?_ | refine Ok.regF rfl rfl ?_ | refine Ok.regT rfl rfl ?_); simp only [go_sem]; (repeat' with_reducible apply And.intro); all_goals first | (with_reducible first | refine OkW.mk ?_ | refine EndW.mk ?_ | apply AskI.id | apply AskGI.id) | (with_reducible apply KOt.mk; kernel_rfl) | exact trivial | rfl | omega | ((try intro _); first | apply R64 <;> omega | apply room_of <;> omega) | skip)
    (refine Ok.ret ?_; (try dsimp only [thenK, blockK, noGotoK]); simp only [toList_mk, List.toList_toArray, retK_ret, retK_normal, resOK, resV, celV, rowV, frzAll, frzT, subV, subL, go_sem])
    refine DEq.int ?_
    rw [ixL_no (fun x hx => h0 x (by simpa using hx))]
theorem c129 (l : List Block) (f m : Nat) (c : Nat → DV) (q : Block → Bool) (hn : l.length < 1000000) (hf : ∀ x ∈ l, Ctr Tryz.prog f (x.sv :: take c 0 m) (bS (q x))) :
    Ctr Tryz.prog 129 [.d (slD 5 bloD l), .d (.clo f m c)] (bS (l.any q)) := by
  (refine Ctr.mk (fn := Tryz.f129) rfl rfl rfl rfl rfl Tryz.results129 ?_; dsimp only [args, List.toList_toArray])
  ((first | refine Ok.seqF rfl rfl ?_ | refine Ok.seqT rfl rfl ?_ | refine Ok.regF rfl rfl ?_ | refine Ok.regT rfl rfl ?_); simp only [go_sem]; (repeat' with_reducible apply And.intro); all_goals first | (with_reducible first | refine OkW.mk ?_ | refine EndW.mk ?_ | apply AskI.id | apply AskGI.id) | (with_reducible apply KOt.mk; kernel_rfl) | exact trivial | rfl | omega | ((try intro _); first | apply R64 <;> omega | apply room_of <;> omega) | skip)
  ((first | refine Ok.seqF rfl rfl ?_ | refine Ok.seqT rfl rfl ?_ | refine Ok.regF rfl rfl ?_ | refine Ok.regT rfl rfl ?_); simp only [go_sem]; (repeat' with_reducible apply And.intro); all_goals first | (with_reducible first | refine OkW.mk ?_ | refine EndW.mk ?_ | apply AskI.id | apply AskGI.id) | (with_reducible apply KOt.mk; kernel_rfl) | exact trivial | rfl | omega | ((try intro _); first | apply R64 <;> omega | apply room_of <;> omega) | skip)
  (refine AskI.ret (c149 l f m c q hn hf) ?_; simp only [go_sem]; (repeat' with_reducible apply And.intro); all_goals first | (with_reducible first | refine OkW.mk ?_ | refine EndW.mk ?_ | apply AskI.id | apply AskGI.id) | (with_reducible apply KOt.mk; kernel_rfl) | exact trivial | rfl | omega | ((try intro _); first | apply R64 <;> omega | apply room_of <;> omega) | skip)
  (refine Ok.ret ?_; (try dsimp only [thenK, blockK, noGotoK]); simp only [toList_mk, List.toList_toArray, retK_ret, retK_normal, resOK, resV, celV, rowV, frzAll, frzT, subV, subL, go_sem])
  rw [ixL_any]
  exact .refl _
theorem c140 (l : List Place) (f m : Nat) (c : Nat → DV) (q : Place → Bool) (hn : l.length < 1000000) (hf : ∀ x ∈ l, Ctr Tryz.prog f (x.sv :: take c 0 m) (bS (q x))) :
    Ctr Tryz.prog 140 [.d (slD 2 plaD l), .d (.clo f m c)] (iS (ixL q l)) := by
  (refine Ctr.mk (fn := Tryz.f140) rfl rfl rfl rfl rfl Tryz.results140 ?_; dsimp only [args, List.toList_toArray])
  ((first | refine Ok.seqF rfl rfl ?_ | refine Ok.seqT rfl rfl ?_ | refine Ok.regF rfl rfl ?_ | refine Ok.regT rfl rfl ?_); simp only [go_sem]; (repeat' with_reducible apply And.intro); all_goals first | (with_reducible first | refine OkW.mk ?_ | refine EndW.mk ?_ | apply AskI.id | apply AskGI.id) | (with_reducible apply KOt.mk; kernel_rfl) | exact trivial | rfl | omega | ((try intro _); first | apply R64 <;> omega | apply room_of <;> omega) | skip)
  refine Ok.seq ?_
  ((first | refine Ok.seqF rfl rfl ?_ | refine Ok.seqT rfl rfl ?_ | refine Ok.regF rfl rfl ?_ | refine Ok.regT rfl rfl ?_); simp only [go_sem]; (repeat' with_reducible apply And.intro); all_goals first | (with_reducible first | refine OkW.mk ?_ | refine EndW.mk ?_ | apply AskI.id | apply AskGI.id) | (with_reducible apply KOt.mk; kernel_rfl) | exact trivial | rfl | omega | ((try intro _); first | apply R64 <;> omega | apply room_of <;> omega) | skip)
  refine Ok.block ?_
  refine Ok.count l.length (fun i => ⟨[(0, .d (slD 2 plaD l)), (1, .d (.clo f m c)), (7, iS l.length), (8, iS i)], [], []⟩) (fun i => ∀ x ∈ l.take i, q x = false) ⟨fun x hx => by simp at hx, ?_⟩ ?_ ?_
  · (refine Sub.of ([]) ([]) ?_ ?_ ?_ rfl rfl <;> simp only [subB, subB1, subT, subT1, newT, subE, subV, subL, go_sem] <;> (try (repeat' with_reducible apply And.intro)) <;> (try first | exact DEq.refl _ | refine DEq.int ?_ | refine DEq.bool ?_ | omega))
  · intro i hi h0
    ((first | refine Ok.seqF rfl rfl ?_ | refine Ok.seqT rfl rfl ?_ | refine Ok.regF rfl rfl ?_ | refine Ok.regT rfl rfl ?_); simp only [go_sem]; (repeat' with_reducible apply And.intro); all_goals first | (with_reducible first | refine OkW.mk ?_ | refine EndW.mk ?_ | apply AskI.id | apply AskGI.id) | (with_reducible apply KOt.mk; kernel_rfl) | exact trivial | rfl | omega | ((try intro _); first | apply R64 <;> omega | apply room_of <;> omega) | skip)
    refine Ok.seq ?_
    refine Ok.cond rfl (fun _ => ?_) (fun hb => by simp at hb; omega)
    (refine Ok.skip ?_; (try dsimp only [thenK, blockK, noGotoK]))
    refine Ok.seq ?_
    refine Ok.block ?_
    ((first | refine Ok.seqF rfl rfl ?_ | refine Ok.seqT rfl rfl ?_ | refine Ok.regF rfl rfl ?_ | refine Ok.regT rfl rfl ?_); simp only [go_sem]; (repeat' with_reducible apply And.intro); all_goals first | (with_reducible first | refine OkW.mk ?_ | refine EndW.mk ?_ | apply AskI.id | apply AskGI.id) | (with_reducible apply KOt.mk; kernel_rfl) | exact trivial | rfl | omega | ((try intro _); first | apply R64 <;> omega | apply room_of <;> omega) | skip)
    ((first | refine Ok.seqF rfl rfl ?_ | refine Ok.seqT rfl rfl ?_ | refine Ok.regF rfl rfl ?_ | refine Ok.regT rfl rfl ?_); simp only [go_sem]; (repeat' with_reducible apply And.intro); all_goals first | (with_reducible first | refine OkW.mk ?_ | refine EndW.mk ?_ | apply AskI.id | apply AskGI.id) | (with_reducible apply KOt.mk; kernel_rfl) | exact trivial | rfl | omega | ((try intro _); first | apply R64 <;> omega | apply room_of <;> omega) | skip)
    (refine AskI.ret (hf (l.getD i default) (getD_mem hi)) ?_; simp only [go_sem]; (repeat' with_reducible apply And.intro); all_goals first | (with_reducible first | refine OkW.mk ?_ | refine EndW.mk ?_ | apply AskI.id | apply AskGI.id) | (with_reducible apply KOt.mk; kernel_rfl) | exact trivial | rfl | omega | ((try intro _); first | apply R64 <;> omega | apply room_of <;> omega) | skip)
    refine Ok.cond rfl ?_ ?_
    · intro hp
      ((first | refine Ok.seqF rfl rfl ?_ | refine Ok.seqT rfl rfl ?_ | refine Ok.regF rfl rfl ?_ | refine Ok.regT rfl rfl ?_); simp only [go_sem]; (repeat' with_reducible apply And.intro); all_goals first | (with_reducible first | refine OkW.mk ?_ | refine EndW.mk ?_ | apply AskI.id | apply AskGI.id) | (with_reducible apply KOt.mk; kernel_rfl) | exact trivial | rfl | omega | ((try intro _); first | apply R64 <;> omega | apply room_of <;> omega) | skip)
      (refine Ok.ret ?_; (try dsimp only [thenK, blockK, noGotoK]); simp only [toList_mk, List.toList_toArray, retK_ret, retK_normal, resOK, resV, celV, rowV, frzAll, frzT, subV, subL, go_sem])
      refine DEq.int ?_
      rw [ixL_at hi hp h0]
    · intro hp
      (refine Ok.skip ?_; (try dsimp only [thenK, blockK, noGotoK]))
      ((first | refine Ok.seqF rfl rfl ?_ | refine Ok.seqT rfl rfl ?_ | refine Ok.regF rfl rfl ?_ | refine Ok.regT rfl rfl ?_); simp only [go_sem]; (repeat' with_reducible apply And.intro); all_goals first | (with_reducible first | refine OkW.mk ?_ | refine EndW.mk ?_ | apply AskI.id | apply AskGI.id) | (with_reducible apply KOt.mk; kernel_rfl) | exact trivial | rfl | omega | ((try intro _); first | apply R64 <;> omega | apply room_of <;> omega) | skip)
      (try dsimp only [thenK, blockK, noGotoK])
      refine ⟨no_step hi h0 hp, ?_⟩
      (refine Sub.of ([]) ([]) ?_ ?_ ?_ rfl rfl <;> simp only [subB, subB1, subT, subT1, newT, subE, subV, subL, go_sem] <;> (try (repeat' with_reducible apply And.intro)) <;> (try first | exact DEq.refl _ | refine DEq.int ?_ | refine DEq.bool ?_ | omega))
  · intro h0
    ((first | refine Ok.seqF rfl rfl ?_ | refine Ok.seqT rfl rfl ?_ | refine Ok.regF rfl rfl ?_ | refine Ok.regT rfl rfl ?_); simp only [go_sem]; (repeat' with_reducible apply And.intro); all_goals first | (with_reducible first | refine OkW.mk ?_ | refine EndW.mk ?_ | apply AskI.id | apply AskGI.id) | (with_reducible apply KOt.mk; kernel_rfl) | exact trivial | rfl | omega | ((try intro _); first | apply R64 <;> omega | apply room_of <;> omega) | skip)
    refine Ok.seq ?_
    refine Ok.cond rfl (fun hb => by simp at hb) (fun _ => ?_)
    (refine Ok.exit ?_; simp only [thenK_exit, blockK_exit, noGotoK_exit, thenK_normal, blockK_normal, noGotoK_normal, ↓reduceIte, Nat.reduceEqDiff])
    ((first | refine Ok.seqF rfl rfl ?_ | refine Ok.seqT rfl rfl ?_ | refine Ok.regF rfl rfl ?_ | refine Ok.regT rfl rfl ?_); simp only [go_sem]; (repeat' with_reducible apply And.intro); all_goals first | (with_reducible first | refine OkW.mk ?_ | refine EndW.mk ?_ | apply AskI.id | apply AskGI.id) | (with_reducible apply KOt.mk; kernel_rfl) | exact trivial | rfl | omega | ((try intro _); first | apply R64 <;> omega | apply room_of <;> omega) | skip)
    (refine Ok.ret ?_; (try dsimp only [thenK, blockK, noGotoK]); simp only [toList_mk, List.toList_toArray, retK_ret, retK_normal, resOK, resV, celV, rowV, frzAll, frzT, subV, subL, go_sem])
    refine DEq.int ?_
    rw [ixL_no (fun x hx => h0 x (by simpa using hx))]
end Go.Proofs.Sight
namespace Go.Proofs.Sight
open Go Go.RX Go.Proofs
set_option maxRecDepth 10000
def isBoard (b : Board) (len : Int) : Bool :=
  inR b.at_ 0 len && inR b.ls.length 1 5 && ((b.ls.getD (b.ls.length - 1) default).p == 0) && !(b.ls.any (!isLetter ·))
theorem c128 (b : Board) (len : Int) (hn : b.ls.length < 1000000) : Ctr Tryz.prog 128 [b.sv, iS len] (bS (isBoard b len)) := by
  (refine Ctr.mk (fn := Tryz.f128) rfl rfl rfl rfl rfl Tryz.results128 ?_; dsimp only [args, List.toList_toArray])
  ((first | refine Ok.seqF rfl rfl ?_ | refine Ok.seqT rfl rfl ?_ | refine Ok.regF rfl rfl ?_ | refine Ok.regT rfl rfl ?_); simp only [go_sem]; (repeat' with_reducible apply And.intro); all_goals first | (with_reducible first | refine OkW.mk ?_ | refine EndW.mk ?_ | apply AskI.id | apply AskGI.id) | (with_reducible apply KOt.mk; kernel_rfl) | exact trivial | rfl | omega | ((try intro _); first | apply R64 <;> omega | apply room_of <;> omega) | skip)
  refine Ok.seq ?_
  ((first | refine Ok.seqF rfl rfl ?_ | refine Ok.seqT rfl rfl ?_ | refine Ok.regF rfl rfl ?_ | refine Ok.regT rfl rfl ?_); simp only [go_sem]; (repeat' with_reducible apply And.intro); all_goals first | (with_reducible first | refine OkW.mk ?_ | refine EndW.mk ?_ | apply AskI.id | apply AskGI.id) | (with_reducible apply KOt.mk; kernel_rfl) | exact trivial | rfl | omega | ((try intro _); first | apply R64 <;> omega | apply room_of <;> omega) | skip)
  (refine AskI.ret (c114 _ _ _) ?_; simp only [go_sem]; (repeat' with_reducible apply And.intro); all_goals first | (with_reducible first | refine OkW.mk ?_ | refine EndW.mk ?_ | apply AskI.id | apply AskGI.id) | (with_reducible apply KOt.mk; kernel_rfl) | exact trivial | rfl | omega | ((try intro _); first | apply R64 <;> omega | apply room_of <;> omega) | skip)
  (refine AskGI.ret (fun _ => c114 _ _ _) ?_; simp only [go_sem]; (repeat' with_reducible apply And.intro); all_goals first | (with_reducible first | refine OkW.mk ?_ | refine EndW.mk ?_ | apply AskI.id | apply AskGI.id) | (with_reducible apply KOt.mk; kernel_rfl) | exact trivial | rfl | omega | ((try intro _); first | apply R64 <;> omega | apply room_of <;> omega) | skip)
  · intro h
    simp only [inR, beq_iff_eq, Bool.or_eq_false_iff, Bool.not_eq_false', Bool.and_eq_true, decide_eq_true_eq, beq_false, Bool.not_eq_true'] at h
    exact ⟨by omega, by omega⟩
  have e : (↑b.ls.length - 1 : Int).toNat = b.ls.length - 1 := by omega
  refine Ok.cond rfl ?_ ?_
  · intro hb
    ((first | refine Ok.seqF rfl rfl ?_ | refine Ok.seqT rfl rfl ?_ | refine Ok.regF rfl rfl ?_ | refine Ok.regT rfl rfl ?_); simp only [go_sem]; (repeat' with_reducible apply And.intro); all_goals first | (with_reducible first | refine OkW.mk ?_ | refine EndW.mk ?_ | apply AskI.id | apply AskGI.id) | (with_reducible apply KOt.mk; kernel_rfl) | exact trivial | rfl | omega | ((try intro _); first | apply R64 <;> omega | apply room_of <;> omega) | skip)
    (refine Ok.ret ?_; (try dsimp only [thenK, blockK, noGotoK]); simp only [toList_mk, List.toList_toArray, retK_ret, retK_normal, resOK, resV, celV, rowV, frzAll, frzT, subV, subL, go_sem])
    refine DEq.bool ?_
    simp only [isBoard]
    rw [e] at hb
    cases h1 : inR b.at_ 0 len <;> cases h2 : inR (↑b.ls.length) 1 5 <;> simp_all
  · intro hb
    (refine Ok.skip ?_; (try dsimp only [thenK, blockK, noGotoK]))
    ((first | refine Ok.seqF rfl rfl ?_ | refine Ok.seqT rfl rfl ?_ | refine Ok.regF rfl rfl ?_ | refine Ok.regT rfl rfl ?_); simp only [go_sem]; (repeat' with_reducible apply And.intro); all_goals first | (with_reducible first | refine OkW.mk ?_ | refine EndW.mk ?_ | apply AskI.id | apply AskGI.id) | (with_reducible apply KOt.mk; kernel_rfl) | exact trivial | rfl | omega | ((try intro _); first | apply R64 <;> omega | apply room_of <;> omega) | skip)
    (refine AskI.ret (c146 b.ls 147 0 _ (!isLetter ·) hn (fun x _ => c147 x)) ?_; simp only [go_sem]; (repeat' with_reducible apply And.intro); all_goals first | (with_reducible first | refine OkW.mk ?_ | refine EndW.mk ?_ | apply AskI.id | apply AskGI.id) | (with_reducible apply KOt.mk; kernel_rfl) | exact trivial | rfl | omega | ((try intro _); first | apply R64 <;> omega | apply room_of <;> omega) | skip)
    (refine Ok.ret ?_; (try dsimp only [thenK, blockK, noGotoK]); simp only [toList_mk, List.toList_toArray, retK_ret, retK_normal, resOK, resV, celV, rowV, frzAll, frzT, subV, subL, go_sem])
    refine DEq.bool ?_
    simp only [isBoard]
    rw [e] at hb
    cases h1 : inR b.at_ 0 len <;> cases h2 : inR (↑b.ls.length) 1 5 <;> simp_all
abbrev Street.cells (s : Street) : List DV := [iD s.len, iD s.wid, iD s.el, iD s.eh, iD s.ll, iD s.lh, slD 2 boaD s.bs, slD 5 bloD s.ks]
abbrev Street.ref (s : Street) : DV := .ref 8 (dget s.cells)
theorem c127 (b : Board) (s : Street) (hn : b.ls.length < 1000000) : Ctr Tryz.prog 127 [b.sv, .d s.ref] (bS (!isBoard b s.len)) := by
  (refine Ctr.mk (fn := Tryz.f127) rfl rfl rfl rfl rfl Tryz.results127 ?_; dsimp only [args, List.toList_toArray])
  ((first | refine Ok.seqF rfl rfl ?_ | refine Ok.seqT rfl rfl ?_ | refine Ok.regF rfl rfl ?_ | refine Ok.regT rfl rfl ?_); simp only [go_sem]; (repeat' with_reducible apply And.intro); all_goals first | (with_reducible first | refine OkW.mk ?_ | refine EndW.mk ?_ | apply AskI.id | apply AskGI.id) | (with_reducible apply KOt.mk; kernel_rfl) | exact trivial | rfl | omega | ((try intro _); first | apply R64 <;> omega | apply room_of <;> omega) | skip)
  ((first | refine Ok.seqF rfl rfl ?_ | refine Ok.seqT rfl rfl ?_ | refine Ok.regF rfl rfl ?_ | refine Ok.regT rfl rfl ?_); simp only [go_sem]; (repeat' with_reducible apply And.intro); all_goals first | (with_reducible first | refine OkW.mk ?_ | refine EndW.mk ?_ | apply AskI.id | apply AskGI.id) | (with_reducible apply KOt.mk; kernel_rfl) | exact trivial | rfl | omega | ((try intro _); first | apply R64 <;> omega | apply room_of <;> omega) | skip)
  (refine AskI.ret (c128 b s.len hn) ?_; simp only [go_sem]; (repeat' with_reducible apply And.intro); all_goals first | (with_reducible first | refine OkW.mk ?_ | refine EndW.mk ?_ | apply AskI.id | apply AskGI.id) | (with_reducible apply KOt.mk; kernel_rfl) | exact trivial | rfl | omega | ((try intro _); first | apply R64 <;> omega | apply room_of <;> omega) | skip)
  (refine Ok.ret ?_; (try dsimp only [thenK, blockK, noGotoK]); simp only [toList_mk, List.toList_toArray, retK_ret, retK_normal, resOK, resV, celV, rowV, frzAll, frzT, subV, subL, go_sem])
  exact .refl _
def blockIn (k : Block) (s : Street) : Bool := spanR k.al k.ah 0 s.len && spanR k.cl k.ch 1 s.wid
theorem c130 (k : Block) (s : Street) : Ctr Tryz.prog 130 [k.sv, .d s.ref] (bS (!blockIn k s)) := by
  (refine Ctr.mk (fn := Tryz.f130) rfl rfl rfl rfl rfl Tryz.results130 ?_; dsimp only [args, List.toList_toArray])
  ((first | refine Ok.seqF rfl rfl ?_ | refine Ok.seqT rfl rfl ?_ | refine Ok.regF rfl rfl ?_ | refine Ok.regT rfl rfl ?_); simp only [go_sem]; (repeat' with_reducible apply And.intro); all_goals first | (with_reducible first | refine OkW.mk ?_ | refine EndW.mk ?_ | apply AskI.id | apply AskGI.id) | (with_reducible apply KOt.mk; kernel_rfl) | exact trivial | rfl | omega | ((try intro _); first | apply R64 <;> omega | apply room_of <;> omega) | skip)
  ((first | refine Ok.seqF rfl rfl ?_ | refine Ok.seqT rfl rfl ?_ | refine Ok.regF rfl rfl ?_ | refine Ok.regT rfl rfl ?_); simp only [go_sem]; (repeat' with_reducible apply And.intro); all_goals first | (with_reducible first | refine OkW.mk ?_ | refine EndW.mk ?_ | apply AskI.id | apply AskGI.id) | (with_reducible apply KOt.mk; kernel_rfl) | exact trivial | rfl | omega | ((try intro _); first | apply R64 <;> omega | apply room_of <;> omega) | skip)
  (refine AskI.ret (c125 _ _ _ _) ?_; simp only [go_sem]; (repeat' with_reducible apply And.intro); all_goals first | (with_reducible first | refine OkW.mk ?_ | refine EndW.mk ?_ | apply AskI.id | apply AskGI.id) | (with_reducible apply KOt.mk; kernel_rfl) | exact trivial | rfl | omega | ((try intro _); first | apply R64 <;> omega | apply room_of <;> omega) | skip)
  (refine AskGI.ret (fun _ => c125 _ _ _ _) ?_; simp only [go_sem]; (repeat' with_reducible apply And.intro); all_goals first | (with_reducible first | refine OkW.mk ?_ | refine EndW.mk ?_ | apply AskI.id | apply AskGI.id) | (with_reducible apply KOt.mk; kernel_rfl) | exact trivial | rfl | omega | ((try intro _); first | apply R64 <;> omega | apply room_of <;> omega) | skip)
  (refine Ok.ret ?_; (try dsimp only [thenK, blockK, noGotoK]); simp only [toList_mk, List.toList_toArray, retK_ret, retK_normal, resOK, resV, celV, rowV, frzAll, frzT, subV, subL, go_sem])
  refine DEq.bool ?_
  simp only [blockIn]
  cases spanR k.al k.ah 0 s.len <;> simp
def isStreet (s : Street) : Bool :=
  inR s.len 1 40 && inR s.wid 1 12 && spanR s.el s.eh 1 40 && spanR s.ll s.lh 1 100 && inR s.bs.length 1 3 && decide ((s.ks.length : Int) ≤ 4) && !(s.bs.any (!isBoard · s.len)) && !(s.ks.any (!blockIn · s))
def Street.fit (s : Street) : Prop := s.bs.length < 1000000 ∧ s.ks.length < 1000000 ∧ ∀ b ∈ s.bs, b.ls.length < 1000000
theorem c102 (s : Street) (hn : s.fit) : Ctr Tryz.prog 102 [s.sv] (bS (isStreet s)) := by
  have hn1 := hn.1
  have hn2 := hn.2.1
  (refine Ctr.mk (fn := Tryz.f102) rfl rfl rfl rfl rfl Tryz.results102 ?_; dsimp only [args, List.toList_toArray])
  ((first | refine Ok.seqF rfl rfl ?_ | refine Ok.seqT rfl rfl ?_ | refine Ok.regF rfl rfl ?_ | refine Ok.regT rfl rfl ?_); simp only [go_sem]; (repeat' with_reducible apply And.intro); all_goals first | (with_reducible first | refine OkW.mk ?_ | refine EndW.mk ?_ | apply AskI.id | apply AskGI.id) | (with_reducible apply KOt.mk; kernel_rfl) | exact trivial | rfl | omega | ((try intro _); first | apply R64 <;> omega | apply room_of <;> omega) | skip)
  refine Ok.seq ?_
  ((first | refine Ok.seqF rfl rfl ?_ | refine Ok.seqT rfl rfl ?_ | refine Ok.regF rfl rfl ?_ | refine Ok.regT rfl rfl ?_); simp only [go_sem]; (repeat' with_reducible apply And.intro); all_goals first | (with_reducible first | refine OkW.mk ?_ | refine EndW.mk ?_ | apply AskI.id | apply AskGI.id) | (with_reducible apply KOt.mk; kernel_rfl) | exact trivial | rfl | omega | ((try intro _); first | apply R64 <;> omega | apply room_of <;> omega) | skip)
  (refine AskI.ret (c114 _ _ _) ?_; simp only [go_sem]; (repeat' with_reducible apply And.intro); all_goals first | (with_reducible first | refine OkW.mk ?_ | refine EndW.mk ?_ | apply AskI.id | apply AskGI.id) | (with_reducible apply KOt.mk; kernel_rfl) | exact trivial | rfl | omega | ((try intro _); first | apply R64 <;> omega | apply room_of <;> omega) | skip)
  (refine AskGI.ret (fun _ => c114 _ _ _) ?_; simp only [go_sem]; (repeat' with_reducible apply And.intro); all_goals first | (with_reducible first | refine OkW.mk ?_ | refine EndW.mk ?_ | apply AskI.id | apply AskGI.id) | (with_reducible apply KOt.mk; kernel_rfl) | exact trivial | rfl | omega | ((try intro _); first | apply R64 <;> omega | apply room_of <;> omega) | skip)
  (refine AskGI.ret (fun _ => c125 _ _ _ _) ?_; simp only [go_sem]; (repeat' with_reducible apply And.intro); all_goals first | (with_reducible first | refine OkW.mk ?_ | refine EndW.mk ?_ | apply AskI.id | apply AskGI.id) | (with_reducible apply KOt.mk; kernel_rfl) | exact trivial | rfl | omega | ((try intro _); first | apply R64 <;> omega | apply room_of <;> omega) | skip)
  (refine AskGI.ret (fun _ => c125 _ _ _ _) ?_; simp only [go_sem]; (repeat' with_reducible apply And.intro); all_goals first | (with_reducible first | refine OkW.mk ?_ | refine EndW.mk ?_ | apply AskI.id | apply AskGI.id) | (with_reducible apply KOt.mk; kernel_rfl) | exact trivial | rfl | omega | ((try intro _); first | apply R64 <;> omega | apply room_of <;> omega) | skip)
  refine Ok.cond rfl ?_ ?_
  · intro hb
    ((first | refine Ok.seqF rfl rfl ?_ | refine Ok.seqT rfl rfl ?_ | refine Ok.regF rfl rfl ?_ | refine Ok.regT rfl rfl ?_); simp only [go_sem]; (repeat' with_reducible apply And.intro); all_goals first | (with_reducible first | refine OkW.mk ?_ | refine EndW.mk ?_ | apply AskI.id | apply AskGI.id) | (with_reducible apply KOt.mk; kernel_rfl) | exact trivial | rfl | omega | ((try intro _); first | apply R64 <;> omega | apply room_of <;> omega) | skip)
    (refine Ok.ret ?_; (try dsimp only [thenK, blockK, noGotoK]); simp only [toList_mk, List.toList_toArray, retK_ret, retK_normal, resOK, resV, celV, rowV, frzAll, frzT, subV, subL, go_sem])
    refine DEq.bool ?_
    simp only [isStreet]
    cases h1 : inR s.len 1 40 <;> cases h2 : inR s.wid 1 12 <;> cases h3 : spanR s.el s.eh 1 40 <;> cases h4 : spanR s.ll s.lh 1 100 <;> simp_all
  · intro hb
    (refine Ok.skip ?_; (try dsimp only [thenK, blockK, noGotoK]))
    refine Ok.sub (Sub.frzB (b := 0) rfl rfl) ?_
    refine Ok.seq ?_
    simp only [setN]
    ((first | refine Ok.seqF rfl rfl ?_ | refine Ok.seqT rfl rfl ?_ | refine Ok.regF rfl rfl ?_ | refine Ok.regT rfl rfl ?_); simp only [go_sem]; (repeat' with_reducible apply And.intro); all_goals first | (with_reducible first | refine OkW.mk ?_ | refine EndW.mk ?_ | apply AskI.id | apply AskGI.id) | (with_reducible apply KOt.mk; kernel_rfl) | exact trivial | rfl | omega | ((try intro _); first | apply R64 <;> omega | apply room_of <;> omega) | skip)
    (refine AskI.ret (c114 _ _ _) ?_; simp only [go_sem]; (repeat' with_reducible apply And.intro); all_goals first | (with_reducible first | refine OkW.mk ?_ | refine EndW.mk ?_ | apply AskI.id | apply AskGI.id) | (with_reducible apply KOt.mk; kernel_rfl) | exact trivial | rfl | omega | ((try intro _); first | apply R64 <;> omega | apply room_of <;> omega) | skip)
    (refine AskGI.ret (fun _ => c126 s.bs 127 1 _ (!isBoard · s.len) hn.1 (fun x hx => c127 x s (hn.2.2 x hx))) ?_; simp only [go_sem]; (repeat' with_reducible apply And.intro); all_goals first | (with_reducible first | refine OkW.mk ?_ | refine EndW.mk ?_ | apply AskI.id | apply AskGI.id) | (with_reducible apply KOt.mk; kernel_rfl) | exact trivial | rfl | omega | ((try intro _); first | apply R64 <;> omega | apply room_of <;> omega) | skip)
    refine Ok.cond rfl ?_ ?_
    · intro hb2
      ((first | refine Ok.seqF rfl rfl ?_ | refine Ok.seqT rfl rfl ?_ | refine Ok.regF rfl rfl ?_ | refine Ok.regT rfl rfl ?_); simp only [go_sem]; (repeat' with_reducible apply And.intro); all_goals first | (with_reducible first | refine OkW.mk ?_ | refine EndW.mk ?_ | apply AskI.id | apply AskGI.id) | (with_reducible apply KOt.mk; kernel_rfl) | exact trivial | rfl | omega | ((try intro _); first | apply R64 <;> omega | apply room_of <;> omega) | skip)
      (refine Ok.ret ?_; (try dsimp only [thenK, blockK, noGotoK]); simp only [toList_mk, List.toList_toArray, retK_ret, retK_normal, resOK, resV, celV, rowV, frzAll, frzT, subV, subL, go_sem])
      refine DEq.bool ?_
      simp only [isStreet]
      have e : decide (4 < (s.ks.length : Int)) = !decide ((s.ks.length : Int) ≤ 4) := by by_cases h : (s.ks.length : Int) ≤ 4 <;> simp [h] <;> omega
      rw [e] at hb2
      generalize (s.bs.any fun x => !isBoard x s.len) = A at hb2 ⊢
      cases h1 : inR (↑s.bs.length) 1 3 <;> cases h2 : decide ((s.ks.length : Int) ≤ 4) <;> simp_all
    · intro hb2
      (refine Ok.skip ?_; (try dsimp only [thenK, blockK, noGotoK]))
      ((first | refine Ok.seqF rfl rfl ?_ | refine Ok.seqT rfl rfl ?_ | refine Ok.regF rfl rfl ?_ | refine Ok.regT rfl rfl ?_); simp only [go_sem]; (repeat' with_reducible apply And.intro); all_goals first | (with_reducible first | refine OkW.mk ?_ | refine EndW.mk ?_ | apply AskI.id | apply AskGI.id) | (with_reducible apply KOt.mk; kernel_rfl) | exact trivial | rfl | omega | ((try intro _); first | apply R64 <;> omega | apply room_of <;> omega) | skip)
      (refine AskI.ret (c129 s.ks 130 1 _ (!blockIn · s) hn.2.1 (fun x _ => c130 x s)) ?_; simp only [go_sem]; (repeat' with_reducible apply And.intro); all_goals first | (with_reducible first | refine OkW.mk ?_ | refine EndW.mk ?_ | apply AskI.id | apply AskGI.id) | (with_reducible apply KOt.mk; kernel_rfl) | exact trivial | rfl | omega | ((try intro _); first | apply R64 <;> omega | apply room_of <;> omega) | skip)
      (refine Ok.ret ?_; (try dsimp only [thenK, blockK, noGotoK]); simp only [toList_mk, List.toList_toArray, retK_ret, retK_normal, resOK, resV, celV, rowV, frzAll, frzT, subV, subL, go_sem])
      refine DEq.bool ?_
      simp only [isStreet]
      have e : decide (4 < (s.ks.length : Int)) = !decide ((s.ks.length : Int) ≤ 4) := by by_cases h : (s.ks.length : Int) ≤ 4 <;> simp [h] <;> omega
      rw [e] at hb2
      generalize (s.bs.any fun x => !isBoard x s.len) = A at hb2 ⊢
      generalize (s.ks.any fun x => !blockIn x s) = B at hb2 ⊢
      cases h1 : inR s.len 1 40 <;> cases h2 : inR s.wid 1 12 <;> cases h3 : spanR s.el s.eh 1 40 <;> cases h4 : spanR s.ll s.lh 1 100 <;> cases h5 : inR (↑s.bs.length) 1 3 <;> cases h6 : decide ((s.ks.length : Int) ≤ 4) <;> simp_all
end Go.Proofs.Sight
namespace Go.Proofs.Sight
open Go Go.RX Go.Proofs
set_option maxRecDepth 10000
structure Look where
  s : Street
  b : Board
  p : Place
  deriving Inhabited, DecidableEq
abbrev Look.sv (L : Look) : SV := .agg [iS L.s.len, iS L.s.wid, iS L.s.el, iS L.s.eh, iS L.s.ll, iS L.s.lh, .d (slD 2 boaD L.s.bs), .d (slD 5 bloD L.s.ks), iS L.b.at_, .d (slD 4 letD L.b.ls), iS L.p.al, iS L.p.ac]
theorem mulB {a b A B : Int} (h1 : -A ≤ a) (h2 : a ≤ A) (h3 : -B ≤ b) (h4 : b ≤ B) : -(A * B) ≤ a * b ∧ a * b ≤ A * B := by
  have hA : 0 ≤ A := by omega
  have hB : 0 ≤ B := by omega
  have e1 : 0 ≤ (A - a) * (B + b) := Int.mul_nonneg (by omega) (by omega)
  have e2 : 0 ≤ (A + a) * (B - b) := Int.mul_nonneg (by omega) (by omega)
  have e3 : 0 ≤ (A + a) * (B + b) := Int.mul_nonneg (by omega) (by omega)
  have e4 : 0 ≤ (A - a) * (B - b) := Int.mul_nonneg (by omega) (by omega)
  simp only [Int.sub_mul, Int.mul_sub, Int.add_mul, Int.mul_add] at e1 e2 e3 e4
  constructor <;> omega
structure Look.fine (L : Look) : Prop where
  at0 : 0 ≤ L.b.at_
  at1 : L.b.at_ ≤ 40
  al0 : 0 ≤ L.p.al
  al1 : L.p.al ≤ 40
  ac0 : 1 ≤ L.p.ac
  ac1 : L.p.ac ≤ 12
  el0 : 1 ≤ L.s.el
  el1 : L.s.el ≤ 40
  eh0 : 1 ≤ L.s.eh
  eh1 : L.s.eh ≤ 40
  ll0 : 1 ≤ L.s.ll
  ll1 : L.s.ll ≤ 100
  lh0 : 1 ≤ L.s.lh
  lh1 : L.s.lh ≤ 100
structure Letter.fine (x : Letter) : Prop where
  h0 : 0 ≤ x.h
  h1 : x.h ≤ 1000
  w0 : 0 ≤ x.w
  w1 : x.w ≤ 1000
  s0 : 0 ≤ x.s
  s1 : x.s ≤ 1000
  p0 : 0 ≤ x.p
  p1 : x.p ≤ 1000
structure Block.fine (k : Block) : Prop where
  al0 : 0 ≤ k.al
  al1 : k.al ≤ 40
  ah0 : 0 ≤ k.ah
  ah1 : k.ah ≤ 40
  cl0 : 1 ≤ k.cl
  cl1 : k.cl ≤ 12
  ch0 : 1 ≤ k.ch
  ch1 : k.ch ≤ 12
def far (at_ : Int) (p : Place) : Int := (p.al - at_) * (p.al - at_) + p.ac * p.ac
theorem Look.fine.far {L : Look} (h : L.fine) : 0 ≤ Sight.far L.b.at_ L.p ∧ Sight.far L.b.at_ L.p ≤ 1744 := by
  obtain ⟨a1, a2, a3, a4, a5, a6, _⟩ := h
  have e1 := mulB (a := L.p.al - L.b.at_) (b := L.p.al - L.b.at_) (A := 40) (B := 40) (by omega) (by omega) (by omega) (by omega)
  have e2 := mulB (a := L.p.ac) (b := L.p.ac) (A := 12) (B := 12) (by omega) (by omega) (by omega) (by omega)
  have e3 : 0 ≤ (L.p.al - L.b.at_) * (L.p.al - L.b.at_) := by
    rcases Int.le_total 0 (L.p.al - L.b.at_) with h | h
    · exact Int.mul_nonneg h h
    · exact Int.mul_nonneg_of_nonpos_of_nonpos h h
  have e4 : 0 ≤ L.p.ac * L.p.ac := Int.mul_nonneg (by omega) (by omega)
  unfold Sight.far
  omega
def intD (n : Int) : Nat → DV
  | 0 => iD n | _ => .nilI
theorem intD_0 (n : Int) : intD n 0 = iD n := rfl
attribute [go_sem] intD_0
theorem c123 (l : List Int) (hr : ∀ i, i ≤ l.length → R .i64 (l.take i).sum) (hn : l.length < 1000) : Ctr Tryz.prog 123 [.d (slD 1 intD l)] (iS l.sum) := by
  (refine Ctr.mk (fn := Tryz.f123) rfl rfl rfl rfl rfl Tryz.results123 ?_; dsimp only [args, List.toList_toArray])
  ((first | refine Ok.seqF rfl rfl ?_ | refine Ok.seqT rfl rfl ?_ | refine Ok.regF rfl rfl ?_ | refine Ok.regT rfl rfl ?_); simp only [go_sem]; (repeat' with_reducible apply And.intro); all_goals first | (with_reducible first | refine OkW.mk ?_ | refine EndW.mk ?_ | apply AskI.id | apply AskGI.id) | (with_reducible apply KOt.mk; kernel_rfl) | exact trivial | rfl | omega | ((try intro _); first | apply R64 <;> omega | apply room_of <;> omega) | skip)
  ((first | refine Ok.seqF rfl rfl ?_ | refine Ok.seqT rfl rfl ?_ | refine Ok.regF rfl rfl ?_ | refine Ok.regT rfl rfl ?_); simp only [go_sem]; (repeat' with_reducible apply And.intro); all_goals first | (with_reducible first | refine OkW.mk ?_ | refine EndW.mk ?_ | apply AskI.id | apply AskGI.id) | (with_reducible apply KOt.mk; kernel_rfl) | exact trivial | rfl | omega | ((try intro _); first | apply R64 <;> omega | apply room_of <;> omega) | skip)
  refine Ok.seq ?_
  ((first | refine Ok.seqF rfl rfl ?_ | refine Ok.seqT rfl rfl ?_ | refine Ok.regF rfl rfl ?_ | refine Ok.regT rfl rfl ?_); simp only [go_sem]; (repeat' with_reducible apply And.intro); all_goals first | (with_reducible first | refine OkW.mk ?_ | refine EndW.mk ?_ | apply AskI.id | apply AskGI.id) | (with_reducible apply KOt.mk; kernel_rfl) | exact trivial | rfl | omega | ((try intro _); first | apply R64 <;> omega | apply room_of <;> omega) | skip)
  refine Ok.block ?_
  refine Ok.count l.length (fun i => ⟨[(3, iS (l.take i).sum), (6, .d (slD 1 intD l)), (7, iS l.length), (8, iS i)], [], []⟩) (fun _ => True) ⟨trivial, ?_⟩ ?_ ?_
  · (refine Sub.of ([]) ([]) ?_ ?_ ?_ rfl rfl <;> simp only [subB, subB1, subT, subT1, newT, subE, subV, subL, go_sem] <;> (try (repeat' with_reducible apply And.intro)) <;> (try first | exact DEq.refl _ | refine DEq.int ?_ | refine DEq.bool ?_ | omega))
  · intro i hi _
    have hs : (l.take (i + 1)).sum = (l.take i).sum + l.getD i default := by rw [getD_take hi, List.sum_append]; simp
    have hR := hr (i + 1) (by omega)
    rw [hs] at hR
    ((first | refine Ok.seqF rfl rfl ?_ | refine Ok.seqT rfl rfl ?_ | refine Ok.regF rfl rfl ?_ | refine Ok.regT rfl rfl ?_); simp only [go_sem]; (repeat' with_reducible apply And.intro); all_goals first | (with_reducible first | refine OkW.mk ?_ | refine EndW.mk ?_ | apply AskI.id | apply AskGI.id) | (with_reducible apply KOt.mk; kernel_rfl) | exact trivial | rfl | omega | ((try intro _); first | apply R64 <;> omega | apply room_of <;> omega) | skip)
    refine Ok.seq ?_
    refine Ok.cond rfl (fun _ => ?_) (fun hb => by simp at hb; omega)
    (refine Ok.skip ?_; (try dsimp only [thenK, blockK, noGotoK]))
    refine Ok.seq ?_
    refine Ok.block ?_
    ((first | refine Ok.seqF rfl rfl ?_ | refine Ok.seqT rfl rfl ?_ | refine Ok.regF rfl rfl ?_ | refine Ok.regT rfl rfl ?_); simp only [go_sem]; (repeat' with_reducible apply And.intro); all_goals first | (with_reducible first | refine OkW.mk ?_ | refine EndW.mk ?_ | apply AskI.id | apply AskGI.id) | (with_reducible apply KOt.mk; kernel_rfl) | exact trivial | rfl | omega | ((try intro _); first | apply R64 <;> omega | apply room_of <;> omega) | skip)
    ((first | refine Ok.seqF rfl rfl ?_ | refine Ok.seqT rfl rfl ?_ | refine Ok.regF rfl rfl ?_ | refine Ok.regT rfl rfl ?_); simp only [go_sem]; (repeat' with_reducible apply And.intro); all_goals first | (with_reducible first | refine OkW.mk ?_ | refine EndW.mk ?_ | apply AskI.id | apply AskGI.id) | (with_reducible apply KOt.mk; kernel_rfl) | exact trivial | rfl | omega | ((try intro _); first | apply R64 <;> omega | apply room_of <;> omega) | skip)
    (try dsimp only [thenK, blockK, noGotoK])
    ((first | refine Ok.seqF rfl rfl ?_ | refine Ok.seqT rfl rfl ?_ | refine Ok.regF rfl rfl ?_ | refine Ok.regT rfl rfl ?_); simp only [go_sem]; (repeat' with_reducible apply And.intro); all_goals first | (with_reducible first | refine OkW.mk ?_ | refine EndW.mk ?_ | apply AskI.id | apply AskGI.id) | (with_reducible apply KOt.mk; kernel_rfl) | exact trivial | rfl | omega | ((try intro _); first | apply R64 <;> omega | apply room_of <;> omega) | skip)
    (try dsimp only [thenK, blockK, noGotoK])
    refine ⟨trivial, ?_⟩
    (refine Sub.of ([]) ([]) ?_ ?_ ?_ rfl rfl <;> simp only [subB, subB1, subT, subT1, newT, subE, subV, subL, go_sem] <;> (try (repeat' with_reducible apply And.intro)) <;> (try first | exact DEq.refl _ | refine DEq.int ?_ | refine DEq.bool ?_ | omega))
    exact hs.symm
  · intro _
    ((first | refine Ok.seqF rfl rfl ?_ | refine Ok.seqT rfl rfl ?_ | refine Ok.regF rfl rfl ?_ | refine Ok.regT rfl rfl ?_); simp only [go_sem]; (repeat' with_reducible apply And.intro); all_goals first | (with_reducible first | refine OkW.mk ?_ | refine EndW.mk ?_ | apply AskI.id | apply AskGI.id) | (with_reducible apply KOt.mk; kernel_rfl) | exact trivial | rfl | omega | ((try intro _); first | apply R64 <;> omega | apply room_of <;> omega) | skip)
    refine Ok.seq ?_
    refine Ok.cond rfl (fun hb => by simp at hb) (fun _ => ?_)
    (refine Ok.exit ?_; simp only [thenK_exit, blockK_exit, noGotoK_exit, thenK_normal, blockK_normal, noGotoK_normal, ↓reduceIte, Nat.reduceEqDiff])
    ((first | refine Ok.seqF rfl rfl ?_ | refine Ok.seqT rfl rfl ?_ | refine Ok.regF rfl rfl ?_ | refine Ok.regT rfl rfl ?_); simp only [go_sem]; (repeat' with_reducible apply And.intro); all_goals first | (with_reducible first | refine OkW.mk ?_ | refine EndW.mk ?_ | apply AskI.id | apply AskGI.id) | (with_reducible apply KOt.mk; kernel_rfl) | exact trivial | rfl | omega | ((try intro _); first | apply R64 <;> omega | apply room_of <;> omega) | skip)
    (refine Ok.ret ?_; (try dsimp only [thenK, blockK, noGotoK]); simp only [toList_mk, List.toList_toArray, retK_ret, retK_normal, resOK, resV, celV, rowV, frzAll, frzT, subV, subL, go_sem])
    refine DEq.int ?_
    simp
theorem c123_2 (x y : Int) (h1 : R .i64 x) (h2 : R .i64 (x + y)) : Ctr Tryz.prog 123 [.d (.sl 1 2 (fun i j => dget [iD x, iD y] (i * 1 + j)))] (iS (x + y)) := by
  have := (c123 [x, y] (fun i hi => by
    match i, hi with
    | 0, _ => exact R64 (n := 0) (by decide) (by decide)
    | 1, _ => simpa using h1
    | 2, _ => simpa using h2) (by simp)).args (A' := [.d (.sl 1 2 (fun i j => dget [iD x, iD y] (i * 1 + j)))]) ⟨DEq.sl rfl (fun i j hi hj => by
      match i, j, hi, hj with
      | 0, 0, _, _ => exact .refl _
      | 1, 0, _, _ => exact .refl _), trivial⟩
  simpa using this
theorem c96 (L : Look) (h : L.fine) : Ctr Tryz.prog 96 [L.sv] (iS (far L.b.at_ L.p)) := by
  obtain ⟨a1, a2, a3, a4, a5, a6, _⟩ := h
  have e1 := mulB (a := L.p.al - L.b.at_) (b := L.p.al - L.b.at_) (A := 40) (B := 40) (by omega) (by omega) (by omega) (by omega)
  have e2 := mulB (a := L.p.ac) (b := L.p.ac) (A := 12) (B := 12) (by omega) (by omega) (by omega) (by omega)
  (refine Ctr.mk (fn := Tryz.f96) rfl rfl rfl rfl rfl Tryz.results96 ?_; dsimp only [args, List.toList_toArray])
  ((first | refine Ok.seqF rfl rfl ?_ | refine Ok.seqT rfl rfl ?_ | refine Ok.regF rfl rfl ?_ | refine Ok.regT rfl rfl ?_); simp only [go_sem]; (repeat' with_reducible apply And.intro); all_goals first | (with_reducible first | refine OkW.mk ?_ | refine EndW.mk ?_ | apply AskI.id | apply AskGI.id) | (with_reducible apply KOt.mk; kernel_rfl) | exact trivial | rfl | omega | ((try intro _); first | apply R64 <;> omega | apply room_of <;> omega) | skip)
  ((first | refine Ok.seqF rfl rfl ?_ | refine Ok.seqT rfl rfl ?_ | refine Ok.regF rfl rfl ?_ | refine Ok.regT rfl rfl ?_); simp only [go_sem]; (repeat' with_reducible apply And.intro); all_goals first | (with_reducible first | refine OkW.mk ?_ | refine EndW.mk ?_ | apply AskI.id | apply AskGI.id) | (with_reducible apply KOt.mk; kernel_rfl) | exact trivial | rfl | omega | ((try intro _); first | apply R64 <;> omega | apply room_of <;> omega) | skip)
  ((first | refine Ok.seqF rfl rfl ?_ | refine Ok.seqT rfl rfl ?_ | refine Ok.regF rfl rfl ?_ | refine Ok.regT rfl rfl ?_); simp only [go_sem]; (repeat' with_reducible apply And.intro); all_goals first | (with_reducible first | refine OkW.mk ?_ | refine EndW.mk ?_ | apply AskI.id | apply AskGI.id) | (with_reducible apply KOt.mk; kernel_rfl) | exact trivial | rfl | omega | ((try intro _); first | apply R64 <;> omega | apply room_of <;> omega) | skip)
  (refine AskI.ret (c123_2 _ _ (R64 (by omega) (by omega)) (R64 (by omega) (by omega))) ?_; simp only [go_sem]; (repeat' with_reducible apply And.intro); all_goals first | (with_reducible first | refine OkW.mk ?_ | refine EndW.mk ?_ | apply AskI.id | apply AskGI.id) | (with_reducible apply KOt.mk; kernel_rfl) | exact trivial | rfl | omega | ((try intro _); first | apply R64 <;> omega | apply room_of <;> omega) | skip)
  (refine Ok.ret ?_; (try dsimp only [thenK, blockK, noGotoK]); simp only [toList_mk, List.toList_toArray, retK_ret, retK_normal, resOK, resV, celV, rowV, frzAll, frzT, subV, subL, go_sem])
  exact .refl _
def along (L : Look) (c : Int) : Int := L.b.at_ * L.p.ac + (L.p.al - L.b.at_) * c
def tall (L : Look) (x : Letter) (n : Int) : Bool := decide (10000 * far L.b.at_ L.p ≤ x.h * n * (x.h * n))
def broad (L : Look) (x : Letter) (n : Int) : Bool := decide (100 * far L.b.at_ L.p ≤ x.w * n * L.p.ac)
def thick (L : Look) (x : Letter) (n : Int) : Bool := decide (10000 * far L.b.at_ L.p ≤ 5 * x.s * n * (5 * x.s * n))
def apart (L : Look) (x : Letter) (n : Int) : Bool := decide (100 * far L.b.at_ L.p ≤ 5 * x.p * n * L.p.ac)
def hides (L : Look) (k : Block) : Bool :=
  decide (k.cl ≤ L.p.ac) && (decide (min (along L k.cl) (along L (min k.ch L.p.ac)) ≤ k.ah * L.p.ac) && decide (k.al * L.p.ac ≤ max (along L k.cl) (along L (min k.ch L.p.ac))))
theorem c84 (L : Look) (h : L.fine) : Ctr Tryz.prog 84 [L.sv] (iS (L.s.el * L.s.ll)) := by
  obtain ⟨a1, a2, a3, a4, a5, a6, b1, b2, b3, b4, b5, b6, b7, b8⟩ := h
  have e1 := mulB (a := L.s.el) (b := L.s.ll) (A := 40) (B := 100) (by omega) (by omega) (by omega) (by omega)
  (refine Ctr.mk (fn := Tryz.f84) rfl rfl rfl rfl rfl Tryz.results84 ?_; dsimp only [args, List.toList_toArray])
  ((first | refine Ok.seqF rfl rfl ?_ | refine Ok.seqT rfl rfl ?_ | refine Ok.regF rfl rfl ?_ | refine Ok.regT rfl rfl ?_); simp only [go_sem]; (repeat' with_reducible apply And.intro); all_goals first | (with_reducible first | refine OkW.mk ?_ | refine EndW.mk ?_ | apply AskI.id | apply AskGI.id) | (with_reducible apply KOt.mk; kernel_rfl) | exact trivial | rfl | omega | ((try intro _); first | apply R64 <;> omega | apply room_of <;> omega) | skip)
  ((first | refine Ok.seqF rfl rfl ?_ | refine Ok.seqT rfl rfl ?_ | refine Ok.regF rfl rfl ?_ | refine Ok.regT rfl rfl ?_); simp only [go_sem]; (repeat' with_reducible apply And.intro); all_goals first | (with_reducible first | refine OkW.mk ?_ | refine EndW.mk ?_ | apply AskI.id | apply AskGI.id) | (with_reducible apply KOt.mk; kernel_rfl) | exact trivial | rfl | omega | ((try intro _); first | apply R64 <;> omega | apply room_of <;> omega) | skip)
  (refine Ok.ret ?_; (try dsimp only [thenK, blockK, noGotoK]); simp only [toList_mk, List.toList_toArray, retK_ret, retK_normal, resOK, resV, celV, rowV, frzAll, frzT, subV, subL, go_sem])
  exact .refl _
theorem c85 (L : Look) (h : L.fine) : Ctr Tryz.prog 85 [L.sv] (iS (L.s.eh * L.s.lh)) := by
  obtain ⟨a1, a2, a3, a4, a5, a6, b1, b2, b3, b4, b5, b6, b7, b8⟩ := h
  have e1 := mulB (a := L.s.eh) (b := L.s.lh) (A := 40) (B := 100) (by omega) (by omega) (by omega) (by omega)
  (refine Ctr.mk (fn := Tryz.f85) rfl rfl rfl rfl rfl Tryz.results85 ?_; dsimp only [args, List.toList_toArray])
  ((first | refine Ok.seqF rfl rfl ?_ | refine Ok.seqT rfl rfl ?_ | refine Ok.regF rfl rfl ?_ | refine Ok.regT rfl rfl ?_); simp only [go_sem]; (repeat' with_reducible apply And.intro); all_goals first | (with_reducible first | refine OkW.mk ?_ | refine EndW.mk ?_ | apply AskI.id | apply AskGI.id) | (with_reducible apply KOt.mk; kernel_rfl) | exact trivial | rfl | omega | ((try intro _); first | apply R64 <;> omega | apply room_of <;> omega) | skip)
  ((first | refine Ok.seqF rfl rfl ?_ | refine Ok.seqT rfl rfl ?_ | refine Ok.regF rfl rfl ?_ | refine Ok.regT rfl rfl ?_); simp only [go_sem]; (repeat' with_reducible apply And.intro); all_goals first | (with_reducible first | refine OkW.mk ?_ | refine EndW.mk ?_ | apply AskI.id | apply AskGI.id) | (with_reducible apply KOt.mk; kernel_rfl) | exact trivial | rfl | omega | ((try intro _); first | apply R64 <;> omega | apply room_of <;> omega) | skip)
  (refine Ok.ret ?_; (try dsimp only [thenK, blockK, noGotoK]); simp only [toList_mk, List.toList_toArray, retK_ret, retK_normal, resOK, resV, celV, rowV, frzAll, frzT, subV, subL, go_sem])
  exact .refl _
theorem c141 (L : Look) (h : L.fine) (x : Letter) (hx : x.fine) (n : Int) (h0 : 0 ≤ n) (h1 : n ≤ 10000) : Ctr Tryz.prog 141 [L.sv, x.sv, iS n] (bS (tall L x n)) := by
  obtain ⟨f0, f1⟩ := h.far
  obtain ⟨x1, x2, x3, x4, x5, x6, x7, x8⟩ := hx
  have e1 := mulB (a := x.h) (b := n) (A := 1000) (B := 10000) (by omega) (by omega) (by omega) (by omega)
  have e2 := mulB (a := x.h * n) (b := x.h * n) (A := 10000000) (B := 10000000) (by omega) (by omega) (by omega) (by omega)
  (refine Ctr.mk (fn := Tryz.f141) rfl rfl rfl rfl rfl Tryz.results141 ?_; dsimp only [args, List.toList_toArray])
  ((first | refine Ok.seqF rfl rfl ?_ | refine Ok.seqT rfl rfl ?_ | refine Ok.regF rfl rfl ?_ | refine Ok.regT rfl rfl ?_); simp only [go_sem]; (repeat' with_reducible apply And.intro); all_goals first | (with_reducible first | refine OkW.mk ?_ | refine EndW.mk ?_ | apply AskI.id | apply AskGI.id) | (with_reducible apply KOt.mk; kernel_rfl) | exact trivial | rfl | omega | ((try intro _); first | apply R64 <;> omega | apply room_of <;> omega) | skip)
  ((first | refine Ok.seqF rfl rfl ?_ | refine Ok.seqT rfl rfl ?_ | refine Ok.regF rfl rfl ?_ | refine Ok.regT rfl rfl ?_); simp only [go_sem]; (repeat' with_reducible apply And.intro); all_goals first | (with_reducible first | refine OkW.mk ?_ | refine EndW.mk ?_ | apply AskI.id | apply AskGI.id) | (with_reducible apply KOt.mk; kernel_rfl) | exact trivial | rfl | omega | ((try intro _); first | apply R64 <;> omega | apply room_of <;> omega) | skip)
  ((first | refine Ok.seqF rfl rfl ?_ | refine Ok.seqT rfl rfl ?_ | refine Ok.regF rfl rfl ?_ | refine Ok.regT rfl rfl ?_); simp only [go_sem]; (repeat' with_reducible apply And.intro); all_goals first | (with_reducible first | refine OkW.mk ?_ | refine EndW.mk ?_ | apply AskI.id | apply AskGI.id) | (with_reducible apply KOt.mk; kernel_rfl) | exact trivial | rfl | omega | ((try intro _); first | apply R64 <;> omega | apply room_of <;> omega) | skip)
  (refine AskI.ret (c96 L h) ?_; simp only [go_sem]; (repeat' with_reducible apply And.intro); all_goals first | (with_reducible first | refine OkW.mk ?_ | refine EndW.mk ?_ | apply AskI.id | apply AskGI.id) | (with_reducible apply KOt.mk; kernel_rfl) | exact trivial | rfl | omega | ((try intro _); first | apply R64 <;> omega | apply room_of <;> omega) | skip)
  (refine Ok.ret ?_; (try dsimp only [thenK, blockK, noGotoK]); simp only [toList_mk, List.toList_toArray, retK_ret, retK_normal, resOK, resV, celV, rowV, frzAll, frzT, subV, subL, go_sem])
  exact .refl _
theorem c142 (L : Look) (h : L.fine) (x : Letter) (hx : x.fine) (n : Int) (h0 : 0 ≤ n) (h1 : n ≤ 10000) : Ctr Tryz.prog 142 [L.sv, x.sv, iS n] (bS (broad L x n)) := by
  obtain ⟨f0, f1⟩ := h.far
  have hL := h
  obtain ⟨a1, a2, a3, a4, a5, a6, _⟩ := h
  obtain ⟨x1, x2, x3, x4, x5, x6, x7, x8⟩ := hx
  have e1 := mulB (a := x.w) (b := n) (A := 1000) (B := 10000) (by omega) (by omega) (by omega) (by omega)
  have e2 := mulB (a := x.w * n) (b := L.p.ac) (A := 10000000) (B := 12) (by omega) (by omega) (by omega) (by omega)
  (refine Ctr.mk (fn := Tryz.f142) rfl rfl rfl rfl rfl Tryz.results142 ?_; dsimp only [args, List.toList_toArray])
  ((first | refine Ok.seqF rfl rfl ?_ | refine Ok.seqT rfl rfl ?_ | refine Ok.regF rfl rfl ?_ | refine Ok.regT rfl rfl ?_); simp only [go_sem]; (repeat' with_reducible apply And.intro); all_goals first | (with_reducible first | refine OkW.mk ?_ | refine EndW.mk ?_ | apply AskI.id | apply AskGI.id) | (with_reducible apply KOt.mk; kernel_rfl) | exact trivial | rfl | omega | ((try intro _); first | apply R64 <;> omega | apply room_of <;> omega) | skip)
  ((first | refine Ok.seqF rfl rfl ?_ | refine Ok.seqT rfl rfl ?_ | refine Ok.regF rfl rfl ?_ | refine Ok.regT rfl rfl ?_); simp only [go_sem]; (repeat' with_reducible apply And.intro); all_goals first | (with_reducible first | refine OkW.mk ?_ | refine EndW.mk ?_ | apply AskI.id | apply AskGI.id) | (with_reducible apply KOt.mk; kernel_rfl) | exact trivial | rfl | omega | ((try intro _); first | apply R64 <;> omega | apply room_of <;> omega) | skip)
  (refine AskI.ret (c96 L hL) ?_; simp only [go_sem]; (repeat' with_reducible apply And.intro); all_goals first | (with_reducible first | refine OkW.mk ?_ | refine EndW.mk ?_ | apply AskI.id | apply AskGI.id) | (with_reducible apply KOt.mk; kernel_rfl) | exact trivial | rfl | omega | ((try intro _); first | apply R64 <;> omega | apply room_of <;> omega) | skip)
  (refine Ok.ret ?_; (try dsimp only [thenK, blockK, noGotoK]); simp only [toList_mk, List.toList_toArray, retK_ret, retK_normal, resOK, resV, celV, rowV, frzAll, frzT, subV, subL, go_sem])
  exact .refl _
theorem c143 (L : Look) (h : L.fine) (x : Letter) (hx : x.fine) (n : Int) (h0 : 0 ≤ n) (h1 : n ≤ 10000) : Ctr Tryz.prog 143 [L.sv, x.sv, iS n] (bS (thick L x n)) := by
  obtain ⟨f0, f1⟩ := h.far
  obtain ⟨x1, x2, x3, x4, x5, x6, x7, x8⟩ := hx
  have e1 := mulB (a := 5 * x.s) (b := n) (A := 5000) (B := 10000) (by omega) (by omega) (by omega) (by omega)
  have e2 := mulB (a := 5 * x.s * n) (b := 5 * x.s * n) (A := 50000000) (B := 50000000) (by omega) (by omega) (by omega) (by omega)
  (refine Ctr.mk (fn := Tryz.f143) rfl rfl rfl rfl rfl Tryz.results143 ?_; dsimp only [args, List.toList_toArray])
  ((first | refine Ok.seqF rfl rfl ?_ | refine Ok.seqT rfl rfl ?_ | refine Ok.regF rfl rfl ?_ | refine Ok.regT rfl rfl ?_); simp only [go_sem]; (repeat' with_reducible apply And.intro); all_goals first | (with_reducible first | refine OkW.mk ?_ | refine EndW.mk ?_ | apply AskI.id | apply AskGI.id) | (with_reducible apply KOt.mk; kernel_rfl) | exact trivial | rfl | omega | ((try intro _); first | apply R64 <;> omega | apply room_of <;> omega) | skip)
  ((first | refine Ok.seqF rfl rfl ?_ | refine Ok.seqT rfl rfl ?_ | refine Ok.regF rfl rfl ?_ | refine Ok.regT rfl rfl ?_); simp only [go_sem]; (repeat' with_reducible apply And.intro); all_goals first | (with_reducible first | refine OkW.mk ?_ | refine EndW.mk ?_ | apply AskI.id | apply AskGI.id) | (with_reducible apply KOt.mk; kernel_rfl) | exact trivial | rfl | omega | ((try intro _); first | apply R64 <;> omega | apply room_of <;> omega) | skip)
  ((first | refine Ok.seqF rfl rfl ?_ | refine Ok.seqT rfl rfl ?_ | refine Ok.regF rfl rfl ?_ | refine Ok.regT rfl rfl ?_); simp only [go_sem]; (repeat' with_reducible apply And.intro); all_goals first | (with_reducible first | refine OkW.mk ?_ | refine EndW.mk ?_ | apply AskI.id | apply AskGI.id) | (with_reducible apply KOt.mk; kernel_rfl) | exact trivial | rfl | omega | ((try intro _); first | apply R64 <;> omega | apply room_of <;> omega) | skip)
  (refine AskI.ret (c96 L h) ?_; simp only [go_sem]; (repeat' with_reducible apply And.intro); all_goals first | (with_reducible first | refine OkW.mk ?_ | refine EndW.mk ?_ | apply AskI.id | apply AskGI.id) | (with_reducible apply KOt.mk; kernel_rfl) | exact trivial | rfl | omega | ((try intro _); first | apply R64 <;> omega | apply room_of <;> omega) | skip)
  (refine Ok.ret ?_; (try dsimp only [thenK, blockK, noGotoK]); simp only [toList_mk, List.toList_toArray, retK_ret, retK_normal, resOK, resV, celV, rowV, frzAll, frzT, subV, subL, go_sem])
  exact .refl _
theorem c86 (L : Look) (h : L.fine) (x : Letter) (hx : x.fine) (n : Int) (h0 : 0 ≤ n) (h1 : n ≤ 10000) : Ctr Tryz.prog 86 [L.sv, x.sv, iS n] (bS (apart L x n)) := by
  obtain ⟨f0, f1⟩ := h.far
  have hL := h
  obtain ⟨a1, a2, a3, a4, a5, a6, _⟩ := h
  obtain ⟨x1, x2, x3, x4, x5, x6, x7, x8⟩ := hx
  have e1 := mulB (a := 5 * x.p) (b := n) (A := 5000) (B := 10000) (by omega) (by omega) (by omega) (by omega)
  have e2 := mulB (a := 5 * x.p * n) (b := L.p.ac) (A := 50000000) (B := 12) (by omega) (by omega) (by omega) (by omega)
  (refine Ctr.mk (fn := Tryz.f86) rfl rfl rfl rfl rfl Tryz.results86 ?_; dsimp only [args, List.toList_toArray])
  ((first | refine Ok.seqF rfl rfl ?_ | refine Ok.seqT rfl rfl ?_ | refine Ok.regF rfl rfl ?_ | refine Ok.regT rfl rfl ?_); simp only [go_sem]; (repeat' with_reducible apply And.intro); all_goals first | (with_reducible first | refine OkW.mk ?_ | refine EndW.mk ?_ | apply AskI.id | apply AskGI.id) | (with_reducible apply KOt.mk; kernel_rfl) | exact trivial | rfl | omega | ((try intro _); first | apply R64 <;> omega | apply room_of <;> omega) | skip)
  ((first | refine Ok.seqF rfl rfl ?_ | refine Ok.seqT rfl rfl ?_ | refine Ok.regF rfl rfl ?_ | refine Ok.regT rfl rfl ?_); simp only [go_sem]; (repeat' with_reducible apply And.intro); all_goals first | (with_reducible first | refine OkW.mk ?_ | refine EndW.mk ?_ | apply AskI.id | apply AskGI.id) | (with_reducible apply KOt.mk; kernel_rfl) | exact trivial | rfl | omega | ((try intro _); first | apply R64 <;> omega | apply room_of <;> omega) | skip)
  (refine AskI.ret (c96 L hL) ?_; simp only [go_sem]; (repeat' with_reducible apply And.intro); all_goals first | (with_reducible first | refine OkW.mk ?_ | refine EndW.mk ?_ | apply AskI.id | apply AskGI.id) | (with_reducible apply KOt.mk; kernel_rfl) | exact trivial | rfl | omega | ((try intro _); first | apply R64 <;> omega | apply room_of <;> omega) | skip)
  (refine Ok.ret ?_; (try dsimp only [thenK, blockK, noGotoK]); simp only [toList_mk, List.toList_toArray, retK_ret, retK_normal, resOK, resV, celV, rowV, frzAll, frzT, subV, subL, go_sem])
  exact .refl _
theorem c121 (L : Look) (h : L.fine) (c : Int) (h0 : 0 ≤ c) (h1 : c ≤ 40) : Ctr Tryz.prog 121 [L.sv, iS c] (iS (along L c)) := by
  obtain ⟨a1, a2, a3, a4, a5, a6, _⟩ := h
  have e1 := mulB (a := L.b.at_) (b := L.p.ac) (A := 40) (B := 12) (by omega) (by omega) (by omega) (by omega)
  have e2 := mulB (a := L.p.al - L.b.at_) (b := c) (A := 40) (B := 40) (by omega) (by omega) (by omega) (by omega)
  (refine Ctr.mk (fn := Tryz.f121) rfl rfl rfl rfl rfl Tryz.results121 ?_; dsimp only [args, List.toList_toArray])
  ((first | refine Ok.seqF rfl rfl ?_ | refine Ok.seqT rfl rfl ?_ | refine Ok.regF rfl rfl ?_ | refine Ok.regT rfl rfl ?_); simp only [go_sem]; (repeat' with_reducible apply And.intro); all_goals first | (with_reducible first | refine OkW.mk ?_ | refine EndW.mk ?_ | apply AskI.id | apply AskGI.id) | (with_reducible apply KOt.mk; kernel_rfl) | exact trivial | rfl | omega | ((try intro _); first | apply R64 <;> omega | apply room_of <;> omega) | skip)
  ((first | refine Ok.seqF rfl rfl ?_ | refine Ok.seqT rfl rfl ?_ | refine Ok.regF rfl rfl ?_ | refine Ok.regT rfl rfl ?_); simp only [go_sem]; (repeat' with_reducible apply And.intro); all_goals first | (with_reducible first | refine OkW.mk ?_ | refine EndW.mk ?_ | apply AskI.id | apply AskGI.id) | (with_reducible apply KOt.mk; kernel_rfl) | exact trivial | rfl | omega | ((try intro _); first | apply R64 <;> omega | apply room_of <;> omega) | skip)
  (refine Ok.ret ?_; (try dsimp only [thenK, blockK, noGotoK]); simp only [toList_mk, List.toList_toArray, retK_ret, retK_normal, resOK, resV, celV, rowV, frzAll, frzT, subV, subL, go_sem])
  exact .refl _
theorem c87 (L : Look) (h : L.fine) (k : Block) (hk : k.fine) : Ctr Tryz.prog 87 [L.sv, k.sv] (bS (hides L k)) := by
  have hL := h
  obtain ⟨a1, a2, a3, a4, a5, a6, b1, b2, b3, b4, b5, b6, b7, b8⟩ := h
  obtain ⟨k1, k2, k3, k4, k5, k6, k7, k8⟩ := hk
  have e1 := mulB (a := k.ah) (b := L.p.ac) (A := 40) (B := 12) (by omega) (by omega) (by omega) (by omega)
  have e2 := mulB (a := k.al) (b := L.p.ac) (A := 40) (B := 12) (by omega) (by omega) (by omega) (by omega)
  (refine Ctr.mk (fn := Tryz.f87) rfl rfl rfl rfl rfl Tryz.results87 ?_; dsimp only [args, List.toList_toArray])
  ((first | refine Ok.seqF rfl rfl ?_ | refine Ok.seqT rfl rfl ?_ | refine Ok.regF rfl rfl ?_ | refine Ok.regT rfl rfl ?_); simp only [go_sem]; (repeat' with_reducible apply And.intro); all_goals first | (with_reducible first | refine OkW.mk ?_ | refine EndW.mk ?_ | apply AskI.id | apply AskGI.id) | (with_reducible apply KOt.mk; kernel_rfl) | exact trivial | rfl | omega | ((try intro _); first | apply R64 <;> omega | apply room_of <;> omega) | skip)
  refine Ok.seq ?_
  ((first | refine Ok.seqF rfl rfl ?_ | refine Ok.seqT rfl rfl ?_ | refine Ok.regF rfl rfl ?_ | refine Ok.regT rfl rfl ?_); simp only [go_sem]; (repeat' with_reducible apply And.intro); all_goals first | (with_reducible first | refine OkW.mk ?_ | refine EndW.mk ?_ | apply AskI.id | apply AskGI.id) | (with_reducible apply KOt.mk; kernel_rfl) | exact trivial | rfl | omega | ((try intro _); first | apply R64 <;> omega | apply room_of <;> omega) | skip)
  refine Ok.cond rfl ?_ ?_
  · intro hb
    ((first | refine Ok.seqF rfl rfl ?_ | refine Ok.seqT rfl rfl ?_ | refine Ok.regF rfl rfl ?_ | refine Ok.regT rfl rfl ?_); simp only [go_sem]; (repeat' with_reducible apply And.intro); all_goals first | (with_reducible first | refine OkW.mk ?_ | refine EndW.mk ?_ | apply AskI.id | apply AskGI.id) | (with_reducible apply KOt.mk; kernel_rfl) | exact trivial | rfl | omega | ((try intro _); first | apply R64 <;> omega | apply room_of <;> omega) | skip)
    (refine Ok.ret ?_; (try dsimp only [thenK, blockK, noGotoK]); simp only [toList_mk, List.toList_toArray, retK_ret, retK_normal, resOK, resV, celV, rowV, frzAll, frzT, subV, subL, go_sem])
    refine DEq.bool ?_
    simp only [decide_eq_true_eq] at hb
    simp only [hides]
    have : ¬ k.cl ≤ L.p.ac := by omega
    simp [this]
  · intro hb
    (refine Ok.skip ?_; (try dsimp only [thenK, blockK, noGotoK]))
    simp only [decide_eq_false_iff_not] at hb
    ((first | refine Ok.seqF rfl rfl ?_ | refine Ok.seqT rfl rfl ?_ | refine Ok.regF rfl rfl ?_ | refine Ok.regT rfl rfl ?_); simp only [go_sem]; (repeat' with_reducible apply And.intro); all_goals first | (with_reducible first | refine OkW.mk ?_ | refine EndW.mk ?_ | apply AskI.id | apply AskGI.id) | (with_reducible apply KOt.mk; kernel_rfl) | exact trivial | rfl | omega | ((try intro _); first | apply R64 <;> omega | apply room_of <;> omega) | skip)
    ((first | refine Ok.seqF rfl rfl ?_ | refine Ok.seqT rfl rfl ?_ | refine Ok.regF rfl rfl ?_ | refine Ok.regT rfl rfl ?_); simp only [go_sem]; (repeat' with_reducible apply And.intro); all_goals first | (with_reducible first | refine OkW.mk ?_ | refine EndW.mk ?_ | apply AskI.id | apply AskGI.id) | (with_reducible apply KOt.mk; kernel_rfl) | exact trivial | rfl | omega | ((try intro _); first | apply R64 <;> omega | apply room_of <;> omega) | skip)
    (refine AskI.ret (c121 L hL k.cl (by omega) (by omega)) ?_; simp only [go_sem]; (repeat' with_reducible apply And.intro); all_goals first | (with_reducible first | refine OkW.mk ?_ | refine EndW.mk ?_ | apply AskI.id | apply AskGI.id) | (with_reducible apply KOt.mk; kernel_rfl) | exact trivial | rfl | omega | ((try intro _); first | apply R64 <;> omega | apply room_of <;> omega) | skip)
    (refine AskI.ret (c121 L hL (min k.ch L.p.ac) (by omega) (by omega)) ?_; simp only [go_sem]; (repeat' with_reducible apply And.intro); all_goals first | (with_reducible first | refine OkW.mk ?_ | refine EndW.mk ?_ | apply AskI.id | apply AskGI.id) | (with_reducible apply KOt.mk; kernel_rfl) | exact trivial | rfl | omega | ((try intro _); first | apply R64 <;> omega | apply room_of <;> omega) | skip)
    ((first | refine Ok.seqF rfl rfl ?_ | refine Ok.seqT rfl rfl ?_ | refine Ok.regF rfl rfl ?_ | refine Ok.regT rfl rfl ?_); simp only [go_sem]; (repeat' with_reducible apply And.intro); all_goals first | (with_reducible first | refine OkW.mk ?_ | refine EndW.mk ?_ | apply AskI.id | apply AskGI.id) | (with_reducible apply KOt.mk; kernel_rfl) | exact trivial | rfl | omega | ((try intro _); first | apply R64 <;> omega | apply room_of <;> omega) | skip)
    (refine Ok.ret ?_; (try dsimp only [thenK, blockK, noGotoK]); simp only [toList_mk, List.toList_toArray, retK_ret, retK_normal, resOK, resV, celV, rowV, frzAll, frzT, subV, subL, go_sem])
    refine DEq.bool ?_
    simp only [hides]
    have : k.cl ≤ L.p.ac := by omega
    simp [this]
end Go.Proofs.Sight
namespace Go.Proofs.Sight
open Go Go.RX Go.Proofs
set_option maxRecDepth 10000
def cl0 (f : Nat) : DV := .clo f 0 (fun _ => .nilI)
def mustV : SV := .agg [.d (cl0 141), .d (cl0 142), .d (cl0 143), .d (cl0 86)]
attribute [go_sem] cl0 mustV
def word (worst best : Bool) : Int := if worst then 3 else if best then 2 else 1
def placeIn (s : Street) (p : Place) : Bool := inR p.al 0 s.len && inR p.ac 1 s.wid
theorem c120 : Ctr Tryz.prog 120 [] mustV := by
  (refine Ctr.mk (fn := Tryz.f120) rfl rfl rfl rfl rfl Tryz.results120 ?_; dsimp only [args, List.toList_toArray])
  ((first | refine Ok.seqF rfl rfl ?_ | refine Ok.seqT rfl rfl ?_ | refine Ok.regF rfl rfl ?_ | refine Ok.regT rfl rfl ?_); simp only [go_sem]; (repeat' with_reducible apply And.intro); all_goals first | (with_reducible first | refine OkW.mk ?_ | refine EndW.mk ?_ | apply AskI.id | apply AskGI.id) | (with_reducible apply KOt.mk; kernel_rfl) | exact trivial | rfl | omega | ((try intro _); first | apply R64 <;> omega | apply room_of <;> omega) | skip)
  ((first | refine Ok.seqF rfl rfl ?_ | refine Ok.seqT rfl rfl ?_ | refine Ok.regF rfl rfl ?_ | refine Ok.regT rfl rfl ?_); simp only [go_sem]; (repeat' with_reducible apply And.intro); all_goals first | (with_reducible first | refine OkW.mk ?_ | refine EndW.mk ?_ | apply AskI.id | apply AskGI.id) | (with_reducible apply KOt.mk; kernel_rfl) | exact trivial | rfl | omega | ((try intro _); first | apply R64 <;> omega | apply room_of <;> omega) | skip)
  (refine Ok.ret ?_; (try dsimp only [thenK, blockK, noGotoK]); simp only [toList_mk, List.toList_toArray, retK_ret, retK_normal, resOK, resV, celV, rowV, frzAll, frzT, subV, subL, go_sem])
  exact ⟨.refl _, .refl _, .refl _, .refl _⟩
theorem c117 (k : Block) : Ctr Tryz.prog 117 [k.sv] (bS true) := by
  (refine Ctr.mk (fn := Tryz.f117) rfl rfl rfl rfl rfl Tryz.results117 ?_; dsimp only [args, List.toList_toArray])
  ((first | refine Ok.seqF rfl rfl ?_ | refine Ok.seqT rfl rfl ?_ | refine Ok.regF rfl rfl ?_ | refine Ok.regT rfl rfl ?_); simp only [go_sem]; (repeat' with_reducible apply And.intro); all_goals first | (with_reducible first | refine OkW.mk ?_ | refine EndW.mk ?_ | apply AskI.id | apply AskGI.id) | (with_reducible apply KOt.mk; kernel_rfl) | exact trivial | rfl | omega | ((try intro _); first | apply R64 <;> omega | apply room_of <;> omega) | skip)
  ((first | refine Ok.seqF rfl rfl ?_ | refine Ok.seqT rfl rfl ?_ | refine Ok.regF rfl rfl ?_ | refine Ok.regT rfl rfl ?_); simp only [go_sem]; (repeat' with_reducible apply And.intro); all_goals first | (with_reducible first | refine OkW.mk ?_ | refine EndW.mk ?_ | apply AskI.id | apply AskGI.id) | (with_reducible apply KOt.mk; kernel_rfl) | exact trivial | rfl | omega | ((try intro _); first | apply R64 <;> omega | apply room_of <;> omega) | skip)
  (refine Ok.ret ?_; (try dsimp only [thenK, blockK, noGotoK]); simp only [toList_mk, List.toList_toArray, retK_ret, retK_normal, resOK, resV, celV, rowV, frzAll, frzT, subV, subL, go_sem])
  exact .refl _
theorem c118 (k : Block) : Ctr Tryz.prog 118 [k.sv] (bS k.sure) := by
  (refine Ctr.mk (fn := Tryz.f118) rfl rfl rfl rfl rfl Tryz.results118 ?_; dsimp only [args, List.toList_toArray])
  ((first | refine Ok.seqF rfl rfl ?_ | refine Ok.seqT rfl rfl ?_ | refine Ok.regF rfl rfl ?_ | refine Ok.regT rfl rfl ?_); simp only [go_sem]; (repeat' with_reducible apply And.intro); all_goals first | (with_reducible first | refine OkW.mk ?_ | refine EndW.mk ?_ | apply AskI.id | apply AskGI.id) | (with_reducible apply KOt.mk; kernel_rfl) | exact trivial | rfl | omega | ((try intro _); first | apply R64 <;> omega | apply room_of <;> omega) | skip)
  ((first | refine Ok.seqF rfl rfl ?_ | refine Ok.seqT rfl rfl ?_ | refine Ok.regF rfl rfl ?_ | refine Ok.regT rfl rfl ?_); simp only [go_sem]; (repeat' with_reducible apply And.intro); all_goals first | (with_reducible first | refine OkW.mk ?_ | refine EndW.mk ?_ | apply AskI.id | apply AskGI.id) | (with_reducible apply KOt.mk; kernel_rfl) | exact trivial | rfl | omega | ((try intro _); first | apply R64 <;> omega | apply room_of <;> omega) | skip)
  (refine Ok.ret ?_; (try dsimp only [thenK, blockK, noGotoK]); simp only [toList_mk, List.toList_toArray, retK_ret, retK_normal, resOK, resV, celV, rowV, frzAll, frzT, subV, subL, go_sem])
  exact .refl _
theorem c115 (s : Street) (p : Place) : Ctr Tryz.prog 115 [s.sv, p.sv] (bS (placeIn s p)) := by
  (refine Ctr.mk (fn := Tryz.f115) rfl rfl rfl rfl rfl Tryz.results115 ?_; dsimp only [args, List.toList_toArray])
  ((first | refine Ok.seqF rfl rfl ?_ | refine Ok.seqT rfl rfl ?_ | refine Ok.regF rfl rfl ?_ | refine Ok.regT rfl rfl ?_); simp only [go_sem]; (repeat' with_reducible apply And.intro); all_goals first | (with_reducible first | refine OkW.mk ?_ | refine EndW.mk ?_ | apply AskI.id | apply AskGI.id) | (with_reducible apply KOt.mk; kernel_rfl) | exact trivial | rfl | omega | ((try intro _); first | apply R64 <;> omega | apply room_of <;> omega) | skip)
  ((first | refine Ok.seqF rfl rfl ?_ | refine Ok.seqT rfl rfl ?_ | refine Ok.regF rfl rfl ?_ | refine Ok.regT rfl rfl ?_); simp only [go_sem]; (repeat' with_reducible apply And.intro); all_goals first | (with_reducible first | refine OkW.mk ?_ | refine EndW.mk ?_ | apply AskI.id | apply AskGI.id) | (with_reducible apply KOt.mk; kernel_rfl) | exact trivial | rfl | omega | ((try intro _); first | apply R64 <;> omega | apply room_of <;> omega) | skip)
  (refine AskI.ret (c114 _ _ _) ?_; simp only [go_sem]; (repeat' with_reducible apply And.intro); all_goals first | (with_reducible first | refine OkW.mk ?_ | refine EndW.mk ?_ | apply AskI.id | apply AskGI.id) | (with_reducible apply KOt.mk; kernel_rfl) | exact trivial | rfl | omega | ((try intro _); first | apply R64 <;> omega | apply room_of <;> omega) | skip)
  (refine AskGI.ret (fun _ => c114 _ _ _) ?_; simp only [go_sem]; (repeat' with_reducible apply And.intro); all_goals first | (with_reducible first | refine OkW.mk ?_ | refine EndW.mk ?_ | apply AskI.id | apply AskGI.id) | (with_reducible apply KOt.mk; kernel_rfl) | exact trivial | rfl | omega | ((try intro _); first | apply R64 <;> omega | apply room_of <;> omega) | skip)
  (refine Ok.ret ?_; (try dsimp only [thenK, blockK, noGotoK]); simp only [toList_mk, List.toList_toArray, retK_ret, retK_normal, resOK, resV, celV, rowV, frzAll, frzT, subV, subL, go_sem])
  exact .refl _
theorem c73 (u v : Bool) : Ctr Tryz.prog 73 [bS u, bS v] (iS (word u v)) := by
  (refine Ctr.mk (fn := Tryz.f73) rfl rfl rfl rfl rfl Tryz.results73 ?_; dsimp only [args, List.toList_toArray])
  ((first | refine Ok.seqF rfl rfl ?_ | refine Ok.seqT rfl rfl ?_ | refine Ok.regF rfl rfl ?_ | refine Ok.regT rfl rfl ?_); simp only [go_sem]; (repeat' with_reducible apply And.intro); all_goals first | (with_reducible first | refine OkW.mk ?_ | refine EndW.mk ?_ | apply AskI.id | apply AskGI.id) | (with_reducible apply KOt.mk; kernel_rfl) | exact trivial | rfl | omega | ((try intro _); first | apply R64 <;> omega | apply room_of <;> omega) | skip)
  refine Ok.seq ?_
  refine Ok.block ?_
  ((first | refine Ok.seqF rfl rfl ?_ | refine Ok.seqT rfl rfl ?_ | refine Ok.regF rfl rfl ?_ | refine Ok.regT rfl rfl ?_); simp only [go_sem]; (repeat' with_reducible apply And.intro); all_goals first | (with_reducible first | refine OkW.mk ?_ | refine EndW.mk ?_ | apply AskI.id | apply AskGI.id) | (with_reducible apply KOt.mk; kernel_rfl) | exact trivial | rfl | omega | ((try intro _); first | apply R64 <;> omega | apply room_of <;> omega) | skip)
  refine Ok.cond rfl ?_ ?_
  · intro hu
    ((first | refine Ok.seqF rfl rfl ?_ | refine Ok.seqT rfl rfl ?_ | refine Ok.regF rfl rfl ?_ | refine Ok.regT rfl rfl ?_); simp only [go_sem]; (repeat' with_reducible apply And.intro); all_goals first | (with_reducible first | refine OkW.mk ?_ | refine EndW.mk ?_ | apply AskI.id | apply AskGI.id) | (with_reducible apply KOt.mk; kernel_rfl) | exact trivial | rfl | omega | ((try intro _); first | apply R64 <;> omega | apply room_of <;> omega) | skip)
    (refine Ok.ret ?_; (try dsimp only [thenK, blockK, noGotoK]); simp only [toList_mk, List.toList_toArray, retK_ret, retK_normal, resOK, resV, celV, rowV, frzAll, frzT, subV, subL, go_sem])
    simp only [word, hu, if_true]
    exact .refl _
  · intro hu
    ((first | refine Ok.seqF rfl rfl ?_ | refine Ok.seqT rfl rfl ?_ | refine Ok.regF rfl rfl ?_ | refine Ok.regT rfl rfl ?_); simp only [go_sem]; (repeat' with_reducible apply And.intro); all_goals first | (with_reducible first | refine OkW.mk ?_ | refine EndW.mk ?_ | apply AskI.id | apply AskGI.id) | (with_reducible apply KOt.mk; kernel_rfl) | exact trivial | rfl | omega | ((try intro _); first | apply R64 <;> omega | apply room_of <;> omega) | skip)
    refine Ok.cond rfl ?_ ?_
    · intro hv
      ((first | refine Ok.seqF rfl rfl ?_ | refine Ok.seqT rfl rfl ?_ | refine Ok.regF rfl rfl ?_ | refine Ok.regT rfl rfl ?_); simp only [go_sem]; (repeat' with_reducible apply And.intro); all_goals first | (with_reducible first | refine OkW.mk ?_ | refine EndW.mk ?_ | apply AskI.id | apply AskGI.id) | (with_reducible apply KOt.mk; kernel_rfl) | exact trivial | rfl | omega | ((try intro _); first | apply R64 <;> omega | apply room_of <;> omega) | skip)
      (refine Ok.ret ?_; (try dsimp only [thenK, blockK, noGotoK]); simp only [toList_mk, List.toList_toArray, retK_ret, retK_normal, resOK, resV, celV, rowV, frzAll, frzT, subV, subL, go_sem])
      simp only [word, hu, hv, if_true]
      exact .refl _
    · intro hv
      (refine Ok.skip ?_; (try dsimp only [thenK, blockK, noGotoK]))
      ((first | refine Ok.seqF rfl rfl ?_ | refine Ok.seqT rfl rfl ?_ | refine Ok.regF rfl rfl ?_ | refine Ok.regT rfl rfl ?_); simp only [go_sem]; (repeat' with_reducible apply And.intro); all_goals first | (with_reducible first | refine OkW.mk ?_ | refine EndW.mk ?_ | apply AskI.id | apply AskGI.id) | (with_reducible apply KOt.mk; kernel_rfl) | exact trivial | rfl | omega | ((try intro _); first | apply R64 <;> omega | apply room_of <;> omega) | skip)
      (refine Ok.ret ?_; (try dsimp only [thenK, blockK, noGotoK]); simp only [toList_mk, List.toList_toArray, retK_ret, retK_normal, resOK, resV, celV, rowV, frzAll, frzT, subV, subL, go_sem])
      simp only [word, hu, hv]
      exact .refl _
def readL (L : Look) (x : Letter) (n : Int) : Bool := tall L x n && broad L x n && thick L x n
theorem c83 (L : Look) (h : L.fine) (x : Letter) (hx : x.fine) (n : Int) (h0 : 0 ≤ n) (h1 : n ≤ 10000) : Ctr Tryz.prog 83 [L.sv, x.sv, iS n] (bS (readL L x n)) := by
  (refine Ctr.mk (fn := Tryz.f83) rfl rfl rfl rfl rfl Tryz.results83 ?_; dsimp only [args, List.toList_toArray])
  ((first | refine Ok.seqF rfl rfl ?_ | refine Ok.seqT rfl rfl ?_ | refine Ok.regF rfl rfl ?_ | refine Ok.regT rfl rfl ?_); simp only [go_sem]; (repeat' with_reducible apply And.intro); all_goals first | (with_reducible first | refine OkW.mk ?_ | refine EndW.mk ?_ | apply AskI.id | apply AskGI.id) | (with_reducible apply KOt.mk; kernel_rfl) | exact trivial | rfl | omega | ((try intro _); first | apply R64 <;> omega | apply room_of <;> omega) | skip)
  refine Ok.seq ?_
  ((first | refine Ok.seqF rfl rfl ?_ | refine Ok.seqT rfl rfl ?_ | refine Ok.regF rfl rfl ?_ | refine Ok.regT rfl rfl ?_); simp only [go_sem]; (repeat' with_reducible apply And.intro); all_goals first | (with_reducible first | refine OkW.mk ?_ | refine EndW.mk ?_ | apply AskI.id | apply AskGI.id) | (with_reducible apply KOt.mk; kernel_rfl) | exact trivial | rfl | omega | ((try intro _); first | apply R64 <;> omega | apply room_of <;> omega) | skip)
  (refine AskI.ret (c120) ?_; simp only [go_sem]; (repeat' with_reducible apply And.intro); all_goals first | (with_reducible first | refine OkW.mk ?_ | refine EndW.mk ?_ | apply AskI.id | apply AskGI.id) | (with_reducible apply KOt.mk; kernel_rfl) | exact trivial | rfl | omega | ((try intro _); first | apply R64 <;> omega | apply room_of <;> omega) | skip)
  refine Ok.block ?_
  refine Ok.rounds 5 (OkN.round ?_)
  ((first | refine Ok.seqF rfl rfl ?_ | refine Ok.seqT rfl rfl ?_ | refine Ok.regF rfl rfl ?_ | refine Ok.regT rfl rfl ?_); simp only [go_sem]; (repeat' with_reducible apply And.intro); all_goals first | (with_reducible first | refine OkW.mk ?_ | refine EndW.mk ?_ | apply AskI.id | apply AskGI.id) | (with_reducible apply KOt.mk; kernel_rfl) | exact trivial | rfl | omega | ((try intro _); first | apply R64 <;> omega | apply room_of <;> omega) | skip)
  refine Ok.seq ?_
  refine Ok.cond (b := true) (by first | rfl | (simp only [go_sem]; rfl)) (fun _ => ?_) (fun hb => by cases hb)
  (refine Ok.skip ?_; (try dsimp only [thenK, blockK, noGotoK]))
  refine Ok.seq ?_
  refine Ok.block ?_
  ((first | refine Ok.seqF rfl rfl ?_ | refine Ok.seqT rfl rfl ?_ | refine Ok.regF rfl rfl ?_ | refine Ok.regT rfl rfl ?_); simp only [go_sem]; (repeat' with_reducible apply And.intro); all_goals first | (with_reducible first | refine OkW.mk ?_ | refine EndW.mk ?_ | apply AskI.id | apply AskGI.id) | (with_reducible apply KOt.mk; kernel_rfl) | exact trivial | rfl | omega | ((try intro _); first | apply R64 <;> omega | apply room_of <;> omega) | skip)
  ((first | refine Ok.seqF rfl rfl ?_ | refine Ok.seqT rfl rfl ?_ | refine Ok.regF rfl rfl ?_ | refine Ok.regT rfl rfl ?_); simp only [go_sem]; (repeat' with_reducible apply And.intro); all_goals first | (with_reducible first | refine OkW.mk ?_ | refine EndW.mk ?_ | apply AskI.id | apply AskGI.id) | (with_reducible apply KOt.mk; kernel_rfl) | exact trivial | rfl | omega | ((try intro _); first | apply R64 <;> omega | apply room_of <;> omega) | skip)
  (refine AskGI.ret (fun _ => c141 L h x hx n h0 h1) ?_; simp only [go_sem]; (repeat' with_reducible apply And.intro); all_goals first | (with_reducible first | refine OkW.mk ?_ | refine EndW.mk ?_ | apply AskI.id | apply AskGI.id) | (with_reducible apply KOt.mk; kernel_rfl) | exact trivial | rfl | omega | ((try intro _); first | apply R64 <;> omega | apply room_of <;> omega) | skip)
  refine Ok.cond rfl ?_ ?_
  · intro hb
    ((first | refine Ok.seqF rfl rfl ?_ | refine Ok.seqT rfl rfl ?_ | refine Ok.regF rfl rfl ?_ | refine Ok.regT rfl rfl ?_); simp only [go_sem]; (repeat' with_reducible apply And.intro); all_goals first | (with_reducible first | refine OkW.mk ?_ | refine EndW.mk ?_ | apply AskI.id | apply AskGI.id) | (with_reducible apply KOt.mk; kernel_rfl) | exact trivial | rfl | omega | ((try intro _); first | apply R64 <;> omega | apply room_of <;> omega) | skip)
    (refine Ok.ret ?_; (try dsimp only [thenK, blockK, noGotoK]); simp only [toList_mk, List.toList_toArray, retK_ret, retK_normal, resOK, resV, celV, rowV, frzAll, frzT, subV, subL, go_sem])
    refine DEq.bool ?_
    simp only [Bool.not_eq_true'] at hb
    simp [readL, hb]
  intro h141
  simp only [Bool.not_eq_false'] at h141
  (refine Ok.skip ?_; (try dsimp only [thenK, blockK, noGotoK]))
  ((first | refine Ok.seqF rfl rfl ?_ | refine Ok.seqT rfl rfl ?_ | refine Ok.regF rfl rfl ?_ | refine Ok.regT rfl rfl ?_); simp only [go_sem]; (repeat' with_reducible apply And.intro); all_goals first | (with_reducible first | refine OkW.mk ?_ | refine EndW.mk ?_ | apply AskI.id | apply AskGI.id) | (with_reducible apply KOt.mk; kernel_rfl) | exact trivial | rfl | omega | ((try intro _); first | apply R64 <;> omega | apply room_of <;> omega) | skip)
  (try dsimp only [thenK, blockK, noGotoK])
  refine OkN.round ?_
  ((first | refine Ok.seqF rfl rfl ?_ | refine Ok.seqT rfl rfl ?_ | refine Ok.regF rfl rfl ?_ | refine Ok.regT rfl rfl ?_); simp only [go_sem]; (repeat' with_reducible apply And.intro); all_goals first | (with_reducible first | refine OkW.mk ?_ | refine EndW.mk ?_ | apply AskI.id | apply AskGI.id) | (with_reducible apply KOt.mk; kernel_rfl) | exact trivial | rfl | omega | ((try intro _); first | apply R64 <;> omega | apply room_of <;> omega) | skip)
  refine Ok.seq ?_
  refine Ok.cond (b := true) (by first | rfl | (simp only [go_sem]; rfl)) (fun _ => ?_) (fun hb => by cases hb)
  (refine Ok.skip ?_; (try dsimp only [thenK, blockK, noGotoK]))
  refine Ok.seq ?_
  refine Ok.block ?_
  ((first | refine Ok.seqF rfl rfl ?_ | refine Ok.seqT rfl rfl ?_ | refine Ok.regF rfl rfl ?_ | refine Ok.regT rfl rfl ?_); simp only [go_sem]; (repeat' with_reducible apply And.intro); all_goals first | (with_reducible first | refine OkW.mk ?_ | refine EndW.mk ?_ | apply AskI.id | apply AskGI.id) | (with_reducible apply KOt.mk; kernel_rfl) | exact trivial | rfl | omega | ((try intro _); first | apply R64 <;> omega | apply room_of <;> omega) | skip)
  ((first | refine Ok.seqF rfl rfl ?_ | refine Ok.seqT rfl rfl ?_ | refine Ok.regF rfl rfl ?_ | refine Ok.regT rfl rfl ?_); simp only [go_sem]; (repeat' with_reducible apply And.intro); all_goals first | (with_reducible first | refine OkW.mk ?_ | refine EndW.mk ?_ | apply AskI.id | apply AskGI.id) | (with_reducible apply KOt.mk; kernel_rfl) | exact trivial | rfl | omega | ((try intro _); first | apply R64 <;> omega | apply room_of <;> omega) | skip)
  (refine AskGI.ret (fun _ => c142 L h x hx n h0 h1) ?_; simp only [go_sem]; (repeat' with_reducible apply And.intro); all_goals first | (with_reducible first | refine OkW.mk ?_ | refine EndW.mk ?_ | apply AskI.id | apply AskGI.id) | (with_reducible apply KOt.mk; kernel_rfl) | exact trivial | rfl | omega | ((try intro _); first | apply R64 <;> omega | apply room_of <;> omega) | skip)
  refine Ok.cond rfl ?_ ?_
  · intro hb
    ((first | refine Ok.seqF rfl rfl ?_ | refine Ok.seqT rfl rfl ?_ | refine Ok.regF rfl rfl ?_ | refine Ok.regT rfl rfl ?_); simp only [go_sem]; (repeat' with_reducible apply And.intro); all_goals first | (with_reducible first | refine OkW.mk ?_ | refine EndW.mk ?_ | apply AskI.id | apply AskGI.id) | (with_reducible apply KOt.mk; kernel_rfl) | exact trivial | rfl | omega | ((try intro _); first | apply R64 <;> omega | apply room_of <;> omega) | skip)
    (refine Ok.ret ?_; (try dsimp only [thenK, blockK, noGotoK]); simp only [toList_mk, List.toList_toArray, retK_ret, retK_normal, resOK, resV, celV, rowV, frzAll, frzT, subV, subL, go_sem])
    refine DEq.bool ?_
    simp only [Bool.not_eq_true'] at hb
    simp [readL, hb]
  intro h142
  simp only [Bool.not_eq_false'] at h142
  (refine Ok.skip ?_; (try dsimp only [thenK, blockK, noGotoK]))
  ((first | refine Ok.seqF rfl rfl ?_ | refine Ok.seqT rfl rfl ?_ | refine Ok.regF rfl rfl ?_ | refine Ok.regT rfl rfl ?_); simp only [go_sem]; (repeat' with_reducible apply And.intro); all_goals first | (with_reducible first | refine OkW.mk ?_ | refine EndW.mk ?_ | apply AskI.id | apply AskGI.id) | (with_reducible apply KOt.mk; kernel_rfl) | exact trivial | rfl | omega | ((try intro _); first | apply R64 <;> omega | apply room_of <;> omega) | skip)
  (try dsimp only [thenK, blockK, noGotoK])
  refine OkN.round ?_
  ((first | refine Ok.seqF rfl rfl ?_ | refine Ok.seqT rfl rfl ?_ | refine Ok.regF rfl rfl ?_ | refine Ok.regT rfl rfl ?_); simp only [go_sem]; (repeat' with_reducible apply And.intro); all_goals first | (with_reducible first | refine OkW.mk ?_ | refine EndW.mk ?_ | apply AskI.id | apply AskGI.id) | (with_reducible apply KOt.mk; kernel_rfl) | exact trivial | rfl | omega | ((try intro _); first | apply R64 <;> omega | apply room_of <;> omega) | skip)
  refine Ok.seq ?_
  refine Ok.cond (b := true) (by first | rfl | (simp only [go_sem]; rfl)) (fun _ => ?_) (fun hb => by cases hb)
  (refine Ok.skip ?_; (try dsimp only [thenK, blockK, noGotoK]))
  refine Ok.seq ?_
  refine Ok.block ?_
  ((first | refine Ok.seqF rfl rfl ?_ | refine Ok.seqT rfl rfl ?_ | refine Ok.regF rfl rfl ?_ | refine Ok.regT rfl rfl ?_); simp only [go_sem]; (repeat' with_reducible apply And.intro); all_goals first | (with_reducible first | refine OkW.mk ?_ | refine EndW.mk ?_ | apply AskI.id | apply AskGI.id) | (with_reducible apply KOt.mk; kernel_rfl) | exact trivial | rfl | omega | ((try intro _); first | apply R64 <;> omega | apply room_of <;> omega) | skip)
  ((first | refine Ok.seqF rfl rfl ?_ | refine Ok.seqT rfl rfl ?_ | refine Ok.regF rfl rfl ?_ | refine Ok.regT rfl rfl ?_); simp only [go_sem]; (repeat' with_reducible apply And.intro); all_goals first | (with_reducible first | refine OkW.mk ?_ | refine EndW.mk ?_ | apply AskI.id | apply AskGI.id) | (with_reducible apply KOt.mk; kernel_rfl) | exact trivial | rfl | omega | ((try intro _); first | apply R64 <;> omega | apply room_of <;> omega) | skip)
  (refine AskGI.ret (fun _ => c143 L h x hx n h0 h1) ?_; simp only [go_sem]; (repeat' with_reducible apply And.intro); all_goals first | (with_reducible first | refine OkW.mk ?_ | refine EndW.mk ?_ | apply AskI.id | apply AskGI.id) | (with_reducible apply KOt.mk; kernel_rfl) | exact trivial | rfl | omega | ((try intro _); first | apply R64 <;> omega | apply room_of <;> omega) | skip)
  refine Ok.cond rfl ?_ ?_
  · intro hb
    ((first | refine Ok.seqF rfl rfl ?_ | refine Ok.seqT rfl rfl ?_ | refine Ok.regF rfl rfl ?_ | refine Ok.regT rfl rfl ?_); simp only [go_sem]; (repeat' with_reducible apply And.intro); all_goals first | (with_reducible first | refine OkW.mk ?_ | refine EndW.mk ?_ | apply AskI.id | apply AskGI.id) | (with_reducible apply KOt.mk; kernel_rfl) | exact trivial | rfl | omega | ((try intro _); first | apply R64 <;> omega | apply room_of <;> omega) | skip)
    (refine Ok.ret ?_; (try dsimp only [thenK, blockK, noGotoK]); simp only [toList_mk, List.toList_toArray, retK_ret, retK_normal, resOK, resV, celV, rowV, frzAll, frzT, subV, subL, go_sem])
    refine DEq.bool ?_
    simp only [Bool.not_eq_true'] at hb
    simp [readL, hb]
  intro h143
  simp only [Bool.not_eq_false'] at h143
  (refine Ok.skip ?_; (try dsimp only [thenK, blockK, noGotoK]))
  ((first | refine Ok.seqF rfl rfl ?_ | refine Ok.seqT rfl rfl ?_ | refine Ok.regF rfl rfl ?_ | refine Ok.regT rfl rfl ?_); simp only [go_sem]; (repeat' with_reducible apply And.intro); all_goals first | (with_reducible first | refine OkW.mk ?_ | refine EndW.mk ?_ | apply AskI.id | apply AskGI.id) | (with_reducible apply KOt.mk; kernel_rfl) | exact trivial | rfl | omega | ((try intro _); first | apply R64 <;> omega | apply room_of <;> omega) | skip)
  (try dsimp only [thenK, blockK, noGotoK])
  refine OkN.round ?_
  ((first | refine Ok.seqF rfl rfl ?_ | refine Ok.seqT rfl rfl ?_ | refine Ok.regF rfl rfl ?_ | refine Ok.regT rfl rfl ?_); simp only [go_sem]; (repeat' with_reducible apply And.intro); all_goals first | (with_reducible first | refine OkW.mk ?_ | refine EndW.mk ?_ | apply AskI.id | apply AskGI.id) | (with_reducible apply KOt.mk; kernel_rfl) | exact trivial | rfl | omega | ((try intro _); first | apply R64 <;> omega | apply room_of <;> omega) | skip)
  refine Ok.seq ?_
  refine Ok.cond (b := true) (by first | rfl | (simp only [go_sem]; rfl)) (fun _ => ?_) (fun hb => by cases hb)
  (refine Ok.skip ?_; (try dsimp only [thenK, blockK, noGotoK]))
  refine Ok.seq ?_
  refine Ok.block ?_
  ((first | refine Ok.seqF rfl rfl ?_ | refine Ok.seqT rfl rfl ?_ | refine Ok.regF rfl rfl ?_ | refine Ok.regT rfl rfl ?_); simp only [go_sem]; (repeat' with_reducible apply And.intro); all_goals first | (with_reducible first | refine OkW.mk ?_ | refine EndW.mk ?_ | apply AskI.id | apply AskGI.id) | (with_reducible apply KOt.mk; kernel_rfl) | exact trivial | rfl | omega | ((try intro _); first | apply R64 <;> omega | apply room_of <;> omega) | skip)
  ((first | refine Ok.seqF rfl rfl ?_ | refine Ok.seqT rfl rfl ?_ | refine Ok.regF rfl rfl ?_ | refine Ok.regT rfl rfl ?_); simp only [go_sem]; (repeat' with_reducible apply And.intro); all_goals first | (with_reducible first | refine OkW.mk ?_ | refine EndW.mk ?_ | apply AskI.id | apply AskGI.id) | (with_reducible apply KOt.mk; kernel_rfl) | exact trivial | rfl | omega | ((try intro _); first | apply R64 <;> omega | apply room_of <;> omega) | skip)
  (refine AskGI.ret (r := .d (.bool false)) (fun hb => by simp at hb) ?_; simp only [go_sem]; (repeat' with_reducible apply And.intro); all_goals first | (with_reducible first | refine OkW.mk ?_ | refine EndW.mk ?_ | apply AskI.id | apply AskGI.id) | (with_reducible apply KOt.mk; kernel_rfl) | exact trivial | rfl | omega | ((try intro _); first | apply R64 <;> omega | apply room_of <;> omega) | skip)
  refine Ok.cond (b := false) (by first | rfl | (simp only [go_sem]; rfl)) (fun hb => by cases hb) (fun _ => ?_)
  (refine Ok.skip ?_; (try dsimp only [thenK, blockK, noGotoK]))
  ((first | refine Ok.seqF rfl rfl ?_ | refine Ok.seqT rfl rfl ?_ | refine Ok.regF rfl rfl ?_ | refine Ok.regT rfl rfl ?_); simp only [go_sem]; (repeat' with_reducible apply And.intro); all_goals first | (with_reducible first | refine OkW.mk ?_ | refine EndW.mk ?_ | apply AskI.id | apply AskGI.id) | (with_reducible apply KOt.mk; kernel_rfl) | exact trivial | rfl | omega | ((try intro _); first | apply R64 <;> omega | apply room_of <;> omega) | skip)
  (try dsimp only [thenK, blockK, noGotoK])
  refine OkN.round ?_
  ((first | refine Ok.seqF rfl rfl ?_ | refine Ok.seqT rfl rfl ?_ | refine Ok.regF rfl rfl ?_ | refine Ok.regT rfl rfl ?_); simp only [go_sem]; (repeat' with_reducible apply And.intro); all_goals first | (with_reducible first | refine OkW.mk ?_ | refine EndW.mk ?_ | apply AskI.id | apply AskGI.id) | (with_reducible apply KOt.mk; kernel_rfl) | exact trivial | rfl | omega | ((try intro _); first | apply R64 <;> omega | apply room_of <;> omega) | skip)
  refine Ok.seq ?_
  refine Ok.cond (b := false) (by first | rfl | (simp only [go_sem]; rfl)) (fun hb => by cases hb) (fun _ => ?_)
  (refine Ok.exit ?_; simp only [thenK_exit, blockK_exit, noGotoK_exit, thenK_normal, blockK_normal, noGotoK_normal, ↓reduceIte, Nat.reduceEqDiff])
  ((first | refine Ok.seqF rfl rfl ?_ | refine Ok.seqT rfl rfl ?_ | refine Ok.regF rfl rfl ?_ | refine Ok.regT rfl rfl ?_); simp only [go_sem]; (repeat' with_reducible apply And.intro); all_goals first | (with_reducible first | refine OkW.mk ?_ | refine EndW.mk ?_ | apply AskI.id | apply AskGI.id) | (with_reducible apply KOt.mk; kernel_rfl) | exact trivial | rfl | omega | ((try intro _); first | apply R64 <;> omega | apply room_of <;> omega) | skip)
  (refine Ok.ret ?_; (try dsimp only [thenK, blockK, noGotoK]); simp only [toList_mk, List.toList_toArray, retK_ret, retK_normal, resOK, resV, celV, rowV, frzAll, frzT, subV, subL, go_sem])
  refine DEq.bool ?_
  simp [readL, h141, h142, h143]
def lookOk (s : Street) (i : Int) (p : Place) : Bool := isStreet s && inR i 0 (s.bs.length - 1) && placeIn s p
def lookOf (s : Street) (i : Int) (p : Place) : Look := if lookOk s i p then ⟨s, s.bs.getD i.toNat default, p⟩ else default
theorem c72 (s : Street) (hs : s.fit) (i : Int) (p : Place) : Ctr Tryz.prog 72 [s.sv, iS i, p.sv] (.tup [(lookOf s i p).sv, bS (lookOk s i p)]) := by
  have hs1 := hs.1
  (refine Ctr.mk (fn := Tryz.f72) rfl rfl rfl rfl rfl Tryz.results72 ?_; dsimp only [args, List.toList_toArray])
  ((first | refine Ok.seqF rfl rfl ?_ | refine Ok.seqT rfl rfl ?_ | refine Ok.regF rfl rfl ?_ | refine Ok.regT rfl rfl ?_); simp only [go_sem]; (repeat' with_reducible apply And.intro); all_goals first | (with_reducible first | refine OkW.mk ?_ | refine EndW.mk ?_ | apply AskI.id | apply AskGI.id) | (with_reducible apply KOt.mk; kernel_rfl) | exact trivial | rfl | omega | ((try intro _); first | apply R64 <;> omega | apply room_of <;> omega) | skip)
  refine Ok.seq ?_
  ((first | refine Ok.seqF rfl rfl ?_ | refine Ok.seqT rfl rfl ?_ | refine Ok.regF rfl rfl ?_ | refine Ok.regT rfl rfl ?_); simp only [go_sem]; (repeat' with_reducible apply And.intro); all_goals first | (with_reducible first | refine OkW.mk ?_ | refine EndW.mk ?_ | apply AskI.id | apply AskGI.id) | (with_reducible apply KOt.mk; kernel_rfl) | exact trivial | rfl | omega | ((try intro _); first | apply R64 <;> omega | apply room_of <;> omega) | skip)
  (refine AskI.ret (c102 s hs) ?_; simp only [go_sem]; (repeat' with_reducible apply And.intro); all_goals first | (with_reducible first | refine OkW.mk ?_ | refine EndW.mk ?_ | apply AskI.id | apply AskGI.id) | (with_reducible apply KOt.mk; kernel_rfl) | exact trivial | rfl | omega | ((try intro _); first | apply R64 <;> omega | apply room_of <;> omega) | skip)
  (refine AskGI.ret (fun _ => c114 _ _ _) ?_; simp only [go_sem]; (repeat' with_reducible apply And.intro); all_goals first | (with_reducible first | refine OkW.mk ?_ | refine EndW.mk ?_ | apply AskI.id | apply AskGI.id) | (with_reducible apply KOt.mk; kernel_rfl) | exact trivial | rfl | omega | ((try intro _); first | apply R64 <;> omega | apply room_of <;> omega) | skip)
  (refine AskGI.ret (fun _ => c115 s p) ?_; simp only [go_sem]; (repeat' with_reducible apply And.intro); all_goals first | (with_reducible first | refine OkW.mk ?_ | refine EndW.mk ?_ | apply AskI.id | apply AskGI.id) | (with_reducible apply KOt.mk; kernel_rfl) | exact trivial | rfl | omega | ((try intro _); first | apply R64 <;> omega | apply room_of <;> omega) | skip)
  refine Ok.cond rfl ?_ ?_
  · intro hb
    have hno : lookOk s i p = false := by
      simp only [lookOk]
      cases h1 : isStreet s <;> cases h2 : inR i 0 (↑s.bs.length - 1) <;> cases h3 : placeIn s p <;> simp_all
    have hl : lookOf s i p = default := by simp [lookOf, hno]
    rw [hl, hno]
    ((first | refine Ok.seqF rfl rfl ?_ | refine Ok.seqT rfl rfl ?_ | refine Ok.regF rfl rfl ?_ | refine Ok.regT rfl rfl ?_); simp only [go_sem]; (repeat' with_reducible apply And.intro); all_goals first | (with_reducible first | refine OkW.mk ?_ | refine EndW.mk ?_ | apply AskI.id | apply AskGI.id) | (with_reducible apply KOt.mk; kernel_rfl) | exact trivial | rfl | omega | ((try intro _); first | apply R64 <;> omega | apply room_of <;> omega) | skip)
    (refine Ok.ret ?_; (try dsimp only [thenK, blockK, noGotoK]); simp only [toList_mk, List.toList_toArray, retK_ret, retK_normal, resOK, resV, celV, rowV, frzAll, frzT, subV, subL, go_sem])
    exact ⟨⟨DEq.int rfl, DEq.int rfl, DEq.int rfl, DEq.int rfl, DEq.int rfl, DEq.int rfl, DEq.nils rfl, DEq.nils rfl, DEq.int rfl, DEq.nils rfl, DEq.int rfl, DEq.int rfl⟩, .refl _⟩
  · intro hb
    have hyes : lookOk s i p = true := by
      simp only [lookOk]
      cases h1 : isStreet s <;> cases h2 : inR i 0 (↑s.bs.length - 1) <;> cases h3 : placeIn s p <;> simp_all
    have hl : lookOf s i p = ⟨s, s.bs.getD i.toNat default, p⟩ := by simp [lookOf, hyes]
    have hi : 0 ≤ i ∧ i < s.bs.length := by
      simp only [lookOk, inR, Bool.and_eq_true, decide_eq_true_eq] at hyes
      exact ⟨by omega, by omega⟩
    rw [hl, hyes]
    (refine Ok.skip ?_; (try dsimp only [thenK, blockK, noGotoK]))
    ((first | refine Ok.seqF rfl rfl ?_ | refine Ok.seqT rfl rfl ?_ | refine Ok.regF rfl rfl ?_ | refine Ok.regT rfl rfl ?_); simp only [go_sem]; (repeat' with_reducible apply And.intro); all_goals first | (with_reducible first | refine OkW.mk ?_ | refine EndW.mk ?_ | apply AskI.id | apply AskGI.id) | (with_reducible apply KOt.mk; kernel_rfl) | exact trivial | rfl | omega | ((try intro _); first | apply R64 <;> omega | apply room_of <;> omega) | skip)
    (refine Ok.ret ?_; (try dsimp only [thenK, blockK, noGotoK]); simp only [toList_mk, List.toList_toArray, retK_ret, retK_normal, resOK, resV, celV, rowV, frzAll, frzT, subV, subL, go_sem])
    exact ⟨⟨.refl _, .refl _, .refl _, .refl _, .refl _, .refl _, .refl _, .refl _, .refl _, .refl _, .refl _, .refl _⟩, .refl _⟩
theorem c91 (s : Street) (hs : s.fit) (i : Int) : Ctr Tryz.prog 91 [s.sv, iS i] (bS (isStreet s && inR i 0 (s.bs.length - 1))) := by
  have hs1 := hs.1
  (refine Ctr.mk (fn := Tryz.f91) rfl rfl rfl rfl rfl Tryz.results91 ?_; dsimp only [args, List.toList_toArray])
  ((first | refine Ok.seqF rfl rfl ?_ | refine Ok.seqT rfl rfl ?_ | refine Ok.regF rfl rfl ?_ | refine Ok.regT rfl rfl ?_); simp only [go_sem]; (repeat' with_reducible apply And.intro); all_goals first | (with_reducible first | refine OkW.mk ?_ | refine EndW.mk ?_ | apply AskI.id | apply AskGI.id) | (with_reducible apply KOt.mk; kernel_rfl) | exact trivial | rfl | omega | ((try intro _); first | apply R64 <;> omega | apply room_of <;> omega) | skip)
  ((first | refine Ok.seqF rfl rfl ?_ | refine Ok.seqT rfl rfl ?_ | refine Ok.regF rfl rfl ?_ | refine Ok.regT rfl rfl ?_); simp only [go_sem]; (repeat' with_reducible apply And.intro); all_goals first | (with_reducible first | refine OkW.mk ?_ | refine EndW.mk ?_ | apply AskI.id | apply AskGI.id) | (with_reducible apply KOt.mk; kernel_rfl) | exact trivial | rfl | omega | ((try intro _); first | apply R64 <;> omega | apply room_of <;> omega) | skip)
  (refine AskI.ret (c102 s hs) ?_; simp only [go_sem]; (repeat' with_reducible apply And.intro); all_goals first | (with_reducible first | refine OkW.mk ?_ | refine EndW.mk ?_ | apply AskI.id | apply AskGI.id) | (with_reducible apply KOt.mk; kernel_rfl) | exact trivial | rfl | omega | ((try intro _); first | apply R64 <;> omega | apply room_of <;> omega) | skip)
  (refine AskGI.ret (fun _ => c114 _ _ _) ?_; simp only [go_sem]; (repeat' with_reducible apply And.intro); all_goals first | (with_reducible first | refine OkW.mk ?_ | refine EndW.mk ?_ | apply AskI.id | apply AskGI.id) | (with_reducible apply KOt.mk; kernel_rfl) | exact trivial | rfl | omega | ((try intro _); first | apply R64 <;> omega | apply room_of <;> omega) | skip)
  (refine Ok.ret ?_; (try dsimp only [thenK, blockK, noGotoK]); simp only [toList_mk, List.toList_toArray, retK_ret, retK_normal, resOK, resV, celV, rowV, frzAll, frzT, subV, subL, go_sem])
  exact .refl _
theorem c61 (s : Street) (hs : s.fit) : Ctr Tryz.prog 61 [s.sv] (iS (if isStreet s then 0 else 2)) := by
  (refine Ctr.mk (fn := Tryz.f61) rfl rfl rfl rfl rfl Tryz.results61 ?_; dsimp only [args, List.toList_toArray])
  ((first | refine Ok.seqF rfl rfl ?_ | refine Ok.seqT rfl rfl ?_ | refine Ok.regF rfl rfl ?_ | refine Ok.regT rfl rfl ?_); simp only [go_sem]; (repeat' with_reducible apply And.intro); all_goals first | (with_reducible first | refine OkW.mk ?_ | refine EndW.mk ?_ | apply AskI.id | apply AskGI.id) | (with_reducible apply KOt.mk; kernel_rfl) | exact trivial | rfl | omega | ((try intro _); first | apply R64 <;> omega | apply room_of <;> omega) | skip)
  refine Ok.seq ?_
  ((first | refine Ok.seqF rfl rfl ?_ | refine Ok.seqT rfl rfl ?_ | refine Ok.regF rfl rfl ?_ | refine Ok.regT rfl rfl ?_); simp only [go_sem]; (repeat' with_reducible apply And.intro); all_goals first | (with_reducible first | refine OkW.mk ?_ | refine EndW.mk ?_ | apply AskI.id | apply AskGI.id) | (with_reducible apply KOt.mk; kernel_rfl) | exact trivial | rfl | omega | ((try intro _); first | apply R64 <;> omega | apply room_of <;> omega) | skip)
  (refine AskI.ret (c102 s hs) ?_; simp only [go_sem]; (repeat' with_reducible apply And.intro); all_goals first | (with_reducible first | refine OkW.mk ?_ | refine EndW.mk ?_ | apply AskI.id | apply AskGI.id) | (with_reducible apply KOt.mk; kernel_rfl) | exact trivial | rfl | omega | ((try intro _); first | apply R64 <;> omega | apply room_of <;> omega) | skip)
  refine Ok.cond rfl ?_ ?_
  · intro hb
    simp only [Bool.not_eq_true'] at hb
    ((first | refine Ok.seqF rfl rfl ?_ | refine Ok.seqT rfl rfl ?_ | refine Ok.regF rfl rfl ?_ | refine Ok.regT rfl rfl ?_); simp only [go_sem]; (repeat' with_reducible apply And.intro); all_goals first | (with_reducible first | refine OkW.mk ?_ | refine EndW.mk ?_ | apply AskI.id | apply AskGI.id) | (with_reducible apply KOt.mk; kernel_rfl) | exact trivial | rfl | omega | ((try intro _); first | apply R64 <;> omega | apply room_of <;> omega) | skip)
    (refine Ok.ret ?_; (try dsimp only [thenK, blockK, noGotoK]); simp only [toList_mk, List.toList_toArray, retK_ret, retK_normal, resOK, resV, celV, rowV, frzAll, frzT, subV, subL, go_sem])
    rw [hb]
    exact .refl _
  · intro hb
    simp only [Bool.not_eq_false'] at hb
    (refine Ok.skip ?_; (try dsimp only [thenK, blockK, noGotoK]))
    ((first | refine Ok.seqF rfl rfl ?_ | refine Ok.seqT rfl rfl ?_ | refine Ok.regF rfl rfl ?_ | refine Ok.regT rfl rfl ?_); simp only [go_sem]; (repeat' with_reducible apply And.intro); all_goals first | (with_reducible first | refine OkW.mk ?_ | refine EndW.mk ?_ | apply AskI.id | apply AskGI.id) | (with_reducible apply KOt.mk; kernel_rfl) | exact trivial | rfl | omega | ((try intro _); first | apply R64 <;> omega | apply room_of <;> omega) | skip)
    (refine Ok.ret ?_; (try dsimp only [thenK, blockK, noGotoK]); simp only [toList_mk, List.toList_toArray, retK_ret, retK_normal, resOK, resV, celV, rowV, frzAll, frzT, subV, subL, go_sem])
    rw [hb]
    exact .refl _
end Go.Proofs.Sight
namespace Go.Proofs.Sight
open Go Go.RX Go.Proofs
theorem fx_at {α : Type} [Inhabited α] {q : α → Bool} {l : List α} {i : Nat} (hi : i < l.length) (h1 : q (l.getD i default) = true) (h0 : ∀ x ∈ l.take i, q x = false) : l.findIdx? q = some i := by
  rw [List.findIdx?_eq_some_iff_getElem]
  refine ⟨hi, by rw [getD_lt hi] at h1; exact h1, fun j hj => ?_⟩
  have := h0 (l[j]'(by omega)) (by rw [List.mem_take_iff_getElem]; exact ⟨j, by omega, rfl⟩)
  simp [this]
theorem fx_no {α : Type} {q : α → Bool} {l : List α} (h0 : ∀ x ∈ l, q x = false) : l.findIdx? q = none := by
  rw [List.findIdx?_eq_none_iff]; exact h0
structure Look.good (L : Look) : Prop where
  fine : L.fine
  ls : ∀ x ∈ L.b.ls, x.fine
  ks : ∀ k ∈ L.s.ks, k.fine
  n1 : 1 ≤ L.b.ls.length
  n5 : L.b.ls.length ≤ 5
  k4 : L.s.ks.length ≤ 4
def faultL (L : Look) (n : Int) (q : Block → Bool) : Option (Int × Int) :=
  match L.s.ks.findIdx? (fun k => q k && hides L k) with
  | some i => some (1, i)
  | none => match L.b.ls.findIdx? (fun x => !tall L x n) with
    | some i => some (2, i)
    | none => match L.b.ls.findIdx? (fun x => !broad L x n) with
      | some i => some (3, i)
      | none => match L.b.ls.findIdx? (fun x => !thick L x n) with
        | some i => some (4, i)
        | none => match (L.b.ls.take (L.b.ls.length - 1)).findIdx? (fun x => !apart L x n) with
          | some i => some (5, i)
          | none => none
def faV (o : Option (Int × Int)) : SV := match o with | some (k, i) => .agg [iS k, iS i] | none => .agg [iS 0, iS 0]
theorem faV_some (k i : Int) : faV (some (k, i)) = .agg [iS k, iS i] := rfl
theorem faV_none : faV none = .agg [iS 0, iS 0] := rfl
attribute [go_sem] faV_some faV_none
end Go.Proofs.Sight
namespace Go.Proofs.Sight
open Go Go.RX Go.Proofs
set_option maxRecDepth 10000
theorem c116 (L : Look) (hL : L.good) (n : Int) (hn0 : 0 ≤ n) (hn1 : n ≤ 10000) (f : Nat) (q : Block → Bool) (hf : ∀ k, Ctr Tryz.prog f [k.sv] (bS (q k))) :
    Ctr Tryz.prog 116 [L.sv, iS n, .d (cl0 f)] (.tup [faV (faultL L n q), bS (faultL L n q).isSome]) := by
  have hfine := hL.fine
  have hn5 := hL.n5
  have hk4 := hL.k4
  (refine Ctr.mk (fn := Tryz.f116) rfl rfl rfl rfl rfl Tryz.results116 ?_; dsimp only [args, List.toList_toArray])
  ((first | refine Ok.seqF rfl rfl ?_ | refine Ok.seqT rfl rfl ?_ | refine Ok.regF rfl rfl ?_ | refine Ok.regT rfl rfl ?_); simp only [go_sem]; (repeat' with_reducible apply And.intro); all_goals first | (with_reducible first | refine OkW.mk ?_ | refine EndW.mk ?_ | apply AskI.id | apply AskGI.id) | (with_reducible apply KOt.mk; kernel_rfl) | exact trivial | rfl | omega | ((try intro _); first | apply R64 <;> omega | apply room_of <;> omega) | skip)
  refine Ok.seq ?_
  ((first | refine Ok.seqF rfl rfl ?_ | refine Ok.seqT rfl rfl ?_ | refine Ok.regF rfl rfl ?_ | refine Ok.regT rfl rfl ?_); simp only [go_sem]; (repeat' with_reducible apply And.intro); all_goals first | (with_reducible first | refine OkW.mk ?_ | refine EndW.mk ?_ | apply AskI.id | apply AskGI.id) | (with_reducible apply KOt.mk; kernel_rfl) | exact trivial | rfl | omega | ((try intro _); first | apply R64 <;> omega | apply room_of <;> omega) | skip)
  refine Ok.block ?_
  refine Ok.count L.s.ks.length (fun i => ⟨[(1, iS n), (2, .d (cl0 f)), (3, .p 0 0), (6, .p 1 0), (7, bS false), (16, .d (slD 5 bloD L.s.ks)), (17, iS L.s.ks.length), (18, iS i)], [{ frz := false, xs := [iS L.s.len, iS L.s.wid, iS L.s.el, iS L.s.eh, iS L.s.ll, iS L.s.lh, .d (slD 2 boaD L.s.bs), .d (slD 5 bloD L.s.ks), iS L.b.at_, .d (slD 4 letD L.b.ls), iS L.p.al, iS L.p.ac] }, { frz := false, xs := [iS 0, iS 0] }], []⟩)
    (fun i => ∀ k ∈ L.s.ks.take i, (q k && hides L k) = false) ⟨fun x hx => by simp at hx, ?_⟩ ?_ ?_
  · (refine Sub.of ([0, 1]) ([]) ?_ ?_ ?_ rfl rfl <;> simp only [subB, subB1, subT, subT1, newT, subE, subV, subL, go_sem] <;> (try (repeat' with_reducible apply And.intro)) <;> (try first | exact DEq.refl _ | refine DEq.int ?_ | refine DEq.bool ?_ | omega))
  · intro i hi h0
    ((first | refine Ok.seqF rfl rfl ?_ | refine Ok.seqT rfl rfl ?_ | refine Ok.regF rfl rfl ?_ | refine Ok.regT rfl rfl ?_); simp only [go_sem]; (repeat' with_reducible apply And.intro); all_goals first | (with_reducible first | refine OkW.mk ?_ | refine EndW.mk ?_ | apply AskI.id | apply AskGI.id) | (with_reducible apply KOt.mk; kernel_rfl) | exact trivial | rfl | omega | ((try intro _); first | apply R64 <;> omega | apply room_of <;> omega) | skip)
    refine Ok.seq ?_
    refine Ok.cond rfl (fun _ => ?_) (fun hb => by simp at hb; omega)
    (refine Ok.skip ?_; (try dsimp only [thenK, blockK, noGotoK]))
    refine Ok.seq ?_
    refine Ok.block ?_
    ((first | refine Ok.seqF rfl rfl ?_ | refine Ok.seqT rfl rfl ?_ | refine Ok.regF rfl rfl ?_ | refine Ok.regT rfl rfl ?_); simp only [go_sem]; (repeat' with_reducible apply And.intro); all_goals first | (with_reducible first | refine OkW.mk ?_ | refine EndW.mk ?_ | apply AskI.id | apply AskGI.id) | (with_reducible apply KOt.mk; kernel_rfl) | exact trivial | rfl | omega | ((try intro _); first | apply R64 <;> omega | apply room_of <;> omega) | skip)
    ((first | refine Ok.seqF rfl rfl ?_ | refine Ok.seqT rfl rfl ?_ | refine Ok.regF rfl rfl ?_ | refine Ok.regT rfl rfl ?_); simp only [go_sem]; (repeat' with_reducible apply And.intro); all_goals first | (with_reducible first | refine OkW.mk ?_ | refine EndW.mk ?_ | apply AskI.id | apply AskGI.id) | (with_reducible apply KOt.mk; kernel_rfl) | exact trivial | rfl | omega | ((try intro _); first | apply R64 <;> omega | apply room_of <;> omega) | skip)
    (refine AskI.ret (hf (L.s.ks.getD i default)) ?_; simp only [go_sem]; (repeat' with_reducible apply And.intro); all_goals first | (with_reducible first | refine OkW.mk ?_ | refine EndW.mk ?_ | apply AskI.id | apply AskGI.id) | (with_reducible apply KOt.mk; kernel_rfl) | exact trivial | rfl | omega | ((try intro _); first | apply R64 <;> omega | apply room_of <;> omega) | skip)
    (refine AskGI.ret (fun _ => c87 L hfine _ (hL.ks _ (getD_mem hi))) ?_; simp only [go_sem]; (repeat' with_reducible apply And.intro); all_goals first | (with_reducible first | refine OkW.mk ?_ | refine EndW.mk ?_ | apply AskI.id | apply AskGI.id) | (with_reducible apply KOt.mk; kernel_rfl) | exact trivial | rfl | omega | ((try intro _); first | apply R64 <;> omega | apply room_of <;> omega) | skip)
    refine Ok.cond rfl ?_ ?_
    · intro hb
      have hF : faultL L n q = some (1, (i : Int)) := by
        unfold faultL; rw [fx_at hi (by simpa using hb) h0]
      rw [hF]
      ((first | refine Ok.seqF rfl rfl ?_ | refine Ok.seqT rfl rfl ?_ | refine Ok.regF rfl rfl ?_ | refine Ok.regT rfl rfl ?_); simp only [go_sem]; (repeat' with_reducible apply And.intro); all_goals first | (with_reducible first | refine OkW.mk ?_ | refine EndW.mk ?_ | apply AskI.id | apply AskGI.id) | (with_reducible apply KOt.mk; kernel_rfl) | exact trivial | rfl | omega | ((try intro _); first | apply R64 <;> omega | apply room_of <;> omega) | skip)
      (refine Ok.ret ?_; (try dsimp only [thenK, blockK, noGotoK]); simp only [toList_mk, List.toList_toArray, retK_ret, retK_normal, resOK, resV, celV, rowV, frzAll, frzT, subV, subL, go_sem])
      (repeat' with_reducible apply And.intro) <;> exact DEq.refl _
    · intro hb
      (refine Ok.skip ?_; (try dsimp only [thenK, blockK, noGotoK]))
      ((first | refine Ok.seqF rfl rfl ?_ | refine Ok.seqT rfl rfl ?_ | refine Ok.regF rfl rfl ?_ | refine Ok.regT rfl rfl ?_); simp only [go_sem]; (repeat' with_reducible apply And.intro); all_goals first | (with_reducible first | refine OkW.mk ?_ | refine EndW.mk ?_ | apply AskI.id | apply AskGI.id) | (with_reducible apply KOt.mk; kernel_rfl) | exact trivial | rfl | omega | ((try intro _); first | apply R64 <;> omega | apply room_of <;> omega) | skip)
      (try dsimp only [thenK, blockK, noGotoK])
      refine ⟨no_step hi h0 (by simpa using hb), ?_⟩
      (refine Sub.of ([0, 1]) ([]) ?_ ?_ ?_ rfl rfl <;> simp only [subB, subB1, subT, subT1, newT, subE, subV, subL, go_sem] <;> (try (repeat' with_reducible apply And.intro)) <;> (try first | exact DEq.refl _ | refine DEq.int ?_ | refine DEq.bool ?_ | omega))
  intro h0
  have hk : L.s.ks.findIdx? (fun k => q k && hides L k) = none := fx_no (fun k hk => h0 k (by simpa using hk))
  ((first | refine Ok.seqF rfl rfl ?_ | refine Ok.seqT rfl rfl ?_ | refine Ok.regF rfl rfl ?_ | refine Ok.regT rfl rfl ?_); simp only [go_sem]; (repeat' with_reducible apply And.intro); all_goals first | (with_reducible first | refine OkW.mk ?_ | refine EndW.mk ?_ | apply AskI.id | apply AskGI.id) | (with_reducible apply KOt.mk; kernel_rfl) | exact trivial | rfl | omega | ((try intro _); first | apply R64 <;> omega | apply room_of <;> omega) | skip)
  refine Ok.seq ?_
  refine Ok.cond rfl (fun hb => by simp at hb) (fun _ => ?_)
  (refine Ok.exit ?_; simp only [thenK_exit, blockK_exit, noGotoK_exit, thenK_normal, blockK_normal, noGotoK_normal, ↓reduceIte, Nat.reduceEqDiff])
  refine Ok.seq ?_
  ((first | refine Ok.seqF rfl rfl ?_ | refine Ok.seqT rfl rfl ?_ | refine Ok.regF rfl rfl ?_ | refine Ok.regT rfl rfl ?_); simp only [go_sem]; (repeat' with_reducible apply And.intro); all_goals first | (with_reducible first | refine OkW.mk ?_ | refine EndW.mk ?_ | apply AskI.id | apply AskGI.id) | (with_reducible apply KOt.mk; kernel_rfl) | exact trivial | rfl | omega | ((try intro _); first | apply R64 <;> omega | apply room_of <;> omega) | skip)
  (refine AskI.ret (c120) ?_; simp only [go_sem]; (repeat' with_reducible apply And.intro); all_goals first | (with_reducible first | refine OkW.mk ?_ | refine EndW.mk ?_ | apply AskI.id | apply AskGI.id) | (with_reducible apply KOt.mk; kernel_rfl) | exact trivial | rfl | omega | ((try intro _); first | apply R64 <;> omega | apply room_of <;> omega) | skip)
  refine Ok.block ?_
  refine Ok.rounds 5 (OkN.round ?_)
  ((first | refine Ok.seqF rfl rfl ?_ | refine Ok.seqT rfl rfl ?_ | refine Ok.regF rfl rfl ?_ | refine Ok.regT rfl rfl ?_); simp only [go_sem]; (repeat' with_reducible apply And.intro); all_goals first | (with_reducible first | refine OkW.mk ?_ | refine EndW.mk ?_ | apply AskI.id | apply AskGI.id) | (with_reducible apply KOt.mk; kernel_rfl) | exact trivial | rfl | omega | ((try intro _); first | apply R64 <;> omega | apply room_of <;> omega) | skip)
  refine Ok.seq ?_
  refine Ok.cond (b := true) (by first | rfl | (simp only [go_sem]; rfl)) (fun _ => ?_) (fun hb => by cases hb)
  (refine Ok.skip ?_; (try dsimp only [thenK, blockK, noGotoK]))
  refine Ok.seq ?_
  refine Ok.block ?_
  ((first | refine Ok.seqF rfl rfl ?_ | refine Ok.seqT rfl rfl ?_ | refine Ok.regF rfl rfl ?_ | refine Ok.regT rfl rfl ?_); simp only [go_sem]; (repeat' with_reducible apply And.intro); all_goals first | (with_reducible first | refine OkW.mk ?_ | refine EndW.mk ?_ | apply AskI.id | apply AskGI.id) | (with_reducible apply KOt.mk; kernel_rfl) | exact trivial | rfl | omega | ((try intro _); first | apply R64 <;> omega | apply room_of <;> omega) | skip)
  refine Ok.scope ?_
  refine Ok.seq ?_
  refine Ok.label ?_
  (try dsimp only [thenK, blockK, noGotoK])
  refine Ok.seq ?_
  ((first | refine Ok.seqF rfl rfl ?_ | refine Ok.seqT rfl rfl ?_ | refine Ok.regF rfl rfl ?_ | refine Ok.regT rfl rfl ?_); simp only [go_sem]; (repeat' with_reducible apply And.intro); all_goals first | (with_reducible first | refine OkW.mk ?_ | refine EndW.mk ?_ | apply AskI.id | apply AskGI.id) | (with_reducible apply KOt.mk; kernel_rfl) | exact trivial | rfl | omega | ((try intro _); first | apply R64 <;> omega | apply room_of <;> omega) | skip)
  refine Ok.block ?_
  refine Ok.count L.b.ls.length (fun i => ⟨[(1, iS n), (3, .p 0 0), (6, .p 1 0), (7, bS false), (10, iS 0), (11, .d (cl0 141)), (34, mustV), (35, iS 0), (41, .d (slD 4 letD L.b.ls)), (42, iS L.b.ls.length), (43, iS i)], [{ frz := false, xs := [iS L.s.len, iS L.s.wid, iS L.s.el, iS L.s.eh, iS L.s.ll, iS L.s.lh, .d (slD 2 boaD L.s.bs), .d (slD 5 bloD L.s.ks), iS L.b.at_, .d (slD 4 letD L.b.ls), iS L.p.al, iS L.p.ac] }, { frz := false, xs := [iS 0, iS 0] }], []⟩) (fun i => ∀ x ∈ L.b.ls.take i, (!tall L x n) = false) ⟨fun x hx => by simp at hx, ?_⟩ ?_ ?_
  · (refine Sub.of ([0, 1]) ([]) ?_ ?_ ?_ rfl rfl <;> simp only [subB, subB1, subT, subT1, newT, subE, subV, subL, go_sem] <;> (try (repeat' with_reducible apply And.intro)) <;> (try first | exact DEq.refl _ | refine DEq.int ?_ | refine DEq.bool ?_ | omega))
  · intro i hi h0
    ((first | refine Ok.seqF rfl rfl ?_ | refine Ok.seqT rfl rfl ?_ | refine Ok.regF rfl rfl ?_ | refine Ok.regT rfl rfl ?_); simp only [go_sem]; (repeat' with_reducible apply And.intro); all_goals first | (with_reducible first | refine OkW.mk ?_ | refine EndW.mk ?_ | apply AskI.id | apply AskGI.id) | (with_reducible apply KOt.mk; kernel_rfl) | exact trivial | rfl | omega | ((try intro _); first | apply R64 <;> omega | apply room_of <;> omega) | skip)
    refine Ok.seq ?_
    refine Ok.cond rfl (fun _ => ?_) (fun hb => by simp at hb; omega)
    (refine Ok.skip ?_; (try dsimp only [thenK, blockK, noGotoK]))
    refine Ok.seq ?_
    refine Ok.block ?_
    ((first | refine Ok.seqF rfl rfl ?_ | refine Ok.seqT rfl rfl ?_ | refine Ok.regF rfl rfl ?_ | refine Ok.regT rfl rfl ?_); simp only [go_sem]; (repeat' with_reducible apply And.intro); all_goals first | (with_reducible first | refine OkW.mk ?_ | refine EndW.mk ?_ | apply AskI.id | apply AskGI.id) | (with_reducible apply KOt.mk; kernel_rfl) | exact trivial | rfl | omega | ((try intro _); first | apply R64 <;> omega | apply room_of <;> omega) | skip)
    refine Ok.seq ?_
    ((first | refine Ok.seqF rfl rfl ?_ | refine Ok.seqT rfl rfl ?_ | refine Ok.regF rfl rfl ?_ | refine Ok.regT rfl rfl ?_); simp only [go_sem]; (repeat' with_reducible apply And.intro); all_goals first | (with_reducible first | refine OkW.mk ?_ | refine EndW.mk ?_ | apply AskI.id | apply AskGI.id) | (with_reducible apply KOt.mk; kernel_rfl) | exact trivial | rfl | omega | ((try intro _); first | apply R64 <;> omega | apply room_of <;> omega) | skip)
    refine Ok.cond (b := false) (by first | rfl | (simp only [go_sem]; rfl)) (fun hb => by cases hb) (fun _ => ?_)
    (refine Ok.skip ?_; (try dsimp only [thenK, blockK, noGotoK]))
    ((first | refine Ok.seqF rfl rfl ?_ | refine Ok.seqT rfl rfl ?_ | refine Ok.regF rfl rfl ?_ | refine Ok.regT rfl rfl ?_); simp only [go_sem]; (repeat' with_reducible apply And.intro); all_goals first | (with_reducible first | refine OkW.mk ?_ | refine EndW.mk ?_ | apply AskI.id | apply AskGI.id) | (with_reducible apply KOt.mk; kernel_rfl) | exact trivial | rfl | omega | ((try intro _); first | apply R64 <;> omega | apply room_of <;> omega) | skip)
    (refine AskI.ret (c141 L hfine _ (hL.ls _ (getD_mem hi)) n hn0 hn1) ?_; simp only [go_sem]; (repeat' with_reducible apply And.intro); all_goals first | (with_reducible first | refine OkW.mk ?_ | refine EndW.mk ?_ | apply AskI.id | apply AskGI.id) | (with_reducible apply KOt.mk; kernel_rfl) | exact trivial | rfl | omega | ((try intro _); first | apply R64 <;> omega | apply room_of <;> omega) | skip)
    refine Ok.cond rfl ?_ ?_
    · intro hb
      have hF : faultL L n q = some (2, (i : Int)) := by
        unfold faultL; simp only [hk]; rw [fx_at hi (by simpa using hb) h0]
      rw [hF]
      ((first | refine Ok.seqF rfl rfl ?_ | refine Ok.seqT rfl rfl ?_ | refine Ok.regF rfl rfl ?_ | refine Ok.regT rfl rfl ?_); simp only [go_sem]; (repeat' with_reducible apply And.intro); all_goals first | (with_reducible first | refine OkW.mk ?_ | refine EndW.mk ?_ | apply AskI.id | apply AskGI.id) | (with_reducible apply KOt.mk; kernel_rfl) | exact trivial | rfl | omega | ((try intro _); first | apply R64 <;> omega | apply room_of <;> omega) | skip)
      (refine Ok.ret ?_; (try dsimp only [thenK, blockK, noGotoK]); simp only [toList_mk, List.toList_toArray, retK_ret, retK_normal, resOK, resV, celV, rowV, frzAll, frzT, subV, subL, go_sem])
      (repeat' with_reducible apply And.intro) <;> exact DEq.refl _
    · intro hb
      (refine Ok.skip ?_; (try dsimp only [thenK, blockK, noGotoK]))
      ((first | refine Ok.seqF rfl rfl ?_ | refine Ok.seqT rfl rfl ?_ | refine Ok.regF rfl rfl ?_ | refine Ok.regT rfl rfl ?_); simp only [go_sem]; (repeat' with_reducible apply And.intro); all_goals first | (with_reducible first | refine OkW.mk ?_ | refine EndW.mk ?_ | apply AskI.id | apply AskGI.id) | (with_reducible apply KOt.mk; kernel_rfl) | exact trivial | rfl | omega | ((try intro _); first | apply R64 <;> omega | apply room_of <;> omega) | skip)
      (try dsimp only [thenK, blockK, noGotoK])
      refine ⟨no_step hi h0 (by simpa using hb), ?_⟩
      (refine Sub.of ([0, 1]) ([]) ?_ ?_ ?_ rfl rfl <;> simp only [subB, subB1, subT, subT1, newT, subE, subV, subL, go_sem] <;> (try (repeat' with_reducible apply And.intro)) <;> (try first | exact DEq.refl _ | refine DEq.int ?_ | refine DEq.bool ?_ | omega))
  intro h0
  have g0 : L.b.ls.findIdx? (fun x => !tall L x n) = none := fx_no (fun k hk => h0 k (by simpa using hk))
  ((first | refine Ok.seqF rfl rfl ?_ | refine Ok.seqT rfl rfl ?_ | refine Ok.regF rfl rfl ?_ | refine Ok.regT rfl rfl ?_); simp only [go_sem]; (repeat' with_reducible apply And.intro); all_goals first | (with_reducible first | refine OkW.mk ?_ | refine EndW.mk ?_ | apply AskI.id | apply AskGI.id) | (with_reducible apply KOt.mk; kernel_rfl) | exact trivial | rfl | omega | ((try intro _); first | apply R64 <;> omega | apply room_of <;> omega) | skip)
  refine Ok.seq ?_
  refine Ok.cond rfl (fun hb => by simp at hb) (fun _ => ?_)
  (refine Ok.exit ?_; simp only [thenK_exit, blockK_exit, noGotoK_exit, thenK_normal, blockK_normal, noGotoK_normal, ↓reduceIte, Nat.reduceEqDiff])
  ((first | refine Ok.seqF rfl rfl ?_ | refine Ok.seqT rfl rfl ?_ | refine Ok.regF rfl rfl ?_ | refine Ok.regT rfl rfl ?_); simp only [go_sem]; (repeat' with_reducible apply And.intro); all_goals first | (with_reducible first | refine OkW.mk ?_ | refine EndW.mk ?_ | apply AskI.id | apply AskGI.id) | (with_reducible apply KOt.mk; kernel_rfl) | exact trivial | rfl | omega | ((try intro _); first | apply R64 <;> omega | apply room_of <;> omega) | skip)
  (try dsimp only [thenK, blockK, noGotoK])
  refine OkN.round ?_
  ((first | refine Ok.seqF rfl rfl ?_ | refine Ok.seqT rfl rfl ?_ | refine Ok.regF rfl rfl ?_ | refine Ok.regT rfl rfl ?_); simp only [go_sem]; (repeat' with_reducible apply And.intro); all_goals first | (with_reducible first | refine OkW.mk ?_ | refine EndW.mk ?_ | apply AskI.id | apply AskGI.id) | (with_reducible apply KOt.mk; kernel_rfl) | exact trivial | rfl | omega | ((try intro _); first | apply R64 <;> omega | apply room_of <;> omega) | skip)
  refine Ok.seq ?_
  refine Ok.cond (b := true) (by first | rfl | (simp only [go_sem]; rfl)) (fun _ => ?_) (fun hb => by cases hb)
  (refine Ok.skip ?_; (try dsimp only [thenK, blockK, noGotoK]))
  refine Ok.seq ?_
  refine Ok.block ?_
  ((first | refine Ok.seqF rfl rfl ?_ | refine Ok.seqT rfl rfl ?_ | refine Ok.regF rfl rfl ?_ | refine Ok.regT rfl rfl ?_); simp only [go_sem]; (repeat' with_reducible apply And.intro); all_goals first | (with_reducible first | refine OkW.mk ?_ | refine EndW.mk ?_ | apply AskI.id | apply AskGI.id) | (with_reducible apply KOt.mk; kernel_rfl) | exact trivial | rfl | omega | ((try intro _); first | apply R64 <;> omega | apply room_of <;> omega) | skip)
  refine Ok.scope ?_
  refine Ok.seq ?_
  refine Ok.label ?_
  (try dsimp only [thenK, blockK, noGotoK])
  refine Ok.seq ?_
  ((first | refine Ok.seqF rfl rfl ?_ | refine Ok.seqT rfl rfl ?_ | refine Ok.regF rfl rfl ?_ | refine Ok.regT rfl rfl ?_); simp only [go_sem]; (repeat' with_reducible apply And.intro); all_goals first | (with_reducible first | refine OkW.mk ?_ | refine EndW.mk ?_ | apply AskI.id | apply AskGI.id) | (with_reducible apply KOt.mk; kernel_rfl) | exact trivial | rfl | omega | ((try intro _); first | apply R64 <;> omega | apply room_of <;> omega) | skip)
  refine Ok.block ?_
  refine Ok.count L.b.ls.length (fun i => ⟨[(1, iS n), (3, .p 0 0), (6, .p 1 0), (7, bS false), (10, iS 1), (11, .d (cl0 142)), (34, mustV), (35, iS 1), (41, .d (slD 4 letD L.b.ls)), (42, iS L.b.ls.length), (43, iS i)], [{ frz := false, xs := [iS L.s.len, iS L.s.wid, iS L.s.el, iS L.s.eh, iS L.s.ll, iS L.s.lh, .d (slD 2 boaD L.s.bs), .d (slD 5 bloD L.s.ks), iS L.b.at_, .d (slD 4 letD L.b.ls), iS L.p.al, iS L.p.ac] }, { frz := false, xs := [iS 0, iS 0] }], []⟩) (fun i => ∀ x ∈ L.b.ls.take i, (!broad L x n) = false) ⟨fun x hx => by simp at hx, ?_⟩ ?_ ?_
  · (refine Sub.of ([0, 1]) ([]) ?_ ?_ ?_ rfl rfl <;> simp only [subB, subB1, subT, subT1, newT, subE, subV, subL, go_sem] <;> (try (repeat' with_reducible apply And.intro)) <;> (try first | exact DEq.refl _ | refine DEq.int ?_ | refine DEq.bool ?_ | omega))
  · intro i hi h0
    ((first | refine Ok.seqF rfl rfl ?_ | refine Ok.seqT rfl rfl ?_ | refine Ok.regF rfl rfl ?_ | refine Ok.regT rfl rfl ?_); simp only [go_sem]; (repeat' with_reducible apply And.intro); all_goals first | (with_reducible first | refine OkW.mk ?_ | refine EndW.mk ?_ | apply AskI.id | apply AskGI.id) | (with_reducible apply KOt.mk; kernel_rfl) | exact trivial | rfl | omega | ((try intro _); first | apply R64 <;> omega | apply room_of <;> omega) | skip)
    refine Ok.seq ?_
    refine Ok.cond rfl (fun _ => ?_) (fun hb => by simp at hb; omega)
    (refine Ok.skip ?_; (try dsimp only [thenK, blockK, noGotoK]))
    refine Ok.seq ?_
    refine Ok.block ?_
    ((first | refine Ok.seqF rfl rfl ?_ | refine Ok.seqT rfl rfl ?_ | refine Ok.regF rfl rfl ?_ | refine Ok.regT rfl rfl ?_); simp only [go_sem]; (repeat' with_reducible apply And.intro); all_goals first | (with_reducible first | refine OkW.mk ?_ | refine EndW.mk ?_ | apply AskI.id | apply AskGI.id) | (with_reducible apply KOt.mk; kernel_rfl) | exact trivial | rfl | omega | ((try intro _); first | apply R64 <;> omega | apply room_of <;> omega) | skip)
    refine Ok.seq ?_
    ((first | refine Ok.seqF rfl rfl ?_ | refine Ok.seqT rfl rfl ?_ | refine Ok.regF rfl rfl ?_ | refine Ok.regT rfl rfl ?_); simp only [go_sem]; (repeat' with_reducible apply And.intro); all_goals first | (with_reducible first | refine OkW.mk ?_ | refine EndW.mk ?_ | apply AskI.id | apply AskGI.id) | (with_reducible apply KOt.mk; kernel_rfl) | exact trivial | rfl | omega | ((try intro _); first | apply R64 <;> omega | apply room_of <;> omega) | skip)
    refine Ok.cond (b := false) (by first | rfl | (simp only [go_sem]; rfl)) (fun hb => by cases hb) (fun _ => ?_)
    (refine Ok.skip ?_; (try dsimp only [thenK, blockK, noGotoK]))
    ((first | refine Ok.seqF rfl rfl ?_ | refine Ok.seqT rfl rfl ?_ | refine Ok.regF rfl rfl ?_ | refine Ok.regT rfl rfl ?_); simp only [go_sem]; (repeat' with_reducible apply And.intro); all_goals first | (with_reducible first | refine OkW.mk ?_ | refine EndW.mk ?_ | apply AskI.id | apply AskGI.id) | (with_reducible apply KOt.mk; kernel_rfl) | exact trivial | rfl | omega | ((try intro _); first | apply R64 <;> omega | apply room_of <;> omega) | skip)
    (refine AskI.ret (c142 L hfine _ (hL.ls _ (getD_mem hi)) n hn0 hn1) ?_; simp only [go_sem]; (repeat' with_reducible apply And.intro); all_goals first | (with_reducible first | refine OkW.mk ?_ | refine EndW.mk ?_ | apply AskI.id | apply AskGI.id) | (with_reducible apply KOt.mk; kernel_rfl) | exact trivial | rfl | omega | ((try intro _); first | apply R64 <;> omega | apply room_of <;> omega) | skip)
    refine Ok.cond rfl ?_ ?_
    · intro hb
      have hF : faultL L n q = some (3, (i : Int)) := by
        unfold faultL; simp only [hk, g0]; rw [fx_at hi (by simpa using hb) h0]
      rw [hF]
      ((first | refine Ok.seqF rfl rfl ?_ | refine Ok.seqT rfl rfl ?_ | refine Ok.regF rfl rfl ?_ | refine Ok.regT rfl rfl ?_); simp only [go_sem]; (repeat' with_reducible apply And.intro); all_goals first | (with_reducible first | refine OkW.mk ?_ | refine EndW.mk ?_ | apply AskI.id | apply AskGI.id) | (with_reducible apply KOt.mk; kernel_rfl) | exact trivial | rfl | omega | ((try intro _); first | apply R64 <;> omega | apply room_of <;> omega) | skip)
      (refine Ok.ret ?_; (try dsimp only [thenK, blockK, noGotoK]); simp only [toList_mk, List.toList_toArray, retK_ret, retK_normal, resOK, resV, celV, rowV, frzAll, frzT, subV, subL, go_sem])
      (repeat' with_reducible apply And.intro) <;> exact DEq.refl _
    · intro hb
      (refine Ok.skip ?_; (try dsimp only [thenK, blockK, noGotoK]))
      ((first | refine Ok.seqF rfl rfl ?_ | refine Ok.seqT rfl rfl ?_ | refine Ok.regF rfl rfl ?_ | refine Ok.regT rfl rfl ?_); simp only [go_sem]; (repeat' with_reducible apply And.intro); all_goals first | (with_reducible first | refine OkW.mk ?_ | refine EndW.mk ?_ | apply AskI.id | apply AskGI.id) | (with_reducible apply KOt.mk; kernel_rfl) | exact trivial | rfl | omega | ((try intro _); first | apply R64 <;> omega | apply room_of <;> omega) | skip)
      (try dsimp only [thenK, blockK, noGotoK])
      refine ⟨no_step hi h0 (by simpa using hb), ?_⟩
      (refine Sub.of ([0, 1]) ([]) ?_ ?_ ?_ rfl rfl <;> simp only [subB, subB1, subT, subT1, newT, subE, subV, subL, go_sem] <;> (try (repeat' with_reducible apply And.intro)) <;> (try first | exact DEq.refl _ | refine DEq.int ?_ | refine DEq.bool ?_ | omega))
  intro h0
  have g1 : L.b.ls.findIdx? (fun x => !broad L x n) = none := fx_no (fun k hk => h0 k (by simpa using hk))
  ((first | refine Ok.seqF rfl rfl ?_ | refine Ok.seqT rfl rfl ?_ | refine Ok.regF rfl rfl ?_ | refine Ok.regT rfl rfl ?_); simp only [go_sem]; (repeat' with_reducible apply And.intro); all_goals first | (with_reducible first | refine OkW.mk ?_ | refine EndW.mk ?_ | apply AskI.id | apply AskGI.id) | (with_reducible apply KOt.mk; kernel_rfl) | exact trivial | rfl | omega | ((try intro _); first | apply R64 <;> omega | apply room_of <;> omega) | skip)
  refine Ok.seq ?_
  refine Ok.cond rfl (fun hb => by simp at hb) (fun _ => ?_)
  (refine Ok.exit ?_; simp only [thenK_exit, blockK_exit, noGotoK_exit, thenK_normal, blockK_normal, noGotoK_normal, ↓reduceIte, Nat.reduceEqDiff])
  ((first | refine Ok.seqF rfl rfl ?_ | refine Ok.seqT rfl rfl ?_ | refine Ok.regF rfl rfl ?_ | refine Ok.regT rfl rfl ?_); simp only [go_sem]; (repeat' with_reducible apply And.intro); all_goals first | (with_reducible first | refine OkW.mk ?_ | refine EndW.mk ?_ | apply AskI.id | apply AskGI.id) | (with_reducible apply KOt.mk; kernel_rfl) | exact trivial | rfl | omega | ((try intro _); first | apply R64 <;> omega | apply room_of <;> omega) | skip)
  (try dsimp only [thenK, blockK, noGotoK])
  refine OkN.round ?_
  ((first | refine Ok.seqF rfl rfl ?_ | refine Ok.seqT rfl rfl ?_ | refine Ok.regF rfl rfl ?_ | refine Ok.regT rfl rfl ?_); simp only [go_sem]; (repeat' with_reducible apply And.intro); all_goals first | (with_reducible first | refine OkW.mk ?_ | refine EndW.mk ?_ | apply AskI.id | apply AskGI.id) | (with_reducible apply KOt.mk; kernel_rfl) | exact trivial | rfl | omega | ((try intro _); first | apply R64 <;> omega | apply room_of <;> omega) | skip)
  refine Ok.seq ?_
  refine Ok.cond (b := true) (by first | rfl | (simp only [go_sem]; rfl)) (fun _ => ?_) (fun hb => by cases hb)
  (refine Ok.skip ?_; (try dsimp only [thenK, blockK, noGotoK]))
  refine Ok.seq ?_
  refine Ok.block ?_
  ((first | refine Ok.seqF rfl rfl ?_ | refine Ok.seqT rfl rfl ?_ | refine Ok.regF rfl rfl ?_ | refine Ok.regT rfl rfl ?_); simp only [go_sem]; (repeat' with_reducible apply And.intro); all_goals first | (with_reducible first | refine OkW.mk ?_ | refine EndW.mk ?_ | apply AskI.id | apply AskGI.id) | (with_reducible apply KOt.mk; kernel_rfl) | exact trivial | rfl | omega | ((try intro _); first | apply R64 <;> omega | apply room_of <;> omega) | skip)
  refine Ok.scope ?_
  refine Ok.seq ?_
  refine Ok.label ?_
  (try dsimp only [thenK, blockK, noGotoK])
  refine Ok.seq ?_
  ((first | refine Ok.seqF rfl rfl ?_ | refine Ok.seqT rfl rfl ?_ | refine Ok.regF rfl rfl ?_ | refine Ok.regT rfl rfl ?_); simp only [go_sem]; (repeat' with_reducible apply And.intro); all_goals first | (with_reducible first | refine OkW.mk ?_ | refine EndW.mk ?_ | apply AskI.id | apply AskGI.id) | (with_reducible apply KOt.mk; kernel_rfl) | exact trivial | rfl | omega | ((try intro _); first | apply R64 <;> omega | apply room_of <;> omega) | skip)
  refine Ok.block ?_
  refine Ok.count L.b.ls.length (fun i => ⟨[(1, iS n), (3, .p 0 0), (6, .p 1 0), (7, bS false), (10, iS 2), (11, .d (cl0 143)), (34, mustV), (35, iS 2), (41, .d (slD 4 letD L.b.ls)), (42, iS L.b.ls.length), (43, iS i)], [{ frz := false, xs := [iS L.s.len, iS L.s.wid, iS L.s.el, iS L.s.eh, iS L.s.ll, iS L.s.lh, .d (slD 2 boaD L.s.bs), .d (slD 5 bloD L.s.ks), iS L.b.at_, .d (slD 4 letD L.b.ls), iS L.p.al, iS L.p.ac] }, { frz := false, xs := [iS 0, iS 0] }], []⟩) (fun i => ∀ x ∈ L.b.ls.take i, (!thick L x n) = false) ⟨fun x hx => by simp at hx, ?_⟩ ?_ ?_
  · (refine Sub.of ([0, 1]) ([]) ?_ ?_ ?_ rfl rfl <;> simp only [subB, subB1, subT, subT1, newT, subE, subV, subL, go_sem] <;> (try (repeat' with_reducible apply And.intro)) <;> (try first | exact DEq.refl _ | refine DEq.int ?_ | refine DEq.bool ?_ | omega))
  · intro i hi h0
    ((first | refine Ok.seqF rfl rfl ?_ | refine Ok.seqT rfl rfl ?_ | refine Ok.regF rfl rfl ?_ | refine Ok.regT rfl rfl ?_); simp only [go_sem]; (repeat' with_reducible apply And.intro); all_goals first | (with_reducible first | refine OkW.mk ?_ | refine EndW.mk ?_ | apply AskI.id | apply AskGI.id) | (with_reducible apply KOt.mk; kernel_rfl) | exact trivial | rfl | omega | ((try intro _); first | apply R64 <;> omega | apply room_of <;> omega) | skip)
    refine Ok.seq ?_
    refine Ok.cond rfl (fun _ => ?_) (fun hb => by simp at hb; omega)
    (refine Ok.skip ?_; (try dsimp only [thenK, blockK, noGotoK]))
    refine Ok.seq ?_
    refine Ok.block ?_
    ((first | refine Ok.seqF rfl rfl ?_ | refine Ok.seqT rfl rfl ?_ | refine Ok.regF rfl rfl ?_ | refine Ok.regT rfl rfl ?_); simp only [go_sem]; (repeat' with_reducible apply And.intro); all_goals first | (with_reducible first | refine OkW.mk ?_ | refine EndW.mk ?_ | apply AskI.id | apply AskGI.id) | (with_reducible apply KOt.mk; kernel_rfl) | exact trivial | rfl | omega | ((try intro _); first | apply R64 <;> omega | apply room_of <;> omega) | skip)
    refine Ok.seq ?_
    ((first | refine Ok.seqF rfl rfl ?_ | refine Ok.seqT rfl rfl ?_ | refine Ok.regF rfl rfl ?_ | refine Ok.regT rfl rfl ?_); simp only [go_sem]; (repeat' with_reducible apply And.intro); all_goals first | (with_reducible first | refine OkW.mk ?_ | refine EndW.mk ?_ | apply AskI.id | apply AskGI.id) | (with_reducible apply KOt.mk; kernel_rfl) | exact trivial | rfl | omega | ((try intro _); first | apply R64 <;> omega | apply room_of <;> omega) | skip)
    refine Ok.cond (b := false) (by first | rfl | (simp only [go_sem]; rfl)) (fun hb => by cases hb) (fun _ => ?_)
    (refine Ok.skip ?_; (try dsimp only [thenK, blockK, noGotoK]))
    ((first | refine Ok.seqF rfl rfl ?_ | refine Ok.seqT rfl rfl ?_ | refine Ok.regF rfl rfl ?_ | refine Ok.regT rfl rfl ?_); simp only [go_sem]; (repeat' with_reducible apply And.intro); all_goals first | (with_reducible first | refine OkW.mk ?_ | refine EndW.mk ?_ | apply AskI.id | apply AskGI.id) | (with_reducible apply KOt.mk; kernel_rfl) | exact trivial | rfl | omega | ((try intro _); first | apply R64 <;> omega | apply room_of <;> omega) | skip)
    (refine AskI.ret (c143 L hfine _ (hL.ls _ (getD_mem hi)) n hn0 hn1) ?_; simp only [go_sem]; (repeat' with_reducible apply And.intro); all_goals first | (with_reducible first | refine OkW.mk ?_ | refine EndW.mk ?_ | apply AskI.id | apply AskGI.id) | (with_reducible apply KOt.mk; kernel_rfl) | exact trivial | rfl | omega | ((try intro _); first | apply R64 <;> omega | apply room_of <;> omega) | skip)
    refine Ok.cond rfl ?_ ?_
    · intro hb
      have hF : faultL L n q = some (4, (i : Int)) := by
        unfold faultL; simp only [hk, g0, g1]; rw [fx_at hi (by simpa using hb) h0]
      rw [hF]
      ((first | refine Ok.seqF rfl rfl ?_ | refine Ok.seqT rfl rfl ?_ | refine Ok.regF rfl rfl ?_ | refine Ok.regT rfl rfl ?_); simp only [go_sem]; (repeat' with_reducible apply And.intro); all_goals first | (with_reducible first | refine OkW.mk ?_ | refine EndW.mk ?_ | apply AskI.id | apply AskGI.id) | (with_reducible apply KOt.mk; kernel_rfl) | exact trivial | rfl | omega | ((try intro _); first | apply R64 <;> omega | apply room_of <;> omega) | skip)
      (refine Ok.ret ?_; (try dsimp only [thenK, blockK, noGotoK]); simp only [toList_mk, List.toList_toArray, retK_ret, retK_normal, resOK, resV, celV, rowV, frzAll, frzT, subV, subL, go_sem])
      (repeat' with_reducible apply And.intro) <;> exact DEq.refl _
    · intro hb
      (refine Ok.skip ?_; (try dsimp only [thenK, blockK, noGotoK]))
      ((first | refine Ok.seqF rfl rfl ?_ | refine Ok.seqT rfl rfl ?_ | refine Ok.regF rfl rfl ?_ | refine Ok.regT rfl rfl ?_); simp only [go_sem]; (repeat' with_reducible apply And.intro); all_goals first | (with_reducible first | refine OkW.mk ?_ | refine EndW.mk ?_ | apply AskI.id | apply AskGI.id) | (with_reducible apply KOt.mk; kernel_rfl) | exact trivial | rfl | omega | ((try intro _); first | apply R64 <;> omega | apply room_of <;> omega) | skip)
      (try dsimp only [thenK, blockK, noGotoK])
      refine ⟨no_step hi h0 (by simpa using hb), ?_⟩
      (refine Sub.of ([0, 1]) ([]) ?_ ?_ ?_ rfl rfl <;> simp only [subB, subB1, subT, subT1, newT, subE, subV, subL, go_sem] <;> (try (repeat' with_reducible apply And.intro)) <;> (try first | exact DEq.refl _ | refine DEq.int ?_ | refine DEq.bool ?_ | omega))
  intro h0
  have g2 : L.b.ls.findIdx? (fun x => !thick L x n) = none := fx_no (fun k hk => h0 k (by simpa using hk))
  ((first | refine Ok.seqF rfl rfl ?_ | refine Ok.seqT rfl rfl ?_ | refine Ok.regF rfl rfl ?_ | refine Ok.regT rfl rfl ?_); simp only [go_sem]; (repeat' with_reducible apply And.intro); all_goals first | (with_reducible first | refine OkW.mk ?_ | refine EndW.mk ?_ | apply AskI.id | apply AskGI.id) | (with_reducible apply KOt.mk; kernel_rfl) | exact trivial | rfl | omega | ((try intro _); first | apply R64 <;> omega | apply room_of <;> omega) | skip)
  refine Ok.seq ?_
  refine Ok.cond rfl (fun hb => by simp at hb) (fun _ => ?_)
  (refine Ok.exit ?_; simp only [thenK_exit, blockK_exit, noGotoK_exit, thenK_normal, blockK_normal, noGotoK_normal, ↓reduceIte, Nat.reduceEqDiff])
  ((first | refine Ok.seqF rfl rfl ?_ | refine Ok.seqT rfl rfl ?_ | refine Ok.regF rfl rfl ?_ | refine Ok.regT rfl rfl ?_); simp only [go_sem]; (repeat' with_reducible apply And.intro); all_goals first | (with_reducible first | refine OkW.mk ?_ | refine EndW.mk ?_ | apply AskI.id | apply AskGI.id) | (with_reducible apply KOt.mk; kernel_rfl) | exact trivial | rfl | omega | ((try intro _); first | apply R64 <;> omega | apply room_of <;> omega) | skip)
  (try dsimp only [thenK, blockK, noGotoK])
  refine OkN.round ?_
  ((first | refine Ok.seqF rfl rfl ?_ | refine Ok.seqT rfl rfl ?_ | refine Ok.regF rfl rfl ?_ | refine Ok.regT rfl rfl ?_); simp only [go_sem]; (repeat' with_reducible apply And.intro); all_goals first | (with_reducible first | refine OkW.mk ?_ | refine EndW.mk ?_ | apply AskI.id | apply AskGI.id) | (with_reducible apply KOt.mk; kernel_rfl) | exact trivial | rfl | omega | ((try intro _); first | apply R64 <;> omega | apply room_of <;> omega) | skip)
  refine Ok.seq ?_
  refine Ok.cond (b := true) (by first | rfl | (simp only [go_sem]; rfl)) (fun _ => ?_) (fun hb => by cases hb)
  (refine Ok.skip ?_; (try dsimp only [thenK, blockK, noGotoK]))
  refine Ok.seq ?_
  refine Ok.block ?_
  ((first | refine Ok.seqF rfl rfl ?_ | refine Ok.seqT rfl rfl ?_ | refine Ok.regF rfl rfl ?_ | refine Ok.regT rfl rfl ?_); simp only [go_sem]; (repeat' with_reducible apply And.intro); all_goals first | (with_reducible first | refine OkW.mk ?_ | refine EndW.mk ?_ | apply AskI.id | apply AskGI.id) | (with_reducible apply KOt.mk; kernel_rfl) | exact trivial | rfl | omega | ((try intro _); first | apply R64 <;> omega | apply room_of <;> omega) | skip)
  refine Ok.scope ?_
  refine Ok.seq ?_
  refine Ok.label ?_
  (try dsimp only [thenK, blockK, noGotoK])
  refine Ok.seq ?_
  ((first | refine Ok.seqF rfl rfl ?_ | refine Ok.seqT rfl rfl ?_ | refine Ok.regF rfl rfl ?_ | refine Ok.regT rfl rfl ?_); simp only [go_sem]; (repeat' with_reducible apply And.intro); all_goals first | (with_reducible first | refine OkW.mk ?_ | refine EndW.mk ?_ | apply AskI.id | apply AskGI.id) | (with_reducible apply KOt.mk; kernel_rfl) | exact trivial | rfl | omega | ((try intro _); first | apply R64 <;> omega | apply room_of <;> omega) | skip)
  refine Ok.block ?_
  refine Ok.count (L.b.ls.length - 1) (fun i => ⟨[(1, iS n), (3, .p 0 0), (6, .p 1 0), (7, bS false), (10, iS 3), (11, .d (cl0 86)), (34, mustV), (35, iS 3), (41, .d (slD 4 letD L.b.ls)), (42, iS L.b.ls.length), (43, iS i)], [{ frz := false, xs := [iS L.s.len, iS L.s.wid, iS L.s.el, iS L.s.eh, iS L.s.ll, iS L.s.lh, .d (slD 2 boaD L.s.bs), .d (slD 5 bloD L.s.ks), iS L.b.at_, .d (slD 4 letD L.b.ls), iS L.p.al, iS L.p.ac] }, { frz := false, xs := [iS 0, iS 0] }], []⟩) (fun i => ∀ x ∈ L.b.ls.take i, (!apart L x n) = false) ⟨fun x hx => by simp at hx, ?_⟩ ?_ ?_
  · (refine Sub.of ([0, 1]) ([]) ?_ ?_ ?_ rfl rfl <;> simp only [subB, subB1, subT, subT1, newT, subE, subV, subL, go_sem] <;> (try (repeat' with_reducible apply And.intro)) <;> (try first | exact DEq.refl _ | refine DEq.int ?_ | refine DEq.bool ?_ | omega))
  · intro i hi h0
    have hi' : i < L.b.ls.length := by omega
    have hlt : i < (L.b.ls.take (L.b.ls.length - 1)).length := by simp; omega
    have hge : (L.b.ls.take (L.b.ls.length - 1)).getD i default = L.b.ls.getD i default := by rw [getD_lt hlt, getD_lt hi']; simp
    have htk : (L.b.ls.take (L.b.ls.length - 1)).take i = L.b.ls.take i := by rw [List.take_take]; congr 1; omega
    ((first | refine Ok.seqF rfl rfl ?_ | refine Ok.seqT rfl rfl ?_ | refine Ok.regF rfl rfl ?_ | refine Ok.regT rfl rfl ?_); simp only [go_sem]; (repeat' with_reducible apply And.intro); all_goals first | (with_reducible first | refine OkW.mk ?_ | refine EndW.mk ?_ | apply AskI.id | apply AskGI.id) | (with_reducible apply KOt.mk; kernel_rfl) | exact trivial | rfl | omega | ((try intro _); first | apply R64 <;> omega | apply room_of <;> omega) | skip)
    refine Ok.seq ?_
    refine Ok.cond rfl (fun _ => ?_) (fun hb => by simp at hb; omega)
    (refine Ok.skip ?_; (try dsimp only [thenK, blockK, noGotoK]))
    refine Ok.seq ?_
    refine Ok.block ?_
    ((first | refine Ok.seqF rfl rfl ?_ | refine Ok.seqT rfl rfl ?_ | refine Ok.regF rfl rfl ?_ | refine Ok.regT rfl rfl ?_); simp only [go_sem]; (repeat' with_reducible apply And.intro); all_goals first | (with_reducible first | refine OkW.mk ?_ | refine EndW.mk ?_ | apply AskI.id | apply AskGI.id) | (with_reducible apply KOt.mk; kernel_rfl) | exact trivial | rfl | omega | ((try intro _); first | apply R64 <;> omega | apply room_of <;> omega) | skip)
    refine Ok.seq ?_
    ((first | refine Ok.seqF rfl rfl ?_ | refine Ok.seqT rfl rfl ?_ | refine Ok.regF rfl rfl ?_ | refine Ok.regT rfl rfl ?_); simp only [go_sem]; (repeat' with_reducible apply And.intro); all_goals first | (with_reducible first | refine OkW.mk ?_ | refine EndW.mk ?_ | apply AskI.id | apply AskGI.id) | (with_reducible apply KOt.mk; kernel_rfl) | exact trivial | rfl | omega | ((try intro _); first | apply R64 <;> omega | apply room_of <;> omega) | skip)
    refine Ok.cond rfl (fun hb => by simp at hb; omega) (fun _ => ?_)
    (refine Ok.skip ?_; (try dsimp only [thenK, blockK, noGotoK]))
    ((first | refine Ok.seqF rfl rfl ?_ | refine Ok.seqT rfl rfl ?_ | refine Ok.regF rfl rfl ?_ | refine Ok.regT rfl rfl ?_); simp only [go_sem]; (repeat' with_reducible apply And.intro); all_goals first | (with_reducible first | refine OkW.mk ?_ | refine EndW.mk ?_ | apply AskI.id | apply AskGI.id) | (with_reducible apply KOt.mk; kernel_rfl) | exact trivial | rfl | omega | ((try intro _); first | apply R64 <;> omega | apply room_of <;> omega) | skip)
    (refine AskI.ret (c86 L hfine _ (hL.ls _ (getD_mem hi')) n hn0 hn1) ?_; simp only [go_sem]; (repeat' with_reducible apply And.intro); all_goals first | (with_reducible first | refine OkW.mk ?_ | refine EndW.mk ?_ | apply AskI.id | apply AskGI.id) | (with_reducible apply KOt.mk; kernel_rfl) | exact trivial | rfl | omega | ((try intro _); first | apply R64 <;> omega | apply room_of <;> omega) | skip)
    refine Ok.cond rfl ?_ ?_
    · intro hb
      have hF : faultL L n q = some (5, (i : Int)) := by
        unfold faultL; simp only [hk, g0, g1, g2]; rw [fx_at hlt (by rw [hge]; simpa using hb) (by rw [htk]; exact h0)]
      rw [hF]
      ((first | refine Ok.seqF rfl rfl ?_ | refine Ok.seqT rfl rfl ?_ | refine Ok.regF rfl rfl ?_ | refine Ok.regT rfl rfl ?_); simp only [go_sem]; (repeat' with_reducible apply And.intro); all_goals first | (with_reducible first | refine OkW.mk ?_ | refine EndW.mk ?_ | apply AskI.id | apply AskGI.id) | (with_reducible apply KOt.mk; kernel_rfl) | exact trivial | rfl | omega | ((try intro _); first | apply R64 <;> omega | apply room_of <;> omega) | skip)
      (refine Ok.ret ?_; (try dsimp only [thenK, blockK, noGotoK]); simp only [toList_mk, List.toList_toArray, retK_ret, retK_normal, resOK, resV, celV, rowV, frzAll, frzT, subV, subL, go_sem])
      (repeat' with_reducible apply And.intro) <;> exact DEq.refl _
    · intro hb
      (refine Ok.skip ?_; (try dsimp only [thenK, blockK, noGotoK]))
      ((first | refine Ok.seqF rfl rfl ?_ | refine Ok.seqT rfl rfl ?_ | refine Ok.regF rfl rfl ?_ | refine Ok.regT rfl rfl ?_); simp only [go_sem]; (repeat' with_reducible apply And.intro); all_goals first | (with_reducible first | refine OkW.mk ?_ | refine EndW.mk ?_ | apply AskI.id | apply AskGI.id) | (with_reducible apply KOt.mk; kernel_rfl) | exact trivial | rfl | omega | ((try intro _); first | apply R64 <;> omega | apply room_of <;> omega) | skip)
      (try dsimp only [thenK, blockK, noGotoK])
      refine ⟨no_step hi' h0 (by simpa using hb), ?_⟩
      (refine Sub.of ([0, 1]) ([]) ?_ ?_ ?_ rfl rfl <;> simp only [subB, subB1, subT, subT1, newT, subE, subV, subL, go_sem] <;> (try (repeat' with_reducible apply And.intro)) <;> (try first | exact DEq.refl _ | refine DEq.int ?_ | refine DEq.bool ?_ | omega))
  intro h0
  have hn1' := hL.n1
  have g3 : (L.b.ls.take (L.b.ls.length - 1)).findIdx? (fun x => !apart L x n) = none := fx_no h0
  have hF : faultL L n q = none := by
    unfold faultL; simp only [hk, g0, g1, g2, g3]
  ((first | refine Ok.seqF rfl rfl ?_ | refine Ok.seqT rfl rfl ?_ | refine Ok.regF rfl rfl ?_ | refine Ok.regT rfl rfl ?_); simp only [go_sem]; (repeat' with_reducible apply And.intro); all_goals first | (with_reducible first | refine OkW.mk ?_ | refine EndW.mk ?_ | apply AskI.id | apply AskGI.id) | (with_reducible apply KOt.mk; kernel_rfl) | exact trivial | rfl | omega | ((try intro _); first | apply R64 <;> omega | apply room_of <;> omega) | skip)
  refine Ok.seq ?_
  refine Ok.cond rfl (fun _ => ?_) (fun hb => by simp at hb; omega)
  (refine Ok.skip ?_; (try dsimp only [thenK, blockK, noGotoK]))
  refine Ok.seq ?_
  refine Ok.block ?_
  ((first | refine Ok.seqF rfl rfl ?_ | refine Ok.seqT rfl rfl ?_ | refine Ok.regF rfl rfl ?_ | refine Ok.regT rfl rfl ?_); simp only [go_sem]; (repeat' with_reducible apply And.intro); all_goals first | (with_reducible first | refine OkW.mk ?_ | refine EndW.mk ?_ | apply AskI.id | apply AskGI.id) | (with_reducible apply KOt.mk; kernel_rfl) | exact trivial | rfl | omega | ((try intro _); first | apply R64 <;> omega | apply room_of <;> omega) | skip)
  refine Ok.seq ?_
  ((first | refine Ok.seqF rfl rfl ?_ | refine Ok.seqT rfl rfl ?_ | refine Ok.regF rfl rfl ?_ | refine Ok.regT rfl rfl ?_); simp only [go_sem]; (repeat' with_reducible apply And.intro); all_goals first | (with_reducible first | refine OkW.mk ?_ | refine EndW.mk ?_ | apply AskI.id | apply AskGI.id) | (with_reducible apply KOt.mk; kernel_rfl) | exact trivial | rfl | omega | ((try intro _); first | apply R64 <;> omega | apply room_of <;> omega) | skip)
  refine Ok.cond rfl (fun _ => ?_) (fun hb => by simp at hb; omega)
  (refine Ok.exit ?_; simp only [thenK_exit, blockK_exit, noGotoK_exit, thenK_normal, blockK_normal, noGotoK_normal, ↓reduceIte, Nat.reduceEqDiff])
  ((first | refine Ok.seqF rfl rfl ?_ | refine Ok.seqT rfl rfl ?_ | refine Ok.regF rfl rfl ?_ | refine Ok.regT rfl rfl ?_); simp only [go_sem]; (repeat' with_reducible apply And.intro); all_goals first | (with_reducible first | refine OkW.mk ?_ | refine EndW.mk ?_ | apply AskI.id | apply AskGI.id) | (with_reducible apply KOt.mk; kernel_rfl) | exact trivial | rfl | omega | ((try intro _); first | apply R64 <;> omega | apply room_of <;> omega) | skip)
  (try dsimp only [thenK, blockK, noGotoK])
  refine OkN.round ?_
  ((first | refine Ok.seqF rfl rfl ?_ | refine Ok.seqT rfl rfl ?_ | refine Ok.regF rfl rfl ?_ | refine Ok.regT rfl rfl ?_); simp only [go_sem]; (repeat' with_reducible apply And.intro); all_goals first | (with_reducible first | refine OkW.mk ?_ | refine EndW.mk ?_ | apply AskI.id | apply AskGI.id) | (with_reducible apply KOt.mk; kernel_rfl) | exact trivial | rfl | omega | ((try intro _); first | apply R64 <;> omega | apply room_of <;> omega) | skip)
  refine Ok.seq ?_
  refine Ok.cond (b := false) (by first | rfl | (simp only [go_sem]; rfl)) (fun hb => by cases hb) (fun _ => ?_)
  (refine Ok.exit ?_; simp only [thenK_exit, blockK_exit, noGotoK_exit, thenK_normal, blockK_normal, noGotoK_normal, ↓reduceIte, Nat.reduceEqDiff])
  rw [hF]
  ((first | refine Ok.seqF rfl rfl ?_ | refine Ok.seqT rfl rfl ?_ | refine Ok.regF rfl rfl ?_ | refine Ok.regT rfl rfl ?_); simp only [go_sem]; (repeat' with_reducible apply And.intro); all_goals first | (with_reducible first | refine OkW.mk ?_ | refine EndW.mk ?_ | apply AskI.id | apply AskGI.id) | (with_reducible apply KOt.mk; kernel_rfl) | exact trivial | rfl | omega | ((try intro _); first | apply R64 <;> omega | apply room_of <;> omega) | skip)
  (refine Ok.ret ?_; (try dsimp only [thenK, blockK, noGotoK]); simp only [toList_mk, List.toList_toArray, retK_ret, retK_normal, resOK, resV, celV, rowV, frzAll, frzT, subV, subL, go_sem])
  (repeat' with_reducible apply And.intro) <;> exact DEq.refl _
end Go.Proofs.Sight
namespace Go.Proofs.Sight
open Go Go.RX Go.Proofs
set_option maxRecDepth 10000
def surelyL (L : Look) : Bool := !(faultL L (L.s.el * L.s.ll) (fun _ => true)).isSome
def mayL (L : Look) : Bool := !(faultL L (L.s.eh * L.s.lh) (fun k => k.sure)).isSome
theorem pow_least {L : Look} (h : L.fine) : 0 ≤ L.s.el * L.s.ll ∧ L.s.el * L.s.ll ≤ 10000 := by
  obtain ⟨a1, a2, a3, a4, a5, a6, b1, b2, b3, b4, b5, b6, b7, b8⟩ := h
  have e1 := mulB (a := L.s.el) (b := L.s.ll) (A := 40) (B := 100) (by omega) (by omega) (by omega) (by omega)
  have e2 : 0 ≤ L.s.el * L.s.ll := Int.mul_nonneg (by omega) (by omega)
  omega
theorem pow_most {L : Look} (h : L.fine) : 0 ≤ L.s.eh * L.s.lh ∧ L.s.eh * L.s.lh ≤ 10000 := by
  obtain ⟨a1, a2, a3, a4, a5, a6, b1, b2, b3, b4, b5, b6, b7, b8⟩ := h
  have e1 := mulB (a := L.s.eh) (b := L.s.lh) (A := 40) (B := 100) (by omega) (by omega) (by omega) (by omega)
  have e2 : 0 ≤ L.s.eh * L.s.lh := Int.mul_nonneg (by omega) (by omega)
  omega
theorem faV_agg (o : Option (Int × Int)) : ∃ a b, faV o = .agg [iS a, iS b] := by
  cases o with
  | none => exact ⟨_, _, rfl⟩
  | some x => exact ⟨_, _, rfl⟩
theorem c74 (L : Look) (hL : L.good) : Ctr Tryz.prog 74 [L.sv] (bS (surelyL L)) := by
  obtain ⟨p0, p1⟩ := pow_least hL.fine
  have h116 := c116 L hL _ p0 p1 117 (fun _ => true) (fun k => c117 k)
  obtain ⟨x, y, e⟩ := faV_agg (faultL L (L.s.el * L.s.ll) (fun _ => true))
  rw [e] at h116
  (refine Ctr.mk (fn := Tryz.f74) rfl rfl rfl rfl rfl Tryz.results74 ?_; dsimp only [args, List.toList_toArray])
  ((first | refine Ok.seqF rfl rfl ?_ | refine Ok.seqT rfl rfl ?_ | refine Ok.regF rfl rfl ?_ | refine Ok.regT rfl rfl ?_); simp only [go_sem]; (repeat' with_reducible apply And.intro); all_goals first | (with_reducible first | refine OkW.mk ?_ | refine EndW.mk ?_ | apply AskI.id | apply AskGI.id) | (with_reducible apply KOt.mk; kernel_rfl) | exact trivial | rfl | omega | ((try intro _); first | apply R64 <;> omega | apply room_of <;> omega) | skip)
  ((first | refine Ok.seqF rfl rfl ?_ | refine Ok.seqT rfl rfl ?_ | refine Ok.regF rfl rfl ?_ | refine Ok.regT rfl rfl ?_); simp only [go_sem]; (repeat' with_reducible apply And.intro); all_goals first | (with_reducible first | refine OkW.mk ?_ | refine EndW.mk ?_ | apply AskI.id | apply AskGI.id) | (with_reducible apply KOt.mk; kernel_rfl) | exact trivial | rfl | omega | ((try intro _); first | apply R64 <;> omega | apply room_of <;> omega) | skip)
  (refine AskI.ret (c84 L hL.fine) ?_; simp only [go_sem]; (repeat' with_reducible apply And.intro); all_goals first | (with_reducible first | refine OkW.mk ?_ | refine EndW.mk ?_ | apply AskI.id | apply AskGI.id) | (with_reducible apply KOt.mk; kernel_rfl) | exact trivial | rfl | omega | ((try intro _); first | apply R64 <;> omega | apply room_of <;> omega) | skip)
  (refine AskI.ret (h116) ?_; simp only [go_sem]; (repeat' with_reducible apply And.intro); all_goals first | (with_reducible first | refine OkW.mk ?_ | refine EndW.mk ?_ | apply AskI.id | apply AskGI.id) | (with_reducible apply KOt.mk; kernel_rfl) | exact trivial | rfl | omega | ((try intro _); first | apply R64 <;> omega | apply room_of <;> omega) | skip)
  ((first | refine Ok.seqF rfl rfl ?_ | refine Ok.seqT rfl rfl ?_ | refine Ok.regF rfl rfl ?_ | refine Ok.regT rfl rfl ?_); simp only [go_sem]; (repeat' with_reducible apply And.intro); all_goals first | (with_reducible first | refine OkW.mk ?_ | refine EndW.mk ?_ | apply AskI.id | apply AskGI.id) | (with_reducible apply KOt.mk; kernel_rfl) | exact trivial | rfl | omega | ((try intro _); first | apply R64 <;> omega | apply room_of <;> omega) | skip)
  (refine Ok.ret ?_; (try dsimp only [thenK, blockK, noGotoK]); simp only [toList_mk, List.toList_toArray, retK_ret, retK_normal, resOK, resV, celV, rowV, frzAll, frzT, subV, subL, go_sem])
  exact .refl _
theorem c75 (L : Look) (hL : L.good) : Ctr Tryz.prog 75 [L.sv] (bS (mayL L)) := by
  obtain ⟨p0, p1⟩ := pow_most hL.fine
  have h116 := c116 L hL _ p0 p1 118 (fun k => k.sure) (fun k => c118 k)
  obtain ⟨x, y, e⟩ := faV_agg (faultL L (L.s.eh * L.s.lh) (fun k => k.sure))
  rw [e] at h116
  (refine Ctr.mk (fn := Tryz.f75) rfl rfl rfl rfl rfl Tryz.results75 ?_; dsimp only [args, List.toList_toArray])
  ((first | refine Ok.seqF rfl rfl ?_ | refine Ok.seqT rfl rfl ?_ | refine Ok.regF rfl rfl ?_ | refine Ok.regT rfl rfl ?_); simp only [go_sem]; (repeat' with_reducible apply And.intro); all_goals first | (with_reducible first | refine OkW.mk ?_ | refine EndW.mk ?_ | apply AskI.id | apply AskGI.id) | (with_reducible apply KOt.mk; kernel_rfl) | exact trivial | rfl | omega | ((try intro _); first | apply R64 <;> omega | apply room_of <;> omega) | skip)
  ((first | refine Ok.seqF rfl rfl ?_ | refine Ok.seqT rfl rfl ?_ | refine Ok.regF rfl rfl ?_ | refine Ok.regT rfl rfl ?_); simp only [go_sem]; (repeat' with_reducible apply And.intro); all_goals first | (with_reducible first | refine OkW.mk ?_ | refine EndW.mk ?_ | apply AskI.id | apply AskGI.id) | (with_reducible apply KOt.mk; kernel_rfl) | exact trivial | rfl | omega | ((try intro _); first | apply R64 <;> omega | apply room_of <;> omega) | skip)
  (refine AskI.ret (c85 L hL.fine) ?_; simp only [go_sem]; (repeat' with_reducible apply And.intro); all_goals first | (with_reducible first | refine OkW.mk ?_ | refine EndW.mk ?_ | apply AskI.id | apply AskGI.id) | (with_reducible apply KOt.mk; kernel_rfl) | exact trivial | rfl | omega | ((try intro _); first | apply R64 <;> omega | apply room_of <;> omega) | skip)
  (refine AskI.ret (h116) ?_; simp only [go_sem]; (repeat' with_reducible apply And.intro); all_goals first | (with_reducible first | refine OkW.mk ?_ | refine EndW.mk ?_ | apply AskI.id | apply AskGI.id) | (with_reducible apply KOt.mk; kernel_rfl) | exact trivial | rfl | omega | ((try intro _); first | apply R64 <;> omega | apply room_of <;> omega) | skip)
  ((first | refine Ok.seqF rfl rfl ?_ | refine Ok.seqT rfl rfl ?_ | refine Ok.regF rfl rfl ?_ | refine Ok.regT rfl rfl ?_); simp only [go_sem]; (repeat' with_reducible apply And.intro); all_goals first | (with_reducible first | refine OkW.mk ?_ | refine EndW.mk ?_ | apply AskI.id | apply AskGI.id) | (with_reducible apply KOt.mk; kernel_rfl) | exact trivial | rfl | omega | ((try intro _); first | apply R64 <;> omega | apply room_of <;> omega) | skip)
  (refine Ok.ret ?_; (try dsimp only [thenK, blockK, noGotoK]); simp only [toList_mk, List.toList_toArray, retK_ret, retK_normal, resOK, resV, celV, rowV, frzAll, frzT, subV, subL, go_sem])
  exact .refl _
theorem isLetter_fine {x : Letter} (h : isLetter x = true) : x.fine := by
  simp only [isLetter, inR, Bool.and_eq_true, decide_eq_true_eq] at h
  obtain ⟨⟨⟨⟨a, b⟩, c, d⟩, e, f⟩, g, i⟩ := h
  exact ⟨by omega, by omega, by omega, by omega, by omega, by omega, by omega, by omega⟩
theorem isBoard_spec {b : Board} {len : Int} (h : isBoard b len = true) : (0 ≤ b.at_ ∧ b.at_ ≤ len) ∧ (1 ≤ b.ls.length ∧ b.ls.length ≤ 5) ∧ (b.ls.getD (b.ls.length - 1) default).p = 0 ∧ ∀ x ∈ b.ls, isLetter x = true := by
  simp only [isBoard, inR, Bool.and_eq_true, decide_eq_true_eq, beq_iff_eq, Bool.not_eq_true', List.any_eq_false, Bool.not_eq_true', Bool.not_eq_false] at h
  obtain ⟨⟨⟨h1, h2⟩, h3⟩, h4⟩ := h
  exact ⟨h1, ⟨by omega, by omega⟩, h3, h4⟩
structure Street.ok (s : Street) : Prop where
  len0 : 1 ≤ s.len
  len1 : s.len ≤ 40
  wid0 : 1 ≤ s.wid
  wid1 : s.wid ≤ 12
  el0 : 1 ≤ s.el
  el1 : s.el ≤ 40
  eh0 : s.el ≤ s.eh
  eh1 : s.eh ≤ 40
  ll0 : 1 ≤ s.ll
  ll1 : s.ll ≤ 100
  lh0 : s.ll ≤ s.lh
  lh1 : s.lh ≤ 100
  b1 : 1 ≤ s.bs.length
  b3 : s.bs.length ≤ 3
  k4 : s.ks.length ≤ 4
  bs : ∀ b ∈ s.bs, isBoard b s.len = true
  ks : ∀ k ∈ s.ks, blockIn k s = true
theorem isStreet_ok {s : Street} : isStreet s = true ↔ s.ok := by
  simp only [isStreet, inR, spanR, Bool.and_eq_true, decide_eq_true_eq, Bool.not_eq_true', List.any_eq_false, Bool.not_eq_true', Bool.not_eq_false]
  constructor
  · rintro ⟨⟨⟨⟨⟨⟨⟨h1, h2⟩, h3, h4⟩, h5, h6⟩, h7⟩, h8⟩, h9⟩, h10⟩
    exact ⟨h1.1, h1.2, h2.1, h2.2, h3.1, h3.2, h4.1, h4.2, h5.1, h5.2, h6.1, h6.2, by omega, by omega, by omega, h9, h10⟩
  · rintro ⟨h1, h2, h3, h4, h5, h6, h7, h8, h9, h10, h11, h12, h13, h14, h15, h16, h17⟩
    exact ⟨⟨⟨⟨⟨⟨⟨⟨h1, h2⟩, h3, h4⟩, ⟨h5, h6⟩, h7, h8⟩, ⟨h9, h10⟩, h11, h12⟩, by omega, by omega⟩, by omega⟩, h16⟩, h17⟩
theorem blockIn_fine {k : Block} {s : Street} (hs : s.ok) (h : blockIn k s = true) : k.fine := by
  simp only [blockIn, inR, spanR, Bool.and_eq_true, decide_eq_true_eq] at h
  obtain ⟨⟨⟨a, b⟩, c, d⟩, ⟨e, f⟩, g, i⟩ := h
  have := hs.len1; have := hs.wid1
  exact ⟨by omega, by omega, by omega, by omega, by omega, by omega, by omega, by omega⟩
theorem good_of {s : Street} (hs : s.ok) {b : Board} (hb : isBoard b s.len = true) {p : Place} (hp : placeIn s p = true) : (Look.mk s b p).good := by
  obtain ⟨h1, h2, h3, h4⟩ := isBoard_spec hb
  simp only [placeIn, inR, Bool.and_eq_true, decide_eq_true_eq] at hp
  have hs' := hs
  obtain ⟨l0, l1, w0, w1, e0, e1, e2, e3, g0, g1, g2, g3, _⟩ := hs'
  refine ⟨⟨?_, ?_, ?_, ?_, ?_, ?_, ?_, ?_, ?_, ?_, ?_, ?_, ?_, ?_⟩, fun x hx => isLetter_fine (h4 x hx), fun k hk => blockIn_fine hs (hs.ks k hk), h2.1, h2.2, hs.k4⟩ <;> dsimp only <;> omega
theorem lookOk_spec {s : Street} {i : Int} {p : Place} (h : lookOk s i p = true) : s.ok ∧ (0 ≤ i ∧ i < s.bs.length) ∧ placeIn s p = true ∧ lookOf s i p = ⟨s, s.bs.getD i.toNat default, p⟩ ∧ (lookOf s i p).good := by
  have hl : lookOf s i p = ⟨s, s.bs.getD i.toNat default, p⟩ := by simp [lookOf, h]
  simp only [lookOk, Bool.and_eq_true] at h
  obtain ⟨⟨h1, h2⟩, h3⟩ := h
  have hs := isStreet_ok.1 h1
  simp only [inR, Bool.and_eq_true, decide_eq_true_eq] at h2
  have hi : 0 ≤ i ∧ i < s.bs.length := ⟨by omega, by omega⟩
  refine ⟨hs, hi, h3, hl, ?_⟩
  rw [hl]
  exact good_of hs (hs.bs _ (getD_mem (by omega))) h3
theorem Street.ok.fit {s : Street} (h : s.ok) : s.fit := by
  refine ⟨by have := h.b3; omega, by have := h.k4; omega, fun b hb => ?_⟩
  have := (isBoard_spec (h.bs b hb)).2.1.2
  omega
def seenW (s : Street) (i : Int) (p : Place) : Int := if lookOk s i p then word (surelyL (lookOf s i p)) (mayL (lookOf s i p)) else 0
def errA (b : Bool) : Int := if b then 0 else 2
theorem c25 (s : Street) (hs : s.fit) (i : Int) (p : Place) : Ctr Tryz.prog 25 [s.sv, iS i, p.sv] (.tup [iS (seenW s i p), iS (errA (lookOk s i p))]) := by
  have h72 := c72 s hs i p
  (refine Ctr.mk (fn := Tryz.f25) rfl rfl rfl rfl rfl Tryz.results25 ?_; dsimp only [args, List.toList_toArray])
  ((first | refine Ok.seqF rfl rfl ?_ | refine Ok.seqT rfl rfl ?_ | refine Ok.regF rfl rfl ?_ | refine Ok.regT rfl rfl ?_); simp only [go_sem]; (repeat' with_reducible apply And.intro); all_goals first | (with_reducible first | refine OkW.mk ?_ | refine EndW.mk ?_ | apply AskI.id | apply AskGI.id) | (with_reducible apply KOt.mk; kernel_rfl) | exact trivial | rfl | omega | ((try intro _); first | apply R64 <;> omega | apply room_of <;> omega) | skip)
  refine Ok.seq ?_
  ((first | refine Ok.seqF rfl rfl ?_ | refine Ok.seqT rfl rfl ?_ | refine Ok.regF rfl rfl ?_ | refine Ok.regT rfl rfl ?_); simp only [go_sem]; (repeat' with_reducible apply And.intro); all_goals first | (with_reducible first | refine OkW.mk ?_ | refine EndW.mk ?_ | apply AskI.id | apply AskGI.id) | (with_reducible apply KOt.mk; kernel_rfl) | exact trivial | rfl | omega | ((try intro _); first | apply R64 <;> omega | apply room_of <;> omega) | skip)
  (refine AskI.ret (h72) ?_; simp only [go_sem]; (repeat' with_reducible apply And.intro); all_goals first | (with_reducible first | refine OkW.mk ?_ | refine EndW.mk ?_ | apply AskI.id | apply AskGI.id) | (with_reducible apply KOt.mk; kernel_rfl) | exact trivial | rfl | omega | ((try intro _); first | apply R64 <;> omega | apply room_of <;> omega) | skip)
  refine Ok.seq ?_
  ((first | refine Ok.seqF rfl rfl ?_ | refine Ok.seqT rfl rfl ?_ | refine Ok.regF rfl rfl ?_ | refine Ok.regT rfl rfl ?_); simp only [go_sem]; (repeat' with_reducible apply And.intro); all_goals first | (with_reducible first | refine OkW.mk ?_ | refine EndW.mk ?_ | apply AskI.id | apply AskGI.id) | (with_reducible apply KOt.mk; kernel_rfl) | exact trivial | rfl | omega | ((try intro _); first | apply R64 <;> omega | apply room_of <;> omega) | skip)
  refine Ok.cond rfl ?_ ?_
  · intro hb
    simp only [Bool.not_eq_true'] at hb
    ((first | refine Ok.seqF rfl rfl ?_ | refine Ok.seqT rfl rfl ?_ | refine Ok.regF rfl rfl ?_ | refine Ok.regT rfl rfl ?_); simp only [go_sem]; (repeat' with_reducible apply And.intro); all_goals first | (with_reducible first | refine OkW.mk ?_ | refine EndW.mk ?_ | apply AskI.id | apply AskGI.id) | (with_reducible apply KOt.mk; kernel_rfl) | exact trivial | rfl | omega | ((try intro _); first | apply R64 <;> omega | apply room_of <;> omega) | skip)
    (refine Ok.ret ?_; (try dsimp only [thenK, blockK, noGotoK]); simp only [toList_mk, List.toList_toArray, retK_ret, retK_normal, resOK, resV, celV, rowV, frzAll, frzT, subV, subL, go_sem])
    simp only [seenW, errA, hb]
    exact ⟨.refl _, .refl _⟩
  · intro hb
    simp only [Bool.not_eq_false'] at hb
    obtain ⟨_, _, _, _, hg⟩ := lookOk_spec hb
    (refine Ok.skip ?_; (try dsimp only [thenK, blockK, noGotoK]))
    ((first | refine Ok.seqF rfl rfl ?_ | refine Ok.seqT rfl rfl ?_ | refine Ok.regF rfl rfl ?_ | refine Ok.regT rfl rfl ?_); simp only [go_sem]; (repeat' with_reducible apply And.intro); all_goals first | (with_reducible first | refine OkW.mk ?_ | refine EndW.mk ?_ | apply AskI.id | apply AskGI.id) | (with_reducible apply KOt.mk; kernel_rfl) | exact trivial | rfl | omega | ((try intro _); first | apply R64 <;> omega | apply room_of <;> omega) | skip)
    (refine AskI.ret (c74 _ hg) ?_; simp only [go_sem]; (repeat' with_reducible apply And.intro); all_goals first | (with_reducible first | refine OkW.mk ?_ | refine EndW.mk ?_ | apply AskI.id | apply AskGI.id) | (with_reducible apply KOt.mk; kernel_rfl) | exact trivial | rfl | omega | ((try intro _); first | apply R64 <;> omega | apply room_of <;> omega) | skip)
    (refine AskI.ret (c75 _ hg) ?_; simp only [go_sem]; (repeat' with_reducible apply And.intro); all_goals first | (with_reducible first | refine OkW.mk ?_ | refine EndW.mk ?_ | apply AskI.id | apply AskGI.id) | (with_reducible apply KOt.mk; kernel_rfl) | exact trivial | rfl | omega | ((try intro _); first | apply R64 <;> omega | apply room_of <;> omega) | skip)
    (refine AskI.ret (c73 _ _) ?_; simp only [go_sem]; (repeat' with_reducible apply And.intro); all_goals first | (with_reducible first | refine OkW.mk ?_ | refine EndW.mk ?_ | apply AskI.id | apply AskGI.id) | (with_reducible apply KOt.mk; kernel_rfl) | exact trivial | rfl | omega | ((try intro _); first | apply R64 <;> omega | apply room_of <;> omega) | skip)
    (refine Ok.ret ?_; (try dsimp only [thenK, blockK, noGotoK]); simp only [toList_mk, List.toList_toArray, retK_ret, retK_normal, resOK, resV, celV, rowV, frzAll, frzT, subV, subL, go_sem])
    simp only [seenW, errA, hb]
    exact ⟨.refl _, .refl _⟩
def lettersL (L : Look) : List Int := L.b.ls.map (fun x => word (readL L x (L.s.el * L.s.ll)) (readL L x (L.s.eh * L.s.lh)))
def lettersW (s : Street) (i : Int) (p : Place) : List Int := if lookOk s i p then lettersL (lookOf s i p) else []
theorem map_snoc {α β : Type} [Inhabited α] (f : α → β) {l : List α} {i : Nat} (h : i < l.length) : (l.take (i + 1)).map f = (l.take i).map f ++ [f (l.getD i default)] := by
  rw [getD_take h]; simp
theorem map_len {α β : Type} (f : α → β) {l : List α} {i : Nat} (h : i ≤ l.length) : ((l.take i).map f).length = i := by simp; omega
theorem c34 (s : Street) (hs : s.fit) (i : Int) (p : Place) : Ctr Tryz.prog 34 [s.sv, iS i, p.sv] (.tup [.d (slD 1 intD (lettersW s i p)), iS (errA (lookOk s i p))]) := by
  have h72 := c72 s hs i p
  (refine Ctr.mk (fn := Tryz.f34) rfl rfl rfl rfl rfl Tryz.results34 ?_; dsimp only [args, List.toList_toArray])
  ((first | refine Ok.seqF rfl rfl ?_ | refine Ok.seqT rfl rfl ?_ | refine Ok.regF rfl rfl ?_ | refine Ok.regT rfl rfl ?_); simp only [go_sem]; (repeat' with_reducible apply And.intro); all_goals first | (with_reducible first | refine OkW.mk ?_ | refine EndW.mk ?_ | apply AskI.id | apply AskGI.id) | (with_reducible apply KOt.mk; kernel_rfl) | exact trivial | rfl | omega | ((try intro _); first | apply R64 <;> omega | apply room_of <;> omega) | skip)
  refine Ok.seq ?_
  ((first | refine Ok.seqF rfl rfl ?_ | refine Ok.seqT rfl rfl ?_ | refine Ok.regF rfl rfl ?_ | refine Ok.regT rfl rfl ?_); simp only [go_sem]; (repeat' with_reducible apply And.intro); all_goals first | (with_reducible first | refine OkW.mk ?_ | refine EndW.mk ?_ | apply AskI.id | apply AskGI.id) | (with_reducible apply KOt.mk; kernel_rfl) | exact trivial | rfl | omega | ((try intro _); first | apply R64 <;> omega | apply room_of <;> omega) | skip)
  (refine AskI.ret (h72) ?_; simp only [go_sem]; (repeat' with_reducible apply And.intro); all_goals first | (with_reducible first | refine OkW.mk ?_ | refine EndW.mk ?_ | apply AskI.id | apply AskGI.id) | (with_reducible apply KOt.mk; kernel_rfl) | exact trivial | rfl | omega | ((try intro _); first | apply R64 <;> omega | apply room_of <;> omega) | skip)
  refine Ok.seq ?_
  ((first | refine Ok.seqF rfl rfl ?_ | refine Ok.seqT rfl rfl ?_ | refine Ok.regF rfl rfl ?_ | refine Ok.regT rfl rfl ?_); simp only [go_sem]; (repeat' with_reducible apply And.intro); all_goals first | (with_reducible first | refine OkW.mk ?_ | refine EndW.mk ?_ | apply AskI.id | apply AskGI.id) | (with_reducible apply KOt.mk; kernel_rfl) | exact trivial | rfl | omega | ((try intro _); first | apply R64 <;> omega | apply room_of <;> omega) | skip)
  refine Ok.cond rfl ?_ ?_
  · intro hb
    simp only [Bool.not_eq_true'] at hb
    ((first | refine Ok.seqF rfl rfl ?_ | refine Ok.seqT rfl rfl ?_ | refine Ok.regF rfl rfl ?_ | refine Ok.regT rfl rfl ?_); simp only [go_sem]; (repeat' with_reducible apply And.intro); all_goals first | (with_reducible first | refine OkW.mk ?_ | refine EndW.mk ?_ | apply AskI.id | apply AskGI.id) | (with_reducible apply KOt.mk; kernel_rfl) | exact trivial | rfl | omega | ((try intro _); first | apply R64 <;> omega | apply room_of <;> omega) | skip)
    (refine Ok.ret ?_; (try dsimp only [thenK, blockK, noGotoK]); simp only [toList_mk, List.toList_toArray, retK_ret, retK_normal, resOK, resV, celV, rowV, frzAll, frzT, subV, subL, go_sem])
    simp only [lettersW, errA, hb]
    exact ⟨DEq.nils rfl, .refl _⟩
  intro hb
  simp only [Bool.not_eq_false'] at hb
  obtain ⟨_, _, _, _, hg⟩ := lookOk_spec hb
  have hw : lettersW s i p = lettersL (lookOf s i p) := by simp [lettersW, hb]
  have he : errA (lookOk s i p) = 0 := by simp [errA, hb]
  rw [hw, he]
  generalize lookOf s i p = L at hg ⊢
  have hn5 := hg.n5
  obtain ⟨p0, p1⟩ := pow_least hg.fine
  obtain ⟨q0, q1⟩ := pow_most hg.fine
  (refine Ok.skip ?_; (try dsimp only [thenK, blockK, noGotoK]))
  ((first | refine Ok.seqF rfl rfl ?_ | refine Ok.seqT rfl rfl ?_ | refine Ok.regF rfl rfl ?_ | refine Ok.regT rfl rfl ?_); simp only [go_sem]; (repeat' with_reducible apply And.intro); all_goals first | (with_reducible first | refine OkW.mk ?_ | refine EndW.mk ?_ | apply AskI.id | apply AskGI.id) | (with_reducible apply KOt.mk; kernel_rfl) | exact trivial | rfl | omega | ((try intro _); first | apply R64 <;> omega | apply room_of <;> omega) | skip)
  refine Ok.seq ?_
  ((first | refine Ok.seqF rfl rfl ?_ | refine Ok.seqT rfl rfl ?_ | refine Ok.regF rfl rfl ?_ | refine Ok.regT rfl rfl ?_); simp only [go_sem]; (repeat' with_reducible apply And.intro); all_goals first | (with_reducible first | refine OkW.mk ?_ | refine EndW.mk ?_ | apply AskI.id | apply AskGI.id) | (with_reducible apply KOt.mk; kernel_rfl) | exact trivial | rfl | omega | ((try intro _); first | apply R64 <;> omega | apply room_of <;> omega) | skip)
  refine Ok.block ?_
  generalize hF : (fun x => word (readL L x (L.s.el * L.s.ll)) (readL L x (L.s.eh * L.s.lh))) = F
  have hFL : lettersL L = L.b.ls.map F := by rw [← hF]; rfl
  rw [hFL]
  refine Ok.count L.b.ls.length (fun j => ⟨[(8, .p 0 0), (10, .tk 0), (24, .d (slD 4 letD L.b.ls)), (25, iS L.b.ls.length), (26, iS j)], [{ frz := false, xs := [iS L.s.len, iS L.s.wid, iS L.s.el, iS L.s.eh, iS L.s.ll, iS L.s.lh, .d (slD 2 boaD L.s.bs), .d (slD 5 bloD L.s.ks), iS L.b.at_, .d (slD 4 letD L.b.ls), iS L.p.al, iS L.p.ac] }], [ownD 32 1 intD ((L.b.ls.take j).map F)]⟩) (fun _ => True) ⟨trivial, ?_⟩ ?_ ?_
  · (refine Sub.of ([2]) ([none]) ?_ ?_ ?_ rfl rfl <;> simp only [subB, subB1, subT, subT1, newT, subE, subV, subL, go_sem] <;> (try (repeat' with_reducible apply And.intro)) <;> (try first | exact DEq.refl _ | refine DEq.int ?_ | refine DEq.bool ?_ | omega))
  · intro j hj _
    have hlen := map_len F (l := L.b.ls) (i := j) (by omega)
    have hsn := map_snoc F hj
    ((first | refine Ok.seqF rfl rfl ?_ | refine Ok.seqT rfl rfl ?_ | refine Ok.regF rfl rfl ?_ | refine Ok.regT rfl rfl ?_); simp only [go_sem]; (repeat' with_reducible apply And.intro); all_goals first | (with_reducible first | refine OkW.mk ?_ | refine EndW.mk ?_ | apply AskI.id | apply AskGI.id) | (with_reducible apply KOt.mk; kernel_rfl) | exact trivial | rfl | omega | ((try intro _); first | apply R64 <;> omega | apply room_of <;> omega) | skip)
    refine Ok.seq ?_
    refine Ok.cond rfl (fun _ => ?_) (fun hb => by simp at hb; omega)
    (refine Ok.skip ?_; (try dsimp only [thenK, blockK, noGotoK]))
    refine Ok.seq ?_
    refine Ok.block ?_
    ((first | refine Ok.seqF rfl rfl ?_ | refine Ok.seqT rfl rfl ?_ | refine Ok.regF rfl rfl ?_ | refine Ok.regT rfl rfl ?_); simp only [go_sem]; (repeat' with_reducible apply And.intro); all_goals first | (with_reducible first | refine OkW.mk ?_ | refine EndW.mk ?_ | apply AskI.id | apply AskGI.id) | (with_reducible apply KOt.mk; kernel_rfl) | exact trivial | rfl | omega | ((try intro _); first | apply R64 <;> omega | apply room_of <;> omega) | skip)
    ((first | refine Ok.seqF rfl rfl ?_ | refine Ok.seqT rfl rfl ?_ | refine Ok.regF rfl rfl ?_ | refine Ok.regT rfl rfl ?_); simp only [go_sem]; (repeat' with_reducible apply And.intro); all_goals first | (with_reducible first | refine OkW.mk ?_ | refine EndW.mk ?_ | apply AskI.id | apply AskGI.id) | (with_reducible apply KOt.mk; kernel_rfl) | exact trivial | rfl | omega | ((try intro _); first | apply R64 <;> omega | apply room_of <;> omega) | skip)
    (refine AskI.ret (c84 L hg.fine) ?_; simp only [go_sem]; (repeat' with_reducible apply And.intro); all_goals first | (with_reducible first | refine OkW.mk ?_ | refine EndW.mk ?_ | apply AskI.id | apply AskGI.id) | (with_reducible apply KOt.mk; kernel_rfl) | exact trivial | rfl | omega | ((try intro _); first | apply R64 <;> omega | apply room_of <;> omega) | skip)
    (refine AskI.ret (c83 L hg.fine _ (hg.ls _ (getD_mem hj)) _ p0 p1) ?_; simp only [go_sem]; (repeat' with_reducible apply And.intro); all_goals first | (with_reducible first | refine OkW.mk ?_ | refine EndW.mk ?_ | apply AskI.id | apply AskGI.id) | (with_reducible apply KOt.mk; kernel_rfl) | exact trivial | rfl | omega | ((try intro _); first | apply R64 <;> omega | apply room_of <;> omega) | skip)
    (refine AskI.ret (c85 L hg.fine) ?_; simp only [go_sem]; (repeat' with_reducible apply And.intro); all_goals first | (with_reducible first | refine OkW.mk ?_ | refine EndW.mk ?_ | apply AskI.id | apply AskGI.id) | (with_reducible apply KOt.mk; kernel_rfl) | exact trivial | rfl | omega | ((try intro _); first | apply R64 <;> omega | apply room_of <;> omega) | skip)
    (refine AskI.ret (c83 L hg.fine _ (hg.ls _ (getD_mem hj)) _ q0 q1) ?_; simp only [go_sem]; (repeat' with_reducible apply And.intro); all_goals first | (with_reducible first | refine OkW.mk ?_ | refine EndW.mk ?_ | apply AskI.id | apply AskGI.id) | (with_reducible apply KOt.mk; kernel_rfl) | exact trivial | rfl | omega | ((try intro _); first | apply R64 <;> omega | apply room_of <;> omega) | skip)
    (refine AskI.ret (c73 _ _) ?_; simp only [go_sem]; (repeat' with_reducible apply And.intro); all_goals first | (with_reducible first | refine OkW.mk ?_ | refine EndW.mk ?_ | apply AskI.id | apply AskGI.id) | (with_reducible apply KOt.mk; kernel_rfl) | exact trivial | rfl | omega | ((try intro _); first | apply R64 <;> omega | apply room_of <;> omega) | skip)
    (try dsimp only [thenK, blockK, noGotoK])
    ((first | refine Ok.seqF rfl rfl ?_ | refine Ok.seqT rfl rfl ?_ | refine Ok.regF rfl rfl ?_ | refine Ok.regT rfl rfl ?_); simp only [go_sem]; (repeat' with_reducible apply And.intro); all_goals first | (with_reducible first | refine OkW.mk ?_ | refine EndW.mk ?_ | apply AskI.id | apply AskGI.id) | (with_reducible apply KOt.mk; kernel_rfl) | exact trivial | rfl | omega | ((try intro _); first | apply R64 <;> omega | apply room_of <;> omega) | skip)
    (try dsimp only [thenK, blockK, noGotoK])
    refine ⟨trivial, ?_⟩
    (refine Sub.of ([0]) ([some 1]) ?_ ?_ ?_ rfl rfl <;> simp only [subB, subB1, subT, subT1, newT, subE, subV, subL, go_sem] <;> (try (repeat' with_reducible apply And.intro)) <;> (try first | exact DEq.refl _ | refine DEq.int ?_ | refine DEq.bool ?_ | omega))
    · rw [hsn]; simp
    · rw [hsn, ← hF]
      exact snoc_D (fun c hc => by have : c = 0 := by omega
                                   subst this; rfl)
  · intro _
    ((first | refine Ok.seqF rfl rfl ?_ | refine Ok.seqT rfl rfl ?_ | refine Ok.regF rfl rfl ?_ | refine Ok.regT rfl rfl ?_); simp only [go_sem]; (repeat' with_reducible apply And.intro); all_goals first | (with_reducible first | refine OkW.mk ?_ | refine EndW.mk ?_ | apply AskI.id | apply AskGI.id) | (with_reducible apply KOt.mk; kernel_rfl) | exact trivial | rfl | omega | ((try intro _); first | apply R64 <;> omega | apply room_of <;> omega) | skip)
    refine Ok.seq ?_
    refine Ok.cond rfl (fun hb => by simp at hb) (fun _ => ?_)
    (refine Ok.exit ?_; simp only [thenK_exit, blockK_exit, noGotoK_exit, thenK_normal, blockK_normal, noGotoK_normal, ↓reduceIte, Nat.reduceEqDiff])
    ((first | refine Ok.seqF rfl rfl ?_ | refine Ok.seqT rfl rfl ?_ | refine Ok.regF rfl rfl ?_ | refine Ok.regT rfl rfl ?_); simp only [go_sem]; (repeat' with_reducible apply And.intro); all_goals first | (with_reducible first | refine OkW.mk ?_ | refine EndW.mk ?_ | apply AskI.id | apply AskGI.id) | (with_reducible apply KOt.mk; kernel_rfl) | exact trivial | rfl | omega | ((try intro _); first | apply R64 <;> omega | apply room_of <;> omega) | skip)
    (refine Ok.ret ?_; (try dsimp only [thenK, blockK, noGotoK]); simp only [toList_mk, List.toList_toArray, retK_ret, retK_normal, resOK, resV, celV, rowV, frzAll, frzT, subV, subL, go_sem])
    simp only [List.take_length]
    ((repeat' with_reducible apply And.intro) <;> (first | exact DEq.refl _ | refine DEq.int ?_ | refine DEq.bool ?_ | skip))
end Go.Proofs.Sight
