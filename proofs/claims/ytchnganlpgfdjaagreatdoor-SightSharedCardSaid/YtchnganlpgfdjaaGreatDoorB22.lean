/-
  The program's functions,contracts: what each one returns,whatever the world: part 23. No condition.
-/
import Derived.Test.YtchnganlpgfdjaaGreatDoorB00
import Derived.Test.YtchnganlpgfdjaaGreatDoorB01
import Derived.Test.YtchnganlpgfdjaaGreatDoorB02
import Derived.Test.YtchnganlpgfdjaaGreatDoorB03
import Derived.Test.YtchnganlpgfdjaaGreatDoorB04
import Derived.Test.YtchnganlpgfdjaaGreatDoorB05
import Derived.Test.YtchnganlpgfdjaaGreatDoorB06
import Derived.Test.YtchnganlpgfdjaaGreatDoorB07
import Derived.Test.YtchnganlpgfdjaaGreatDoorB08
import Derived.Test.YtchnganlpgfdjaaGreatDoorB09
import Derived.Test.YtchnganlpgfdjaaGreatDoorB10
import Derived.Test.YtchnganlpgfdjaaGreatDoorB11
import Derived.Test.YtchnganlpgfdjaaGreatDoorB12
import Derived.Test.YtchnganlpgfdjaaGreatDoorB13
import Derived.Test.YtchnganlpgfdjaaGreatDoorB14
import Derived.Test.YtchnganlpgfdjaaGreatDoorB15
import Derived.Test.YtchnganlpgfdjaaGreatDoorB16
import Derived.Test.YtchnganlpgfdjaaGreatDoorB17
import Derived.Test.YtchnganlpgfdjaaGreatDoorB18
import Derived.Test.YtchnganlpgfdjaaGreatDoorB19
import Derived.Test.YtchnganlpgfdjaaGreatDoorB20
import Derived.Test.YtchnganlpgfdjaaGreatDoorB21
import Derived.Test.YtchnganlpgfdjaaGreatDoorProg
import Derived.Lib.LaidTab
import Derived.Lib.ItoaNum
import Derived.RangeFuncNested
import Derived.RangeFuncBound
import Derived.RangeFuncCalls
import Derived.RangeFuncLeaves
import Derived.Shelf.Abstract
import Derived.Shelf.RegionOpen
import Derived.WalkKit
import Derived.OwnWalkIn
import Derived.TacticsInMore
import Derived.LoopNIn
import Derived.LoopIn
import Derived.Maps.OwnIn
import Derived.DeepKeys4
import Derived.RangeFuncBox
import Derived.Maps.AppendAt
set_option linter.all false
set_option linter.unusedVariables false
set_option linter.unusedSectionVars false
set_option linter.unusedSimpArgs false
set_option linter.unnecessarySimpa false
namespace Go.Proofs.Sight
open Go Go.RX Go.Proofs
theorem Tryz_intT_2 : intT Tryz.prog 2 = some .i64:=by kernel_rfl
theorem Tryz_strT_2 : strT Tryz.prog 2 = false:=by kernel_rfl
theorem Tryz_ldT_3 : ldT Tryz.prog 3 = some (false,1):=by kernel_rfl
theorem Tryz_szT_3 : szT Tryz.prog 3 = some 1:=by kernel_rfl
theorem Tryz_zeroT_3 : zeroT Tryz.prog 3 = some [.d (.int .i64 0)]:=by kernel_rfl
theorem Tryz_intT_3 : intT Tryz.prog 3 = some .i64:=by kernel_rfl
theorem Tryz_boolT_3 : boolT Tryz.prog 3 = false:=by kernel_rfl
theorem Tryz_strT_3 : strT Tryz.prog 3 = false:=by kernel_rfl
theorem Tryz_ldT_4 : ldT Tryz.prog 4 = some (false,1):=by kernel_rfl
theorem Tryz_boolT_4 : boolT Tryz.prog 4 = true:=by kernel_rfl
theorem Tryz_ldT_5 : ldT Tryz.prog 5 = some (false,1):=by kernel_rfl
theorem Tryz_szT_5 : szT Tryz.prog 5 = some 1:=by kernel_rfl
theorem Tryz_zeroT_5 : zeroT Tryz.prog 5 = some [.d (.int .u8 0)]:=by kernel_rfl
theorem Tryz_intT_5 : intT Tryz.prog 5 = some .u8:=by kernel_rfl
theorem Tryz_boolT_5 : boolT Tryz.prog 5 = false:=by kernel_rfl
theorem Tryz_strT_5 : strT Tryz.prog 5 = false:=by kernel_rfl
theorem Tryz_ldT_9 : ldT Tryz.prog 9 = some (false,1):=by kernel_rfl
theorem Tryz_szT_9 : szT Tryz.prog 9 = some 1:=by kernel_rfl
theorem Tryz_elT_9 : elT Tryz.prog 9 = none:=by kernel_rfl
theorem Tryz_arrT_9 : arrT Tryz.prog 9 = none:=by kernel_rfl
theorem Tryz_zeroT_9 : zeroT Tryz.prog 9 = some [.d (.str [])]:=by kernel_rfl
theorem Tryz_boolT_9 : boolT Tryz.prog 9 = false:=by kernel_rfl
theorem Tryz_strT_9 : strT Tryz.prog 9 = true:=by kernel_rfl
theorem Tryz_ifT_9 : ifT Tryz.prog 9 = false:=by kernel_rfl
theorem Tryz_mapT_9 : mapT Tryz.prog 9 = false:=by kernel_rfl
theorem Tryz_boolT_20 : boolT Tryz.prog 20 = false:=by kernel_rfl
theorem Tryz_intT_21 : intT Tryz.prog 21 = some .i32:=by kernel_rfl
theorem Tryz_strT_21 : strT Tryz.prog 21 = false:=by kernel_rfl
theorem Tryz_ldT_23 : ldT Tryz.prog 23 = some (true,2):=by kernel_rfl
theorem Tryz_szT_23 : szT Tryz.prog 23 = some 2:=by kernel_rfl
theorem Tryz_flsT_23 : flsT Tryz.prog 23 = some [(0,1),(1,1)]:=by kernel_rfl
theorem Tryz_arrT_23 : arrT Tryz.prog 23 = none:=by kernel_rfl
theorem Tryz_zeroT_23 : zeroT Tryz.prog 23 = some [.d (.int .i64 0),.d (.int .i64 0)]:=by kernel_rfl
theorem Tryz_boolT_23 : boolT Tryz.prog 23 = false:=by kernel_rfl
theorem Tryz_fldT_23_0 : fldT Tryz.prog 23 0 = some (0,1):=by kernel_rfl
theorem Tryz_fldT_23_1 : fldT Tryz.prog 23 1 = some (1,1):=by kernel_rfl
theorem Tryz_ldT_24 : ldT Tryz.prog 24 = some (false,1):=by kernel_rfl
theorem Tryz_szT_24 : szT Tryz.prog 24 = some 1:=by kernel_rfl
theorem Tryz_elT_24 : elT Tryz.prog 24 = some (38,2,32):=by kernel_rfl
theorem Tryz_strT_24 : strT Tryz.prog 24 = false:=by kernel_rfl
theorem Tryz_mapT_24 : mapT Tryz.prog 24 = false:=by kernel_rfl
theorem Tryz_ldT_25 : ldT Tryz.prog 25 = some (false,1):=by kernel_rfl
theorem Tryz_szT_25 : szT Tryz.prog 25 = some 1:=by kernel_rfl
theorem Tryz_elT_25 : elT Tryz.prog 25 = some (48,5,40):=by kernel_rfl
theorem Tryz_strT_25 : strT Tryz.prog 25 = false:=by kernel_rfl
theorem Tryz_mapT_25 : mapT Tryz.prog 25 = false:=by kernel_rfl
theorem Tryz_ldT_27 : ldT Tryz.prog 27 = some (true,8):=by kernel_rfl
theorem Tryz_szT_27 : szT Tryz.prog 27 = some 8:=by kernel_rfl
theorem Tryz_flsT_27 : flsT Tryz.prog 27 = some [(0,1),(1,1),(2,2),(4,2),(6,1),(7,1)]:=by kernel_rfl
theorem Tryz_arrT_27 : arrT Tryz.prog 27 = none:=by kernel_rfl
theorem Tryz_zeroT_27 : zeroT Tryz.prog 27 = some [.d (.int .i64 0),.d (.int .i64 0),.d (.int .i64 0),.d (.int .i64 0),.d (.int .i64 0),.d (.int .i64 0),.d .nils,.d .nils]:=by kernel_rfl
theorem Tryz_fldT_27_0 : fldT Tryz.prog 27 0 = some (0,1):=by kernel_rfl
theorem Tryz_fldT_27_1 : fldT Tryz.prog 27 1 = some (1,1):=by kernel_rfl
theorem Tryz_fldT_27_2 : fldT Tryz.prog 27 2 = some (2,2):=by kernel_rfl
theorem Tryz_fldT_27_3 : fldT Tryz.prog 27 3 = some (4,2):=by kernel_rfl
theorem Tryz_fldT_27_4 : fldT Tryz.prog 27 4 = some (6,1):=by kernel_rfl
theorem Tryz_fldT_27_5 : fldT Tryz.prog 27 5 = some (7,1):=by kernel_rfl
theorem Tryz_ldT_30 : ldT Tryz.prog 30 = some (false,1):=by kernel_rfl
theorem Tryz_szT_30 : szT Tryz.prog 30 = some 1:=by kernel_rfl
theorem Tryz_zeroT_30 : zeroT Tryz.prog 30 = some [.d (.int .i64 0)]:=by kernel_rfl
theorem Tryz_boolT_30 : boolT Tryz.prog 30 = false:=by kernel_rfl
theorem Tryz_ldT_36 : ldT Tryz.prog 36 = some (false,1):=by kernel_rfl
theorem Tryz_szT_36 : szT Tryz.prog 36 = some 1:=by kernel_rfl
theorem Tryz_elT_36 : elT Tryz.prog 36 = some (45,4,32):=by kernel_rfl
theorem Tryz_strT_36 : strT Tryz.prog 36 = false:=by kernel_rfl
theorem Tryz_mapT_36 : mapT Tryz.prog 36 = false:=by kernel_rfl
theorem Tryz_ldT_38 : ldT Tryz.prog 38 = some (true,2):=by kernel_rfl
theorem Tryz_szT_38 : szT Tryz.prog 38 = some 2:=by kernel_rfl
theorem Tryz_flsT_38 : flsT Tryz.prog 38 = some [(0,1),(1,1)]:=by kernel_rfl
theorem Tryz_arrT_38 : arrT Tryz.prog 38 = none:=by kernel_rfl
theorem Tryz_zeroT_38 : zeroT Tryz.prog 38 = some [.d (.int .i64 0),.d .nils]:=by kernel_rfl
theorem Tryz_fldT_38_0 : fldT Tryz.prog 38 0 = some (0,1):=by kernel_rfl
theorem Tryz_fldT_38_1 : fldT Tryz.prog 38 1 = some (1,1):=by kernel_rfl
theorem Tryz_ldT_42 : ldT Tryz.prog 42 = some (true,2):=by kernel_rfl
theorem Tryz_szT_42 : szT Tryz.prog 42 = some 2:=by kernel_rfl
theorem Tryz_flsT_42 : flsT Tryz.prog 42 = some [(0,1),(1,1)]:=by kernel_rfl
theorem Tryz_arrT_42 : arrT Tryz.prog 42 = none:=by kernel_rfl
theorem Tryz_zeroT_42 : zeroT Tryz.prog 42 = some [.d (.int .i64 0),.d (.int .i64 0)]:=by kernel_rfl
theorem Tryz_boolT_42 : boolT Tryz.prog 42 = false:=by kernel_rfl
theorem Tryz_fldT_42_0 : fldT Tryz.prog 42 0 = some (0,1):=by kernel_rfl
theorem Tryz_fldT_42_1 : fldT Tryz.prog 42 1 = some (1,1):=by kernel_rfl
theorem Tryz_ldT_45 : ldT Tryz.prog 45 = some (true,4):=by kernel_rfl
theorem Tryz_szT_45 : szT Tryz.prog 45 = some 4:=by kernel_rfl
theorem Tryz_flsT_45 : flsT Tryz.prog 45 = some [(0,1),(1,1),(2,1),(3,1)]:=by kernel_rfl
theorem Tryz_arrT_45 : arrT Tryz.prog 45 = none:=by kernel_rfl
theorem Tryz_zeroT_45 : zeroT Tryz.prog 45 = some [.d (.int .i64 0),.d (.int .i64 0),.d (.int .i64 0),.d (.int .i64 0)]:=by kernel_rfl
theorem Tryz_boolT_45 : boolT Tryz.prog 45 = false:=by kernel_rfl
theorem Tryz_fldT_45_0 : fldT Tryz.prog 45 0 = some (0,1):=by kernel_rfl
theorem Tryz_fldT_45_1 : fldT Tryz.prog 45 1 = some (1,1):=by kernel_rfl
theorem Tryz_fldT_45_2 : fldT Tryz.prog 45 2 = some (2,1):=by kernel_rfl
theorem Tryz_fldT_45_3 : fldT Tryz.prog 45 3 = some (3,1):=by kernel_rfl
theorem Tryz_ldT_48 : ldT Tryz.prog 48 = some (true,5):=by kernel_rfl
theorem Tryz_szT_48 : szT Tryz.prog 48 = some 5:=by kernel_rfl
theorem Tryz_flsT_48 : flsT Tryz.prog 48 = some [(0,2),(2,2),(4,1)]:=by kernel_rfl
theorem Tryz_arrT_48 : arrT Tryz.prog 48 = none:=by kernel_rfl
theorem Tryz_zeroT_48 : zeroT Tryz.prog 48 = some [.d (.int .i64 0),.d (.int .i64 0),.d (.int .i64 0),.d (.int .i64 0),.d (.bool false)]:=by kernel_rfl
theorem Tryz_boolT_48 : boolT Tryz.prog 48 = false:=by kernel_rfl
theorem Tryz_fldT_48_0 : fldT Tryz.prog 48 0 = some (0,2):=by kernel_rfl
theorem Tryz_fldT_48_1 : fldT Tryz.prog 48 1 = some (2,2):=by kernel_rfl
theorem Tryz_fldT_48_2 : fldT Tryz.prog 48 2 = some (4,1):=by kernel_rfl
theorem Tryz_ldT_49 : ldT Tryz.prog 49 = some (false,1):=by kernel_rfl
theorem Tryz_zeroT_49 : zeroT Tryz.prog 49 = some [.d (.int .i64 0)]:=by kernel_rfl
theorem Tryz_boolT_49 : boolT Tryz.prog 49 = false:=by kernel_rfl
theorem Tryz_boolT_56 : boolT Tryz.prog 56 = false:=by kernel_rfl
theorem Tryz_ldT_58 : ldT Tryz.prog 58 = some (true,2):=by kernel_rfl
theorem Tryz_szT_58 : szT Tryz.prog 58 = some 2:=by kernel_rfl
theorem Tryz_flsT_58 : flsT Tryz.prog 58 = some [(0,1),(1,1)]:=by kernel_rfl
theorem Tryz_arrT_58 : arrT Tryz.prog 58 = none:=by kernel_rfl
theorem Tryz_zeroT_58 : zeroT Tryz.prog 58 = some [.d (.int .i64 0),.d (.int .i64 0)]:=by kernel_rfl
theorem Tryz_boolT_58 : boolT Tryz.prog 58 = false:=by kernel_rfl
theorem Tryz_elT_61 : elT Tryz.prog 61 = some (3,1,8):=by kernel_rfl
theorem Tryz_strT_61 : strT Tryz.prog 61 = false:=by kernel_rfl
theorem Tryz_mapT_61 : mapT Tryz.prog 61 = false:=by kernel_rfl
theorem Tryz_ldT_77 : ldT Tryz.prog 77 = some (false,1):=by kernel_rfl
theorem Tryz_szT_77 : szT Tryz.prog 77 = some 1:=by kernel_rfl
theorem Tryz_elT_77 : elT Tryz.prog 77 = some (5,1,1):=by kernel_rfl
theorem Tryz_strT_77 : strT Tryz.prog 77 = false:=by kernel_rfl
theorem Tryz_mapT_77 : mapT Tryz.prog 77 = false:=by kernel_rfl
theorem Tryz_ldT_80 : ldT Tryz.prog 80 = some (false,1):=by kernel_rfl
theorem Tryz_szT_80 : szT Tryz.prog 80 = some 1:=by kernel_rfl
theorem Tryz_elT_80 : elT Tryz.prog 80 = some (42,2,16):=by kernel_rfl
theorem Tryz_zeroT_80 : zeroT Tryz.prog 80 = some [.d .nils]:=by kernel_rfl
theorem Tryz_strT_80 : strT Tryz.prog 80 = false:=by kernel_rfl
theorem Tryz_mapT_80 : mapT Tryz.prog 80 = false:=by kernel_rfl
theorem Tryz_elT_85 : elT Tryz.prog 85 = some (49,1,8):=by kernel_rfl
theorem Tryz_strT_85 : strT Tryz.prog 85 = false:=by kernel_rfl
theorem Tryz_mapT_85 : mapT Tryz.prog 85 = false:=by kernel_rfl
theorem Tryz_elT_93 : elT Tryz.prog 93 = some (100,2,16):=by kernel_rfl
theorem Tryz_strT_93 : strT Tryz.prog 93 = false:=by kernel_rfl
theorem Tryz_mapT_93 : mapT Tryz.prog 93 = false:=by kernel_rfl
theorem Tryz_ldT_94 : ldT Tryz.prog 94 = some (false,1):=by kernel_rfl
theorem Tryz_szT_94 : szT Tryz.prog 94 = some 1:=by kernel_rfl
theorem Tryz_elT_94 : elT Tryz.prog 94 = none:=by kernel_rfl
theorem Tryz_zeroT_94 : zeroT Tryz.prog 94 = some [.any]:=by kernel_rfl
theorem Tryz_strT_94 : strT Tryz.prog 94 = false:=by kernel_rfl
theorem Tryz_mapT_94 : mapT Tryz.prog 94 = true:=by kernel_rfl
theorem Tryz_ldT_96 : ldT Tryz.prog 96 = some (false,1):=by kernel_rfl
theorem Tryz_ldT_98 : ldT Tryz.prog 98 = some (true,12):=by kernel_rfl
theorem Tryz_szT_98 : szT Tryz.prog 98 = some 12:=by kernel_rfl
theorem Tryz_flsT_98 : flsT Tryz.prog 98 = some [(0,8),(8,2),(10,2)]:=by kernel_rfl
theorem Tryz_arrT_98 : arrT Tryz.prog 98 = none:=by kernel_rfl
theorem Tryz_zeroT_98 : zeroT Tryz.prog 98 = some [.d (.int .i64 0),.d (.int .i64 0),.d (.int .i64 0),.d (.int .i64 0),.d (.int .i64 0),.d (.int .i64 0),.d .nils,.d .nils,.d (.int .i64 0),.d .nils,.d (.int .i64 0),.d (.int .i64 0)]:=by kernel_rfl
theorem Tryz_fldT_98_0 : fldT Tryz.prog 98 0 = some (0,8):=by kernel_rfl
theorem Tryz_fldT_98_1 : fldT Tryz.prog 98 1 = some (8,2):=by kernel_rfl
theorem Tryz_fldT_98_2 : fldT Tryz.prog 98 2 = some (10,2):=by kernel_rfl
theorem Tryz_ldT_100 : ldT Tryz.prog 100 = some (true,2):=by kernel_rfl
theorem Tryz_szT_100 : szT Tryz.prog 100 = some 2:=by kernel_rfl
theorem Tryz_flsT_100 : flsT Tryz.prog 100 = some [(0,1),(1,1)]:=by kernel_rfl
theorem Tryz_arrT_100 : arrT Tryz.prog 100 = none:=by kernel_rfl
theorem Tryz_zeroT_100 : zeroT Tryz.prog 100 = some [.d (.int .i64 0),.d (.int .i64 0)]:=by kernel_rfl
theorem Tryz_fldT_100_0 : fldT Tryz.prog 100 0 = some (0,1):=by kernel_rfl
theorem Tryz_fldT_100_1 : fldT Tryz.prog 100 1 = some (1,1):=by kernel_rfl
theorem Tryz_elT_116 : elT Tryz.prog 116 = some (9,1,16):=by kernel_rfl
theorem Tryz_strT_116 : strT Tryz.prog 116 = false:=by kernel_rfl
theorem Tryz_mapT_116 : mapT Tryz.prog 116 = false:=by kernel_rfl
theorem Tryz_szT_132 : szT Tryz.prog 132 = some 0:=by kernel_rfl
theorem Tryz_flsT_132 : flsT Tryz.prog 132 = some []:=by kernel_rfl
theorem Tryz_arrT_132 : arrT Tryz.prog 132 = none:=by kernel_rfl
theorem Tryz_zeroT_132 : zeroT Tryz.prog 132 = some []:=by kernel_rfl
theorem Tryz_szT_137 : szT Tryz.prog 137 = some 2:=by kernel_rfl
theorem Tryz_aggT_137 : aggT Tryz.prog 137 = some true:=by kernel_rfl
theorem Tryz_flsT_137 : flsT Tryz.prog 137 = some [(0,2)]:=by kernel_rfl
theorem Tryz_arrT_137 : arrT Tryz.prog 137 = none:=by kernel_rfl
theorem Tryz_zeroT_137 : zeroT Tryz.prog 137 = some [.d (.int .i64 0),.d (.int .i64 0)]:=by kernel_rfl
theorem Tryz_zagT_137 : zagT Tryz.prog 137 = some true:=by kernel_rfl
theorem Tryz_ifT_137 : ifT Tryz.prog 137 = false:=by kernel_rfl
theorem Tryz_fldT_137_0 : fldT Tryz.prog 137 0 = some (0,2):=by kernel_rfl
theorem Tryz_szT_139 : szT Tryz.prog 139 = some 1:=by kernel_rfl
theorem Tryz_aggT_139 : aggT Tryz.prog 139 = some true:=by kernel_rfl
theorem Tryz_flsT_139 : flsT Tryz.prog 139 = some [(0,1)]:=by kernel_rfl
theorem Tryz_arrT_139 : arrT Tryz.prog 139 = none:=by kernel_rfl
theorem Tryz_zeroT_139 : zeroT Tryz.prog 139 = some [.d (.str [])]:=by kernel_rfl
theorem Tryz_zagT_139 : zagT Tryz.prog 139 = some true:=by kernel_rfl
theorem Tryz_ifT_139 : ifT Tryz.prog 139 = false:=by kernel_rfl
theorem Tryz_szT_148 : szT Tryz.prog 148 = some 8:=by kernel_rfl
theorem Tryz_aggT_148 : aggT Tryz.prog 148 = some true:=by kernel_rfl
theorem Tryz_flsT_148 : flsT Tryz.prog 148 = some [(0,8)]:=by kernel_rfl
theorem Tryz_arrT_148 : arrT Tryz.prog 148 = none:=by kernel_rfl
theorem Tryz_zeroT_148 : zeroT Tryz.prog 148 = some [.d (.int .i64 0),.d (.int .i64 0),.d (.int .i64 0),.d (.int .i64 0),.d (.int .i64 0),.d (.int .i64 0),.d .nils,.d .nils]:=by kernel_rfl
theorem Tryz_zagT_148 : zagT Tryz.prog 148 = some true:=by kernel_rfl
theorem Tryz_ifT_148 : ifT Tryz.prog 148 = false:=by kernel_rfl
theorem Tryz_fldT_148_0 : fldT Tryz.prog 148 0 = some (0,8):=by kernel_rfl
theorem Tryz_szT_150 : szT Tryz.prog 150 = some 2:=by kernel_rfl
theorem Tryz_aggT_150 : aggT Tryz.prog 150 = some true:=by kernel_rfl
theorem Tryz_flsT_150 : flsT Tryz.prog 150 = some [(0,2)]:=by kernel_rfl
theorem Tryz_arrT_150 : arrT Tryz.prog 150 = none:=by kernel_rfl
theorem Tryz_zeroT_150 : zeroT Tryz.prog 150 = some [.d (.int .i64 0),.d .nils]:=by kernel_rfl
theorem Tryz_zagT_150 : zagT Tryz.prog 150 = some true:=by kernel_rfl
theorem Tryz_ifT_150 : ifT Tryz.prog 150 = false:=by kernel_rfl
theorem Tryz_fldT_150_0 : fldT Tryz.prog 150 0 = some (0,2):=by kernel_rfl
theorem Tryz_szT_152 : szT Tryz.prog 152 = some 4:=by kernel_rfl
theorem Tryz_aggT_152 : aggT Tryz.prog 152 = some true:=by kernel_rfl
theorem Tryz_flsT_152 : flsT Tryz.prog 152 = some [(0,4)]:=by kernel_rfl
theorem Tryz_arrT_152 : arrT Tryz.prog 152 = none:=by kernel_rfl
theorem Tryz_zeroT_152 : zeroT Tryz.prog 152 = some [.d (.int .i64 0),.d (.int .i64 0),.d (.int .i64 0),.d (.int .i64 0)]:=by kernel_rfl
theorem Tryz_zagT_152 : zagT Tryz.prog 152 = some true:=by kernel_rfl
theorem Tryz_ifT_152 : ifT Tryz.prog 152 = false:=by kernel_rfl
theorem Tryz_fldT_152_0 : fldT Tryz.prog 152 0 = some (0,4):=by kernel_rfl
theorem Tryz_szT_154 : szT Tryz.prog 154 = some 5:=by kernel_rfl
theorem Tryz_aggT_154 : aggT Tryz.prog 154 = some true:=by kernel_rfl
theorem Tryz_flsT_154 : flsT Tryz.prog 154 = some [(0,5)]:=by kernel_rfl
theorem Tryz_arrT_154 : arrT Tryz.prog 154 = none:=by kernel_rfl
theorem Tryz_zeroT_154 : zeroT Tryz.prog 154 = some [.d (.int .i64 0),.d (.int .i64 0),.d (.int .i64 0),.d (.int .i64 0),.d (.bool false)]:=by kernel_rfl
theorem Tryz_zagT_154 : zagT Tryz.prog 154 = some true:=by kernel_rfl
theorem Tryz_ifT_154 : ifT Tryz.prog 154 = false:=by kernel_rfl
theorem Tryz_fldT_154_0 : fldT Tryz.prog 154 0 = some (0,5):=by kernel_rfl
theorem Tryz_ldT_160 : ldT Tryz.prog 160 = some (true,4):=by kernel_rfl
theorem Tryz_szT_160 : szT Tryz.prog 160 = some 4:=by kernel_rfl
theorem Tryz_flsT_160 : flsT Tryz.prog 160 = none:=by kernel_rfl
theorem Tryz_arrT_160 : arrT Tryz.prog 160 = some (4,9,1):=by kernel_rfl
theorem Tryz_zeroT_160 : zeroT Tryz.prog 160 = some [.d (.str []),.d (.str []),.d (.str []),.d (.str [])]:=by kernel_rfl
theorem Tryz_strT_160 : strT Tryz.prog 160 = false:=by kernel_rfl
theorem Tryz_ldT_165 : ldT Tryz.prog 165 = some (false,1):=by kernel_rfl
theorem Tryz_ldT_166 : ldT Tryz.prog 166 = some (true,4):=by kernel_rfl
theorem Tryz_szT_166 : szT Tryz.prog 166 = some 4:=by kernel_rfl
theorem Tryz_flsT_166 : flsT Tryz.prog 166 = none:=by kernel_rfl
theorem Tryz_arrT_166 : arrT Tryz.prog 166 = some (4,165,1):=by kernel_rfl
theorem Tryz_zeroT_166 : zeroT Tryz.prog 166 = some [.any,.any,.any,.any]:=by kernel_rfl
theorem Tryz_strT_166 : strT Tryz.prog 166 = false:=by kernel_rfl
theorem Tryz_ldT_179 : ldT Tryz.prog 179 = some (false,1):=by kernel_rfl
theorem Tryz_szT_179 : szT Tryz.prog 179 = some 1:=by kernel_rfl
theorem Tryz_boolT_179 : boolT Tryz.prog 179 = false:=by kernel_rfl
theorem Tryz_strT_179 : strT Tryz.prog 179 = false:=by kernel_rfl
theorem Tryz_zeroT_181 : zeroT Tryz.prog 181 = some [.any,.d .nils]:=by kernel_rfl
theorem Tryz_fldT_181_0 : fldT Tryz.prog 181 0 = some (0,1):=by kernel_rfl
theorem Tryz_fldT_181_1 : fldT Tryz.prog 181 1 = some (1,1):=by kernel_rfl
theorem Tryz_elT_197 : elT Tryz.prog 197 = none:=by kernel_rfl
theorem Tryz_zeroT_197 : zeroT Tryz.prog 197 = some [.d (.int .u8 0),.d (.int .u8 0),.d (.int .u8 0),.d (.int .u8 0),.d (.int .u8 0),.d (.int .u8 0),.d (.int .u8 0),.d (.int .u8 0),.d (.int .u8 0),.d (.int .u8 0),.d (.int .u8 0),.d (.int .u8 0),.d (.int .u8 0),.d (.int .u8 0),.d (.int .u8 0),.d (.int .u8 0),.d (.int .u8 0),.d (.int .u8 0),.d (.int .u8 0),.d (.int .u8 0),.d (.int .u8 0),.d (.int .u8 0),.d (.int .u8 0),.d (.int .u8 0)]:=by kernel_rfl
theorem Tryz_strT_197 : strT Tryz.prog 197 = false:=by kernel_rfl
theorem Tryz_ldT_198 : ldT Tryz.prog 198 = some (false,1):=by kernel_rfl
theorem Tryz_intT_198 : intT Tryz.prog 198 = some .u64:=by kernel_rfl
theorem Tryz_boolT_198 : boolT Tryz.prog 198 = false:=by kernel_rfl
theorem Tryz_strT_198 : strT Tryz.prog 198 = false:=by kernel_rfl
theorem Tryz_strT_203 : strT Tryz.prog 203 = false:=by kernel_rfl
theorem Tryz_szT_211 : szT Tryz.prog 211 = some 20:=by kernel_rfl
theorem Tryz_flsT_211 : flsT Tryz.prog 211 = none:=by kernel_rfl
theorem Tryz_elT_211 : elT Tryz.prog 211 = none:=by kernel_rfl
theorem Tryz_arrT_211 : arrT Tryz.prog 211 = some (20,198,1):=by kernel_rfl
theorem Tryz_zeroT_211 : zeroT Tryz.prog 211 = some [.d (.int .u64 0),.d (.int .u64 0),.d (.int .u64 0),.d (.int .u64 0),.d (.int .u64 0),.d (.int .u64 0),.d (.int .u64 0),.d (.int .u64 0),.d (.int .u64 0),.d (.int .u64 0),.d (.int .u64 0),.d (.int .u64 0),.d (.int .u64 0),.d (.int .u64 0),.d (.int .u64 0),.d (.int .u64 0),.d (.int .u64 0),.d (.int .u64 0),.d (.int .u64 0),.d (.int .u64 0)]:=by kernel_rfl
theorem Tryz_intT_212 : intT Tryz.prog 212 = some .u32:=by kernel_rfl
theorem Tryz_boolT_212 : boolT Tryz.prog 212 = false:=by kernel_rfl
theorem Tryz_strT_212 : strT Tryz.prog 212 = false:=by kernel_rfl
theorem Tryz_elT_213 : elT Tryz.prog 213 = none:=by kernel_rfl
theorem Tryz_strT_213 : strT Tryz.prog 213 = false:=by kernel_rfl
theorem Tryz_intT_215 : intT Tryz.prog 215 = some .u64:=by kernel_rfl
theorem Tryz_strT_215 : strT Tryz.prog 215 = false:=by kernel_rfl
theorem Tryz_elT_218 : elT Tryz.prog 218 = none:=by kernel_rfl
theorem Tryz_ldT_220 : ldT Tryz.prog 220 = some (true,2):=by kernel_rfl
theorem Tryz_szT_220 : szT Tryz.prog 220 = some 2:=by kernel_rfl
theorem Tryz_flsT_220 : flsT Tryz.prog 220 = some [(0,1),(1,1)]:=by kernel_rfl
theorem Tryz_arrT_220 : arrT Tryz.prog 220 = none:=by kernel_rfl
theorem Tryz_zeroT_220 : zeroT Tryz.prog 220 = some [.d (.int .u8 0),.d (.int .u8 0)]:=by kernel_rfl
theorem Tryz_fldT_220_0 : fldT Tryz.prog 220 0 = some (0,1):=by kernel_rfl
theorem Tryz_fldT_220_1 : fldT Tryz.prog 220 1 = some (1,1):=by kernel_rfl
theorem Tryz_szT_221 : szT Tryz.prog 221 = some 32:=by kernel_rfl
theorem Tryz_flsT_221 : flsT Tryz.prog 221 = none:=by kernel_rfl
theorem Tryz_elT_221 : elT Tryz.prog 221 = none:=by kernel_rfl
theorem Tryz_arrT_221 : arrT Tryz.prog 221 = some (16,220,2):=by kernel_rfl
theorem Tryz_zeroT_221 : zeroT Tryz.prog 221 = some [.d (.int .u8 0),.d (.int .u8 0),.d (.int .u8 0),.d (.int .u8 0),.d (.int .u8 0),.d (.int .u8 0),.d (.int .u8 0),.d (.int .u8 0),.d (.int .u8 0),.d (.int .u8 0),.d (.int .u8 0),.d (.int .u8 0),.d (.int .u8 0),.d (.int .u8 0),.d (.int .u8 0),.d (.int .u8 0),.d (.int .u8 0),.d (.int .u8 0),.d (.int .u8 0),.d (.int .u8 0),.d (.int .u8 0),.d (.int .u8 0),.d (.int .u8 0),.d (.int .u8 0),.d (.int .u8 0),.d (.int .u8 0),.d (.int .u8 0),.d (.int .u8 0),.d (.int .u8 0),.d (.int .u8 0),.d (.int .u8 0),.d (.int .u8 0)]:=by kernel_rfl
theorem Tryz_szT_224 : szT Tryz.prog 224 = some 32:=by kernel_rfl
theorem Tryz_flsT_224 : flsT Tryz.prog 224 = none:=by kernel_rfl
theorem Tryz_elT_224 : elT Tryz.prog 224 = none:=by kernel_rfl
theorem Tryz_arrT_224 : arrT Tryz.prog 224 = some (32,5,1):=by kernel_rfl
theorem Tryz_zeroT_224 : zeroT Tryz.prog 224 = some [.d (.int .u8 0),.d (.int .u8 0),.d (.int .u8 0),.d (.int .u8 0),.d (.int .u8 0),.d (.int .u8 0),.d (.int .u8 0),.d (.int .u8 0),.d (.int .u8 0),.d (.int .u8 0),.d (.int .u8 0),.d (.int .u8 0),.d (.int .u8 0),.d (.int .u8 0),.d (.int .u8 0),.d (.int .u8 0),.d (.int .u8 0),.d (.int .u8 0),.d (.int .u8 0),.d (.int .u8 0),.d (.int .u8 0),.d (.int .u8 0),.d (.int .u8 0),.d (.int .u8 0),.d (.int .u8 0),.d (.int .u8 0),.d (.int .u8 0),.d (.int .u8 0),.d (.int .u8 0),.d (.int .u8 0),.d (.int .u8 0),.d (.int .u8 0)]:=by kernel_rfl
theorem Tryz_szT_225 : szT Tryz.prog 225 = some 64:=by kernel_rfl
theorem Tryz_flsT_225 : flsT Tryz.prog 225 = none:=by kernel_rfl
theorem Tryz_elT_225 : elT Tryz.prog 225 = none:=by kernel_rfl
theorem Tryz_arrT_225 : arrT Tryz.prog 225 = some (64,5,1):=by kernel_rfl
attribute [go_sem] Tryz_intT_2 Tryz_strT_2 Tryz_ldT_3 Tryz_szT_3 Tryz_zeroT_3 Tryz_intT_3 Tryz_boolT_3 Tryz_strT_3
attribute [go_sem] Tryz_ldT_4 Tryz_boolT_4 Tryz_ldT_5 Tryz_szT_5 Tryz_zeroT_5 Tryz_intT_5 Tryz_boolT_5 Tryz_strT_5
attribute [go_sem] Tryz_ldT_9 Tryz_szT_9 Tryz_elT_9 Tryz_arrT_9 Tryz_zeroT_9 Tryz_boolT_9 Tryz_strT_9 Tryz_ifT_9
attribute [go_sem] Tryz_mapT_9 Tryz_boolT_20 Tryz_intT_21 Tryz_strT_21 Tryz_ldT_23 Tryz_szT_23 Tryz_flsT_23 Tryz_arrT_23
attribute [go_sem] Tryz_zeroT_23 Tryz_boolT_23 Tryz_fldT_23_0 Tryz_fldT_23_1 Tryz_ldT_24 Tryz_szT_24 Tryz_elT_24 Tryz_strT_24
attribute [go_sem] Tryz_mapT_24 Tryz_ldT_25 Tryz_szT_25 Tryz_elT_25 Tryz_strT_25 Tryz_mapT_25 Tryz_ldT_27 Tryz_szT_27
attribute [go_sem] Tryz_flsT_27 Tryz_arrT_27 Tryz_zeroT_27 Tryz_fldT_27_0 Tryz_fldT_27_1 Tryz_fldT_27_2 Tryz_fldT_27_3 Tryz_fldT_27_4
attribute [go_sem] Tryz_fldT_27_5 Tryz_ldT_30 Tryz_szT_30 Tryz_zeroT_30 Tryz_boolT_30 Tryz_ldT_36 Tryz_szT_36 Tryz_elT_36
attribute [go_sem] Tryz_strT_36 Tryz_mapT_36 Tryz_ldT_38 Tryz_szT_38 Tryz_flsT_38 Tryz_arrT_38 Tryz_zeroT_38 Tryz_fldT_38_0
attribute [go_sem] Tryz_fldT_38_1 Tryz_ldT_42 Tryz_szT_42 Tryz_flsT_42 Tryz_arrT_42 Tryz_zeroT_42 Tryz_boolT_42 Tryz_fldT_42_0
attribute [go_sem] Tryz_fldT_42_1 Tryz_ldT_45 Tryz_szT_45 Tryz_flsT_45 Tryz_arrT_45 Tryz_zeroT_45 Tryz_boolT_45 Tryz_fldT_45_0
attribute [go_sem] Tryz_fldT_45_1 Tryz_fldT_45_2 Tryz_fldT_45_3 Tryz_ldT_48 Tryz_szT_48 Tryz_flsT_48 Tryz_arrT_48 Tryz_zeroT_48
attribute [go_sem] Tryz_boolT_48 Tryz_fldT_48_0 Tryz_fldT_48_1 Tryz_fldT_48_2 Tryz_ldT_49 Tryz_zeroT_49 Tryz_boolT_49 Tryz_boolT_56
attribute [go_sem] Tryz_ldT_58 Tryz_szT_58 Tryz_flsT_58 Tryz_arrT_58 Tryz_zeroT_58 Tryz_boolT_58 Tryz_elT_61 Tryz_strT_61
attribute [go_sem] Tryz_mapT_61 Tryz_ldT_77 Tryz_szT_77 Tryz_elT_77 Tryz_strT_77 Tryz_mapT_77 Tryz_ldT_80 Tryz_szT_80
attribute [go_sem] Tryz_elT_80 Tryz_zeroT_80 Tryz_strT_80 Tryz_mapT_80 Tryz_elT_85 Tryz_strT_85 Tryz_mapT_85 Tryz_elT_93
attribute [go_sem] Tryz_strT_93 Tryz_mapT_93 Tryz_ldT_94 Tryz_szT_94 Tryz_elT_94 Tryz_zeroT_94 Tryz_strT_94 Tryz_mapT_94
attribute [go_sem] Tryz_ldT_96 Tryz_ldT_98 Tryz_szT_98 Tryz_flsT_98 Tryz_arrT_98 Tryz_zeroT_98 Tryz_fldT_98_0 Tryz_fldT_98_1
attribute [go_sem] Tryz_fldT_98_2 Tryz_ldT_100 Tryz_szT_100 Tryz_flsT_100 Tryz_arrT_100 Tryz_zeroT_100 Tryz_fldT_100_0 Tryz_fldT_100_1
attribute [go_sem] Tryz_elT_116 Tryz_strT_116 Tryz_mapT_116 Tryz_szT_132 Tryz_flsT_132 Tryz_arrT_132 Tryz_zeroT_132 Tryz_szT_137
attribute [go_sem] Tryz_aggT_137 Tryz_flsT_137 Tryz_arrT_137 Tryz_zeroT_137 Tryz_zagT_137 Tryz_ifT_137 Tryz_fldT_137_0 Tryz_szT_139
attribute [go_sem] Tryz_aggT_139 Tryz_flsT_139 Tryz_arrT_139 Tryz_zeroT_139 Tryz_zagT_139 Tryz_ifT_139 Tryz_szT_148 Tryz_aggT_148
attribute [go_sem] Tryz_flsT_148 Tryz_arrT_148 Tryz_zeroT_148 Tryz_zagT_148 Tryz_ifT_148 Tryz_fldT_148_0 Tryz_szT_150 Tryz_aggT_150
attribute [go_sem] Tryz_flsT_150 Tryz_arrT_150 Tryz_zeroT_150 Tryz_zagT_150 Tryz_ifT_150 Tryz_fldT_150_0 Tryz_szT_152 Tryz_aggT_152
attribute [go_sem] Tryz_flsT_152 Tryz_arrT_152 Tryz_zeroT_152 Tryz_zagT_152 Tryz_ifT_152 Tryz_fldT_152_0 Tryz_szT_154 Tryz_aggT_154
attribute [go_sem] Tryz_flsT_154 Tryz_arrT_154 Tryz_zeroT_154 Tryz_zagT_154 Tryz_ifT_154 Tryz_fldT_154_0 Tryz_ldT_160 Tryz_szT_160
attribute [go_sem] Tryz_flsT_160 Tryz_arrT_160 Tryz_zeroT_160 Tryz_strT_160 Tryz_ldT_165 Tryz_ldT_166 Tryz_szT_166 Tryz_flsT_166
attribute [go_sem] Tryz_arrT_166 Tryz_zeroT_166 Tryz_strT_166 Tryz_ldT_179 Tryz_szT_179 Tryz_boolT_179 Tryz_strT_179 Tryz_zeroT_181
attribute [go_sem] Tryz_fldT_181_0 Tryz_fldT_181_1 Tryz_elT_197 Tryz_zeroT_197 Tryz_strT_197 Tryz_ldT_198 Tryz_intT_198 Tryz_boolT_198
attribute [go_sem] Tryz_strT_198 Tryz_strT_203 Tryz_szT_211 Tryz_flsT_211 Tryz_elT_211 Tryz_arrT_211 Tryz_zeroT_211 Tryz_intT_212
attribute [go_sem] Tryz_boolT_212 Tryz_strT_212 Tryz_elT_213 Tryz_strT_213 Tryz_intT_215 Tryz_strT_215 Tryz_elT_218 Tryz_ldT_220
attribute [go_sem] Tryz_szT_220 Tryz_flsT_220 Tryz_arrT_220 Tryz_zeroT_220 Tryz_fldT_220_0 Tryz_fldT_220_1 Tryz_szT_221 Tryz_flsT_221
attribute [go_sem] Tryz_elT_221 Tryz_arrT_221 Tryz_zeroT_221 Tryz_szT_224 Tryz_flsT_224 Tryz_elT_224 Tryz_arrT_224 Tryz_zeroT_224
attribute [go_sem] Tryz_szT_225 Tryz_flsT_225 Tryz_elT_225 Tryz_arrT_225
end Go.Proofs.Sight
namespace Go.Proofs.Sight
open Go Go.RX
theorem Tryz_strT_45 : strT Tryz.prog 45 = false:=by kernel_rfl
theorem Tryz_strT_38 : strT Tryz.prog 38 = false:=by kernel_rfl
theorem Tryz_strT_48 : strT Tryz.prog 48 = false:=by kernel_rfl
theorem Tryz_strT_49 : strT Tryz.prog 49 = false:=by kernel_rfl
theorem Tryz_strT_42 : strT Tryz.prog 42 = false:=by kernel_rfl
theorem Tryz_strT_100 : strT Tryz.prog 100 = false:=by kernel_rfl
theorem Tryz_strT_4 : strT Tryz.prog 4 = false:=by kernel_rfl
attribute [go_sem] Tryz_strT_45 Tryz_strT_38 Tryz_strT_48 Tryz_strT_49 Tryz_strT_42 Tryz_strT_100 Tryz_strT_4
end Go.Proofs.Sight
namespace Go.Proofs.Sight
open Go Go.RX Go.Proofs
set_option maxRecDepth 10000
def Tabs (w : World) : Prop:=Lib.TabIs Tryz.prog w "internal/strconv.uint64pow10" .u64 Lib.pow10Tab ∧ ∃ m,w.cell? ⟨1,0,none⟩ = some (.int .i64 m)
theorem Tabs.st (w w' : World) (h : Tabs w) (hb : Go.RowKit.Below w.heap.size w w') : Tabs w':=by
  obtain ⟨h1,m,h2⟩:=h
  refine ⟨?_,m,?_⟩
  · unfold Lib.TabIs World.var? at h1 ⊢
    cases hg : Tryz.prog.globalNamed "internal/strconv.uint64pow10" with
    | none => rw [hg] at h1; cases h1
    | some g =>
      rw [hg] at h1
      simp only [Option.bind_some] at h1 ⊢
      have hlt : g < w.heap.size:=by
        rcases Nat.lt_or_ge g w.heap.size with h | h
        · exact h
        · rw [Array.getElem?_eq_none h] at h1; cases h1
      rw [hb.block g hlt]; exact h1
  · have hlt : 1 < w.heap.size:=by
      rcases Nat.lt_or_ge 1 w.heap.size with h | h
      · exact h
      · unfold World.cell? at h2
        rw [Array.getElem?_eq_none h] at h2; cases h2
    exact (hb.cell (p:=⟨1,0,none⟩) hlt).trans h2
instance : Glob:=⟨Tabs,Tabs.st⟩
structure Letter where
  h : Int
  w : Int
  s : Int
  p : Int
  deriving Inhabited,DecidableEq
structure Board where
  at_ : Int
  ls : List Letter
  deriving Inhabited,DecidableEq
structure Block where
  al : Int
  ah : Int
  cl : Int
  ch : Int
  sure : Bool
  deriving Inhabited,DecidableEq
structure Street where
  len : Int
  wid : Int
  el : Int
  eh : Int
  ll : Int
  lh : Int
  bs : List Board
  ks : List Block
  deriving Inhabited,DecidableEq
structure Place where
  al : Int
  ac : Int
  deriving Inhabited,DecidableEq
abbrev slD {α : Type} [Inhabited α] (k : Nat) (f : α → Nat → DV) (l : List α) : DV:=.sl k l.length (fun i => f (l.getD i default))
abbrev iD (n : Int) : DV:=.int .i64 n
def letD (l : Letter) : Nat → DV
  | 0 => iD l.h | 1 => iD l.w | 2 => iD l.s | 3 => iD l.p | _ => .nilI
def boaD (b : Board) : Nat → DV
  | 0 => iD b.at_ | 1 => slD 4 letD b.ls | _ => .nilI
def bloD (k : Block) : Nat → DV
  | 0 => iD k.al | 1 => iD k.ah | 2 => iD k.cl | 3 => iD k.ch | 4 => .bool k.sure | _ => .nilI
def plaD (p : Place) : Nat → DV
  | 0 => iD p.al | 1 => iD p.ac | _ => .nilI
theorem letD_0 (l : Letter) : letD l 0 = iD l.h:=rfl
theorem letD_1 (l : Letter) : letD l 1 = iD l.w:=rfl
theorem letD_2 (l : Letter) : letD l 2 = iD l.s:=rfl
theorem letD_3 (l : Letter) : letD l 3 = iD l.p:=rfl
theorem boaD_0 (b : Board) : boaD b 0 = iD b.at_:=rfl
theorem boaD_1 (b : Board) : boaD b 1 = slD 4 letD b.ls:=rfl
theorem bloD_0 (k : Block) : bloD k 0 = iD k.al:=rfl
theorem bloD_1 (k : Block) : bloD k 1 = iD k.ah:=rfl
theorem bloD_2 (k : Block) : bloD k 2 = iD k.cl:=rfl
theorem bloD_3 (k : Block) : bloD k 3 = iD k.ch:=rfl
theorem bloD_4 (k : Block) : bloD k 4 = .bool k.sure:=rfl
theorem plaD_0 (p : Place) : plaD p 0 = iD p.al:=rfl
theorem plaD_1 (p : Place) : plaD p 1 = iD p.ac:=rfl
attribute [go_sem] letD_0 letD_1 letD_2 letD_3 boaD_0 boaD_1 bloD_0 bloD_1 bloD_2 bloD_3 bloD_4 plaD_0 plaD_1
abbrev iS (n : Int) : SV:=.d (.int .i64 n)
abbrev bS (b : Bool) : SV:=.d (.bool b)
abbrev Letter.sv (l : Letter) : SV:=.agg [iS l.h,iS l.w,iS l.s,iS l.p]
abbrev Board.sv (b : Board) : SV:=.agg [iS b.at_,.d (slD 4 letD b.ls)]
abbrev Block.sv (k : Block) : SV:=.agg [iS k.al,iS k.ah,iS k.cl,iS k.ch,bS k.sure]
abbrev Place.sv (p : Place) : SV:=.agg [iS p.al,iS p.ac]
abbrev Street.sv (s : Street) : SV:=.agg [iS s.len,iS s.wid,iS s.el,iS s.eh,iS s.ll,iS s.lh,.d (slD 2 boaD s.bs),.d (slD 5 bloD s.ks)]
def inR (n lo hi : Int) : Bool:=decide (lo ≤ n) && decide (n ≤ hi)
theorem c114 (n lo hi : Int) : Ctr Tryz.prog 87 [iS n,iS lo,iS hi] (bS (inR n lo hi)):=by
  (refine Ctr.mk (fn:=Tryz.f87) rfl rfl rfl rfl rfl Tryz.results87 ?_; dsimp only [args,List.toList_toArray])
  ((first | refine qS rfl rfl ?_ | refine qR rfl rfl ?_); simp only [go_sem,↓dP,↓reduceIte]; with_reducible and_intros; all_goals first | apply qA | exact ⟨⟩ | rfl | (intros; apply qB; first | kernel_rfl | omega) | omega | skip)
  ((first | refine qS rfl rfl ?_ | refine qR rfl rfl ?_); simp only [go_sem,↓dP,↓reduceIte]; with_reducible and_intros; all_goals first | apply qA | exact ⟨⟩ | rfl | (intros; apply qB; first | kernel_rfl | omega) | omega | skip)
  (refine Ok.ret ?_; (try dsimp only [thenK,blockK,noGotoK]); simp only [toList_mk,List.toList_toArray,retK_ret,retK_normal,resOK,resV,celV,rowV,frzAll,frzT,subV,subL,go_sem,↓dP,↓reduceIte])
  exact .refl _
def spanR (l h lo hi : Int) : Bool:=inR l lo hi && inR h l hi
theorem c125 (l h lo hi : Int) : Ctr Tryz.prog 96 [.agg [iS l,iS h],iS lo,iS hi] (bS (spanR l h lo hi)):=by
  (refine Ctr.mk (fn:=Tryz.f96) rfl rfl rfl rfl rfl Tryz.results96 ?_; dsimp only [args,List.toList_toArray])
  ((first | refine qS rfl rfl ?_ | refine qR rfl rfl ?_); simp only [go_sem,↓dP,↓reduceIte]; with_reducible and_intros; all_goals first | apply qA | exact ⟨⟩ | rfl | (intros; apply qB; first | kernel_rfl | omega) | omega | skip)
  ((first | refine qS rfl rfl ?_ | refine qR rfl rfl ?_); simp only [go_sem,↓dP,↓reduceIte]; with_reducible and_intros; all_goals first | apply qA | exact ⟨⟩ | rfl | (intros; apply qB; first | kernel_rfl | omega) | omega | skip)
  (refine AskI.ret (c114 _ _ _) ?_; simp only [go_sem,↓dP,↓reduceIte]; with_reducible and_intros; all_goals first | apply qA | exact ⟨⟩ | rfl | (intros; apply qB; first | kernel_rfl | omega) | omega | skip)
  (refine AskGI.ret (fun _ => c114 _ _ _) ?_; simp only [go_sem,↓dP,↓reduceIte]; with_reducible and_intros; all_goals first | apply qA | exact ⟨⟩ | rfl | (intros; apply qB; first | kernel_rfl | omega) | omega | skip)
  (refine Ok.ret ?_; (try dsimp only [thenK,blockK,noGotoK]); simp only [toList_mk,List.toList_toArray,retK_ret,retK_normal,resOK,resV,celV,rowV,frzAll,frzT,subV,subL,go_sem,↓dP,↓reduceIte])
  exact .refl _
def isLetter (l : Letter) : Bool:=inR l.h 1 30 && inR l.w 1 30 && inR l.s 1 10 && inR l.p 0 20
theorem c148 (l : Letter) : Ctr Tryz.prog 120 [l.sv] (bS (isLetter l)):=by
  (refine Ctr.mk (fn:=Tryz.f120) rfl rfl rfl rfl rfl Tryz.results120 ?_; dsimp only [args,List.toList_toArray])
  ((first | refine qS rfl rfl ?_ | refine qR rfl rfl ?_); simp only [go_sem,↓dP,↓reduceIte]; with_reducible and_intros; all_goals first | apply qA | exact ⟨⟩ | rfl | (intros; apply qB; first | kernel_rfl | omega) | omega | skip)
  ((first | refine qS rfl rfl ?_ | refine qR rfl rfl ?_); simp only [go_sem,↓dP,↓reduceIte]; with_reducible and_intros; all_goals first | apply qA | exact ⟨⟩ | rfl | (intros; apply qB; first | kernel_rfl | omega) | omega | skip)
  (refine AskI.ret (c114 _ _ _) ?_; simp only [go_sem,↓dP,↓reduceIte]; with_reducible and_intros; all_goals first | apply qA | exact ⟨⟩ | rfl | (intros; apply qB; first | kernel_rfl | omega) | omega | skip)
  (refine AskGI.ret (fun _ => c114 _ _ _) ?_; simp only [go_sem,↓dP,↓reduceIte]; with_reducible and_intros; all_goals first | apply qA | exact ⟨⟩ | rfl | (intros; apply qB; first | kernel_rfl | omega) | omega | skip)
  (refine AskGI.ret (fun _ => c114 _ _ _) ?_; simp only [go_sem,↓dP,↓reduceIte]; with_reducible and_intros; all_goals first | apply qA | exact ⟨⟩ | rfl | (intros; apply qB; first | kernel_rfl | omega) | omega | skip)
  (refine AskGI.ret (fun _ => c114 _ _ _) ?_; simp only [go_sem,↓dP,↓reduceIte]; with_reducible and_intros; all_goals first | apply qA | exact ⟨⟩ | rfl | (intros; apply qB; first | kernel_rfl | omega) | omega | skip)
  (refine Ok.ret ?_; (try dsimp only [thenK,blockK,noGotoK]); simp only [toList_mk,List.toList_toArray,retK_ret,retK_normal,resOK,resV,celV,rowV,frzAll,frzT,subV,subL,go_sem,↓dP,↓reduceIte])
  exact .refl _
theorem c147 (l : Letter) : Ctr Tryz.prog 119 [l.sv] (bS (!isLetter l)):=by
  (refine Ctr.mk (fn:=Tryz.f119) rfl rfl rfl rfl rfl Tryz.results119 ?_; dsimp only [args,List.toList_toArray])
  ((first | refine qS rfl rfl ?_ | refine qR rfl rfl ?_); simp only [go_sem,↓dP,↓reduceIte]; with_reducible and_intros; all_goals first | apply qA | exact ⟨⟩ | rfl | (intros; apply qB; first | kernel_rfl | omega) | omega | skip)
  ((first | refine qS rfl rfl ?_ | refine qR rfl rfl ?_); simp only [go_sem,↓dP,↓reduceIte]; with_reducible and_intros; all_goals first | apply qA | exact ⟨⟩ | rfl | (intros; apply qB; first | kernel_rfl | omega) | omega | skip)
  (refine AskI.ret (c148 l) ?_; simp only [go_sem,↓dP,↓reduceIte]; with_reducible and_intros; all_goals first | apply qA | exact ⟨⟩ | rfl | (intros; apply qB; first | kernel_rfl | omega) | omega | skip)
  (refine Ok.ret ?_; (try dsimp only [thenK,blockK,noGotoK]); simp only [toList_mk,List.toList_toArray,retK_ret,retK_normal,resOK,resV,celV,rowV,frzAll,frzT,subV,subL,go_sem,↓dP,↓reduceIte])
  exact .refl _
end Go.Proofs.Sight
namespace Go.Proofs.Sight
open Go Go.RX Go.Proofs
def ixL {α : Type} (q : α → Bool) (l : List α) : Int:=match l.findIdx? q with | some i => i | none => -1
theorem getD_mem {α : Type} [Inhabited α] {l : List α} {i : Nat} (h : i < l.length) : l.getD i default ∈ l:=by
  rw [List.getD_eq_getElem?_getD,List.getElem?_eq_getElem h]; exact List.getElem_mem h
theorem getD_lt {α : Type} [Inhabited α] {l : List α} {i : Nat} (h : i < l.length) : l.getD i default = l[i]:=by
  rw [List.getD_eq_getElem?_getD,List.getElem?_eq_getElem h]; rfl
theorem getD_take {α : Type} [Inhabited α] {l : List α} {i : Nat} (h : i < l.length) : l.take (i + 1) = l.take i ++ [l.getD i default]:=by
  rw [getD_lt h,List.take_succ_eq_append_getElem h]
theorem ixL_at {α : Type} [Inhabited α] {q : α → Bool} {l : List α} {i : Nat} (hi : i < l.length) (h1 : q (l.getD i default) = true) (h0 : ∀ x ∈ l.take i,q x = false) : ixL q l = i:=by
  unfold ixL
  have : l.findIdx? q = some i:=by
    rw [List.findIdx?_eq_some_iff_getElem]
    refine ⟨hi,by rw [getD_lt hi] at h1; exact h1,fun j hj => ?_⟩
    have:=h0 (l[j]'(by omega)) (by rw [List.mem_take_iff_getElem]; exact ⟨j,by omega,rfl⟩)
    simp [this]
  rw [this]
theorem ixL_no {α : Type} {q : α → Bool} {l : List α} (h0 : ∀ x ∈ l,q x = false) : ixL q l = -1:=by
  unfold ixL
  have : l.findIdx? q = none:=by
    rw [List.findIdx?_eq_none_iff]; exact h0
  rw [this]
theorem ixL_any {α : Type} (q : α → Bool) (l : List α) : decide (0 ≤ ixL q l) = l.any q:=by
  unfold ixL
  cases h : l.findIdx? q with
  | none =>
    rw [List.findIdx?_eq_none_iff] at h
    have : l.any q = false:=by rw [List.any_eq_false]; intro x hx; simp [h x hx]
    rw [this]; rfl
  | some i =>
    rw [List.findIdx?_eq_some_iff_getElem] at h
    obtain ⟨h1,h2,_⟩:=h
    have : l.any q = true:=by rw [List.any_eq_true]; exact ⟨_,List.getElem_mem h1,h2⟩
    rw [this]; simp
theorem no_step {α : Type} [Inhabited α] {q : α → Bool} {l : List α} {i : Nat} (hi : i < l.length) (h0 : ∀ x ∈ l.take i,q x = false) (h1 : q (l.getD i default) = false) : ∀ x ∈ l.take (i + 1),q x = false:=by
  intro x hx
  rw [getD_take hi,List.mem_append] at hx
  rcases hx with hx | hx
  · exact h0 x hx
  · simp at hx; rw [hx]; simpa using h1
theorem slice_D {α : Type} [Inhabited α] {k n m a : Nat} {f : α → Nat → DV} {l : List α} (hn : n = m) (ha : a + m ≤ l.length) : DEq (.sl k n (fun i j => f (l.getD (a + i) default) j)) (slD k f ((l.drop a).take m)):=by
  subst hn
  refine DEq.sl (by simp; omega) (fun i j hi hj => .of_eq ?_)
  have e : ((l.drop a).take n).getD i default = l.getD (a + i) default:=by
    rw [List.getD_eq_getElem?_getD,List.getD_eq_getElem?_getD,List.getElem?_take_of_lt hi,List.getElem?_drop]
  rw [e]
end Go.Proofs.Sight
namespace Go.Proofs.Sight
open Go Go.RX Go.Proofs
set_option maxRecDepth 10000
theorem c156 (l : List Letter) (f m : Nat) (c : Nat → DV) (q : Letter → Bool) (hn : l.length < 1000000) (hf : ∀ x ∈ l,Ctr Tryz.prog f (x.sv :: take c 0 m) (bS (q x))) :
    Ctr Tryz.prog 134 [.d (slD 4 letD l),.d (.clo f m c)] (iS (ixL q l)):=by
  (refine Ctr.mk (fn:=Tryz.f134) rfl rfl rfl rfl rfl Tryz.results134 ?_; dsimp only [args,List.toList_toArray])
  ((first | refine qS rfl rfl ?_ | refine qR rfl rfl ?_); simp only [go_sem,↓dP,↓reduceIte]; with_reducible and_intros; all_goals first | apply qA | exact ⟨⟩ | rfl | (intros; apply qB; first | kernel_rfl | omega) | omega | skip)
  refine Ok.seq ?_
  ((first | refine qS rfl rfl ?_ | refine qR rfl rfl ?_); simp only [go_sem,↓dP,↓reduceIte]; with_reducible and_intros; all_goals first | apply qA | exact ⟨⟩ | rfl | (intros; apply qB; first | kernel_rfl | omega) | omega | skip)
  refine Ok.block ?_
  refine Ok.count l.length (fun i => ⟨[(0,.d (slD 4 letD l)),(1,.d (.clo f m c)),(7,iS l.length),(8,iS i)],[],[]⟩) (fun i => ∀ x ∈ l.take i,q x = false) ⟨fun x hx => by simp at hx,?_⟩ ?_ ?_
  · (refine Sub.of ([]) ([]) ?_ ?_ ?_ rfl rfl <;> simp only [subB,subB1,subT,subT1,newT,subE,subV,subL,go_sem,↓dP,↓reduceIte] <;> (try (repeat' with_reducible apply And.intro)) <;> (try first | exact DEq.refl _ | refine DEq.int ?_ | refine DEq.bool ?_ | omega))
  · intro i hi h0
    ((first | refine qS rfl rfl ?_ | refine qR rfl rfl ?_); simp only [go_sem,↓dP,↓reduceIte]; with_reducible and_intros; all_goals first | apply qA | exact ⟨⟩ | rfl | (intros; apply qB; first | kernel_rfl | omega) | omega | skip)
    refine Ok.seq ?_
    refine Ok.cond rfl (fun _ => ?_) (fun hb => by simp at hb; omega)
    (refine Ok.skip ?_; (try dsimp only [thenK,blockK,noGotoK]))
    refine Ok.seq ?_
    refine Ok.block ?_
    ((first | refine qS rfl rfl ?_ | refine qR rfl rfl ?_); simp only [go_sem,↓dP,↓reduceIte]; with_reducible and_intros; all_goals first | apply qA | exact ⟨⟩ | rfl | (intros; apply qB; first | kernel_rfl | omega) | omega | skip)
    ((first | refine qS rfl rfl ?_ | refine qR rfl rfl ?_); simp only [go_sem,↓dP,↓reduceIte]; with_reducible and_intros; all_goals first | apply qA | exact ⟨⟩ | rfl | (intros; apply qB; first | kernel_rfl | omega) | omega | skip)
    (refine AskI.ret (hf (l.getD i default) (getD_mem hi)) ?_; simp only [go_sem,↓dP,↓reduceIte]; with_reducible and_intros; all_goals first | apply qA | exact ⟨⟩ | rfl | (intros; apply qB; first | kernel_rfl | omega) | omega | skip)
    refine Ok.cond rfl ?_ ?_
    · intro hp
      ((first | refine qS rfl rfl ?_ | refine qR rfl rfl ?_); simp only [go_sem,↓dP,↓reduceIte]; with_reducible and_intros; all_goals first | apply qA | exact ⟨⟩ | rfl | (intros; apply qB; first | kernel_rfl | omega) | omega | skip)
      (refine Ok.ret ?_; (try dsimp only [thenK,blockK,noGotoK]); simp only [toList_mk,List.toList_toArray,retK_ret,retK_normal,resOK,resV,celV,rowV,frzAll,frzT,subV,subL,go_sem,↓dP,↓reduceIte])
      refine DEq.int ?_
      rw [ixL_at hi hp h0]
    · intro hp
      (refine Ok.skip ?_; (try dsimp only [thenK,blockK,noGotoK]))
      ((first | refine qS rfl rfl ?_ | refine qR rfl rfl ?_); simp only [go_sem,↓dP,↓reduceIte]; with_reducible and_intros; all_goals first | apply qA | exact ⟨⟩ | rfl | (intros; apply qB; first | kernel_rfl | omega) | omega | skip)
      (try dsimp only [thenK,blockK,noGotoK])
      refine ⟨no_step hi h0 hp,?_⟩
      (refine Sub.of ([]) ([]) ?_ ?_ ?_ rfl rfl <;> simp only [subB,subB1,subT,subT1,newT,subE,subV,subL,go_sem,↓dP,↓reduceIte] <;> (try (repeat' with_reducible apply And.intro)) <;> (try first | exact DEq.refl _ | refine DEq.int ?_ | refine DEq.bool ?_ | omega))
  · intro h0
    ((first | refine qS rfl rfl ?_ | refine qR rfl rfl ?_); simp only [go_sem,↓dP,↓reduceIte]; with_reducible and_intros; all_goals first | apply qA | exact ⟨⟩ | rfl | (intros; apply qB; first | kernel_rfl | omega) | omega | skip)
    refine Ok.seq ?_
    refine Ok.cond rfl (fun hb => by simp at hb) (fun _ => ?_)
    (refine Ok.exit ?_; simp only [thenK_exit,blockK_exit,noGotoK_exit,thenK_normal,blockK_normal,noGotoK_normal,↓reduceIte,Nat.reduceEqDiff])
    ((first | refine qS rfl rfl ?_ | refine qR rfl rfl ?_); simp only [go_sem,↓dP,↓reduceIte]; with_reducible and_intros; all_goals first | apply qA | exact ⟨⟩ | rfl | (intros; apply qB; first | kernel_rfl | omega) | omega | skip)
    (refine Ok.ret ?_; (try dsimp only [thenK,blockK,noGotoK]); simp only [toList_mk,List.toList_toArray,retK_ret,retK_normal,resOK,resV,celV,rowV,frzAll,frzT,subV,subL,go_sem,↓dP,↓reduceIte])
    refine DEq.int ?_
    rw [ixL_no (fun x hx => h0 x (by simpa using hx))]
theorem c146 (l : List Letter) (f m : Nat) (c : Nat → DV) (q : Letter → Bool) (hn : l.length < 1000000) (hf : ∀ x ∈ l,Ctr Tryz.prog f (x.sv :: take c 0 m) (bS (q x))) :
    Ctr Tryz.prog 118 [.d (slD 4 letD l),.d (.clo f m c)] (bS (l.any q)):=by
  (refine Ctr.mk (fn:=Tryz.f118) rfl rfl rfl rfl rfl Tryz.results118 ?_; dsimp only [args,List.toList_toArray])
  ((first | refine qS rfl rfl ?_ | refine qR rfl rfl ?_); simp only [go_sem,↓dP,↓reduceIte]; with_reducible and_intros; all_goals first | apply qA | exact ⟨⟩ | rfl | (intros; apply qB; first | kernel_rfl | omega) | omega | skip)
  ((first | refine qS rfl rfl ?_ | refine qR rfl rfl ?_); simp only [go_sem,↓dP,↓reduceIte]; with_reducible and_intros; all_goals first | apply qA | exact ⟨⟩ | rfl | (intros; apply qB; first | kernel_rfl | omega) | omega | skip)
  (refine AskI.ret (c156 l f m c q hn hf) ?_; simp only [go_sem,↓dP,↓reduceIte]; with_reducible and_intros; all_goals first | apply qA | exact ⟨⟩ | rfl | (intros; apply qB; first | kernel_rfl | omega) | omega | skip)
  (refine Ok.ret ?_; (try dsimp only [thenK,blockK,noGotoK]); simp only [toList_mk,List.toList_toArray,retK_ret,retK_normal,resOK,resV,celV,rowV,frzAll,frzT,subV,subL,go_sem,↓dP,↓reduceIte])
  rw [ixL_any]
  exact .refl _
theorem c145 (l : List Board) (f m : Nat) (c : Nat → DV) (q : Board → Bool) (hn : l.length < 1000000) (hf : ∀ x ∈ l,Ctr Tryz.prog f (x.sv :: take c 0 m) (bS (q x))) :
    Ctr Tryz.prog 117 [.d (slD 2 boaD l),.d (.clo f m c)] (iS (ixL q l)):=by
  (refine Ctr.mk (fn:=Tryz.f117) rfl rfl rfl rfl rfl Tryz.results117 ?_; dsimp only [args,List.toList_toArray])
  ((first | refine qS rfl rfl ?_ | refine qR rfl rfl ?_); simp only [go_sem,↓dP,↓reduceIte]; with_reducible and_intros; all_goals first | apply qA | exact ⟨⟩ | rfl | (intros; apply qB; first | kernel_rfl | omega) | omega | skip)
  refine Ok.seq ?_
  ((first | refine qS rfl rfl ?_ | refine qR rfl rfl ?_); simp only [go_sem,↓dP,↓reduceIte]; with_reducible and_intros; all_goals first | apply qA | exact ⟨⟩ | rfl | (intros; apply qB; first | kernel_rfl | omega) | omega | skip)
  refine Ok.block ?_
  refine Ok.count l.length (fun i => ⟨[(0,.d (slD 2 boaD l)),(1,.d (.clo f m c)),(7,iS l.length),(8,iS i)],[],[]⟩) (fun i => ∀ x ∈ l.take i,q x = false) ⟨fun x hx => by simp at hx,?_⟩ ?_ ?_
  · (refine Sub.of ([]) ([]) ?_ ?_ ?_ rfl rfl <;> simp only [subB,subB1,subT,subT1,newT,subE,subV,subL,go_sem,↓dP,↓reduceIte] <;> (try (repeat' with_reducible apply And.intro)) <;> (try first | exact DEq.refl _ | refine DEq.int ?_ | refine DEq.bool ?_ | omega))
  · intro i hi h0
    ((first | refine qS rfl rfl ?_ | refine qR rfl rfl ?_); simp only [go_sem,↓dP,↓reduceIte]; with_reducible and_intros; all_goals first | apply qA | exact ⟨⟩ | rfl | (intros; apply qB; first | kernel_rfl | omega) | omega | skip)
    refine Ok.seq ?_
    refine Ok.cond rfl (fun _ => ?_) (fun hb => by simp at hb; omega)
    (refine Ok.skip ?_; (try dsimp only [thenK,blockK,noGotoK]))
    refine Ok.seq ?_
    refine Ok.block ?_
    ((first | refine qS rfl rfl ?_ | refine qR rfl rfl ?_); simp only [go_sem,↓dP,↓reduceIte]; with_reducible and_intros; all_goals first | apply qA | exact ⟨⟩ | rfl | (intros; apply qB; first | kernel_rfl | omega) | omega | skip)
    ((first | refine qS rfl rfl ?_ | refine qR rfl rfl ?_); simp only [go_sem,↓dP,↓reduceIte]; with_reducible and_intros; all_goals first | apply qA | exact ⟨⟩ | rfl | (intros; apply qB; first | kernel_rfl | omega) | omega | skip)
    (refine AskI.ret (hf (l.getD i default) (getD_mem hi)) ?_; simp only [go_sem,↓dP,↓reduceIte]; with_reducible and_intros; all_goals first | apply qA | exact ⟨⟩ | rfl | (intros; apply qB; first | kernel_rfl | omega) | omega | skip)
    refine Ok.cond rfl ?_ ?_
    · intro hp
      ((first | refine qS rfl rfl ?_ | refine qR rfl rfl ?_); simp only [go_sem,↓dP,↓reduceIte]; with_reducible and_intros; all_goals first | apply qA | exact ⟨⟩ | rfl | (intros; apply qB; first | kernel_rfl | omega) | omega | skip)
      (refine Ok.ret ?_; (try dsimp only [thenK,blockK,noGotoK]); simp only [toList_mk,List.toList_toArray,retK_ret,retK_normal,resOK,resV,celV,rowV,frzAll,frzT,subV,subL,go_sem,↓dP,↓reduceIte])
      refine DEq.int ?_
      rw [ixL_at hi hp h0]
    · intro hp
      (refine Ok.skip ?_; (try dsimp only [thenK,blockK,noGotoK]))
      ((first | refine qS rfl rfl ?_ | refine qR rfl rfl ?_); simp only [go_sem,↓dP,↓reduceIte]; with_reducible and_intros; all_goals first | apply qA | exact ⟨⟩ | rfl | (intros; apply qB; first | kernel_rfl | omega) | omega | skip)
      (try dsimp only [thenK,blockK,noGotoK])
      refine ⟨no_step hi h0 hp,?_⟩
      (refine Sub.of ([]) ([]) ?_ ?_ ?_ rfl rfl <;> simp only [subB,subB1,subT,subT1,newT,subE,subV,subL,go_sem,↓dP,↓reduceIte] <;> (try (repeat' with_reducible apply And.intro)) <;> (try first | exact DEq.refl _ | refine DEq.int ?_ | refine DEq.bool ?_ | omega))
  · intro h0
    ((first | refine qS rfl rfl ?_ | refine qR rfl rfl ?_); simp only [go_sem,↓dP,↓reduceIte]; with_reducible and_intros; all_goals first | apply qA | exact ⟨⟩ | rfl | (intros; apply qB; first | kernel_rfl | omega) | omega | skip)
    refine Ok.seq ?_
    refine Ok.cond rfl (fun hb => by simp at hb) (fun _ => ?_)
    (refine Ok.exit ?_; simp only [thenK_exit,blockK_exit,noGotoK_exit,thenK_normal,blockK_normal,noGotoK_normal,↓reduceIte,Nat.reduceEqDiff])
    ((first | refine qS rfl rfl ?_ | refine qR rfl rfl ?_); simp only [go_sem,↓dP,↓reduceIte]; with_reducible and_intros; all_goals first | apply qA | exact ⟨⟩ | rfl | (intros; apply qB; first | kernel_rfl | omega) | omega | skip)
    (refine Ok.ret ?_; (try dsimp only [thenK,blockK,noGotoK]); simp only [toList_mk,List.toList_toArray,retK_ret,retK_normal,resOK,resV,celV,rowV,frzAll,frzT,subV,subL,go_sem,↓dP,↓reduceIte])
    refine DEq.int ?_
    rw [ixL_no (fun x hx => h0 x (by simpa using hx))]
theorem c126 (l : List Board) (f m : Nat) (c : Nat → DV) (q : Board → Bool) (hn : l.length < 1000000) (hf : ∀ x ∈ l,Ctr Tryz.prog f (x.sv :: take c 0 m) (bS (q x))) :
    Ctr Tryz.prog 97 [.d (slD 2 boaD l),.d (.clo f m c)] (bS (l.any q)):=by
  (refine Ctr.mk (fn:=Tryz.f97) rfl rfl rfl rfl rfl Tryz.results97 ?_; dsimp only [args,List.toList_toArray])
  ((first | refine qS rfl rfl ?_ | refine qR rfl rfl ?_); simp only [go_sem,↓dP,↓reduceIte]; with_reducible and_intros; all_goals first | apply qA | exact ⟨⟩ | rfl | (intros; apply qB; first | kernel_rfl | omega) | omega | skip)
  ((first | refine qS rfl rfl ?_ | refine qR rfl rfl ?_); simp only [go_sem,↓dP,↓reduceIte]; with_reducible and_intros; all_goals first | apply qA | exact ⟨⟩ | rfl | (intros; apply qB; first | kernel_rfl | omega) | omega | skip)
  (refine AskI.ret (c145 l f m c q hn hf) ?_; simp only [go_sem,↓dP,↓reduceIte]; with_reducible and_intros; all_goals first | apply qA | exact ⟨⟩ | rfl | (intros; apply qB; first | kernel_rfl | omega) | omega | skip)
  (refine Ok.ret ?_; (try dsimp only [thenK,blockK,noGotoK]); simp only [toList_mk,List.toList_toArray,retK_ret,retK_normal,resOK,resV,celV,rowV,frzAll,frzT,subV,subL,go_sem,↓dP,↓reduceIte])
  rw [ixL_any]
  exact .refl _
theorem c149 (l : List Block) (f m : Nat) (c : Nat → DV) (q : Block → Bool) (hn : l.length < 1000000) (hf : ∀ x ∈ l,Ctr Tryz.prog f (x.sv :: take c 0 m) (bS (q x))) :
    Ctr Tryz.prog 121 [.d (slD 5 bloD l),.d (.clo f m c)] (iS (ixL q l)):=by
  (refine Ctr.mk (fn:=Tryz.f121) rfl rfl rfl rfl rfl Tryz.results121 ?_; dsimp only [args,List.toList_toArray])
  ((first | refine qS rfl rfl ?_ | refine qR rfl rfl ?_); simp only [go_sem,↓dP,↓reduceIte]; with_reducible and_intros; all_goals first | apply qA | exact ⟨⟩ | rfl | (intros; apply qB; first | kernel_rfl | omega) | omega | skip)
  refine Ok.seq ?_
  ((first | refine qS rfl rfl ?_ | refine qR rfl rfl ?_); simp only [go_sem,↓dP,↓reduceIte]; with_reducible and_intros; all_goals first | apply qA | exact ⟨⟩ | rfl | (intros; apply qB; first | kernel_rfl | omega) | omega | skip)
  refine Ok.block ?_
  refine Ok.count l.length (fun i => ⟨[(0,.d (slD 5 bloD l)),(1,.d (.clo f m c)),(7,iS l.length),(8,iS i)],[],[]⟩) (fun i => ∀ x ∈ l.take i,q x = false) ⟨fun x hx => by simp at hx,?_⟩ ?_ ?_
  · (refine Sub.of ([]) ([]) ?_ ?_ ?_ rfl rfl <;> simp only [subB,subB1,subT,subT1,newT,subE,subV,subL,go_sem,↓dP,↓reduceIte] <;> (try (repeat' with_reducible apply And.intro)) <;> (try first | exact DEq.refl _ | refine DEq.int ?_ | refine DEq.bool ?_ | omega))
  · intro i hi h0
    ((first | refine qS rfl rfl ?_ | refine qR rfl rfl ?_); simp only [go_sem,↓dP,↓reduceIte]; with_reducible and_intros; all_goals first | apply qA | exact ⟨⟩ | rfl | (intros; apply qB; first | kernel_rfl | omega) | omega | skip)
    refine Ok.seq ?_
    refine Ok.cond rfl (fun _ => ?_) (fun hb => by simp at hb; omega)
    (refine Ok.skip ?_; (try dsimp only [thenK,blockK,noGotoK]))
    refine Ok.seq ?_
    refine Ok.block ?_
    ((first | refine qS rfl rfl ?_ | refine qR rfl rfl ?_); simp only [go_sem,↓dP,↓reduceIte]; with_reducible and_intros; all_goals first | apply qA | exact ⟨⟩ | rfl | (intros; apply qB; first | kernel_rfl | omega) | omega | skip)
    ((first | refine qS rfl rfl ?_ | refine qR rfl rfl ?_); simp only [go_sem,↓dP,↓reduceIte]; with_reducible and_intros; all_goals first | apply qA | exact ⟨⟩ | rfl | (intros; apply qB; first | kernel_rfl | omega) | omega | skip)
    (refine AskI.ret (hf (l.getD i default) (getD_mem hi)) ?_; simp only [go_sem,↓dP,↓reduceIte]; with_reducible and_intros; all_goals first | apply qA | exact ⟨⟩ | rfl | (intros; apply qB; first | kernel_rfl | omega) | omega | skip)
    refine Ok.cond rfl ?_ ?_
    · intro hp
      ((first | refine qS rfl rfl ?_ | refine qR rfl rfl ?_); simp only [go_sem,↓dP,↓reduceIte]; with_reducible and_intros; all_goals first | apply qA | exact ⟨⟩ | rfl | (intros; apply qB; first | kernel_rfl | omega) | omega | skip)
      (refine Ok.ret ?_; (try dsimp only [thenK,blockK,noGotoK]); simp only [toList_mk,List.toList_toArray,retK_ret,retK_normal,resOK,resV,celV,rowV,frzAll,frzT,subV,subL,go_sem,↓dP,↓reduceIte])
      refine DEq.int ?_
      rw [ixL_at hi hp h0]
    · intro hp
      (refine Ok.skip ?_; (try dsimp only [thenK,blockK,noGotoK]))
      ((first | refine qS rfl rfl ?_ | refine qR rfl rfl ?_); simp only [go_sem,↓dP,↓reduceIte]; with_reducible and_intros; all_goals first | apply qA | exact ⟨⟩ | rfl | (intros; apply qB; first | kernel_rfl | omega) | omega | skip)
      (try dsimp only [thenK,blockK,noGotoK])
      refine ⟨no_step hi h0 hp,?_⟩
      (refine Sub.of ([]) ([]) ?_ ?_ ?_ rfl rfl <;> simp only [subB,subB1,subT,subT1,newT,subE,subV,subL,go_sem,↓dP,↓reduceIte] <;> (try (repeat' with_reducible apply And.intro)) <;> (try first | exact DEq.refl _ | refine DEq.int ?_ | refine DEq.bool ?_ | omega))
  · intro h0
    ((first | refine qS rfl rfl ?_ | refine qR rfl rfl ?_); simp only [go_sem,↓dP,↓reduceIte]; with_reducible and_intros; all_goals first | apply qA | exact ⟨⟩ | rfl | (intros; apply qB; first | kernel_rfl | omega) | omega | skip)
    refine Ok.seq ?_
    refine Ok.cond rfl (fun hb => by simp at hb) (fun _ => ?_)
    (refine Ok.exit ?_; simp only [thenK_exit,blockK_exit,noGotoK_exit,thenK_normal,blockK_normal,noGotoK_normal,↓reduceIte,Nat.reduceEqDiff])
    ((first | refine qS rfl rfl ?_ | refine qR rfl rfl ?_); simp only [go_sem,↓dP,↓reduceIte]; with_reducible and_intros; all_goals first | apply qA | exact ⟨⟩ | rfl | (intros; apply qB; first | kernel_rfl | omega) | omega | skip)
    (refine Ok.ret ?_; (try dsimp only [thenK,blockK,noGotoK]); simp only [toList_mk,List.toList_toArray,retK_ret,retK_normal,resOK,resV,celV,rowV,frzAll,frzT,subV,subL,go_sem,↓dP,↓reduceIte])
    refine DEq.int ?_
    rw [ixL_no (fun x hx => h0 x (by simpa using hx))]
theorem c129 (l : List Block) (f m : Nat) (c : Nat → DV) (q : Block → Bool) (hn : l.length < 1000000) (hf : ∀ x ∈ l,Ctr Tryz.prog f (x.sv :: take c 0 m) (bS (q x))) :
    Ctr Tryz.prog 100 [.d (slD 5 bloD l),.d (.clo f m c)] (bS (l.any q)):=by
  (refine Ctr.mk (fn:=Tryz.f100) rfl rfl rfl rfl rfl Tryz.results100 ?_; dsimp only [args,List.toList_toArray])
  ((first | refine qS rfl rfl ?_ | refine qR rfl rfl ?_); simp only [go_sem,↓dP,↓reduceIte]; with_reducible and_intros; all_goals first | apply qA | exact ⟨⟩ | rfl | (intros; apply qB; first | kernel_rfl | omega) | omega | skip)
  ((first | refine qS rfl rfl ?_ | refine qR rfl rfl ?_); simp only [go_sem,↓dP,↓reduceIte]; with_reducible and_intros; all_goals first | apply qA | exact ⟨⟩ | rfl | (intros; apply qB; first | kernel_rfl | omega) | omega | skip)
  (refine AskI.ret (c149 l f m c q hn hf) ?_; simp only [go_sem,↓dP,↓reduceIte]; with_reducible and_intros; all_goals first | apply qA | exact ⟨⟩ | rfl | (intros; apply qB; first | kernel_rfl | omega) | omega | skip)
  (refine Ok.ret ?_; (try dsimp only [thenK,blockK,noGotoK]); simp only [toList_mk,List.toList_toArray,retK_ret,retK_normal,resOK,resV,celV,rowV,frzAll,frzT,subV,subL,go_sem,↓dP,↓reduceIte])
  rw [ixL_any]
  exact .refl _
theorem c140 (l : List Place) (f m : Nat) (c : Nat → DV) (q : Place → Bool) (hn : l.length < 1000000) (hf : ∀ x ∈ l,Ctr Tryz.prog f (x.sv :: take c 0 m) (bS (q x))) :
    Ctr Tryz.prog 113 [.d (slD 2 plaD l),.d (.clo f m c)] (iS (ixL q l)):=by
  (refine Ctr.mk (fn:=Tryz.f113) rfl rfl rfl rfl rfl Tryz.results113 ?_; dsimp only [args,List.toList_toArray])
  ((first | refine qS rfl rfl ?_ | refine qR rfl rfl ?_); simp only [go_sem,↓dP,↓reduceIte]; with_reducible and_intros; all_goals first | apply qA | exact ⟨⟩ | rfl | (intros; apply qB; first | kernel_rfl | omega) | omega | skip)
  refine Ok.seq ?_
  ((first | refine qS rfl rfl ?_ | refine qR rfl rfl ?_); simp only [go_sem,↓dP,↓reduceIte]; with_reducible and_intros; all_goals first | apply qA | exact ⟨⟩ | rfl | (intros; apply qB; first | kernel_rfl | omega) | omega | skip)
  refine Ok.block ?_
  refine Ok.count l.length (fun i => ⟨[(0,.d (slD 2 plaD l)),(1,.d (.clo f m c)),(7,iS l.length),(8,iS i)],[],[]⟩) (fun i => ∀ x ∈ l.take i,q x = false) ⟨fun x hx => by simp at hx,?_⟩ ?_ ?_
  · (refine Sub.of ([]) ([]) ?_ ?_ ?_ rfl rfl <;> simp only [subB,subB1,subT,subT1,newT,subE,subV,subL,go_sem,↓dP,↓reduceIte] <;> (try (repeat' with_reducible apply And.intro)) <;> (try first | exact DEq.refl _ | refine DEq.int ?_ | refine DEq.bool ?_ | omega))
  · intro i hi h0
    ((first | refine qS rfl rfl ?_ | refine qR rfl rfl ?_); simp only [go_sem,↓dP,↓reduceIte]; with_reducible and_intros; all_goals first | apply qA | exact ⟨⟩ | rfl | (intros; apply qB; first | kernel_rfl | omega) | omega | skip)
    refine Ok.seq ?_
    refine Ok.cond rfl (fun _ => ?_) (fun hb => by simp at hb; omega)
    (refine Ok.skip ?_; (try dsimp only [thenK,blockK,noGotoK]))
    refine Ok.seq ?_
    refine Ok.block ?_
    ((first | refine qS rfl rfl ?_ | refine qR rfl rfl ?_); simp only [go_sem,↓dP,↓reduceIte]; with_reducible and_intros; all_goals first | apply qA | exact ⟨⟩ | rfl | (intros; apply qB; first | kernel_rfl | omega) | omega | skip)
    ((first | refine qS rfl rfl ?_ | refine qR rfl rfl ?_); simp only [go_sem,↓dP,↓reduceIte]; with_reducible and_intros; all_goals first | apply qA | exact ⟨⟩ | rfl | (intros; apply qB; first | kernel_rfl | omega) | omega | skip)
    (refine AskI.ret (hf (l.getD i default) (getD_mem hi)) ?_; simp only [go_sem,↓dP,↓reduceIte]; with_reducible and_intros; all_goals first | apply qA | exact ⟨⟩ | rfl | (intros; apply qB; first | kernel_rfl | omega) | omega | skip)
    refine Ok.cond rfl ?_ ?_
    · intro hp
      ((first | refine qS rfl rfl ?_ | refine qR rfl rfl ?_); simp only [go_sem,↓dP,↓reduceIte]; with_reducible and_intros; all_goals first | apply qA | exact ⟨⟩ | rfl | (intros; apply qB; first | kernel_rfl | omega) | omega | skip)
      (refine Ok.ret ?_; (try dsimp only [thenK,blockK,noGotoK]); simp only [toList_mk,List.toList_toArray,retK_ret,retK_normal,resOK,resV,celV,rowV,frzAll,frzT,subV,subL,go_sem,↓dP,↓reduceIte])
      refine DEq.int ?_
      rw [ixL_at hi hp h0]
    · intro hp
      (refine Ok.skip ?_; (try dsimp only [thenK,blockK,noGotoK]))
      ((first | refine qS rfl rfl ?_ | refine qR rfl rfl ?_); simp only [go_sem,↓dP,↓reduceIte]; with_reducible and_intros; all_goals first | apply qA | exact ⟨⟩ | rfl | (intros; apply qB; first | kernel_rfl | omega) | omega | skip)
      (try dsimp only [thenK,blockK,noGotoK])
      refine ⟨no_step hi h0 hp,?_⟩
      (refine Sub.of ([]) ([]) ?_ ?_ ?_ rfl rfl <;> simp only [subB,subB1,subT,subT1,newT,subE,subV,subL,go_sem,↓dP,↓reduceIte] <;> (try (repeat' with_reducible apply And.intro)) <;> (try first | exact DEq.refl _ | refine DEq.int ?_ | refine DEq.bool ?_ | omega))
  · intro h0
    ((first | refine qS rfl rfl ?_ | refine qR rfl rfl ?_); simp only [go_sem,↓dP,↓reduceIte]; with_reducible and_intros; all_goals first | apply qA | exact ⟨⟩ | rfl | (intros; apply qB; first | kernel_rfl | omega) | omega | skip)
    refine Ok.seq ?_
    refine Ok.cond rfl (fun hb => by simp at hb) (fun _ => ?_)
    (refine Ok.exit ?_; simp only [thenK_exit,blockK_exit,noGotoK_exit,thenK_normal,blockK_normal,noGotoK_normal,↓reduceIte,Nat.reduceEqDiff])
    ((first | refine qS rfl rfl ?_ | refine qR rfl rfl ?_); simp only [go_sem,↓dP,↓reduceIte]; with_reducible and_intros; all_goals first | apply qA | exact ⟨⟩ | rfl | (intros; apply qB; first | kernel_rfl | omega) | omega | skip)
    (refine Ok.ret ?_; (try dsimp only [thenK,blockK,noGotoK]); simp only [toList_mk,List.toList_toArray,retK_ret,retK_normal,resOK,resV,celV,rowV,frzAll,frzT,subV,subL,go_sem,↓dP,↓reduceIte])
    refine DEq.int ?_
    rw [ixL_no (fun x hx => h0 x (by simpa using hx))]
end Go.Proofs.Sight
namespace Go.Proofs.Sight
open Go Go.RX Go.Proofs
set_option maxRecDepth 10000
def isBoard (b : Board) (len : Int) : Bool :=
  inR b.at_ 0 len && inR b.ls.length 1 5 && ((b.ls.getD (b.ls.length - 1) default).p == 0) && !(b.ls.any (!isLetter ·))
theorem c128 (b : Board) (len : Int) (hn : b.ls.length < 1000000) : Ctr Tryz.prog 99 [b.sv,iS len] (bS (isBoard b len)):=by
  (refine Ctr.mk (fn:=Tryz.f99) rfl rfl rfl rfl rfl Tryz.results99 ?_; dsimp only [args,List.toList_toArray])
  ((first | refine qS rfl rfl ?_ | refine qR rfl rfl ?_); simp only [go_sem,↓dP,↓reduceIte]; with_reducible and_intros; all_goals first | apply qA | exact ⟨⟩ | rfl | (intros; apply qB; first | kernel_rfl | omega) | omega | skip)
  refine Ok.seq ?_
  ((first | refine qS rfl rfl ?_ | refine qR rfl rfl ?_); simp only [go_sem,↓dP,↓reduceIte]; with_reducible and_intros; all_goals first | apply qA | exact ⟨⟩ | rfl | (intros; apply qB; first | kernel_rfl | omega) | omega | skip)
  (refine AskI.ret (c114 _ _ _) ?_; simp only [go_sem,↓dP,↓reduceIte]; with_reducible and_intros; all_goals first | apply qA | exact ⟨⟩ | rfl | (intros; apply qB; first | kernel_rfl | omega) | omega | skip)
  (refine AskGI.ret (fun _ => c114 _ _ _) ?_; simp only [go_sem,↓dP,↓reduceIte]; with_reducible and_intros; all_goals first | apply qA | exact ⟨⟩ | rfl | (intros; apply qB; first | kernel_rfl | omega) | omega | skip)
  · intro h
    simp only [inR,beq_iff_eq,Bool.or_eq_false_iff,Bool.not_eq_false',Bool.and_eq_true,decide_eq_true_eq,beq_false,Bool.not_eq_true'] at h
    exact ⟨by omega,by omega⟩
  have e : (↑b.ls.length - 1 : Int).toNat = b.ls.length - 1:=by omega
  refine Ok.cond rfl ?_ ?_
  · intro hb
    ((first | refine qS rfl rfl ?_ | refine qR rfl rfl ?_); simp only [go_sem,↓dP,↓reduceIte]; with_reducible and_intros; all_goals first | apply qA | exact ⟨⟩ | rfl | (intros; apply qB; first | kernel_rfl | omega) | omega | skip)
    (refine Ok.ret ?_; (try dsimp only [thenK,blockK,noGotoK]); simp only [toList_mk,List.toList_toArray,retK_ret,retK_normal,resOK,resV,celV,rowV,frzAll,frzT,subV,subL,go_sem,↓dP,↓reduceIte])
    refine DEq.bool ?_
    simp only [isBoard]
    rw [e] at hb
    cases h1 : inR b.at_ 0 len <;> cases h2 : inR (↑b.ls.length) 1 5 <;> simp_all
  · intro hb
    (refine Ok.skip ?_; (try dsimp only [thenK,blockK,noGotoK]))
    ((first | refine qS rfl rfl ?_ | refine qR rfl rfl ?_); simp only [go_sem,↓dP,↓reduceIte]; with_reducible and_intros; all_goals first | apply qA | exact ⟨⟩ | rfl | (intros; apply qB; first | kernel_rfl | omega) | omega | skip)
    (refine AskI.ret (c146 b.ls 119 0 _ (!isLetter ·) hn (fun x _ => c147 x)) ?_; simp only [go_sem,↓dP,↓reduceIte]; with_reducible and_intros; all_goals first | apply qA | exact ⟨⟩ | rfl | (intros; apply qB; first | kernel_rfl | omega) | omega | skip)
    (refine Ok.ret ?_; (try dsimp only [thenK,blockK,noGotoK]); simp only [toList_mk,List.toList_toArray,retK_ret,retK_normal,resOK,resV,celV,rowV,frzAll,frzT,subV,subL,go_sem,↓dP,↓reduceIte])
    refine DEq.bool ?_
    simp only [isBoard]
    rw [e] at hb
    cases h1 : inR b.at_ 0 len <;> cases h2 : inR (↑b.ls.length) 1 5 <;> simp_all
abbrev Street.cells (s : Street) : List DV:=[iD s.len,iD s.wid,iD s.el,iD s.eh,iD s.ll,iD s.lh,slD 2 boaD s.bs,slD 5 bloD s.ks]
abbrev Street.ref (s : Street) : DV:=.ref 8 (dget s.cells)
theorem c127 (b : Board) (s : Street) (hn : b.ls.length < 1000000) : Ctr Tryz.prog 98 [b.sv,.d s.ref] (bS (!isBoard b s.len)):=by
  (refine Ctr.mk (fn:=Tryz.f98) rfl rfl rfl rfl rfl Tryz.results98 ?_; dsimp only [args,List.toList_toArray])
  ((first | refine qS rfl rfl ?_ | refine qR rfl rfl ?_); simp only [go_sem,↓dP,↓reduceIte]; with_reducible and_intros; all_goals first | apply qA | exact ⟨⟩ | rfl | (intros; apply qB; first | kernel_rfl | omega) | omega | skip)
  ((first | refine qS rfl rfl ?_ | refine qR rfl rfl ?_); simp only [go_sem,↓dP,↓reduceIte]; with_reducible and_intros; all_goals first | apply qA | exact ⟨⟩ | rfl | (intros; apply qB; first | kernel_rfl | omega) | omega | skip)
  (refine AskI.ret (c128 b s.len hn) ?_; simp only [go_sem,↓dP,↓reduceIte]; with_reducible and_intros; all_goals first | apply qA | exact ⟨⟩ | rfl | (intros; apply qB; first | kernel_rfl | omega) | omega | skip)
  (refine Ok.ret ?_; (try dsimp only [thenK,blockK,noGotoK]); simp only [toList_mk,List.toList_toArray,retK_ret,retK_normal,resOK,resV,celV,rowV,frzAll,frzT,subV,subL,go_sem,↓dP,↓reduceIte])
  exact .refl _
def blockIn (k : Block) (s : Street) : Bool:=spanR k.al k.ah 0 s.len && spanR k.cl k.ch 1 s.wid
theorem c130 (k : Block) (s : Street) : Ctr Tryz.prog 101 [k.sv,.d s.ref] (bS (!blockIn k s)):=by
  (refine Ctr.mk (fn:=Tryz.f101) rfl rfl rfl rfl rfl Tryz.results101 ?_; dsimp only [args,List.toList_toArray])
  ((first | refine qS rfl rfl ?_ | refine qR rfl rfl ?_); simp only [go_sem,↓dP,↓reduceIte]; with_reducible and_intros; all_goals first | apply qA | exact ⟨⟩ | rfl | (intros; apply qB; first | kernel_rfl | omega) | omega | skip)
  ((first | refine qS rfl rfl ?_ | refine qR rfl rfl ?_); simp only [go_sem,↓dP,↓reduceIte]; with_reducible and_intros; all_goals first | apply qA | exact ⟨⟩ | rfl | (intros; apply qB; first | kernel_rfl | omega) | omega | skip)
  (refine AskI.ret (c125 _ _ _ _) ?_; simp only [go_sem,↓dP,↓reduceIte]; with_reducible and_intros; all_goals first | apply qA | exact ⟨⟩ | rfl | (intros; apply qB; first | kernel_rfl | omega) | omega | skip)
  (refine AskGI.ret (fun _ => c125 _ _ _ _) ?_; simp only [go_sem,↓dP,↓reduceIte]; with_reducible and_intros; all_goals first | apply qA | exact ⟨⟩ | rfl | (intros; apply qB; first | kernel_rfl | omega) | omega | skip)
  (refine Ok.ret ?_; (try dsimp only [thenK,blockK,noGotoK]); simp only [toList_mk,List.toList_toArray,retK_ret,retK_normal,resOK,resV,celV,rowV,frzAll,frzT,subV,subL,go_sem,↓dP,↓reduceIte])
  refine DEq.bool ?_
  simp only [blockIn]
  cases spanR k.al k.ah 0 s.len <;> simp
def isStreet (s : Street) : Bool :=
  inR s.len 1 40 && inR s.wid 1 12 && spanR s.el s.eh 1 40 && spanR s.ll s.lh 1 100 && inR s.bs.length 1 3 && decide ((s.ks.length : Int) ≤ 4) && !(s.bs.any (!isBoard · s.len)) && !(s.ks.any (!blockIn · s))
def Street.fit (s : Street) : Prop:=s.bs.length < 1000000 ∧ s.ks.length < 1000000 ∧ ∀ b ∈ s.bs,b.ls.length < 1000000
theorem c102 (s : Street) (hn : s.fit) : Ctr Tryz.prog 64 [s.sv] (bS (isStreet s)):=by
  have hn1:=hn.1
  have hn2:=hn.2.1
  (refine Ctr.mk (fn:=Tryz.f64) rfl rfl rfl rfl rfl Tryz.results64 ?_; dsimp only [args,List.toList_toArray])
  ((first | refine qS rfl rfl ?_ | refine qR rfl rfl ?_); simp only [go_sem,↓dP,↓reduceIte]; with_reducible and_intros; all_goals first | apply qA | exact ⟨⟩ | rfl | (intros; apply qB; first | kernel_rfl | omega) | omega | skip)
  refine Ok.seq ?_
  ((first | refine qS rfl rfl ?_ | refine qR rfl rfl ?_); simp only [go_sem,↓dP,↓reduceIte]; with_reducible and_intros; all_goals first | apply qA | exact ⟨⟩ | rfl | (intros; apply qB; first | kernel_rfl | omega) | omega | skip)
  (refine AskI.ret (c114 _ _ _) ?_; simp only [go_sem,↓dP,↓reduceIte]; with_reducible and_intros; all_goals first | apply qA | exact ⟨⟩ | rfl | (intros; apply qB; first | kernel_rfl | omega) | omega | skip)
  (refine AskGI.ret (fun _ => c114 _ _ _) ?_; simp only [go_sem,↓dP,↓reduceIte]; with_reducible and_intros; all_goals first | apply qA | exact ⟨⟩ | rfl | (intros; apply qB; first | kernel_rfl | omega) | omega | skip)
  (refine AskGI.ret (fun _ => c125 _ _ _ _) ?_; simp only [go_sem,↓dP,↓reduceIte]; with_reducible and_intros; all_goals first | apply qA | exact ⟨⟩ | rfl | (intros; apply qB; first | kernel_rfl | omega) | omega | skip)
  (refine AskGI.ret (fun _ => c125 _ _ _ _) ?_; simp only [go_sem,↓dP,↓reduceIte]; with_reducible and_intros; all_goals first | apply qA | exact ⟨⟩ | rfl | (intros; apply qB; first | kernel_rfl | omega) | omega | skip)
  refine Ok.cond rfl ?_ ?_
  · intro hb
    ((first | refine qS rfl rfl ?_ | refine qR rfl rfl ?_); simp only [go_sem,↓dP,↓reduceIte]; with_reducible and_intros; all_goals first | apply qA | exact ⟨⟩ | rfl | (intros; apply qB; first | kernel_rfl | omega) | omega | skip)
    (refine Ok.ret ?_; (try dsimp only [thenK,blockK,noGotoK]); simp only [toList_mk,List.toList_toArray,retK_ret,retK_normal,resOK,resV,celV,rowV,frzAll,frzT,subV,subL,go_sem,↓dP,↓reduceIte])
    refine DEq.bool ?_
    simp only [isStreet]
    cases h1 : inR s.len 1 40 <;> cases h2 : inR s.wid 1 12 <;> cases h3 : spanR s.el s.eh 1 40 <;> cases h4 : spanR s.ll s.lh 1 100 <;> simp_all
  · intro hb
    (refine Ok.skip ?_; (try dsimp only [thenK,blockK,noGotoK]))
    refine Ok.sub (Sub.frzB (b:=0) rfl rfl) ?_
    refine Ok.seq ?_
    simp only [setN]
    ((first | refine qS rfl rfl ?_ | refine qR rfl rfl ?_); simp only [go_sem,↓dP,↓reduceIte]; with_reducible and_intros; all_goals first | apply qA | exact ⟨⟩ | rfl | (intros; apply qB; first | kernel_rfl | omega) | omega | skip)
    (refine AskI.ret (c114 _ _ _) ?_; simp only [go_sem,↓dP,↓reduceIte]; with_reducible and_intros; all_goals first | apply qA | exact ⟨⟩ | rfl | (intros; apply qB; first | kernel_rfl | omega) | omega | skip)
    (refine AskGI.ret (fun _ => c126 s.bs 98 1 _ (!isBoard · s.len) hn.1 (fun x hx => c127 x s (hn.2.2 x hx))) ?_; simp only [go_sem,↓dP,↓reduceIte]; with_reducible and_intros; all_goals first | apply qA | exact ⟨⟩ | rfl | (intros; apply qB; first | kernel_rfl | omega) | omega | skip)
    refine Ok.cond rfl ?_ ?_
    · intro hb2
      ((first | refine qS rfl rfl ?_ | refine qR rfl rfl ?_); simp only [go_sem,↓dP,↓reduceIte]; with_reducible and_intros; all_goals first | apply qA | exact ⟨⟩ | rfl | (intros; apply qB; first | kernel_rfl | omega) | omega | skip)
      (refine Ok.ret ?_; (try dsimp only [thenK,blockK,noGotoK]); simp only [toList_mk,List.toList_toArray,retK_ret,retK_normal,resOK,resV,celV,rowV,frzAll,frzT,subV,subL,go_sem,↓dP,↓reduceIte])
      refine DEq.bool ?_
      simp only [isStreet]
      have e : decide (4 < (s.ks.length : Int)) = !decide ((s.ks.length : Int) ≤ 4):=by by_cases h : (s.ks.length : Int) ≤ 4 <;> simp [h] <;> omega
      rw [e] at hb2
      generalize (s.bs.any fun x => !isBoard x s.len) = A at hb2 ⊢
      cases h1 : inR (↑s.bs.length) 1 3 <;> cases h2 : decide ((s.ks.length : Int) ≤ 4) <;> simp_all
    · intro hb2
      (refine Ok.skip ?_; (try dsimp only [thenK,blockK,noGotoK]))
      ((first | refine qS rfl rfl ?_ | refine qR rfl rfl ?_); simp only [go_sem,↓dP,↓reduceIte]; with_reducible and_intros; all_goals first | apply qA | exact ⟨⟩ | rfl | (intros; apply qB; first | kernel_rfl | omega) | omega | skip)
      (refine AskI.ret (c129 s.ks 101 1 _ (!blockIn · s) hn.2.1 (fun x _ => c130 x s)) ?_; simp only [go_sem,↓dP,↓reduceIte]; with_reducible and_intros; all_goals first | apply qA | exact ⟨⟩ | rfl | (intros; apply qB; first | kernel_rfl | omega) | omega | skip)
      (refine Ok.ret ?_; (try dsimp only [thenK,blockK,noGotoK]); simp only [toList_mk,List.toList_toArray,retK_ret,retK_normal,resOK,resV,celV,rowV,frzAll,frzT,subV,subL,go_sem,↓dP,↓reduceIte])
      refine DEq.bool ?_
      simp only [isStreet]
      have e : decide (4 < (s.ks.length : Int)) = !decide ((s.ks.length : Int) ≤ 4):=by by_cases h : (s.ks.length : Int) ≤ 4 <;> simp [h] <;> omega
      rw [e] at hb2
      generalize (s.bs.any fun x => !isBoard x s.len) = A at hb2 ⊢
      generalize (s.ks.any fun x => !blockIn x s) = B at hb2 ⊢
      cases h1 : inR s.len 1 40 <;> cases h2 : inR s.wid 1 12 <;> cases h3 : spanR s.el s.eh 1 40 <;> cases h4 : spanR s.ll s.lh 1 100 <;> cases h5 : inR (↑s.bs.length) 1 3 <;> cases h6 : decide ((s.ks.length : Int) ≤ 4) <;> simp_all
end Go.Proofs.Sight
namespace Go.Proofs.Sight
open Go Go.RX Go.Proofs
set_option maxRecDepth 10000
structure Look where
  s : Street
  b : Board
  p : Place
  deriving Inhabited,DecidableEq
abbrev Look.sv (L : Look) : SV:=.agg [iS L.s.len,iS L.s.wid,iS L.s.el,iS L.s.eh,iS L.s.ll,iS L.s.lh,.d (slD 2 boaD L.s.bs),.d (slD 5 bloD L.s.ks),iS L.b.at_,.d (slD 4 letD L.b.ls),iS L.p.al,iS L.p.ac]
theorem mulB {a b A B : Int} (h1 : -A ≤ a) (h2 : a ≤ A) (h3 : -B ≤ b) (h4 : b ≤ B) : -(A * B) ≤ a * b ∧ a * b ≤ A * B:=by
  have hA : 0 ≤ A:=by omega
  have hB : 0 ≤ B:=by omega
  have e1 : 0 ≤ (A - a) * (B + b):=Int.mul_nonneg (by omega) (by omega)
  have e2 : 0 ≤ (A + a) * (B - b):=Int.mul_nonneg (by omega) (by omega)
  have e3 : 0 ≤ (A + a) * (B + b):=Int.mul_nonneg (by omega) (by omega)
  have e4 : 0 ≤ (A - a) * (B - b):=Int.mul_nonneg (by omega) (by omega)
  simp only [Int.sub_mul,Int.mul_sub,Int.add_mul,Int.mul_add] at e1 e2 e3 e4
  constructor <;> omega
structure Look.fine (L : Look) : Prop where
  at0 : 0 ≤ L.b.at_
  at1 : L.b.at_ ≤ 40
  al0 : 0 ≤ L.p.al
  al1 : L.p.al ≤ 40
  ac0 : 1 ≤ L.p.ac
  ac1 : L.p.ac ≤ 12
  el0 : 1 ≤ L.s.el
  el1 : L.s.el ≤ 40
  eh0 : 1 ≤ L.s.eh
  eh1 : L.s.eh ≤ 40
  ll0 : 1 ≤ L.s.ll
  ll1 : L.s.ll ≤ 100
  lh0 : 1 ≤ L.s.lh
  lh1 : L.s.lh ≤ 100
structure Letter.fine (x : Letter) : Prop where
  h0 : 0 ≤ x.h
  h1 : x.h ≤ 1000
  w0 : 0 ≤ x.w
  w1 : x.w ≤ 1000
  s0 : 0 ≤ x.s
  s1 : x.s ≤ 1000
  p0 : 0 ≤ x.p
  p1 : x.p ≤ 1000
structure Block.fine (k : Block) : Prop where
  al0 : 0 ≤ k.al
  al1 : k.al ≤ 40
  ah0 : 0 ≤ k.ah
  ah1 : k.ah ≤ 40
  cl0 : 1 ≤ k.cl
  cl1 : k.cl ≤ 12
  ch0 : 1 ≤ k.ch
  ch1 : k.ch ≤ 12
def far (at_ : Int) (p : Place) : Int:=(p.al - at_) * (p.al - at_) + p.ac * p.ac
theorem Look.fine.far {L : Look} (h : L.fine) : 0 ≤ Sight.far L.b.at_ L.p ∧ Sight.far L.b.at_ L.p ≤ 1744:=by
  obtain ⟨a1,a2,a3,a4,a5,a6,_⟩:=h
  have e1:=mulB (a:=L.p.al - L.b.at_) (b:=L.p.al - L.b.at_) (A:=40) (B:=40) (by omega) (by omega) (by omega) (by omega)
  have e2:=mulB (a:=L.p.ac) (b:=L.p.ac) (A:=12) (B:=12) (by omega) (by omega) (by omega) (by omega)
  have e3 : 0 ≤ (L.p.al - L.b.at_) * (L.p.al - L.b.at_):=by
    rcases Int.le_total 0 (L.p.al - L.b.at_) with h | h
    · exact Int.mul_nonneg h h
    · exact Int.mul_nonneg_of_nonpos_of_nonpos h h
  have e4 : 0 ≤ L.p.ac * L.p.ac:=Int.mul_nonneg (by omega) (by omega)
  unfold Sight.far
  omega
def intD (n : Int) : Nat → DV
  | 0 => iD n | _ => .nilI
theorem intD_0 (n : Int) : intD n 0 = iD n:=rfl
attribute [go_sem] intD_0
theorem c123 (l : List Int) (hr : ∀ i,i ≤ l.length → R .i64 (l.take i).sum) (hn : l.length < 1000) : Ctr Tryz.prog 115 [.d (slD 1 intD l)] (iS l.sum):=by
  (refine Ctr.mk (fn:=Tryz.f115) rfl rfl rfl rfl rfl Tryz.results115 ?_; dsimp only [args,List.toList_toArray])
  ((first | refine qS rfl rfl ?_ | refine qR rfl rfl ?_); simp only [go_sem,↓dP,↓reduceIte]; with_reducible and_intros; all_goals first | apply qA | exact ⟨⟩ | rfl | (intros; apply qB; first | kernel_rfl | omega) | omega | skip)
  ((first | refine qS rfl rfl ?_ | refine qR rfl rfl ?_); simp only [go_sem,↓dP,↓reduceIte]; with_reducible and_intros; all_goals first | apply qA | exact ⟨⟩ | rfl | (intros; apply qB; first | kernel_rfl | omega) | omega | skip)
  refine Ok.seq ?_
  ((first | refine qS rfl rfl ?_ | refine qR rfl rfl ?_); simp only [go_sem,↓dP,↓reduceIte]; with_reducible and_intros; all_goals first | apply qA | exact ⟨⟩ | rfl | (intros; apply qB; first | kernel_rfl | omega) | omega | skip)
  refine Ok.block ?_
  refine Ok.count l.length (fun i => ⟨[(3,iS (l.take i).sum),(6,.d (slD 1 intD l)),(7,iS l.length),(8,iS i)],[],[]⟩) (fun _ => True) ⟨trivial,?_⟩ ?_ ?_
  · (refine Sub.of ([]) ([]) ?_ ?_ ?_ rfl rfl <;> simp only [subB,subB1,subT,subT1,newT,subE,subV,subL,go_sem,↓dP,↓reduceIte] <;> (try (repeat' with_reducible apply And.intro)) <;> (try first | exact DEq.refl _ | refine DEq.int ?_ | refine DEq.bool ?_ | omega))
  · intro i hi _
    have hs : (l.take (i + 1)).sum = (l.take i).sum + l.getD i default:=by rw [getD_take hi,List.sum_append]; simp
    have hR:=hr (i + 1) (by omega)
    rw [hs] at hR
    ((first | refine qS rfl rfl ?_ | refine qR rfl rfl ?_); simp only [go_sem,↓dP,↓reduceIte]; with_reducible and_intros; all_goals first | apply qA | exact ⟨⟩ | rfl | (intros; apply qB; first | kernel_rfl | omega) | omega | skip)
    refine Ok.seq ?_
    refine Ok.cond rfl (fun _ => ?_) (fun hb => by simp at hb; omega)
    (refine Ok.skip ?_; (try dsimp only [thenK,blockK,noGotoK]))
    refine Ok.seq ?_
    refine Ok.block ?_
    ((first | refine qS rfl rfl ?_ | refine qR rfl rfl ?_); simp only [go_sem,↓dP,↓reduceIte]; with_reducible and_intros; all_goals first | apply qA | exact ⟨⟩ | rfl | (intros; apply qB; first | kernel_rfl | omega) | omega | skip)
    ((first | refine qS rfl rfl ?_ | refine qR rfl rfl ?_); simp only [go_sem,↓dP,↓reduceIte]; with_reducible and_intros; all_goals first | apply qA | exact ⟨⟩ | rfl | (intros; apply qB; first | kernel_rfl | omega) | omega | skip)
    (try dsimp only [thenK,blockK,noGotoK])
    ((first | refine qS rfl rfl ?_ | refine qR rfl rfl ?_); simp only [go_sem,↓dP,↓reduceIte]; with_reducible and_intros; all_goals first | apply qA | exact ⟨⟩ | rfl | (intros; apply qB; first | kernel_rfl | omega) | omega | skip)
    (try dsimp only [thenK,blockK,noGotoK])
    refine ⟨trivial,?_⟩
    (refine Sub.of ([]) ([]) ?_ ?_ ?_ rfl rfl <;> simp only [subB,subB1,subT,subT1,newT,subE,subV,subL,go_sem,↓dP,↓reduceIte] <;> (try (repeat' with_reducible apply And.intro)) <;> (try first | exact DEq.refl _ | refine DEq.int ?_ | refine DEq.bool ?_ | omega))
    exact hs.symm
  · intro _
    ((first | refine qS rfl rfl ?_ | refine qR rfl rfl ?_); simp only [go_sem,↓dP,↓reduceIte]; with_reducible and_intros; all_goals first | apply qA | exact ⟨⟩ | rfl | (intros; apply qB; first | kernel_rfl | omega) | omega | skip)
    refine Ok.seq ?_
    refine Ok.cond rfl (fun hb => by simp at hb) (fun _ => ?_)
    (refine Ok.exit ?_; simp only [thenK_exit,blockK_exit,noGotoK_exit,thenK_normal,blockK_normal,noGotoK_normal,↓reduceIte,Nat.reduceEqDiff])
    ((first | refine qS rfl rfl ?_ | refine qR rfl rfl ?_); simp only [go_sem,↓dP,↓reduceIte]; with_reducible and_intros; all_goals first | apply qA | exact ⟨⟩ | rfl | (intros; apply qB; first | kernel_rfl | omega) | omega | skip)
    (refine Ok.ret ?_; (try dsimp only [thenK,blockK,noGotoK]); simp only [toList_mk,List.toList_toArray,retK_ret,retK_normal,resOK,resV,celV,rowV,frzAll,frzT,subV,subL,go_sem,↓dP,↓reduceIte])
    refine DEq.int ?_
    simp
theorem c123_2 (x y : Int) (h1 : R .i64 x) (h2 : R .i64 (x + y)) : Ctr Tryz.prog 115 [.d (.sl 1 2 (fun i j => dget [iD x,iD y] (i * 1 + j)))] (iS (x + y)):=by
  have:=(c123 [x,y] (fun i hi => by
    match i,hi with
    | 0,_ => exact R64 (n:=0) (by decide) (by decide)
    | 1,_ => simpa using h1
    | 2,_ => simpa using h2) (by simp)).args (A':=[.d (.sl 1 2 (fun i j => dget [iD x,iD y] (i * 1 + j)))]) ⟨DEq.sl rfl (fun i j hi hj => by
      match i,j,hi,hj with
      | 0,0,_,_ => exact .refl _
      | 1,0,_,_ => exact .refl _),trivial⟩
  simpa using this
theorem c96 (L : Look) (h : L.fine) : Ctr Tryz.prog 85 [L.sv] (iS (far L.b.at_ L.p)):=by
  obtain ⟨a1,a2,a3,a4,a5,a6,_⟩:=h
  have e1:=mulB (a:=L.p.al - L.b.at_) (b:=L.p.al - L.b.at_) (A:=40) (B:=40) (by omega) (by omega) (by omega) (by omega)
  have e2:=mulB (a:=L.p.ac) (b:=L.p.ac) (A:=12) (B:=12) (by omega) (by omega) (by omega) (by omega)
  (refine Ctr.mk (fn:=Tryz.f85) rfl rfl rfl rfl rfl Tryz.results85 ?_; dsimp only [args,List.toList_toArray])
  ((first | refine qS rfl rfl ?_ | refine qR rfl rfl ?_); simp only [go_sem,↓dP,↓reduceIte]; with_reducible and_intros; all_goals first | apply qA | exact ⟨⟩ | rfl | (intros; apply qB; first | kernel_rfl | omega) | omega | skip)
  ((first | refine qS rfl rfl ?_ | refine qR rfl rfl ?_); simp only [go_sem,↓dP,↓reduceIte]; with_reducible and_intros; all_goals first | apply qA | exact ⟨⟩ | rfl | (intros; apply qB; first | kernel_rfl | omega) | omega | skip)
  ((first | refine qS rfl rfl ?_ | refine qR rfl rfl ?_); simp only [go_sem,↓dP,↓reduceIte]; with_reducible and_intros; all_goals first | apply qA | exact ⟨⟩ | rfl | (intros; apply qB; first | kernel_rfl | omega) | omega | skip)
  (refine AskI.ret (c123_2 _ _ (R64 (by omega) (by omega)) (R64 (by omega) (by omega))) ?_; simp only [go_sem,↓dP,↓reduceIte]; with_reducible and_intros; all_goals first | apply qA | exact ⟨⟩ | rfl | (intros; apply qB; first | kernel_rfl | omega) | omega | skip)
  (refine Ok.ret ?_; (try dsimp only [thenK,blockK,noGotoK]); simp only [toList_mk,List.toList_toArray,retK_ret,retK_normal,resOK,resV,celV,rowV,frzAll,frzT,subV,subL,go_sem,↓dP,↓reduceIte])
  exact .refl _
def along (L : Look) (c : Int) : Int:=L.b.at_ * L.p.ac + (L.p.al - L.b.at_) * c
def tall (L : Look) (x : Letter) (n : Int) : Bool:=decide (10000 * far L.b.at_ L.p ≤ x.h * n * (x.h * n))
def broad (L : Look) (x : Letter) (n : Int) : Bool:=decide (100 * far L.b.at_ L.p ≤ x.w * n * L.p.ac)
def thick (L : Look) (x : Letter) (n : Int) : Bool:=decide (10000 * far L.b.at_ L.p ≤ 5 * x.s * n * (5 * x.s * n))
def apart (L : Look) (x : Letter) (n : Int) : Bool:=decide (100 * far L.b.at_ L.p ≤ 5 * x.p * n * L.p.ac)
def hides (L : Look) (k : Block) : Bool :=
  decide (k.cl ≤ L.p.ac) && (decide (min (along L k.cl) (along L (min k.ch L.p.ac)) ≤ k.ah * L.p.ac) && decide (k.al * L.p.ac ≤ max (along L k.cl) (along L (min k.ch L.p.ac))))
theorem c84 (L : Look) (h : L.fine) : Ctr Tryz.prog 80 [L.sv] (iS (L.s.el * L.s.ll)):=by
  obtain ⟨a1,a2,a3,a4,a5,a6,b1,b2,b3,b4,b5,b6,b7,b8⟩:=h
  have e1:=mulB (a:=L.s.el) (b:=L.s.ll) (A:=40) (B:=100) (by omega) (by omega) (by omega) (by omega)
  (refine Ctr.mk (fn:=Tryz.f80) rfl rfl rfl rfl rfl Tryz.results80 ?_; dsimp only [args,List.toList_toArray])
  ((first | refine qS rfl rfl ?_ | refine qR rfl rfl ?_); simp only [go_sem,↓dP,↓reduceIte]; with_reducible and_intros; all_goals first | apply qA | exact ⟨⟩ | rfl | (intros; apply qB; first | kernel_rfl | omega) | omega | skip)
  ((first | refine qS rfl rfl ?_ | refine qR rfl rfl ?_); simp only [go_sem,↓dP,↓reduceIte]; with_reducible and_intros; all_goals first | apply qA | exact ⟨⟩ | rfl | (intros; apply qB; first | kernel_rfl | omega) | omega | skip)
  (refine Ok.ret ?_; (try dsimp only [thenK,blockK,noGotoK]); simp only [toList_mk,List.toList_toArray,retK_ret,retK_normal,resOK,resV,celV,rowV,frzAll,frzT,subV,subL,go_sem,↓dP,↓reduceIte])
  exact .refl _
theorem c85 (L : Look) (h : L.fine) : Ctr Tryz.prog 81 [L.sv] (iS (L.s.eh * L.s.lh)):=by
  obtain ⟨a1,a2,a3,a4,a5,a6,b1,b2,b3,b4,b5,b6,b7,b8⟩:=h
  have e1:=mulB (a:=L.s.eh) (b:=L.s.lh) (A:=40) (B:=100) (by omega) (by omega) (by omega) (by omega)
  (refine Ctr.mk (fn:=Tryz.f81) rfl rfl rfl rfl rfl Tryz.results81 ?_; dsimp only [args,List.toList_toArray])
  ((first | refine qS rfl rfl ?_ | refine qR rfl rfl ?_); simp only [go_sem,↓dP,↓reduceIte]; with_reducible and_intros; all_goals first | apply qA | exact ⟨⟩ | rfl | (intros; apply qB; first | kernel_rfl | omega) | omega | skip)
  ((first | refine qS rfl rfl ?_ | refine qR rfl rfl ?_); simp only [go_sem,↓dP,↓reduceIte]; with_reducible and_intros; all_goals first | apply qA | exact ⟨⟩ | rfl | (intros; apply qB; first | kernel_rfl | omega) | omega | skip)
  (refine Ok.ret ?_; (try dsimp only [thenK,blockK,noGotoK]); simp only [toList_mk,List.toList_toArray,retK_ret,retK_normal,resOK,resV,celV,rowV,frzAll,frzT,subV,subL,go_sem,↓dP,↓reduceIte])
  exact .refl _
theorem c141 (L : Look) (h : L.fine) (x : Letter) (hx : x.fine) (n : Int) (h0 : 0 ≤ n) (h1 : n ≤ 10000) : Ctr Tryz.prog 131 [L.sv,x.sv,iS n] (bS (tall L x n)):=by
  obtain ⟨f0,f1⟩:=h.far
  obtain ⟨x1,x2,x3,x4,x5,x6,x7,x8⟩:=hx
  have e1:=mulB (a:=x.h) (b:=n) (A:=1000) (B:=10000) (by omega) (by omega) (by omega) (by omega)
  have e2:=mulB (a:=x.h * n) (b:=x.h * n) (A:=10000000) (B:=10000000) (by omega) (by omega) (by omega) (by omega)
  (refine Ctr.mk (fn:=Tryz.f131) rfl rfl rfl rfl rfl Tryz.results131 ?_; dsimp only [args,List.toList_toArray])
  ((first | refine qS rfl rfl ?_ | refine qR rfl rfl ?_); simp only [go_sem,↓dP,↓reduceIte]; with_reducible and_intros; all_goals first | apply qA | exact ⟨⟩ | rfl | (intros; apply qB; first | kernel_rfl | omega) | omega | skip)
  ((first | refine qS rfl rfl ?_ | refine qR rfl rfl ?_); simp only [go_sem,↓dP,↓reduceIte]; with_reducible and_intros; all_goals first | apply qA | exact ⟨⟩ | rfl | (intros; apply qB; first | kernel_rfl | omega) | omega | skip)
  ((first | refine qS rfl rfl ?_ | refine qR rfl rfl ?_); simp only [go_sem,↓dP,↓reduceIte]; with_reducible and_intros; all_goals first | apply qA | exact ⟨⟩ | rfl | (intros; apply qB; first | kernel_rfl | omega) | omega | skip)
  (refine AskI.ret (c96 L h) ?_; simp only [go_sem,↓dP,↓reduceIte]; with_reducible and_intros; all_goals first | apply qA | exact ⟨⟩ | rfl | (intros; apply qB; first | kernel_rfl | omega) | omega | skip)
  (refine Ok.ret ?_; (try dsimp only [thenK,blockK,noGotoK]); simp only [toList_mk,List.toList_toArray,retK_ret,retK_normal,resOK,resV,celV,rowV,frzAll,frzT,subV,subL,go_sem,↓dP,↓reduceIte])
  exact .refl _
theorem c142 (L : Look) (h : L.fine) (x : Letter) (hx : x.fine) (n : Int) (h0 : 0 ≤ n) (h1 : n ≤ 10000) : Ctr Tryz.prog 132 [L.sv,x.sv,iS n] (bS (broad L x n)):=by
  obtain ⟨f0,f1⟩:=h.far
  have hL:=h
  obtain ⟨a1,a2,a3,a4,a5,a6,_⟩:=h
  obtain ⟨x1,x2,x3,x4,x5,x6,x7,x8⟩:=hx
  have e1:=mulB (a:=x.w) (b:=n) (A:=1000) (B:=10000) (by omega) (by omega) (by omega) (by omega)
  have e2:=mulB (a:=x.w * n) (b:=L.p.ac) (A:=10000000) (B:=12) (by omega) (by omega) (by omega) (by omega)
  (refine Ctr.mk (fn:=Tryz.f132) rfl rfl rfl rfl rfl Tryz.results132 ?_; dsimp only [args,List.toList_toArray])
  ((first | refine qS rfl rfl ?_ | refine qR rfl rfl ?_); simp only [go_sem,↓dP,↓reduceIte]; with_reducible and_intros; all_goals first | apply qA | exact ⟨⟩ | rfl | (intros; apply qB; first | kernel_rfl | omega) | omega | skip)
  ((first | refine qS rfl rfl ?_ | refine qR rfl rfl ?_); simp only [go_sem,↓dP,↓reduceIte]; with_reducible and_intros; all_goals first | apply qA | exact ⟨⟩ | rfl | (intros; apply qB; first | kernel_rfl | omega) | omega | skip)
  (refine AskI.ret (c96 L hL) ?_; simp only [go_sem,↓dP,↓reduceIte]; with_reducible and_intros; all_goals first | apply qA | exact ⟨⟩ | rfl | (intros; apply qB; first | kernel_rfl | omega) | omega | skip)
  (refine Ok.ret ?_; (try dsimp only [thenK,blockK,noGotoK]); simp only [toList_mk,List.toList_toArray,retK_ret,retK_normal,resOK,resV,celV,rowV,frzAll,frzT,subV,subL,go_sem,↓dP,↓reduceIte])
  exact .refl _
theorem c143 (L : Look) (h : L.fine) (x : Letter) (hx : x.fine) (n : Int) (h0 : 0 ≤ n) (h1 : n ≤ 10000) : Ctr Tryz.prog 133 [L.sv,x.sv,iS n] (bS (thick L x n)):=by
  obtain ⟨f0,f1⟩:=h.far
  obtain ⟨x1,x2,x3,x4,x5,x6,x7,x8⟩:=hx
  have e1:=mulB (a:=5 * x.s) (b:=n) (A:=5000) (B:=10000) (by omega) (by omega) (by omega) (by omega)
  have e2:=mulB (a:=5 * x.s * n) (b:=5 * x.s * n) (A:=50000000) (B:=50000000) (by omega) (by omega) (by omega) (by omega)
  (refine Ctr.mk (fn:=Tryz.f133) rfl rfl rfl rfl rfl Tryz.results133 ?_; dsimp only [args,List.toList_toArray])
  ((first | refine qS rfl rfl ?_ | refine qR rfl rfl ?_); simp only [go_sem,↓dP,↓reduceIte]; with_reducible and_intros; all_goals first | apply qA | exact ⟨⟩ | rfl | (intros; apply qB; first | kernel_rfl | omega) | omega | skip)
  ((first | refine qS rfl rfl ?_ | refine qR rfl rfl ?_); simp only [go_sem,↓dP,↓reduceIte]; with_reducible and_intros; all_goals first | apply qA | exact ⟨⟩ | rfl | (intros; apply qB; first | kernel_rfl | omega) | omega | skip)
  ((first | refine qS rfl rfl ?_ | refine qR rfl rfl ?_); simp only [go_sem,↓dP,↓reduceIte]; with_reducible and_intros; all_goals first | apply qA | exact ⟨⟩ | rfl | (intros; apply qB; first | kernel_rfl | omega) | omega | skip)
  (refine AskI.ret (c96 L h) ?_; simp only [go_sem,↓dP,↓reduceIte]; with_reducible and_intros; all_goals first | apply qA | exact ⟨⟩ | rfl | (intros; apply qB; first | kernel_rfl | omega) | omega | skip)
  (refine Ok.ret ?_; (try dsimp only [thenK,blockK,noGotoK]); simp only [toList_mk,List.toList_toArray,retK_ret,retK_normal,resOK,resV,celV,rowV,frzAll,frzT,subV,subL,go_sem,↓dP,↓reduceIte])
  exact .refl _
theorem c86 (L : Look) (h : L.fine) (x : Letter) (hx : x.fine) (n : Int) (h0 : 0 ≤ n) (h1 : n ≤ 10000) : Ctr Tryz.prog 82 [L.sv,x.sv,iS n] (bS (apart L x n)):=by
  obtain ⟨f0,f1⟩:=h.far
  have hL:=h
  obtain ⟨a1,a2,a3,a4,a5,a6,_⟩:=h
  obtain ⟨x1,x2,x3,x4,x5,x6,x7,x8⟩:=hx
  have e1:=mulB (a:=5 * x.p) (b:=n) (A:=5000) (B:=10000) (by omega) (by omega) (by omega) (by omega)
  have e2:=mulB (a:=5 * x.p * n) (b:=L.p.ac) (A:=50000000) (B:=12) (by omega) (by omega) (by omega) (by omega)
  (refine Ctr.mk (fn:=Tryz.f82) rfl rfl rfl rfl rfl Tryz.results82 ?_; dsimp only [args,List.toList_toArray])
  ((first | refine qS rfl rfl ?_ | refine qR rfl rfl ?_); simp only [go_sem,↓dP,↓reduceIte]; with_reducible and_intros; all_goals first | apply qA | exact ⟨⟩ | rfl | (intros; apply qB; first | kernel_rfl | omega) | omega | skip)
  ((first | refine qS rfl rfl ?_ | refine qR rfl rfl ?_); simp only [go_sem,↓dP,↓reduceIte]; with_reducible and_intros; all_goals first | apply qA | exact ⟨⟩ | rfl | (intros; apply qB; first | kernel_rfl | omega) | omega | skip)
  (refine AskI.ret (c96 L hL) ?_; simp only [go_sem,↓dP,↓reduceIte]; with_reducible and_intros; all_goals first | apply qA | exact ⟨⟩ | rfl | (intros; apply qB; first | kernel_rfl | omega) | omega | skip)
  (refine Ok.ret ?_; (try dsimp only [thenK,blockK,noGotoK]); simp only [toList_mk,List.toList_toArray,retK_ret,retK_normal,resOK,resV,celV,rowV,frzAll,frzT,subV,subL,go_sem,↓dP,↓reduceIte])
  exact .refl _
theorem c121 (L : Look) (h : L.fine) (c : Int) (h0 : 0 ≤ c) (h1 : c ≤ 40) : Ctr Tryz.prog 95 [L.sv,iS c] (iS (along L c)):=by
  obtain ⟨a1,a2,a3,a4,a5,a6,_⟩:=h
  have e1:=mulB (a:=L.b.at_) (b:=L.p.ac) (A:=40) (B:=12) (by omega) (by omega) (by omega) (by omega)
  have e2:=mulB (a:=L.p.al - L.b.at_) (b:=c) (A:=40) (B:=40) (by omega) (by omega) (by omega) (by omega)
  (refine Ctr.mk (fn:=Tryz.f95) rfl rfl rfl rfl rfl Tryz.results95 ?_; dsimp only [args,List.toList_toArray])
  ((first | refine qS rfl rfl ?_ | refine qR rfl rfl ?_); simp only [go_sem,↓dP,↓reduceIte]; with_reducible and_intros; all_goals first | apply qA | exact ⟨⟩ | rfl | (intros; apply qB; first | kernel_rfl | omega) | omega | skip)
  ((first | refine qS rfl rfl ?_ | refine qR rfl rfl ?_); simp only [go_sem,↓dP,↓reduceIte]; with_reducible and_intros; all_goals first | apply qA | exact ⟨⟩ | rfl | (intros; apply qB; first | kernel_rfl | omega) | omega | skip)
  (refine Ok.ret ?_; (try dsimp only [thenK,blockK,noGotoK]); simp only [toList_mk,List.toList_toArray,retK_ret,retK_normal,resOK,resV,celV,rowV,frzAll,frzT,subV,subL,go_sem,↓dP,↓reduceIte])
  exact .refl _
theorem c87 (L : Look) (h : L.fine) (k : Block) (hk : k.fine) : Ctr Tryz.prog 63 [L.sv,k.sv] (bS (hides L k)):=by
  have hL:=h
  obtain ⟨a1,a2,a3,a4,a5,a6,b1,b2,b3,b4,b5,b6,b7,b8⟩:=h
  obtain ⟨k1,k2,k3,k4,k5,k6,k7,k8⟩:=hk
  have e1:=mulB (a:=k.ah) (b:=L.p.ac) (A:=40) (B:=12) (by omega) (by omega) (by omega) (by omega)
  have e2:=mulB (a:=k.al) (b:=L.p.ac) (A:=40) (B:=12) (by omega) (by omega) (by omega) (by omega)
  (refine Ctr.mk (fn:=Tryz.f63) rfl rfl rfl rfl rfl Tryz.results63 ?_; dsimp only [args,List.toList_toArray])
  ((first | refine qS rfl rfl ?_ | refine qR rfl rfl ?_); simp only [go_sem,↓dP,↓reduceIte]; with_reducible and_intros; all_goals first | apply qA | exact ⟨⟩ | rfl | (intros; apply qB; first | kernel_rfl | omega) | omega | skip)
  refine Ok.seq ?_
  ((first | refine qS rfl rfl ?_ | refine qR rfl rfl ?_); simp only [go_sem,↓dP,↓reduceIte]; with_reducible and_intros; all_goals first | apply qA | exact ⟨⟩ | rfl | (intros; apply qB; first | kernel_rfl | omega) | omega | skip)
  refine Ok.cond rfl ?_ ?_
  · intro hb
    ((first | refine qS rfl rfl ?_ | refine qR rfl rfl ?_); simp only [go_sem,↓dP,↓reduceIte]; with_reducible and_intros; all_goals first | apply qA | exact ⟨⟩ | rfl | (intros; apply qB; first | kernel_rfl | omega) | omega | skip)
    (refine Ok.ret ?_; (try dsimp only [thenK,blockK,noGotoK]); simp only [toList_mk,List.toList_toArray,retK_ret,retK_normal,resOK,resV,celV,rowV,frzAll,frzT,subV,subL,go_sem,↓dP,↓reduceIte])
    refine DEq.bool ?_
    simp only [decide_eq_true_eq] at hb
    simp only [hides]
    have : ¬ k.cl ≤ L.p.ac:=by omega
    simp [this]
  · intro hb
    (refine Ok.skip ?_; (try dsimp only [thenK,blockK,noGotoK]))
    simp only [decide_eq_false_iff_not] at hb
    ((first | refine qS rfl rfl ?_ | refine qR rfl rfl ?_); simp only [go_sem,↓dP,↓reduceIte]; with_reducible and_intros; all_goals first | apply qA | exact ⟨⟩ | rfl | (intros; apply qB; first | kernel_rfl | omega) | omega | skip)
    ((first | refine qS rfl rfl ?_ | refine qR rfl rfl ?_); simp only [go_sem,↓dP,↓reduceIte]; with_reducible and_intros; all_goals first | apply qA | exact ⟨⟩ | rfl | (intros; apply qB; first | kernel_rfl | omega) | omega | skip)
    (refine AskI.ret (c121 L hL k.cl (by omega) (by omega)) ?_; simp only [go_sem,↓dP,↓reduceIte]; with_reducible and_intros; all_goals first | apply qA | exact ⟨⟩ | rfl | (intros; apply qB; first | kernel_rfl | omega) | omega | skip)
    (refine AskI.ret (c121 L hL (min k.ch L.p.ac) (by omega) (by omega)) ?_; simp only [go_sem,↓dP,↓reduceIte]; with_reducible and_intros; all_goals first | apply qA | exact ⟨⟩ | rfl | (intros; apply qB; first | kernel_rfl | omega) | omega | skip)
    ((first | refine qS rfl rfl ?_ | refine qR rfl rfl ?_); simp only [go_sem,↓dP,↓reduceIte]; with_reducible and_intros; all_goals first | apply qA | exact ⟨⟩ | rfl | (intros; apply qB; first | kernel_rfl | omega) | omega | skip)
    (refine Ok.ret ?_; (try dsimp only [thenK,blockK,noGotoK]); simp only [toList_mk,List.toList_toArray,retK_ret,retK_normal,resOK,resV,celV,rowV,frzAll,frzT,subV,subL,go_sem,↓dP,↓reduceIte])
    refine DEq.bool ?_
    simp only [hides]
    have : k.cl ≤ L.p.ac:=by omega
    simp [this]
end Go.Proofs.Sight
namespace Go.Proofs.Sight
open Go Go.RX Go.Proofs
set_option maxRecDepth 10000
def cl0 (f : Nat) : DV:=.clo f 0 (fun _ => .nilI)
def mustV : SV:=.agg [.d (cl0 131),.d (cl0 132),.d (cl0 133),.d (cl0 82)]
attribute [go_sem] cl0 mustV
def word (worst best : Bool) : Int:=if worst then 3 else if best then 2 else 1
def placeIn (s : Street) (p : Place) : Bool:=inR p.al 0 s.len && inR p.ac 1 s.wid
theorem c120 : Ctr Tryz.prog 114 [] mustV:=by
  (refine Ctr.mk (fn:=Tryz.f114) rfl rfl rfl rfl rfl Tryz.results114 ?_; dsimp only [args,List.toList_toArray])
  ((first | refine qS rfl rfl ?_ | refine qR rfl rfl ?_); simp only [go_sem,↓dP,↓reduceIte]; with_reducible and_intros; all_goals first | apply qA | exact ⟨⟩ | rfl | (intros; apply qB; first | kernel_rfl | omega) | omega | skip)
  ((first | refine qS rfl rfl ?_ | refine qR rfl rfl ?_); simp only [go_sem,↓dP,↓reduceIte]; with_reducible and_intros; all_goals first | apply qA | exact ⟨⟩ | rfl | (intros; apply qB; first | kernel_rfl | omega) | omega | skip)
  (refine Ok.ret ?_; (try dsimp only [thenK,blockK,noGotoK]); simp only [toList_mk,List.toList_toArray,retK_ret,retK_normal,resOK,resV,celV,rowV,frzAll,frzT,subV,subL,go_sem,↓dP,↓reduceIte])
  exact ⟨.refl _,.refl _,.refl _,.refl _⟩
theorem c117 (k : Block) : Ctr Tryz.prog 90 [k.sv] (bS true):=by
  (refine Ctr.mk (fn:=Tryz.f90) rfl rfl rfl rfl rfl Tryz.results90 ?_; dsimp only [args,List.toList_toArray])
  ((first | refine qS rfl rfl ?_ | refine qR rfl rfl ?_); simp only [go_sem,↓dP,↓reduceIte]; with_reducible and_intros; all_goals first | apply qA | exact ⟨⟩ | rfl | (intros; apply qB; first | kernel_rfl | omega) | omega | skip)
  ((first | refine qS rfl rfl ?_ | refine qR rfl rfl ?_); simp only [go_sem,↓dP,↓reduceIte]; with_reducible and_intros; all_goals first | apply qA | exact ⟨⟩ | rfl | (intros; apply qB; first | kernel_rfl | omega) | omega | skip)
  (refine Ok.ret ?_; (try dsimp only [thenK,blockK,noGotoK]); simp only [toList_mk,List.toList_toArray,retK_ret,retK_normal,resOK,resV,celV,rowV,frzAll,frzT,subV,subL,go_sem,↓dP,↓reduceIte])
  exact .refl _
theorem c118 (k : Block) : Ctr Tryz.prog 92 [k.sv] (bS k.sure):=by
  (refine Ctr.mk (fn:=Tryz.f92) rfl rfl rfl rfl rfl Tryz.results92 ?_; dsimp only [args,List.toList_toArray])
  ((first | refine qS rfl rfl ?_ | refine qR rfl rfl ?_); simp only [go_sem,↓dP,↓reduceIte]; with_reducible and_intros; all_goals first | apply qA | exact ⟨⟩ | rfl | (intros; apply qB; first | kernel_rfl | omega) | omega | skip)
  ((first | refine qS rfl rfl ?_ | refine qR rfl rfl ?_); simp only [go_sem,↓dP,↓reduceIte]; with_reducible and_intros; all_goals first | apply qA | exact ⟨⟩ | rfl | (intros; apply qB; first | kernel_rfl | omega) | omega | skip)
  (refine Ok.ret ?_; (try dsimp only [thenK,blockK,noGotoK]); simp only [toList_mk,List.toList_toArray,retK_ret,retK_normal,resOK,resV,celV,rowV,frzAll,frzT,subV,subL,go_sem,↓dP,↓reduceIte])
  exact .refl _
theorem c115 (s : Street) (p : Place) : Ctr Tryz.prog 93 [s.sv,p.sv] (bS (placeIn s p)):=by
  (refine Ctr.mk (fn:=Tryz.f93) rfl rfl rfl rfl rfl Tryz.results93 ?_; dsimp only [args,List.toList_toArray])
  ((first | refine qS rfl rfl ?_ | refine qR rfl rfl ?_); simp only [go_sem,↓dP,↓reduceIte]; with_reducible and_intros; all_goals first | apply qA | exact ⟨⟩ | rfl | (intros; apply qB; first | kernel_rfl | omega) | omega | skip)
  ((first | refine qS rfl rfl ?_ | refine qR rfl rfl ?_); simp only [go_sem,↓dP,↓reduceIte]; with_reducible and_intros; all_goals first | apply qA | exact ⟨⟩ | rfl | (intros; apply qB; first | kernel_rfl | omega) | omega | skip)
  (refine AskI.ret (c114 _ _ _) ?_; simp only [go_sem,↓dP,↓reduceIte]; with_reducible and_intros; all_goals first | apply qA | exact ⟨⟩ | rfl | (intros; apply qB; first | kernel_rfl | omega) | omega | skip)
  (refine AskGI.ret (fun _ => c114 _ _ _) ?_; simp only [go_sem,↓dP,↓reduceIte]; with_reducible and_intros; all_goals first | apply qA | exact ⟨⟩ | rfl | (intros; apply qB; first | kernel_rfl | omega) | omega | skip)
  (refine Ok.ret ?_; (try dsimp only [thenK,blockK,noGotoK]); simp only [toList_mk,List.toList_toArray,retK_ret,retK_normal,resOK,resV,celV,rowV,frzAll,frzT,subV,subL,go_sem,↓dP,↓reduceIte])
  exact .refl _
theorem c73 (u v : Bool) : Ctr Tryz.prog 60 [bS u,bS v] (iS (word u v)):=by
  (refine Ctr.mk (fn:=Tryz.f60) rfl rfl rfl rfl rfl Tryz.results60 ?_; dsimp only [args,List.toList_toArray])
  ((first | refine qS rfl rfl ?_ | refine qR rfl rfl ?_); simp only [go_sem,↓dP,↓reduceIte]; with_reducible and_intros; all_goals first | apply qA | exact ⟨⟩ | rfl | (intros; apply qB; first | kernel_rfl | omega) | omega | skip)
  refine Ok.seq ?_
  refine Ok.block ?_
  ((first | refine qS rfl rfl ?_ | refine qR rfl rfl ?_); simp only [go_sem,↓dP,↓reduceIte]; with_reducible and_intros; all_goals first | apply qA | exact ⟨⟩ | rfl | (intros; apply qB; first | kernel_rfl | omega) | omega | skip)
  refine Ok.cond rfl ?_ ?_
  · intro hu
    ((first | refine qS rfl rfl ?_ | refine qR rfl rfl ?_); simp only [go_sem,↓dP,↓reduceIte]; with_reducible and_intros; all_goals first | apply qA | exact ⟨⟩ | rfl | (intros; apply qB; first | kernel_rfl | omega) | omega | skip)
    (refine Ok.ret ?_; (try dsimp only [thenK,blockK,noGotoK]); simp only [toList_mk,List.toList_toArray,retK_ret,retK_normal,resOK,resV,celV,rowV,frzAll,frzT,subV,subL,go_sem,↓dP,↓reduceIte])
    simp only [word,hu,if_true]
    exact .refl _
  · intro hu
    ((first | refine qS rfl rfl ?_ | refine qR rfl rfl ?_); simp only [go_sem,↓dP,↓reduceIte]; with_reducible and_intros; all_goals first | apply qA | exact ⟨⟩ | rfl | (intros; apply qB; first | kernel_rfl | omega) | omega | skip)
    refine Ok.cond rfl ?_ ?_
    · intro hv
      ((first | refine qS rfl rfl ?_ | refine qR rfl rfl ?_); simp only [go_sem,↓dP,↓reduceIte]; with_reducible and_intros; all_goals first | apply qA | exact ⟨⟩ | rfl | (intros; apply qB; first | kernel_rfl | omega) | omega | skip)
      (refine Ok.ret ?_; (try dsimp only [thenK,blockK,noGotoK]); simp only [toList_mk,List.toList_toArray,retK_ret,retK_normal,resOK,resV,celV,rowV,frzAll,frzT,subV,subL,go_sem,↓dP,↓reduceIte])
      simp only [word,hu,hv,if_true]
      exact .refl _
    · intro hv
      (refine Ok.skip ?_; (try dsimp only [thenK,blockK,noGotoK]))
      ((first | refine qS rfl rfl ?_ | refine qR rfl rfl ?_); simp only [go_sem,↓dP,↓reduceIte]; with_reducible and_intros; all_goals first | apply qA | exact ⟨⟩ | rfl | (intros; apply qB; first | kernel_rfl | omega) | omega | skip)
      (refine Ok.ret ?_; (try dsimp only [thenK,blockK,noGotoK]); simp only [toList_mk,List.toList_toArray,retK_ret,retK_normal,resOK,resV,celV,rowV,frzAll,frzT,subV,subL,go_sem,↓dP,↓reduceIte])
      simp only [word,hu,hv]
      exact .refl _
def readL (L : Look) (x : Letter) (n : Int) : Bool:=tall L x n && broad L x n && thick L x n
theorem c83 (L : Look) (h : L.fine) (x : Letter) (hx : x.fine) (n : Int) (h0 : 0 ≤ n) (h1 : n ≤ 10000) : Ctr Tryz.prog 79 [L.sv,x.sv,iS n] (bS (readL L x n)):=by
  (refine Ctr.mk (fn:=Tryz.f79) rfl rfl rfl rfl rfl Tryz.results79 ?_; dsimp only [args,List.toList_toArray])
  ((first | refine qS rfl rfl ?_ | refine qR rfl rfl ?_); simp only [go_sem,↓dP,↓reduceIte]; with_reducible and_intros; all_goals first | apply qA | exact ⟨⟩ | rfl | (intros; apply qB; first | kernel_rfl | omega) | omega | skip)
  refine Ok.seq ?_
  ((first | refine qS rfl rfl ?_ | refine qR rfl rfl ?_); simp only [go_sem,↓dP,↓reduceIte]; with_reducible and_intros; all_goals first | apply qA | exact ⟨⟩ | rfl | (intros; apply qB; first | kernel_rfl | omega) | omega | skip)
  (refine AskI.ret (c120) ?_; simp only [go_sem,↓dP,↓reduceIte]; with_reducible and_intros; all_goals first | apply qA | exact ⟨⟩ | rfl | (intros; apply qB; first | kernel_rfl | omega) | omega | skip)
  refine Ok.block ?_
  refine Ok.rounds 5 (OkN.round ?_)
  ((first | refine qS rfl rfl ?_ | refine qR rfl rfl ?_); simp only [go_sem,↓dP,↓reduceIte]; with_reducible and_intros; all_goals first | apply qA | exact ⟨⟩ | rfl | (intros; apply qB; first | kernel_rfl | omega) | omega | skip)
  refine Ok.seq ?_
  refine Ok.cond (b:=true) (by first | rfl | (simp only [go_sem,↓dP,↓reduceIte]; rfl)) (fun _ => ?_) (fun hb => by cases hb)
  (refine Ok.skip ?_; (try dsimp only [thenK,blockK,noGotoK]))
  refine Ok.seq ?_
  refine Ok.block ?_
  ((first | refine qS rfl rfl ?_ | refine qR rfl rfl ?_); simp only [go_sem,↓dP,↓reduceIte]; with_reducible and_intros; all_goals first | apply qA | exact ⟨⟩ | rfl | (intros; apply qB; first | kernel_rfl | omega) | omega | skip)
  ((first | refine qS rfl rfl ?_ | refine qR rfl rfl ?_); simp only [go_sem,↓dP,↓reduceIte]; with_reducible and_intros; all_goals first | apply qA | exact ⟨⟩ | rfl | (intros; apply qB; first | kernel_rfl | omega) | omega | skip)
  (refine AskGI.ret (fun _ => c141 L h x hx n h0 h1) ?_; simp only [go_sem,↓dP,↓reduceIte]; with_reducible and_intros; all_goals first | apply qA | exact ⟨⟩ | rfl | (intros; apply qB; first | kernel_rfl | omega) | omega | skip)
  refine Ok.cond rfl ?_ ?_
  · intro hb
    ((first | refine qS rfl rfl ?_ | refine qR rfl rfl ?_); simp only [go_sem,↓dP,↓reduceIte]; with_reducible and_intros; all_goals first | apply qA | exact ⟨⟩ | rfl | (intros; apply qB; first | kernel_rfl | omega) | omega | skip)
    (refine Ok.ret ?_; (try dsimp only [thenK,blockK,noGotoK]); simp only [toList_mk,List.toList_toArray,retK_ret,retK_normal,resOK,resV,celV,rowV,frzAll,frzT,subV,subL,go_sem,↓dP,↓reduceIte])
    refine DEq.bool ?_
    simp only [Bool.not_eq_true'] at hb
    simp [readL,hb]
  intro h141
  simp only [Bool.not_eq_false'] at h141
  (refine Ok.skip ?_; (try dsimp only [thenK,blockK,noGotoK]))
  ((first | refine qS rfl rfl ?_ | refine qR rfl rfl ?_); simp only [go_sem,↓dP,↓reduceIte]; with_reducible and_intros; all_goals first | apply qA | exact ⟨⟩ | rfl | (intros; apply qB; first | kernel_rfl | omega) | omega | skip)
  (try dsimp only [thenK,blockK,noGotoK])
  refine OkN.round ?_
  ((first | refine qS rfl rfl ?_ | refine qR rfl rfl ?_); simp only [go_sem,↓dP,↓reduceIte]; with_reducible and_intros; all_goals first | apply qA | exact ⟨⟩ | rfl | (intros; apply qB; first | kernel_rfl | omega) | omega | skip)
  refine Ok.seq ?_
  refine Ok.cond (b:=true) (by first | rfl | (simp only [go_sem,↓dP,↓reduceIte]; rfl)) (fun _ => ?_) (fun hb => by cases hb)
  (refine Ok.skip ?_; (try dsimp only [thenK,blockK,noGotoK]))
  refine Ok.seq ?_
  refine Ok.block ?_
  ((first | refine qS rfl rfl ?_ | refine qR rfl rfl ?_); simp only [go_sem,↓dP,↓reduceIte]; with_reducible and_intros; all_goals first | apply qA | exact ⟨⟩ | rfl | (intros; apply qB; first | kernel_rfl | omega) | omega | skip)
  ((first | refine qS rfl rfl ?_ | refine qR rfl rfl ?_); simp only [go_sem,↓dP,↓reduceIte]; with_reducible and_intros; all_goals first | apply qA | exact ⟨⟩ | rfl | (intros; apply qB; first | kernel_rfl | omega) | omega | skip)
  (refine AskGI.ret (fun _ => c142 L h x hx n h0 h1) ?_; simp only [go_sem,↓dP,↓reduceIte]; with_reducible and_intros; all_goals first | apply qA | exact ⟨⟩ | rfl | (intros; apply qB; first | kernel_rfl | omega) | omega | skip)
  refine Ok.cond rfl ?_ ?_
  · intro hb
    ((first | refine qS rfl rfl ?_ | refine qR rfl rfl ?_); simp only [go_sem,↓dP,↓reduceIte]; with_reducible and_intros; all_goals first | apply qA | exact ⟨⟩ | rfl | (intros; apply qB; first | kernel_rfl | omega) | omega | skip)
    (refine Ok.ret ?_; (try dsimp only [thenK,blockK,noGotoK]); simp only [toList_mk,List.toList_toArray,retK_ret,retK_normal,resOK,resV,celV,rowV,frzAll,frzT,subV,subL,go_sem,↓dP,↓reduceIte])
    refine DEq.bool ?_
    simp only [Bool.not_eq_true'] at hb
    simp [readL,hb]
  intro h142
  simp only [Bool.not_eq_false'] at h142
  (refine Ok.skip ?_; (try dsimp only [thenK,blockK,noGotoK]))
  ((first | refine qS rfl rfl ?_ | refine qR rfl rfl ?_); simp only [go_sem,↓dP,↓reduceIte]; with_reducible and_intros; all_goals first | apply qA | exact ⟨⟩ | rfl | (intros; apply qB; first | kernel_rfl | omega) | omega | skip)
  (try dsimp only [thenK,blockK,noGotoK])
  refine OkN.round ?_
  ((first | refine qS rfl rfl ?_ | refine qR rfl rfl ?_); simp only [go_sem,↓dP,↓reduceIte]; with_reducible and_intros; all_goals first | apply qA | exact ⟨⟩ | rfl | (intros; apply qB; first | kernel_rfl | omega) | omega | skip)
  refine Ok.seq ?_
  refine Ok.cond (b:=true) (by first | rfl | (simp only [go_sem,↓dP,↓reduceIte]; rfl)) (fun _ => ?_) (fun hb => by cases hb)
  (refine Ok.skip ?_; (try dsimp only [thenK,blockK,noGotoK]))
  refine Ok.seq ?_
  refine Ok.block ?_
  ((first | refine qS rfl rfl ?_ | refine qR rfl rfl ?_); simp only [go_sem,↓dP,↓reduceIte]; with_reducible and_intros; all_goals first | apply qA | exact ⟨⟩ | rfl | (intros; apply qB; first | kernel_rfl | omega) | omega | skip)
  ((first | refine qS rfl rfl ?_ | refine qR rfl rfl ?_); simp only [go_sem,↓dP,↓reduceIte]; with_reducible and_intros; all_goals first | apply qA | exact ⟨⟩ | rfl | (intros; apply qB; first | kernel_rfl | omega) | omega | skip)
  (refine AskGI.ret (fun _ => c143 L h x hx n h0 h1) ?_; simp only [go_sem,↓dP,↓reduceIte]; with_reducible and_intros; all_goals first | apply qA | exact ⟨⟩ | rfl | (intros; apply qB; first | kernel_rfl | omega) | omega | skip)
  refine Ok.cond rfl ?_ ?_
  · intro hb
    ((first | refine qS rfl rfl ?_ | refine qR rfl rfl ?_); simp only [go_sem,↓dP,↓reduceIte]; with_reducible and_intros; all_goals first | apply qA | exact ⟨⟩ | rfl | (intros; apply qB; first | kernel_rfl | omega) | omega | skip)
    (refine Ok.ret ?_; (try dsimp only [thenK,blockK,noGotoK]); simp only [toList_mk,List.toList_toArray,retK_ret,retK_normal,resOK,resV,celV,rowV,frzAll,frzT,subV,subL,go_sem,↓dP,↓reduceIte])
    refine DEq.bool ?_
    simp only [Bool.not_eq_true'] at hb
    simp [readL,hb]
  intro h143
  simp only [Bool.not_eq_false'] at h143
  (refine Ok.skip ?_; (try dsimp only [thenK,blockK,noGotoK]))
  ((first | refine qS rfl rfl ?_ | refine qR rfl rfl ?_); simp only [go_sem,↓dP,↓reduceIte]; with_reducible and_intros; all_goals first | apply qA | exact ⟨⟩ | rfl | (intros; apply qB; first | kernel_rfl | omega) | omega | skip)
  (try dsimp only [thenK,blockK,noGotoK])
  refine OkN.round ?_
  ((first | refine qS rfl rfl ?_ | refine qR rfl rfl ?_); simp only [go_sem,↓dP,↓reduceIte]; with_reducible and_intros; all_goals first | apply qA | exact ⟨⟩ | rfl | (intros; apply qB; first | kernel_rfl | omega) | omega | skip)
  refine Ok.seq ?_
  refine Ok.cond (b:=true) (by first | rfl | (simp only [go_sem,↓dP,↓reduceIte]; rfl)) (fun _ => ?_) (fun hb => by cases hb)
  (refine Ok.skip ?_; (try dsimp only [thenK,blockK,noGotoK]))
  refine Ok.seq ?_
  refine Ok.block ?_
  ((first | refine qS rfl rfl ?_ | refine qR rfl rfl ?_); simp only [go_sem,↓dP,↓reduceIte]; with_reducible and_intros; all_goals first | apply qA | exact ⟨⟩ | rfl | (intros; apply qB; first | kernel_rfl | omega) | omega | skip)
  ((first | refine qS rfl rfl ?_ | refine qR rfl rfl ?_); simp only [go_sem,↓dP,↓reduceIte]; with_reducible and_intros; all_goals first | apply qA | exact ⟨⟩ | rfl | (intros; apply qB; first | kernel_rfl | omega) | omega | skip)
  (refine AskGI.ret (r:=.d (.bool false)) (fun hb => by simp at hb) ?_; simp only [go_sem,↓dP,↓reduceIte]; with_reducible and_intros; all_goals first | apply qA | exact ⟨⟩ | rfl | (intros; apply qB; first | kernel_rfl | omega) | omega | skip)
  refine Ok.cond (b:=false) (by first | rfl | (simp only [go_sem,↓dP,↓reduceIte]; rfl)) (fun hb => by cases hb) (fun _ => ?_)
  (refine Ok.skip ?_; (try dsimp only [thenK,blockK,noGotoK]))
  ((first | refine qS rfl rfl ?_ | refine qR rfl rfl ?_); simp only [go_sem,↓dP,↓reduceIte]; with_reducible and_intros; all_goals first | apply qA | exact ⟨⟩ | rfl | (intros; apply qB; first | kernel_rfl | omega) | omega | skip)
  (try dsimp only [thenK,blockK,noGotoK])
  refine OkN.round ?_
  ((first | refine qS rfl rfl ?_ | refine qR rfl rfl ?_); simp only [go_sem,↓dP,↓reduceIte]; with_reducible and_intros; all_goals first | apply qA | exact ⟨⟩ | rfl | (intros; apply qB; first | kernel_rfl | omega) | omega | skip)
  refine Ok.seq ?_
  refine Ok.cond (b:=false) (by first | rfl | (simp only [go_sem,↓dP,↓reduceIte]; rfl)) (fun hb => by cases hb) (fun _ => ?_)
  (refine Ok.exit ?_; simp only [thenK_exit,blockK_exit,noGotoK_exit,thenK_normal,blockK_normal,noGotoK_normal,↓reduceIte,Nat.reduceEqDiff])
  ((first | refine qS rfl rfl ?_ | refine qR rfl rfl ?_); simp only [go_sem,↓dP,↓reduceIte]; with_reducible and_intros; all_goals first | apply qA | exact ⟨⟩ | rfl | (intros; apply qB; first | kernel_rfl | omega) | omega | skip)
  (refine Ok.ret ?_; (try dsimp only [thenK,blockK,noGotoK]); simp only [toList_mk,List.toList_toArray,retK_ret,retK_normal,resOK,resV,celV,rowV,frzAll,frzT,subV,subL,go_sem,↓dP,↓reduceIte])
  refine DEq.bool ?_
  simp [readL,h141,h142,h143]
def lookOk (s : Street) (i : Int) (p : Place) : Bool:=isStreet s && inR i 0 (s.bs.length - 1) && placeIn s p
def lookOf (s : Street) (i : Int) (p : Place) : Look:=if lookOk s i p then ⟨s,s.bs.getD i.toNat default,p⟩ else default
theorem c72 (s : Street) (hs : s.fit) (i : Int) (p : Place) : Ctr Tryz.prog 59 [s.sv,iS i,p.sv] (.tup [(lookOf s i p).sv,bS (lookOk s i p)]):=by
  have hs1:=hs.1
  (refine Ctr.mk (fn:=Tryz.f59) rfl rfl rfl rfl rfl Tryz.results59 ?_; dsimp only [args,List.toList_toArray])
  ((first | refine qS rfl rfl ?_ | refine qR rfl rfl ?_); simp only [go_sem,↓dP,↓reduceIte]; with_reducible and_intros; all_goals first | apply qA | exact ⟨⟩ | rfl | (intros; apply qB; first | kernel_rfl | omega) | omega | skip)
  refine Ok.seq ?_
  ((first | refine qS rfl rfl ?_ | refine qR rfl rfl ?_); simp only [go_sem,↓dP,↓reduceIte]; with_reducible and_intros; all_goals first | apply qA | exact ⟨⟩ | rfl | (intros; apply qB; first | kernel_rfl | omega) | omega | skip)
  (refine AskI.ret (c102 s hs) ?_; simp only [go_sem,↓dP,↓reduceIte]; with_reducible and_intros; all_goals first | apply qA | exact ⟨⟩ | rfl | (intros; apply qB; first | kernel_rfl | omega) | omega | skip)
  (refine AskGI.ret (fun _ => c114 _ _ _) ?_; simp only [go_sem,↓dP,↓reduceIte]; with_reducible and_intros; all_goals first | apply qA | exact ⟨⟩ | rfl | (intros; apply qB; first | kernel_rfl | omega) | omega | skip)
  (refine AskGI.ret (fun _ => c115 s p) ?_; simp only [go_sem,↓dP,↓reduceIte]; with_reducible and_intros; all_goals first | apply qA | exact ⟨⟩ | rfl | (intros; apply qB; first | kernel_rfl | omega) | omega | skip)
  refine Ok.cond rfl ?_ ?_
  · intro hb
    have hno : lookOk s i p = false:=by
      simp only [lookOk]
      cases h1 : isStreet s <;> cases h2 : inR i 0 (↑s.bs.length - 1) <;> cases h3 : placeIn s p <;> simp_all
    have hl : lookOf s i p = default:=by simp [lookOf,hno]
    rw [hl,hno]
    ((first | refine qS rfl rfl ?_ | refine qR rfl rfl ?_); simp only [go_sem,↓dP,↓reduceIte]; with_reducible and_intros; all_goals first | apply qA | exact ⟨⟩ | rfl | (intros; apply qB; first | kernel_rfl | omega) | omega | skip)
    (refine Ok.ret ?_; (try dsimp only [thenK,blockK,noGotoK]); simp only [toList_mk,List.toList_toArray,retK_ret,retK_normal,resOK,resV,celV,rowV,frzAll,frzT,subV,subL,go_sem,↓dP,↓reduceIte])
    exact ⟨⟨DEq.int rfl,DEq.int rfl,DEq.int rfl,DEq.int rfl,DEq.int rfl,DEq.int rfl,DEq.nils rfl,DEq.nils rfl,DEq.int rfl,DEq.nils rfl,DEq.int rfl,DEq.int rfl⟩,.refl _⟩
  · intro hb
    have hyes : lookOk s i p = true:=by
      simp only [lookOk]
      cases h1 : isStreet s <;> cases h2 : inR i 0 (↑s.bs.length - 1) <;> cases h3 : placeIn s p <;> simp_all
    have hl : lookOf s i p = ⟨s,s.bs.getD i.toNat default,p⟩:=by simp [lookOf,hyes]
    have hi : 0 ≤ i ∧ i < s.bs.length:=by
      simp only [lookOk,inR,Bool.and_eq_true,decide_eq_true_eq] at hyes
      exact ⟨by omega,by omega⟩
    rw [hl,hyes]
    (refine Ok.skip ?_; (try dsimp only [thenK,blockK,noGotoK]))
    ((first | refine qS rfl rfl ?_ | refine qR rfl rfl ?_); simp only [go_sem,↓dP,↓reduceIte]; with_reducible and_intros; all_goals first | apply qA | exact ⟨⟩ | rfl | (intros; apply qB; first | kernel_rfl | omega) | omega | skip)
    (refine Ok.ret ?_; (try dsimp only [thenK,blockK,noGotoK]); simp only [toList_mk,List.toList_toArray,retK_ret,retK_normal,resOK,resV,celV,rowV,frzAll,frzT,subV,subL,go_sem,↓dP,↓reduceIte])
    exact ⟨⟨.refl _,.refl _,.refl _,.refl _,.refl _,.refl _,.refl _,.refl _,.refl _,.refl _,.refl _,.refl _⟩,.refl _⟩
theorem c91 (s : Street) (hs : s.fit) (i : Int) : Ctr Tryz.prog 49 [s.sv,iS i] (bS (isStreet s && inR i 0 (s.bs.length - 1))):=by
  have hs1:=hs.1
  (refine Ctr.mk (fn:=Tryz.f49) rfl rfl rfl rfl rfl Tryz.results49 ?_; dsimp only [args,List.toList_toArray])
  ((first | refine qS rfl rfl ?_ | refine qR rfl rfl ?_); simp only [go_sem,↓dP,↓reduceIte]; with_reducible and_intros; all_goals first | apply qA | exact ⟨⟩ | rfl | (intros; apply qB; first | kernel_rfl | omega) | omega | skip)
  ((first | refine qS rfl rfl ?_ | refine qR rfl rfl ?_); simp only [go_sem,↓dP,↓reduceIte]; with_reducible and_intros; all_goals first | apply qA | exact ⟨⟩ | rfl | (intros; apply qB; first | kernel_rfl | omega) | omega | skip)
  (refine AskI.ret (c102 s hs) ?_; simp only [go_sem,↓dP,↓reduceIte]; with_reducible and_intros; all_goals first | apply qA | exact ⟨⟩ | rfl | (intros; apply qB; first | kernel_rfl | omega) | omega | skip)
  (refine AskGI.ret (fun _ => c114 _ _ _) ?_; simp only [go_sem,↓dP,↓reduceIte]; with_reducible and_intros; all_goals first | apply qA | exact ⟨⟩ | rfl | (intros; apply qB; first | kernel_rfl | omega) | omega | skip)
  (refine Ok.ret ?_; (try dsimp only [thenK,blockK,noGotoK]); simp only [toList_mk,List.toList_toArray,retK_ret,retK_normal,resOK,resV,celV,rowV,frzAll,frzT,subV,subL,go_sem,↓dP,↓reduceIte])
  exact .refl _
theorem c61 (s : Street) (hs : s.fit) : Ctr Tryz.prog 30 [s.sv] (iS (if isStreet s then 0 else 2)):=by
  (refine Ctr.mk (fn:=Tryz.f30) rfl rfl rfl rfl rfl Tryz.results30 ?_; dsimp only [args,List.toList_toArray])
  ((first | refine qS rfl rfl ?_ | refine qR rfl rfl ?_); simp only [go_sem,↓dP,↓reduceIte]; with_reducible and_intros; all_goals first | apply qA | exact ⟨⟩ | rfl | (intros; apply qB; first | kernel_rfl | omega) | omega | skip)
  refine Ok.seq ?_
  ((first | refine qS rfl rfl ?_ | refine qR rfl rfl ?_); simp only [go_sem,↓dP,↓reduceIte]; with_reducible and_intros; all_goals first | apply qA | exact ⟨⟩ | rfl | (intros; apply qB; first | kernel_rfl | omega) | omega | skip)
  (refine AskI.ret (c102 s hs) ?_; simp only [go_sem,↓dP,↓reduceIte]; with_reducible and_intros; all_goals first | apply qA | exact ⟨⟩ | rfl | (intros; apply qB; first | kernel_rfl | omega) | omega | skip)
  refine Ok.cond rfl ?_ ?_
  · intro hb
    simp only [Bool.not_eq_true'] at hb
    ((first | refine qS rfl rfl ?_ | refine qR rfl rfl ?_); simp only [go_sem,↓dP,↓reduceIte]; with_reducible and_intros; all_goals first | apply qA | exact ⟨⟩ | rfl | (intros; apply qB; first | kernel_rfl | omega) | omega | skip)
    (refine Ok.ret ?_; (try dsimp only [thenK,blockK,noGotoK]); simp only [toList_mk,List.toList_toArray,retK_ret,retK_normal,resOK,resV,celV,rowV,frzAll,frzT,subV,subL,go_sem,↓dP,↓reduceIte])
    rw [hb]
    exact .refl _
  · intro hb
    simp only [Bool.not_eq_false'] at hb
    (refine Ok.skip ?_; (try dsimp only [thenK,blockK,noGotoK]))
    ((first | refine qS rfl rfl ?_ | refine qR rfl rfl ?_); simp only [go_sem,↓dP,↓reduceIte]; with_reducible and_intros; all_goals first | apply qA | exact ⟨⟩ | rfl | (intros; apply qB; first | kernel_rfl | omega) | omega | skip)
    (refine Ok.ret ?_; (try dsimp only [thenK,blockK,noGotoK]); simp only [toList_mk,List.toList_toArray,retK_ret,retK_normal,resOK,resV,celV,rowV,frzAll,frzT,subV,subL,go_sem,↓dP,↓reduceIte])
    rw [hb]
    exact .refl _
end Go.Proofs.Sight
namespace Go.Proofs.Sight
open Go Go.RX Go.Proofs
theorem fx_at {α : Type} [Inhabited α] {q : α → Bool} {l : List α} {i : Nat} (hi : i < l.length) (h1 : q (l.getD i default) = true) (h0 : ∀ x ∈ l.take i,q x = false) : l.findIdx? q = some i:=by
  rw [List.findIdx?_eq_some_iff_getElem]
  refine ⟨hi,by rw [getD_lt hi] at h1; exact h1,fun j hj => ?_⟩
  have:=h0 (l[j]'(by omega)) (by rw [List.mem_take_iff_getElem]; exact ⟨j,by omega,rfl⟩)
  simp [this]
theorem fx_no {α : Type} {q : α → Bool} {l : List α} (h0 : ∀ x ∈ l,q x = false) : l.findIdx? q = none:=by
  rw [List.findIdx?_eq_none_iff]; exact h0
structure Look.good (L : Look) : Prop where
  fine : L.fine
  ls : ∀ x ∈ L.b.ls,x.fine
  ks : ∀ k ∈ L.s.ks,k.fine
  n1 : 1 ≤ L.b.ls.length
  n5 : L.b.ls.length ≤ 5
  k4 : L.s.ks.length ≤ 4
def faultL (L : Look) (n : Int) (q : Block → Bool) : Option (Int × Int) :=
  match L.s.ks.findIdx? (fun k => q k && hides L k) with
  | some i => some (1,i)
  | none => match L.b.ls.findIdx? (fun x => !tall L x n) with
    | some i => some (2,i)
    | none => match L.b.ls.findIdx? (fun x => !broad L x n) with
      | some i => some (3,i)
      | none => match L.b.ls.findIdx? (fun x => !thick L x n) with
        | some i => some (4,i)
        | none => match (L.b.ls.take (L.b.ls.length - 1)).findIdx? (fun x => !apart L x n) with
          | some i => some (5,i)
          | none => none
def faV (o : Option (Int × Int)) : SV:=match o with | some (k,i) => .agg [iS k,iS i] | none => .agg [iS 0,iS 0]
theorem faV_some (k i : Int) : faV (some (k,i)) = .agg [iS k,iS i]:=rfl
theorem faV_none : faV none = .agg [iS 0,iS 0]:=rfl
attribute [go_sem] faV_some faV_none
end Go.Proofs.Sight
namespace Go.Proofs.Sight
open Go Go.RX Go.Proofs
set_option maxRecDepth 10000
theorem c116 (L : Look) (hL : L.good) (n : Int) (hn0 : 0 ≤ n) (hn1 : n ≤ 10000) (f : Nat) (q : Block → Bool) (hf : ∀ k,Ctr Tryz.prog f [k.sv] (bS (q k))) :
    Ctr Tryz.prog 89 [L.sv,iS n,.d (cl0 f)] (.tup [faV (faultL L n q),bS (faultL L n q).isSome]):=by
  have hfine:=hL.fine
  have hn5:=hL.n5
  have hk4:=hL.k4
  (refine Ctr.mk (fn:=Tryz.f89) rfl rfl rfl rfl rfl Tryz.results89 ?_; dsimp only [args,List.toList_toArray])
  ((first | refine qS rfl rfl ?_ | refine qR rfl rfl ?_); simp only [go_sem,↓dP,↓reduceIte]; with_reducible and_intros; all_goals first | apply qA | exact ⟨⟩ | rfl | (intros; apply qB; first | kernel_rfl | omega) | omega | skip)
  refine Ok.seq ?_
  ((first | refine qS rfl rfl ?_ | refine qR rfl rfl ?_); simp only [go_sem,↓dP,↓reduceIte]; with_reducible and_intros; all_goals first | apply qA | exact ⟨⟩ | rfl | (intros; apply qB; first | kernel_rfl | omega) | omega | skip)
  refine Ok.block ?_
  refine Ok.count L.s.ks.length (fun i => ⟨[(1,iS n),(2,.d (cl0 f)),(3,.p 0 0),(6,.p 1 0),(7,bS false),(16,.d (slD 5 bloD L.s.ks)),(17,iS L.s.ks.length),(18,iS i)],[{ frz:=false,xs:=[iS L.s.len,iS L.s.wid,iS L.s.el,iS L.s.eh,iS L.s.ll,iS L.s.lh,.d (slD 2 boaD L.s.bs),.d (slD 5 bloD L.s.ks),iS L.b.at_,.d (slD 4 letD L.b.ls),iS L.p.al,iS L.p.ac] },{ frz:=false,xs:=[iS 0,iS 0] }],[]⟩)
    (fun i => ∀ k ∈ L.s.ks.take i,(q k && hides L k) = false) ⟨fun x hx => by simp at hx,?_⟩ ?_ ?_
  · (refine Sub.of ([0,1]) ([]) ?_ ?_ ?_ rfl rfl <;> simp only [subB,subB1,subT,subT1,newT,subE,subV,subL,go_sem,↓dP,↓reduceIte] <;> (try (repeat' with_reducible apply And.intro)) <;> (try first | exact DEq.refl _ | refine DEq.int ?_ | refine DEq.bool ?_ | omega))
  · intro i hi h0
    ((first | refine qS rfl rfl ?_ | refine qR rfl rfl ?_); simp only [go_sem,↓dP,↓reduceIte]; with_reducible and_intros; all_goals first | apply qA | exact ⟨⟩ | rfl | (intros; apply qB; first | kernel_rfl | omega) | omega | skip)
    refine Ok.seq ?_
    refine Ok.cond rfl (fun _ => ?_) (fun hb => by simp at hb; omega)
    (refine Ok.skip ?_; (try dsimp only [thenK,blockK,noGotoK]))
    refine Ok.seq ?_
    refine Ok.block ?_
    ((first | refine qS rfl rfl ?_ | refine qR rfl rfl ?_); simp only [go_sem,↓dP,↓reduceIte]; with_reducible and_intros; all_goals first | apply qA | exact ⟨⟩ | rfl | (intros; apply qB; first | kernel_rfl | omega) | omega | skip)
    ((first | refine qS rfl rfl ?_ | refine qR rfl rfl ?_); simp only [go_sem,↓dP,↓reduceIte]; with_reducible and_intros; all_goals first | apply qA | exact ⟨⟩ | rfl | (intros; apply qB; first | kernel_rfl | omega) | omega | skip)
    (refine AskI.ret (hf (L.s.ks.getD i default)) ?_; simp only [go_sem,↓dP,↓reduceIte]; with_reducible and_intros; all_goals first | apply qA | exact ⟨⟩ | rfl | (intros; apply qB; first | kernel_rfl | omega) | omega | skip)
    (refine AskGI.ret (fun _ => c87 L hfine _ (hL.ks _ (getD_mem hi))) ?_; simp only [go_sem,↓dP,↓reduceIte]; with_reducible and_intros; all_goals first | apply qA | exact ⟨⟩ | rfl | (intros; apply qB; first | kernel_rfl | omega) | omega | skip)
    refine Ok.cond rfl ?_ ?_
    · intro hb
      have hF : faultL L n q = some (1,(i : Int)):=by
        unfold faultL; rw [fx_at hi (by simpa using hb) h0]
      rw [hF]
      ((first | refine qS rfl rfl ?_ | refine qR rfl rfl ?_); simp only [go_sem,↓dP,↓reduceIte]; with_reducible and_intros; all_goals first | apply qA | exact ⟨⟩ | rfl | (intros; apply qB; first | kernel_rfl | omega) | omega | skip)
      (refine Ok.ret ?_; (try dsimp only [thenK,blockK,noGotoK]); simp only [toList_mk,List.toList_toArray,retK_ret,retK_normal,resOK,resV,celV,rowV,frzAll,frzT,subV,subL,go_sem,↓dP,↓reduceIte])
      (repeat' with_reducible apply And.intro) <;> exact DEq.refl _
    · intro hb
      (refine Ok.skip ?_; (try dsimp only [thenK,blockK,noGotoK]))
      ((first | refine qS rfl rfl ?_ | refine qR rfl rfl ?_); simp only [go_sem,↓dP,↓reduceIte]; with_reducible and_intros; all_goals first | apply qA | exact ⟨⟩ | rfl | (intros; apply qB; first | kernel_rfl | omega) | omega | skip)
      (try dsimp only [thenK,blockK,noGotoK])
      refine ⟨no_step hi h0 (by simpa using hb),?_⟩
      (refine Sub.of ([0,1]) ([]) ?_ ?_ ?_ rfl rfl <;> simp only [subB,subB1,subT,subT1,newT,subE,subV,subL,go_sem,↓dP,↓reduceIte] <;> (try (repeat' with_reducible apply And.intro)) <;> (try first | exact DEq.refl _ | refine DEq.int ?_ | refine DEq.bool ?_ | omega))
  intro h0
  have hk : L.s.ks.findIdx? (fun k => q k && hides L k) = none:=fx_no (fun k hk => h0 k (by simpa using hk))
  ((first | refine qS rfl rfl ?_ | refine qR rfl rfl ?_); simp only [go_sem,↓dP,↓reduceIte]; with_reducible and_intros; all_goals first | apply qA | exact ⟨⟩ | rfl | (intros; apply qB; first | kernel_rfl | omega) | omega | skip)
  refine Ok.seq ?_
  refine Ok.cond rfl (fun hb => by simp at hb) (fun _ => ?_)
  (refine Ok.exit ?_; simp only [thenK_exit,blockK_exit,noGotoK_exit,thenK_normal,blockK_normal,noGotoK_normal,↓reduceIte,Nat.reduceEqDiff])
  refine Ok.seq ?_
  ((first | refine qS rfl rfl ?_ | refine qR rfl rfl ?_); simp only [go_sem,↓dP,↓reduceIte]; with_reducible and_intros; all_goals first | apply qA | exact ⟨⟩ | rfl | (intros; apply qB; first | kernel_rfl | omega) | omega | skip)
  (refine AskI.ret (c120) ?_; simp only [go_sem,↓dP,↓reduceIte]; with_reducible and_intros; all_goals first | apply qA | exact ⟨⟩ | rfl | (intros; apply qB; first | kernel_rfl | omega) | omega | skip)
  refine Ok.block ?_
  refine Ok.rounds 5 (OkN.round ?_)
  ((first | refine qS rfl rfl ?_ | refine qR rfl rfl ?_); simp only [go_sem,↓dP,↓reduceIte]; with_reducible and_intros; all_goals first | apply qA | exact ⟨⟩ | rfl | (intros; apply qB; first | kernel_rfl | omega) | omega | skip)
  refine Ok.seq ?_
  refine Ok.cond (b:=true) (by first | rfl | (simp only [go_sem,↓dP,↓reduceIte]; rfl)) (fun _ => ?_) (fun hb => by cases hb)
  (refine Ok.skip ?_; (try dsimp only [thenK,blockK,noGotoK]))
  refine Ok.seq ?_
  refine Ok.block ?_
  ((first | refine qS rfl rfl ?_ | refine qR rfl rfl ?_); simp only [go_sem,↓dP,↓reduceIte]; with_reducible and_intros; all_goals first | apply qA | exact ⟨⟩ | rfl | (intros; apply qB; first | kernel_rfl | omega) | omega | skip)
  refine Ok.scope ?_
  refine Ok.seq ?_
  refine Ok.label ?_
  (try dsimp only [thenK,blockK,noGotoK])
  refine Ok.seq ?_
  ((first | refine qS rfl rfl ?_ | refine qR rfl rfl ?_); simp only [go_sem,↓dP,↓reduceIte]; with_reducible and_intros; all_goals first | apply qA | exact ⟨⟩ | rfl | (intros; apply qB; first | kernel_rfl | omega) | omega | skip)
  refine Ok.block ?_
  refine Ok.count L.b.ls.length (fun i => ⟨[(1,iS n),(3,.p 0 0),(6,.p 1 0),(7,bS false),(10,iS 0),(11,.d (cl0 131)),(34,mustV),(35,iS 0),(41,.d (slD 4 letD L.b.ls)),(42,iS L.b.ls.length),(43,iS i)],[{ frz:=false,xs:=[iS L.s.len,iS L.s.wid,iS L.s.el,iS L.s.eh,iS L.s.ll,iS L.s.lh,.d (slD 2 boaD L.s.bs),.d (slD 5 bloD L.s.ks),iS L.b.at_,.d (slD 4 letD L.b.ls),iS L.p.al,iS L.p.ac] },{ frz:=false,xs:=[iS 0,iS 0] }],[]⟩) (fun i => ∀ x ∈ L.b.ls.take i,(!tall L x n) = false) ⟨fun x hx => by simp at hx,?_⟩ ?_ ?_
  · (refine Sub.of ([0,1]) ([]) ?_ ?_ ?_ rfl rfl <;> simp only [subB,subB1,subT,subT1,newT,subE,subV,subL,go_sem,↓dP,↓reduceIte] <;> (try (repeat' with_reducible apply And.intro)) <;> (try first | exact DEq.refl _ | refine DEq.int ?_ | refine DEq.bool ?_ | omega))
  · intro i hi h0
    ((first | refine qS rfl rfl ?_ | refine qR rfl rfl ?_); simp only [go_sem,↓dP,↓reduceIte]; with_reducible and_intros; all_goals first | apply qA | exact ⟨⟩ | rfl | (intros; apply qB; first | kernel_rfl | omega) | omega | skip)
    refine Ok.seq ?_
    refine Ok.cond rfl (fun _ => ?_) (fun hb => by simp at hb; omega)
    (refine Ok.skip ?_; (try dsimp only [thenK,blockK,noGotoK]))
    refine Ok.seq ?_
    refine Ok.block ?_
    ((first | refine qS rfl rfl ?_ | refine qR rfl rfl ?_); simp only [go_sem,↓dP,↓reduceIte]; with_reducible and_intros; all_goals first | apply qA | exact ⟨⟩ | rfl | (intros; apply qB; first | kernel_rfl | omega) | omega | skip)
    refine Ok.seq ?_
    ((first | refine qS rfl rfl ?_ | refine qR rfl rfl ?_); simp only [go_sem,↓dP,↓reduceIte]; with_reducible and_intros; all_goals first | apply qA | exact ⟨⟩ | rfl | (intros; apply qB; first | kernel_rfl | omega) | omega | skip)
    refine Ok.cond (b:=false) (by first | rfl | (simp only [go_sem,↓dP,↓reduceIte]; rfl)) (fun hb => by cases hb) (fun _ => ?_)
    (refine Ok.skip ?_; (try dsimp only [thenK,blockK,noGotoK]))
    ((first | refine qS rfl rfl ?_ | refine qR rfl rfl ?_); simp only [go_sem,↓dP,↓reduceIte]; with_reducible and_intros; all_goals first | apply qA | exact ⟨⟩ | rfl | (intros; apply qB; first | kernel_rfl | omega) | omega | skip)
    (refine AskI.ret (c141 L hfine _ (hL.ls _ (getD_mem hi)) n hn0 hn1) ?_; simp only [go_sem,↓dP,↓reduceIte]; with_reducible and_intros; all_goals first | apply qA | exact ⟨⟩ | rfl | (intros; apply qB; first | kernel_rfl | omega) | omega | skip)
    refine Ok.cond rfl ?_ ?_
    · intro hb
      have hF : faultL L n q = some (2,(i : Int)):=by
        unfold faultL; simp only [hk]; rw [fx_at hi (by simpa using hb) h0]
      rw [hF]
      ((first | refine qS rfl rfl ?_ | refine qR rfl rfl ?_); simp only [go_sem,↓dP,↓reduceIte]; with_reducible and_intros; all_goals first | apply qA | exact ⟨⟩ | rfl | (intros; apply qB; first | kernel_rfl | omega) | omega | skip)
      (refine Ok.ret ?_; (try dsimp only [thenK,blockK,noGotoK]); simp only [toList_mk,List.toList_toArray,retK_ret,retK_normal,resOK,resV,celV,rowV,frzAll,frzT,subV,subL,go_sem,↓dP,↓reduceIte])
      (repeat' with_reducible apply And.intro) <;> exact DEq.refl _
    · intro hb
      (refine Ok.skip ?_; (try dsimp only [thenK,blockK,noGotoK]))
      ((first | refine qS rfl rfl ?_ | refine qR rfl rfl ?_); simp only [go_sem,↓dP,↓reduceIte]; with_reducible and_intros; all_goals first | apply qA | exact ⟨⟩ | rfl | (intros; apply qB; first | kernel_rfl | omega) | omega | skip)
      (try dsimp only [thenK,blockK,noGotoK])
      refine ⟨no_step hi h0 (by simpa using hb),?_⟩
      (refine Sub.of ([0,1]) ([]) ?_ ?_ ?_ rfl rfl <;> simp only [subB,subB1,subT,subT1,newT,subE,subV,subL,go_sem,↓dP,↓reduceIte] <;> (try (repeat' with_reducible apply And.intro)) <;> (try first | exact DEq.refl _ | refine DEq.int ?_ | refine DEq.bool ?_ | omega))
  intro h0
  have g0 : L.b.ls.findIdx? (fun x => !tall L x n) = none:=fx_no (fun k hk => h0 k (by simpa using hk))
  ((first | refine qS rfl rfl ?_ | refine qR rfl rfl ?_); simp only [go_sem,↓dP,↓reduceIte]; with_reducible and_intros; all_goals first | apply qA | exact ⟨⟩ | rfl | (intros; apply qB; first | kernel_rfl | omega) | omega | skip)
  refine Ok.seq ?_
  refine Ok.cond rfl (fun hb => by simp at hb) (fun _ => ?_)
  (refine Ok.exit ?_; simp only [thenK_exit,blockK_exit,noGotoK_exit,thenK_normal,blockK_normal,noGotoK_normal,↓reduceIte,Nat.reduceEqDiff])
  ((first | refine qS rfl rfl ?_ | refine qR rfl rfl ?_); simp only [go_sem,↓dP,↓reduceIte]; with_reducible and_intros; all_goals first | apply qA | exact ⟨⟩ | rfl | (intros; apply qB; first | kernel_rfl | omega) | omega | skip)
  (try dsimp only [thenK,blockK,noGotoK])
  refine OkN.round ?_
  ((first | refine qS rfl rfl ?_ | refine qR rfl rfl ?_); simp only [go_sem,↓dP,↓reduceIte]; with_reducible and_intros; all_goals first | apply qA | exact ⟨⟩ | rfl | (intros; apply qB; first | kernel_rfl | omega) | omega | skip)
  refine Ok.seq ?_
  refine Ok.cond (b:=true) (by first | rfl | (simp only [go_sem,↓dP,↓reduceIte]; rfl)) (fun _ => ?_) (fun hb => by cases hb)
  (refine Ok.skip ?_; (try dsimp only [thenK,blockK,noGotoK]))
  refine Ok.seq ?_
  refine Ok.block ?_
  ((first | refine qS rfl rfl ?_ | refine qR rfl rfl ?_); simp only [go_sem,↓dP,↓reduceIte]; with_reducible and_intros; all_goals first | apply qA | exact ⟨⟩ | rfl | (intros; apply qB; first | kernel_rfl | omega) | omega | skip)
  refine Ok.scope ?_
  refine Ok.seq ?_
  refine Ok.label ?_
  (try dsimp only [thenK,blockK,noGotoK])
  refine Ok.seq ?_
  ((first | refine qS rfl rfl ?_ | refine qR rfl rfl ?_); simp only [go_sem,↓dP,↓reduceIte]; with_reducible and_intros; all_goals first | apply qA | exact ⟨⟩ | rfl | (intros; apply qB; first | kernel_rfl | omega) | omega | skip)
  refine Ok.block ?_
  refine Ok.count L.b.ls.length (fun i => ⟨[(1,iS n),(3,.p 0 0),(6,.p 1 0),(7,bS false),(10,iS 1),(11,.d (cl0 132)),(34,mustV),(35,iS 1),(41,.d (slD 4 letD L.b.ls)),(42,iS L.b.ls.length),(43,iS i)],[{ frz:=false,xs:=[iS L.s.len,iS L.s.wid,iS L.s.el,iS L.s.eh,iS L.s.ll,iS L.s.lh,.d (slD 2 boaD L.s.bs),.d (slD 5 bloD L.s.ks),iS L.b.at_,.d (slD 4 letD L.b.ls),iS L.p.al,iS L.p.ac] },{ frz:=false,xs:=[iS 0,iS 0] }],[]⟩) (fun i => ∀ x ∈ L.b.ls.take i,(!broad L x n) = false) ⟨fun x hx => by simp at hx,?_⟩ ?_ ?_
  · (refine Sub.of ([0,1]) ([]) ?_ ?_ ?_ rfl rfl <;> simp only [subB,subB1,subT,subT1,newT,subE,subV,subL,go_sem,↓dP,↓reduceIte] <;> (try (repeat' with_reducible apply And.intro)) <;> (try first | exact DEq.refl _ | refine DEq.int ?_ | refine DEq.bool ?_ | omega))
  · intro i hi h0
    ((first | refine qS rfl rfl ?_ | refine qR rfl rfl ?_); simp only [go_sem,↓dP,↓reduceIte]; with_reducible and_intros; all_goals first | apply qA | exact ⟨⟩ | rfl | (intros; apply qB; first | kernel_rfl | omega) | omega | skip)
    refine Ok.seq ?_
    refine Ok.cond rfl (fun _ => ?_) (fun hb => by simp at hb; omega)
    (refine Ok.skip ?_; (try dsimp only [thenK,blockK,noGotoK]))
    refine Ok.seq ?_
    refine Ok.block ?_
    ((first | refine qS rfl rfl ?_ | refine qR rfl rfl ?_); simp only [go_sem,↓dP,↓reduceIte]; with_reducible and_intros; all_goals first | apply qA | exact ⟨⟩ | rfl | (intros; apply qB; first | kernel_rfl | omega) | omega | skip)
    refine Ok.seq ?_
    ((first | refine qS rfl rfl ?_ | refine qR rfl rfl ?_); simp only [go_sem,↓dP,↓reduceIte]; with_reducible and_intros; all_goals first | apply qA | exact ⟨⟩ | rfl | (intros; apply qB; first | kernel_rfl | omega) | omega | skip)
    refine Ok.cond (b:=false) (by first | rfl | (simp only [go_sem,↓dP,↓reduceIte]; rfl)) (fun hb => by cases hb) (fun _ => ?_)
    (refine Ok.skip ?_; (try dsimp only [thenK,blockK,noGotoK]))
    ((first | refine qS rfl rfl ?_ | refine qR rfl rfl ?_); simp only [go_sem,↓dP,↓reduceIte]; with_reducible and_intros; all_goals first | apply qA | exact ⟨⟩ | rfl | (intros; apply qB; first | kernel_rfl | omega) | omega | skip)
    (refine AskI.ret (c142 L hfine _ (hL.ls _ (getD_mem hi)) n hn0 hn1) ?_; simp only [go_sem,↓dP,↓reduceIte]; with_reducible and_intros; all_goals first | apply qA | exact ⟨⟩ | rfl | (intros; apply qB; first | kernel_rfl | omega) | omega | skip)
    refine Ok.cond rfl ?_ ?_
    · intro hb
      have hF : faultL L n q = some (3,(i : Int)):=by
        unfold faultL; simp only [hk,g0]; rw [fx_at hi (by simpa using hb) h0]
      rw [hF]
      ((first | refine qS rfl rfl ?_ | refine qR rfl rfl ?_); simp only [go_sem,↓dP,↓reduceIte]; with_reducible and_intros; all_goals first | apply qA | exact ⟨⟩ | rfl | (intros; apply qB; first | kernel_rfl | omega) | omega | skip)
      (refine Ok.ret ?_; (try dsimp only [thenK,blockK,noGotoK]); simp only [toList_mk,List.toList_toArray,retK_ret,retK_normal,resOK,resV,celV,rowV,frzAll,frzT,subV,subL,go_sem,↓dP,↓reduceIte])
      (repeat' with_reducible apply And.intro) <;> exact DEq.refl _
    · intro hb
      (refine Ok.skip ?_; (try dsimp only [thenK,blockK,noGotoK]))
      ((first | refine qS rfl rfl ?_ | refine qR rfl rfl ?_); simp only [go_sem,↓dP,↓reduceIte]; with_reducible and_intros; all_goals first | apply qA | exact ⟨⟩ | rfl | (intros; apply qB; first | kernel_rfl | omega) | omega | skip)
      (try dsimp only [thenK,blockK,noGotoK])
      refine ⟨no_step hi h0 (by simpa using hb),?_⟩
      (refine Sub.of ([0,1]) ([]) ?_ ?_ ?_ rfl rfl <;> simp only [subB,subB1,subT,subT1,newT,subE,subV,subL,go_sem,↓dP,↓reduceIte] <;> (try (repeat' with_reducible apply And.intro)) <;> (try first | exact DEq.refl _ | refine DEq.int ?_ | refine DEq.bool ?_ | omega))
  intro h0
  have g1 : L.b.ls.findIdx? (fun x => !broad L x n) = none:=fx_no (fun k hk => h0 k (by simpa using hk))
  ((first | refine qS rfl rfl ?_ | refine qR rfl rfl ?_); simp only [go_sem,↓dP,↓reduceIte]; with_reducible and_intros; all_goals first | apply qA | exact ⟨⟩ | rfl | (intros; apply qB; first | kernel_rfl | omega) | omega | skip)
  refine Ok.seq ?_
  refine Ok.cond rfl (fun hb => by simp at hb) (fun _ => ?_)
  (refine Ok.exit ?_; simp only [thenK_exit,blockK_exit,noGotoK_exit,thenK_normal,blockK_normal,noGotoK_normal,↓reduceIte,Nat.reduceEqDiff])
  ((first | refine qS rfl rfl ?_ | refine qR rfl rfl ?_); simp only [go_sem,↓dP,↓reduceIte]; with_reducible and_intros; all_goals first | apply qA | exact ⟨⟩ | rfl | (intros; apply qB; first | kernel_rfl | omega) | omega | skip)
  (try dsimp only [thenK,blockK,noGotoK])
  refine OkN.round ?_
  ((first | refine qS rfl rfl ?_ | refine qR rfl rfl ?_); simp only [go_sem,↓dP,↓reduceIte]; with_reducible and_intros; all_goals first | apply qA | exact ⟨⟩ | rfl | (intros; apply qB; first | kernel_rfl | omega) | omega | skip)
  refine Ok.seq ?_
  refine Ok.cond (b:=true) (by first | rfl | (simp only [go_sem,↓dP,↓reduceIte]; rfl)) (fun _ => ?_) (fun hb => by cases hb)
  (refine Ok.skip ?_; (try dsimp only [thenK,blockK,noGotoK]))
  refine Ok.seq ?_
  refine Ok.block ?_
  ((first | refine qS rfl rfl ?_ | refine qR rfl rfl ?_); simp only [go_sem,↓dP,↓reduceIte]; with_reducible and_intros; all_goals first | apply qA | exact ⟨⟩ | rfl | (intros; apply qB; first | kernel_rfl | omega) | omega | skip)
  refine Ok.scope ?_
  refine Ok.seq ?_
  refine Ok.label ?_
  (try dsimp only [thenK,blockK,noGotoK])
  refine Ok.seq ?_
  ((first | refine qS rfl rfl ?_ | refine qR rfl rfl ?_); simp only [go_sem,↓dP,↓reduceIte]; with_reducible and_intros; all_goals first | apply qA | exact ⟨⟩ | rfl | (intros; apply qB; first | kernel_rfl | omega) | omega | skip)
  refine Ok.block ?_
  refine Ok.count L.b.ls.length (fun i => ⟨[(1,iS n),(3,.p 0 0),(6,.p 1 0),(7,bS false),(10,iS 2),(11,.d (cl0 133)),(34,mustV),(35,iS 2),(41,.d (slD 4 letD L.b.ls)),(42,iS L.b.ls.length),(43,iS i)],[{ frz:=false,xs:=[iS L.s.len,iS L.s.wid,iS L.s.el,iS L.s.eh,iS L.s.ll,iS L.s.lh,.d (slD 2 boaD L.s.bs),.d (slD 5 bloD L.s.ks),iS L.b.at_,.d (slD 4 letD L.b.ls),iS L.p.al,iS L.p.ac] },{ frz:=false,xs:=[iS 0,iS 0] }],[]⟩) (fun i => ∀ x ∈ L.b.ls.take i,(!thick L x n) = false) ⟨fun x hx => by simp at hx,?_⟩ ?_ ?_
  · (refine Sub.of ([0,1]) ([]) ?_ ?_ ?_ rfl rfl <;> simp only [subB,subB1,subT,subT1,newT,subE,subV,subL,go_sem,↓dP,↓reduceIte] <;> (try (repeat' with_reducible apply And.intro)) <;> (try first | exact DEq.refl _ | refine DEq.int ?_ | refine DEq.bool ?_ | omega))
  · intro i hi h0
    ((first | refine qS rfl rfl ?_ | refine qR rfl rfl ?_); simp only [go_sem,↓dP,↓reduceIte]; with_reducible and_intros; all_goals first | apply qA | exact ⟨⟩ | rfl | (intros; apply qB; first | kernel_rfl | omega) | omega | skip)
    refine Ok.seq ?_
    refine Ok.cond rfl (fun _ => ?_) (fun hb => by simp at hb; omega)
    (refine Ok.skip ?_; (try dsimp only [thenK,blockK,noGotoK]))
    refine Ok.seq ?_
    refine Ok.block ?_
    ((first | refine qS rfl rfl ?_ | refine qR rfl rfl ?_); simp only [go_sem,↓dP,↓reduceIte]; with_reducible and_intros; all_goals first | apply qA | exact ⟨⟩ | rfl | (intros; apply qB; first | kernel_rfl | omega) | omega | skip)
    refine Ok.seq ?_
    ((first | refine qS rfl rfl ?_ | refine qR rfl rfl ?_); simp only [go_sem,↓dP,↓reduceIte]; with_reducible and_intros; all_goals first | apply qA | exact ⟨⟩ | rfl | (intros; apply qB; first | kernel_rfl | omega) | omega | skip)
    refine Ok.cond (b:=false) (by first | rfl | (simp only [go_sem,↓dP,↓reduceIte]; rfl)) (fun hb => by cases hb) (fun _ => ?_)
    (refine Ok.skip ?_; (try dsimp only [thenK,blockK,noGotoK]))
    ((first | refine qS rfl rfl ?_ | refine qR rfl rfl ?_); simp only [go_sem,↓dP,↓reduceIte]; with_reducible and_intros; all_goals first | apply qA | exact ⟨⟩ | rfl | (intros; apply qB; first | kernel_rfl | omega) | omega | skip)
    (refine AskI.ret (c143 L hfine _ (hL.ls _ (getD_mem hi)) n hn0 hn1) ?_; simp only [go_sem,↓dP,↓reduceIte]; with_reducible and_intros; all_goals first | apply qA | exact ⟨⟩ | rfl | (intros; apply qB; first | kernel_rfl | omega) | omega | skip)
    refine Ok.cond rfl ?_ ?_
    · intro hb
      have hF : faultL L n q = some (4,(i : Int)):=by
        unfold faultL; simp only [hk,g0,g1]; rw [fx_at hi (by simpa using hb) h0]
      rw [hF]
      ((first | refine qS rfl rfl ?_ | refine qR rfl rfl ?_); simp only [go_sem,↓dP,↓reduceIte]; with_reducible and_intros; all_goals first | apply qA | exact ⟨⟩ | rfl | (intros; apply qB; first | kernel_rfl | omega) | omega | skip)
      (refine Ok.ret ?_; (try dsimp only [thenK,blockK,noGotoK]); simp only [toList_mk,List.toList_toArray,retK_ret,retK_normal,resOK,resV,celV,rowV,frzAll,frzT,subV,subL,go_sem,↓dP,↓reduceIte])
      (repeat' with_reducible apply And.intro) <;> exact DEq.refl _
    · intro hb
      (refine Ok.skip ?_; (try dsimp only [thenK,blockK,noGotoK]))
      ((first | refine qS rfl rfl ?_ | refine qR rfl rfl ?_); simp only [go_sem,↓dP,↓reduceIte]; with_reducible and_intros; all_goals first | apply qA | exact ⟨⟩ | rfl | (intros; apply qB; first | kernel_rfl | omega) | omega | skip)
      (try dsimp only [thenK,blockK,noGotoK])
      refine ⟨no_step hi h0 (by simpa using hb),?_⟩
      (refine Sub.of ([0,1]) ([]) ?_ ?_ ?_ rfl rfl <;> simp only [subB,subB1,subT,subT1,newT,subE,subV,subL,go_sem,↓dP,↓reduceIte] <;> (try (repeat' with_reducible apply And.intro)) <;> (try first | exact DEq.refl _ | refine DEq.int ?_ | refine DEq.bool ?_ | omega))
  intro h0
  have g2 : L.b.ls.findIdx? (fun x => !thick L x n) = none:=fx_no (fun k hk => h0 k (by simpa using hk))
  ((first | refine qS rfl rfl ?_ | refine qR rfl rfl ?_); simp only [go_sem,↓dP,↓reduceIte]; with_reducible and_intros; all_goals first | apply qA | exact ⟨⟩ | rfl | (intros; apply qB; first | kernel_rfl | omega) | omega | skip)
  refine Ok.seq ?_
  refine Ok.cond rfl (fun hb => by simp at hb) (fun _ => ?_)
  (refine Ok.exit ?_; simp only [thenK_exit,blockK_exit,noGotoK_exit,thenK_normal,blockK_normal,noGotoK_normal,↓reduceIte,Nat.reduceEqDiff])
  ((first | refine qS rfl rfl ?_ | refine qR rfl rfl ?_); simp only [go_sem,↓dP,↓reduceIte]; with_reducible and_intros; all_goals first | apply qA | exact ⟨⟩ | rfl | (intros; apply qB; first | kernel_rfl | omega) | omega | skip)
  (try dsimp only [thenK,blockK,noGotoK])
  refine OkN.round ?_
  ((first | refine qS rfl rfl ?_ | refine qR rfl rfl ?_); simp only [go_sem,↓dP,↓reduceIte]; with_reducible and_intros; all_goals first | apply qA | exact ⟨⟩ | rfl | (intros; apply qB; first | kernel_rfl | omega) | omega | skip)
  refine Ok.seq ?_
  refine Ok.cond (b:=true) (by first | rfl | (simp only [go_sem,↓dP,↓reduceIte]; rfl)) (fun _ => ?_) (fun hb => by cases hb)
  (refine Ok.skip ?_; (try dsimp only [thenK,blockK,noGotoK]))
  refine Ok.seq ?_
  refine Ok.block ?_
  ((first | refine qS rfl rfl ?_ | refine qR rfl rfl ?_); simp only [go_sem,↓dP,↓reduceIte]; with_reducible and_intros; all_goals first | apply qA | exact ⟨⟩ | rfl | (intros; apply qB; first | kernel_rfl | omega) | omega | skip)
  refine Ok.scope ?_
  refine Ok.seq ?_
  refine Ok.label ?_
  (try dsimp only [thenK,blockK,noGotoK])
  refine Ok.seq ?_
  ((first | refine qS rfl rfl ?_ | refine qR rfl rfl ?_); simp only [go_sem,↓dP,↓reduceIte]; with_reducible and_intros; all_goals first | apply qA | exact ⟨⟩ | rfl | (intros; apply qB; first | kernel_rfl | omega) | omega | skip)
  refine Ok.block ?_
  refine Ok.count (L.b.ls.length - 1) (fun i => ⟨[(1,iS n),(3,.p 0 0),(6,.p 1 0),(7,bS false),(10,iS 3),(11,.d (cl0 82)),(34,mustV),(35,iS 3),(41,.d (slD 4 letD L.b.ls)),(42,iS L.b.ls.length),(43,iS i)],[{ frz:=false,xs:=[iS L.s.len,iS L.s.wid,iS L.s.el,iS L.s.eh,iS L.s.ll,iS L.s.lh,.d (slD 2 boaD L.s.bs),.d (slD 5 bloD L.s.ks),iS L.b.at_,.d (slD 4 letD L.b.ls),iS L.p.al,iS L.p.ac] },{ frz:=false,xs:=[iS 0,iS 0] }],[]⟩) (fun i => ∀ x ∈ L.b.ls.take i,(!apart L x n) = false) ⟨fun x hx => by simp at hx,?_⟩ ?_ ?_
  · (refine Sub.of ([0,1]) ([]) ?_ ?_ ?_ rfl rfl <;> simp only [subB,subB1,subT,subT1,newT,subE,subV,subL,go_sem,↓dP,↓reduceIte] <;> (try (repeat' with_reducible apply And.intro)) <;> (try first | exact DEq.refl _ | refine DEq.int ?_ | refine DEq.bool ?_ | omega))
  · intro i hi h0
    have hi' : i < L.b.ls.length:=by omega
    have hlt : i < (L.b.ls.take (L.b.ls.length - 1)).length:=by simp; omega
    have hge : (L.b.ls.take (L.b.ls.length - 1)).getD i default = L.b.ls.getD i default:=by rw [getD_lt hlt,getD_lt hi']; simp
    have htk : (L.b.ls.take (L.b.ls.length - 1)).take i = L.b.ls.take i:=by rw [List.take_take]; congr 1; omega
    ((first | refine qS rfl rfl ?_ | refine qR rfl rfl ?_); simp only [go_sem,↓dP,↓reduceIte]; with_reducible and_intros; all_goals first | apply qA | exact ⟨⟩ | rfl | (intros; apply qB; first | kernel_rfl | omega) | omega | skip)
    refine Ok.seq ?_
    refine Ok.cond rfl (fun _ => ?_) (fun hb => by simp at hb; omega)
    (refine Ok.skip ?_; (try dsimp only [thenK,blockK,noGotoK]))
    refine Ok.seq ?_
    refine Ok.block ?_
    ((first | refine qS rfl rfl ?_ | refine qR rfl rfl ?_); simp only [go_sem,↓dP,↓reduceIte]; with_reducible and_intros; all_goals first | apply qA | exact ⟨⟩ | rfl | (intros; apply qB; first | kernel_rfl | omega) | omega | skip)
    refine Ok.seq ?_
    ((first | refine qS rfl rfl ?_ | refine qR rfl rfl ?_); simp only [go_sem,↓dP,↓reduceIte]; with_reducible and_intros; all_goals first | apply qA | exact ⟨⟩ | rfl | (intros; apply qB; first | kernel_rfl | omega) | omega | skip)
    refine Ok.cond rfl (fun hb => by simp at hb; omega) (fun _ => ?_)
    (refine Ok.skip ?_; (try dsimp only [thenK,blockK,noGotoK]))
    ((first | refine qS rfl rfl ?_ | refine qR rfl rfl ?_); simp only [go_sem,↓dP,↓reduceIte]; with_reducible and_intros; all_goals first | apply qA | exact ⟨⟩ | rfl | (intros; apply qB; first | kernel_rfl | omega) | omega | skip)
    (refine AskI.ret (c86 L hfine _ (hL.ls _ (getD_mem hi')) n hn0 hn1) ?_; simp only [go_sem,↓dP,↓reduceIte]; with_reducible and_intros; all_goals first | apply qA | exact ⟨⟩ | rfl | (intros; apply qB; first | kernel_rfl | omega) | omega | skip)
    refine Ok.cond rfl ?_ ?_
    · intro hb
      have hF : faultL L n q = some (5,(i : Int)):=by
        unfold faultL; simp only [hk,g0,g1,g2]; rw [fx_at hlt (by rw [hge]; simpa using hb) (by rw [htk]; exact h0)]
      rw [hF]
      ((first | refine qS rfl rfl ?_ | refine qR rfl rfl ?_); simp only [go_sem,↓dP,↓reduceIte]; with_reducible and_intros; all_goals first | apply qA | exact ⟨⟩ | rfl | (intros; apply qB; first | kernel_rfl | omega) | omega | skip)
      (refine Ok.ret ?_; (try dsimp only [thenK,blockK,noGotoK]); simp only [toList_mk,List.toList_toArray,retK_ret,retK_normal,resOK,resV,celV,rowV,frzAll,frzT,subV,subL,go_sem,↓dP,↓reduceIte])
      (repeat' with_reducible apply And.intro) <;> exact DEq.refl _
    · intro hb
      (refine Ok.skip ?_; (try dsimp only [thenK,blockK,noGotoK]))
      ((first | refine qS rfl rfl ?_ | refine qR rfl rfl ?_); simp only [go_sem,↓dP,↓reduceIte]; with_reducible and_intros; all_goals first | apply qA | exact ⟨⟩ | rfl | (intros; apply qB; first | kernel_rfl | omega) | omega | skip)
      (try dsimp only [thenK,blockK,noGotoK])
      refine ⟨no_step hi' h0 (by simpa using hb),?_⟩
      (refine Sub.of ([0,1]) ([]) ?_ ?_ ?_ rfl rfl <;> simp only [subB,subB1,subT,subT1,newT,subE,subV,subL,go_sem,↓dP,↓reduceIte] <;> (try (repeat' with_reducible apply And.intro)) <;> (try first | exact DEq.refl _ | refine DEq.int ?_ | refine DEq.bool ?_ | omega))
  intro h0
  have hn1':=hL.n1
  have g3 : (L.b.ls.take (L.b.ls.length - 1)).findIdx? (fun x => !apart L x n) = none:=fx_no h0
  have hF : faultL L n q = none:=by
    unfold faultL; simp only [hk,g0,g1,g2,g3]
  ((first | refine qS rfl rfl ?_ | refine qR rfl rfl ?_); simp only [go_sem,↓dP,↓reduceIte]; with_reducible and_intros; all_goals first | apply qA | exact ⟨⟩ | rfl | (intros; apply qB; first | kernel_rfl | omega) | omega | skip)
  refine Ok.seq ?_
  refine Ok.cond rfl (fun _ => ?_) (fun hb => by simp at hb; omega)
  (refine Ok.skip ?_; (try dsimp only [thenK,blockK,noGotoK]))
  refine Ok.seq ?_
  refine Ok.block ?_
  ((first | refine qS rfl rfl ?_ | refine qR rfl rfl ?_); simp only [go_sem,↓dP,↓reduceIte]; with_reducible and_intros; all_goals first | apply qA | exact ⟨⟩ | rfl | (intros; apply qB; first | kernel_rfl | omega) | omega | skip)
  refine Ok.seq ?_
  ((first | refine qS rfl rfl ?_ | refine qR rfl rfl ?_); simp only [go_sem,↓dP,↓reduceIte]; with_reducible and_intros; all_goals first | apply qA | exact ⟨⟩ | rfl | (intros; apply qB; first | kernel_rfl | omega) | omega | skip)
  refine Ok.cond rfl (fun _ => ?_) (fun hb => by simp at hb; omega)
  (refine Ok.exit ?_; simp only [thenK_exit,blockK_exit,noGotoK_exit,thenK_normal,blockK_normal,noGotoK_normal,↓reduceIte,Nat.reduceEqDiff])
  ((first | refine qS rfl rfl ?_ | refine qR rfl rfl ?_); simp only [go_sem,↓dP,↓reduceIte]; with_reducible and_intros; all_goals first | apply qA | exact ⟨⟩ | rfl | (intros; apply qB; first | kernel_rfl | omega) | omega | skip)
  (try dsimp only [thenK,blockK,noGotoK])
  refine OkN.round ?_
  ((first | refine qS rfl rfl ?_ | refine qR rfl rfl ?_); simp only [go_sem,↓dP,↓reduceIte]; with_reducible and_intros; all_goals first | apply qA | exact ⟨⟩ | rfl | (intros; apply qB; first | kernel_rfl | omega) | omega | skip)
  refine Ok.seq ?_
  refine Ok.cond (b:=false) (by first | rfl | (simp only [go_sem,↓dP,↓reduceIte]; rfl)) (fun hb => by cases hb) (fun _ => ?_)
  (refine Ok.exit ?_; simp only [thenK_exit,blockK_exit,noGotoK_exit,thenK_normal,blockK_normal,noGotoK_normal,↓reduceIte,Nat.reduceEqDiff])
  rw [hF]
  ((first | refine qS rfl rfl ?_ | refine qR rfl rfl ?_); simp only [go_sem,↓dP,↓reduceIte]; with_reducible and_intros; all_goals first | apply qA | exact ⟨⟩ | rfl | (intros; apply qB; first | kernel_rfl | omega) | omega | skip)
  (refine Ok.ret ?_; (try dsimp only [thenK,blockK,noGotoK]); simp only [toList_mk,List.toList_toArray,retK_ret,retK_normal,resOK,resV,celV,rowV,frzAll,frzT,subV,subL,go_sem,↓dP,↓reduceIte])
  (repeat' with_reducible apply And.intro) <;> exact DEq.refl _
end Go.Proofs.Sight
namespace Go.Proofs.Sight
open Go Go.RX Go.Proofs
set_option maxRecDepth 10000
def surelyL (L : Look) : Bool:=!(faultL L (L.s.el * L.s.ll) (fun _ => true)).isSome
def mayL (L : Look) : Bool:=!(faultL L (L.s.eh * L.s.lh) (fun k => k.sure)).isSome
theorem pow_least {L : Look} (h : L.fine) : 0 ≤ L.s.el * L.s.ll ∧ L.s.el * L.s.ll ≤ 10000:=by
  obtain ⟨a1,a2,a3,a4,a5,a6,b1,b2,b3,b4,b5,b6,b7,b8⟩:=h
  have e1:=mulB (a:=L.s.el) (b:=L.s.ll) (A:=40) (B:=100) (by omega) (by omega) (by omega) (by omega)
  have e2 : 0 ≤ L.s.el * L.s.ll:=Int.mul_nonneg (by omega) (by omega)
  omega
theorem pow_most {L : Look} (h : L.fine) : 0 ≤ L.s.eh * L.s.lh ∧ L.s.eh * L.s.lh ≤ 10000:=by
  obtain ⟨a1,a2,a3,a4,a5,a6,b1,b2,b3,b4,b5,b6,b7,b8⟩:=h
  have e1:=mulB (a:=L.s.eh) (b:=L.s.lh) (A:=40) (B:=100) (by omega) (by omega) (by omega) (by omega)
  have e2 : 0 ≤ L.s.eh * L.s.lh:=Int.mul_nonneg (by omega) (by omega)
  omega
theorem faV_agg (o : Option (Int × Int)) : ∃ a b,faV o = .agg [iS a,iS b]:=by
  cases o with
  | none => exact ⟨_,_,rfl⟩
  | some x => exact ⟨_,_,rfl⟩
theorem c74 (L : Look) (hL : L.good) : Ctr Tryz.prog 51 [L.sv] (bS (surelyL L)):=by
  obtain ⟨p0,p1⟩:=pow_least hL.fine
  have h116:=c116 L hL _ p0 p1 90 (fun _ => true) (fun k => c117 k)
  obtain ⟨x,y,e⟩:=faV_agg (faultL L (L.s.el * L.s.ll) (fun _ => true))
  rw [e] at h116
  (refine Ctr.mk (fn:=Tryz.f51) rfl rfl rfl rfl rfl Tryz.results51 ?_; dsimp only [args,List.toList_toArray])
  ((first | refine qS rfl rfl ?_ | refine qR rfl rfl ?_); simp only [go_sem,↓dP,↓reduceIte]; with_reducible and_intros; all_goals first | apply qA | exact ⟨⟩ | rfl | (intros; apply qB; first | kernel_rfl | omega) | omega | skip)
  ((first | refine qS rfl rfl ?_ | refine qR rfl rfl ?_); simp only [go_sem,↓dP,↓reduceIte]; with_reducible and_intros; all_goals first | apply qA | exact ⟨⟩ | rfl | (intros; apply qB; first | kernel_rfl | omega) | omega | skip)
  (refine AskI.ret (c84 L hL.fine) ?_; simp only [go_sem,↓dP,↓reduceIte]; with_reducible and_intros; all_goals first | apply qA | exact ⟨⟩ | rfl | (intros; apply qB; first | kernel_rfl | omega) | omega | skip)
  (refine AskI.ret (h116) ?_; simp only [go_sem,↓dP,↓reduceIte]; with_reducible and_intros; all_goals first | apply qA | exact ⟨⟩ | rfl | (intros; apply qB; first | kernel_rfl | omega) | omega | skip)
  ((first | refine qS rfl rfl ?_ | refine qR rfl rfl ?_); simp only [go_sem,↓dP,↓reduceIte]; with_reducible and_intros; all_goals first | apply qA | exact ⟨⟩ | rfl | (intros; apply qB; first | kernel_rfl | omega) | omega | skip)
  (refine Ok.ret ?_; (try dsimp only [thenK,blockK,noGotoK]); simp only [toList_mk,List.toList_toArray,retK_ret,retK_normal,resOK,resV,celV,rowV,frzAll,frzT,subV,subL,go_sem,↓dP,↓reduceIte])
  exact .refl _
theorem c75 (L : Look) (hL : L.good) : Ctr Tryz.prog 58 [L.sv] (bS (mayL L)):=by
  obtain ⟨p0,p1⟩:=pow_most hL.fine
  have h116:=c116 L hL _ p0 p1 92 (fun k => k.sure) (fun k => c118 k)
  obtain ⟨x,y,e⟩:=faV_agg (faultL L (L.s.eh * L.s.lh) (fun k => k.sure))
  rw [e] at h116
  (refine Ctr.mk (fn:=Tryz.f58) rfl rfl rfl rfl rfl Tryz.results58 ?_; dsimp only [args,List.toList_toArray])
  ((first | refine qS rfl rfl ?_ | refine qR rfl rfl ?_); simp only [go_sem,↓dP,↓reduceIte]; with_reducible and_intros; all_goals first | apply qA | exact ⟨⟩ | rfl | (intros; apply qB; first | kernel_rfl | omega) | omega | skip)
  ((first | refine qS rfl rfl ?_ | refine qR rfl rfl ?_); simp only [go_sem,↓dP,↓reduceIte]; with_reducible and_intros; all_goals first | apply qA | exact ⟨⟩ | rfl | (intros; apply qB; first | kernel_rfl | omega) | omega | skip)
  (refine AskI.ret (c85 L hL.fine) ?_; simp only [go_sem,↓dP,↓reduceIte]; with_reducible and_intros; all_goals first | apply qA | exact ⟨⟩ | rfl | (intros; apply qB; first | kernel_rfl | omega) | omega | skip)
  (refine AskI.ret (h116) ?_; simp only [go_sem,↓dP,↓reduceIte]; with_reducible and_intros; all_goals first | apply qA | exact ⟨⟩ | rfl | (intros; apply qB; first | kernel_rfl | omega) | omega | skip)
  ((first | refine qS rfl rfl ?_ | refine qR rfl rfl ?_); simp only [go_sem,↓dP,↓reduceIte]; with_reducible and_intros; all_goals first | apply qA | exact ⟨⟩ | rfl | (intros; apply qB; first | kernel_rfl | omega) | omega | skip)
  (refine Ok.ret ?_; (try dsimp only [thenK,blockK,noGotoK]); simp only [toList_mk,List.toList_toArray,retK_ret,retK_normal,resOK,resV,celV,rowV,frzAll,frzT,subV,subL,go_sem,↓dP,↓reduceIte])
  exact .refl _
theorem isLetter_fine {x : Letter} (h : isLetter x = true) : x.fine:=by
  simp only [isLetter,inR,Bool.and_eq_true,decide_eq_true_eq] at h
  obtain ⟨⟨⟨⟨a,b⟩,c,d⟩,e,f⟩,g,i⟩:=h
  exact ⟨by omega,by omega,by omega,by omega,by omega,by omega,by omega,by omega⟩
theorem isBoard_spec {b : Board} {len : Int} (h : isBoard b len = true) : (0 ≤ b.at_ ∧ b.at_ ≤ len) ∧ (1 ≤ b.ls.length ∧ b.ls.length ≤ 5) ∧ (b.ls.getD (b.ls.length - 1) default).p = 0 ∧ ∀ x ∈ b.ls,isLetter x = true:=by
  simp only [isBoard,inR,Bool.and_eq_true,decide_eq_true_eq,beq_iff_eq,Bool.not_eq_true',List.any_eq_false,Bool.not_eq_true',Bool.not_eq_false] at h
  obtain ⟨⟨⟨h1,h2⟩,h3⟩,h4⟩:=h
  exact ⟨h1,⟨by omega,by omega⟩,h3,h4⟩
structure Street.ok (s : Street) : Prop where
  len0 : 1 ≤ s.len
  len1 : s.len ≤ 40
  wid0 : 1 ≤ s.wid
  wid1 : s.wid ≤ 12
  el0 : 1 ≤ s.el
  el1 : s.el ≤ 40
  eh0 : s.el ≤ s.eh
  eh1 : s.eh ≤ 40
  ll0 : 1 ≤ s.ll
  ll1 : s.ll ≤ 100
  lh0 : s.ll ≤ s.lh
  lh1 : s.lh ≤ 100
  b1 : 1 ≤ s.bs.length
  b3 : s.bs.length ≤ 3
  k4 : s.ks.length ≤ 4
  bs : ∀ b ∈ s.bs,isBoard b s.len = true
  ks : ∀ k ∈ s.ks,blockIn k s = true
theorem isStreet_ok {s : Street} : isStreet s = true ↔ s.ok:=by
  simp only [isStreet,inR,spanR,Bool.and_eq_true,decide_eq_true_eq,Bool.not_eq_true',List.any_eq_false,Bool.not_eq_true',Bool.not_eq_false]
  constructor
  · rintro ⟨⟨⟨⟨⟨⟨⟨h1,h2⟩,h3,h4⟩,h5,h6⟩,h7⟩,h8⟩,h9⟩,h10⟩
    exact ⟨h1.1,h1.2,h2.1,h2.2,h3.1,h3.2,h4.1,h4.2,h5.1,h5.2,h6.1,h6.2,by omega,by omega,by omega,h9,h10⟩
  · rintro ⟨h1,h2,h3,h4,h5,h6,h7,h8,h9,h10,h11,h12,h13,h14,h15,h16,h17⟩
    exact ⟨⟨⟨⟨⟨⟨⟨⟨h1,h2⟩,h3,h4⟩,⟨h5,h6⟩,h7,h8⟩,⟨h9,h10⟩,h11,h12⟩,by omega,by omega⟩,by omega⟩,h16⟩,h17⟩
theorem blockIn_fine {k : Block} {s : Street} (hs : s.ok) (h : blockIn k s = true) : k.fine:=by
  simp only [blockIn,inR,spanR,Bool.and_eq_true,decide_eq_true_eq] at h
  obtain ⟨⟨⟨a,b⟩,c,d⟩,⟨e,f⟩,g,i⟩:=h
  have:=hs.len1; have:=hs.wid1
  exact ⟨by omega,by omega,by omega,by omega,by omega,by omega,by omega,by omega⟩
theorem good_of {s : Street} (hs : s.ok) {b : Board} (hb : isBoard b s.len = true) {p : Place} (hp : placeIn s p = true) : (Look.mk s b p).good:=by
  obtain ⟨h1,h2,h3,h4⟩:=isBoard_spec hb
  simp only [placeIn,inR,Bool.and_eq_true,decide_eq_true_eq] at hp
  have hs':=hs
  obtain ⟨l0,l1,w0,w1,e0,e1,e2,e3,g0,g1,g2,g3,_⟩:=hs'
  refine ⟨⟨?_,?_,?_,?_,?_,?_,?_,?_,?_,?_,?_,?_,?_,?_⟩,fun x hx => isLetter_fine (h4 x hx),fun k hk => blockIn_fine hs (hs.ks k hk),h2.1,h2.2,hs.k4⟩ <;> dsimp only <;> omega
theorem lookOk_spec {s : Street} {i : Int} {p : Place} (h : lookOk s i p = true) : s.ok ∧ (0 ≤ i ∧ i < s.bs.length) ∧ placeIn s p = true ∧ lookOf s i p = ⟨s,s.bs.getD i.toNat default,p⟩ ∧ (lookOf s i p).good:=by
  have hl : lookOf s i p = ⟨s,s.bs.getD i.toNat default,p⟩:=by simp [lookOf,h]
  simp only [lookOk,Bool.and_eq_true] at h
  obtain ⟨⟨h1,h2⟩,h3⟩:=h
  have hs:=isStreet_ok.1 h1
  simp only [inR,Bool.and_eq_true,decide_eq_true_eq] at h2
  have hi : 0 ≤ i ∧ i < s.bs.length:=⟨by omega,by omega⟩
  refine ⟨hs,hi,h3,hl,?_⟩
  rw [hl]
  exact good_of hs (hs.bs _ (getD_mem (by omega))) h3
theorem Street.ok.fit {s : Street} (h : s.ok) : s.fit:=by
  refine ⟨by have:=h.b3; omega,by have:=h.k4; omega,fun b hb => ?_⟩
  have:=(isBoard_spec (h.bs b hb)).2.1.2
  omega
def seenW (s : Street) (i : Int) (p : Place) : Int:=if lookOk s i p then word (surelyL (lookOf s i p)) (mayL (lookOf s i p)) else 0
def errA (b : Bool) : Int:=if b then 0 else 2
theorem c25 (s : Street) (hs : s.fit) (i : Int) (p : Place) : Ctr Tryz.prog 23 [s.sv,iS i,p.sv] (.tup [iS (seenW s i p),iS (errA (lookOk s i p))]):=by
  have h72:=c72 s hs i p
  (refine Ctr.mk (fn:=Tryz.f23) rfl rfl rfl rfl rfl Tryz.results23 ?_; dsimp only [args,List.toList_toArray])
  ((first | refine qS rfl rfl ?_ | refine qR rfl rfl ?_); simp only [go_sem,↓dP,↓reduceIte]; with_reducible and_intros; all_goals first | apply qA | exact ⟨⟩ | rfl | (intros; apply qB; first | kernel_rfl | omega) | omega | skip)
  refine Ok.seq ?_
  ((first | refine qS rfl rfl ?_ | refine qR rfl rfl ?_); simp only [go_sem,↓dP,↓reduceIte]; with_reducible and_intros; all_goals first | apply qA | exact ⟨⟩ | rfl | (intros; apply qB; first | kernel_rfl | omega) | omega | skip)
  (refine AskI.ret (h72) ?_; simp only [go_sem,↓dP,↓reduceIte]; with_reducible and_intros; all_goals first | apply qA | exact ⟨⟩ | rfl | (intros; apply qB; first | kernel_rfl | omega) | omega | skip)
  refine Ok.seq ?_
  ((first | refine qS rfl rfl ?_ | refine qR rfl rfl ?_); simp only [go_sem,↓dP,↓reduceIte]; with_reducible and_intros; all_goals first | apply qA | exact ⟨⟩ | rfl | (intros; apply qB; first | kernel_rfl | omega) | omega | skip)
  refine Ok.cond rfl ?_ ?_
  · intro hb
    simp only [Bool.not_eq_true'] at hb
    ((first | refine qS rfl rfl ?_ | refine qR rfl rfl ?_); simp only [go_sem,↓dP,↓reduceIte]; with_reducible and_intros; all_goals first | apply qA | exact ⟨⟩ | rfl | (intros; apply qB; first | kernel_rfl | omega) | omega | skip)
    (refine Ok.ret ?_; (try dsimp only [thenK,blockK,noGotoK]); simp only [toList_mk,List.toList_toArray,retK_ret,retK_normal,resOK,resV,celV,rowV,frzAll,frzT,subV,subL,go_sem,↓dP,↓reduceIte])
    simp only [seenW,errA,hb]
    exact ⟨.refl _,.refl _⟩
  · intro hb
    simp only [Bool.not_eq_false'] at hb
    obtain ⟨_,_,_,_,hg⟩:=lookOk_spec hb
    (refine Ok.skip ?_; (try dsimp only [thenK,blockK,noGotoK]))
    ((first | refine qS rfl rfl ?_ | refine qR rfl rfl ?_); simp only [go_sem,↓dP,↓reduceIte]; with_reducible and_intros; all_goals first | apply qA | exact ⟨⟩ | rfl | (intros; apply qB; first | kernel_rfl | omega) | omega | skip)
    (refine AskI.ret (c74 _ hg) ?_; simp only [go_sem,↓dP,↓reduceIte]; with_reducible and_intros; all_goals first | apply qA | exact ⟨⟩ | rfl | (intros; apply qB; first | kernel_rfl | omega) | omega | skip)
    (refine AskI.ret (c75 _ hg) ?_; simp only [go_sem,↓dP,↓reduceIte]; with_reducible and_intros; all_goals first | apply qA | exact ⟨⟩ | rfl | (intros; apply qB; first | kernel_rfl | omega) | omega | skip)
    (refine AskI.ret (c73 _ _) ?_; simp only [go_sem,↓dP,↓reduceIte]; with_reducible and_intros; all_goals first | apply qA | exact ⟨⟩ | rfl | (intros; apply qB; first | kernel_rfl | omega) | omega | skip)
    (refine Ok.ret ?_; (try dsimp only [thenK,blockK,noGotoK]); simp only [toList_mk,List.toList_toArray,retK_ret,retK_normal,resOK,resV,celV,rowV,frzAll,frzT,subV,subL,go_sem,↓dP,↓reduceIte])
    simp only [seenW,errA,hb]
    exact ⟨.refl _,.refl _⟩
def lettersL (L : Look) : List Int:=L.b.ls.map (fun x => word (readL L x (L.s.el * L.s.ll)) (readL L x (L.s.eh * L.s.lh)))
def lettersW (s : Street) (i : Int) (p : Place) : List Int:=if lookOk s i p then lettersL (lookOf s i p) else []
theorem map_snoc {α β : Type} [Inhabited α] (f : α → β) {l : List α} {i : Nat} (h : i < l.length) : (l.take (i + 1)).map f = (l.take i).map f ++ [f (l.getD i default)]:=by
  rw [getD_take h]; simp
theorem map_len {α β : Type} (f : α → β) {l : List α} {i : Nat} (h : i ≤ l.length) : ((l.take i).map f).length = i:=by simp; omega
theorem c34 (s : Street) (hs : s.fit) (i : Int) (p : Place) : Ctr Tryz.prog 42 [s.sv,iS i,p.sv] (.tup [.d (slD 1 intD (lettersW s i p)),iS (errA (lookOk s i p))]):=by
  have h72:=c72 s hs i p
  (refine Ctr.mk (fn:=Tryz.f42) rfl rfl rfl rfl rfl Tryz.results42 ?_; dsimp only [args,List.toList_toArray])
  ((first | refine qS rfl rfl ?_ | refine qR rfl rfl ?_); simp only [go_sem,↓dP,↓reduceIte]; with_reducible and_intros; all_goals first | apply qA | exact ⟨⟩ | rfl | (intros; apply qB; first | kernel_rfl | omega) | omega | skip)
  refine Ok.seq ?_
  ((first | refine qS rfl rfl ?_ | refine qR rfl rfl ?_); simp only [go_sem,↓dP,↓reduceIte]; with_reducible and_intros; all_goals first | apply qA | exact ⟨⟩ | rfl | (intros; apply qB; first | kernel_rfl | omega) | omega | skip)
  (refine AskI.ret (h72) ?_; simp only [go_sem,↓dP,↓reduceIte]; with_reducible and_intros; all_goals first | apply qA | exact ⟨⟩ | rfl | (intros; apply qB; first | kernel_rfl | omega) | omega | skip)
  refine Ok.seq ?_
  ((first | refine qS rfl rfl ?_ | refine qR rfl rfl ?_); simp only [go_sem,↓dP,↓reduceIte]; with_reducible and_intros; all_goals first | apply qA | exact ⟨⟩ | rfl | (intros; apply qB; first | kernel_rfl | omega) | omega | skip)
  refine Ok.cond rfl ?_ ?_
  · intro hb
    simp only [Bool.not_eq_true'] at hb
    ((first | refine qS rfl rfl ?_ | refine qR rfl rfl ?_); simp only [go_sem,↓dP,↓reduceIte]; with_reducible and_intros; all_goals first | apply qA | exact ⟨⟩ | rfl | (intros; apply qB; first | kernel_rfl | omega) | omega | skip)
    (refine Ok.ret ?_; (try dsimp only [thenK,blockK,noGotoK]); simp only [toList_mk,List.toList_toArray,retK_ret,retK_normal,resOK,resV,celV,rowV,frzAll,frzT,subV,subL,go_sem,↓dP,↓reduceIte])
    simp only [lettersW,errA,hb]
    exact ⟨DEq.nils rfl,.refl _⟩
  intro hb
  simp only [Bool.not_eq_false'] at hb
  obtain ⟨_,_,_,_,hg⟩:=lookOk_spec hb
  have hw : lettersW s i p = lettersL (lookOf s i p):=by simp [lettersW,hb]
  have he : errA (lookOk s i p) = 0:=by simp [errA,hb]
  rw [hw,he]
  generalize lookOf s i p = L at hg ⊢
  have hn5:=hg.n5
  obtain ⟨p0,p1⟩:=pow_least hg.fine
  obtain ⟨q0,q1⟩:=pow_most hg.fine
  (refine Ok.skip ?_; (try dsimp only [thenK,blockK,noGotoK]))
  ((first | refine qS rfl rfl ?_ | refine qR rfl rfl ?_); simp only [go_sem,↓dP,↓reduceIte]; with_reducible and_intros; all_goals first | apply qA | exact ⟨⟩ | rfl | (intros; apply qB; first | kernel_rfl | omega) | omega | skip)
  refine Ok.seq ?_
  ((first | refine qS rfl rfl ?_ | refine qR rfl rfl ?_); simp only [go_sem,↓dP,↓reduceIte]; with_reducible and_intros; all_goals first | apply qA | exact ⟨⟩ | rfl | (intros; apply qB; first | kernel_rfl | omega) | omega | skip)
  refine Ok.block ?_
  generalize hF : (fun x => word (readL L x (L.s.el * L.s.ll)) (readL L x (L.s.eh * L.s.lh))) = F
  have hFL : lettersL L = L.b.ls.map F:=by rw [← hF]; rfl
  rw [hFL]
  refine Ok.count L.b.ls.length (fun j => ⟨[(8,.p 0 0),(10,.tk 0),(24,.d (slD 4 letD L.b.ls)),(25,iS L.b.ls.length),(26,iS j)],[{ frz:=false,xs:=[iS L.s.len,iS L.s.wid,iS L.s.el,iS L.s.eh,iS L.s.ll,iS L.s.lh,.d (slD 2 boaD L.s.bs),.d (slD 5 bloD L.s.ks),iS L.b.at_,.d (slD 4 letD L.b.ls),iS L.p.al,iS L.p.ac] }],[ownD 49 1 intD ((L.b.ls.take j).map F)]⟩) (fun _ => True) ⟨trivial,?_⟩ ?_ ?_
  · (refine Sub.of ([2]) ([none]) ?_ ?_ ?_ rfl rfl <;> simp only [subB,subB1,subT,subT1,newT,subE,subV,subL,go_sem,↓dP,↓reduceIte] <;> (try (repeat' with_reducible apply And.intro)) <;> (try first | exact DEq.refl _ | refine DEq.int ?_ | refine DEq.bool ?_ | omega))
  · intro j hj _
    have hlen:=map_len F (l:=L.b.ls) (i:=j) (by omega)
    have hsn:=map_snoc F hj
    ((first | refine qS rfl rfl ?_ | refine qR rfl rfl ?_); simp only [go_sem,↓dP,↓reduceIte]; with_reducible and_intros; all_goals first | apply qA | exact ⟨⟩ | rfl | (intros; apply qB; first | kernel_rfl | omega) | omega | skip)
    refine Ok.seq ?_
    refine Ok.cond rfl (fun _ => ?_) (fun hb => by simp at hb; omega)
    (refine Ok.skip ?_; (try dsimp only [thenK,blockK,noGotoK]))
    refine Ok.seq ?_
    refine Ok.block ?_
    ((first | refine qS rfl rfl ?_ | refine qR rfl rfl ?_); simp only [go_sem,↓dP,↓reduceIte]; with_reducible and_intros; all_goals first | apply qA | exact ⟨⟩ | rfl | (intros; apply qB; first | kernel_rfl | omega) | omega | skip)
    ((first | refine qS rfl rfl ?_ | refine qR rfl rfl ?_); simp only [go_sem,↓dP,↓reduceIte]; with_reducible and_intros; all_goals first | apply qA | exact ⟨⟩ | rfl | (intros; apply qB; first | kernel_rfl | omega) | omega | skip)
    (refine AskI.ret (c84 L hg.fine) ?_; simp only [go_sem,↓dP,↓reduceIte]; with_reducible and_intros; all_goals first | apply qA | exact ⟨⟩ | rfl | (intros; apply qB; first | kernel_rfl | omega) | omega | skip)
    (refine AskI.ret (c83 L hg.fine _ (hg.ls _ (getD_mem hj)) _ p0 p1) ?_; simp only [go_sem,↓dP,↓reduceIte]; with_reducible and_intros; all_goals first | apply qA | exact ⟨⟩ | rfl | (intros; apply qB; first | kernel_rfl | omega) | omega | skip)
    (refine AskI.ret (c85 L hg.fine) ?_; simp only [go_sem,↓dP,↓reduceIte]; with_reducible and_intros; all_goals first | apply qA | exact ⟨⟩ | rfl | (intros; apply qB; first | kernel_rfl | omega) | omega | skip)
    (refine AskI.ret (c83 L hg.fine _ (hg.ls _ (getD_mem hj)) _ q0 q1) ?_; simp only [go_sem,↓dP,↓reduceIte]; with_reducible and_intros; all_goals first | apply qA | exact ⟨⟩ | rfl | (intros; apply qB; first | kernel_rfl | omega) | omega | skip)
    (refine AskI.ret (c73 _ _) ?_; simp only [go_sem,↓dP,↓reduceIte]; with_reducible and_intros; all_goals first | apply qA | exact ⟨⟩ | rfl | (intros; apply qB; first | kernel_rfl | omega) | omega | skip)
    (try dsimp only [thenK,blockK,noGotoK])
    ((first | refine qS rfl rfl ?_ | refine qR rfl rfl ?_); simp only [go_sem,↓dP,↓reduceIte]; with_reducible and_intros; all_goals first | apply qA | exact ⟨⟩ | rfl | (intros; apply qB; first | kernel_rfl | omega) | omega | skip)
    (try dsimp only [thenK,blockK,noGotoK])
    refine ⟨trivial,?_⟩
    (refine Sub.of ([0]) ([some 1]) ?_ ?_ ?_ rfl rfl <;> simp only [subB,subB1,subT,subT1,newT,subE,subV,subL,go_sem,↓dP,↓reduceIte] <;> (try (repeat' with_reducible apply And.intro)) <;> (try first | exact DEq.refl _ | refine DEq.int ?_ | refine DEq.bool ?_ | omega))
    · rw [hsn]; simp
    · rw [hsn,← hF]
      exact snoc_D (fun c hc => by have : c = 0:=by omega
                                   subst this; rfl)
  · intro _
    ((first | refine qS rfl rfl ?_ | refine qR rfl rfl ?_); simp only [go_sem,↓dP,↓reduceIte]; with_reducible and_intros; all_goals first | apply qA | exact ⟨⟩ | rfl | (intros; apply qB; first | kernel_rfl | omega) | omega | skip)
    refine Ok.seq ?_
    refine Ok.cond rfl (fun hb => by simp at hb) (fun _ => ?_)
    (refine Ok.exit ?_; simp only [thenK_exit,blockK_exit,noGotoK_exit,thenK_normal,blockK_normal,noGotoK_normal,↓reduceIte,Nat.reduceEqDiff])
    ((first | refine qS rfl rfl ?_ | refine qR rfl rfl ?_); simp only [go_sem,↓dP,↓reduceIte]; with_reducible and_intros; all_goals first | apply qA | exact ⟨⟩ | rfl | (intros; apply qB; first | kernel_rfl | omega) | omega | skip)
    (refine Ok.ret ?_; (try dsimp only [thenK,blockK,noGotoK]); simp only [toList_mk,List.toList_toArray,retK_ret,retK_normal,resOK,resV,celV,rowV,frzAll,frzT,subV,subL,go_sem,↓dP,↓reduceIte])
    simp only [List.take_length]
    ((repeat' with_reducible apply And.intro) <;> (first | exact DEq.refl _ | refine DEq.int ?_ | refine DEq.bool ?_ | skip))
end Go.Proofs.Sight
namespace Go.Proofs.Sight
open Go Go.RX Go.Proofs
set_option maxRecDepth 10000
def meltsL (L : Look) : List Int:=(L.b.ls.take (L.b.ls.length - 1)).map (fun x => word (!apart L x (L.s.eh * L.s.lh)) (!apart L x (L.s.el * L.s.ll)))
def meltsW (s : Street) (i : Int) (p : Place) : List Int:=if lookOk s i p then meltsL (lookOf s i p) else []
theorem c35 (s : Street) (hs : s.fit) (i : Int) (p : Place) : Ctr Tryz.prog 43 [s.sv,iS i,p.sv] (.tup [.d (slD 1 intD (meltsW s i p)),iS (errA (lookOk s i p))]):=by
  have h72:=c72 s hs i p
  (refine Ctr.mk (fn:=Tryz.f43) rfl rfl rfl rfl rfl Tryz.results43 ?_; dsimp only [args,List.toList_toArray])
  ((first | refine qS rfl rfl ?_ | refine qR rfl rfl ?_); simp only [go_sem,↓dP,↓reduceIte]; with_reducible and_intros; all_goals first | apply qA | exact ⟨⟩ | rfl | (intros; apply qB; first | kernel_rfl | omega) | omega | skip)
  refine Ok.seq ?_
  ((first | refine qS rfl rfl ?_ | refine qR rfl rfl ?_); simp only [go_sem,↓dP,↓reduceIte]; with_reducible and_intros; all_goals first | apply qA | exact ⟨⟩ | rfl | (intros; apply qB; first | kernel_rfl | omega) | omega | skip)
  (refine AskI.ret (h72) ?_; simp only [go_sem,↓dP,↓reduceIte]; with_reducible and_intros; all_goals first | apply qA | exact ⟨⟩ | rfl | (intros; apply qB; first | kernel_rfl | omega) | omega | skip)
  refine Ok.seq ?_
  ((first | refine qS rfl rfl ?_ | refine qR rfl rfl ?_); simp only [go_sem,↓dP,↓reduceIte]; with_reducible and_intros; all_goals first | apply qA | exact ⟨⟩ | rfl | (intros; apply qB; first | kernel_rfl | omega) | omega | skip)
  refine Ok.cond rfl ?_ ?_
  · intro hb
    simp only [Bool.not_eq_true'] at hb
    ((first | refine qS rfl rfl ?_ | refine qR rfl rfl ?_); simp only [go_sem,↓dP,↓reduceIte]; with_reducible and_intros; all_goals first | apply qA | exact ⟨⟩ | rfl | (intros; apply qB; first | kernel_rfl | omega) | omega | skip)
    (refine Ok.ret ?_; (try dsimp only [thenK,blockK,noGotoK]); simp only [toList_mk,List.toList_toArray,retK_ret,retK_normal,resOK,resV,celV,rowV,frzAll,frzT,subV,subL,go_sem,↓dP,↓reduceIte])
    simp only [meltsW,errA,hb]
    exact ⟨DEq.nils rfl,.refl _⟩
  intro hb
  simp only [Bool.not_eq_false'] at hb
  obtain ⟨_,_,_,_,hg⟩:=lookOk_spec hb
  have hw : meltsW s i p = meltsL (lookOf s i p):=by simp [meltsW,hb]
  have he : errA (lookOk s i p) = 0:=by simp [errA,hb]
  rw [hw,he]
  generalize lookOf s i p = L at hg ⊢
  have hn1:=hg.n1
  have hn5:=hg.n5
  obtain ⟨p0,p1⟩:=pow_least hg.fine
  obtain ⟨q0,q1⟩:=pow_most hg.fine
  (refine Ok.skip ?_; (try dsimp only [thenK,blockK,noGotoK]))
  ((first | refine qS rfl rfl ?_ | refine qR rfl rfl ?_); simp only [go_sem,↓dP,↓reduceIte]; with_reducible and_intros; all_goals first | apply qA | exact ⟨⟩ | rfl | (intros; apply qB; first | kernel_rfl | omega) | omega | skip)
  refine Ok.seq ?_
  ((first | refine qS rfl rfl ?_ | refine qR rfl rfl ?_); simp only [go_sem,↓dP,↓reduceIte]; with_reducible and_intros; all_goals first | apply qA | exact ⟨⟩ | rfl | (intros; apply qB; first | kernel_rfl | omega) | omega | skip)
  refine Ok.block ?_
  generalize hF : (fun x => word (!apart L x (L.s.eh * L.s.lh)) (!apart L x (L.s.el * L.s.ll))) = F
  have hFL : meltsL L = (L.b.ls.take (L.b.ls.length - 1)).map F:=by rw [← hF]; rfl
  rw [hFL]
  have hT : ∀ x ∈ L.b.ls.take (L.b.ls.length - 1),x.fine:=fun x hx => hg.ls x (List.mem_of_mem_take hx)
  have hTl : (L.b.ls.take (L.b.ls.length - 1)).length = L.b.ls.length - 1:=by simp
  have hsl : DEq (.sl 4 ((↑L.b.ls.length : Int) - 1 - 0).toNat (fun i j => letD (L.b.ls.getD i default) j)) (slD 4 letD (L.b.ls.take (L.b.ls.length - 1))):=by
    have:=slice_D (k:=4) (a:=0) (f:=letD) (l:=L.b.ls) (n:=((↑L.b.ls.length : Int) - 1 - 0).toNat) (m:=L.b.ls.length - 1) (by omega) (by omega)
    simpa using this
  generalize L.b.ls.take (L.b.ls.length - 1) = T at hT hTl hsl ⊢
  refine Ok.count T.length (fun j => ⟨[(8,.p 0 0),(10,.tk 0),(30,.d (slD 4 letD T)),(31,iS T.length),(32,iS j)],[{ frz:=false,xs:=[iS L.s.len,iS L.s.wid,iS L.s.el,iS L.s.eh,iS L.s.ll,iS L.s.lh,.d (slD 2 boaD L.s.bs),.d (slD 5 bloD L.s.ks),iS L.b.at_,.d (slD 4 letD L.b.ls),iS L.p.al,iS L.p.ac] }],[ownD 49 1 intD ((T.take j).map F)]⟩) (fun _ => True) ⟨trivial,?_⟩ ?_ ?_
  · (refine Sub.of ([2]) ([none]) ?_ ?_ ?_ rfl rfl <;> simp only [subB,subB1,subT,subT1,newT,subE,subV,subL,go_sem,↓dP,↓reduceIte] <;> (try (repeat' with_reducible apply And.intro)) <;> (try first | exact DEq.refl _ | refine DEq.int ?_ | refine DEq.bool ?_ | omega))
    omega
  · intro j hj _
    have hlen:=map_len F (l:=T) (i:=j) (by omega)
    have hsn:=map_snoc F hj
    ((first | refine qS rfl rfl ?_ | refine qR rfl rfl ?_); simp only [go_sem,↓dP,↓reduceIte]; with_reducible and_intros; all_goals first | apply qA | exact ⟨⟩ | rfl | (intros; apply qB; first | kernel_rfl | omega) | omega | skip)
    refine Ok.seq ?_
    refine Ok.cond rfl (fun _ => ?_) (fun hb => by simp at hb; omega)
    (refine Ok.skip ?_; (try dsimp only [thenK,blockK,noGotoK]))
    refine Ok.seq ?_
    refine Ok.block ?_
    ((first | refine qS rfl rfl ?_ | refine qR rfl rfl ?_); simp only [go_sem,↓dP,↓reduceIte]; with_reducible and_intros; all_goals first | apply qA | exact ⟨⟩ | rfl | (intros; apply qB; first | kernel_rfl | omega) | omega | skip)
    ((first | refine qS rfl rfl ?_ | refine qR rfl rfl ?_); simp only [go_sem,↓dP,↓reduceIte]; with_reducible and_intros; all_goals first | apply qA | exact ⟨⟩ | rfl | (intros; apply qB; first | kernel_rfl | omega) | omega | skip)
    (refine AskI.ret (c85 L hg.fine) ?_; simp only [go_sem,↓dP,↓reduceIte]; with_reducible and_intros; all_goals first | apply qA | exact ⟨⟩ | rfl | (intros; apply qB; first | kernel_rfl | omega) | omega | skip)
    (refine AskI.ret (c86 L hg.fine _ (hT _ (getD_mem hj)) _ q0 q1) ?_; simp only [go_sem,↓dP,↓reduceIte]; with_reducible and_intros; all_goals first | apply qA | exact ⟨⟩ | rfl | (intros; apply qB; first | kernel_rfl | omega) | omega | skip)
    (refine AskI.ret (c84 L hg.fine) ?_; simp only [go_sem,↓dP,↓reduceIte]; with_reducible and_intros; all_goals first | apply qA | exact ⟨⟩ | rfl | (intros; apply qB; first | kernel_rfl | omega) | omega | skip)
    (refine AskI.ret (c86 L hg.fine _ (hT _ (getD_mem hj)) _ p0 p1) ?_; simp only [go_sem,↓dP,↓reduceIte]; with_reducible and_intros; all_goals first | apply qA | exact ⟨⟩ | rfl | (intros; apply qB; first | kernel_rfl | omega) | omega | skip)
    (refine AskI.ret (c73 _ _) ?_; simp only [go_sem,↓dP,↓reduceIte]; with_reducible and_intros; all_goals first | apply qA | exact ⟨⟩ | rfl | (intros; apply qB; first | kernel_rfl | omega) | omega | skip)
    (try dsimp only [thenK,blockK,noGotoK])
    ((first | refine qS rfl rfl ?_ | refine qR rfl rfl ?_); simp only [go_sem,↓dP,↓reduceIte]; with_reducible and_intros; all_goals first | apply qA | exact ⟨⟩ | rfl | (intros; apply qB; first | kernel_rfl | omega) | omega | skip)
    (try dsimp only [thenK,blockK,noGotoK])
    refine ⟨trivial,?_⟩
    (refine Sub.of ([0]) ([some 1]) ?_ ?_ ?_ rfl rfl <;> simp only [subB,subB1,subT,subT1,newT,subE,subV,subL,go_sem,↓dP,↓reduceIte] <;> (try (repeat' with_reducible apply And.intro)) <;> (try first | exact DEq.refl _ | refine DEq.int ?_ | refine DEq.bool ?_ | omega))
    · rw [hsn]; simp
    · rw [hsn,← hF]
      exact snoc_D (fun c hc => by have : c = 0:=by omega
                                   subst this; rfl)
  · intro _
    ((first | refine qS rfl rfl ?_ | refine qR rfl rfl ?_); simp only [go_sem,↓dP,↓reduceIte]; with_reducible and_intros; all_goals first | apply qA | exact ⟨⟩ | rfl | (intros; apply qB; first | kernel_rfl | omega) | omega | skip)
    refine Ok.seq ?_
    refine Ok.cond rfl (fun hb => by simp at hb) (fun _ => ?_)
    (refine Ok.exit ?_; simp only [thenK_exit,blockK_exit,noGotoK_exit,thenK_normal,blockK_normal,noGotoK_normal,↓reduceIte,Nat.reduceEqDiff])
    ((first | refine qS rfl rfl ?_ | refine qR rfl rfl ?_); simp only [go_sem,↓dP,↓reduceIte]; with_reducible and_intros; all_goals first | apply qA | exact ⟨⟩ | rfl | (intros; apply qB; first | kernel_rfl | omega) | omega | skip)
    (refine Ok.ret ?_; (try dsimp only [thenK,blockK,noGotoK]); simp only [toList_mk,List.toList_toArray,retK_ret,retK_normal,resOK,resV,celV,rowV,frzAll,frzT,subV,subL,go_sem,↓dP,↓reduceIte])
    simp only [List.take_length]
    ((repeat' with_reducible apply And.intro) <;> (first | exact DEq.refl _ | refine DEq.int ?_ | refine DEq.bool ?_ | skip))
def hiddenL (L : Look) : List Nat:=(List.range L.s.ks.length).filter (fun j => hides L (L.s.ks.getD j default))
def hiddenW (s : Street) (i : Int) (p : Place) : List Nat:=if lookOk s i p then hiddenL (lookOf s i p) else []
def natD (n : Nat) : Nat → DV:=intD n
theorem filter_range (q : Nat → Bool) (j : Nat) : (List.range (j + 1)).filter q = (List.range j).filter q ++ (if q j then [j] else []):=by
  rw [List.range_succ,List.filter_append]
  cases h : q j <;> simp [h]
theorem filter_range_len (q : Nat → Bool) (j : Nat) : ((List.range j).filter q).length ≤ j:=by
  have:=List.length_filter_le q (List.range j)
  simpa using this
theorem c36 (s : Street) (hs : s.fit) (i : Int) (p : Place) : Ctr Tryz.prog 28 [s.sv,iS i,p.sv] (.tup [.d (slD 1 natD (hiddenW s i p)),iS (errA (lookOk s i p))]):=by
  have h72:=c72 s hs i p
  (refine Ctr.mk (fn:=Tryz.f28) rfl rfl rfl rfl rfl Tryz.results28 ?_; dsimp only [args,List.toList_toArray])
  ((first | refine qS rfl rfl ?_ | refine qR rfl rfl ?_); simp only [go_sem,↓dP,↓reduceIte]; with_reducible and_intros; all_goals first | apply qA | exact ⟨⟩ | rfl | (intros; apply qB; first | kernel_rfl | omega) | omega | skip)
  refine Ok.seq ?_
  ((first | refine qS rfl rfl ?_ | refine qR rfl rfl ?_); simp only [go_sem,↓dP,↓reduceIte]; with_reducible and_intros; all_goals first | apply qA | exact ⟨⟩ | rfl | (intros; apply qB; first | kernel_rfl | omega) | omega | skip)
  (refine AskI.ret (h72) ?_; simp only [go_sem,↓dP,↓reduceIte]; with_reducible and_intros; all_goals first | apply qA | exact ⟨⟩ | rfl | (intros; apply qB; first | kernel_rfl | omega) | omega | skip)
  refine Ok.seq ?_
  ((first | refine qS rfl rfl ?_ | refine qR rfl rfl ?_); simp only [go_sem,↓dP,↓reduceIte]; with_reducible and_intros; all_goals first | apply qA | exact ⟨⟩ | rfl | (intros; apply qB; first | kernel_rfl | omega) | omega | skip)
  refine Ok.cond rfl ?_ ?_
  · intro hb
    simp only [Bool.not_eq_true'] at hb
    ((first | refine qS rfl rfl ?_ | refine qR rfl rfl ?_); simp only [go_sem,↓dP,↓reduceIte]; with_reducible and_intros; all_goals first | apply qA | exact ⟨⟩ | rfl | (intros; apply qB; first | kernel_rfl | omega) | omega | skip)
    (refine Ok.ret ?_; (try dsimp only [thenK,blockK,noGotoK]); simp only [toList_mk,List.toList_toArray,retK_ret,retK_normal,resOK,resV,celV,rowV,frzAll,frzT,subV,subL,go_sem,↓dP,↓reduceIte])
    simp only [hiddenW,errA,hb]
    exact ⟨DEq.nils rfl,.refl _⟩
  intro hb
  simp only [Bool.not_eq_false'] at hb
  obtain ⟨_,_,_,_,hg⟩:=lookOk_spec hb
  have hw : hiddenW s i p = hiddenL (lookOf s i p):=by simp [hiddenW,hb]
  have he : errA (lookOk s i p) = 0:=by simp [errA,hb]
  rw [hw,he]
  generalize lookOf s i p = L at hg ⊢
  have hk4:=hg.k4
  (refine Ok.skip ?_; (try dsimp only [thenK,blockK,noGotoK]))
  ((first | refine qS rfl rfl ?_ | refine qR rfl rfl ?_); simp only [go_sem,↓dP,↓reduceIte]; with_reducible and_intros; all_goals first | apply qA | exact ⟨⟩ | rfl | (intros; apply qB; first | kernel_rfl | omega) | omega | skip)
  refine Ok.seq ?_
  ((first | refine qS rfl rfl ?_ | refine qR rfl rfl ?_); simp only [go_sem,↓dP,↓reduceIte]; with_reducible and_intros; all_goals first | apply qA | exact ⟨⟩ | rfl | (intros; apply qB; first | kernel_rfl | omega) | omega | skip)
  refine Ok.block ?_
  generalize hq : (fun j => hides L (L.s.ks.getD j default)) = q
  have hFL : hiddenL L = (List.range L.s.ks.length).filter q:=by rw [← hq]; rfl
  rw [hFL]
  refine Ok.count L.s.ks.length (fun j => ⟨[(8,.p 0 0),(10,.tk 0),(24,.d (slD 5 bloD L.s.ks)),(25,iS L.s.ks.length),(26,iS j)],[{ frz:=false,xs:=[iS L.s.len,iS L.s.wid,iS L.s.el,iS L.s.eh,iS L.s.ll,iS L.s.lh,.d (slD 2 boaD L.s.bs),.d (slD 5 bloD L.s.ks),iS L.b.at_,.d (slD 4 letD L.b.ls),iS L.p.al,iS L.p.ac] }],[ownD 3 1 natD ((List.range j).filter q)]⟩) (fun _ => True) ⟨trivial,?_⟩ ?_ ?_
  · (refine Sub.of ([2]) ([none]) ?_ ?_ ?_ rfl rfl <;> simp only [subB,subB1,subT,subT1,newT,subE,subV,subL,go_sem,↓dP,↓reduceIte] <;> (try (repeat' with_reducible apply And.intro)) <;> (try first | exact DEq.refl _ | refine DEq.int ?_ | refine DEq.bool ?_ | omega))
    simp
  · intro j hj _
    have hlen:=filter_range_len q j
    have hsn:=filter_range q j
    ((first | refine qS rfl rfl ?_ | refine qR rfl rfl ?_); simp only [go_sem,↓dP,↓reduceIte]; with_reducible and_intros; all_goals first | apply qA | exact ⟨⟩ | rfl | (intros; apply qB; first | kernel_rfl | omega) | omega | skip)
    refine Ok.seq ?_
    refine Ok.cond rfl (fun _ => ?_) (fun hb => by simp at hb; omega)
    (refine Ok.skip ?_; (try dsimp only [thenK,blockK,noGotoK]))
    refine Ok.seq ?_
    refine Ok.block ?_
    ((first | refine qS rfl rfl ?_ | refine qR rfl rfl ?_); simp only [go_sem,↓dP,↓reduceIte]; with_reducible and_intros; all_goals first | apply qA | exact ⟨⟩ | rfl | (intros; apply qB; first | kernel_rfl | omega) | omega | skip)
    refine Ok.seq ?_
    ((first | refine qS rfl rfl ?_ | refine qR rfl rfl ?_); simp only [go_sem,↓dP,↓reduceIte]; with_reducible and_intros; all_goals first | apply qA | exact ⟨⟩ | rfl | (intros; apply qB; first | kernel_rfl | omega) | omega | skip)
    (refine AskI.ret (c87 L hg.fine _ (hg.ks _ (getD_mem hj))) ?_; simp only [go_sem,↓dP,↓reduceIte]; with_reducible and_intros; all_goals first | apply qA | exact ⟨⟩ | rfl | (intros; apply qB; first | kernel_rfl | omega) | omega | skip)
    refine Ok.cond rfl ?_ ?_
    · intro hh
      have hqj : q j = true:=by rw [← hq]; exact hh
      rw [hqj,if_pos rfl] at hsn
      ((first | refine qS rfl rfl ?_ | refine qR rfl rfl ?_); simp only [go_sem,↓dP,↓reduceIte]; with_reducible and_intros; all_goals first | apply qA | exact ⟨⟩ | rfl | (intros; apply qB; first | kernel_rfl | omega) | omega | skip)
      (try dsimp only [thenK,blockK,noGotoK])
      ((first | refine qS rfl rfl ?_ | refine qR rfl rfl ?_); simp only [go_sem,↓dP,↓reduceIte]; with_reducible and_intros; all_goals first | apply qA | exact ⟨⟩ | rfl | (intros; apply qB; first | kernel_rfl | omega) | omega | skip)
      (try dsimp only [thenK,blockK,noGotoK])
      refine ⟨trivial,?_⟩
      (refine Sub.of ([0]) ([some 1]) ?_ ?_ ?_ rfl rfl <;> simp only [subB,subB1,subT,subT1,newT,subE,subV,subL,go_sem,↓dP,↓reduceIte] <;> (try (repeat' with_reducible apply And.intro)) <;> (try first | exact DEq.refl _ | refine DEq.int ?_ | refine DEq.bool ?_ | omega))
      · rw [← List.range_succ,hsn]; simp
      · rw [← List.range_succ,hsn]
        exact snoc_D (fun c hc => by have : c = 0:=by omega
                                     subst this; rfl)
    · intro hh
      have hqj : q j = false:=by rw [← hq]; exact hh
      rw [hqj,if_neg (by simp),List.append_nil] at hsn
      (refine Ok.skip ?_; (try dsimp only [thenK,blockK,noGotoK]))
      (try dsimp only [thenK,blockK,noGotoK])
      ((first | refine qS rfl rfl ?_ | refine qR rfl rfl ?_); simp only [go_sem,↓dP,↓reduceIte]; with_reducible and_intros; all_goals first | apply qA | exact ⟨⟩ | rfl | (intros; apply qB; first | kernel_rfl | omega) | omega | skip)
      (try dsimp only [thenK,blockK,noGotoK])
      refine ⟨trivial,?_⟩
      rw [hsn]
      (refine Sub.of ([0]) ([some 0]) ?_ ?_ ?_ rfl rfl <;> simp only [subB,subB1,subT,subT1,newT,subE,subV,subL,go_sem,↓dP,↓reduceIte] <;> (try (repeat' with_reducible apply And.intro)) <;> (try first | exact DEq.refl _ | refine DEq.int ?_ | refine DEq.bool ?_ | omega))
      exact fun _ _ _ _ => DEq.refl _
  · intro _
    ((first | refine qS rfl rfl ?_ | refine qR rfl rfl ?_); simp only [go_sem,↓dP,↓reduceIte]; with_reducible and_intros; all_goals first | apply qA | exact ⟨⟩ | rfl | (intros; apply qB; first | kernel_rfl | omega) | omega | skip)
    refine Ok.seq ?_
    refine Ok.cond rfl (fun hb => by simp at hb) (fun _ => ?_)
    (refine Ok.exit ?_; simp only [thenK_exit,blockK_exit,noGotoK_exit,thenK_normal,blockK_normal,noGotoK_normal,↓reduceIte,Nat.reduceEqDiff])
    ((first | refine qS rfl rfl ?_ | refine qR rfl rfl ?_); simp only [go_sem,↓dP,↓reduceIte]; with_reducible and_intros; all_goals first | apply qA | exact ⟨⟩ | rfl | (intros; apply qB; first | kernel_rfl | omega) | omega | skip)
    (refine Ok.ret ?_; (try dsimp only [thenK,blockK,noGotoK]); simp only [toList_mk,List.toList_toArray,retK_ret,retK_normal,resOK,resV,celV,rowV,frzAll,frzT,subV,subL,go_sem,↓dP,↓reduceIte])
    ((repeat' with_reducible apply And.intro) <;> (first | exact DEq.refl _ | refine DEq.int ?_ | refine DEq.bool ?_ | skip))
def Letter.mul (x : Letter) (n : Int) : Letter:=⟨x.h * n,x.w * n,x.s * n,x.p * n⟩
def Board.mul (b : Board) (n : Int) : Board:=⟨b.at_,b.ls.map (·.mul n)⟩
theorem c99 (b : Board) (hb : ∀ x ∈ b.ls,x.fine) (hl : b.ls.length < 1000000) (n : Int) (h0 : 0 ≤ n) (h1 : n ≤ 1000) : Ctr Tryz.prog 86 [b.sv,iS n] (b.mul n).sv:=by
  (refine Ctr.mk (fn:=Tryz.f86) rfl rfl rfl rfl rfl Tryz.results86 ?_; dsimp only [args,List.toList_toArray])
  ((first | refine qS rfl rfl ?_ | refine qR rfl rfl ?_); simp only [go_sem,↓dP,↓reduceIte]; with_reducible and_intros; all_goals first | apply qA | exact ⟨⟩ | rfl | (intros; apply qB; first | kernel_rfl | omega) | omega | skip)
  ((first | refine qS rfl rfl ?_ | refine qR rfl rfl ?_); simp only [go_sem,↓dP,↓reduceIte]; with_reducible and_intros; all_goals first | apply qA | exact ⟨⟩ | rfl | (intros; apply qB; first | kernel_rfl | omega) | omega | skip)
  ((first | refine qS rfl rfl ?_ | refine qR rfl rfl ?_); simp only [go_sem,↓dP,↓reduceIte]; with_reducible and_intros; all_goals first | apply qA | exact ⟨⟩ | rfl | (intros; apply qB; first | kernel_rfl | omega) | omega | skip)
  refine Ok.seq ?_
  ((first | refine qS rfl rfl ?_ | refine qR rfl rfl ?_); simp only [go_sem,↓dP,↓reduceIte]; with_reducible and_intros; all_goals first | apply qA | exact ⟨⟩ | rfl | (intros; apply qB; first | kernel_rfl | omega) | omega | skip)
  refine Ok.block ?_
  refine Ok.count b.ls.length (fun j => ⟨[(1,iS n),(2,.p 0 0),(4,.p 1 0),(11,.d (slD 4 letD b.ls)),(12,iS b.ls.length),(13,iS j)],[{ frz:=false,xs:=[iS b.at_,.tk 0] },{ frz:=false,xs:=[iS 0,.d .nils] }],[ownD 45 4 letD ((b.ls.take j).map (·.mul n))]⟩) (fun _ => True) ⟨trivial,?_⟩ ?_ ?_
  · (refine Sub.of ([0,1]) ([none]) ?_ ?_ ?_ rfl rfl <;> simp only [subB,subB1,subT,subT1,newT,subE,subV,subL,go_sem,↓dP,↓reduceIte] <;> (try (repeat' with_reducible apply And.intro)) <;> (try first | exact DEq.refl _ | refine DEq.int ?_ | refine DEq.bool ?_ | omega))
  · intro j hj _
    have hlen:=map_len (·.mul n) (l:=b.ls) (i:=j) (by omega)
    have hsn:=map_snoc (·.mul n) hj
    obtain ⟨x1,x2,x3,x4,x5,x6,x7,x8⟩:=hb _ (getD_mem hj)
    have e1:=mulB (a:=(b.ls.getD j default).h) (b:=n) (A:=1000) (B:=1000) (by omega) (by omega) (by omega) (by omega)
    have e2:=mulB (a:=(b.ls.getD j default).w) (b:=n) (A:=1000) (B:=1000) (by omega) (by omega) (by omega) (by omega)
    have e3:=mulB (a:=(b.ls.getD j default).s) (b:=n) (A:=1000) (B:=1000) (by omega) (by omega) (by omega) (by omega)
    have e4:=mulB (a:=(b.ls.getD j default).p) (b:=n) (A:=1000) (B:=1000) (by omega) (by omega) (by omega) (by omega)
    ((first | refine qS rfl rfl ?_ | refine qR rfl rfl ?_); simp only [go_sem,↓dP,↓reduceIte]; with_reducible and_intros; all_goals first | apply qA | exact ⟨⟩ | rfl | (intros; apply qB; first | kernel_rfl | omega) | omega | skip)
    refine Ok.seq ?_
    refine Ok.cond rfl (fun _ => ?_) (fun hb => by simp at hb; omega)
    (refine Ok.skip ?_; (try dsimp only [thenK,blockK,noGotoK]))
    refine Ok.seq ?_
    refine Ok.block ?_
    ((first | refine qS rfl rfl ?_ | refine qR rfl rfl ?_); simp only [go_sem,↓dP,↓reduceIte]; with_reducible and_intros; all_goals first | apply qA | exact ⟨⟩ | rfl | (intros; apply qB; first | kernel_rfl | omega) | omega | skip)
    ((first | refine qS rfl rfl ?_ | refine qR rfl rfl ?_); simp only [go_sem,↓dP,↓reduceIte]; with_reducible and_intros; all_goals first | apply qA | exact ⟨⟩ | rfl | (intros; apply qB; first | kernel_rfl | omega) | omega | skip)
    (try dsimp only [thenK,blockK,noGotoK])
    ((first | refine qS rfl rfl ?_ | refine qR rfl rfl ?_); simp only [go_sem,↓dP,↓reduceIte]; with_reducible and_intros; all_goals first | apply qA | exact ⟨⟩ | rfl | (intros; apply qB; first | kernel_rfl | omega) | omega | skip)
    (try dsimp only [thenK,blockK,noGotoK])
    refine ⟨trivial,?_⟩
    (refine Sub.of ([0,1]) ([some 1]) ?_ ?_ ?_ rfl rfl <;> simp only [subB,subB1,subT,subT1,newT,subE,subV,subL,go_sem,↓dP,↓reduceIte] <;> (try (repeat' with_reducible apply And.intro)) <;> (try first | exact DEq.refl _ | refine DEq.int ?_ | refine DEq.bool ?_ | omega))
    · rw [hsn]; simp
    · rw [hsn]
      exact snoc_D (fun c hc => by
        match c,hc with
        | 0,_ => rfl
        | 1,_ => rfl
        | 2,_ => rfl
        | 3,_ => rfl)
  · intro _
    ((first | refine qS rfl rfl ?_ | refine qR rfl rfl ?_); simp only [go_sem,↓dP,↓reduceIte]; with_reducible and_intros; all_goals first | apply qA | exact ⟨⟩ | rfl | (intros; apply qB; first | kernel_rfl | omega) | omega | skip)
    refine Ok.seq ?_
    refine Ok.cond rfl (fun hb => by simp at hb) (fun _ => ?_)
    (refine Ok.exit ?_; simp only [thenK_exit,blockK_exit,noGotoK_exit,thenK_normal,blockK_normal,noGotoK_normal,↓reduceIte,Nat.reduceEqDiff])
    ((first | refine qS rfl rfl ?_ | refine qR rfl rfl ?_); simp only [go_sem,↓dP,↓reduceIte]; with_reducible and_intros; all_goals first | apply qA | exact ⟨⟩ | rfl | (intros; apply qB; first | kernel_rfl | omega) | omega | skip)
    (refine Ok.ret ?_; (try dsimp only [thenK,blockK,noGotoK]); simp only [toList_mk,List.toList_toArray,retK_ret,retK_normal,resOK,resV,celV,rowV,frzAll,frzT,subV,subL,go_sem,↓dP,↓reduceIte])
    simp only [List.take_length]
    ((repeat' with_reducible apply And.intro) <;> (first | exact DEq.refl _ | refine DEq.int ?_ | refine DEq.bool ?_ | skip))
def firstN (q : Nat → Bool) (m : Nat) : Option Nat:=(List.range m).find? q
theorem firstN_at {q : Nat → Bool} {m j : Nat} (hj : j < m) (h1 : q j = true) (h0 : ∀ i,i < j → q i = false) : firstN q m = some j:=by
  unfold firstN
  rw [List.find?_range_eq_some]
  exact ⟨h1,List.mem_range.2 hj,fun i hi => by simp [h0 i hi]⟩
theorem firstN_no {q : Nat → Bool} {m : Nat} (h0 : ∀ i,i < m → q i = false) : firstN q m = none:=by
  unfold firstN
  rw [List.find?_eq_none]
  intro x hx
  rw [h0 x (List.mem_range.1 hx)]; simp
def leastL (L : Look) : Option Nat:=firstN (fun j => surelyL { L with b:=L.b.mul (j + 1) }) 9
def lightL (L : Look) : Option Nat:=firstN (fun j => surelyL { L with s:={ L.s with ll:=j + 1,lh:=j + 1 } }) 100
def numO (o : Option Nat) : Int:=match o with | some j => (j : Int) + 1 | none => 0
def errO (o : Option Nat) : Int:=match o with | some _ => 0 | none => 5
theorem numO_some (j : Nat) : numO (some j) = (j : Int) + 1:=rfl
theorem errO_some (j : Nat) : errO (some j) = 0:=rfl
theorem numO_none : numO none = 0:=rfl
theorem errO_none : errO none = 5:=rfl
def leastW (s : Street) (i : Int) (p : Place) : Int:=if lookOk s i p then numO (leastL (lookOf s i p)) else 0
def leastE (s : Street) (i : Int) (p : Place) : Int:=if lookOk s i p then errO (leastL (lookOf s i p)) else 2
def lightW (s : Street) (i : Int) (p : Place) : Int:=if lookOk s i p then numO (lightL (lookOf s i p)) else 0
def lightE (s : Street) (i : Int) (p : Place) : Int:=if lookOk s i p then errO (lightL (lookOf s i p)) else 2
theorem good_mul {L : Look} (h : L.good) (ht : ∀ x ∈ L.b.ls,isLetter x = true) (n : Int) (h0 : 0 ≤ n) (h1 : n ≤ 9) : ({ L with b:=L.b.mul n } : Look).good:=by
  refine ⟨⟨h.fine.at0,h.fine.at1,h.fine.al0,h.fine.al1,h.fine.ac0,h.fine.ac1,h.fine.el0,h.fine.el1,h.fine.eh0,h.fine.eh1,h.fine.ll0,h.fine.ll1,h.fine.lh0,h.fine.lh1⟩,?_,h.ks,?_,?_,h.k4⟩
  · intro x hx
    simp only [Board.mul,List.mem_map] at hx
    obtain ⟨y,hy,rfl⟩:=hx
    have:=ht y hy
    simp only [isLetter,inR,Bool.and_eq_true,decide_eq_true_eq] at this
    obtain ⟨⟨⟨⟨a,b⟩,c,d⟩,e,f⟩,g,k⟩:=this
    have e1:=mulB (a:=y.h) (b:=n) (A:=30) (B:=9) (by omega) (by omega) (by omega) (by omega)
    have e2:=mulB (a:=y.w) (b:=n) (A:=30) (B:=9) (by omega) (by omega) (by omega) (by omega)
    have e3:=mulB (a:=y.s) (b:=n) (A:=10) (B:=9) (by omega) (by omega) (by omega) (by omega)
    have e4:=mulB (a:=y.p) (b:=n) (A:=20) (B:=9) (by omega) (by omega) (by omega) (by omega)
    have f1 : 0 ≤ y.h * n:=Int.mul_nonneg (by omega) h0
    have f2 : 0 ≤ y.w * n:=Int.mul_nonneg (by omega) h0
    have f3 : 0 ≤ y.s * n:=Int.mul_nonneg (by omega) h0
    have f4 : 0 ≤ y.p * n:=Int.mul_nonneg (by omega) h0
    exact ⟨f1,by simp only [Letter.mul]; omega,f2,by simp only [Letter.mul]; omega,f3,by simp only [Letter.mul]; omega,f4,by simp only [Letter.mul]; omega⟩
  · simpa [Board.mul] using h.n1
  · simpa [Board.mul] using h.n5
theorem good_lit {L : Look} (h : L.good) (n : Int) (h0 : 1 ≤ n) (h1 : n ≤ 100) : ({ L with s:={ L.s with ll:=n,lh:=n } } : Look).good :=
  ⟨⟨h.fine.at0,h.fine.at1,h.fine.al0,h.fine.al1,h.fine.ac0,h.fine.ac1,h.fine.el0,h.fine.el1,h.fine.eh0,h.fine.eh1,h0,h1,h0,h1⟩,h.ls,h.ks,h.n1,h.n5,h.k4⟩
theorem c49 (s : Street) (hs : s.fit) (i : Int) (p : Place) : Ctr Tryz.prog 46 [s.sv,iS i,p.sv] (.tup [iS (leastW s i p),iS (leastE s i p)]):=by
  have h72:=c72 s hs i p
  (refine Ctr.mk (fn:=Tryz.f46) rfl rfl rfl rfl rfl Tryz.results46 ?_; dsimp only [args,List.toList_toArray])
  ((first | refine qS rfl rfl ?_ | refine qR rfl rfl ?_); simp only [go_sem,↓dP,↓reduceIte]; with_reducible and_intros; all_goals first | apply qA | exact ⟨⟩ | rfl | (intros; apply qB; first | kernel_rfl | omega) | omega | skip)
  refine Ok.seq ?_
  ((first | refine qS rfl rfl ?_ | refine qR rfl rfl ?_); simp only [go_sem,↓dP,↓reduceIte]; with_reducible and_intros; all_goals first | apply qA | exact ⟨⟩ | rfl | (intros; apply qB; first | kernel_rfl | omega) | omega | skip)
  (refine AskI.ret (h72) ?_; simp only [go_sem,↓dP,↓reduceIte]; with_reducible and_intros; all_goals first | apply qA | exact ⟨⟩ | rfl | (intros; apply qB; first | kernel_rfl | omega) | omega | skip)
  refine Ok.seq ?_
  ((first | refine qS rfl rfl ?_ | refine qR rfl rfl ?_); simp only [go_sem,↓dP,↓reduceIte]; with_reducible and_intros; all_goals first | apply qA | exact ⟨⟩ | rfl | (intros; apply qB; first | kernel_rfl | omega) | omega | skip)
  refine Ok.cond rfl ?_ ?_
  · intro hb
    simp only [Bool.not_eq_true'] at hb
    ((first | refine qS rfl rfl ?_ | refine qR rfl rfl ?_); simp only [go_sem,↓dP,↓reduceIte]; with_reducible and_intros; all_goals first | apply qA | exact ⟨⟩ | rfl | (intros; apply qB; first | kernel_rfl | omega) | omega | skip)
    (refine Ok.ret ?_; (try dsimp only [thenK,blockK,noGotoK]); simp only [toList_mk,List.toList_toArray,retK_ret,retK_normal,resOK,resV,celV,rowV,frzAll,frzT,subV,subL,go_sem,↓dP,↓reduceIte])
    simp only [leastW,leastE,hb]
    exact ⟨.refl _,.refl _⟩
  intro hb
  simp only [Bool.not_eq_false'] at hb
  obtain ⟨hok,hi,hp,hl,hg⟩:=lookOk_spec hb
  have hw : leastW s i p = numO (leastL (lookOf s i p)):=by simp [leastW,hb]
  have he : leastE s i p = errO (leastL (lookOf s i p)):=by simp [leastE,hb]
  rw [hw,he]
  have ht : ∀ x ∈ (lookOf s i p).b.ls,isLetter x = true:=by
    rw [hl]
    exact (isBoard_spec (hok.bs _ (getD_mem (by omega)))).2.2.2
  have hls : (lookOf s i p).s = s:=by rw [hl]
  have hlp : (lookOf s i p).p = p:=by rw [hl]
  generalize lookOf s i p = L at hg ht hls hlp ⊢
  subst hls; subst hlp
  have hn5:=hg.n5
  (refine Ok.skip ?_; (try dsimp only [thenK,blockK,noGotoK]))
  refine Ok.seq ?_
  ((first | refine qS rfl rfl ?_ | refine qR rfl rfl ?_); simp only [go_sem,↓dP,↓reduceIte]; with_reducible and_intros; all_goals first | apply qA | exact ⟨⟩ | rfl | (intros; apply qB; first | kernel_rfl | omega) | omega | skip)
  refine Ok.block ?_
  refine Ok.count 9 (fun j => ⟨[(3,.p 0 0),(5,.p 1 0),(8,.p 2 0),(20,iS j)],[{ frz:=false,xs:=[iS L.s.len,iS L.s.wid,iS L.s.el,iS L.s.eh,iS L.s.ll,iS L.s.lh,.d (slD 2 boaD L.s.bs),.d (slD 5 bloD L.s.ks)] },{ frz:=false,xs:=[iS L.p.al,iS L.p.ac] },{ frz:=false,xs:=[iS L.s.len,iS L.s.wid,iS L.s.el,iS L.s.eh,iS L.s.ll,iS L.s.lh,.d (slD 2 boaD L.s.bs),.d (slD 5 bloD L.s.ks),iS L.b.at_,.d (slD 4 letD L.b.ls),iS L.p.al,iS L.p.ac] }],[]⟩) (fun j => ∀ i,i < j → surelyL { L with b:=L.b.mul (i + 1) } = false) ⟨fun i hi => by omega,?_⟩ ?_ ?_
  · (refine Sub.of ([0,1,2]) ([]) ?_ ?_ ?_ rfl rfl <;> simp only [subB,subB1,subT,subT1,newT,subE,subV,subL,go_sem,↓dP,↓reduceIte] <;> (try (repeat' with_reducible apply And.intro)) <;> (try first | exact DEq.refl _ | refine DEq.int ?_ | refine DEq.bool ?_ | omega))
  · intro j hj h0
    have hgm:=good_mul hg ht (j + 1) (by omega) (by omega)
    ((first | refine qS rfl rfl ?_ | refine qR rfl rfl ?_); simp only [go_sem,↓dP,↓reduceIte]; with_reducible and_intros; all_goals first | apply qA | exact ⟨⟩ | rfl | (intros; apply qB; first | kernel_rfl | omega) | omega | skip)
    refine Ok.seq ?_
    refine Ok.cond rfl (fun _ => ?_) (fun hb => by simp at hb; omega)
    (refine Ok.skip ?_; (try dsimp only [thenK,blockK,noGotoK]))
    refine Ok.seq ?_
    refine Ok.block ?_
    ((first | refine qS rfl rfl ?_ | refine qR rfl rfl ?_); simp only [go_sem,↓dP,↓reduceIte]; with_reducible and_intros; all_goals first | apply qA | exact ⟨⟩ | rfl | (intros; apply qB; first | kernel_rfl | omega) | omega | skip)
    refine Ok.seq ?_
    ((first | refine qS rfl rfl ?_ | refine qR rfl rfl ?_); simp only [go_sem,↓dP,↓reduceIte]; with_reducible and_intros; all_goals first | apply qA | exact ⟨⟩ | rfl | (intros; apply qB; first | kernel_rfl | omega) | omega | skip)
    (refine AskI.ret (c99 L.b hg.ls (by omega) _ (by omega) (by omega)) ?_; simp only [go_sem,↓dP,↓reduceIte]; with_reducible and_intros; all_goals first | apply qA | exact ⟨⟩ | rfl | (intros; apply qB; first | kernel_rfl | omega) | omega | skip)
    (refine AskI.ret (c74 _ hgm) ?_; simp only [go_sem,↓dP,↓reduceIte]; with_reducible and_intros; all_goals first | apply qA | exact ⟨⟩ | rfl | (intros; apply qB; first | kernel_rfl | omega) | omega | skip)
    refine Ok.cond rfl ?_ ?_
    · intro hh
      have hF : leastL L = some j:=firstN_at hj hh h0
      rw [hF,numO_some,errO_some]
      ((first | refine qS rfl rfl ?_ | refine qR rfl rfl ?_); simp only [go_sem,↓dP,↓reduceIte]; with_reducible and_intros; all_goals first | apply qA | exact ⟨⟩ | rfl | (intros; apply qB; first | kernel_rfl | omega) | omega | skip)
      (refine Ok.ret ?_; (try dsimp only [thenK,blockK,noGotoK]); simp only [toList_mk,List.toList_toArray,retK_ret,retK_normal,resOK,resV,celV,rowV,frzAll,frzT,subV,subL,go_sem,↓dP,↓reduceIte])
      ((repeat' with_reducible apply And.intro) <;> (first | exact DEq.refl _ | refine DEq.int ?_ | refine DEq.bool ?_ | skip))
    · intro hh
      (refine Ok.skip ?_; (try dsimp only [thenK,blockK,noGotoK]))
      ((first | refine qS rfl rfl ?_ | refine qR rfl rfl ?_); simp only [go_sem,↓dP,↓reduceIte]; with_reducible and_intros; all_goals first | apply qA | exact ⟨⟩ | rfl | (intros; apply qB; first | kernel_rfl | omega) | omega | skip)
      (try dsimp only [thenK,blockK,noGotoK])
      refine ⟨fun i hi => ?_,?_⟩
      · by_cases e : i = j
        · subst e; exact hh
        · exact h0 i (by omega)
      (refine Sub.of ([0,1,2]) ([]) ?_ ?_ ?_ rfl rfl <;> simp only [subB,subB1,subT,subT1,newT,subE,subV,subL,go_sem,↓dP,↓reduceIte] <;> (try (repeat' with_reducible apply And.intro)) <;> (try first | exact DEq.refl _ | refine DEq.int ?_ | refine DEq.bool ?_ | omega))
  · intro h0
    have hF : leastL L = none:=firstN_no h0
    rw [hF,numO_none,errO_none]
    ((first | refine qS rfl rfl ?_ | refine qR rfl rfl ?_); simp only [go_sem,↓dP,↓reduceIte]; with_reducible and_intros; all_goals first | apply qA | exact ⟨⟩ | rfl | (intros; apply qB; first | kernel_rfl | omega) | omega | skip)
    refine Ok.seq ?_
    refine Ok.cond rfl (fun hb => by simp at hb) (fun _ => ?_)
    (refine Ok.exit ?_; simp only [thenK_exit,blockK_exit,noGotoK_exit,thenK_normal,blockK_normal,noGotoK_normal,↓reduceIte,Nat.reduceEqDiff])
    ((first | refine qS rfl rfl ?_ | refine qR rfl rfl ?_); simp only [go_sem,↓dP,↓reduceIte]; with_reducible and_intros; all_goals first | apply qA | exact ⟨⟩ | rfl | (intros; apply qB; first | kernel_rfl | omega) | omega | skip)
    (refine Ok.ret ?_; (try dsimp only [thenK,blockK,noGotoK]); simp only [toList_mk,List.toList_toArray,retK_ret,retK_normal,resOK,resV,celV,rowV,frzAll,frzT,subV,subL,go_sem,↓dP,↓reduceIte])
    ((repeat' with_reducible apply And.intro) <;> (first | exact DEq.refl _ | refine DEq.int ?_ | refine DEq.bool ?_ | skip))
theorem c50 (s : Street) (hs : s.fit) (i : Int) (p : Place) : Ctr Tryz.prog 47 [s.sv,iS i,p.sv] (.tup [iS (lightW s i p),iS (lightE s i p)]):=by
  have h72:=c72 s hs i p
  (refine Ctr.mk (fn:=Tryz.f47) rfl rfl rfl rfl rfl Tryz.results47 ?_; dsimp only [args,List.toList_toArray])
  ((first | refine qS rfl rfl ?_ | refine qR rfl rfl ?_); simp only [go_sem,↓dP,↓reduceIte]; with_reducible and_intros; all_goals first | apply qA | exact ⟨⟩ | rfl | (intros; apply qB; first | kernel_rfl | omega) | omega | skip)
  refine Ok.seq ?_
  ((first | refine qS rfl rfl ?_ | refine qR rfl rfl ?_); simp only [go_sem,↓dP,↓reduceIte]; with_reducible and_intros; all_goals first | apply qA | exact ⟨⟩ | rfl | (intros; apply qB; first | kernel_rfl | omega) | omega | skip)
  (refine AskI.ret (h72) ?_; simp only [go_sem,↓dP,↓reduceIte]; with_reducible and_intros; all_goals first | apply qA | exact ⟨⟩ | rfl | (intros; apply qB; first | kernel_rfl | omega) | omega | skip)
  refine Ok.seq ?_
  ((first | refine qS rfl rfl ?_ | refine qR rfl rfl ?_); simp only [go_sem,↓dP,↓reduceIte]; with_reducible and_intros; all_goals first | apply qA | exact ⟨⟩ | rfl | (intros; apply qB; first | kernel_rfl | omega) | omega | skip)
  refine Ok.cond rfl ?_ ?_
  · intro hb
    simp only [Bool.not_eq_true'] at hb
    ((first | refine qS rfl rfl ?_ | refine qR rfl rfl ?_); simp only [go_sem,↓dP,↓reduceIte]; with_reducible and_intros; all_goals first | apply qA | exact ⟨⟩ | rfl | (intros; apply qB; first | kernel_rfl | omega) | omega | skip)
    (refine Ok.ret ?_; (try dsimp only [thenK,blockK,noGotoK]); simp only [toList_mk,List.toList_toArray,retK_ret,retK_normal,resOK,resV,celV,rowV,frzAll,frzT,subV,subL,go_sem,↓dP,↓reduceIte])
    simp only [lightW,lightE,hb]
    exact ⟨.refl _,.refl _⟩
  intro hb
  simp only [Bool.not_eq_false'] at hb
  obtain ⟨hok,hi,hp,hl,hg⟩:=lookOk_spec hb
  have hw : lightW s i p = numO (lightL (lookOf s i p)):=by simp [lightW,hb]
  have he : lightE s i p = errO (lightL (lookOf s i p)):=by simp [lightE,hb]
  rw [hw,he]
  generalize lookOf s i p = L at hg ⊢
  (refine Ok.skip ?_; (try dsimp only [thenK,blockK,noGotoK]))
  refine Ok.seq ?_
  ((first | refine qS rfl rfl ?_ | refine qR rfl rfl ?_); simp only [go_sem,↓dP,↓reduceIte]; with_reducible and_intros; all_goals first | apply qA | exact ⟨⟩ | rfl | (intros; apply qB; first | kernel_rfl | omega) | omega | skip)
  refine Ok.block ?_
  refine Ok.count 100 (fun j => ⟨[(8,.p 0 0),(20,iS j)],[{ frz:=false,xs:=[iS L.s.len,iS L.s.wid,iS L.s.el,iS L.s.eh,.any,.any,.d (slD 2 boaD L.s.bs),.d (slD 5 bloD L.s.ks),iS L.b.at_,.d (slD 4 letD L.b.ls),iS L.p.al,iS L.p.ac] }],[]⟩) (fun j => ∀ i : Nat,i < j → surelyL { L with s:={ L.s with ll:=i + 1,lh:=i + 1 } } = false) ⟨fun i hi => by omega,?_⟩ ?_ ?_
  · (refine Sub.of ([2]) ([]) ?_ ?_ ?_ rfl rfl <;> simp only [subB,subB1,subT,subT1,newT,subE,subV,subL,go_sem,↓dP,↓reduceIte] <;> (try (repeat' with_reducible apply And.intro)) <;> (try first | exact DEq.refl _ | refine DEq.int ?_ | refine DEq.bool ?_ | omega))
  · intro j hj h0
    have hgm:=good_lit hg (j + 1) (by omega) (by omega)
    ((first | refine qS rfl rfl ?_ | refine qR rfl rfl ?_); simp only [go_sem,↓dP,↓reduceIte]; with_reducible and_intros; all_goals first | apply qA | exact ⟨⟩ | rfl | (intros; apply qB; first | kernel_rfl | omega) | omega | skip)
    refine Ok.seq ?_
    refine Ok.cond rfl (fun _ => ?_) (fun hb => by simp at hb; omega)
    (refine Ok.skip ?_; (try dsimp only [thenK,blockK,noGotoK]))
    refine Ok.seq ?_
    refine Ok.block ?_
    ((first | refine qS rfl rfl ?_ | refine qR rfl rfl ?_); simp only [go_sem,↓dP,↓reduceIte]; with_reducible and_intros; all_goals first | apply qA | exact ⟨⟩ | rfl | (intros; apply qB; first | kernel_rfl | omega) | omega | skip)
    ((first | refine qS rfl rfl ?_ | refine qR rfl rfl ?_); simp only [go_sem,↓dP,↓reduceIte]; with_reducible and_intros; all_goals first | apply qA | exact ⟨⟩ | rfl | (intros; apply qB; first | kernel_rfl | omega) | omega | skip)
    refine Ok.seq ?_
    ((first | refine qS rfl rfl ?_ | refine qR rfl rfl ?_); simp only [go_sem,↓dP,↓reduceIte]; with_reducible and_intros; all_goals first | apply qA | exact ⟨⟩ | rfl | (intros; apply qB; first | kernel_rfl | omega) | omega | skip)
    (refine AskI.ret (c74 _ hgm) ?_; simp only [go_sem,↓dP,↓reduceIte]; with_reducible and_intros; all_goals first | apply qA | exact ⟨⟩ | rfl | (intros; apply qB; first | kernel_rfl | omega) | omega | skip)
    refine Ok.cond rfl ?_ ?_
    · intro hh
      have hF : lightL L = some j:=firstN_at hj hh h0
      rw [hF,numO_some,errO_some]
      ((first | refine qS rfl rfl ?_ | refine qR rfl rfl ?_); simp only [go_sem,↓dP,↓reduceIte]; with_reducible and_intros; all_goals first | apply qA | exact ⟨⟩ | rfl | (intros; apply qB; first | kernel_rfl | omega) | omega | skip)
      (refine Ok.ret ?_; (try dsimp only [thenK,blockK,noGotoK]); simp only [toList_mk,List.toList_toArray,retK_ret,retK_normal,resOK,resV,celV,rowV,frzAll,frzT,subV,subL,go_sem,↓dP,↓reduceIte])
      ((repeat' with_reducible apply And.intro) <;> (first | exact DEq.refl _ | refine DEq.int ?_ | refine DEq.bool ?_ | skip))
    · intro hh
      (refine Ok.skip ?_; (try dsimp only [thenK,blockK,noGotoK]))
      ((first | refine qS rfl rfl ?_ | refine qR rfl rfl ?_); simp only [go_sem,↓dP,↓reduceIte]; with_reducible and_intros; all_goals first | apply qA | exact ⟨⟩ | rfl | (intros; apply qB; first | kernel_rfl | omega) | omega | skip)
      (try dsimp only [thenK,blockK,noGotoK])
      refine ⟨fun i hi => ?_,?_⟩
      · by_cases e : i = j
        · subst e; exact hh
        · exact h0 i (by omega)
      (refine Sub.of ([0]) ([]) ?_ ?_ ?_ rfl rfl <;> simp only [subB,subB1,subT,subT1,newT,subE,subV,subL,go_sem,↓dP,↓reduceIte] <;> (try (repeat' with_reducible apply And.intro)) <;> (try first | exact DEq.refl _ | refine DEq.int ?_ | refine DEq.bool ?_ | omega))
  · intro h0
    have hF : lightL L = none:=firstN_no h0
    rw [hF,numO_none,errO_none]
    ((first | refine qS rfl rfl ?_ | refine qR rfl rfl ?_); simp only [go_sem,↓dP,↓reduceIte]; with_reducible and_intros; all_goals first | apply qA | exact ⟨⟩ | rfl | (intros; apply qB; first | kernel_rfl | omega) | omega | skip)
    refine Ok.seq ?_
    refine Ok.cond rfl (fun hb => by simp at hb) (fun _ => ?_)
    (refine Ok.exit ?_; simp only [thenK_exit,blockK_exit,noGotoK_exit,thenK_normal,blockK_normal,noGotoK_normal,↓reduceIte,Nat.reduceEqDiff])
    ((first | refine qS rfl rfl ?_ | refine qR rfl rfl ?_); simp only [go_sem,↓dP,↓reduceIte]; with_reducible and_intros; all_goals first | apply qA | exact ⟨⟩ | rfl | (intros; apply qB; first | kernel_rfl | omega) | omega | skip)
    (refine Ok.ret ?_; (try dsimp only [thenK,blockK,noGotoK]); simp only [toList_mk,List.toList_toArray,retK_ret,retK_normal,resOK,resV,celV,rowV,frzAll,frzT,subV,subL,go_sem,↓dP,↓reduceIte])
    ((repeat' with_reducible apply And.intro) <;> (first | exact DEq.refl _ | refine DEq.int ?_ | refine DEq.bool ?_ | skip))
end Go.Proofs.Sight
namespace Go.Proofs.Sight
open Go Go.RX Go.Proofs Go.RowKit Go.Shelf
attribute [local go_sem] Oper.semAt_some
set_option maxRecDepth 100000
abbrev Pl:=Fin 41 × Fin 12
def Pl.p (x : Pl) : Place:=⟨x.1.val,x.2.val + 1⟩
def plAt (wd : Nat) (i : Nat) : Pl:=(Fin.ofNat 41 (i / wd),Fin.ofNat 12 (i % wd))
def uptoP (wd k : Nat) : List Pl:=(List.range k).map (plAt wd)
theorem uptoP_succ (wd k : Nat) : uptoP wd (k + 1) = uptoP wd k ++ [plAt wd k]:=by simp [uptoP,List.range_succ]
theorem uptoP_length (wd k : Nat) : (uptoP wd k).length = k:=by simp [uptoP]
theorem plAt_mul {wd k j : Nat} (hj : j < wd) (hw : wd ≤ 12) (hk : k ≤ 40) : plAt wd (k * wd + j) = (⟨k,by omega⟩,⟨j,by omega⟩):=by
  have h1 : (k * wd + j) / wd = k:=by
    rw [Nat.add_comm,Nat.add_mul_div_right _ _ (by omega),Nat.div_eq_of_lt hj]; simp
  have h2 : (k * wd + j) % wd = j:=by
    rw [Nat.add_comm,Nat.add_mul_mod_self_right,Nat.mod_eq_of_lt hj]
  simp only [plAt,h1,h2,Prod.mk.injEq]
  exact ⟨Fin.ext (Nat.mod_eq_of_lt (by omega)),Fin.ext (Nat.mod_eq_of_lt (by omega))⟩
def encP (x : Pl) : Array Value:=#[.agg #[.int .i64 x.1.val,.int .i64 (x.2.val + 1)]]
def Kb (Bs : Nat) (W W' : World) : Prop:=W'.heap[Bs]? = W.heap[Bs]?
theorem Kb.refl (Bs : Nat) (W : World) : Kb Bs W W:=rfl
theorem Kb.trans {Bs : Nat} {A B C : World} (h : Kb Bs A B) (k : Kb Bs B C) : Kb Bs A C:=Eq.trans k h
theorem Kb.cell {Bs o : Nat} {W W' : World} (h : Kb Bs W W') : W'.cell? ⟨Bs,o,none⟩ = W.cell? ⟨Bs,o,none⟩:=World.cell?_of_block (a:=⟨Bs,o,none⟩) h
theorem Kb.b {Bs n : Nat} (hn : Bs < n) (W : World) (l : Nat) (o o' : Obj) (hl : n ≤ l) (h : W.heap[l]? = some o) (_ : o.isCells = false) (_ : o.isWalk = false) : Kb Bs W (W.putObj l o'):=World.putObj_heap_other (by omega)
set_option maxHeartbeats 2000000 in
theorem places1_in (F : Fence) (n : Nat) (h7 : F.fn 116) (hro : F.round = none) (hn : 1 ≤ n) (l Bs ln wd : Nat) (hln : ln ≤ 40) (hwd : wd ≤ 12) (J Jx : List Pl → World → Prop)
    (hY : ∀ pre x W,J pre W → pre.length < (ln + 1) * wd → YieldAt F (n - 1) Tryz.prog l (encP x) W fun e W' =>
      (e = .returned (.bool true) ∧ J (pre ++ [x]) W' ∧ Kb Bs W W') ∨ (e = .returned (.bool false) ∧ Jx (pre ++ [x]) W'))
    (W : World) (hc0 : W.cell? ⟨Bs,0,none⟩ = some (.int .i64 ln)) (hc1 : W.cell? ⟨Bs,1,none⟩ = some (.int .i64 wd)) (h0 : J [] W) :
    CallsIn F n Tryz.prog 116 #[.func (.yield l) #[] #[],.pointer (some ⟨Bs,0,none⟩)] W fun e W' => (∃ v,e = .returned v) ∧
      ((∃ ys,ys = uptoP wd ((ln + 1) * wd) ∧ J ys W') ∨ (∃ pre,True ∧ Jx pre W')):=by
  refine callsIn_of_wp Tryz.func116 rfl h7 ?_ hro
  simp only [Tryz.ntmps116,List.size_toArray,List.length_cons,List.length_nil,Nat.reduceAdd,Nat.reduceSub,Array.replicate_succ,Array.replicate_zero,List.push_toArray,List.append_toArray,List.nil_append,List.cons_append]
  gi_wp2
  gi_loopw [8] (fun i wr => ∃ k : Nat,k ≤ ln + 1 ∧ i = .int .i64 k ∧ J (uptoP wd (k * wd)) wr ∧ Kb Bs W wr)
    (fun i _ => ln + 1 - (intOf i).toNat)
  case atStart => exact ⟨0,Nat.zero_le _,rfl,by simpa [uptoP] using h0,Kb.refl _ _⟩
  case round =>
    obtain ⟨k,hk,rfl,hJs,hnx⟩:=hrel
    have hcw : wr.cell? ⟨Bs,1,none⟩ = some (.int .i64 wd):=(hnx.cell).trans hc1
    by_cases hlt : k < ln + 1
    · gi_wp2
      gi_loopw [13] (fun i wr => ∃ j : Nat,j ≤ wd ∧ i = .int .i64 j ∧ J (uptoP wd (k * wd + j)) wr ∧ Kb Bs W wr)
        (fun i _ => wd - (intOf i).toNat)
      case atStart => exact ⟨0,Nat.zero_le _,rfl,hJs,hnx⟩
      case round =>
        obtain ⟨j,hj,rfl,hJ2,hnx2⟩:=hrel
        by_cases hlj : j < wd
        · have hlt2 : k * wd + j < (ln + 1) * wd:=by
            have : (k + 1) * wd ≤ (ln + 1) * wd:=Nat.mul_le_mul_right _ hlt
            rw [Nat.add_mul] at this; omega
          obtain ⟨fn,tmps,assign,body,hy,hR⟩:=hY _ (plAt wd (k * wd + j)) wr hJ2 (by rw [uptoP_length]; exact hlt2)
          rw [plAt_mul hlj hwd (by omega)] at hy
          dsimp only [encP] at hy
          gi_wp2
          refine hR.mono ?_
          rintro e W3 (⟨rfl,hJ3,hk3⟩ | ⟨rfl,hJx3⟩)
          · gi_wp2
            have hkd : (k : Int) < (ln : Int) + 1:=by omega
            refine ⟨⟨.int .i64 j,.int .i64 ((j : Int) + 1),.bool true,.int .i64 j,.func (.yield l) #[] #[],.int .i64 k,.int .i64 j,.int .i64 ((j : Int) + 1),.agg #[.int .i64 k,.int .i64 ((j : Int) + 1)],.bool true,.bool false,.int .i64 ((j : Int) + 1),⟨j + 1,by omega,by simp,by rw [← Nat.add_assoc,uptoP_succ]; exact hJ3,hnx2.trans hk3⟩,by simp [hkd]⟩,?_⟩
            simp [intOf]; omega
          · gi_wp2
            refine bodyPost_ret (results_none rfl _ _ _) rfl ?_
            exact ⟨⟨_,rfl⟩,.inr ⟨_,trivial,hJx3⟩⟩
        · obtain rfl : j = wd:=by omega
          gi_wp2
          exact ⟨⟨k + 1,by omega,by simp,by rw [Nat.add_mul,Nat.one_mul]; exact hJ2,hnx2⟩,by simp [intOf]; omega⟩
    · obtain rfl : k = ln + 1:=by omega
      gi_wp2
      go_end0
      exact ⟨⟨_,rfl⟩,.inl ⟨_,rfl,hJs⟩⟩
theorem places_in (F : Fence) (n : Nat) (h5 : F.fn 88) (hro : F.round = none) (cs : Array Value) (w : World) :
    CallsIn F n Tryz.prog 88 #[.agg cs] w fun e w' => e = .returned (.func (.func 116) #[] #[.pointer (some ⟨w.heap.size,0,none⟩)]) ∧ w' = w.alloc (.cells cs 27):=by
  refine callsIn_of_wp Tryz.func88 rfl h5 ?_ hro
  simp only [Tryz.ntmps88,List.size_toArray,List.length_cons,List.length_nil,Nat.reduceAdd,Nat.reduceSub,Array.replicate_succ,Array.replicate_zero,List.push_toArray,List.append_toArray,List.nil_append,List.cons_append]
  gi_wp2
  go_ret
  exact ⟨rfl,rfl⟩
theorem places_stops (F : Fence) (n : Nat) (h6 : F.fn 116) (hro : F.round = none) (hn : 1 ≤ n) (Bs ln wd : Nat) (hln : ln ≤ 40) (hwd : wd ≤ 12) (w : World) (hBs : Bs < w.heap.size)
    (hc0 : w.cell? ⟨Bs,0,none⟩ = some (.int .i64 ln)) (hc1 : w.cell? ⟨Bs,1,none⟩ = some (.int .i64 wd)) :
    SeqStopsK F n Tryz.prog 116 #[.pointer (some ⟨Bs,0,none⟩)] encP (Kb Bs) (fun ys => ys = uptoP wd ((ln + 1) * wd)) (fun _ => True) ((ln + 1) * wd) w:=fun l J Jx W hW _ _ hY h0 =>
  places1_in F n h6 hro hn l Bs ln wd hln hwd J Jx hY W ((hW.cell (p:=⟨Bs,0,none⟩) hBs).trans hc0) ((hW.cell (p:=⟨Bs,1,none⟩) hBs).trans hc1) h0
def keyV (x : Pl) : Value:=.agg #[.int .i64 x.1.val,.int .i64 (x.2.val + 1)]
theorem laidOut : laidOutB Tryz.prog = true:=by kernel_rfl
theorem keyed29 : Maps.Keyed Tryz.prog 42:=Maps.Keyed.of_law (deep_law_laid laidOut (m:=2) (by omega) (of_decide_eq_true (by kernel_rfl)) (by kernel_rfl) (by kernel_rfl))
theorem keyOf_keyV (x : Pl) : ∃ l,keyOf Tryz.prog 42 (keyV x) = some l:=by
  have h1 : Tryz.prog.keyType 42 = true:=by kernel_rfl
  have h2 : Tryz.prog.cellsOf 42 = 2:=by kernel_rfl
  have h4 : Tryz.prog.cellsOf 3 = 1:=by kernel_rfl
  have h3 : (keyV x).formed Tryz.prog 42 = true:=by simp [keyV,Value.formed,Tryz.underlying42,h2]
  have w1 : (Lit.int .i64 (x.1.val : Int)).wf = true:=by
    have:=x.1.isLt
    have h:=wrap64_wf (x.1.val : Int)
    rwa [IntWalk.wrap64_in _ (by omega)] at h
  have w2 : (Lit.int .i64 ((x.2.val : Int) + 1)).wf = true:=by
    have:=x.2.isLt
    have h:=wrap64_wf ((x.2.val : Int) + 1)
    rwa [IntWalk.wrap64_in _ (by omega)] at h
  obtain ⟨n,hn⟩ : ∃ n,Tryz.prog.types.size = n + 1:=⟨Tryz.prog.types.size - 1,by kernel_rfl⟩
  unfold keyOf
  rw [Tryz.underlying42]
  simp only [h1,h3,Bool.and_self,if_true,hn,Program.keyLits,Tryz.underlying42,h2,h4]
  simp [keyV,Value.cells,Program.keyLits,Tryz.underlying3,h4,w1,w2]
end Go.Proofs.Sight
namespace Go.Proofs.Sight
open Go Go.RX Go.Proofs Go.RowKit Go.Shelf
attribute [local go_sem] Oper.semAt_some
set_option maxRecDepth 100000
theorem keyV_inj {x y : Pl} (h : keyV x = keyV y) : x = y:=by
  obtain ⟨⟨a,ha⟩,⟨b,hb⟩⟩:=x
  obtain ⟨⟨c,hc⟩,⟨d,hd⟩⟩:=y
  simp only [keyV,Value.agg.injEq,Array.mk.injEq,List.cons.injEq,Value.int.injEq,true_and,and_true] at h
  obtain ⟨h1,h2⟩:=h
  have e1 : a = c:=by omega
  have e2 : b = d:=by omega
  subst e1; subst e2; rfl
def MapIs (W : World) (r : Nat) (l : List Pl) : Prop:=∃ es clk,W.heap[r]? = some (.map es clk) ∧ es.toList.map (fun e => (e.key,e.val)) = l.map (fun x => (keyV x,.agg #[]))
def ins (l : List Pl) (x : Pl) : List Pl:=if x ∈ l then l else l ++ [x]
theorem MapIs.keys {es : Array MapEntry} {l : List Pl} (h : es.toList.map (fun e => (e.key,e.val)) = l.map (fun x => (keyV x,Value.agg #[]))) : ∀ e ∈ es.toList,∃ x ∈ l,e.key = keyV x ∧ e.val = .agg #[]:=by
  intro e he
  have : (e.key,e.val) ∈ l.map (fun x => (keyV x,Value.agg #[])):=by rw [← h]; exact List.mem_map.2 ⟨e,he,rfl⟩
  obtain ⟨x,hx,e2⟩:=List.mem_map.1 this
  simp only [Prod.mk.injEq] at e2
  exact ⟨x,hx,e2.1.symm,e2.2.symm⟩
theorem MapIs.update {W : World} {r : Nat} {l : List Pl} (h : MapIs W r l) (x : Pl) :
    ∃ o,(Instr.mapUpdate 94 (.map (some r)) (keyV x) (.agg #[])).run Tryz.prog W = .ok () (W.putObj r o) ∧ MapIs (W.putObj r o) r (ins l x) ∧ o.isCells = false:=by
  obtain ⟨es,clk,hm,hk⟩:=h
  obtain ⟨lx,hx⟩:=keyOf_keyV x
  have hlt : r < W.heap.size:=(Array.getElem?_eq_some_iff.1 hm).1
  have hes : ∀ e ∈ es.toList,∃ l,keyOf Tryz.prog 42 e.key = some l:=by
    intro e he
    obtain ⟨y,_,e1,_⟩:=MapIs.keys hk e he
    rw [e1]; exact keyOf_keyV y
  have hset : ∀ o,(setObj r o).run Tryz.prog W = .ok () (W.putObj r o):=fun o => MapKept.run_setObj_map (P:=Tryz.prog) o hm
  rcases keyed29.find W hx es.toList hes with ⟨h1,h2⟩ | ⟨j,e0,h1,h2,h3⟩
  · refine ⟨.map (es.push ⟨keyV x,.agg #[],clk⟩) (clk + 1),?_,⟨_,_,World.putObj_heap_same hlt,?_⟩,rfl⟩
    · simp [Instr.mapUpdate,run_underlying Tryz.underlying94,MapKept.run_getObj_map hm,keyed29.check W false hx,h1,hset,Result.andThen]
    · have hn : x ∉ l:=by
        intro hxl
        have : (keyV x,Value.agg #[]) ∈ es.toList.map (fun e => (e.key,e.val)):=by rw [hk]; exact List.mem_map.2 ⟨x,hxl,rfl⟩
        obtain ⟨e,he,e1⟩:=List.mem_map.1 this
        simp only [Prod.mk.injEq] at e1
        exact h2 e he e1.1
      rw [ins,if_neg hn,Array.toList_push,List.map_append,List.map_append,hk]
      simp
  · have hxl : x ∈ l:=by
      obtain ⟨y,hy,e1,_⟩:=MapIs.keys hk e0 (List.mem_of_getElem? h2)
      rw [h3] at e1
      rw [keyV_inj e1]; exact hy
    have h2' : es[j]? = some e0:=by simpa using h2
    have hst:=keyed29.stays W hx
    refine ⟨.map (es.modify j fun e => { e with key:=keyV x,val:=.agg #[] }) clk,?_,⟨_,_,World.putObj_heap_same hlt,?_⟩,rfl⟩
    · simp [Instr.mapUpdate,run_underlying Tryz.underlying94,MapKept.run_getObj_map hm,keyed29.check W false hx,h1,h2',h3,hst,hset,Result.andThen]
    · rw [ins,if_pos hxl,← hk]
      have hv : e0.val = .agg #[]:=by
        obtain ⟨y,hy,_,e2⟩:=MapIs.keys hk e0 (List.mem_of_getElem? h2)
        exact e2
      apply List.ext_getElem?
      intro i
      simp only [List.getElem?_map,Array.getElem?_toList,Array.getElem?_modify]
      by_cases e : j = i
      · subst e; rw [if_pos rfl,h2']; simp [h3,hv]
      · rw [if_neg e]
theorem MapIs.look {W : World} {r : Nat} {l : List Pl} (h : MapIs W r l) (x : Pl) :
    (Instr.lookup 94 (.map (some r)) (keyV x) true).run Tryz.prog W = .ok (.tuple #[.agg #[],.bool (decide (x ∈ l))]) W:=by
  obtain ⟨es,clk,hm,hk⟩:=h
  obtain ⟨lx,hx⟩:=keyOf_keyV x
  have hes : ∀ e ∈ es.toList,∃ l,keyOf Tryz.prog 42 e.key = some l:=by
    intro e he
    obtain ⟨y,_,e1,_⟩:=MapIs.keys hk e he
    rw [e1]; exact keyOf_keyV y
  have hz : (zeroValue 132).run Tryz.prog W = .ok (.agg #[]) W:=by kernel_rfl
  rcases keyed29.find W hx es.toList hes with ⟨h1,h2⟩ | ⟨j,e0,h1,h2,h3⟩
  · have hn : x ∉ l:=by
      intro hxl
      have : (keyV x,Value.agg #[]) ∈ es.toList.map (fun e => (e.key,e.val)):=by rw [hk]; exact List.mem_map.2 ⟨x,hxl,rfl⟩
      obtain ⟨e,he,e1⟩:=List.mem_map.1 this
      simp only [Prod.mk.injEq] at e1
      exact h2 e he e1.1
    simp [Instr.lookup,run_underlying Tryz.underlying94,MapKept.run_getObj_map hm,keyed29.check W _ hx,h1,hz,hn,Result.andThen]
  · have hxl : x ∈ l:=by
      obtain ⟨y,hy,e1,_⟩:=MapIs.keys hk e0 (List.mem_of_getElem? h2)
      rw [h3] at e1
      rw [keyV_inj e1]; exact hy
    have hv : e0.val = .agg #[]:=by
      obtain ⟨y,hy,_,e2⟩:=MapIs.keys hk e0 (List.mem_of_getElem? h2)
      exact e2
    simp [Instr.lookup,run_underlying Tryz.underlying94,MapKept.run_getObj_map hm,keyed29.check W _ hx,h1,hv,hxl,Result.andThen]
end Go.Proofs.Sight
namespace Go.Proofs.Sight
open Go Go.RX Go.Proofs Go.RowKit Go.Shelf
attribute [local go_sem] Oper.semAt_some
set_option maxRecDepth 100000
theorem RepS.agg {I : Nat → Prop} {w : World} {v : Value} {xs : List SV} (h : RepS I w v (.agg xs)) : ∃ cs : List Value,v = .agg cs.toArray ∧ cs.length = xs.length ∧ (∀ (j : Nat) (u : Value) (x : SV),cs[j]? = some u → xs[j]? = some x → RepS I w u x):=by
  have h0:=h (fun _ => none)
  cases h0 with
  | @agg cs xs hl hm h1 =>
    refine ⟨cs.toList,by simp,by simpa using hl,fun j u x hu hx Y => ?_⟩
    exact (hm j u x (by simpa using hu) hx).anyY Y
theorem RepS.rep {I : Nat → Prop} {w : World} {v : Value} {x : DV} (h : RepS I w v (.d x)) : Rep I w v x:=mt_d (h (fun _ => none))
theorem RepS.of {I : Nat → Prop} {w : World} {v : Value} {x : DV} (h : Rep I w v x) : RepS I w v (.d x):=fun _ => .d h
inductive Fits (I : Nat → Prop) (w : World) : List Value → List DV → Prop
  | nil : Fits I w [] []
  | cons {v x vs xs} (h : Rep I w v x) (t : Fits I w vs xs) : Fits I w (v :: vs) (x :: xs)
theorem Fits.at_ {I : Nat → Prop} {w : World} : ∀ {vs : List Value} {xs : List DV},Fits I w vs xs → vs.length = xs.length ∧ ∀ (j : Nat) (u : Value) (x : DV),vs[j]? = some u → xs[j]? = some x → Rep I w u x
  | _,_,.nil => ⟨rfl,fun j u x h => by simp at h⟩
  | _,_,.cons h t => by
    obtain ⟨h1,h2⟩:=t.at_
    refine ⟨by simp [h1],fun j u x hu hx => ?_⟩
    cases j with
    | zero => simp at hu hx; subst hu; subst hx; exact h
    | succ j => exact h2 j u x (by simpa using hu) (by simpa using hx)
theorem Fits.mono {I I' : Nat → Prop} {w w' : World} (hI : ∀ b,I b → I' b) (hw : ∀ b,I b → w'.heap[b]? = w.heap[b]?) : ∀ {vs : List Value} {xs : List DV},Fits I w vs xs → Fits I' w' vs xs
  | _,_,.nil => .nil
  | _,_,.cons h t => .cons (h.mono hI hw) (t.mono hI hw)
theorem Fits.append {I : Nat → Prop} {w : World} : ∀ {vs vs' : List Value} {xs xs' : List DV},Fits I w vs xs → Fits I w vs' xs' → Fits I w (vs ++ vs') (xs ++ xs')
  | _,_,_,_,.nil,h => h
  | _,_,_,_,.cons h t,h' => .cons h (t.append h')
theorem RepS.fits {I : Nat → Prop} {w : World} {v : Value} {xs : List DV} (h : RepS I w v (.agg (xs.map .d))) : ∃ cs : List Value,v = .agg cs.toArray ∧ Fits I w cs xs:=by
  obtain ⟨cs,h1,h2,h3⟩:=RepS.agg h
  refine ⟨cs,h1,?_⟩
  clear h h1
  induction xs generalizing cs with
  | nil => cases cs with
    | nil => exact .nil
    | cons c cs => simp at h2
  | cons x xs ih => cases cs with
    | nil => simp at h2
    | cons c cs => exact .cons (RepS.rep (h3 0 c (.d x) rfl rfl)) (ih cs (by simpa using h2) (fun j u y hu hy => h3 (j + 1) u y (by simpa using hu) (by simpa using hy)))
theorem Fits.reps {I : Nat → Prop} {w : World} {cs : List Value} {xs : List DV} (h : Fits I w cs xs) : RepS I w (.agg cs.toArray) (.agg (xs.map .d)):=by
  intro Y
  obtain ⟨h1,h2⟩:=h.at_
  refine .agg (by simp [h1]) (fun j u x hu hx => ?_) (fun u hu => ?_)
  · simp only [List.getElem?_map,Option.map_eq_some_iff] at hx
    obtain ⟨y,hy,rfl⟩:=hx
    exact .d (h2 j u y (by simpa using hu) hy)
  · obtain ⟨j,hj⟩:=List.getElem?_of_mem (by simpa using hu : u ∈ cs)
    have hlt : j < xs.length:=by rw [← h1]; exact (List.getElem?_eq_some_iff.1 hj).1
    exact (h2 j u _ hj (List.getElem?_eq_getElem hlt)).one
theorem al_new {W : World} (o : Obj) {n : Nat} (h : W.heap.size = n) : (W.alloc o).heap[n]? = some o:=by subst h; exact World.alloc_heap_new W o
theorem al_old {W : World} {o' : Obj} {k : Nat} (o : Obj) (h : W.heap[k]? = some o') : (W.alloc o).heap[k]? = some o':=(Below.heap_alloc W o k (Array.getElem?_eq_some_iff.1 h).1).trans h
theorem al_sz {W : World} {n : Nat} (o : Obj) (h : W.heap.size = n) : (W.alloc o).heap.size = n + 1:=by rw [World.size_alloc,h]
def KeptC (w W : World) : Prop:=∀ (k : Nat) (o : Obj),w.heap[k]? = some o → o.isCells = true → W.heap[k]? = some o
theorem KeptC.refl (w : World) : KeptC w w:=fun _ _ h _ => h
theorem KeptC.trans {a b c : World} (h : KeptC a b) (k : KeptC b c) : KeptC a c:=fun i o hi ho => k i o (h i o hi ho) ho
theorem KeptC.below {a b : World} (h : Below a.heap.size a b) : KeptC a b:=fun k o hk _ => (h.block k (Array.getElem?_eq_some_iff.1 hk).1).trans hk
theorem KeptC.put {W : World} {r : Nat} {o o' : Obj} (h : W.heap[r]? = some o) (ho : o.isCells = false) : KeptC W (W.putObj r o'):=fun k o'' hk hc => by
  by_cases e : k = r
  · subst e; rw [h] at hk; cases hk; rw [ho] at hc; cases hc
  · exact (World.putObj_heap_other e).trans hk
theorem KeptC.own {w : World} {β : Type} (n : Nat) : OwnFrom n (fun (_ : β) W => KeptC w W):=fun _ A B row hs hg hr k o hk hc => by
  have hA:=hs k o hk hc
  refine (hg.block k (Array.getElem?_eq_some_iff.1 hA).1 (fun e => ?_)).trans hA
  obtain ⟨_,o2,h2,h3⟩:=hr k e.symm
  rw [hA] at h2; cases h2; rw [hc] at h3; cases h3
theorem cellAt {W : World} {B : Nat} {cs : Array Value} {T : TypeId} (h : W.heap[B]? = some (.cells cs T)) (j : Nat) : W.cell? ⟨B,j,none⟩ = cs[j]?:=by unfold World.cell?; rw [h]; rfl
abbrev mpD (l : List Pl) : DV:=.mp l.length 2 (fun i => plaD ((l.getD i default).p))
def seenF (q : Pl → Bool) (l : List Pl) : List Pl:=(l.filter q).foldl ins []
theorem seenF_snoc (q : Pl → Bool) (l : List Pl) (x : Pl) : seenF q (l ++ [x]) = if q x = true then ins (seenF q l) x else seenF q l:=by
  unfold seenF
  rw [List.filter_append]
  cases h : q x <;> simp [h]
def Cells (w W : World) : Prop:=∀ (a : Addr) (v : Value),w.cell? a = some v → W.cell? a = some v
theorem range2 (f : Nat → Value) : Array.map f (Array.range 2) = #[f 0,f 1]:=by
  have : Array.range 2 = #[0,1]:=by decide
  rw [this]; simp
theorem MapIs.rep {I : Nat → Prop} {W : World} {r : Nat} {l : List Pl} (h : MapIs W r l) (hI : I r) : Rep I W (.map (some r)) (mpD l):=by
  obtain ⟨es,clk,h1,h2⟩:=h
  have hn : es.size = l.length:=by
    have:=congrArg List.length h2
    simpa using this
  refine .mp es clk (fun i j => if j = 0 then .int .i64 (l.getD i default).1.val else .int .i64 ((l.getD i default).2.val + 1)) hI h1 hn (fun i e he => ?_) (fun i j hi hj => ?_)
  · have hi : i < l.length:=by rw [← hn]; exact (Array.getElem?_eq_some_iff.1 he).1
    have:=congrArg (fun z => z[i]?) h2
    simp only [List.getElem?_map,Array.getElem?_toList,he,Option.map_some,List.getElem?_eq_getElem hi,Option.some.injEq,Prod.mk.injEq] at this
    rw [this.1,this.2]
    refine ⟨?_,rfl⟩
    have e2 : l.getD i default = l[i]:=by simp [List.getD_eq_getElem?_getD,hi]
    simp only [keyV,e2,range2]
    rfl
  · match j,hj with
    | 0,_ => exact .int
    | 1,_ => exact .int
theorem MapIs.of_rep {I : Nat → Prop} {W : World} {v : Value} {l : List Pl} (h : Rep I W v (mpD l)) : ∃ r,v = .map (some r) ∧ I r ∧ MapIs W r l:=by
  cases h with
  | mp es clk us hI hm hn hk hrep =>
    refine ⟨_,rfl,hI,es,clk,hm,?_⟩
    apply List.ext_getElem?
    intro i
    simp only [List.getElem?_map,Array.getElem?_toList]
    by_cases hi : i < l.length
    · have hi' : i < es.size:=by omega
      rw [Array.getElem?_eq_getElem hi',List.getElem?_eq_getElem hi]
      obtain ⟨k1,k2⟩:=hk i _ (Array.getElem?_eq_getElem hi')
      have e2 : l.getD i default = l[i]:=by simp [List.getD_eq_getElem?_getD,hi]
      have r0:=hrep i 0 hi (by omega)
      have r1:=hrep i 1 hi (by omega)
      simp only [e2,plaD,Pl.p] at r0 r1
      generalize hu0 : us i 0 = x0 at r0
      generalize hu1 : us i 1 = x1 at r1
      cases r0; cases r1
      simp only [Option.map_some,k1,k2,Option.some.injEq,Prod.mk.injEq,and_true,keyV]
      rw [range2,hu0,hu1]
    · rw [Array.getElem?_eq_none (by omega),List.getElem?_eq_none (by omega)]; rfl
def streetDs (s : Street) : List DV:=[iD s.len,iD s.wid,iD s.el,iD s.eh,iD s.ll,iD s.lh,slD 2 boaD s.bs,slD 5 bloD s.ks]
def boardDs (b : Board) : List DV:=[iD b.at_,slD 4 letD b.ls]
theorem street_vals {I : Nat → Prop} {w : World} {v : Value} {s : Street} (h : RepS I w v s.sv) : ∃ c d e f v6 v7,v = .agg #[.int .i64 s.len,.int .i64 s.wid,.int .i64 c,.int .i64 d,.int .i64 e,.int .i64 f,v6,v7] ∧
    Fits I w [.int .i64 s.len,.int .i64 s.wid,.int .i64 c,.int .i64 d,.int .i64 e,.int .i64 f,v6,v7] (streetDs s):=by
  obtain ⟨cs,rfl,hf⟩:=RepS.fits (xs:=streetDs s) h
  have hf':=hf
  unfold streetDs at hf
  match cs,hf with
  | _,.cons h0 (.cons h1 (.cons h2 (.cons h3 (.cons h4 (.cons h5 (.cons h6 (.cons h7 .nil))))))) =>
    cases h0; cases h1; cases h2; cases h3; cases h4; cases h5
    exact ⟨_,_,_,_,_,_,rfl,hf'⟩
theorem board_vals {I : Nat → Prop} {w : World} {v : Value} {b : Board} (h : RepS I w v b.sv) : ∃ v1,v = .agg #[.int .i64 b.at_,v1] ∧ Fits I w [.int .i64 b.at_,v1] (boardDs b):=by
  obtain ⟨cs,rfl,hf⟩:=RepS.fits (xs:=boardDs b) h
  have hf':=hf
  unfold boardDs at hf
  match cs,hf with
  | _,.cons h0 (.cons h1 .nil) =>
    cases h0
    exact ⟨_,rfl,hf'⟩
set_option maxHeartbeats 4000000 in
theorem c92 (s : Street) (b : Board) (f : Nat) (cc : Nat → DV) (q : Pl → Bool) (ln wd : Nat) (hl : s.len = ln) (hw : s.wid = wd) (hln : ln ≤ 40) (hwd : wd ≤ 12)
    (hf : ∀ x : Pl,Ctr Tryz.prog f [(Look.mk s b x.p).sv] (bS (q x))) : Ctr Tryz.prog 50 [s.sv,b.sv,.d (.clo f 0 cc)] (.d (mpD (seenF q (uptoP wd ((ln + 1) * wd))))):=by
  refine ⟨⟨Tryz.f50,Tryz.func50,rfl,rfl⟩,fun I w vs hG hI hsz hrep => ?_⟩
  obtain ⟨v0,v1,v2,rfl⟩ : ∃ v0 v1 v2,vs = #[v0,v1,v2]:=by
    obtain ⟨l⟩:=vs
    match l,hsz with
    | [a,b,c],_ => exact ⟨a,b,c,rfl⟩
  obtain ⟨sc,sd,se,sf,v6,v7,rfl,hs⟩:=street_vals (hrep 0 v0 _ rfl rfl)
  obtain ⟨u1,rfl,hb⟩:=board_vals (hrep 1 v1 _ rfl rfl)
  have h2:=RepS.rep (hrep 2 v2 _ rfl rfl)
  obtain ⟨us,rfl,hus⟩ : ∃ us : Array Value,v2 = .func (.func f) #[] us ∧ us.size = 0:=by
    cases h2 with
    | clo hl _ => exact ⟨_,rfl,hl⟩
  obtain rfl : us = #[]:=Array.eq_empty_of_size_eq_zero hus
  rw [hl,hw] at hs ⊢
  clear h2 hus hrep hsz
  refine (callsIn_wide (n:=5)).1 ?_
  refine callsIn_of_wp_marks Tryz.func50 rfl trivial ?_ rfl
  simp only [Tryz.ntmps50,List.size_toArray,List.length_cons,List.length_nil,Nat.reduceAdd,Nat.reduceSub,Array.replicate_succ,Array.replicate_zero,List.push_toArray,List.append_toArray,List.nil_append,List.cons_append]
  have hmm:=@run_makeMap Tryz.prog
  gi_wp2_with (refine ⟨trivial,?_⟩; gi_at_call 88; refine (places_in Fence.wide 4 trivial rfl _ _).mono ?_; rintro e w' ⟨rfl,rfl⟩)
  obtain ⟨B,hB⟩ : ∃ B,w.heap.size = B:=⟨_,rfl⟩
  obtain ⟨S8,hS8⟩ : ∃ S8 : Array Value,#[Value.int IntKind.i64 ↑ln,Value.int IntKind.i64 ↑wd,Value.int IntKind.i64 sc,Value.int IntKind.i64 sd,Value.int IntKind.i64 se,Value.int IntKind.i64 sf,v6,v7] = S8:=⟨_,rfl⟩
  obtain ⟨W0,hW0⟩ : ∃ W0,(((((w.alloc (.cells S8 27)).alloc (.cells #[.int .i64 b.at_,u1] 38)).alloc (.cells #[.func (.func f) #[] #[]] 96)).alloc (.map #[] 0)).alloc (.cells #[.map (some (B + 1 + 1 + 1))] 94)).alloc (.cells S8 27) = W0:=⟨_,rfl⟩
  have z0 : W0.heap.size = B + 1 + 1 + 1 + 1 + 1 + 1:=by rw [← hW0]; exact al_sz _ (al_sz _ (al_sz _ (al_sz _ (al_sz _ (al_sz _ hB)))))
  have k0 : W0.heap[B]? = some (.cells S8 27):=by rw [← hW0]; exact (al_old _ (al_old _ (al_old _ (al_old _ (al_old _ (al_new _ hB))))))
  have k1 : W0.heap[B + 1]? = some (.cells #[.int .i64 b.at_,u1] 38):=by rw [← hW0]; exact (al_old _ (al_old _ (al_old _ (al_old _ (al_new _ (al_sz _ hB))))))
  have k2 : W0.heap[B + 1 + 1]? = some (.cells #[.func (.func f) #[] #[]] 96):=by rw [← hW0]; exact (al_old _ (al_old _ (al_old _ (al_new _ (al_sz _ (al_sz _ hB))))))
  have k3 : W0.heap[B + 1 + 1 + 1]? = some (.map #[] 0):=by rw [← hW0]; exact (al_old _ (al_old _ (al_new _ (al_sz _ (al_sz _ (al_sz _ hB))))))
  have k4 : W0.heap[B + 1 + 1 + 1 + 1]? = some (.cells #[.map (some (B + 1 + 1 + 1))] 94):=by rw [← hW0]; exact (al_old _ (al_new _ (al_sz _ (al_sz _ (al_sz _ (al_sz _ hB))))))
  have k5 : W0.heap[B + 1 + 1 + 1 + 1 + 1]? = some (.cells S8 27):=by rw [← hW0]; exact (al_new _ (al_sz _ (al_sz _ (al_sz _ (al_sz _ (al_sz _ hB))))))
  have hBel : Below w.heap.size w W0:=by
    rw [← hW0]
    exact ((((((Below.refl _ w).alloc (Nat.le_refl _) _).alloc (by simp) _).alloc (by simp; omega) _).alloc (by simp; omega) _).alloc (by simp; omega) _).alloc (by simp; omega) _
  rw [hS8,hB,hW0]
  have c0 : W0.cell? ⟨B + 1 + 1 + 1 + 1 + 1,0,none⟩ = some (.int .i64 ln):=by unfold World.cell?; rw [k5,← hS8]; rfl
  have c1 : W0.cell? ⟨B + 1 + 1 + 1 + 1 + 1,1,none⟩ = some (.int .i64 wd):=by unfold World.cell?; rw [k5,← hS8]; rfl
  refine wpIn_rangeFunc_ownH rfl (by omega) (gf:=116) (lb:=#[.pointer (some ⟨B + 1 + 1 + 1 + 1 + 1,0,none⟩)]) rfl trivial (enters_of Tryz.func116 (by kernel_rfl) rfl)
    (places_stops Fence.wide (5 - 1) trivial rfl (by omega) (B + 1 + 1 + 1 + 1 + 1) ln wd hln hwd W0 (by omega) c0 c1) Kb.trans (Kb.b (by omega)) (Below.refl _ _) (fun _ => rfl)
    (fun pre W => KeptC W0 W ∧ MapIs W (B + 1 + 1 + 1) (seenF q pre) ∧ Below B w W)
    (fun _ _ _ => False)
    (OwnFrom.and (KeptC.own _) (OwnFrom.and ?ownm ?ownb))
    (fun _ _ _ _ _ hs _ _ => hs)
    ⟨KeptC.refl _,?m0,by rw [← hB]; exact hBel⟩
    (fun x a' W => ∃ Bx,W0.heap.size ≤ Bx ∧ W.heap[Bx]? = some (.cells #[.int .i64 x.1.val,.int .i64 (x.2.val + 1)] 42) ∧
      a' = { tmps:=#[Value.agg S8,Value.agg #[Value.int IntKind.i64 b.at_,u1],Value.func (Fn.func f) #[] #[],
          Value.pointer (some { block:=B,off:=0 }),Value.pointer (some { block:=B + 1,off:=0 }),
          Value.pointer (some { block:=B + 1 + 1,off:=0 }),Value.map none,
          Value.pointer (some { block:=B + 1 + 1 + 1 + 1,off:=0 }),Value.pointer (some { block:=Bx,off:=0 }),Value.map (some (B + 1 + 1 + 1)),
          Value.agg S8,
          Value.func (Fn.func 116) #[] #[Value.pointer (some { block:=B + 1 + 1 + 1 + 1 + 1,off:=0 })],.agg #[.int .i64 x.1.val,.int .i64 (x.2.val + 1)],
          undef,undef,undef,undef,undef,undef,undef,undef,undef,undef],defers:=[] })
    ?hAx ?assign ?body ?done ?stop
  case ownm =>
    intro pre A C row hs hg hr
    obtain ⟨es,clk,h1,h2⟩:=hs
    refine ⟨es,clk,(hg.block _ (Array.getElem?_eq_some_iff.1 h1).1 (fun e => ?_)).trans h1,h2⟩
    have:=(hr _ e.symm).1
    omega
  case ownb => rw [← hB]; exact ownFrom_below (Nat.le_refl _) (by omega)
  case m0 => exact ⟨_,_,k3,rfl⟩
  case hAx =>
    intro x a' _ A C row hs hg hr
    obtain ⟨Bx,h1,h2,h3⟩:=hs
    refine ⟨Bx,h1,(hg.block _ (Array.getElem?_eq_some_iff.1 h2).1 (fun e => ?_)).trans h2,h3⟩
    obtain ⟨_,o2,h4,h5⟩:=hr _ e.symm
    rw [h2] at h4; cases h4; cases h5
  case assign =>
    intro l pre x W K hI hK
    dsimp only [encP]
    gi_wp2
    obtain ⟨hC,hM,hBe⟩:=hI
    have hsz : W0.heap.size ≤ W.heap.size:=by
      have:=(Array.getElem?_eq_some_iff.1 (hC _ _ k5 rfl)).1
      omega
    refine hK _ _ ⟨by simp,fun k o _ hk _ => al_old _ hk⟩ (Below.heap_alloc W _ _ (by omega)) ⟨hC.trans (fun k o hk _ => al_old _ hk),?_,hBe.alloc (by rw [← hB]; exact hBe.size) _⟩ ⟨W.heap.size,hsz,al_new _ rfl,rfl⟩
    obtain ⟨es,clk,h1,h2⟩:=hM
    exact ⟨es,clk,al_old _ h1,h2⟩
  case body =>
    rintro l pre x a' W hl ⟨r,hr⟩ ⟨hC,hM,hBe⟩ ⟨Bx,hBx,hX,rfl⟩ hlt
    have n1 : 1 ≤ 5 - 1 - 1:=by omega
    subst hS8
    have g0:=cellAt (hC _ _ k0 rfl)
    have g00:=g0 0
    have g01:=g0 1
    have g02:=g0 2
    have g03:=g0 3
    have g04:=g0 4
    have g05:=g0 5
    have g06:=g0 6
    have g07:=g0 7
    have g1:=cellAt (hC _ _ k1 rfl)
    have g10:=g1 0
    have g11:=g1 1
    have g2:=cellAt (hC _ _ k2 rfl) 0
    have g4:=cellAt (hC _ _ k4 rfl) 0
    have gX:=cellAt hX
    have gX0:=gX 0
    have gX1:=gX 1
    clear g0 g1 gX
    simp only [List.getElem?_toArray,List.getElem?_cons_zero,List.getElem?_cons_succ] at g00 g01 g02 g03 g04 g05 g06 g07 g10 g11 g2 g4 gX0 gX1
    gi_wp2
    refine ⟨trivial,?_⟩
    have he : ∀ args w,(callFunc f args).run Tryz.prog w = .ok (.enter f args) w:=by
      obtain ⟨⟨fn,h1,h2,h3⟩,_⟩:=hf x
      cases hbd : fn.body with
      | none => rw [hbd] at h3; cases h3
      | some c => exact enters_of h1 h2 hbd
    rw [he,Oper.uponIn_enter]
    refine ⟨fun h => by simp [Fence.wide] at h,?_⟩
    have hW : ∀ b,I b → W.heap[b]? = w.heap[b]?:=fun k hk => hBe.block k (by rw [← hB]; exact hI k hk)
    have hx : Fits I W [.int .i64 x.1.val,.int .i64 (x.2.val + 1)] [iD x.p.al,iD x.p.ac]:=.cons .int (.cons .int .nil)
    have hargs:=Fits.reps (((hs.mono (fun _ h => h) hW).append (hb.mono (fun _ h => h) hW)).append hx)
    have hcall:=(hf x).2 I W #[_] (Tabs.st _ _ hG (by rw [hB]; exact hBe)) (fun k hk => Nat.lt_of_lt_of_le (hI k hk) hBe.size) rfl (fun j u y hu hy => by
      cases j with
      | zero => simp at hu hy; subst hu; subst hy; exact hargs
      | succ j => simp at hy)
    refine (CallsIn.inRound l (callsIn_wide.2 hcall)).mono ?_
    rintro e W1 ⟨v,rfl,hv,hW1⟩
    obtain rfl : v = .bool (q x):=by
      have:=RepS.rep hv
      cases this; rfl
    have hC1 : KeptC W W1:=KeptC.below hW1
    have gX1':=cellAt (hC1 _ _ hX rfl)
    have gXX0:=gX1' 0
    have gXX1:=gX1' 1
    have g41:=cellAt (hC1 _ _ (hC _ _ k4 rfl) rfl) 0
    clear g00 g01 g02 g03 g04 g05 g06 g07 g10 g11 g2 g4 gX0 gX1 gX1'
    simp only [List.getElem?_toArray,List.getElem?_cons_zero,List.getElem?_cons_succ] at g41 gXX0 gXX1
    have hM1 : MapIs W1 (B + 1 + 1 + 1) (seenF q pre):=by
      obtain ⟨es,clk,h1,h2⟩:=hM
      exact ⟨es,clk,(hW1.block _ (Array.getElem?_eq_some_iff.1 h1).1).trans h1,h2⟩
    obtain ⟨o,hu,hM2,hoc⟩:=hM1.update x
    have hle : W0.heap.size ≤ W.heap.size:=by
      have:=(Array.getElem?_eq_some_iff.1 (hC _ _ k5 rfl)).1
      omega
    cases hq : q x with
    | true =>
      have hu' : (Instr.mapUpdate 94 (.map (some (B + 1 + 1 + 1))) (.agg #[.int .i64 x.1.val,.int .i64 (x.2.val + 1)]) (.agg #[])).run Tryz.prog W1 = .ok () (W1.putObj (B + 1 + 1 + 1) o):=hu
      gi_wp2
      have hput : ∀ k,k ≠ B + 1 + 1 + 1 → (W1.putObj (B + 1 + 1 + 1) o).heap[k]? = W1.heap[k]?:=fun k hk => World.putObj_heap_other hk
      refine ⟨⟨by simp only [World.putObj_size]; exact hW1.size,fun k o' hk ho' _ => ?_⟩,?_,hC.trans (hC1.trans ?_),?_,?_⟩
      · rw [hput k (by omega)]
        exact (hW1.block k (Array.getElem?_eq_some_iff.1 ho').1).trans ho'
      · show (W1.putObj (B + 1 + 1 + 1) o).heap[B + 1 + 1 + 1 + 1 + 1]? = _
        rw [hput _ (by omega)]
        exact hW1.block _ (by omega)
      · obtain ⟨es,clk,h1,_⟩:=hM1
        exact KeptC.put h1 rfl
      · rw [seenF_snoc,hq,if_pos rfl]; exact hM2
      · refine hBe.trans ⟨hW1.os,hW1.tape,hW1.output,by simp only [World.putObj_size]; exact hW1.size,fun k hk => ?_⟩
        rw [hput k (by omega)]
        exact hW1.block k (by omega)
    | false =>
      gi_wp2
      refine ⟨⟨hW1.size,fun k o' hk ho' _ => ?_⟩,?_,hC.trans hC1,?_,?_⟩
      · exact (hW1.block k (Array.getElem?_eq_some_iff.1 ho').1).trans ho'
      · exact hW1.block _ (by omega)
      · rw [seenF_snoc,hq,if_neg (by simp)]; exact hM1
      · exact hBe.trans (hW1.mono (by omega))
  case done =>
    rintro D ys W hD rfl ⟨hC,hM,hBe⟩ hK
    have g4:=cellAt (hC _ _ k4 rfl) 0
    simp only [List.getElem?_toArray,List.getElem?_cons_zero,List.getElem?_cons_succ] at g4
    gi_wp2
    refine ⟨by simp,.inl ⟨_,_,rfl,run_takeDeferred hK,?_⟩⟩
    refine ⟨_,results_tmp rfl _ _ _,?_⟩
    have hput : ∀ k,k ≠ D → (W.putObj D (.deferred none)).heap[k]? = W.heap[k]?:=fun k hk => World.putObj_heap_other hk
    have hM2 : MapIs (W.putObj D (.deferred none)) (B + 1 + 1 + 1) (seenF q (uptoP wd ((ln + 1) * wd))):=by
      obtain ⟨es,clk,h1,h2⟩:=hM
      exact ⟨es,clk,(hput _ (by omega)).trans h1,h2⟩
    have hlt : B + 1 + 1 + 1 < W.heap.size:=by
      obtain ⟨es,clk,h1,h2⟩:=hM
      exact (Array.getElem?_eq_some_iff.1 h1).1
    refine ⟨_,rfl,RepS.of (hM2.rep (.inr ⟨by omega,by simp only [World.putObj_size]; exact hlt⟩)),?_⟩
    rw [hB]
    exact hBe.trans ⟨rfl,rfl,rfl,by simp,fun k hk => hput k (by omega)⟩
  case stop =>
    rintro D c pre W _ _ h _
    exact h.elim
end Go.Proofs.Sight
namespace Go.Proofs.Sight
open Go Go.RX Go.Proofs Go.RowKit Go.Shelf
attribute [local go_sem] Oper.semAt_some
set_option maxRecDepth 100000
def cellsP (l : List Pl) : List Value:=l.flatMap (fun x => [.int .i64 x.1.val,.int .i64 (x.2.val + 1)])
theorem cellsP_snoc (l : List Pl) (x : Pl) : cellsP (l ++ [x]) = cellsP l ++ [.int .i64 x.1.val,.int .i64 (x.2.val + 1)]:=by simp [cellsP]
theorem info29 : (Tryz.prog.info? 42).map (fun i => (i.zero,i.size,i.bytes)) = some (some (.agg #[.int .i64 0,.int .i64 0]),2,16):=by kernel_rfl
def inL (l pre : List Pl) : List Pl:=pre.filter (fun x => decide (x ∈ l))
theorem cell_two_new (w : World) (x y : Value) (t : TypeId) : ∀ j u,[x,y][j]? = some u → (w.alloc (.cells #[x,y] t)).cell? ((⟨w.heap.size,0,none⟩ : Addr).add j) = some u:=by
  intro j u hj
  have h:=cellAt (World.alloc_heap_new w (.cells #[x,y] t)) j
  match j,hj with
  | 0,hj => simp at hj; subst hj; simpa [Addr.add] using h
  | 1,hj => simp at hj; subst hj; simpa [Addr.add] using h
theorem row_other {W : World} {k : Nat} {cs : Array Value} {t e : TypeId} {base size n : Nat} {v : Value} {xs : List Value} (h : W.heap[k]? = some (.cells cs t)) (hte : t ≠ e) (hr : W.ownsRow base e size v n xs) : some k ≠ v.ownBlock:=by
  rcases hr.2 with ⟨rfl,_⟩ | ⟨g,cap,cur,rfl,_,hgb,_⟩
  · simp [Value.ownBlock]
  · intro e'
    obtain rfl : k = g:=by simpa [Value.ownBlock] using e'
    rw [h] at hgb
    simp at hgb
    exact hte hgb.2
theorem cellsP_at : ∀ (l : List Pl) (i j : Nat),i < l.length → j < 2 → (cellsP l)[i * 2 + j]? = some (if j = 0 then .int .i64 (l.getD i default).1.val else .int .i64 ((l.getD i default).2.val + 1))
  | [],i,j,hi,_ => by simp at hi
  | x :: l,0,0,_,_ => rfl
  | x :: l,0,1,_,_ => rfl
  | x :: l,i + 1,j,hi,hj => by
    have h:=cellsP_at l i j (by simpa using hi) hj
    have e : (i + 1) * 2 + j = (i * 2 + j) + 1 + 1:=by omega
    rw [e]
    show (cellsP l)[i * 2 + j]? = _
    rw [h]; simp
  | _,_,j + 2,_,hj => by omega
theorem row_rep {I : Nat → Prop} {W : World} {B : Nat} {v : Value} {l : List Pl} (h : W.ownsRow B 42 2 v l.length (cellsP l)) (hI : ∀ g,B ≤ g → g < W.heap.size → I g) : Rep I W v (slD 2 plaD (l.map Pl.p)):=by
  rcases h.2 with ⟨rfl,h0⟩ | ⟨g,cap,cur,rfl,hb,hg,hn,hc,hs,ht⟩
  · have : l = []:=List.eq_nil_of_length_eq_zero h0
    subst this
    exact .sl0
  · have hlen : (l.map Pl.p).length = l.length:=by simp
    show Rep I W _ (.sl 2 (l.map Pl.p).length _)
    rw [hlen]
    refine .sl (fun i j => if j = 0 then .int .i64 (l.getD i default).1.val else .int .i64 ((l.getD i default).2.val + 1)) (hI _ hb (Array.getElem?_eq_some_iff.1 hg).1) hn hc (fun i j hi hj => ?_) (fun i j hi hj => ?_)
    · rw [cellAt hg,← cellsP_at l i j hi hj,← ht,List.getElem?_take_of_lt (by omega),Nat.zero_add,Array.getElem?_toList]
    · have e : (l.map Pl.p).getD i default = (l.getD i default).p:=by simp [List.getD_eq_getElem?_getD,hi]
      rw [e]
      match j,hj with
      | 0,_ => exact .int
      | 1,_ => exact .int
set_option maxHeartbeats 4000000 in
theorem c94 (s : Street) (l : List Pl) (ln wd : Nat) (hl : s.len = ln) (hw : s.wid = wd) (hln : ln ≤ 40) (hwd : wd ≤ 12) :
    Ctr Tryz.prog 77 [s.sv,.d (mpD l)] (.d (slD 2 plaD ((inL l (uptoP wd ((ln + 1) * wd))).map Pl.p))):=by
  refine ⟨⟨Tryz.f77,Tryz.func77,rfl,rfl⟩,fun I w vs hG hI hsz hrep => ?_⟩
  obtain ⟨v0,v1,rfl⟩ : ∃ v0 v1,vs = #[v0,v1]:=by
    obtain ⟨l⟩:=vs
    match l,hsz with
    | [a,b],_ => exact ⟨a,b,rfl⟩
  obtain ⟨sc,sd,se,sf,v6,v7,rfl,hs⟩:=street_vals (hrep 0 v0 _ rfl rfl)
  obtain ⟨r,rfl,hIr,hM0⟩:=MapIs.of_rep (RepS.rep (hrep 1 v1 _ rfl rfl))
  rw [hl,hw] at hs ⊢
  clear hrep hsz
  obtain ⟨i0,hi,hz0,hz1,hz2⟩:=info_parts info29
  have hr:=hI r hIr
  refine (callsIn_wide (n:=5)).1 ?_
  refine callsIn_of_wp_marks Tryz.func77 rfl trivial ?_ rfl
  simp only [Tryz.ntmps77,List.size_toArray,List.length_cons,List.length_nil,Nat.reduceAdd,Nat.reduceSub,Array.replicate_succ,Array.replicate_zero,List.push_toArray,List.append_toArray,List.nil_append,List.cons_append]
  gi_wp2_with (refine ⟨trivial,?_⟩; gi_at_call 88; refine (places_in Fence.wide 4 trivial rfl _ _).mono ?_; rintro e w' ⟨rfl,rfl⟩)
  obtain ⟨B,hB⟩ : ∃ B,w.heap.size = B:=⟨_,rfl⟩
  obtain ⟨S8,hS8⟩ : ∃ S8 : Array Value,#[Value.int IntKind.i64 ↑ln,Value.int IntKind.i64 ↑wd,Value.int IntKind.i64 sc,Value.int IntKind.i64 sd,Value.int IntKind.i64 se,Value.int IntKind.i64 sf,v6,v7] = S8:=⟨_,rfl⟩
  obtain ⟨W0,hW0⟩ : ∃ W0,(((w.alloc (.cells S8 27)).alloc (.cells #[.map (some r)] 94)).alloc (.cells #[.slice none 0 0] 80)).alloc (.cells S8 27) = W0:=⟨_,rfl⟩
  have z0 : W0.heap.size = B + 1 + 1 + 1 + 1:=by rw [← hW0]; exact al_sz _ (al_sz _ (al_sz _ (al_sz _ hB)))
  have k1 : W0.heap[B + 1]? = some (.cells #[.map (some r)] 94):=by rw [← hW0]; exact al_old _ (al_old _ (al_new _ (al_sz _ hB)))
  have k2 : W0.heap[B + 1 + 1]? = some (.cells #[.slice none 0 0] 80):=by rw [← hW0]; exact al_old _ (al_new _ (al_sz _ (al_sz _ hB)))
  have k3 : W0.heap[B + 1 + 1 + 1]? = some (.cells S8 27):=by rw [← hW0]; exact al_new _ (al_sz _ (al_sz _ (al_sz _ hB)))
  have hBel : Below w.heap.size w W0:=by
    rw [← hW0]
    exact ((((Below.refl _ w).alloc (Nat.le_refl _) _).alloc (by simp) _).alloc (by simp; omega) _).alloc (by simp; omega) _
  rw [hS8,hB,hW0]
  have c0 : W0.cell? ⟨B + 1 + 1 + 1,0,none⟩ = some (.int .i64 ln):=by rw [cellAt k3,← hS8]; rfl
  have c1 : W0.cell? ⟨B + 1 + 1 + 1,1,none⟩ = some (.int .i64 wd):=by rw [cellAt k3,← hS8]; rfl
  refine wpIn_rangeFunc_ownH rfl (by omega) (gf:=116) (lb:=#[.pointer (some ⟨B + 1 + 1 + 1,0,none⟩)]) rfl trivial (enters_of Tryz.func116 (by kernel_rfl) rfl)
    (places_stops Fence.wide (5 - 1) trivial rfl (by omega) (B + 1 + 1 + 1) ln wd hln hwd W0 (by omega) c0 c1) Kb.trans (Kb.b (by omega)) (Below.refl _ _) (fun _ => rfl)
    (fun pre W => ((∃ v,Boxed W (B + 1 + 1) 80 v ∧ W.ownsRow B 42 2 v (inL l pre).length (cellsP (inL l pre)) ∧ True) ∧ (W.heap[B + 1]? = some (.cells #[.map (some r)] 94) ∧ W.heap[B + 1 + 1 + 1]? = some (.cells S8 27))) ∧ Below B w W)
    (fun _ _ _ => False)
    (OwnFrom.and (OwnFrom.and (Own.from (holdsRow_own B (B + 1 + 1) 80 42 2 (fun pre => (inL l pre).length) (fun pre => cellsP (inL l pre)) (fun _ _ => True)) _) ?ownm) ?ownb)
    (fun _ _ _ _ _ hs _ _ => hs)
    ⟨⟨⟨.slice none 0 0,k2,World.ownsRow_nil _ _ _ _,trivial⟩,k1,k3⟩,by rw [← hB]; exact hBel⟩
    (fun x a' W => ∃ Bx,W0.heap.size ≤ Bx ∧ W.heap[Bx]? = some (.cells #[.int .i64 x.1.val,.int .i64 (x.2.val + 1)] 42) ∧
      a' = { tmps:=#[Value.agg S8,.map (some r),Value.pointer (some { block:=B,off:=0 }),Value.pointer (some { block:=B + 1,off:=0 }),.slice none 0 0,
          Value.pointer (some { block:=B + 1 + 1,off:=0 }),Value.pointer (some { block:=Bx,off:=0 }),undef,undef,Value.agg S8,
          Value.func (Fn.func 116) #[] #[Value.pointer (some { block:=B + 1 + 1 + 1,off:=0 })],.agg #[.int .i64 x.1.val,.int .i64 (x.2.val + 1)],
          undef,undef,undef,undef,undef,undef,undef,undef,undef,undef,undef,undef],defers:=[] })
    ?hAx ?assign ?body ?done ?stop
  case ownm =>
    intro pre A C row hs hg hr
    have kk : ∀ (k : Nat) (cs : Array Value) (t : TypeId),A.heap[k]? = some (.cells cs t) → C.heap[k]? = some (.cells cs t):=fun k cs t hA => by
      refine (hg.block k (Array.getElem?_eq_some_iff.1 hA).1 (fun e => ?_)).trans hA
      obtain ⟨_,o2,h2,h3⟩:=hr k e.symm
      rw [hA] at h2; cases h2; cases h3
    exact ⟨kk _ _ _ hs.1,kk _ _ _ hs.2⟩
  case ownb => rw [← hB]; exact ownFrom_below (Nat.le_refl _) (by omega)
  case hAx =>
    intro x a' _ A C row hs hg hr
    obtain ⟨Bx,h1,h2,h3⟩:=hs
    refine ⟨Bx,h1,(hg.block _ (Array.getElem?_eq_some_iff.1 h2).1 (fun e => ?_)).trans h2,h3⟩
    obtain ⟨_,o2,h4,h5⟩:=hr _ e.symm
    rw [h2] at h4; cases h4; cases h5
  case assign =>
    rintro l' pre x W K ⟨⟨⟨v,hv,hrow,_⟩,h1,h3⟩,hBe⟩ hK
    dsimp only [encP]
    gi_wp2
    have hsz : W0.heap.size ≤ W.heap.size:=by
      have:=(Array.getElem?_eq_some_iff.1 h3).1
      omega
    exact hK _ _ ⟨by simp,fun k o _ hk _ => al_old _ hk⟩ (Below.heap_alloc W _ _ (by omega)) ⟨⟨⟨v,hv.alloc _,hrow.alloc _,trivial⟩,al_old _ h1,al_old _ h3⟩,hBe.alloc (by rw [← hB]; exact hBe.size) _⟩ ⟨W.heap.size,hsz,al_new _ rfl,rfl⟩
  case body =>
    rintro l' pre x a' W hl ⟨rr,hrr⟩ ⟨⟨⟨v,hv,hrow,_⟩,h1,h3⟩,hBe⟩ ⟨Bx,hBx,hX,rfl⟩ hlt
    have n1 : 1 ≤ 5 - 1 - 1:=by omega
    have hM : MapIs W r l:=by
      obtain ⟨es,clk,g1,g2⟩:=hM0
      exact ⟨es,clk,(hBe.block r (by omega)).trans g1,g2⟩
    have hlook : (Instr.lookup 94 (.map (some r)) (.agg #[.int .i64 x.1.val,.int .i64 (x.2.val + 1)]) true).run Tryz.prog W = .ok (.tuple #[.agg #[],.bool (decide (x ∈ l))]) W:=hM.look x
    have g1:=cellAt h1 0
    have gX:=cellAt hX
    have gX0:=gX 0
    have gX1:=gX 1
    clear gX
    simp only [List.getElem?_toArray,List.getElem?_cons_zero,List.getElem?_cons_succ] at g1 gX0 gX1
    have hc:=(hv.alloc (.cells #[] 132)).cell
    have gX':=cellAt (al_old (.cells #[] 132) hX)
    have gX0':=gX' 0
    have gX1':=gX' 1
    clear gX'
    simp only [List.getElem?_toArray,List.getElem?_cons_zero,List.getElem?_cons_succ] at gX0' gX1'
    have hsz : W0.heap.size ≤ W.heap.size:=by
      have:=(Array.getElem?_eq_some_iff.1 h3).1
      omega
    have hpl : (inL l pre).length ≤ pre.length:=List.length_filter_le _ _
    have hN : (ln + 1) * wd ≤ 41 * 12:=Nat.mul_le_mul (by omega) hwd
    by_cases hxl : x ∈ l
    · have e1 : inL l (pre ++ [x]) = inL l pre ++ [x]:=by simp [inL,hxl]
      rw [decide_eq_true hxl] at hlook
      have hnew:=cell_two_new (W.alloc (.cells #[] 132)) (.int .i64 x.1.val) (.int .i64 (x.2.val + 1)) 42
      rw [World.size_alloc] at hnew
      have hBW : B ≤ W.heap.size:=by rw [← hB]; exact hBe.size
      gi_wp2_with (gi_at_builtin; refine wpListIn_append_own _ rfl _ _ 80 rfl B 42 i0 (.agg #[.int .i64 0,.int .i64 0]) 2 16 Tryz.underlying80 hi hz0 hz1 hz2 rfl (by decide) _ _ _ rfl ((hrow.alloc _).alloc _) ⟨W.heap.size + 1,0,none⟩ 1 1 [.int .i64 x.1.val,.int .i64 (x.2.val + 1)] rfl rfl hnew (by simp [Value.oneCell']) (by simp only [maxLen]; omega) (by omega) (by simp; omega) ?_; intro v' w1 hown' hgrow _; obtain ⟨g',cap',rfl⟩:=ownsRow_succ hown'; obtain ⟨hv1,hv2,hr2,hk2,hb2⟩:=(hv.alloc _).appended (by decide) (hrow.alloc _) (by simp; omega) (by omega) hown' hgrow; have hc1:=hv1.cell; have hf1:=hv1.frozen)
      have kk : ∀ (k : Nat) (cs : Array Value) (t : TypeId),t ≠ 42 → k ≠ B + 1 + 1 → W.heap[k]? = some (.cells cs t) → (w1.setCell ⟨B + 1 + 1,0,none⟩ (.slice (some ⟨g',0,none⟩) ((inL l pre).length + 1) cap')).heap[k]? = some (.cells cs t):=fun k cs t ht hk hA => by
        rw [Below.heap_setCell _ _ _ k hk]
        refine (hgrow.block k ?_ (row_other hA ht hrow)).trans (al_old _ (al_old _ hA))
        have:=(Array.getElem?_eq_some_iff.1 hA).1
        simp; omega
      refine ⟨((KeepsOthers.alloc W _).trans hk2).from _,?_,⟨⟨_,hv2,?_,trivial⟩,kk _ _ _ (by decide) (by omega) h1,kk _ _ _ (by decide) (by omega) h3⟩,?_⟩
      · exact (kk _ _ _ (by decide) (by omega) h3).trans h3.symm
      · rw [e1,cellsP_snoc,List.length_append]; exact hr2
      · refine hBe.trans (Below.trans ?_ hb2)
        exact (Below.refl B W).alloc hBW _
    · have e1 : inL l (pre ++ [x]) = inL l pre:=by simp [inL,hxl]
      rw [decide_eq_false hxl] at hlook
      gi_wp2
      refine ⟨(KeepsOthers.alloc W _).from _,al_old _ h3 |>.trans h3.symm,⟨⟨v,hv.alloc _,?_,trivial⟩,al_old _ h1,al_old _ h3⟩,?_⟩
      · rw [e1]; exact hrow.alloc _
      · exact hBe.alloc (by rw [← hB]; exact hBe.size) _
  case done =>
    rintro D ys W hD rfl ⟨⟨⟨v,hv,hrow,_⟩,h1,h3⟩,hBe⟩ hK
    have hc:=hv.cell
    gi_wp2
    refine ⟨by simp,.inl ⟨_,_,rfl,run_takeDeferred hK,?_⟩⟩
    refine ⟨_,results_tmp rfl _ _ _,?_⟩
    refine ⟨_,rfl,RepS.of (row_rep (ownsRow_putObj hrow _ hK rfl) (fun g h1 h2 => .inr ⟨by omega,h2⟩)),?_⟩
    rw [hB]
    exact hBe.trans ⟨rfl,rfl,rfl,by simp,fun k hk => World.putObj_heap_other (by omega)⟩
  case stop =>
    rintro D c pre W _ _ h _
    exact h.elim
end Go.Proofs.Sight
namespace Go.Proofs.Sight
open Go Go.RX Go.Proofs
set_option maxRecDepth 10000
def bestN {α : Type} [Inhabited α] (g : α → α → Bool) (l : List α) : Nat → α
  | 0 => default
  | j + 1 => if (decide (j = 0) || g (l.getD j default) (bestN g l j)) = true then l.getD j default else bestN g l j
def bestL {α : Type} [Inhabited α] (g : α → α → Bool) (l : List α) : α:=bestN g l l.length
theorem dec0 (j : Nat) : ((j : Int) == 0) = decide (j = 0):=by by_cases h : j = 0 <;> simp [h]
theorem c93 (l : List Place) (f m : Nat) (c : Nat → DV) (g : Place → Place → Bool) (P : Place → Prop) (hn : l.length < 1000000) (hP : ∀ x ∈ l,P x) (hf : ∀ x y,P x → P y → Ctr Tryz.prog f (x.sv :: y.sv :: take c 0 m) (bS (g x y))) (hPb : ∀ j,0 < j → j ≤ l.length → P (bestN g l j)) :
    Ctr Tryz.prog 83 [.d (slD 2 plaD l),.d (.clo f m c)] (.tup [(bestL g l).sv,bS (decide (0 < l.length))]):=by
  (refine Ctr.mk (fn:=Tryz.f83) rfl rfl rfl rfl rfl Tryz.results83 ?_; dsimp only [args,List.toList_toArray])
  ((first | refine qS rfl rfl ?_ | refine qR rfl rfl ?_); simp only [go_sem,↓dP,↓reduceIte]; with_reducible and_intros; all_goals first | apply qA | exact ⟨⟩ | rfl | (intros; apply qB; first | kernel_rfl | omega) | omega | skip)
  ((first | refine qS rfl rfl ?_ | refine qR rfl rfl ?_); simp only [go_sem,↓dP,↓reduceIte]; with_reducible and_intros; all_goals first | apply qA | exact ⟨⟩ | rfl | (intros; apply qB; first | kernel_rfl | omega) | omega | skip)
  refine Ok.seq ?_
  ((first | refine qS rfl rfl ?_ | refine qR rfl rfl ?_); simp only [go_sem,↓dP,↓reduceIte]; with_reducible and_intros; all_goals first | apply qA | exact ⟨⟩ | rfl | (intros; apply qB; first | kernel_rfl | omega) | omega | skip)
  refine Ok.block ?_
  refine Ok.count l.length (fun j => ⟨[(0,.d (slD 2 plaD l)),(1,.d (.clo f m c)),(4,.p 0 0),(6,.p 1 0),(9,.d (slD 2 plaD l)),(10,iS l.length),(11,iS j)],[{ frz:=false,xs:=[iS 0,iS 0] },{ frz:=false,xs:=[iS (bestN g l j).al,iS (bestN g l j).ac] }],[]⟩) (fun _ => True) ⟨trivial,?_⟩ ?_ ?_
  · (refine Sub.of ([0,1]) ([]) ?_ ?_ ?_ rfl rfl <;> simp only [subB,subB1,subT,subT1,newT,subE,subV,subL,go_sem,↓dP,↓reduceIte] <;> (try (repeat' with_reducible apply And.intro)) <;> (try first | exact DEq.refl _ | refine DEq.int ?_ | refine DEq.bool ?_ | omega))
  · intro j hj _
    ((first | refine qS rfl rfl ?_ | refine qR rfl rfl ?_); simp only [go_sem,↓dP,↓reduceIte]; with_reducible and_intros; all_goals first | apply qA | exact ⟨⟩ | rfl | (intros; apply qB; first | kernel_rfl | omega) | omega | skip)
    refine Ok.seq ?_
    refine Ok.cond rfl (fun _ => ?_) (fun hb => by simp at hb; omega)
    (refine Ok.skip ?_; (try dsimp only [thenK,blockK,noGotoK]))
    refine Ok.seq ?_
    refine Ok.block ?_
    ((first | refine qS rfl rfl ?_ | refine qR rfl rfl ?_); simp only [go_sem,↓dP,↓reduceIte]; with_reducible and_intros; all_goals first | apply qA | exact ⟨⟩ | rfl | (intros; apply qB; first | kernel_rfl | omega) | omega | skip)
    refine Ok.seq ?_
    ((first | refine qS rfl rfl ?_ | refine qR rfl rfl ?_); simp only [go_sem,↓dP,↓reduceIte]; with_reducible and_intros; all_goals first | apply qA | exact ⟨⟩ | rfl | (intros; apply qB; first | kernel_rfl | omega) | omega | skip)
    (refine AskGI.ret (fun hb => hf _ _ (hP _ (getD_mem hj)) (hPb j (by simp at hb; omega) (by omega))) ?_; simp only [go_sem,↓dP,↓reduceIte]; with_reducible and_intros; all_goals first | apply qA | exact ⟨⟩ | rfl | (intros; apply qB; first | kernel_rfl | omega) | omega | skip)
    refine Ok.cond rfl ?_ ?_
    · intro hh
      have hB : bestN g l (j + 1) = l.getD j default:=by
        rw [bestN,if_pos]
        rw [dec0] at hh
        revert hh
        cases h : decide (j = 0) <;> simp
      rw [← hB]
      ((first | refine qS rfl rfl ?_ | refine qR rfl rfl ?_); simp only [go_sem,↓dP,↓reduceIte]; with_reducible and_intros; all_goals first | apply qA | exact ⟨⟩ | rfl | (intros; apply qB; first | kernel_rfl | omega) | omega | skip)
      (try dsimp only [thenK,blockK,noGotoK])
      ((first | refine qS rfl rfl ?_ | refine qR rfl rfl ?_); simp only [go_sem,↓dP,↓reduceIte]; with_reducible and_intros; all_goals first | apply qA | exact ⟨⟩ | rfl | (intros; apply qB; first | kernel_rfl | omega) | omega | skip)
      (try dsimp only [thenK,blockK,noGotoK])
      refine ⟨trivial,?_⟩
      (refine Sub.of ([0,1]) ([]) ?_ ?_ ?_ rfl rfl <;> simp only [subB,subB1,subT,subT1,newT,subE,subV,subL,go_sem,↓dP,↓reduceIte] <;> (try (repeat' with_reducible apply And.intro)) <;> (try first | exact DEq.refl _ | refine DEq.int ?_ | refine DEq.bool ?_ | omega))
    · intro hh
      have hB : bestN g l (j + 1) = bestN g l j:=by
        rw [bestN,if_neg]
        rw [dec0] at hh
        revert hh
        cases h : decide (j = 0) <;> simp
      (refine Ok.skip ?_; (try dsimp only [thenK,blockK,noGotoK]))
      (try dsimp only [thenK,blockK,noGotoK])
      ((first | refine qS rfl rfl ?_ | refine qR rfl rfl ?_); simp only [go_sem,↓dP,↓reduceIte]; with_reducible and_intros; all_goals first | apply qA | exact ⟨⟩ | rfl | (intros; apply qB; first | kernel_rfl | omega) | omega | skip)
      (try dsimp only [thenK,blockK,noGotoK])
      refine ⟨trivial,?_⟩
      rw [hB]
      (refine Sub.of ([0,1]) ([]) ?_ ?_ ?_ rfl rfl <;> simp only [subB,subB1,subT,subT1,newT,subE,subV,subL,go_sem,↓dP,↓reduceIte] <;> (try (repeat' with_reducible apply And.intro)) <;> (try first | exact DEq.refl _ | refine DEq.int ?_ | refine DEq.bool ?_ | omega))
  · intro _
    ((first | refine qS rfl rfl ?_ | refine qR rfl rfl ?_); simp only [go_sem,↓dP,↓reduceIte]; with_reducible and_intros; all_goals first | apply qA | exact ⟨⟩ | rfl | (intros; apply qB; first | kernel_rfl | omega) | omega | skip)
    refine Ok.seq ?_
    refine Ok.cond rfl (fun hb => by simp at hb) (fun _ => ?_)
    (refine Ok.exit ?_; simp only [thenK_exit,blockK_exit,noGotoK_exit,thenK_normal,blockK_normal,noGotoK_normal,↓reduceIte,Nat.reduceEqDiff])
    ((first | refine qS rfl rfl ?_ | refine qR rfl rfl ?_); simp only [go_sem,↓dP,↓reduceIte]; with_reducible and_intros; all_goals first | apply qA | exact ⟨⟩ | rfl | (intros; apply qB; first | kernel_rfl | omega) | omega | skip)
    (refine Ok.ret ?_; (try dsimp only [thenK,blockK,noGotoK]); simp only [toList_mk,List.toList_toArray,retK_ret,retK_normal,resOK,resV,celV,rowV,frzAll,frzT,subV,subL,go_sem,↓dP,↓reduceIte])
    refine ⟨⟨.refl _,.refl _⟩,DEq.bool ?_⟩
    by_cases h : 0 < l.length <;> simp [h]
structure Hung where
  at_ : Int
  n : Int
  deriving Inhabited,DecidableEq
def hunD (p : Hung) : Nat → DV
  | 0 => iD p.at_ | 1 => iD p.n | _ => .nilI
theorem hunD_0 (l : Hung) : hunD l 0 = iD l.at_:=rfl
theorem hunD_1 (l : Hung) : hunD l 1 = iD l.n:=rfl
attribute [go_sem] hunD_0 hunD_1
abbrev Hung.sv (p : Hung) : SV:=.agg [iS p.at_,iS p.n]
theorem c100 (l : List Hung) (f m : Nat) (c : Nat → DV) (g : Hung → Hung → Bool) (P : Hung → Prop) (hn : l.length < 1000000) (hP : ∀ x ∈ l,P x) (hf : ∀ x y,P x → P y → Ctr Tryz.prog f (x.sv :: y.sv :: take c 0 m) (bS (g x y))) (hPb : ∀ j,0 < j → j ≤ l.length → P (bestN g l j)) :
    Ctr Tryz.prog 52 [.d (slD 2 hunD l),.d (.clo f m c)] (.tup [(bestL g l).sv,bS (decide (0 < l.length))]):=by
  (refine Ctr.mk (fn:=Tryz.f52) rfl rfl rfl rfl rfl Tryz.results52 ?_; dsimp only [args,List.toList_toArray])
  ((first | refine qS rfl rfl ?_ | refine qR rfl rfl ?_); simp only [go_sem,↓dP,↓reduceIte]; with_reducible and_intros; all_goals first | apply qA | exact ⟨⟩ | rfl | (intros; apply qB; first | kernel_rfl | omega) | omega | skip)
  ((first | refine qS rfl rfl ?_ | refine qR rfl rfl ?_); simp only [go_sem,↓dP,↓reduceIte]; with_reducible and_intros; all_goals first | apply qA | exact ⟨⟩ | rfl | (intros; apply qB; first | kernel_rfl | omega) | omega | skip)
  refine Ok.seq ?_
  ((first | refine qS rfl rfl ?_ | refine qR rfl rfl ?_); simp only [go_sem,↓dP,↓reduceIte]; with_reducible and_intros; all_goals first | apply qA | exact ⟨⟩ | rfl | (intros; apply qB; first | kernel_rfl | omega) | omega | skip)
  refine Ok.block ?_
  refine Ok.count l.length (fun j => ⟨[(0,.d (slD 2 hunD l)),(1,.d (.clo f m c)),(4,.p 0 0),(6,.p 1 0),(9,.d (slD 2 hunD l)),(10,iS l.length),(11,iS j)],[{ frz:=false,xs:=[iS 0,iS 0] },{ frz:=false,xs:=[iS (bestN g l j).at_,iS (bestN g l j).n] }],[]⟩) (fun _ => True) ⟨trivial,?_⟩ ?_ ?_
  · (refine Sub.of ([0,1]) ([]) ?_ ?_ ?_ rfl rfl <;> simp only [subB,subB1,subT,subT1,newT,subE,subV,subL,go_sem,↓dP,↓reduceIte] <;> (try (repeat' with_reducible apply And.intro)) <;> (try first | exact DEq.refl _ | refine DEq.int ?_ | refine DEq.bool ?_ | omega))
  · intro j hj _
    ((first | refine qS rfl rfl ?_ | refine qR rfl rfl ?_); simp only [go_sem,↓dP,↓reduceIte]; with_reducible and_intros; all_goals first | apply qA | exact ⟨⟩ | rfl | (intros; apply qB; first | kernel_rfl | omega) | omega | skip)
    refine Ok.seq ?_
    refine Ok.cond rfl (fun _ => ?_) (fun hb => by simp at hb; omega)
    (refine Ok.skip ?_; (try dsimp only [thenK,blockK,noGotoK]))
    refine Ok.seq ?_
    refine Ok.block ?_
    ((first | refine qS rfl rfl ?_ | refine qR rfl rfl ?_); simp only [go_sem,↓dP,↓reduceIte]; with_reducible and_intros; all_goals first | apply qA | exact ⟨⟩ | rfl | (intros; apply qB; first | kernel_rfl | omega) | omega | skip)
    refine Ok.seq ?_
    ((first | refine qS rfl rfl ?_ | refine qR rfl rfl ?_); simp only [go_sem,↓dP,↓reduceIte]; with_reducible and_intros; all_goals first | apply qA | exact ⟨⟩ | rfl | (intros; apply qB; first | kernel_rfl | omega) | omega | skip)
    (refine AskGI.ret (fun hb => hf _ _ (hP _ (getD_mem hj)) (hPb j (by simp at hb; omega) (by omega))) ?_; simp only [go_sem,↓dP,↓reduceIte]; with_reducible and_intros; all_goals first | apply qA | exact ⟨⟩ | rfl | (intros; apply qB; first | kernel_rfl | omega) | omega | skip)
    refine Ok.cond rfl ?_ ?_
    · intro hh
      have hB : bestN g l (j + 1) = l.getD j default:=by
        rw [bestN,if_pos]
        rw [dec0] at hh
        revert hh
        cases h : decide (j = 0) <;> simp
      rw [← hB]
      ((first | refine qS rfl rfl ?_ | refine qR rfl rfl ?_); simp only [go_sem,↓dP,↓reduceIte]; with_reducible and_intros; all_goals first | apply qA | exact ⟨⟩ | rfl | (intros; apply qB; first | kernel_rfl | omega) | omega | skip)
      (try dsimp only [thenK,blockK,noGotoK])
      ((first | refine qS rfl rfl ?_ | refine qR rfl rfl ?_); simp only [go_sem,↓dP,↓reduceIte]; with_reducible and_intros; all_goals first | apply qA | exact ⟨⟩ | rfl | (intros; apply qB; first | kernel_rfl | omega) | omega | skip)
      (try dsimp only [thenK,blockK,noGotoK])
      refine ⟨trivial,?_⟩
      (refine Sub.of ([0,1]) ([]) ?_ ?_ ?_ rfl rfl <;> simp only [subB,subB1,subT,subT1,newT,subE,subV,subL,go_sem,↓dP,↓reduceIte] <;> (try (repeat' with_reducible apply And.intro)) <;> (try first | exact DEq.refl _ | refine DEq.int ?_ | refine DEq.bool ?_ | omega))
    · intro hh
      have hB : bestN g l (j + 1) = bestN g l j:=by
        rw [bestN,if_neg]
        rw [dec0] at hh
        revert hh
        cases h : decide (j = 0) <;> simp
      (refine Ok.skip ?_; (try dsimp only [thenK,blockK,noGotoK]))
      (try dsimp only [thenK,blockK,noGotoK])
      ((first | refine qS rfl rfl ?_ | refine qR rfl rfl ?_); simp only [go_sem,↓dP,↓reduceIte]; with_reducible and_intros; all_goals first | apply qA | exact ⟨⟩ | rfl | (intros; apply qB; first | kernel_rfl | omega) | omega | skip)
      (try dsimp only [thenK,blockK,noGotoK])
      refine ⟨trivial,?_⟩
      rw [hB]
      (refine Sub.of ([0,1]) ([]) ?_ ?_ ?_ rfl rfl <;> simp only [subB,subB1,subT,subT1,newT,subE,subV,subL,go_sem,↓dP,↓reduceIte] <;> (try (repeat' with_reducible apply And.intro)) <;> (try first | exact DEq.refl _ | refine DEq.int ?_ | refine DEq.bool ?_ | omega))
  · intro _
    ((first | refine qS rfl rfl ?_ | refine qR rfl rfl ?_); simp only [go_sem,↓dP,↓reduceIte]; with_reducible and_intros; all_goals first | apply qA | exact ⟨⟩ | rfl | (intros; apply qB; first | kernel_rfl | omega) | omega | skip)
    refine Ok.seq ?_
    refine Ok.cond rfl (fun hb => by simp at hb) (fun _ => ?_)
    (refine Ok.exit ?_; simp only [thenK_exit,blockK_exit,noGotoK_exit,thenK_normal,blockK_normal,noGotoK_normal,↓reduceIte,Nat.reduceEqDiff])
    ((first | refine qS rfl rfl ?_ | refine qR rfl rfl ?_); simp only [go_sem,↓dP,↓reduceIte]; with_reducible and_intros; all_goals first | apply qA | exact ⟨⟩ | rfl | (intros; apply qB; first | kernel_rfl | omega) | omega | skip)
    (refine Ok.ret ?_; (try dsimp only [thenK,blockK,noGotoK]); simp only [toList_mk,List.toList_toArray,retK_ret,retK_normal,resOK,resV,celV,rowV,frzAll,frzT,subV,subL,go_sem,↓dP,↓reduceIte])
    refine ⟨⟨.refl _,.refl _⟩,DEq.bool ?_⟩
    by_cases h : 0 < l.length <;> simp [h]
theorem c101 (x y : Hung) : Ctr Tryz.prog 53 [x.sv,y.sv] (bS (decide (x.n > y.n))):=by
  (refine Ctr.mk (fn:=Tryz.f53) rfl rfl rfl rfl rfl Tryz.results53 ?_; dsimp only [args,List.toList_toArray])
  ((first | refine qS rfl rfl ?_ | refine qR rfl rfl ?_); simp only [go_sem,↓dP,↓reduceIte]; with_reducible and_intros; all_goals first | apply qA | exact ⟨⟩ | rfl | (intros; apply qB; first | kernel_rfl | omega) | omega | skip)
  ((first | refine qS rfl rfl ?_ | refine qR rfl rfl ?_); simp only [go_sem,↓dP,↓reduceIte]; with_reducible and_intros; all_goals first | apply qA | exact ⟨⟩ | rfl | (intros; apply qB; first | kernel_rfl | omega) | omega | skip)
  (refine Ok.ret ?_; (try dsimp only [thenK,blockK,noGotoK]); simp only [toList_mk,List.toList_toArray,retK_ret,retK_normal,resOK,resV,celV,rowV,frzAll,frzT,subV,subL,go_sem,↓dP,↓reduceIte])
  exact .refl _
theorem c95 (s : Street) (b : Board) (x y : Place) (hx : (Look.mk s b x).fine) (hy : (Look.mk s b y).fine) : Ctr Tryz.prog 84 [x.sv,y.sv,.d s.ref,.d (.ref 2 (dget [iD b.at_,slD 4 letD b.ls]))] (bS (decide (far b.at_ x > far b.at_ y))):=by
  (refine Ctr.mk (fn:=Tryz.f84) rfl rfl rfl rfl rfl Tryz.results84 ?_; dsimp only [args,List.toList_toArray])
  ((first | refine qS rfl rfl ?_ | refine qR rfl rfl ?_); simp only [go_sem,↓dP,↓reduceIte]; with_reducible and_intros; all_goals first | apply qA | exact ⟨⟩ | rfl | (intros; apply qB; first | kernel_rfl | omega) | omega | skip)
  ((first | refine qS rfl rfl ?_ | refine qR rfl rfl ?_); simp only [go_sem,↓dP,↓reduceIte]; with_reducible and_intros; all_goals first | apply qA | exact ⟨⟩ | rfl | (intros; apply qB; first | kernel_rfl | omega) | omega | skip)
  (refine AskI.ret (c96 ⟨s,b,x⟩ hx) ?_; simp only [go_sem,↓dP,↓reduceIte]; with_reducible and_intros; all_goals first | apply qA | exact ⟨⟩ | rfl | (intros; apply qB; first | kernel_rfl | omega) | omega | skip)
  (refine AskI.ret (c96 ⟨s,b,y⟩ hy) ?_; simp only [go_sem,↓dP,↓reduceIte]; with_reducible and_intros; all_goals first | apply qA | exact ⟨⟩ | rfl | (intros; apply qB; first | kernel_rfl | omega) | omega | skip)
  (refine Ok.ret ?_; (try dsimp only [thenK,blockK,noGotoK]); simp only [toList_mk,List.toList_toArray,retK_ret,retK_normal,resOK,resV,celV,rowV,frzAll,frzT,subV,subL,go_sem,↓dP,↓reduceIte])
  exact .refl _
end Go.Proofs.Sight
