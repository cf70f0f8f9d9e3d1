/- Facts about the program's types. -/
import Derived.Test.YtiienjjhlibopaaGreatDoorBb
import Derived.Test.YtiienjjhlibopaaGreatDoorProg
namespace Go.Proofs.YtiienjjhlibopaaGreatDoor
open Go.RowKit
set_option maxRecDepth 100000
theorem fa0 : Program.underlying Tryz.prog 22 = some (.int .u8) := by kernel_rfl
theorem fa1 : Program.underlying Tryz.prog 3 = some (.int .i64) := by kernel_rfl
theorem fa2 : Program.underlying Tryz.prog 67 = some (.pointer (Program.pointee Tryz.prog 67)) := by kernel_rfl
theorem fa3 : ZdB Tryz.prog 136 = some true := by kernel_rfl
theorem fa4 : ZdB Tryz.prog 22 = some false := by kernel_rfl
theorem fa5 : ZdB Tryz.prog 23 = some false := by kernel_rfl
theorem fa6 : ZdB Tryz.prog 24 = some false := by kernel_rfl
theorem fa7 : ZdB Tryz.prog 26 = some true := by kernel_rfl
theorem fa8 : ZdB Tryz.prog 28 = some true := by kernel_rfl
theorem fa9 : ZdB Tryz.prog 3 = some false := by kernel_rfl
theorem ZfQ : ZdB Tryz.prog 30 = some true := by kernel_rfl
theorem ZiB : ZdB Tryz.prog 32 = some false := by kernel_rfl
theorem ZiQ : ZdB Tryz.prog 4 = some false := by kernel_rfl
theorem Znz : ZdB Tryz.prog 5 = some false := by kernel_rfl
theorem ZrX : ZdB Tryz.prog 67 = some false := by kernel_rfl
theorem Zhy : ZdB Tryz.prog 77 = some true := by kernel_rfl
theorem Zq9 : ZdB Tryz.prog 9 = some false := by kernel_rfl
theorem Zle : ZdB Tryz.prog 92 = some true := by kernel_rfl
theorem ZqN : Zdv Tryz.prog 3 = some 8 := by kernel_rfl
theorem ZgQ : Zdv Tryz.prog 5 = some 1 := by kernel_rfl
theorem ZpA : ZbE Tryz.prog 136 = some [(0, 1), (1, 1)] := by kernel_rfl
theorem ZsY : ZbE Tryz.prog 26 = some [(0, 1), (1, 1), (2, 1), (3, 1)] := by kernel_rfl
theorem Zra : ZbE Tryz.prog 28 = some [(0, 1), (1, 1), (2, 1), (3, 4)] := by kernel_rfl
theorem Ze2 : ZaU Tryz.prog 136 = some 2 := by kernel_rfl
theorem ZnA : ZaU Tryz.prog 22 = some 1 := by kernel_rfl
theorem Zb6 : ZaU Tryz.prog 23 = some 1 := by kernel_rfl
theorem Zb4 : ZaU Tryz.prog 24 = some 1 := by kernel_rfl
theorem Zdb : ZaU Tryz.prog 26 = some 4 := by kernel_rfl
theorem ZbZ : ZaU Tryz.prog 28 = some 7 := by kernel_rfl
theorem ZbG : ZaU Tryz.prog 3 = some 1 := by kernel_rfl
theorem Zd9 : ZaU Tryz.prog 30 = some 6 := by kernel_rfl
theorem ZfI : ZaU Tryz.prog 32 = some 1 := by kernel_rfl
theorem Zhu : ZaU Tryz.prog 4 = some 1 := by kernel_rfl
theorem Zcn : ZaU Tryz.prog 5 = some 1 := by kernel_rfl
theorem ZrY : ZaU Tryz.prog 67 = some 1 := by kernel_rfl
theorem Zdx : ZaU Tryz.prog 77 = some 9 := by kernel_rfl
theorem Zo2 : ZaU Tryz.prog 9 = some 1 := by kernel_rfl
theorem Zlf : ZaU Tryz.prog 92 = some 9 := by kernel_rfl
theorem ZpB : ZaW Tryz.prog 132 = some 136 := by kernel_rfl
theorem Zl1 : ZaW Tryz.prog 167 = some 23 := by kernel_rfl
theorem Zbw : ZaW Tryz.prog 23 = some 5 := by kernel_rfl
theorem Zco : ZaW Tryz.prog 24 = some 3 := by kernel_rfl
theorem Zeb : ZaW Tryz.prog 32 = some 28 := by kernel_rfl
theorem Zlg : Za3 Tryz.prog 136 = some [(0, some 1, some false), (1, some 1, some false)] := by kernel_rfl
theorem ZlJ : Za3 Tryz.prog 191 = some [(0, some 1, some true), (1, some 1, some false)] := by kernel_rfl
theorem Zcr : Za3 Tryz.prog 26 = some [(0, some 1, some false), (1, some 1, some false), (2, some 1, some false), (3, some 1, some false)] := by kernel_rfl
theorem Zcq : Za3 Tryz.prog 28 = some [(0, some 1, some false), (1, some 1, some false), (2, some 1, some false), (3, some 4, some true)] := by kernel_rfl
theorem Zdp : Za3 Tryz.prog 30 = some [(0, some 1, some false), (1, some 1, some false), (2, some 4, some true)] := by kernel_rfl
theorem Zju : Za3 Tryz.prog 54 = some [(0, some 1, some false), (1, some 1, some false)] := by kernel_rfl
theorem ZdS : Za3 Tryz.prog 77 = some [(0, some 1, some false), (1, some 1, some false), (2, some 6, some true), (8, some 1, some false)] := by kernel_rfl
theorem Zo3 : Za3 Tryz.prog 92 = some [(0, some 9, some true)] := by kernel_rfl
theorem Zl2 : Za3 Tryz.prog 94 = some [(0, some 9, some true), (9, some 1, some false), (10, some 1, some false)] := by kernel_rfl
theorem ZiC : Zba Tryz.prog 136 = some (.agg #[.int .i64 0, .slice none 0 0]) := by kernel_rfl
theorem Zrb : Zba Tryz.prog 23 = some (.slice none 0 0) := by kernel_rfl
theorem ZpC : Zba Tryz.prog 26 = some (.agg #[.slice none 0 0, .slice none 0 0, .slice none 0 0, .slice none 0 0]) := by kernel_rfl
theorem Zfo : Zba Tryz.prog 28 = some (.agg #[.int .i64 0, .int .u8 0, .slice none 0 0, .slice none 0 0, .slice none 0 0, .slice none 0 0, .slice none 0 0]) := by kernel_rfl
theorem ZjF : Zba Tryz.prog 3 = some (.int .i64 0) := by kernel_rfl
theorem ZlK : Zba Tryz.prog 30 = some (.agg #[.int .i64 0, .int .i64 0, .slice none 0 0, .slice none 0 0, .slice none 0 0, .slice none 0 0]) := by kernel_rfl
theorem ZeO : Zba Tryz.prog 5 = some (.int .u8 0) := by kernel_rfl
theorem Zgq : Zba Tryz.prog 77 = some (.agg #[.int .i64 0, .int .i64 0, .int .i64 0, .int .i64 0, .slice none 0 0, .slice none 0 0, .slice none 0 0, .slice none 0 0, .slice none 0 0]) := by kernel_rfl
end Go.Proofs.YtiienjjhlibopaaGreatDoor
