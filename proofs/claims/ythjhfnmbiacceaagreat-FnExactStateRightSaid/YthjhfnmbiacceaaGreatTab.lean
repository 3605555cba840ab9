/-
The table of the types; made by program.
-/
import Derived.Test.YthjhfnmbiacceaaGreatCore1
namespace Go.Proofs.YthjhfnmbiacceaaGreat
open X
abbrev T7 : Ty := (.pair (.int .i64) (.pair (.int .i64) (.pair .bool (.pair (.int .u8) .unit))))
abbrev T13 : Ty := (.pair .str (.pair (.int .u64) .unit))
abbrev T65 : Ty := (.pair (.int .i64) (.pair (.int .i64) .unit))
abbrev T185 : Ty := .slice 128 T65
abbrev T22 : Ty := .slice 185 T185
abbrev T98 : Ty := (.pair T65 (.pair T65 (.pair (.int .i64) .unit)))
abbrev T23 : Ty := .slice 197 T98
abbrev T152 : Ty := (.pair T65 (.pair (.int .i64) .unit))
abbrev T24 : Ty := .slice 200 T152
abbrev T25 : Ty := (.pair T22 (.pair T23 (.pair T24 (.pair (.int .i64) .unit))))
abbrev T124 : Ty := .slice 226 T65
abbrev T125 : Ty := (.pair (.int .i64) (.pair T124 .unit))
abbrev T27 : Ty := .slice 126 T125
abbrev T61 : Ty := .slice 2 (.int .i64)
abbrev T88 : Ty := (.pair T65 (.pair (.int .i64) (.pair .str (.pair (.int .i64) (.pair (.int .i64) (.pair (.int .i64) (.pair T65 (.pair (.int .i64) (.pair (.int .i64) (.pair (.int .i64) (.pair (.int .i64) (.pair T61 .unit))))))))))))
abbrev T28 : Ty := .slice 130 T88
abbrev T94 : Ty := (.pair T65 (.pair .str (.pair (.int .i64) .unit)))
abbrev T29 : Ty := .slice 133 T94
abbrev T30 : Ty := (.pair T25 (.pair T27 (.pair T28 (.pair T29 (.pair (.int .i64) .unit)))))
abbrev T135 : Ty := .slice 228 T65
abbrev T136 : Ty := (.pair T61 (.pair T61 (.pair T135 .unit)))
abbrev T32 : Ty := .slice 137 T136
abbrev T33 : Ty := (.pair T32 .unit)
abbrev T35 : Ty := (.pair T30 (.pair T33 .unit))
abbrev T91 : Ty := .slice 87 T65
abbrev T39 : Ty := .slice 91 T91
abbrev T40 : Ty := .slice 99 T98
abbrev T41 : Ty := .slice 153 T152
abbrev T42 : Ty := (.pair T39 (.pair T40 (.pair T41 (.pair (.int .i64) .unit))))
abbrev T142 : Ty := .slice 192 T65
abbrev T143 : Ty := (.pair (.int .i64) (.pair T142 .unit))
abbrev T44 : Ty := .slice 144 T143
abbrev T45 : Ty := .slice 89 T88
abbrev T46 : Ty := .slice 95 T94
abbrev T47 : Ty := (.pair T42 (.pair T44 (.pair T45 (.pair T46 (.pair (.int .i64) .unit)))))
abbrev T62 : Ty := .slice 66 T65
abbrev T63 : Ty := (.pair T61 (.pair T61 (.pair T62 .unit)))
abbrev T49 : Ty := .slice 64 T63
abbrev T50 : Ty := (.pair T49 .unit)
abbrev T52 : Ty := (.pair T47 (.pair T50 .unit))
abbrev T85 : Ty := .slice 4 .bool
abbrev T231 : Ty := .slice 3 (.int .i64)
def tabL : List TI := [.bad, .one, .d (.int .i64), .d (.int .i64), .d .bool, .d (.int .u8), .d (.int .u8), .bad, .bad, .d .str, .d .str, .d .str, .d (.int .u64), .bad, .bad, .one, .one, .one, .bad, .bad, .one, .d (.int .i32), .d T22, .d T23, .d T24, .d T25, .d T25, .d T27, .d T28, .d T29, .d T30, .d T30, .d T32, .d T33, .d T33, .d T35, .d T35, .one, .one, .d T39, .d T40, .d T41, .d T42, .d T42, .d T44, .d T45, .d T46, .d T47, .d T47, .d T49, .d T50, .d T50, .d T52, .d T52, .one, .one, .one, .one, .one, .one, .one, .d T61, .d T62, .d T63, .d T63, .d T65, .d T65, .one, .one, .one, .one, .one, .one, .one, .one, .one, .one, .one, .one, .one, .one, .one, .one, .one, .one, .d T85, .d T65, .d T65, .d T88, .d T88, .one, .d T91, .one, .one, .d T94, .d T94, .one, .one, .d T98, .d T98, .one, .one, .one, .one, .one, .arr 6 4 .bool, .one, .one, .one, .one, .one, .one, .one, .one, .one, .one, .one, .one, .one, .one, .one, .one, .one, .one, .d T124, .d T125, .d T125, .one, .d T65, .d T88, .d T88, .one, .d T94, .d T94, .one, .d T135, .d T136, .d T136, .one, .one, .one, .one, .d T142, .d T143, .d T143, .one, .one, .one, .one, .one, .one, .one, .d T152, .d T152, .one, .one, .one, .one, .one, .one, .one, .one, .one, .one, .one, .one, .one, .one, .one, .one, .one, .one, .one, .one, .one, .one, .one, .one, .one, .one, .one, .one, .one, .one, .one, .d T185, .one, .one, .one, .one, .one, .d T65, .d T65, .one, .one, .one, .d T98, .d T98, .one, .d T152, .d T152, .one, .one, .one, .one, .one, .one, .one, .one, .one, .one, .one, .one, .one, .one, .one, .one, .one, .d (.int .u64), .one, .one, .one, .one, .one, .one, .one, .d T65, .one, .d T65, .one, .one, .d T231, .one, .d (.int .i64), .bad, .one, .one, .one, .bad, .one, .one, .d (.int .u32), .one, .d (.int .u64), .one, .one, .d (.int .u64), .one, .one, .one, .one, .one, .one, .bad, .one, .one, .bad, .bad, .bad, .bad, .bad, .one, .d (.int .u8), .d (.int .u8), .one, .one, .d (.int .i32), .d (.int .i32), .bad, .bad, .one, .bad]
def tt (t : TypeId) : TI := tabL.getD t .bad
end Go.Proofs.YthjhfnmbiacceaaGreat
