/-
The table of the types; made by program.
-/
import Derived.Test.YtjnfmjeiceiciaaGreatCore1
namespace Go.Proofs.YtjnfmjeiceiciaaGreat
open X
abbrev T7 : Ty := (.pair (.int .i64) (.pair (.int .i64) (.pair .bool (.pair (.int .u8) .unit))))
abbrev T13 : Ty := (.pair .str (.pair (.int .u64) .unit))
abbrev T86 : Ty := (.pair (.int .i64) (.pair (.int .i64) .unit))
abbrev T239 : Ty := .slice 181 T86
abbrev T22 : Ty := .slice 239 T239
abbrev T134 : Ty := (.pair T86 (.pair T86 (.pair (.int .i64) .unit)))
abbrev T23 : Ty := .slice 248 T134
abbrev T218 : Ty := (.pair T86 (.pair (.int .i64) .unit))
abbrev T24 : Ty := .slice 251 T218
abbrev T25 : Ty := (.pair T22 (.pair T23 (.pair T24 (.pair (.int .i64) .unit))))
abbrev T177 : Ty := .slice 284 T86
abbrev T178 : Ty := (.pair (.int .i64) (.pair T177 .unit))
abbrev T27 : Ty := .slice 179 T178
abbrev T89 : Ty := .slice 2 (.int .i64)
abbrev T128 : Ty := (.pair T86 (.pair (.int .i64) (.pair .str (.pair (.int .i64) (.pair (.int .i64) (.pair (.int .i64) (.pair T86 (.pair (.int .i64) (.pair (.int .i64) (.pair (.int .i64) (.pair (.int .i64) (.pair T89 .unit))))))))))))
abbrev T28 : Ty := .slice 183 T128
abbrev T131 : Ty := (.pair T86 (.pair .str (.pair (.int .i64) .unit)))
abbrev T29 : Ty := .slice 186 T131
abbrev T30 : Ty := (.pair T25 (.pair T27 (.pair T28 (.pair T29 (.pair (.int .i64) .unit)))))
abbrev T188 : Ty := .slice 286 T86
abbrev T189 : Ty := (.pair T89 (.pair T89 (.pair T188 .unit)))
abbrev T32 : Ty := .slice 190 T189
abbrev T33 : Ty := (.pair T32 .unit)
abbrev T35 : Ty := (.pair T30 (.pair T33 .unit))
abbrev T104 : Ty := (.pair .str (.pair .str (.pair .str .unit)))
abbrev T37 : Ty := .slice 149 T104
abbrev T38 : Ty := (.pair T37 (.pair (.int .i64) .unit))
abbrev T40 : Ty := (.pair T35 (.pair T38 (.pair (.int .i64) .unit)))
abbrev T82 : Ty := .slice 87 T86
abbrev T44 : Ty := .slice 82 T82
abbrev T45 : Ty := .slice 135 T134
abbrev T46 : Ty := .slice 219 T218
abbrev T47 : Ty := (.pair T44 (.pair T45 (.pair T46 (.pair (.int .i64) .unit))))
abbrev T122 : Ty := .slice 126 T86
abbrev T123 : Ty := (.pair (.int .i64) (.pair T122 .unit))
abbrev T49 : Ty := .slice 124 T123
abbrev T50 : Ty := .slice 129 T128
abbrev T51 : Ty := .slice 132 T131
abbrev T52 : Ty := (.pair T47 (.pair T49 (.pair T50 (.pair T51 (.pair (.int .i64) .unit)))))
abbrev T90 : Ty := .slice 103 T86
abbrev T91 : Ty := (.pair T89 (.pair T89 (.pair T90 .unit)))
abbrev T54 : Ty := .slice 92 T91
abbrev T55 : Ty := (.pair T54 .unit)
abbrev T57 : Ty := (.pair T52 (.pair T55 .unit))
abbrev T59 : Ty := .slice 105 T104
abbrev T60 : Ty := (.pair T59 (.pair (.int .i64) .unit))
abbrev T62 : Ty := (.pair T57 (.pair T60 (.pair (.int .i64) .unit)))
abbrev T154 : Ty := .slice 4 .bool
abbrev T193 : Ty := .slice 5 (.int .u8)
abbrev T282 : Ty := .slice 3 (.int .i64)
abbrev T319 : Ty := (.pair T60 (.pair (.int .i64) .unit))
abbrev T321 : Ty := (.pair (.int .i64) (.pair .str .unit))
def tabL : List TI := [.bad, .one, .d (.int .i64), .d (.int .i64), .d .bool, .d (.int .u8), .d (.int .u8), .bad, .bad, .d .str, .d .str, .d .str, .d (.int .u64), .bad, .bad, .one, .one, .one, .bad, .bad, .one, .d (.int .i32), .d T22, .d T23, .d T24, .d T25, .d T25, .d T27, .d T28, .d T29, .d T30, .d T30, .d T32, .d T33, .d T33, .d T35, .d T35, .d T37, .d T38, .d T38, .d T40, .d T40, .one, .one, .d T44, .d T45, .d T46, .d T47, .d T47, .d T49, .d T50, .d T51, .d T52, .d T52, .d T54, .d T55, .d T55, .d T57, .d T57, .d T59, .d T60, .d T60, .d T62, .d T62, .one, .one, .one, .one, .one, .one, .one, .one, .one, .one, .one, .one, .one, .one, .one, .one, .one, .one, .d T82, .one, .one, .one, .d T86, .d T86, .one, .d T89, .d T90, .d T91, .d T91, .one, .one, .one, .one, .one, .one, .one, .one, .one, .d T86, .d T86, .d T104, .d T104, .one, .one, .one, .one, .one, .one, .one, .one, .one, .one, .one, .one, .one, .one, .one, .one, .d T122, .d T123, .d T123, .d T86, .d T86, .one, .d T128, .d T128, .one, .d T131, .d T131, .one, .d T134, .d T134, .one, .one, .one, .one, .one, .one, .one, .one, .one, .one, .one, .one, .one, .d T104, .one, .one, .one, .one, .d T154, .one, .one, .one, .arr 6 4 .bool, .one, .one, .one, .one, .one, .one, .one, .one, .one, .one, .one, .one, .one, .one, .one, .one, .one, .one, .d T177, .d T178, .d T178, .one, .d T86, .d T128, .d T128, .one, .d T131, .d T131, .one, .d T188, .d T189, .d T189, .d (.int .u64), .one, .d T193, .one, .one, .one, .one, .one, .one, .one, .d (.int .u64), .one, .one, .one, .one, .one, .one, .one, .one, .one, .one, .one, .one, .one, .one, .one, .one, .d T218, .d T218, .one, .one, .one, .one, .one, .one, .one, .one, .one, .one, .one, .one, .one, .one, .one, .one, .one, .one, .one, .d T239, .one, .one, .one, .one, .one, .one, .one, .d T134, .d T134, .one, .d T218, .d T218, .one, .one, .one, .one, .one, .one, .one, .one, .one, .one, .one, .one, .one, .one, .one, .one, .one, .one, .one, .one, .d (.int .i64), .bad, .one, .one, .one, .bad, .one, .one, .d (.int .u32), .one, .d T282, .one, .d T86, .one, .d T86, .one, .one, .one, .one, .d (.int .u64), .one, .one, .one, .one, .one, .one, .bad, .one, .one, .bad, .bad, .bad, .bad, .bad, .one, .d (.int .u8), .d (.int .u8), .one, .one, .d (.int .i32), .d (.int .i32), .bad, .bad, .one, .one, .one, .bad, .d T319, .d T319, .d T321, .d T321]
def tt (t : TypeId) : TI := tabL.getD t .bad
end Go.Proofs.YtjnfmjeiceiciaaGreat
