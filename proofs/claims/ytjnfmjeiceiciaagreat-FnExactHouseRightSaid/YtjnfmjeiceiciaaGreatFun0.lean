/-
The functions as plain Lean; printed by program.
-/
import Derived.Test.YtjnfmjeiceiciaaGreatTab
namespace Go.Proofs.YtjnfmjeiceiciaaGreat
open X
set_option linter.unusedVariables false
set_option linter.unusedSimpArgs false
set_option maxRecDepth 100000
abbrev cmpisNaN_int64.P : Ty := (.pair (.int .i64) .unit)
abbrev cmpisNaN_int64.R : Ty := .bool
def cmpisNaN_int64.T (N : Nat) (x : cmpisNaN_int64.P.D) : Tr cmpisNaN_int64.R.D := .ret (!eqI x.1 x.1)
def cmpisNaN_int64.F (N : Nat) (x : cmpisNaN_int64.P.D) : Option cmpisNaN_int64.R.D := (cmpisNaN_int64.T N x).run
abbrev cmpCompare_int64.P : Ty := T86
abbrev cmpCompare_int64.R : Ty := (.int .i64)
def cmpCompare_int64.T (N : Nat) (x : cmpCompare_int64.P.D) : Tr cmpCompare_int64.R.D := .bind (cmpisNaN_int64.F N (x.1, ())) fun x1 => .bind (cmpisNaN_int64.F N x.2) fun x2 => .ite x1 (.ite x2 (.ret (0 : Int)) (.ret (-1 : Int))) (.ite x2 (.ret (1 : Int)) (.ite (ltI x.1 x.2.1) (.ret (-1 : Int)) (.ite (ltI x.2.1 x.1) (.ret (1 : Int)) (.ret (0 : Int)))))
def cmpCompare_int64.F (N : Nat) (x : cmpCompare_int64.P.D) : Option cmpCompare_int64.R.D := (cmpCompare_int64.T N x).run
abbrev cmpOr_int.P : Ty := (.pair T282 .unit)
abbrev cmpOr_int.R : Ty := (.int .i64)
abbrev cmpOr_int.C0_0 : Ty := (.pair (.int .i64) (.pair T282 (.pair (.int .i64) .unit)))
abbrev cmpOr_int.M0_0 : Ty := (.pair (.int .i64) .unit)
abbrev cmpOr_int.O0_0 : Ty := .unit
abbrev cmpOr_int.Q0_0 : Ty := (.pair (.int .i64) .unit)
def cmpOr_int.B0_0 (N : Nat) (c : cmpOr_int.C0_0.D) (m : cmpOr_int.M0_0.D) : Tr (Leaf cmpOr_int.M0_0.D cmpOr_int.O0_0.D cmpOr_int.Q0_0.D) := .ite (ltI m.1 c.2.2.1) (.bind (idx c.2.1 m.1) fun x1 => .ite (!eqI x1 c.1) (.ret (.ret (x1, ()))) (.ret (.more ((addW .i64 m.1 (1 : Int)), ())))) (.ret (.out ()))
def cmpOr_int.L0_0 (N : Nat) (c : cmpOr_int.C0_0.D) (m : cmpOr_int.M0_0.D) : Option (cmpOr_int.O0_0.D ⊕ cmpOr_int.Q0_0.D) := iterT (cmpOr_int.B0_0 N c) N m
def cmpOr_int.T (N : Nat) (x : cmpOr_int.P.D) : Tr cmpOr_int.R.D := .bind (cmpOr_int.L0_0 N ((0 : Int), x.1, (lenI x.1), ()) ((0 : Int), ())) fun p1 => .sum p1 (fun a2 => .ret (0 : Int)) (fun b3 => .ret b3.1)
def cmpOr_int.F (N : Nat) (x : cmpOr_int.P.D) : Option cmpOr_int.R.D := (cmpOr_int.T N x).run
abbrev icompareLabels.P : Ty := (.pair T86 (.pair T86 .unit))
abbrev icompareLabels.R : Ty := (.int .i64)
def icompareLabels.T (N : Nat) (x : icompareLabels.P.D) : Tr icompareLabels.R.D := .bind (cmpCompare_int64.F N (x.1.1, x.2.1.1, ())) fun x1 => .bind (cmpCompare_int64.F N (x.1.2.1, x.2.1.2)) fun x2 => .bind (cmpOr_int.F N (([x1, x2] : List (Ty.D (.int .i64))), ())) fun x3 => .ret x3
def icompareLabels.F (N : Nat) (x : icompareLabels.P.D) : Option icompareLabels.R.D := (icompareLabels.T N x).run
/-! slices.SortFunc[[]loop.example/g00658/impl.Label,loop.example/g00658/impl.Label]: function 105, by its contract -/
abbrev slSortFunc_icompareLabels_w.P : Ty := (.pair T82 .unit)
abbrev slSortFunc_icompareLabels_w.R : Ty := (.pair T82 .unit)
def slSortFunc_icompareLabels_w.F (N : Nat) (x : slSortFunc_icompareLabels_w.P.D) : Option slSortFunc_icompareLabels_w.R.D := if x.1.length ≤ 1048576 then some (x.1.mergeSort labLe, ()) else none
/-! strings.Compare: function 213, by its contract -/
abbrev strCompare.P : Ty := (.pair .str (.pair .str .unit))
abbrev strCompare.R : Ty := (.int .i64)
def strCompare.F (N : Nat) (x : strCompare.P.D) : Option strCompare.R.D := some (cmpTxt x.1 x.2.1)
abbrev lszLabelS.P : Ty := (.pair T239 (.pair (.int .i64) .unit))
abbrev lszLabelS.R : Ty := (.int .i64)
def lszLabelS.T (N : Nat) (x : lszLabelS.P.D) : Tr lszLabelS.R.D := .ite (ltI (subW .i64 x.2.1 (lenI x.1)) (0 : Int)) (.ret (-1 : Int)) (.ret (subW .i64 x.2.1 (lenI x.1)))
def lszLabelS.F (N : Nat) (x : lszLabelS.P.D) : Option lszLabelS.R.D := (lszLabelS.T N x).run
abbrev lszLabelSS.P : Ty := (.pair T22 (.pair (.int .i64) .unit))
abbrev lszLabelSS.R : Ty := (.int .i64)
abbrev lszLabelSS.C0_0 : Ty := (.pair T22 .unit)
abbrev lszLabelSS.M0_0 : Ty := T86
abbrev lszLabelSS.O0_0 : Ty := (.pair (.int .i64) .unit)
abbrev lszLabelSS.Q0_0 : Ty := (.pair (.int .i64) .unit)
def lszLabelSS.B0_0 (N : Nat) (c : lszLabelSS.C0_0.D) (m : lszLabelSS.M0_0.D) : Tr (Leaf lszLabelSS.M0_0.D lszLabelSS.O0_0.D lszLabelSS.Q0_0.D) := .ite (ltI m.2.1 (lenI c.1)) (.bind (idx c.1 m.2.1) fun x1 => .bind (lszLabelS.F N (x1, m.1, ())) fun x2 => .ite (ltI x2 (0 : Int)) (.ret (.ret ((-1 : Int), ()))) (.ret (.more (x2, (addW .i64 m.2.1 (1 : Int)), ())))) (.ret (.out (m.1, ())))
def lszLabelSS.L0_0 (N : Nat) (c : lszLabelSS.C0_0.D) (m : lszLabelSS.M0_0.D) : Option (lszLabelSS.O0_0.D ⊕ lszLabelSS.Q0_0.D) := iterT (lszLabelSS.B0_0 N c) N m
def lszLabelSS.T (N : Nat) (x : lszLabelSS.P.D) : Tr lszLabelSS.R.D := .ite (ltI (subW .i64 x.2.1 (lenI x.1)) (0 : Int)) (.ret (-1 : Int)) (.bind (lszLabelSS.L0_0 N (x.1, ()) ((subW .i64 x.2.1 (lenI x.1)), (0 : Int), ())) fun p1 => .sum p1 (fun a2 => .ret a2.1) (fun b3 => .ret b3.1))
def lszLabelSS.F (N : Nat) (x : lszLabelSS.P.D) : Option lszLabelSS.R.D := (lszLabelSS.T N x).run
abbrev lszPairS.P : Ty := (.pair T23 (.pair (.int .i64) .unit))
abbrev lszPairS.R : Ty := (.int .i64)
def lszPairS.T (N : Nat) (x : lszPairS.P.D) : Tr lszPairS.R.D := .ite (ltI (subW .i64 x.2.1 (lenI x.1)) (0 : Int)) (.ret (-1 : Int)) (.ret (subW .i64 x.2.1 (lenI x.1)))
def lszPairS.F (N : Nat) (x : lszPairS.P.D) : Option lszPairS.R.D := (lszPairS.T N x).run
abbrev lszQuotaS.P : Ty := (.pair T24 (.pair (.int .i64) .unit))
abbrev lszQuotaS.R : Ty := (.int .i64)
def lszQuotaS.T (N : Nat) (x : lszQuotaS.P.D) : Tr lszQuotaS.R.D := .ite (ltI (subW .i64 x.2.1 (lenI x.1)) (0 : Int)) (.ret (-1 : Int)) (.ret (subW .i64 x.2.1 (lenI x.1)))
def lszQuotaS.F (N : Nat) (x : lszQuotaS.P.D) : Option lszQuotaS.R.D := (lszQuotaS.T N x).run
abbrev lszConfig.P : Ty := (.pair T25 (.pair (.int .i64) .unit))
abbrev lszConfig.R : Ty := (.int .i64)
def lszConfig.T (N : Nat) (x : lszConfig.P.D) : Tr lszConfig.R.D := .bind (lszLabelSS.F N (x.1.1, x.2)) fun x1 => .ite (ltI x1 (0 : Int)) (.ret (-1 : Int)) (.bind (lszPairS.F N (x.1.2.1, x1, ())) fun x2 => .ite (ltI x2 (0 : Int)) (.ret (-1 : Int)) (.bind (lszQuotaS.F N (x.1.2.2.1, x2, ())) fun x3 => .ite (ltI x3 (0 : Int)) (.ret (-1 : Int)) (.ret x3)))
def lszConfig.F (N : Nat) (x : lszConfig.P.D) : Option lszConfig.R.D := (lszConfig.T N x).run
abbrev lszSpanS.P : Ty := (.pair T177 (.pair (.int .i64) .unit))
abbrev lszSpanS.R : Ty := (.int .i64)
def lszSpanS.T (N : Nat) (x : lszSpanS.P.D) : Tr lszSpanS.R.D := .ite (ltI (subW .i64 x.2.1 (lenI x.1)) (0 : Int)) (.ret (-1 : Int)) (.ret (subW .i64 x.2.1 (lenI x.1)))
def lszSpanS.F (N : Nat) (x : lszSpanS.P.D) : Option lszSpanS.R.D := (lszSpanS.T N x).run
abbrev lszNode.P : Ty := (.pair T178 (.pair (.int .i64) .unit))
abbrev lszNode.R : Ty := (.int .i64)
def lszNode.T (N : Nat) (x : lszNode.P.D) : Tr lszNode.R.D := .bind (lszSpanS.F N (x.1.2.1, x.2)) fun x1 => .ite (ltI x1 (0 : Int)) (.ret (-1 : Int)) (.ret x1)
def lszNode.F (N : Nat) (x : lszNode.P.D) : Option lszNode.R.D := (lszNode.T N x).run
abbrev lszNodeS.P : Ty := (.pair T27 (.pair (.int .i64) .unit))
abbrev lszNodeS.R : Ty := (.int .i64)
abbrev lszNodeS.C0_0 : Ty := (.pair T27 .unit)
abbrev lszNodeS.M0_0 : Ty := T86
abbrev lszNodeS.O0_0 : Ty := (.pair (.int .i64) .unit)
abbrev lszNodeS.Q0_0 : Ty := (.pair (.int .i64) .unit)
def lszNodeS.B0_0 (N : Nat) (c : lszNodeS.C0_0.D) (m : lszNodeS.M0_0.D) : Tr (Leaf lszNodeS.M0_0.D lszNodeS.O0_0.D lszNodeS.Q0_0.D) := .ite (ltI m.2.1 (lenI c.1)) (.bind (idx c.1 m.2.1) fun x1 => .bind (lszNode.F N (x1, m.1, ())) fun x2 => .ite (ltI x2 (0 : Int)) (.ret (.ret ((-1 : Int), ()))) (.ret (.more (x2, (addW .i64 m.2.1 (1 : Int)), ())))) (.ret (.out (m.1, ())))
def lszNodeS.L0_0 (N : Nat) (c : lszNodeS.C0_0.D) (m : lszNodeS.M0_0.D) : Option (lszNodeS.O0_0.D ⊕ lszNodeS.Q0_0.D) := iterT (lszNodeS.B0_0 N c) N m
def lszNodeS.T (N : Nat) (x : lszNodeS.P.D) : Tr lszNodeS.R.D := .ite (ltI (subW .i64 x.2.1 (lenI x.1)) (0 : Int)) (.ret (-1 : Int)) (.bind (lszNodeS.L0_0 N (x.1, ()) ((subW .i64 x.2.1 (lenI x.1)), (0 : Int), ())) fun p1 => .sum p1 (fun a2 => .ret a2.1) (fun b3 => .ret b3.1))
def lszNodeS.F (N : Nat) (x : lszNodeS.P.D) : Option lszNodeS.R.D := (lszNodeS.T N x).run
abbrev lszInt64S.P : Ty := (.pair T89 (.pair (.int .i64) .unit))
abbrev lszInt64S.R : Ty := (.int .i64)
def lszInt64S.T (N : Nat) (x : lszInt64S.P.D) : Tr lszInt64S.R.D := .ite (ltI (subW .i64 x.2.1 (lenI x.1)) (0 : Int)) (.ret (-1 : Int)) (.ret (subW .i64 x.2.1 (lenI x.1)))
def lszInt64S.F (N : Nat) (x : lszInt64S.P.D) : Option lszInt64S.R.D := (lszInt64S.T N x).run
abbrev lszTask.P : Ty := (.pair T128 (.pair (.int .i64) .unit))
abbrev lszTask.R : Ty := (.int .i64)
def lszTask.T (N : Nat) (x : lszTask.P.D) : Tr lszTask.R.D := .ite (ltI (subW .i64 x.2.1 (lenI x.1.2.2.1)) (0 : Int)) (.ret (-1 : Int)) (.bind (lszInt64S.F N (x.1.2.2.2.2.2.2.2.2.2.2.2.1, (subW .i64 x.2.1 (lenI x.1.2.2.1)), ())) fun x1 => .ite (ltI x1 (0 : Int)) (.ret (-1 : Int)) (.ret x1))
def lszTask.F (N : Nat) (x : lszTask.P.D) : Option lszTask.R.D := (lszTask.T N x).run
abbrev lszTaskS.P : Ty := (.pair T28 (.pair (.int .i64) .unit))
abbrev lszTaskS.R : Ty := (.int .i64)
abbrev lszTaskS.C0_0 : Ty := (.pair T28 .unit)
abbrev lszTaskS.M0_0 : Ty := T86
abbrev lszTaskS.O0_0 : Ty := (.pair (.int .i64) .unit)
abbrev lszTaskS.Q0_0 : Ty := (.pair (.int .i64) .unit)
def lszTaskS.B0_0 (N : Nat) (c : lszTaskS.C0_0.D) (m : lszTaskS.M0_0.D) : Tr (Leaf lszTaskS.M0_0.D lszTaskS.O0_0.D lszTaskS.Q0_0.D) := .ite (ltI m.2.1 (lenI c.1)) (.bind (idx c.1 m.2.1) fun x1 => .bind (lszTask.F N (x1, m.1, ())) fun x2 => .ite (ltI x2 (0 : Int)) (.ret (.ret ((-1 : Int), ()))) (.ret (.more (x2, (addW .i64 m.2.1 (1 : Int)), ())))) (.ret (.out (m.1, ())))
def lszTaskS.L0_0 (N : Nat) (c : lszTaskS.C0_0.D) (m : lszTaskS.M0_0.D) : Option (lszTaskS.O0_0.D ⊕ lszTaskS.Q0_0.D) := iterT (lszTaskS.B0_0 N c) N m
def lszTaskS.T (N : Nat) (x : lszTaskS.P.D) : Tr lszTaskS.R.D := .ite (ltI (subW .i64 x.2.1 (lenI x.1)) (0 : Int)) (.ret (-1 : Int)) (.bind (lszTaskS.L0_0 N (x.1, ()) ((subW .i64 x.2.1 (lenI x.1)), (0 : Int), ())) fun p1 => .sum p1 (fun a2 => .ret a2.1) (fun b3 => .ret b3.1))
def lszTaskS.F (N : Nat) (x : lszTaskS.P.D) : Option lszTaskS.R.D := (lszTaskS.T N x).run
abbrev lszUse.P : Ty := (.pair T131 (.pair (.int .i64) .unit))
abbrev lszUse.R : Ty := (.int .i64)
def lszUse.T (N : Nat) (x : lszUse.P.D) : Tr lszUse.R.D := .ite (ltI (subW .i64 x.2.1 (lenI x.1.2.1)) (0 : Int)) (.ret (-1 : Int)) (.ret (subW .i64 x.2.1 (lenI x.1.2.1)))
def lszUse.F (N : Nat) (x : lszUse.P.D) : Option lszUse.R.D := (lszUse.T N x).run
abbrev lszUseS.P : Ty := (.pair T29 (.pair (.int .i64) .unit))
abbrev lszUseS.R : Ty := (.int .i64)
abbrev lszUseS.C0_0 : Ty := (.pair T29 .unit)
abbrev lszUseS.M0_0 : Ty := T86
abbrev lszUseS.O0_0 : Ty := (.pair (.int .i64) .unit)
abbrev lszUseS.Q0_0 : Ty := (.pair (.int .i64) .unit)
def lszUseS.B0_0 (N : Nat) (c : lszUseS.C0_0.D) (m : lszUseS.M0_0.D) : Tr (Leaf lszUseS.M0_0.D lszUseS.O0_0.D lszUseS.Q0_0.D) := .ite (ltI m.2.1 (lenI c.1)) (.bind (idx c.1 m.2.1) fun x1 => .bind (lszUse.F N (x1, m.1, ())) fun x2 => .ite (ltI x2 (0 : Int)) (.ret (.ret ((-1 : Int), ()))) (.ret (.more (x2, (addW .i64 m.2.1 (1 : Int)), ())))) (.ret (.out (m.1, ())))
def lszUseS.L0_0 (N : Nat) (c : lszUseS.C0_0.D) (m : lszUseS.M0_0.D) : Option (lszUseS.O0_0.D ⊕ lszUseS.Q0_0.D) := iterT (lszUseS.B0_0 N c) N m
def lszUseS.T (N : Nat) (x : lszUseS.P.D) : Tr lszUseS.R.D := .ite (ltI (subW .i64 x.2.1 (lenI x.1)) (0 : Int)) (.ret (-1 : Int)) (.bind (lszUseS.L0_0 N (x.1, ()) ((subW .i64 x.2.1 (lenI x.1)), (0 : Int), ())) fun p1 => .sum p1 (fun a2 => .ret a2.1) (fun b3 => .ret b3.1))
def lszUseS.F (N : Nat) (x : lszUseS.P.D) : Option lszUseS.R.D := (lszUseS.T N x).run
abbrev lszYard.P : Ty := (.pair T30 (.pair (.int .i64) .unit))
abbrev lszYard.R : Ty := (.int .i64)
def lszYard.T (N : Nat) (x : lszYard.P.D) : Tr lszYard.R.D := .bind (lszConfig.F N (x.1.1, x.2)) fun x1 => .ite (ltI x1 (0 : Int)) (.ret (-1 : Int)) (.bind (lszNodeS.F N (x.1.2.1, x1, ())) fun x2 => .ite (ltI x2 (0 : Int)) (.ret (-1 : Int)) (.bind (lszTaskS.F N (x.1.2.2.1, x2, ())) fun x3 => .ite (ltI x3 (0 : Int)) (.ret (-1 : Int)) (.bind (lszUseS.F N (x.1.2.2.2.1, x3, ())) fun x4 => .ite (ltI x4 (0 : Int)) (.ret (-1 : Int)) (.ret x4))))
def lszYard.F (N : Nat) (x : lszYard.P.D) : Option lszYard.R.D := (lszYard.T N x).run
abbrev lszNoteS.P : Ty := (.pair T188 (.pair (.int .i64) .unit))
abbrev lszNoteS.R : Ty := (.int .i64)
def lszNoteS.T (N : Nat) (x : lszNoteS.P.D) : Tr lszNoteS.R.D := .ite (ltI (subW .i64 x.2.1 (lenI x.1)) (0 : Int)) (.ret (-1 : Int)) (.ret (subW .i64 x.2.1 (lenI x.1)))
def lszNoteS.F (N : Nat) (x : lszNoteS.P.D) : Option lszNoteS.R.D := (lszNoteS.T N x).run
abbrev lszBox.P : Ty := (.pair T189 (.pair (.int .i64) .unit))
abbrev lszBox.R : Ty := (.int .i64)
def lszBox.T (N : Nat) (x : lszBox.P.D) : Tr lszBox.R.D := .bind (lszInt64S.F N (x.1.1, x.2)) fun x1 => .ite (ltI x1 (0 : Int)) (.ret (-1 : Int)) (.bind (lszInt64S.F N (x.1.2.1, x1, ())) fun x2 => .ite (ltI x2 (0 : Int)) (.ret (-1 : Int)) (.bind (lszNoteS.F N (x.1.2.2.1, x2, ())) fun x3 => .ite (ltI x3 (0 : Int)) (.ret (-1 : Int)) (.ret x3)))
def lszBox.F (N : Nat) (x : lszBox.P.D) : Option lszBox.R.D := (lszBox.T N x).run
abbrev lszBoxS.P : Ty := (.pair T32 (.pair (.int .i64) .unit))
abbrev lszBoxS.R : Ty := (.int .i64)
abbrev lszBoxS.C0_0 : Ty := T33
abbrev lszBoxS.M0_0 : Ty := T86
abbrev lszBoxS.O0_0 : Ty := (.pair (.int .i64) .unit)
abbrev lszBoxS.Q0_0 : Ty := (.pair (.int .i64) .unit)
def lszBoxS.B0_0 (N : Nat) (c : lszBoxS.C0_0.D) (m : lszBoxS.M0_0.D) : Tr (Leaf lszBoxS.M0_0.D lszBoxS.O0_0.D lszBoxS.Q0_0.D) := .ite (ltI m.2.1 (lenI c.1)) (.bind (idx c.1 m.2.1) fun x1 => .bind (lszBox.F N (x1, m.1, ())) fun x2 => .ite (ltI x2 (0 : Int)) (.ret (.ret ((-1 : Int), ()))) (.ret (.more (x2, (addW .i64 m.2.1 (1 : Int)), ())))) (.ret (.out (m.1, ())))
def lszBoxS.L0_0 (N : Nat) (c : lszBoxS.C0_0.D) (m : lszBoxS.M0_0.D) : Option (lszBoxS.O0_0.D ⊕ lszBoxS.Q0_0.D) := iterT (lszBoxS.B0_0 N c) N m
def lszBoxS.T (N : Nat) (x : lszBoxS.P.D) : Tr lszBoxS.R.D := .ite (ltI (subW .i64 x.2.1 (lenI x.1)) (0 : Int)) (.ret (-1 : Int)) (.bind (lszBoxS.L0_0 N (x.1, ()) ((subW .i64 x.2.1 (lenI x.1)), (0 : Int), ())) fun p1 => .sum p1 (fun a2 => .ret a2.1) (fun b3 => .ret b3.1))
def lszBoxS.F (N : Nat) (x : lszBoxS.P.D) : Option lszBoxS.R.D := (lszBoxS.T N x).run
abbrev lszMail.P : Ty := (.pair T33 (.pair (.int .i64) .unit))
abbrev lszMail.R : Ty := (.int .i64)
def lszMail.T (N : Nat) (x : lszMail.P.D) : Tr lszMail.R.D := .bind (lszBoxS.F N (x.1.1, x.2)) fun x1 => .ite (ltI x1 (0 : Int)) (.ret (-1 : Int)) (.ret x1)
def lszMail.F (N : Nat) (x : lszMail.P.D) : Option lszMail.R.D := (lszMail.T N x).run
abbrev lszState.P : Ty := (.pair T35 (.pair (.int .i64) .unit))
abbrev lszState.R : Ty := (.int .i64)
def lszState.T (N : Nat) (x : lszState.P.D) : Tr lszState.R.D := .bind (lszYard.F N (x.1.1, x.2)) fun x1 => .ite (ltI x1 (0 : Int)) (.ret (-1 : Int)) (.bind (lszMail.F N (x.1.2.1, x1, ())) fun x2 => .ite (ltI x2 (0 : Int)) (.ret (-1 : Int)) (.ret x2))
def lszState.F (N : Nat) (x : lszState.P.D) : Option lszState.R.D := (lszState.T N x).run
abbrev lszRegion.P : Ty := (.pair T104 (.pair (.int .i64) .unit))
abbrev lszRegion.R : Ty := (.int .i64)
def lszRegion.T (N : Nat) (x : lszRegion.P.D) : Tr lszRegion.R.D := .ite (ltI (subW .i64 x.2.1 (lenI x.1.1)) (0 : Int)) (.ret (-1 : Int)) (.ite (ltI (subW .i64 (subW .i64 x.2.1 (lenI x.1.1)) (lenI x.1.2.1)) (0 : Int)) (.ret (-1 : Int)) (.ite (ltI (subW .i64 (subW .i64 (subW .i64 x.2.1 (lenI x.1.1)) (lenI x.1.2.1)) (lenI x.1.2.2.1)) (0 : Int)) (.ret (-1 : Int)) (.ret (subW .i64 (subW .i64 (subW .i64 x.2.1 (lenI x.1.1)) (lenI x.1.2.1)) (lenI x.1.2.2.1)))))
def lszRegion.F (N : Nat) (x : lszRegion.P.D) : Option lszRegion.R.D := (lszRegion.T N x).run
abbrev lszRegionS.P : Ty := T38
abbrev lszRegionS.R : Ty := (.int .i64)
abbrev lszRegionS.C0_0 : Ty := (.pair T37 .unit)
abbrev lszRegionS.M0_0 : Ty := T86
abbrev lszRegionS.O0_0 : Ty := (.pair (.int .i64) .unit)
abbrev lszRegionS.Q0_0 : Ty := (.pair (.int .i64) .unit)
def lszRegionS.B0_0 (N : Nat) (c : lszRegionS.C0_0.D) (m : lszRegionS.M0_0.D) : Tr (Leaf lszRegionS.M0_0.D lszRegionS.O0_0.D lszRegionS.Q0_0.D) := .ite (ltI m.2.1 (lenI c.1)) (.bind (idx c.1 m.2.1) fun x1 => .bind (lszRegion.F N (x1, m.1, ())) fun x2 => .ite (ltI x2 (0 : Int)) (.ret (.ret ((-1 : Int), ()))) (.ret (.more (x2, (addW .i64 m.2.1 (1 : Int)), ())))) (.ret (.out (m.1, ())))
def lszRegionS.L0_0 (N : Nat) (c : lszRegionS.C0_0.D) (m : lszRegionS.M0_0.D) : Option (lszRegionS.O0_0.D ⊕ lszRegionS.Q0_0.D) := iterT (lszRegionS.B0_0 N c) N m
def lszRegionS.T (N : Nat) (x : lszRegionS.P.D) : Tr lszRegionS.R.D := .ite (ltI (subW .i64 x.2.1 (lenI x.1)) (0 : Int)) (.ret (-1 : Int)) (.bind (lszRegionS.L0_0 N (x.1, ()) ((subW .i64 x.2.1 (lenI x.1)), (0 : Int), ())) fun p1 => .sum p1 (fun a2 => .ret a2.1) (fun b3 => .ret b3.1))
def lszRegionS.F (N : Nat) (x : lszRegionS.P.D) : Option lszRegionS.R.D := (lszRegionS.T N x).run
abbrev lszDisk.P : Ty := (.pair T38 (.pair (.int .i64) .unit))
abbrev lszDisk.R : Ty := (.int .i64)
def lszDisk.T (N : Nat) (x : lszDisk.P.D) : Tr lszDisk.R.D := .bind (lszRegionS.F N (x.1.1, x.2)) fun x1 => .ite (ltI x1 (0 : Int)) (.ret (-1 : Int)) (.ret x1)
def lszDisk.F (N : Nat) (x : lszDisk.P.D) : Option lszDisk.R.D := (lszDisk.T N x).run
abbrev lszHouse.P : Ty := (.pair T40 (.pair (.int .i64) .unit))
abbrev lszHouse.R : Ty := (.int .i64)
def lszHouse.T (N : Nat) (x : lszHouse.P.D) : Tr lszHouse.R.D := .bind (lszState.F N (x.1.1, x.2)) fun x1 => .ite (ltI x1 (0 : Int)) (.ret (-1 : Int)) (.bind (lszDisk.F N (x.1.2.1, x1, ())) fun x2 => .ite (ltI x2 (0 : Int)) (.ret (-1 : Int)) (.ret x2))
def lszHouse.F (N : Nat) (x : lszHouse.P.D) : Option lszHouse.R.D := (lszHouse.T N x).run
abbrev ltoLabel.P : Ty := (.pair T86 .unit)
abbrev ltoLabel.R : Ty := T86
def ltoLabel.T (N : Nat) (x : ltoLabel.P.D) : Tr ltoLabel.R.D := .ret x.1
def ltoLabel.F (N : Nat) (x : ltoLabel.P.D) : Option ltoLabel.R.D := (ltoLabel.T N x).run
abbrev ltoLabelS.P : Ty := (.pair T239 .unit)
abbrev ltoLabelS.R : Ty := T82
abbrev ltoLabelS.C0_0 : Ty := (.pair T239 .unit)
abbrev ltoLabelS.M0_0 : Ty := (.pair (.int .i64) (.pair T82 .unit))
abbrev ltoLabelS.O0_0 : Ty := (.pair T82 .unit)
abbrev ltoLabelS.Q0_0 : Ty := .unit
def ltoLabelS.B0_0 (N : Nat) (c : ltoLabelS.C0_0.D) (m : ltoLabelS.M0_0.D) : Tr (Leaf ltoLabelS.M0_0.D ltoLabelS.O0_0.D ltoLabelS.Q0_0.D) := .ite (ltI m.1 (lenI c.1)) (.bind (idx c.1 m.1) fun x1 => .bind (ltoLabel.F N (x1, ())) fun x2 => .bind (idx m.2.1 m.1) fun _ => .bind (idx m.2.1 m.1) fun x3 => .ret (.more ((addW .i64 m.1 (1 : Int)), (List.set m.2.1 (Int.toNat m.1) x2), ()))) (.ret (.out m.2))
def ltoLabelS.L0_0 (N : Nat) (c : ltoLabelS.C0_0.D) (m : ltoLabelS.M0_0.D) : Option (ltoLabelS.O0_0.D ⊕ ltoLabelS.Q0_0.D) := iterT (ltoLabelS.B0_0 N c) N m
def ltoLabelS.T (N : Nat) (x : ltoLabelS.P.D) : Tr ltoLabelS.R.D := .ite (eqI (lenI x.1) (lenI x.1) && inR 0 (lenI x.1) maxRow) (.bind (ltoLabelS.L0_0 N x ((0 : Int), (List.replicate (Int.toNat (lenI x.1)) (Ty.zero T86)), ())) fun p1 => .sum p1 (fun a2 => .ret a2.1) (fun b3 => .no)) (.no)
def ltoLabelS.F (N : Nat) (x : ltoLabelS.P.D) : Option ltoLabelS.R.D := (ltoLabelS.T N x).run
abbrev ltoLabelSS.P : Ty := (.pair T22 .unit)
abbrev ltoLabelSS.R : Ty := T44
abbrev ltoLabelSS.C0_0 : Ty := (.pair T22 .unit)
abbrev ltoLabelSS.M0_0 : Ty := (.pair (.int .i64) (.pair T44 .unit))
abbrev ltoLabelSS.O0_0 : Ty := (.pair T44 .unit)
abbrev ltoLabelSS.Q0_0 : Ty := .unit
def ltoLabelSS.B0_0 (N : Nat) (c : ltoLabelSS.C0_0.D) (m : ltoLabelSS.M0_0.D) : Tr (Leaf ltoLabelSS.M0_0.D ltoLabelSS.O0_0.D ltoLabelSS.Q0_0.D) := .ite (ltI m.1 (lenI c.1)) (.bind (idx c.1 m.1) fun x1 => .bind (ltoLabelS.F N (x1, ())) fun x2 => .bind (idx m.2.1 m.1) fun _ => .bind (idx m.2.1 m.1) fun x3 => .ret (.more ((addW .i64 m.1 (1 : Int)), (List.set m.2.1 (Int.toNat m.1) x2), ()))) (.ret (.out m.2))
def ltoLabelSS.L0_0 (N : Nat) (c : ltoLabelSS.C0_0.D) (m : ltoLabelSS.M0_0.D) : Option (ltoLabelSS.O0_0.D ⊕ ltoLabelSS.Q0_0.D) := iterT (ltoLabelSS.B0_0 N c) N m
def ltoLabelSS.T (N : Nat) (x : ltoLabelSS.P.D) : Tr ltoLabelSS.R.D := .ite (eqI (lenI x.1) (lenI x.1) && inR 0 (lenI x.1) maxRow) (.bind (ltoLabelSS.L0_0 N x ((0 : Int), (List.replicate (Int.toNat (lenI x.1)) (Ty.zero T82)), ())) fun p1 => .sum p1 (fun a2 => .ret a2.1) (fun b3 => .no)) (.no)
def ltoLabelSS.F (N : Nat) (x : ltoLabelSS.P.D) : Option ltoLabelSS.R.D := (ltoLabelSS.T N x).run
abbrev ltoPair.P : Ty := (.pair T134 .unit)
abbrev ltoPair.R : Ty := T134
def ltoPair.T (N : Nat) (x : ltoPair.P.D) : Tr ltoPair.R.D := .bind (ltoLabel.F N (x.1.1, ())) fun x1 => .bind (ltoLabel.F N (x.1.2.1, ())) fun x2 => .ret (x1, x2, x.1.2.2)
def ltoPair.F (N : Nat) (x : ltoPair.P.D) : Option ltoPair.R.D := (ltoPair.T N x).run
abbrev ltoPairS.P : Ty := (.pair T23 .unit)
abbrev ltoPairS.R : Ty := T45
abbrev ltoPairS.C0_0 : Ty := (.pair T23 .unit)
abbrev ltoPairS.M0_0 : Ty := (.pair (.int .i64) (.pair T45 .unit))
abbrev ltoPairS.O0_0 : Ty := (.pair T45 .unit)
abbrev ltoPairS.Q0_0 : Ty := .unit
def ltoPairS.B0_0 (N : Nat) (c : ltoPairS.C0_0.D) (m : ltoPairS.M0_0.D) : Tr (Leaf ltoPairS.M0_0.D ltoPairS.O0_0.D ltoPairS.Q0_0.D) := .ite (ltI m.1 (lenI c.1)) (.bind (idx c.1 m.1) fun x1 => .bind (ltoPair.F N (x1, ())) fun x2 => .bind (idx m.2.1 m.1) fun _ => .bind (idx m.2.1 m.1) fun x3 => .ret (.more ((addW .i64 m.1 (1 : Int)), (List.set m.2.1 (Int.toNat m.1) x2), ()))) (.ret (.out m.2))
def ltoPairS.L0_0 (N : Nat) (c : ltoPairS.C0_0.D) (m : ltoPairS.M0_0.D) : Option (ltoPairS.O0_0.D ⊕ ltoPairS.Q0_0.D) := iterT (ltoPairS.B0_0 N c) N m
def ltoPairS.T (N : Nat) (x : ltoPairS.P.D) : Tr ltoPairS.R.D := .ite (eqI (lenI x.1) (lenI x.1) && inR 0 (lenI x.1) maxRow) (.bind (ltoPairS.L0_0 N x ((0 : Int), (List.replicate (Int.toNat (lenI x.1)) (Ty.zero T134)), ())) fun p1 => .sum p1 (fun a2 => .ret a2.1) (fun b3 => .no)) (.no)
def ltoPairS.F (N : Nat) (x : ltoPairS.P.D) : Option ltoPairS.R.D := (ltoPairS.T N x).run
abbrev ltoQuota.P : Ty := (.pair T218 .unit)
abbrev ltoQuota.R : Ty := T218
def ltoQuota.T (N : Nat) (x : ltoQuota.P.D) : Tr ltoQuota.R.D := .bind (ltoLabel.F N (x.1.1, ())) fun x1 => .ret (x1, x.1.2)
def ltoQuota.F (N : Nat) (x : ltoQuota.P.D) : Option ltoQuota.R.D := (ltoQuota.T N x).run
abbrev ltoQuotaS.P : Ty := (.pair T24 .unit)
abbrev ltoQuotaS.R : Ty := T46
abbrev ltoQuotaS.C0_0 : Ty := (.pair T24 .unit)
abbrev ltoQuotaS.M0_0 : Ty := (.pair (.int .i64) (.pair T46 .unit))
abbrev ltoQuotaS.O0_0 : Ty := (.pair T46 .unit)
abbrev ltoQuotaS.Q0_0 : Ty := .unit
def ltoQuotaS.B0_0 (N : Nat) (c : ltoQuotaS.C0_0.D) (m : ltoQuotaS.M0_0.D) : Tr (Leaf ltoQuotaS.M0_0.D ltoQuotaS.O0_0.D ltoQuotaS.Q0_0.D) := .ite (ltI m.1 (lenI c.1)) (.bind (idx c.1 m.1) fun x1 => .bind (ltoQuota.F N (x1, ())) fun x2 => .bind (idx m.2.1 m.1) fun _ => .bind (idx m.2.1 m.1) fun x3 => .ret (.more ((addW .i64 m.1 (1 : Int)), (List.set m.2.1 (Int.toNat m.1) x2), ()))) (.ret (.out m.2))
def ltoQuotaS.L0_0 (N : Nat) (c : ltoQuotaS.C0_0.D) (m : ltoQuotaS.M0_0.D) : Option (ltoQuotaS.O0_0.D ⊕ ltoQuotaS.Q0_0.D) := iterT (ltoQuotaS.B0_0 N c) N m
def ltoQuotaS.T (N : Nat) (x : ltoQuotaS.P.D) : Tr ltoQuotaS.R.D := .ite (eqI (lenI x.1) (lenI x.1) && inR 0 (lenI x.1) maxRow) (.bind (ltoQuotaS.L0_0 N x ((0 : Int), (List.replicate (Int.toNat (lenI x.1)) (Ty.zero T218)), ())) fun p1 => .sum p1 (fun a2 => .ret a2.1) (fun b3 => .no)) (.no)
def ltoQuotaS.F (N : Nat) (x : ltoQuotaS.P.D) : Option ltoQuotaS.R.D := (ltoQuotaS.T N x).run
abbrev ltoConfig.P : Ty := (.pair T25 .unit)
abbrev ltoConfig.R : Ty := T47
def ltoConfig.T (N : Nat) (x : ltoConfig.P.D) : Tr ltoConfig.R.D := .bind (ltoLabelSS.F N (x.1.1, ())) fun x1 => .bind (ltoPairS.F N (x.1.2.1, ())) fun x2 => .bind (ltoQuotaS.F N (x.1.2.2.1, ())) fun x3 => .ret (x1, x2, x3, x.1.2.2.2)
def ltoConfig.F (N : Nat) (x : ltoConfig.P.D) : Option ltoConfig.R.D := (ltoConfig.T N x).run
abbrev ltoSpan.P : Ty := (.pair T86 .unit)
abbrev ltoSpan.R : Ty := T86
def ltoSpan.T (N : Nat) (x : ltoSpan.P.D) : Tr ltoSpan.R.D := .ret x.1
def ltoSpan.F (N : Nat) (x : ltoSpan.P.D) : Option ltoSpan.R.D := (ltoSpan.T N x).run
abbrev ltoSpanS.P : Ty := (.pair T177 .unit)
abbrev ltoSpanS.R : Ty := T122
abbrev ltoSpanS.C0_0 : Ty := (.pair T177 .unit)
abbrev ltoSpanS.M0_0 : Ty := T123
abbrev ltoSpanS.O0_0 : Ty := (.pair T122 .unit)
abbrev ltoSpanS.Q0_0 : Ty := .unit
def ltoSpanS.B0_0 (N : Nat) (c : ltoSpanS.C0_0.D) (m : ltoSpanS.M0_0.D) : Tr (Leaf ltoSpanS.M0_0.D ltoSpanS.O0_0.D ltoSpanS.Q0_0.D) := .ite (ltI m.1 (lenI c.1)) (.bind (idx c.1 m.1) fun x1 => .bind (ltoSpan.F N (x1, ())) fun x2 => .bind (idx m.2.1 m.1) fun _ => .bind (idx m.2.1 m.1) fun x3 => .ret (.more ((addW .i64 m.1 (1 : Int)), (List.set m.2.1 (Int.toNat m.1) x2), ()))) (.ret (.out m.2))
def ltoSpanS.L0_0 (N : Nat) (c : ltoSpanS.C0_0.D) (m : ltoSpanS.M0_0.D) : Option (ltoSpanS.O0_0.D ⊕ ltoSpanS.Q0_0.D) := iterT (ltoSpanS.B0_0 N c) N m
def ltoSpanS.T (N : Nat) (x : ltoSpanS.P.D) : Tr ltoSpanS.R.D := .ite (eqI (lenI x.1) (lenI x.1) && inR 0 (lenI x.1) maxRow) (.bind (ltoSpanS.L0_0 N x ((0 : Int), (List.replicate (Int.toNat (lenI x.1)) (Ty.zero T86)), ())) fun p1 => .sum p1 (fun a2 => .ret a2.1) (fun b3 => .no)) (.no)
def ltoSpanS.F (N : Nat) (x : ltoSpanS.P.D) : Option ltoSpanS.R.D := (ltoSpanS.T N x).run
abbrev ltoNode.P : Ty := (.pair T178 .unit)
abbrev ltoNode.R : Ty := T123
def ltoNode.T (N : Nat) (x : ltoNode.P.D) : Tr ltoNode.R.D := .bind (ltoSpanS.F N x.1.2) fun x1 => .ret (x.1.1, x1, ())
def ltoNode.F (N : Nat) (x : ltoNode.P.D) : Option ltoNode.R.D := (ltoNode.T N x).run
abbrev ltoNodeS.P : Ty := (.pair T27 .unit)
abbrev ltoNodeS.R : Ty := T49
abbrev ltoNodeS.C0_0 : Ty := (.pair T27 .unit)
abbrev ltoNodeS.M0_0 : Ty := (.pair (.int .i64) (.pair T49 .unit))
abbrev ltoNodeS.O0_0 : Ty := (.pair T49 .unit)
abbrev ltoNodeS.Q0_0 : Ty := .unit
def ltoNodeS.B0_0 (N : Nat) (c : ltoNodeS.C0_0.D) (m : ltoNodeS.M0_0.D) : Tr (Leaf ltoNodeS.M0_0.D ltoNodeS.O0_0.D ltoNodeS.Q0_0.D) := .ite (ltI m.1 (lenI c.1)) (.bind (idx c.1 m.1) fun x1 => .bind (ltoNode.F N (x1, ())) fun x2 => .bind (idx m.2.1 m.1) fun _ => .bind (idx m.2.1 m.1) fun x3 => .ret (.more ((addW .i64 m.1 (1 : Int)), (List.set m.2.1 (Int.toNat m.1) x2), ()))) (.ret (.out m.2))
def ltoNodeS.L0_0 (N : Nat) (c : ltoNodeS.C0_0.D) (m : ltoNodeS.M0_0.D) : Option (ltoNodeS.O0_0.D ⊕ ltoNodeS.Q0_0.D) := iterT (ltoNodeS.B0_0 N c) N m
def ltoNodeS.T (N : Nat) (x : ltoNodeS.P.D) : Tr ltoNodeS.R.D := .ite (eqI (lenI x.1) (lenI x.1) && inR 0 (lenI x.1) maxRow) (.bind (ltoNodeS.L0_0 N x ((0 : Int), (List.replicate (Int.toNat (lenI x.1)) (Ty.zero T123)), ())) fun p1 => .sum p1 (fun a2 => .ret a2.1) (fun b3 => .no)) (.no)
def ltoNodeS.F (N : Nat) (x : ltoNodeS.P.D) : Option ltoNodeS.R.D := (ltoNodeS.T N x).run
abbrev ltoInt64S.P : Ty := (.pair T89 .unit)
abbrev ltoInt64S.R : Ty := T89
abbrev ltoInt64S.C0_0 : Ty := (.pair T89 .unit)
abbrev ltoInt64S.M0_0 : Ty := (.pair (.int .i64) (.pair T89 .unit))
abbrev ltoInt64S.O0_0 : Ty := (.pair T89 .unit)
abbrev ltoInt64S.Q0_0 : Ty := .unit
def ltoInt64S.B0_0 (N : Nat) (c : ltoInt64S.C0_0.D) (m : ltoInt64S.M0_0.D) : Tr (Leaf ltoInt64S.M0_0.D ltoInt64S.O0_0.D ltoInt64S.Q0_0.D) := .ite (ltI m.1 (lenI c.1)) (.bind (idx c.1 m.1) fun x1 => .bind (idx m.2.1 m.1) fun _ => .bind (idx m.2.1 m.1) fun x2 => .ret (.more ((addW .i64 m.1 (1 : Int)), (List.set m.2.1 (Int.toNat m.1) x1), ()))) (.ret (.out m.2))
def ltoInt64S.L0_0 (N : Nat) (c : ltoInt64S.C0_0.D) (m : ltoInt64S.M0_0.D) : Option (ltoInt64S.O0_0.D ⊕ ltoInt64S.Q0_0.D) := iterT (ltoInt64S.B0_0 N c) N m
def ltoInt64S.T (N : Nat) (x : ltoInt64S.P.D) : Tr ltoInt64S.R.D := .ite (eqI (lenI x.1) (lenI x.1) && inR 0 (lenI x.1) maxRow) (.bind (ltoInt64S.L0_0 N x ((0 : Int), (List.replicate (Int.toNat (lenI x.1)) (Ty.zero (.int .i64))), ())) fun p1 => .sum p1 (fun a2 => .ret a2.1) (fun b3 => .no)) (.no)
def ltoInt64S.F (N : Nat) (x : ltoInt64S.P.D) : Option ltoInt64S.R.D := (ltoInt64S.T N x).run
abbrev ltoTask.P : Ty := (.pair T128 .unit)
abbrev ltoTask.R : Ty := T128
def ltoTask.T (N : Nat) (x : ltoTask.P.D) : Tr ltoTask.R.D := .bind (ltoLabel.F N (x.1.1, ())) fun x1 => .bind (ltoLabel.F N (x.1.2.2.2.2.2.2.1, ())) fun x2 => .bind (ltoInt64S.F N x.1.2.2.2.2.2.2.2.2.2.2.2) fun x3 => .ret (x1, x.1.2.1, x.1.2.2.1, x.1.2.2.2.1, x.1.2.2.2.2.1, x.1.2.2.2.2.2.1, x2, x.1.2.2.2.2.2.2.2.1, x.1.2.2.2.2.2.2.2.2.1, x.1.2.2.2.2.2.2.2.2.2.1, x.1.2.2.2.2.2.2.2.2.2.2.1, x3, ())
def ltoTask.F (N : Nat) (x : ltoTask.P.D) : Option ltoTask.R.D := (ltoTask.T N x).run
abbrev ltoTaskS.P : Ty := (.pair T28 .unit)
abbrev ltoTaskS.R : Ty := T50
abbrev ltoTaskS.C0_0 : Ty := (.pair T28 .unit)
abbrev ltoTaskS.M0_0 : Ty := (.pair (.int .i64) (.pair T50 .unit))
abbrev ltoTaskS.O0_0 : Ty := (.pair T50 .unit)
abbrev ltoTaskS.Q0_0 : Ty := .unit
def ltoTaskS.B0_0 (N : Nat) (c : ltoTaskS.C0_0.D) (m : ltoTaskS.M0_0.D) : Tr (Leaf ltoTaskS.M0_0.D ltoTaskS.O0_0.D ltoTaskS.Q0_0.D) := .ite (ltI m.1 (lenI c.1)) (.bind (idx c.1 m.1) fun x1 => .bind (ltoTask.F N (x1, ())) fun x2 => .bind (idx m.2.1 m.1) fun _ => .bind (idx m.2.1 m.1) fun x3 => .ret (.more ((addW .i64 m.1 (1 : Int)), (List.set m.2.1 (Int.toNat m.1) x2), ()))) (.ret (.out m.2))
def ltoTaskS.L0_0 (N : Nat) (c : ltoTaskS.C0_0.D) (m : ltoTaskS.M0_0.D) : Option (ltoTaskS.O0_0.D ⊕ ltoTaskS.Q0_0.D) := iterT (ltoTaskS.B0_0 N c) N m
def ltoTaskS.T (N : Nat) (x : ltoTaskS.P.D) : Tr ltoTaskS.R.D := .ite (eqI (lenI x.1) (lenI x.1) && inR 0 (lenI x.1) maxRow) (.bind (ltoTaskS.L0_0 N x ((0 : Int), (List.replicate (Int.toNat (lenI x.1)) (Ty.zero T128)), ())) fun p1 => .sum p1 (fun a2 => .ret a2.1) (fun b3 => .no)) (.no)
def ltoTaskS.F (N : Nat) (x : ltoTaskS.P.D) : Option ltoTaskS.R.D := (ltoTaskS.T N x).run
abbrev ltoUse.P : Ty := (.pair T131 .unit)
abbrev ltoUse.R : Ty := T131
def ltoUse.T (N : Nat) (x : ltoUse.P.D) : Tr ltoUse.R.D := .bind (ltoLabel.F N (x.1.1, ())) fun x1 => .ret (x1, x.1.2)
def ltoUse.F (N : Nat) (x : ltoUse.P.D) : Option ltoUse.R.D := (ltoUse.T N x).run
abbrev ltoUseS.P : Ty := (.pair T29 .unit)
abbrev ltoUseS.R : Ty := T51
abbrev ltoUseS.C0_0 : Ty := (.pair T29 .unit)
abbrev ltoUseS.M0_0 : Ty := (.pair (.int .i64) (.pair T51 .unit))
abbrev ltoUseS.O0_0 : Ty := (.pair T51 .unit)
abbrev ltoUseS.Q0_0 : Ty := .unit
def ltoUseS.B0_0 (N : Nat) (c : ltoUseS.C0_0.D) (m : ltoUseS.M0_0.D) : Tr (Leaf ltoUseS.M0_0.D ltoUseS.O0_0.D ltoUseS.Q0_0.D) := .ite (ltI m.1 (lenI c.1)) (.bind (idx c.1 m.1) fun x1 => .bind (ltoUse.F N (x1, ())) fun x2 => .bind (idx m.2.1 m.1) fun _ => .bind (idx m.2.1 m.1) fun x3 => .ret (.more ((addW .i64 m.1 (1 : Int)), (List.set m.2.1 (Int.toNat m.1) x2), ()))) (.ret (.out m.2))
def ltoUseS.L0_0 (N : Nat) (c : ltoUseS.C0_0.D) (m : ltoUseS.M0_0.D) : Option (ltoUseS.O0_0.D ⊕ ltoUseS.Q0_0.D) := iterT (ltoUseS.B0_0 N c) N m
def ltoUseS.T (N : Nat) (x : ltoUseS.P.D) : Tr ltoUseS.R.D := .ite (eqI (lenI x.1) (lenI x.1) && inR 0 (lenI x.1) maxRow) (.bind (ltoUseS.L0_0 N x ((0 : Int), (List.replicate (Int.toNat (lenI x.1)) (Ty.zero T131)), ())) fun p1 => .sum p1 (fun a2 => .ret a2.1) (fun b3 => .no)) (.no)
def ltoUseS.F (N : Nat) (x : ltoUseS.P.D) : Option ltoUseS.R.D := (ltoUseS.T N x).run
abbrev ltoYard.P : Ty := (.pair T30 .unit)
abbrev ltoYard.R : Ty := T52
def ltoYard.T (N : Nat) (x : ltoYard.P.D) : Tr ltoYard.R.D := .bind (ltoConfig.F N (x.1.1, ())) fun x1 => .bind (ltoNodeS.F N (x.1.2.1, ())) fun x2 => .bind (ltoTaskS.F N (x.1.2.2.1, ())) fun x3 => .bind (ltoUseS.F N (x.1.2.2.2.1, ())) fun x4 => .ret (x1, x2, x3, x4, x.1.2.2.2.2)
def ltoYard.F (N : Nat) (x : ltoYard.P.D) : Option ltoYard.R.D := (ltoYard.T N x).run
abbrev ltoNote.P : Ty := (.pair T86 .unit)
abbrev ltoNote.R : Ty := T86
def ltoNote.T (N : Nat) (x : ltoNote.P.D) : Tr ltoNote.R.D := .ret x.1
def ltoNote.F (N : Nat) (x : ltoNote.P.D) : Option ltoNote.R.D := (ltoNote.T N x).run
abbrev ltoNoteS.P : Ty := (.pair T188 .unit)
abbrev ltoNoteS.R : Ty := T90
abbrev ltoNoteS.C0_0 : Ty := (.pair T188 .unit)
abbrev ltoNoteS.M0_0 : Ty := (.pair (.int .i64) (.pair T90 .unit))
abbrev ltoNoteS.O0_0 : Ty := (.pair T90 .unit)
abbrev ltoNoteS.Q0_0 : Ty := .unit
def ltoNoteS.B0_0 (N : Nat) (c : ltoNoteS.C0_0.D) (m : ltoNoteS.M0_0.D) : Tr (Leaf ltoNoteS.M0_0.D ltoNoteS.O0_0.D ltoNoteS.Q0_0.D) := .ite (ltI m.1 (lenI c.1)) (.bind (idx c.1 m.1) fun x1 => .bind (ltoNote.F N (x1, ())) fun x2 => .bind (idx m.2.1 m.1) fun _ => .bind (idx m.2.1 m.1) fun x3 => .ret (.more ((addW .i64 m.1 (1 : Int)), (List.set m.2.1 (Int.toNat m.1) x2), ()))) (.ret (.out m.2))
def ltoNoteS.L0_0 (N : Nat) (c : ltoNoteS.C0_0.D) (m : ltoNoteS.M0_0.D) : Option (ltoNoteS.O0_0.D ⊕ ltoNoteS.Q0_0.D) := iterT (ltoNoteS.B0_0 N c) N m
def ltoNoteS.T (N : Nat) (x : ltoNoteS.P.D) : Tr ltoNoteS.R.D := .ite (eqI (lenI x.1) (lenI x.1) && inR 0 (lenI x.1) maxRow) (.bind (ltoNoteS.L0_0 N x ((0 : Int), (List.replicate (Int.toNat (lenI x.1)) (Ty.zero T86)), ())) fun p1 => .sum p1 (fun a2 => .ret a2.1) (fun b3 => .no)) (.no)
def ltoNoteS.F (N : Nat) (x : ltoNoteS.P.D) : Option ltoNoteS.R.D := (ltoNoteS.T N x).run
abbrev ltoBox.P : Ty := (.pair T189 .unit)
abbrev ltoBox.R : Ty := T91
def ltoBox.T (N : Nat) (x : ltoBox.P.D) : Tr ltoBox.R.D := .bind (ltoInt64S.F N (x.1.1, ())) fun x1 => .bind (ltoInt64S.F N (x.1.2.1, ())) fun x2 => .bind (ltoNoteS.F N x.1.2.2) fun x3 => .ret (x1, x2, x3, ())
def ltoBox.F (N : Nat) (x : ltoBox.P.D) : Option ltoBox.R.D := (ltoBox.T N x).run
abbrev ltoBoxS.P : Ty := T33
abbrev ltoBoxS.R : Ty := T54
abbrev ltoBoxS.C0_0 : Ty := T33
abbrev ltoBoxS.M0_0 : Ty := (.pair (.int .i64) T55)
abbrev ltoBoxS.O0_0 : Ty := T55
abbrev ltoBoxS.Q0_0 : Ty := .unit
def ltoBoxS.B0_0 (N : Nat) (c : ltoBoxS.C0_0.D) (m : ltoBoxS.M0_0.D) : Tr (Leaf ltoBoxS.M0_0.D ltoBoxS.O0_0.D ltoBoxS.Q0_0.D) := .ite (ltI m.1 (lenI c.1)) (.bind (idx c.1 m.1) fun x1 => .bind (ltoBox.F N (x1, ())) fun x2 => .bind (idx m.2.1 m.1) fun _ => .bind (idx m.2.1 m.1) fun x3 => .ret (.more ((addW .i64 m.1 (1 : Int)), (List.set m.2.1 (Int.toNat m.1) x2), ()))) (.ret (.out m.2))
def ltoBoxS.L0_0 (N : Nat) (c : ltoBoxS.C0_0.D) (m : ltoBoxS.M0_0.D) : Option (ltoBoxS.O0_0.D ⊕ ltoBoxS.Q0_0.D) := iterT (ltoBoxS.B0_0 N c) N m
def ltoBoxS.T (N : Nat) (x : ltoBoxS.P.D) : Tr ltoBoxS.R.D := .ite (eqI (lenI x.1) (lenI x.1) && inR 0 (lenI x.1) maxRow) (.bind (ltoBoxS.L0_0 N x ((0 : Int), (List.replicate (Int.toNat (lenI x.1)) (Ty.zero T91)), ())) fun p1 => .sum p1 (fun a2 => .ret a2.1) (fun b3 => .no)) (.no)
def ltoBoxS.F (N : Nat) (x : ltoBoxS.P.D) : Option ltoBoxS.R.D := (ltoBoxS.T N x).run
abbrev ltoMail.P : Ty := (.pair T33 .unit)
abbrev ltoMail.R : Ty := T55
def ltoMail.T (N : Nat) (x : ltoMail.P.D) : Tr ltoMail.R.D := .bind (ltoBoxS.F N x.1) fun x1 => .ret (x1, ())
def ltoMail.F (N : Nat) (x : ltoMail.P.D) : Option ltoMail.R.D := (ltoMail.T N x).run
abbrev ltoState.P : Ty := (.pair T35 .unit)
abbrev ltoState.R : Ty := T57
def ltoState.T (N : Nat) (x : ltoState.P.D) : Tr ltoState.R.D := .bind (ltoYard.F N (x.1.1, ())) fun x1 => .bind (ltoMail.F N x.1.2) fun x2 => .ret (x1, x2, ())
def ltoState.F (N : Nat) (x : ltoState.P.D) : Option ltoState.R.D := (ltoState.T N x).run
abbrev ltoRegion.P : Ty := (.pair T104 .unit)
abbrev ltoRegion.R : Ty := T104
def ltoRegion.T (N : Nat) (x : ltoRegion.P.D) : Tr ltoRegion.R.D := .ret x.1
def ltoRegion.F (N : Nat) (x : ltoRegion.P.D) : Option ltoRegion.R.D := (ltoRegion.T N x).run
abbrev ltoRegionS.P : Ty := (.pair T37 .unit)
abbrev ltoRegionS.R : Ty := T59
abbrev ltoRegionS.C0_0 : Ty := (.pair T37 .unit)
abbrev ltoRegionS.M0_0 : Ty := (.pair (.int .i64) (.pair T59 .unit))
abbrev ltoRegionS.O0_0 : Ty := (.pair T59 .unit)
abbrev ltoRegionS.Q0_0 : Ty := .unit
def ltoRegionS.B0_0 (N : Nat) (c : ltoRegionS.C0_0.D) (m : ltoRegionS.M0_0.D) : Tr (Leaf ltoRegionS.M0_0.D ltoRegionS.O0_0.D ltoRegionS.Q0_0.D) := .ite (ltI m.1 (lenI c.1)) (.bind (idx c.1 m.1) fun x1 => .bind (ltoRegion.F N (x1, ())) fun x2 => .bind (idx m.2.1 m.1) fun _ => .bind (idx m.2.1 m.1) fun x3 => .ret (.more ((addW .i64 m.1 (1 : Int)), (List.set m.2.1 (Int.toNat m.1) x2), ()))) (.ret (.out m.2))
def ltoRegionS.L0_0 (N : Nat) (c : ltoRegionS.C0_0.D) (m : ltoRegionS.M0_0.D) : Option (ltoRegionS.O0_0.D ⊕ ltoRegionS.Q0_0.D) := iterT (ltoRegionS.B0_0 N c) N m
def ltoRegionS.T (N : Nat) (x : ltoRegionS.P.D) : Tr ltoRegionS.R.D := .ite (eqI (lenI x.1) (lenI x.1) && inR 0 (lenI x.1) maxRow) (.bind (ltoRegionS.L0_0 N x ((0 : Int), (List.replicate (Int.toNat (lenI x.1)) (Ty.zero T104)), ())) fun p1 => .sum p1 (fun a2 => .ret a2.1) (fun b3 => .no)) (.no)
def ltoRegionS.F (N : Nat) (x : ltoRegionS.P.D) : Option ltoRegionS.R.D := (ltoRegionS.T N x).run
abbrev ltoDisk.P : Ty := (.pair T38 .unit)
abbrev ltoDisk.R : Ty := T60
def ltoDisk.T (N : Nat) (x : ltoDisk.P.D) : Tr ltoDisk.R.D := .bind (ltoRegionS.F N (x.1.1, ())) fun x1 => .ret (x1, x.1.2)
def ltoDisk.F (N : Nat) (x : ltoDisk.P.D) : Option ltoDisk.R.D := (ltoDisk.T N x).run
abbrev ltoHouse.P : Ty := (.pair T40 .unit)
abbrev ltoHouse.R : Ty := T62
def ltoHouse.T (N : Nat) (x : ltoHouse.P.D) : Tr ltoHouse.R.D := .bind (ltoState.F N (x.1.1, ())) fun x1 => .bind (ltoDisk.F N (x.1.2.1, ())) fun x2 => .ret (x1, x2, x.1.2.2)
def ltoHouse.F (N : Nat) (x : ltoHouse.P.D) : Option ltoHouse.R.D := (ltoHouse.T N x).run
abbrev sl02Is.P : Ty := (.pair (.int .i64) T86)
abbrev sl02Is.R : Ty := .bool
def sl02Is.T (N : Nat) (x : sl02Is.P.D) : Tr sl02Is.R.D := .ite (leI x.2.1 x.1) (.ret (leI x.1 x.2.2.1)) (.ret false)
def sl02Is.F (N : Nat) (x : sl02Is.P.D) : Option sl02Is.R.D := (sl02Is.T N x).run
abbrev sl03Now.P : Ty := (.pair (.int .i64) .unit)
abbrev sl03Now.R : Ty := .bool
def sl03Now.T (N : Nat) (x : sl03Now.P.D) : Tr sl03Now.R.D := .bind (sl02Is.F N (x.1, (0 : Int), (999900 : Int), ())) fun x1 => .ret x1
def sl03Now.F (N : Nat) (x : sl03Now.P.D) : Option sl03Now.R.D := (sl03Now.T N x).run
abbrev sLabelRight.P : Ty := (.pair T86 .unit)
abbrev sLabelRight.R : Ty := .bool
def sLabelRight.T (N : Nat) (x : sLabelRight.P.D) : Tr sLabelRight.R.D := .bind (sl02Is.F N (x.1.1, (0 : Int), (3 : Int), ())) fun x1 => .ite x1 (.bind (sl02Is.F N (x.1.2.1, (0 : Int), (7 : Int), ())) fun x2 => .ret x2) (.ret false)
def sLabelRight.F (N : Nat) (x : sLabelRight.P.D) : Option sLabelRight.R.D := (sLabelRight.T N x).run
abbrev sl02Below.P : Ty := (.pair T86 (.pair T86 .unit))
abbrev sl02Below.R : Ty := .bool
def sl02Below.T (N : Nat) (x : sl02Below.P.D) : Tr sl02Below.R.D := .ite (leI x.1.1 x.2.1.1) (.ret (eqI (andW .i64 x.1.2.1 x.2.1.2.1) x.1.2.1)) (.ret false)
def sl02Below.F (N : Nat) (x : sl02Below.P.D) : Option sl02Below.R.D := (sl02Below.T N x).run
abbrev sChain.P : Ty := (.pair T82 .unit)
abbrev sChain.R : Ty := .bool
abbrev sChain.C0_0 : Ty := (.pair T82 .unit)
abbrev sChain.M0_0 : Ty := (.pair (.int .i64) .unit)
abbrev sChain.O0_0 : Ty := .unit
abbrev sChain.Q0_0 : Ty := (.pair .bool .unit)
def sChain.B0_0 (N : Nat) (c : sChain.C0_0.D) (m : sChain.M0_0.D) : Tr (Leaf sChain.M0_0.D sChain.O0_0.D sChain.Q0_0.D) := .ite (ltI m.1 (lenI c.1)) (.bind (idx c.1 m.1) fun x1 => .bind (sLabelRight.F N (x1, ())) fun x2 => .ite (!x2) (.ret (.ret (false, ()))) (.ite (ltI (0 : Int) m.1) (.bind (idx c.1 (subW .i64 m.1 (1 : Int))) fun x3 => .bind (idx c.1 m.1) fun x4 => .bind (sl02Below.F N (x3, x4, ())) fun x5 => .ite (!x5) (.ret (.ret (false, ()))) (.bind (idx c.1 (subW .i64 m.1 (1 : Int))) fun x6 => .bind (idx c.1 m.1) fun x7 => .ite (Ty.eqb T86 x6 x7) (.ret (.ret (false, ()))) (.ret (.more ((addW .i64 m.1 (1 : Int)), ()))))) (.ret (.more ((addW .i64 m.1 (1 : Int)), ()))))) (.ret (.out ()))
def sChain.L0_0 (N : Nat) (c : sChain.C0_0.D) (m : sChain.M0_0.D) : Option (sChain.O0_0.D ⊕ sChain.Q0_0.D) := iterT (sChain.B0_0 N c) N m
def sChain.T (N : Nat) (x : sChain.P.D) : Tr sChain.R.D := .ite (ltI (lenI x.1) (1 : Int)) (.ret false) (.ite (ltI (4 : Int) (lenI x.1)) (.ret false) (.bind (sChain.L0_0 N x ((0 : Int), ())) fun p1 => .sum p1 (fun a2 => .ret true) (fun b3 => .ret b3.1)))
def sChain.F (N : Nat) (x : sChain.P.D) : Option sChain.R.D := (sChain.T N x).run
abbrev sl05Clear.P : Ty := (.pair T44 .unit)
abbrev sl05Clear.R : Ty := .bool
abbrev sl05Clear.C0_0 : Ty := (.pair T44 .unit)
abbrev sl05Clear.M0_0 : Ty := (.pair (.int .i64) .unit)
abbrev sl05Clear.O0_0 : Ty := .unit
abbrev sl05Clear.Q0_0 : Ty := (.pair .bool .unit)
def sl05Clear.B0_0 (N : Nat) (c : sl05Clear.C0_0.D) (m : sl05Clear.M0_0.D) : Tr (Leaf sl05Clear.M0_0.D sl05Clear.O0_0.D sl05Clear.Q0_0.D) := .ite (ltI m.1 (lenI c.1)) (.ite (leI m.1 (6 : Int)) (.bind (idx c.1 m.1) fun x1 => .bind (sChain.F N (x1, ())) fun x2 => .ite (!x2) (.ret (.ret (false, ()))) (.ret (.more ((addW .i64 m.1 (1 : Int)), ())))) (.ret (.out ()))) (.ret (.out ()))
def sl05Clear.L0_0 (N : Nat) (c : sl05Clear.C0_0.D) (m : sl05Clear.M0_0.D) : Option (sl05Clear.O0_0.D ⊕ sl05Clear.Q0_0.D) := iterT (sl05Clear.B0_0 N c) N m
def sl05Clear.T (N : Nat) (x : sl05Clear.P.D) : Tr sl05Clear.R.D := .bind (sl05Clear.L0_0 N x ((0 : Int), ())) fun p1 => .sum p1 (fun a2 => .ite (leI (1 : Int) (lenI x.1)) (.ret (leI (lenI x.1) (6 : Int))) (.ret false)) (fun b3 => .ret b3.1)
def sl05Clear.F (N : Nat) (x : sl05Clear.P.D) : Option sl05Clear.R.D := (sl05Clear.T N x).run
abbrev sl05Cleared.P : Ty := (.pair T82 (.pair T86 .unit))
abbrev sl05Cleared.R : Ty := .bool
abbrev sl05Cleared.C0_0 : Ty := (.pair T82 T86)
abbrev sl05Cleared.M0_0 : Ty := (.pair (.int .i64) .unit)
abbrev sl05Cleared.O0_0 : Ty := .unit
abbrev sl05Cleared.Q0_0 : Ty := (.pair .bool .unit)
def sl05Cleared.B0_0 (N : Nat) (c : sl05Cleared.C0_0.D) (m : sl05Cleared.M0_0.D) : Tr (Leaf sl05Cleared.M0_0.D sl05Cleared.O0_0.D sl05Cleared.Q0_0.D) := .ite (ltI m.1 (lenI c.1)) (.bind (idx c.1 m.1) fun x1 => .ite (Ty.eqb T86 x1 c.2) (.ret (.ret (true, ()))) (.ret (.more ((addW .i64 m.1 (1 : Int)), ())))) (.ret (.out ()))
def sl05Cleared.L0_0 (N : Nat) (c : sl05Cleared.C0_0.D) (m : sl05Cleared.M0_0.D) : Option (sl05Cleared.O0_0.D ⊕ sl05Cleared.Q0_0.D) := iterT (sl05Cleared.B0_0 N c) N m
def sl05Cleared.T (N : Nat) (x : sl05Cleared.P.D) : Tr sl05Cleared.R.D := .bind (sl05Cleared.L0_0 N (x.1, x.2.1) ((0 : Int), ())) fun p1 => .sum p1 (fun a2 => .ret false) (fun b3 => .ret b3.1)
def sl05Cleared.F (N : Nat) (x : sl05Cleared.P.D) : Option sl05Cleared.R.D := (sl05Cleared.T N x).run
abbrev sl09Labels.P : Ty := (.pair T44 .unit)
abbrev sl09Labels.R : Ty := T82
abbrev sl09Labels.C0_4 : Ty := (.pair T44 (.pair (.int .i64) (.pair (.int .i64) (.pair (.int .i64) (.pair T82 .unit)))))
abbrev sl09Labels.M0_4 : Ty := (.pair .bool (.pair (.int .i64) .unit))
abbrev sl09Labels.O0_4 : Ty := (.pair .bool .unit)
abbrev sl09Labels.Q0_4 : Ty := .unit
def sl09Labels.B0_4 (N : Nat) (c : sl09Labels.C0_4.D) (m : sl09Labels.M0_4.D) : Tr (Leaf sl09Labels.M0_4.D sl09Labels.O0_4.D sl09Labels.Q0_4.D) := .ite (ltI m.2.1 (lenI c.1)) (.ite m.1 (.ret (.more (true, (addW .i64 m.2.1 (1 : Int)), ()))) (.bind (idx c.1 m.2.1) fun x1 => .bind (sl05Cleared.F N (x1, (c.2.2.1, c.2.2.2.1, ()), ())) fun x2 => .ret (.more (x2, (addW .i64 m.2.1 (1 : Int)), ())))) (.ret (.out (m.1, ())))
def sl09Labels.L0_4 (N : Nat) (c : sl09Labels.C0_4.D) (m : sl09Labels.M0_4.D) : Option (sl09Labels.O0_4.D ⊕ sl09Labels.Q0_4.D) := iterT (sl09Labels.B0_4 N c) N m
abbrev sl09Labels.C0_0 : Ty := (.pair T44 .unit)
abbrev sl09Labels.M0_0 : Ty := (.pair (.int .i64) (.pair T82 .unit))
abbrev sl09Labels.O0_0 : Ty := (.pair T82 .unit)
abbrev sl09Labels.Q0_0 : Ty := .unit
def sl09Labels.B0_0 (N : Nat) (c : sl09Labels.C0_0.D) (m : sl09Labels.M0_0.D) : Tr (Leaf sl09Labels.M0_0.D sl09Labels.O0_0.D sl09Labels.Q0_0.D) := .ite (ltI m.1 (32 : Int)) (.ite (eqI (8 : Int) 0) (.no) (.ite (eqI (8 : Int) 0) (.no) (.bind (sl09Labels.L0_4 N (c.1, m.1, (IntKind.wrap .i64 (Int.tdiv m.1 (8 : Int))), (Int.tmod m.1 (8 : Int)), m.2) (false, (0 : Int), ())) fun p1 => .sum p1 (fun a2 => .ite a2.1 (.ite (decide (List.length m.2.1 + List.length ([((IntKind.wrap .i64 (Int.tdiv m.1 (8 : Int))), (Int.tmod m.1 (8 : Int)), ())] : List (Ty.D T86)) ≤ maxRow) && true) (.ret (.more ((addW .i64 m.1 (1 : Int)), (m.2.1 ++ ([((IntKind.wrap .i64 (Int.tdiv m.1 (8 : Int))), (Int.tmod m.1 (8 : Int)), ())] : List (Ty.D T86))), ()))) (.no)) (.ret (.more ((addW .i64 m.1 (1 : Int)), m.2)))) (fun b3 => .no)))) (.ret (.out m.2))
def sl09Labels.L0_0 (N : Nat) (c : sl09Labels.C0_0.D) (m : sl09Labels.M0_0.D) : Option (sl09Labels.O0_0.D ⊕ sl09Labels.Q0_0.D) := iterT (sl09Labels.B0_0 N c) N m
def sl09Labels.T (N : Nat) (x : sl09Labels.P.D) : Tr sl09Labels.R.D := .bind (sl09Labels.L0_0 N x ((0 : Int), ([] : List (Ty.D T86)), ())) fun p1 => .sum p1 (fun a2 => .ret a2.1) (fun b3 => .no)
def sl09Labels.F (N : Nat) (x : sl09Labels.P.D) : Option sl09Labels.R.D := (sl09Labels.T N x).run
abbrev sl09Pairs.P : Ty := (.pair T82 (.pair T45 .unit))
abbrev sl09Pairs.R : Ty := .bool
abbrev sl09Pairs.C0_4 : Ty := (.pair T82 (.pair T45 (.pair (.int .i64) (.pair (.int .i64) (.pair (.int .i64) (.pair (.int .i64) T86))))))
abbrev sl09Pairs.M0_4 : Ty := (.pair (.int .i64) .unit)
abbrev sl09Pairs.O0_4 : Ty := .unit
abbrev sl09Pairs.Q0_4 : Ty := (.pair .bool .unit)
def sl09Pairs.B0_4 (N : Nat) (c : sl09Pairs.C0_4.D) (m : sl09Pairs.M0_4.D) : Tr (Leaf sl09Pairs.M0_4.D sl09Pairs.O0_4.D sl09Pairs.Q0_4.D) := .ite (ltI m.1 c.2.2.1) (.bind (idx c.2.1 m.1) fun x1 => .ite (Ty.eqb T86 x1.1 (c.2.2.2.1, c.2.2.2.2.1, ())) (.bind (idx c.2.1 m.1) fun x2 => .ite (Ty.eqb T86 x2.2.1 (c.2.2.2.2.2.1, c.2.2.2.2.2.2.1, ())) (.ret (.ret (false, ()))) (.ret (.more ((addW .i64 m.1 (1 : Int)), ())))) (.ret (.more ((addW .i64 m.1 (1 : Int)), ())))) (.ret (.out ()))
def sl09Pairs.L0_4 (N : Nat) (c : sl09Pairs.C0_4.D) (m : sl09Pairs.M0_4.D) : Option (sl09Pairs.O0_4.D ⊕ sl09Pairs.Q0_4.D) := iterT (sl09Pairs.B0_4 N c) N m
abbrev sl09Pairs.C0_0 : Ty := (.pair T82 (.pair T45 .unit))
abbrev sl09Pairs.M0_0 : Ty := (.pair (.int .i64) .unit)
abbrev sl09Pairs.O0_0 : Ty := .unit
abbrev sl09Pairs.Q0_0 : Ty := (.pair .bool .unit)
def sl09Pairs.B0_0 (N : Nat) (c : sl09Pairs.C0_0.D) (m : sl09Pairs.M0_0.D) : Tr (Leaf sl09Pairs.M0_0.D sl09Pairs.O0_0.D sl09Pairs.Q0_0.D) := .ite (ltI m.1 (lenI c.2.1)) (.bind (idx c.2.1 m.1) fun x1 => .bind (sl05Cleared.F N (c.1, x1.1, ())) fun x2 => .ite (!x2) (.ret (.ret (false, ()))) (.bind (sl05Cleared.F N (c.1, x1.2.1, ())) fun x3 => .ite (!x3) (.ret (.ret (false, ()))) (.bind (sl02Below.F N (x1.1, x1.2.1, ())) fun x4 => .ite x4 (.ret (.ret (false, ()))) (.bind (sl02Is.F N (x1.2.2.1, (1 : Int), (3 : Int), ())) fun x5 => .ite (!x5) (.ret (.ret (false, ()))) (.bind (sl09Pairs.L0_4 N (c.1, c.2.1, m.1, x1.1.1, x1.1.2.1, x1.2.1.1, x1.2.1.2.1, x1.2.2) ((0 : Int), ())) fun p6 => .sum p6 (fun a7 => .ret (.more ((addW .i64 m.1 (1 : Int)), ()))) (fun b8 => .ret (.ret b8))))))) (.ret (.out ()))
def sl09Pairs.L0_0 (N : Nat) (c : sl09Pairs.C0_0.D) (m : sl09Pairs.M0_0.D) : Option (sl09Pairs.O0_0.D ⊕ sl09Pairs.Q0_0.D) := iterT (sl09Pairs.B0_0 N c) N m
def sl09Pairs.T (N : Nat) (x : sl09Pairs.P.D) : Tr sl09Pairs.R.D := .ite (ltI (4 : Int) (lenI x.2.1)) (.ret false) (.bind (sl09Pairs.L0_0 N x ((0 : Int), ())) fun p1 => .sum p1 (fun a2 => .ret true) (fun b3 => .ret b3.1))
def sl09Pairs.F (N : Nat) (x : sl09Pairs.P.D) : Option sl09Pairs.R.D := (sl09Pairs.T N x).run
abbrev sl09Ord.P : Ty := (.pair T86 .unit)
abbrev sl09Ord.R : Ty := (.int .i64)
def sl09Ord.T (N : Nat) (x : sl09Ord.P.D) : Tr sl09Ord.R.D := .ret (addW .i64 (mulW .i64 (8 : Int) x.1.1) x.1.2.1)
def sl09Ord.F (N : Nat) (x : sl09Ord.P.D) : Option sl09Ord.R.D := (sl09Ord.T N x).run
abbrev sl09Quotas.P : Ty := (.pair T82 (.pair T46 .unit))
abbrev sl09Quotas.R : Ty := .bool
abbrev sl09Quotas.C0_0 : Ty := (.pair T82 (.pair T46 .unit))
abbrev sl09Quotas.M0_0 : Ty := (.pair (.int .i64) .unit)
abbrev sl09Quotas.O0_0 : Ty := .unit
abbrev sl09Quotas.Q0_0 : Ty := (.pair .bool .unit)
def sl09Quotas.B0_0 (N : Nat) (c : sl09Quotas.C0_0.D) (m : sl09Quotas.M0_0.D) : Tr (Leaf sl09Quotas.M0_0.D sl09Quotas.O0_0.D sl09Quotas.Q0_0.D) := .ite (ltI m.1 (lenI c.2.1)) (.bind (idx c.2.1 m.1) fun x1 => .bind (sl05Cleared.F N (c.1, x1.1, ())) fun x2 => .ite (!x2) (.ret (.ret (false, ()))) (.bind (idx c.2.1 m.1) fun x3 => .bind (sl02Is.F N (x3.2.1, (1 : Int), (9 : Int), ())) fun x4 => .ite (!x4) (.ret (.ret (false, ()))) (.ite (ltI (0 : Int) m.1) (.bind (idx c.2.1 (subW .i64 m.1 (1 : Int))) fun x5 => .bind (sl09Ord.F N (x5.1, ())) fun x6 => .bind (idx c.2.1 m.1) fun x7 => .bind (sl09Ord.F N (x7.1, ())) fun x8 => .ite (leI x8 x6) (.ret (.ret (false, ()))) (.ret (.more ((addW .i64 m.1 (1 : Int)), ())))) (.ret (.more ((addW .i64 m.1 (1 : Int)), ())))))) (.ret (.out ()))
def sl09Quotas.L0_0 (N : Nat) (c : sl09Quotas.C0_0.D) (m : sl09Quotas.M0_0.D) : Option (sl09Quotas.O0_0.D ⊕ sl09Quotas.Q0_0.D) := iterT (sl09Quotas.B0_0 N c) N m
def sl09Quotas.T (N : Nat) (x : sl09Quotas.P.D) : Tr sl09Quotas.R.D := .ite (ltI (8 : Int) (lenI x.2.1)) (.ret false) (.bind (sl09Quotas.L0_0 N x ((0 : Int), ())) fun p1 => .sum p1 (fun a2 => .ret true) (fun b3 => .ret b3.1))
def sl09Quotas.F (N : Nat) (x : sl09Quotas.P.D) : Option sl09Quotas.R.D := (sl09Quotas.T N x).run
abbrev sConfigRight.P : Ty := (.pair T47 .unit)
abbrev sConfigRight.R : Ty := .bool
def sConfigRight.T (N : Nat) (x : sConfigRight.P.D) : Tr sConfigRight.R.D := .bind (sl05Clear.F N (x.1.1, ())) fun x1 => .ite (!x1) (.ret false) (.bind (sl02Is.F N (x.1.2.2.2.1, (1 : Int), (9 : Int), ())) fun x2 => .ite (!x2) (.ret false) (.bind (sl09Labels.F N (x.1.1, ())) fun x3 => .ite (leI (lenI x3) (8 : Int)) (.bind (sl09Pairs.F N (x3, x.1.2.1, ())) fun x4 => .ite x4 (.bind (sl09Quotas.F N (x3, x.1.2.2.1, ())) fun x5 => .ret x5) (.ret false)) (.ret false)))
def sConfigRight.F (N : Nat) (x : sConfigRight.P.D) : Option sConfigRight.R.D := (sConfigRight.T N x).run
abbrev sl10State.P : Ty := (.pair (.int .i64) .unit)
abbrev sl10State.R : Ty := .bool
def sl10State.T (N : Nat) (x : sl10State.P.D) : Tr sl10State.R.D := .bind (sl02Is.F N (x.1, (1 : Int), (3 : Int), ())) fun x1 => .ret x1
def sl10State.F (N : Nat) (x : sl10State.P.D) : Option sl10State.R.D := (sl10State.T N x).run
abbrev sl02Time.P : Ty := (.pair (.int .i64) .unit)
abbrev sl02Time.R : Ty := .bool
def sl02Time.T (N : Nat) (x : sl02Time.P.D) : Tr sl02Time.R.D := .bind (sl02Is.F N (x.1, (0 : Int), (1000000 : Int), ())) fun x1 => .ret x1
def sl02Time.F (N : Nat) (x : sl02Time.P.D) : Option sl02Time.R.D := (sl02Time.T N x).run
abbrev sl03Span.P : Ty := (.pair T86 .unit)
abbrev sl03Span.R : Ty := .bool
def sl03Span.T (N : Nat) (x : sl03Span.P.D) : Tr sl03Span.R.D := .bind (sl02Time.F N (x.1.1, ())) fun x1 => .ite x1 (.ite (ltI x.1.1 x.1.2.1) (.ret (leI x.1.2.1 (1000000 : Int))) (.ret false)) (.ret false)
def sl03Span.F (N : Nat) (x : sl03Span.P.D) : Option sl03Span.R.D := (sl03Span.T N x).run
abbrev sSpansRight.P : Ty := (.pair T122 .unit)
abbrev sSpansRight.R : Ty := .bool
abbrev sSpansRight.C0_0 : Ty := (.pair T122 .unit)
abbrev sSpansRight.M0_0 : Ty := (.pair (.int .i64) .unit)
abbrev sSpansRight.O0_0 : Ty := .unit
abbrev sSpansRight.Q0_0 : Ty := (.pair .bool .unit)
def sSpansRight.B0_0 (N : Nat) (c : sSpansRight.C0_0.D) (m : sSpansRight.M0_0.D) : Tr (Leaf sSpansRight.M0_0.D sSpansRight.O0_0.D sSpansRight.Q0_0.D) := .ite (ltI m.1 (lenI c.1)) (.ite (leI m.1 (20 : Int)) (.bind (idx c.1 m.1) fun x1 => .bind (sl03Span.F N (x1, ())) fun x2 => .ite (!x2) (.ret (.ret (false, ()))) (.ite (ltI (0 : Int) m.1) (.bind (idx c.1 m.1) fun x3 => .bind (idx c.1 (subW .i64 m.1 (1 : Int))) fun x4 => .ite (ltI x3.1 x4.2.1) (.ret (.ret (false, ()))) (.ret (.more ((addW .i64 m.1 (1 : Int)), ())))) (.ret (.more ((addW .i64 m.1 (1 : Int)), ()))))) (.ret (.out ()))) (.ret (.out ()))
def sSpansRight.L0_0 (N : Nat) (c : sSpansRight.C0_0.D) (m : sSpansRight.M0_0.D) : Option (sSpansRight.O0_0.D ⊕ sSpansRight.Q0_0.D) := iterT (sSpansRight.B0_0 N c) N m
def sSpansRight.T (N : Nat) (x : sSpansRight.P.D) : Tr sSpansRight.R.D := .bind (sSpansRight.L0_0 N x ((0 : Int), ())) fun p1 => .sum p1 (fun a2 => .ret (leI (lenI x.1) (20 : Int))) (fun b3 => .ret b3.1)
def sSpansRight.F (N : Nat) (x : sSpansRight.P.D) : Option sSpansRight.R.D := (sSpansRight.T N x).run
abbrev sNodesRight.P : Ty := (.pair T49 .unit)
abbrev sNodesRight.R : Ty := .bool
abbrev sNodesRight.C0_0 : Ty := (.pair T49 .unit)
abbrev sNodesRight.M0_0 : Ty := (.pair (.int .i64) .unit)
abbrev sNodesRight.O0_0 : Ty := .unit
abbrev sNodesRight.Q0_0 : Ty := (.pair .bool .unit)
def sNodesRight.B0_0 (N : Nat) (c : sNodesRight.C0_0.D) (m : sNodesRight.M0_0.D) : Tr (Leaf sNodesRight.M0_0.D sNodesRight.O0_0.D sNodesRight.Q0_0.D) := .ite (ltI m.1 (lenI c.1)) (.bind (idx c.1 m.1) fun x1 => .bind (sl10State.F N (x1.1, ())) fun x2 => .ite (!x2) (.ret (.ret (false, ()))) (.bind (idx c.1 m.1) fun x3 => .ite (ltI (4 : Int) (lenI x3.2.1)) (.ret (.ret (false, ()))) (.bind (idx c.1 m.1) fun x4 => .bind (sSpansRight.F N x4.2) fun x5 => .ite (!x5) (.ret (.ret (false, ()))) (.ret (.more ((addW .i64 m.1 (1 : Int)), ())))))) (.ret (.out ()))
def sNodesRight.L0_0 (N : Nat) (c : sNodesRight.C0_0.D) (m : sNodesRight.M0_0.D) : Option (sNodesRight.O0_0.D ⊕ sNodesRight.Q0_0.D) := iterT (sNodesRight.B0_0 N c) N m
def sNodesRight.T (N : Nat) (x : sNodesRight.P.D) : Tr sNodesRight.R.D := .ite (ltI (lenI x.1) (1 : Int)) (.ret false) (.ite (ltI (6 : Int) (lenI x.1)) (.ret false) (.bind (sNodesRight.L0_0 N x ((0 : Int), ())) fun p1 => .sum p1 (fun a2 => .ret true) (fun b3 => .ret b3.1)))
def sNodesRight.F (N : Nat) (x : sNodesRight.P.D) : Option sNodesRight.R.D := (sNodesRight.T N x).run
abbrev sNameRight.P : Ty := (.pair .str .unit)
abbrev sNameRight.R : Ty := .bool
abbrev sNameRight.C0_0 : Ty := (.pair .str .unit)
abbrev sNameRight.M0_0 : Ty := (.pair (.int .i64) .unit)
abbrev sNameRight.O0_0 : Ty := .unit
abbrev sNameRight.Q0_0 : Ty := (.pair .bool .unit)
def sNameRight.B0_0 (N : Nat) (c : sNameRight.C0_0.D) (m : sNameRight.M0_0.D) : Tr (Leaf sNameRight.M0_0.D sNameRight.O0_0.D sNameRight.Q0_0.D) := .ite (ltI m.1 (lenI c.1)) (.bind (idx c.1 m.1) fun x1 => .ite (leI (97 : Int) ((UInt8.toNat x1 : Nat) : Int)) (.ite (!(leI ((UInt8.toNat x1 : Nat) : Int) (122 : Int))) (.ite (eqI m.1 (0 : Int)) (.ret (.ret (false, ()))) (.ite (leI (48 : Int) ((UInt8.toNat x1 : Nat) : Int)) (.ite (!(leI ((UInt8.toNat x1 : Nat) : Int) (57 : Int))) (.ite (!eqI ((UInt8.toNat x1 : Nat) : Int) (95 : Int)) (.ret (.ret (false, ()))) (.ret (.more ((addW .i64 m.1 (1 : Int)), ())))) (.ret (.more ((addW .i64 m.1 (1 : Int)), ())))) (.ite (!eqI ((UInt8.toNat x1 : Nat) : Int) (95 : Int)) (.ret (.ret (false, ()))) (.ret (.more ((addW .i64 m.1 (1 : Int)), ())))))) (.ret (.more ((addW .i64 m.1 (1 : Int)), ())))) (.ite (eqI m.1 (0 : Int)) (.ret (.ret (false, ()))) (.ite (leI (48 : Int) ((UInt8.toNat x1 : Nat) : Int)) (.ite (!(leI ((UInt8.toNat x1 : Nat) : Int) (57 : Int))) (.ite (!eqI ((UInt8.toNat x1 : Nat) : Int) (95 : Int)) (.ret (.ret (false, ()))) (.ret (.more ((addW .i64 m.1 (1 : Int)), ())))) (.ret (.more ((addW .i64 m.1 (1 : Int)), ())))) (.ite (!eqI ((UInt8.toNat x1 : Nat) : Int) (95 : Int)) (.ret (.ret (false, ()))) (.ret (.more ((addW .i64 m.1 (1 : Int)), ()))))))) (.ret (.out ()))
def sNameRight.L0_0 (N : Nat) (c : sNameRight.C0_0.D) (m : sNameRight.M0_0.D) : Option (sNameRight.O0_0.D ⊕ sNameRight.Q0_0.D) := iterT (sNameRight.B0_0 N c) N m
def sNameRight.T (N : Nat) (x : sNameRight.P.D) : Tr sNameRight.R.D := .ite (ltI (lenI x.1) (1 : Int)) (.ret false) (.ite (ltI (20 : Int) (lenI x.1)) (.ret false) (.bind (sNameRight.L0_0 N x ((0 : Int), ())) fun p1 => .sum p1 (fun a2 => .ret true) (fun b3 => .ret b3.1)))
def sNameRight.F (N : Nat) (x : sNameRight.P.D) : Option sNameRight.R.D := (sNameRight.T N x).run
abbrev sBelow.P : Ty := (.pair T86 (.pair T86 .unit))
abbrev sBelow.R : Ty := .bool
def sBelow.T (N : Nat) (x : sBelow.P.D) : Tr sBelow.R.D := .bind (sLabelRight.F N (x.1, ())) fun x1 => .ite x1 (.bind (sLabelRight.F N x.2) fun x2 => .ite x2 (.bind (sl02Below.F N x) fun x3 => .ret x3) (.ret false)) (.ret false)
def sBelow.F (N : Nat) (x : sBelow.P.D) : Option sBelow.R.D := (sBelow.T N x).run
abbrev sl04Nodes.P : Ty := (.pair T89 .unit)
abbrev sl04Nodes.R : Ty := .bool
abbrev sl04Nodes.C0_0 : Ty := (.pair T89 .unit)
abbrev sl04Nodes.M0_0 : Ty := (.pair (.int .i64) .unit)
abbrev sl04Nodes.O0_0 : Ty := .unit
abbrev sl04Nodes.Q0_0 : Ty := (.pair .bool .unit)
def sl04Nodes.B0_0 (N : Nat) (c : sl04Nodes.C0_0.D) (m : sl04Nodes.M0_0.D) : Tr (Leaf sl04Nodes.M0_0.D sl04Nodes.O0_0.D sl04Nodes.Q0_0.D) := .ite (ltI m.1 (lenI c.1)) (.bind (idx c.1 m.1) fun x1 => .bind (sl02Is.F N (x1, (0 : Int), (5 : Int), ())) fun x2 => .ite (!x2) (.ret (.ret (false, ()))) (.ite (ltI (0 : Int) m.1) (.bind (idx c.1 (subW .i64 m.1 (1 : Int))) fun x3 => .bind (idx c.1 m.1) fun x4 => .ite (leI x4 x3) (.ret (.ret (false, ()))) (.ret (.more ((addW .i64 m.1 (1 : Int)), ())))) (.ret (.more ((addW .i64 m.1 (1 : Int)), ()))))) (.ret (.out ()))
def sl04Nodes.L0_0 (N : Nat) (c : sl04Nodes.C0_0.D) (m : sl04Nodes.M0_0.D) : Option (sl04Nodes.O0_0.D ⊕ sl04Nodes.Q0_0.D) := iterT (sl04Nodes.B0_0 N c) N m
def sl04Nodes.T (N : Nat) (x : sl04Nodes.P.D) : Tr sl04Nodes.R.D := .bind (sl04Nodes.L0_0 N x ((0 : Int), ())) fun p1 => .sum p1 (fun a2 => .ret true) (fun b3 => .ret b3.1)
def sl04Nodes.F (N : Nat) (x : sl04Nodes.P.D) : Option sl04Nodes.R.D := (sl04Nodes.T N x).run
abbrev sTaskRight.P : Ty := (.pair T128 .unit)
abbrev sTaskRight.R : Ty := .bool
def sTaskRight.T (N : Nat) (x : sTaskRight.P.D) : Tr sTaskRight.R.D := .bind (sLabelRight.F N (x.1.1, ())) fun x1 => .ite (!x1) (.ret false) (.bind (sl02Is.F N (x.1.2.1, (1 : Int), (12 : Int), ())) fun x2 => .ite (!x2) (.ret false) (.bind (sNameRight.F N (x.1.2.2.1, ())) fun x3 => .ite (!x3) (.ret false) (.bind (sl02Is.F N (x.1.2.2.2.1, (1 : Int), (6 : Int), ())) fun x4 => .ite (!x4) (.ret false) (.bind (sl02Is.F N (x.1.2.2.2.2.1, (1 : Int), (20 : Int), ())) fun x5 => .ite (!x5) (.ret false) (.bind (sl02Is.F N (x.1.2.2.2.2.2.1, (0 : Int), (9 : Int), ())) fun x6 => .ite (!x6) (.ret false) (.bind (sl03Now.F N (x.1.2.2.2.2.2.2.2.2.1, ())) fun x7 => .ite (!x7) (.ret false) (.bind (sl02Is.F N (x.1.2.2.2.2.2.2.2.2.2.1, (1 : Int), (6 : Int), ())) fun x8 => .ite (!x8) (.ret false) (.ite (eqI x.1.2.2.2.2.2.2.2.1 (0 : Int)) (.ite (!Ty.eqb T86 x.1.2.2.2.2.2.2.1 ((0 : Int), (0 : Int), ())) (.ret false) (.ite (!eqI x.1.2.2.2.2.2.2.2.1 (0 : Int)) (.bind (sl02Is.F N (x.1.2.2.2.2.2.2.2.1, (1 : Int), (12 : Int), ())) fun x9 => .ite (!x9) (.ret false) (.bind (sBelow.F N (x.1.2.2.2.2.2.2.1, x.1.1, ())) fun x10 => .ite (!x10) (.ret false) (.ite (Ty.eqb T86 x.1.2.2.2.2.2.2.1 x.1.1) (.ite (leI x.1.2.1 x.1.2.2.2.2.2.2.2.1) (.ret false) (.ite (eqI x.1.2.2.2.2.2.2.2.2.2.1 (2 : Int)) (.bind (sl02Time.F N (x.1.2.2.2.2.2.2.2.2.2.2.1, ())) fun x11 => .ite x11 (.ite (eqI (lenI x.1.2.2.2.2.2.2.2.2.2.2.2.1) x.1.2.2.2.1) (.bind (sl04Nodes.F N x.1.2.2.2.2.2.2.2.2.2.2.2) fun x12 => .ret x12) (.ret false)) (.ret false)) (.ite (eqI x.1.2.2.2.2.2.2.2.2.2.1 (1 : Int)) (.ite (ltI (0 : Int) (lenI x.1.2.2.2.2.2.2.2.2.2.2.2.1)) (.bind (sl02Time.F N (x.1.2.2.2.2.2.2.2.2.2.2.1, ())) fun x13 => .ite x13 (.ite (eqI (lenI x.1.2.2.2.2.2.2.2.2.2.2.2.1) x.1.2.2.2.1) (.bind (sl04Nodes.F N x.1.2.2.2.2.2.2.2.2.2.2.2) fun x14 => .ret x14) (.ret false)) (.ret false)) (.ite (eqI x.1.2.2.2.2.2.2.2.2.2.2.1 (0 : Int)) (.ret (eqI (lenI x.1.2.2.2.2.2.2.2.2.2.2.2.1) (0 : Int))) (.ret false))) (.ite (eqI x.1.2.2.2.2.2.2.2.2.2.2.1 (0 : Int)) (.ret (eqI (lenI x.1.2.2.2.2.2.2.2.2.2.2.2.1) (0 : Int))) (.ret false))))) (.ite (eqI x.1.2.2.2.2.2.2.2.2.2.1 (2 : Int)) (.bind (sl02Time.F N (x.1.2.2.2.2.2.2.2.2.2.2.1, ())) fun x15 => .ite x15 (.ite (eqI (lenI x.1.2.2.2.2.2.2.2.2.2.2.2.1) x.1.2.2.2.1) (.bind (sl04Nodes.F N x.1.2.2.2.2.2.2.2.2.2.2.2) fun x16 => .ret x16) (.ret false)) (.ret false)) (.ite (eqI x.1.2.2.2.2.2.2.2.2.2.1 (1 : Int)) (.ite (ltI (0 : Int) (lenI x.1.2.2.2.2.2.2.2.2.2.2.2.1)) (.bind (sl02Time.F N (x.1.2.2.2.2.2.2.2.2.2.2.1, ())) fun x17 => .ite x17 (.ite (eqI (lenI x.1.2.2.2.2.2.2.2.2.2.2.2.1) x.1.2.2.2.1) (.bind (sl04Nodes.F N x.1.2.2.2.2.2.2.2.2.2.2.2) fun x18 => .ret x18) (.ret false)) (.ret false)) (.ite (eqI x.1.2.2.2.2.2.2.2.2.2.2.1 (0 : Int)) (.ret (eqI (lenI x.1.2.2.2.2.2.2.2.2.2.2.2.1) (0 : Int))) (.ret false))) (.ite (eqI x.1.2.2.2.2.2.2.2.2.2.2.1 (0 : Int)) (.ret (eqI (lenI x.1.2.2.2.2.2.2.2.2.2.2.2.1) (0 : Int))) (.ret false))))))) (.ite (eqI x.1.2.2.2.2.2.2.2.2.2.1 (2 : Int)) (.bind (sl02Time.F N (x.1.2.2.2.2.2.2.2.2.2.2.1, ())) fun x19 => .ite x19 (.ite (eqI (lenI x.1.2.2.2.2.2.2.2.2.2.2.2.1) x.1.2.2.2.1) (.bind (sl04Nodes.F N x.1.2.2.2.2.2.2.2.2.2.2.2) fun x20 => .ret x20) (.ret false)) (.ret false)) (.ite (eqI x.1.2.2.2.2.2.2.2.2.2.1 (1 : Int)) (.ite (ltI (0 : Int) (lenI x.1.2.2.2.2.2.2.2.2.2.2.2.1)) (.bind (sl02Time.F N (x.1.2.2.2.2.2.2.2.2.2.2.1, ())) fun x21 => .ite x21 (.ite (eqI (lenI x.1.2.2.2.2.2.2.2.2.2.2.2.1) x.1.2.2.2.1) (.bind (sl04Nodes.F N x.1.2.2.2.2.2.2.2.2.2.2.2) fun x22 => .ret x22) (.ret false)) (.ret false)) (.ite (eqI x.1.2.2.2.2.2.2.2.2.2.2.1 (0 : Int)) (.ret (eqI (lenI x.1.2.2.2.2.2.2.2.2.2.2.2.1) (0 : Int))) (.ret false))) (.ite (eqI x.1.2.2.2.2.2.2.2.2.2.2.1 (0 : Int)) (.ret (eqI (lenI x.1.2.2.2.2.2.2.2.2.2.2.2.1) (0 : Int))) (.ret false)))))) (.ite (!eqI x.1.2.2.2.2.2.2.2.1 (0 : Int)) (.bind (sl02Is.F N (x.1.2.2.2.2.2.2.2.1, (1 : Int), (12 : Int), ())) fun x23 => .ite (!x23) (.ret false) (.bind (sBelow.F N (x.1.2.2.2.2.2.2.1, x.1.1, ())) fun x24 => .ite (!x24) (.ret false) (.ite (Ty.eqb T86 x.1.2.2.2.2.2.2.1 x.1.1) (.ite (leI x.1.2.1 x.1.2.2.2.2.2.2.2.1) (.ret false) (.ite (eqI x.1.2.2.2.2.2.2.2.2.2.1 (2 : Int)) (.bind (sl02Time.F N (x.1.2.2.2.2.2.2.2.2.2.2.1, ())) fun x25 => .ite x25 (.ite (eqI (lenI x.1.2.2.2.2.2.2.2.2.2.2.2.1) x.1.2.2.2.1) (.bind (sl04Nodes.F N x.1.2.2.2.2.2.2.2.2.2.2.2) fun x26 => .ret x26) (.ret false)) (.ret false)) (.ite (eqI x.1.2.2.2.2.2.2.2.2.2.1 (1 : Int)) (.ite (ltI (0 : Int) (lenI x.1.2.2.2.2.2.2.2.2.2.2.2.1)) (.bind (sl02Time.F N (x.1.2.2.2.2.2.2.2.2.2.2.1, ())) fun x27 => .ite x27 (.ite (eqI (lenI x.1.2.2.2.2.2.2.2.2.2.2.2.1) x.1.2.2.2.1) (.bind (sl04Nodes.F N x.1.2.2.2.2.2.2.2.2.2.2.2) fun x28 => .ret x28) (.ret false)) (.ret false)) (.ite (eqI x.1.2.2.2.2.2.2.2.2.2.2.1 (0 : Int)) (.ret (eqI (lenI x.1.2.2.2.2.2.2.2.2.2.2.2.1) (0 : Int))) (.ret false))) (.ite (eqI x.1.2.2.2.2.2.2.2.2.2.2.1 (0 : Int)) (.ret (eqI (lenI x.1.2.2.2.2.2.2.2.2.2.2.2.1) (0 : Int))) (.ret false))))) (.ite (eqI x.1.2.2.2.2.2.2.2.2.2.1 (2 : Int)) (.bind (sl02Time.F N (x.1.2.2.2.2.2.2.2.2.2.2.1, ())) fun x29 => .ite x29 (.ite (eqI (lenI x.1.2.2.2.2.2.2.2.2.2.2.2.1) x.1.2.2.2.1) (.bind (sl04Nodes.F N x.1.2.2.2.2.2.2.2.2.2.2.2) fun x30 => .ret x30) (.ret false)) (.ret false)) (.ite (eqI x.1.2.2.2.2.2.2.2.2.2.1 (1 : Int)) (.ite (ltI (0 : Int) (lenI x.1.2.2.2.2.2.2.2.2.2.2.2.1)) (.bind (sl02Time.F N (x.1.2.2.2.2.2.2.2.2.2.2.1, ())) fun x31 => .ite x31 (.ite (eqI (lenI x.1.2.2.2.2.2.2.2.2.2.2.2.1) x.1.2.2.2.1) (.bind (sl04Nodes.F N x.1.2.2.2.2.2.2.2.2.2.2.2) fun x32 => .ret x32) (.ret false)) (.ret false)) (.ite (eqI x.1.2.2.2.2.2.2.2.2.2.2.1 (0 : Int)) (.ret (eqI (lenI x.1.2.2.2.2.2.2.2.2.2.2.2.1) (0 : Int))) (.ret false))) (.ite (eqI x.1.2.2.2.2.2.2.2.2.2.2.1 (0 : Int)) (.ret (eqI (lenI x.1.2.2.2.2.2.2.2.2.2.2.2.1) (0 : Int))) (.ret false))))))) (.ite (eqI x.1.2.2.2.2.2.2.2.2.2.1 (2 : Int)) (.bind (sl02Time.F N (x.1.2.2.2.2.2.2.2.2.2.2.1, ())) fun x33 => .ite x33 (.ite (eqI (lenI x.1.2.2.2.2.2.2.2.2.2.2.2.1) x.1.2.2.2.1) (.bind (sl04Nodes.F N x.1.2.2.2.2.2.2.2.2.2.2.2) fun x34 => .ret x34) (.ret false)) (.ret false)) (.ite (eqI x.1.2.2.2.2.2.2.2.2.2.1 (1 : Int)) (.ite (ltI (0 : Int) (lenI x.1.2.2.2.2.2.2.2.2.2.2.2.1)) (.bind (sl02Time.F N (x.1.2.2.2.2.2.2.2.2.2.2.1, ())) fun x35 => .ite x35 (.ite (eqI (lenI x.1.2.2.2.2.2.2.2.2.2.2.2.1) x.1.2.2.2.1) (.bind (sl04Nodes.F N x.1.2.2.2.2.2.2.2.2.2.2.2) fun x36 => .ret x36) (.ret false)) (.ret false)) (.ite (eqI x.1.2.2.2.2.2.2.2.2.2.2.1 (0 : Int)) (.ret (eqI (lenI x.1.2.2.2.2.2.2.2.2.2.2.2.1) (0 : Int))) (.ret false))) (.ite (eqI x.1.2.2.2.2.2.2.2.2.2.2.1 (0 : Int)) (.ret (eqI (lenI x.1.2.2.2.2.2.2.2.2.2.2.2.1) (0 : Int))) (.ret false)))))))))))))
def sTaskRight.F (N : Nat) (x : sTaskRight.P.D) : Option sTaskRight.R.D := (sTaskRight.T N x).run
abbrev sl12At.P : Ty := (.pair T50 T218)
abbrev sl12At.R : Ty := (.int .i64)
abbrev sl12At.C0_0 : Ty := (.pair T50 (.pair (.int .i64) T86))
abbrev sl12At.M0_0 : Ty := (.pair (.int .i64) .unit)
abbrev sl12At.O0_0 : Ty := .unit
abbrev sl12At.Q0_0 : Ty := (.pair (.int .i64) .unit)
def sl12At.B0_0 (N : Nat) (c : sl12At.C0_0.D) (m : sl12At.M0_0.D) : Tr (Leaf sl12At.M0_0.D sl12At.O0_0.D sl12At.Q0_0.D) := .ite (ltI m.1 (lenI c.1)) (.bind (idx c.1 m.1) fun x1 => .ite (Ty.eqb T86 x1.1 c.2.2) (.bind (idx c.1 m.1) fun x2 => .ite (eqI x2.2.1 c.2.1) (.ret (.ret m)) (.ret (.more ((addW .i64 m.1 (1 : Int)), ())))) (.ret (.more ((addW .i64 m.1 (1 : Int)), ())))) (.ret (.out ()))
def sl12At.L0_0 (N : Nat) (c : sl12At.C0_0.D) (m : sl12At.M0_0.D) : Option (sl12At.O0_0.D ⊕ sl12At.Q0_0.D) := iterT (sl12At.B0_0 N c) N m
def sl12At.T (N : Nat) (x : sl12At.P.D) : Tr sl12At.R.D := .bind (sl12At.L0_0 N (x.1, x.2.2.1, x.2.1) ((0 : Int), ())) fun p1 => .sum p1 (fun a2 => .ret (-1 : Int)) (fun b3 => .ret b3.1)
def sl12At.F (N : Nat) (x : sl12At.P.D) : Option sl12At.R.D := (sl12At.T N x).run
abbrev sTasksRight.P : Ty := (.pair T50 .unit)
abbrev sTasksRight.R : Ty := .bool
abbrev sTasksRight.C0_0 : Ty := (.pair T50 .unit)
abbrev sTasksRight.M0_0 : Ty := (.pair (.int .i64) .unit)
abbrev sTasksRight.O0_0 : Ty := .unit
abbrev sTasksRight.Q0_0 : Ty := (.pair .bool .unit)
def sTasksRight.B0_0 (N : Nat) (c : sTasksRight.C0_0.D) (m : sTasksRight.M0_0.D) : Tr (Leaf sTasksRight.M0_0.D sTasksRight.O0_0.D sTasksRight.Q0_0.D) := .ite (ltI m.1 (lenI c.1)) (.bind (idx c.1 m.1) fun x1 => .bind (sTaskRight.F N (x1, ())) fun x2 => .ite (!x2) (.ret (.ret (false, ()))) (.ite (eqI m.1 (0 : Int)) (.ite (!eqI x1.2.1 (1 : Int)) (.ret (.ret (false, ()))) (.ite (!eqI x1.2.2.2.2.2.2.2.1 (0 : Int)) (.ite (inR 0 (0 : Int) m.1 && leI m.1 (lenI c.1)) (.bind (sl12At.F N ((List.drop (Int.toNat (0 : Int)) (List.take (Int.toNat m.1) c.1)), x1.2.2.2.2.2.2.1, x1.2.2.2.2.2.2.2.1, ())) fun x3 => .ite (ltI x3 (0 : Int)) (.ret (.ret (false, ()))) (.ret (.more ((addW .i64 m.1 (1 : Int)), ())))) (.no)) (.ret (.more ((addW .i64 m.1 (1 : Int)), ()))))) (.bind (idx c.1 (subW .i64 m.1 (1 : Int))) fun x4 => .bind (sl09Ord.F N (x4.1, ())) fun x5 => .bind (sl09Ord.F N (x1.1, ())) fun x6 => .ite (ltI x5 x6) (.ite (!eqI x1.2.1 (1 : Int)) (.ret (.ret (false, ()))) (.ite (!(ltI x5 x6)) (.bind (idx c.1 (subW .i64 m.1 (1 : Int))) fun x7 => .ite (!Ty.eqb T86 x7.1 x1.1) (.ret (.ret (false, ()))) (.bind (idx c.1 (subW .i64 m.1 (1 : Int))) fun x8 => .ite (!eqI (addW .i64 x8.2.1 (1 : Int)) x1.2.1) (.ret (.ret (false, ()))) (.ite (!eqI x1.2.2.2.2.2.2.2.1 (0 : Int)) (.ite (inR 0 (0 : Int) m.1 && leI m.1 (lenI c.1)) (.bind (sl12At.F N ((List.drop (Int.toNat (0 : Int)) (List.take (Int.toNat m.1) c.1)), x1.2.2.2.2.2.2.1, x1.2.2.2.2.2.2.2.1, ())) fun x9 => .ite (ltI x9 (0 : Int)) (.ret (.ret (false, ()))) (.ret (.more ((addW .i64 m.1 (1 : Int)), ())))) (.no)) (.ret (.more ((addW .i64 m.1 (1 : Int)), ())))))) (.ite (!eqI x1.2.2.2.2.2.2.2.1 (0 : Int)) (.ite (inR 0 (0 : Int) m.1 && leI m.1 (lenI c.1)) (.bind (sl12At.F N ((List.drop (Int.toNat (0 : Int)) (List.take (Int.toNat m.1) c.1)), x1.2.2.2.2.2.2.1, x1.2.2.2.2.2.2.2.1, ())) fun x10 => .ite (ltI x10 (0 : Int)) (.ret (.ret (false, ()))) (.ret (.more ((addW .i64 m.1 (1 : Int)), ())))) (.no)) (.ret (.more ((addW .i64 m.1 (1 : Int)), ())))))) (.ite (!(ltI x5 x6)) (.bind (idx c.1 (subW .i64 m.1 (1 : Int))) fun x11 => .ite (!Ty.eqb T86 x11.1 x1.1) (.ret (.ret (false, ()))) (.bind (idx c.1 (subW .i64 m.1 (1 : Int))) fun x12 => .ite (!eqI (addW .i64 x12.2.1 (1 : Int)) x1.2.1) (.ret (.ret (false, ()))) (.ite (!eqI x1.2.2.2.2.2.2.2.1 (0 : Int)) (.ite (inR 0 (0 : Int) m.1 && leI m.1 (lenI c.1)) (.bind (sl12At.F N ((List.drop (Int.toNat (0 : Int)) (List.take (Int.toNat m.1) c.1)), x1.2.2.2.2.2.2.1, x1.2.2.2.2.2.2.2.1, ())) fun x13 => .ite (ltI x13 (0 : Int)) (.ret (.ret (false, ()))) (.ret (.more ((addW .i64 m.1 (1 : Int)), ())))) (.no)) (.ret (.more ((addW .i64 m.1 (1 : Int)), ())))))) (.ite (!eqI x1.2.2.2.2.2.2.2.1 (0 : Int)) (.ite (inR 0 (0 : Int) m.1 && leI m.1 (lenI c.1)) (.bind (sl12At.F N ((List.drop (Int.toNat (0 : Int)) (List.take (Int.toNat m.1) c.1)), x1.2.2.2.2.2.2.1, x1.2.2.2.2.2.2.2.1, ())) fun x14 => .ite (ltI x14 (0 : Int)) (.ret (.ret (false, ()))) (.ret (.more ((addW .i64 m.1 (1 : Int)), ())))) (.no)) (.ret (.more ((addW .i64 m.1 (1 : Int)), ())))))))) (.ret (.out ()))
def sTasksRight.L0_0 (N : Nat) (c : sTasksRight.C0_0.D) (m : sTasksRight.M0_0.D) : Option (sTasksRight.O0_0.D ⊕ sTasksRight.Q0_0.D) := iterT (sTasksRight.B0_0 N c) N m
def sTasksRight.T (N : Nat) (x : sTasksRight.P.D) : Tr sTasksRight.R.D := .ite (ltI (96 : Int) (lenI x.1)) (.ret false) (.bind (sTasksRight.L0_0 N x ((0 : Int), ())) fun p1 => .sum p1 (fun a2 => .ret true) (fun b3 => .ret b3.1))
def sTasksRight.F (N : Nat) (x : sTasksRight.P.D) : Option sTasksRight.R.D := (sTasksRight.T N x).run
abbrev sl11Less.P : Ty := (.pair T131 (.pair T131 .unit))
abbrev sl11Less.R : Ty := .bool
def sl11Less.T (N : Nat) (x : sl11Less.P.D) : Tr sl11Less.R.D := .ite (!Ty.eqb T86 x.1.1 x.2.1.1) (.bind (sl09Ord.F N (x.1.1, ())) fun x1 => .bind (sl09Ord.F N (x.2.1.1, ())) fun x2 => .ret (ltI x1 x2)) (.ret (Go.Op.bytesLess x.1.2.1 x.2.1.2.1))
def sl11Less.F (N : Nat) (x : sl11Less.P.D) : Option sl11Less.R.D := (sl11Less.T N x).run
abbrev sUsesRight.P : Ty := (.pair T51 .unit)
abbrev sUsesRight.R : Ty := .bool
abbrev sUsesRight.C0_0 : Ty := (.pair T51 .unit)
abbrev sUsesRight.M0_0 : Ty := T86
abbrev sUsesRight.O0_0 : Ty := .unit
abbrev sUsesRight.Q0_0 : Ty := (.pair .bool .unit)
def sUsesRight.B0_0 (N : Nat) (c : sUsesRight.C0_0.D) (m : sUsesRight.M0_0.D) : Tr (Leaf sUsesRight.M0_0.D sUsesRight.O0_0.D sUsesRight.Q0_0.D) := .ite (ltI m.2.1 (lenI c.1)) (.bind (idx c.1 m.2.1) fun x1 => .bind (sLabelRight.F N (x1.1, ())) fun x2 => .ite (!x2) (.ret (.ret (false, ()))) (.bind (idx c.1 m.2.1) fun x3 => .bind (sNameRight.F N (x3.2.1, ())) fun x4 => .ite (!x4) (.ret (.ret (false, ()))) (.bind (idx c.1 m.2.1) fun x5 => .bind (sl02Is.F N (x5.2.2.1, (1 : Int), (100000 : Int), ())) fun x6 => .ite (!x6) (.ret (.ret (false, ()))) (.ite (ltI (0 : Int) m.2.1) (.bind (idx c.1 (subW .i64 m.2.1 (1 : Int))) fun x7 => .bind (idx c.1 m.2.1) fun x8 => .bind (sl11Less.F N (x7, x8, ())) fun x9 => .ite (!x9) (.ret (.ret (false, ()))) (.ite (ltI (0 : Int) m.2.1) (.bind (idx c.1 (subW .i64 m.2.1 (1 : Int))) fun x10 => .bind (idx c.1 m.2.1) fun x11 => .ite (Ty.eqb T86 x10.1 x11.1) (.ite (ltI (6 : Int) (addW .i64 m.1 (1 : Int))) (.ret (.ret (false, ()))) (.ret (.more ((addW .i64 m.1 (1 : Int)), (addW .i64 m.2.1 (1 : Int)), ())))) (.ite (ltI (6 : Int) (1 : Int)) (.ret (.ret (false, ()))) (.ret (.more ((1 : Int), (addW .i64 m.2.1 (1 : Int)), ()))))) (.ite (ltI (6 : Int) (1 : Int)) (.ret (.ret (false, ()))) (.ret (.more ((1 : Int), (addW .i64 m.2.1 (1 : Int)), ())))))) (.ite (ltI (0 : Int) m.2.1) (.bind (idx c.1 (subW .i64 m.2.1 (1 : Int))) fun x12 => .bind (idx c.1 m.2.1) fun x13 => .ite (Ty.eqb T86 x12.1 x13.1) (.ite (ltI (6 : Int) (addW .i64 m.1 (1 : Int))) (.ret (.ret (false, ()))) (.ret (.more ((addW .i64 m.1 (1 : Int)), (addW .i64 m.2.1 (1 : Int)), ())))) (.ite (ltI (6 : Int) (1 : Int)) (.ret (.ret (false, ()))) (.ret (.more ((1 : Int), (addW .i64 m.2.1 (1 : Int)), ()))))) (.ite (ltI (6 : Int) (1 : Int)) (.ret (.ret (false, ()))) (.ret (.more ((1 : Int), (addW .i64 m.2.1 (1 : Int)), ()))))))))) (.ret (.out ()))
def sUsesRight.L0_0 (N : Nat) (c : sUsesRight.C0_0.D) (m : sUsesRight.M0_0.D) : Option (sUsesRight.O0_0.D ⊕ sUsesRight.Q0_0.D) := iterT (sUsesRight.B0_0 N c) N m
def sUsesRight.T (N : Nat) (x : sUsesRight.P.D) : Tr sUsesRight.R.D := .ite (ltI (48 : Int) (lenI x.1)) (.ret false) (.bind (sUsesRight.L0_0 N x ((0 : Int), (0 : Int), ())) fun p1 => .sum p1 (fun a2 => .ret true) (fun b3 => .ret b3.1))
def sUsesRight.F (N : Nat) (x : sUsesRight.P.D) : Option sUsesRight.R.D := (sUsesRight.T N x).run
abbrev sl13Clear.P : Ty := (.pair T47 (.pair T86 .unit))
abbrev sl13Clear.R : Ty := (.int .i64)
abbrev sl13Clear.C0_0 : Ty := (.pair T44 (.pair T45 (.pair T46 (.pair (.int .i64) T86))))
abbrev sl13Clear.M0_0 : Ty := T86
abbrev sl13Clear.O0_0 : Ty := (.pair (.int .i64) .unit)
abbrev sl13Clear.Q0_0 : Ty := .unit
def sl13Clear.B0_0 (N : Nat) (c : sl13Clear.C0_0.D) (m : sl13Clear.M0_0.D) : Tr (Leaf sl13Clear.M0_0.D sl13Clear.O0_0.D sl13Clear.Q0_0.D) := .ite (ltI m.2.1 (lenI c.1)) (.bind (idx c.1 m.2.1) fun x1 => .bind (sl05Cleared.F N (x1, c.2.2.2.2, ())) fun x2 => .ite x2 (.ret (.more ((addW .i64 m.1 (1 : Int)), (addW .i64 m.2.1 (1 : Int)), ()))) (.ret (.more (m.1, (addW .i64 m.2.1 (1 : Int)), ())))) (.ret (.out (m.1, ())))
def sl13Clear.L0_0 (N : Nat) (c : sl13Clear.C0_0.D) (m : sl13Clear.M0_0.D) : Option (sl13Clear.O0_0.D ⊕ sl13Clear.Q0_0.D) := iterT (sl13Clear.B0_0 N c) N m
def sl13Clear.T (N : Nat) (x : sl13Clear.P.D) : Tr sl13Clear.R.D := .bind (sl13Clear.L0_0 N (x.1.1, x.1.2.1, x.1.2.2.1, x.1.2.2.2.1, x.2.1) ((0 : Int), (0 : Int), ())) fun p1 => .sum p1 (fun a2 => .ret a2.1) (fun b3 => .no)
def sl13Clear.F (N : Nat) (x : sl13Clear.P.D) : Option sl13Clear.R.D := (sl13Clear.T N x).run
abbrev sl13End.P : Ty := (.pair T128 .unit)
abbrev sl13End.R : Ty := (.int .i64)
def sl13End.T (N : Nat) (x : sl13End.P.D) : Tr sl13End.R.D := .ret (addW .i64 (addW .i64 x.1.2.2.2.2.2.2.2.2.2.2.1 (1 : Int)) x.1.2.2.2.2.1)
def sl13End.F (N : Nat) (x : sl13End.P.D) : Option sl13End.R.D := (sl13End.T N x).run
abbrev sl13Task.P : Ty := (.pair T52 (.pair T128 .unit))
abbrev sl13Task.R : Ty := .bool
abbrev sl13Task.C0_0 : Ty := (.pair T44 (.pair T45 (.pair T46 (.pair (.int .i64) (.pair T49 (.pair T50 (.pair T51 (.pair (.int .i64) (.pair (.int .i64) (.pair (.int .i64) (.pair (.int .i64) (.pair .str (.pair (.int .i64) (.pair (.int .i64) (.pair (.int .i64) (.pair (.int .i64) (.pair (.int .i64) (.pair (.int .i64) (.pair (.int .i64) (.pair (.int .i64) (.pair (.int .i64) (.pair T89 .unit))))))))))))))))))))))
abbrev sl13Task.M0_0 : Ty := (.pair (.int .i64) .unit)
abbrev sl13Task.O0_0 : Ty := .unit
abbrev sl13Task.Q0_0 : Ty := (.pair .bool .unit)
def sl13Task.B0_0 (N : Nat) (c : sl13Task.C0_0.D) (m : sl13Task.M0_0.D) : Tr (Leaf sl13Task.M0_0.D sl13Task.O0_0.D sl13Task.Q0_0.D) := .ite (ltI m.1 (lenI c.2.2.2.2.2.2.2.2.2.2.2.2.2.2.2.2.2.2.2.2.2.1)) (.bind (idx c.2.2.2.2.2.2.2.2.2.2.2.2.2.2.2.2.2.2.2.2.2.1 m.1) fun x1 => .ite (leI (lenI c.2.2.2.2.1) x1) (.ret (.ret (false, ()))) (.bind (idx c.2.2.2.2.2.2.2.2.2.2.2.2.2.2.2.2.2.2.2.2.2.1 m.1) fun x2 => .bind (idx c.1 x2) fun x3 => .bind (sl05Cleared.F N (x3, (c.2.2.2.2.2.2.2.2.1, c.2.2.2.2.2.2.2.2.2.1, ()), ())) fun x4 => .ite (!x4) (.ret (.ret (false, ()))) (.ret (.more ((addW .i64 m.1 (1 : Int)), ()))))) (.ret (.out ()))
def sl13Task.L0_0 (N : Nat) (c : sl13Task.C0_0.D) (m : sl13Task.M0_0.D) : Option (sl13Task.O0_0.D ⊕ sl13Task.Q0_0.D) := iterT (sl13Task.B0_0 N c) N m
def sl13Task.T (N : Nat) (x : sl13Task.P.D) : Tr sl13Task.R.D := .bind (sl13Clear.F N (x.1.1, x.2.1.1, ())) fun x1 => .ite (ltI x1 x.2.1.2.2.2.1) (.ret false) (.ite (ltI x.1.2.2.2.2.1 x.2.1.2.2.2.2.2.2.2.2.1) (.ret false) (.bind (sl13Task.L0_0 N (x.1.1.1, x.1.1.2.1, x.1.1.2.2.1, x.1.1.2.2.2.1, x.1.2.1, x.1.2.2.1, x.1.2.2.2.1, x.1.2.2.2.2.1, x.2.1.1.1, x.2.1.1.2.1, x.2.1.2.1, x.2.1.2.2.1, x.2.1.2.2.2.1, x.2.1.2.2.2.2.1, x.2.1.2.2.2.2.2.1, x.2.1.2.2.2.2.2.2.1.1, x.2.1.2.2.2.2.2.2.1.2.1, x.2.1.2.2.2.2.2.2.2) ((0 : Int), ())) fun p2 => .sum p2 (fun a3 => .ite (eqI x.2.1.2.2.2.2.2.2.2.2.2.1 (2 : Int)) (.ite (leI x.2.1.2.2.2.2.2.2.2.2.2.2.1 x.1.2.2.2.2.1) (.bind (sl13End.F N x.2) fun x5 => .ret (ltI x.1.2.2.2.2.1 x5)) (.ret false)) (.ite (eqI (lenI x.2.1.2.2.2.2.2.2.2.2.2.2.2.1) (0 : Int)) (.ret true) (.ite (ltI x.1.2.2.2.2.1 x.2.1.2.2.2.2.2.2.2.2.2.2.1) (.ret (leI x.2.1.2.2.2.2.2.2.2.2.2.2.1 (addW .i64 x.1.2.2.2.2.1 (40 : Int)))) (.ret false)))) (fun b4 => .ret b4.1)))
def sl13Task.F (N : Nat) (x : sl13Task.P.D) : Option sl13Task.R.D := (sl13Task.T N x).run
abbrev sl12Live.P : Ty := (.pair (.int .i64) .unit)
abbrev sl12Live.R : Ty := .bool
def sl12Live.T (N : Nat) (x : sl12Live.P.D) : Tr sl12Live.R.D := .ite (eqI x.1 (1 : Int)) (.ret true) (.ite (eqI x.1 (2 : Int)) (.ret true) (.ret (eqI x.1 (3 : Int))))
def sl12Live.F (N : Nat) (x : sl12Live.P.D) : Option sl12Live.R.D := (sl12Live.T N x).run
abbrev sLiveOf.P : Ty := (.pair T50 (.pair T86 .unit))
abbrev sLiveOf.R : Ty := (.int .i64)
abbrev sLiveOf.C0_0 : Ty := (.pair T50 T86)
abbrev sLiveOf.M0_0 : Ty := T86
abbrev sLiveOf.O0_0 : Ty := (.pair (.int .i64) .unit)
abbrev sLiveOf.Q0_0 : Ty := .unit
def sLiveOf.B0_0 (N : Nat) (c : sLiveOf.C0_0.D) (m : sLiveOf.M0_0.D) : Tr (Leaf sLiveOf.M0_0.D sLiveOf.O0_0.D sLiveOf.Q0_0.D) := .ite (ltI m.2.1 (lenI c.1)) (.bind (idx c.1 m.2.1) fun x1 => .ite (Ty.eqb T86 x1.1 c.2) (.bind (idx c.1 m.2.1) fun x2 => .bind (sl12Live.F N (x2.2.2.2.2.2.2.2.2.2.1, ())) fun x3 => .ite x3 (.ret (.more ((addW .i64 m.1 (1 : Int)), (addW .i64 m.2.1 (1 : Int)), ()))) (.ret (.more (m.1, (addW .i64 m.2.1 (1 : Int)), ())))) (.ret (.more (m.1, (addW .i64 m.2.1 (1 : Int)), ())))) (.ret (.out (m.1, ())))
def sLiveOf.L0_0 (N : Nat) (c : sLiveOf.C0_0.D) (m : sLiveOf.M0_0.D) : Option (sLiveOf.O0_0.D ⊕ sLiveOf.Q0_0.D) := iterT (sLiveOf.B0_0 N c) N m
def sLiveOf.T (N : Nat) (x : sLiveOf.P.D) : Tr sLiveOf.R.D := .bind (sTasksRight.F N (x.1, ())) fun x1 => .ite (!x1) (.ret (0 : Int)) (.bind (sLiveOf.L0_0 N (x.1, x.2.1) ((0 : Int), (0 : Int), ())) fun p2 => .sum p2 (fun a3 => .ret a3.1) (fun b4 => .no))
def sLiveOf.F (N : Nat) (x : sLiveOf.P.D) : Option sLiveOf.R.D := (sLiveOf.T N x).run
abbrev sLabelsOf.P : Ty := (.pair T47 .unit)
abbrev sLabelsOf.R : Ty := T82
def sLabelsOf.T (N : Nat) (x : sLabelsOf.P.D) : Tr sLabelsOf.R.D := .bind (sConfigRight.F N x) fun x1 => .ite (!x1) (.ret ([] : List (Ty.D T86))) (.bind (sl09Labels.F N (x.1.1, ())) fun x2 => .ret x2)
def sLabelsOf.F (N : Nat) (x : sLabelsOf.P.D) : Option sLabelsOf.R.D := (sLabelsOf.T N x).run
abbrev sQuotaOf.P : Ty := (.pair T47 (.pair T86 .unit))
abbrev sQuotaOf.R : Ty := (.int .i64)
abbrev sQuotaOf.C0_0 : Ty := (.pair T44 (.pair T45 (.pair T46 (.pair (.int .i64) T86))))
abbrev sQuotaOf.M0_0 : Ty := (.pair (.int .i64) .unit)
abbrev sQuotaOf.O0_0 : Ty := .unit
abbrev sQuotaOf.Q0_0 : Ty := (.pair (.int .i64) .unit)
def sQuotaOf.B0_0 (N : Nat) (c : sQuotaOf.C0_0.D) (m : sQuotaOf.M0_0.D) : Tr (Leaf sQuotaOf.M0_0.D sQuotaOf.O0_0.D sQuotaOf.Q0_0.D) := .ite (ltI m.1 (lenI c.2.2.1)) (.bind (idx c.2.2.1 m.1) fun x1 => .ite (Ty.eqb T86 x1.1 c.2.2.2.2) (.bind (idx c.2.2.1 m.1) fun x2 => .ret (.ret x2.2)) (.ret (.more ((addW .i64 m.1 (1 : Int)), ())))) (.ret (.out ()))
def sQuotaOf.L0_0 (N : Nat) (c : sQuotaOf.C0_0.D) (m : sQuotaOf.M0_0.D) : Option (sQuotaOf.O0_0.D ⊕ sQuotaOf.Q0_0.D) := iterT (sQuotaOf.B0_0 N c) N m
def sQuotaOf.T (N : Nat) (x : sQuotaOf.P.D) : Tr sQuotaOf.R.D := .bind (sLabelsOf.F N (x.1, ())) fun x1 => .bind (sl05Cleared.F N (x1, x.2)) fun x2 => .ite (!x2) (.ret (0 : Int)) (.bind (sQuotaOf.L0_0 N (x.1.1, x.1.2.1, x.1.2.2.1, x.1.2.2.2.1, x.2.1) ((0 : Int), ())) fun p3 => .sum p3 (fun a4 => .ret (6 : Int)) (fun b5 => .ret b5.1))
def sQuotaOf.F (N : Nat) (x : sQuotaOf.P.D) : Option sQuotaOf.R.D := (sQuotaOf.T N x).run
abbrev sYardRight.P : Ty := (.pair T52 .unit)
abbrev sYardRight.R : Ty := .bool
abbrev sYardRight.C0_4 : Ty := (.pair (.int .i64) (.pair T44 (.pair T45 (.pair T46 (.pair (.int .i64) (.pair T49 (.pair T50 (.pair T51 (.pair (.int .i64) (.pair (.int .i64) (.pair (.int .i64) (.pair (.int .i64) (.pair .str (.pair (.int .i64) (.pair (.int .i64) (.pair (.int .i64) (.pair (.int .i64) (.pair (.int .i64) (.pair (.int .i64) (.pair (.int .i64) (.pair (.int .i64) (.pair (.int .i64) (.pair T89 .unit)))))))))))))))))))))))
abbrev sYardRight.M0_4 : Ty := (.pair (.int .i64) (.pair T154 .unit))
abbrev sYardRight.O0_4 : Ty := (.pair T154 .unit)
abbrev sYardRight.Q0_4 : Ty := (.pair .bool .unit)
def sYardRight.B0_4 (N : Nat) (c : sYardRight.C0_4.D) (m : sYardRight.M0_4.D) : Tr (Leaf sYardRight.M0_4.D sYardRight.O0_4.D sYardRight.Q0_4.D) := .ite (ltI m.1 (lenI c.2.2.2.2.2.2.2.2.2.2.2.2.2.2.2.2.2.2.2.2.2.2.1)) (.ite (eqI c.2.2.2.2.2.2.2.2.2.2.2.2.2.2.2.2.2.2.2.2.1 (2 : Int)) (.bind (idx c.2.2.2.2.2.2.2.2.2.2.2.2.2.2.2.2.2.2.2.2.2.2.1 m.1) fun x1 => .bind (idx m.2.1 x1) fun _ => .bind (idx m.2.1 x1) fun x2 => .ite x2 (.ret (.ret (false, ()))) (.bind (idx c.2.2.2.2.2.2.2.2.2.2.2.2.2.2.2.2.2.2.2.2.2.2.1 m.1) fun x3 => .bind (idx m.2.1 x3) fun _ => .bind (idx m.2.1 x3) fun x4 => .ret (.more ((addW .i64 m.1 (1 : Int)), (List.set m.2.1 (Int.toNat x3) true), ())))) (.ret (.out m.2))) (.ret (.out m.2))
def sYardRight.L0_4 (N : Nat) (c : sYardRight.C0_4.D) (m : sYardRight.M0_4.D) : Option (sYardRight.O0_4.D ⊕ sYardRight.Q0_4.D) := iterT (sYardRight.B0_4 N c) N m
abbrev sYardRight.C0_0 : Ty := (.pair T44 (.pair T45 (.pair T46 (.pair (.int .i64) (.pair T49 (.pair T50 (.pair T51 (.pair (.int .i64) .unit))))))))
abbrev sYardRight.M0_0 : Ty := (.pair (.int .i64) (.pair T154 .unit))
abbrev sYardRight.O0_0 : Ty := .unit
abbrev sYardRight.Q0_0 : Ty := (.pair .bool .unit)
def sYardRight.B0_0 (N : Nat) (c : sYardRight.C0_0.D) (m : sYardRight.M0_0.D) : Tr (Leaf sYardRight.M0_0.D sYardRight.O0_0.D sYardRight.Q0_0.D) := .ite (ltI m.1 (lenI c.2.2.2.2.2.1)) (.bind (idx c.2.2.2.2.2.1 m.1) fun x1 => .bind (sl13Task.F N (((c.1, c.2.1, c.2.2.1, c.2.2.2.1, ()), c.2.2.2.2), x1, ())) fun x2 => .ite (!x2) (.ret (.ret (false, ()))) (.bind (sYardRight.L0_4 N (m.1, c.1, c.2.1, c.2.2.1, c.2.2.2.1, c.2.2.2.2.1, c.2.2.2.2.2.1, c.2.2.2.2.2.2.1, c.2.2.2.2.2.2.2.1, x1.1.1, x1.1.2.1, x1.2.1, x1.2.2.1, x1.2.2.2.1, x1.2.2.2.2.1, x1.2.2.2.2.2.1, x1.2.2.2.2.2.2.1.1, x1.2.2.2.2.2.2.1.2.1, x1.2.2.2.2.2.2.2) ((0 : Int), m.2)) fun p3 => .sum p3 (fun a4 => .ret (.more ((addW .i64 m.1 (1 : Int)), a4))) (fun b5 => .ret (.ret b5)))) (.ret (.out ()))
def sYardRight.L0_0 (N : Nat) (c : sYardRight.C0_0.D) (m : sYardRight.M0_0.D) : Option (sYardRight.O0_0.D ⊕ sYardRight.Q0_0.D) := iterT (sYardRight.B0_0 N c) N m
abbrev sYardRight.C0_8 : Ty := (.pair T44 (.pair T45 (.pair T46 (.pair (.int .i64) (.pair T49 (.pair T50 (.pair T51 (.pair (.int .i64) (.pair T82 .unit)))))))))
abbrev sYardRight.M0_8 : Ty := (.pair (.int .i64) .unit)
abbrev sYardRight.O0_8 : Ty := .unit
abbrev sYardRight.Q0_8 : Ty := (.pair .bool .unit)
def sYardRight.B0_8 (N : Nat) (c : sYardRight.C0_8.D) (m : sYardRight.M0_8.D) : Tr (Leaf sYardRight.M0_8.D sYardRight.O0_8.D sYardRight.Q0_8.D) := .ite (ltI m.1 (lenI c.2.2.2.2.2.2.1)) (.bind (idx c.2.2.2.2.2.2.1 m.1) fun x1 => .bind (sl05Cleared.F N (c.2.2.2.2.2.2.2.2.1, x1.1, ())) fun x2 => .ite (!x2) (.ret (.ret (false, ()))) (.ret (.more ((addW .i64 m.1 (1 : Int)), ())))) (.ret (.out ()))
def sYardRight.L0_8 (N : Nat) (c : sYardRight.C0_8.D) (m : sYardRight.M0_8.D) : Option (sYardRight.O0_8.D ⊕ sYardRight.Q0_8.D) := iterT (sYardRight.B0_8 N c) N m
abbrev sYardRight.C0_12 : Ty := (.pair T44 (.pair T45 (.pair T46 (.pair (.int .i64) (.pair T49 (.pair T50 (.pair T51 (.pair (.int .i64) (.pair T82 .unit)))))))))
abbrev sYardRight.M0_12 : Ty := (.pair (.int .i64) .unit)
abbrev sYardRight.O0_12 : Ty := .unit
abbrev sYardRight.Q0_12 : Ty := (.pair .bool .unit)
def sYardRight.B0_12 (N : Nat) (c : sYardRight.C0_12.D) (m : sYardRight.M0_12.D) : Tr (Leaf sYardRight.M0_12.D sYardRight.O0_12.D sYardRight.Q0_12.D) := .ite (ltI m.1 (lenI c.2.2.2.2.2.2.2.2.1)) (.bind (idx c.2.2.2.2.2.2.2.2.1 m.1) fun _ => .bind (idx c.2.2.2.2.2.2.2.2.1 m.1) fun x1 => .bind (sLiveOf.F N (c.2.2.2.2.2.1, x1, ())) fun x2 => .bind (idx c.2.2.2.2.2.2.2.2.1 m.1) fun _ => .bind (idx c.2.2.2.2.2.2.2.2.1 m.1) fun x3 => .bind (sQuotaOf.F N ((c.1, c.2.1, c.2.2.1, c.2.2.2.1, ()), x3, ())) fun x4 => .ite (ltI x4 x2) (.ret (.ret (false, ()))) (.ret (.more ((addW .i64 m.1 (1 : Int)), ())))) (.ret (.out ()))
def sYardRight.L0_12 (N : Nat) (c : sYardRight.C0_12.D) (m : sYardRight.M0_12.D) : Option (sYardRight.O0_12.D ⊕ sYardRight.Q0_12.D) := iterT (sYardRight.B0_12 N c) N m
def sYardRight.T (N : Nat) (x : sYardRight.P.D) : Tr sYardRight.R.D := .bind (sl03Now.F N x.1.2.2.2.2) fun x1 => .ite (!x1) (.ret false) (.bind (sConfigRight.F N (x.1.1, ())) fun x2 => .ite (!x2) (.ret false) (.bind (sNodesRight.F N (x.1.2.1, ())) fun x3 => .ite (!x3) (.ret false) (.ite (!eqI (lenI x.1.2.1) (lenI x.1.1.1)) (.ret false) (.bind (sTasksRight.F N (x.1.2.2.1, ())) fun x4 => .ite (!x4) (.ret false) (.bind (sUsesRight.F N (x.1.2.2.2.1, ())) fun x5 => .ite (!x5) (.ret false) (.ite (eqI (6 : Int) (6 : Int) && inR 0 (6 : Int) maxRow) (.bind (sYardRight.L0_0 N (x.1.1.1, x.1.1.2.1, x.1.1.2.2.1, x.1.1.2.2.2.1, x.1.2) ((0 : Int), (List.replicate (Int.toNat (6 : Int)) (Ty.zero .bool)), ())) fun p6 => .sum p6 (fun a7 => .bind (sl09Labels.F N (x.1.1.1, ())) fun x9 => .bind (sYardRight.L0_8 N (x.1.1.1, x.1.1.2.1, x.1.1.2.2.1, x.1.1.2.2.2.1, x.1.2.1, x.1.2.2.1, x.1.2.2.2.1, x.1.2.2.2.2.1, x9, ()) ((0 : Int), ())) fun p10 => .sum p10 (fun a11 => .bind (sYardRight.L0_12 N (x.1.1.1, x.1.1.2.1, x.1.1.2.2.1, x.1.1.2.2.2.1, x.1.2.1, x.1.2.2.1, x.1.2.2.2.1, x.1.2.2.2.2.1, x9, ()) ((0 : Int), ())) fun p13 => .sum p13 (fun a14 => .ret true) (fun b15 => .ret b15.1)) (fun b12 => .ret b12.1)) (fun b8 => .ret b8.1)) (.no)))))))
def sYardRight.F (N : Nat) (x : sYardRight.P.D) : Option sYardRight.R.D := (sYardRight.T N x).run
abbrev sMailRight.P : Ty := (.pair T47 (.pair T55 .unit))
abbrev sMailRight.R : Ty := .bool
abbrev sMailRight.C0_4 : Ty := (.pair (.int .i64) (.pair T44 (.pair T45 (.pair T46 (.pair (.int .i64) (.pair T54 T91))))))
abbrev sMailRight.M0_4 : Ty := (.pair (.int .i64) .unit)
abbrev sMailRight.O0_4 : Ty := .unit
abbrev sMailRight.Q0_4 : Ty := (.pair .bool .unit)
def sMailRight.B0_4 (N : Nat) (c : sMailRight.C0_4.D) (m : sMailRight.M0_4.D) : Tr (Leaf sMailRight.M0_4.D sMailRight.O0_4.D sMailRight.Q0_4.D) := .ite (ltI m.1 (lenI c.2.2.2.2.2.2.2.2.1)) (.bind (idx c.2.2.2.2.2.2.2.2.1 m.1) fun x1 => .bind (sl03Now.F N (x1.1, ())) fun x2 => .ite (!x2) (.ret (.ret (false, ()))) (.ite (ltI (0 : Int) m.1) (.bind (idx c.2.2.2.2.2.2.2.2.1 (subW .i64 m.1 (1 : Int))) fun x3 => .bind (idx c.2.2.2.2.2.2.2.2.1 m.1) fun x4 => .ite (ltI x4.1 x3.1) (.ret (.ret (false, ()))) (.ret (.more ((addW .i64 m.1 (1 : Int)), ())))) (.ret (.more ((addW .i64 m.1 (1 : Int)), ()))))) (.ret (.out ()))
def sMailRight.L0_4 (N : Nat) (c : sMailRight.C0_4.D) (m : sMailRight.M0_4.D) : Option (sMailRight.O0_4.D ⊕ sMailRight.Q0_4.D) := iterT (sMailRight.B0_4 N c) N m
abbrev sMailRight.C0_0 : Ty := (.pair T44 (.pair T45 (.pair T46 (.pair (.int .i64) T55))))
abbrev sMailRight.M0_0 : Ty := (.pair (.int .i64) .unit)
abbrev sMailRight.O0_0 : Ty := .unit
abbrev sMailRight.Q0_0 : Ty := (.pair .bool .unit)
def sMailRight.B0_0 (N : Nat) (c : sMailRight.C0_0.D) (m : sMailRight.M0_0.D) : Tr (Leaf sMailRight.M0_0.D sMailRight.O0_0.D sMailRight.Q0_0.D) := .ite (ltI m.1 (lenI c.2.2.2.2.1)) (.bind (idx c.2.2.2.2.1 m.1) fun x1 => .bind (idx c.2.1 m.1) fun x2 => .ite (ltI x2.2.2.1 (lenI x1.1)) (.ret (.ret (false, ()))) (.bind (idx c.2.1 m.1) fun x3 => .ite (ltI x3.2.2.1 (lenI x1.2.1)) (.ret (.ret (false, ()))) (.ite (ltI (12 : Int) (lenI x1.2.2.1)) (.ret (.ret (false, ()))) (.bind (sMailRight.L0_4 N (m.1, c.1, c.2.1, c.2.2.1, c.2.2.2.1, c.2.2.2.2.1, x1) ((0 : Int), ())) fun p4 => .sum p4 (fun a5 => .ret (.more ((addW .i64 m.1 (1 : Int)), ()))) (fun b6 => .ret (.ret b6)))))) (.ret (.out ()))
def sMailRight.L0_0 (N : Nat) (c : sMailRight.C0_0.D) (m : sMailRight.M0_0.D) : Option (sMailRight.O0_0.D ⊕ sMailRight.Q0_0.D) := iterT (sMailRight.B0_0 N c) N m
def sMailRight.T (N : Nat) (x : sMailRight.P.D) : Tr sMailRight.R.D := .bind (sConfigRight.F N (x.1, ())) fun x1 => .ite (!x1) (.ret false) (.ite (!eqI (lenI x.2.1.1) (lenI x.1.2.1)) (.ret false) (.bind (sMailRight.L0_0 N (x.1.1, x.1.2.1, x.1.2.2.1, x.1.2.2.2.1, x.2.1) ((0 : Int), ())) fun p2 => .sum p2 (fun a3 => .ret true) (fun b4 => .ret b4.1)))
def sMailRight.F (N : Nat) (x : sMailRight.P.D) : Option sMailRight.R.D := (sMailRight.T N x).run
abbrev sStateRight.P : Ty := (.pair T57 .unit)
abbrev sStateRight.R : Ty := .bool
abbrev sStateRight.C0_0 : Ty := (.pair T44 (.pair T45 (.pair T46 (.pair (.int .i64) (.pair T49 (.pair T50 (.pair T51 (.pair (.int .i64) T55))))))))
abbrev sStateRight.M0_0 : Ty := (.pair (.int .i64) .unit)
abbrev sStateRight.O0_0 : Ty := .unit
abbrev sStateRight.Q0_0 : Ty := (.pair .bool .unit)
def sStateRight.B0_0 (N : Nat) (c : sStateRight.C0_0.D) (m : sStateRight.M0_0.D) : Tr (Leaf sStateRight.M0_0.D sStateRight.O0_0.D sStateRight.Q0_0.D) := .ite (ltI m.1 (lenI c.2.2.2.2.2.2.2.2.1)) (.bind (idx c.2.2.2.2.2.2.2.2.1 m.1) fun x1 => .ite (ltI (0 : Int) (lenI x1.2.2.1)) (.bind (idx x1.2.2.1 (subW .i64 (lenI x1.2.2.1) (1 : Int))) fun x2 => .ite (ltI c.2.2.2.2.2.2.2.1 x2.1) (.ret (.ret (false, ()))) (.ret (.more ((addW .i64 m.1 (1 : Int)), ())))) (.ret (.more ((addW .i64 m.1 (1 : Int)), ())))) (.ret (.out ()))
def sStateRight.L0_0 (N : Nat) (c : sStateRight.C0_0.D) (m : sStateRight.M0_0.D) : Option (sStateRight.O0_0.D ⊕ sStateRight.Q0_0.D) := iterT (sStateRight.B0_0 N c) N m
def sStateRight.T (N : Nat) (x : sStateRight.P.D) : Tr sStateRight.R.D := .bind (sYardRight.F N (x.1.1, ())) fun x1 => .ite (!x1) (.ret false) (.bind (sMailRight.F N (x.1.1.1, x.1.2)) fun x2 => .ite (!x2) (.ret false) (.bind (sStateRight.L0_0 N (x.1.1.1.1, x.1.1.1.2.1, x.1.1.1.2.2.1, x.1.1.1.2.2.2.1, x.1.1.2.1, x.1.1.2.2.1, x.1.1.2.2.2.1, x.1.1.2.2.2.2.1, x.1.2.1) ((0 : Int), ())) fun p3 => .sum p3 (fun a4 => .ret true) (fun b5 => .ret b5.1)))
def sStateRight.F (N : Nat) (x : sStateRight.P.D) : Option sStateRight.R.D := (sStateRight.T N x).run
abbrev sDiskRight.P : Ty := (.pair T60 .unit)
abbrev sDiskRight.R : Ty := .bool
abbrev sDiskRight.C0_0 : Ty := T60
abbrev sDiskRight.M0_0 : Ty := (.pair (.int .i64) .unit)
abbrev sDiskRight.O0_0 : Ty := .unit
abbrev sDiskRight.Q0_0 : Ty := (.pair .bool .unit)
def sDiskRight.B0_0 (N : Nat) (c : sDiskRight.C0_0.D) (m : sDiskRight.M0_0.D) : Tr (Leaf sDiskRight.M0_0.D sDiskRight.O0_0.D sDiskRight.Q0_0.D) := .ite (ltI m.1 (lenI c.1)) (.bind (idx c.1 m.1) fun x1 => .ite (ltI (3000 : Int) (lenI x1.1)) (.ret (.ret (false, ()))) (.ite (ltI (3000 : Int) (lenI x1.2.1)) (.ret (.ret (false, ()))) (.ite (ltI (3000 : Int) (lenI x1.2.2.1)) (.ret (.ret (false, ()))) (.ret (.more ((addW .i64 m.1 (1 : Int)), ())))))) (.ret (.out ()))
def sDiskRight.L0_0 (N : Nat) (c : sDiskRight.C0_0.D) (m : sDiskRight.M0_0.D) : Option (sDiskRight.O0_0.D ⊕ sDiskRight.Q0_0.D) := iterT (sDiskRight.B0_0 N c) N m
def sDiskRight.T (N : Nat) (x : sDiskRight.P.D) : Tr sDiskRight.R.D := .ite (ltI (lenI x.1.1) (1 : Int)) (.ret false) (.ite (ltI (13 : Int) (lenI x.1.1)) (.ret false) (.bind (sl02Is.F N (x.1.2.1, (-1 : Int), (1000000 : Int), ())) fun x1 => .ite (!x1) (.ret false) (.bind (sDiskRight.L0_0 N x.1 ((0 : Int), ())) fun p2 => .sum p2 (fun a3 => .ret true) (fun b4 => .ret b4.1))))
def sDiskRight.F (N : Nat) (x : sDiskRight.P.D) : Option sDiskRight.R.D := (sDiskRight.T N x).run
abbrev sl18Regions.P : Ty := (.pair T47 .unit)
abbrev sl18Regions.R : Ty := (.int .i64)
def sl18Regions.T (N : Nat) (x : sl18Regions.P.D) : Tr sl18Regions.R.D := .bind (sl09Labels.F N (x.1.1, ())) fun x1 => .ret (addW .i64 (addW .i64 (1 : Int) (lenI x1)) (lenI x.1.2.1))
def sl18Regions.F (N : Nat) (x : sl18Regions.P.D) : Option sl18Regions.R.D := (sl18Regions.T N x).run
abbrev sHouseRight.P : Ty := (.pair T62 .unit)
abbrev sHouseRight.R : Ty := .bool
def sHouseRight.T (N : Nat) (x : sHouseRight.P.D) : Tr sHouseRight.R.D := .bind (sStateRight.F N (x.1.1, ())) fun x1 => .ite x1 (.bind (sDiskRight.F N (x.1.2.1, ())) fun x2 => .ite x2 (.bind (sl18Regions.F N (x.1.1.1.1, ())) fun x3 => .ite (eqI (lenI x.1.2.1.1) x3) (.ite (eqI x.1.2.1.2.1 (-1 : Int)) (.bind (sl02Time.F N x.1.2.2) fun x4 => .ret x4) (.ret false)) (.ret false)) (.ret false)) (.ret false)
def sHouseRight.F (N : Nat) (x : sHouseRight.P.D) : Option sHouseRight.R.D := (sHouseRight.T N x).run
abbrev iwithin.P : Ty := (.pair (.int .i64) T86)
abbrev iwithin.R : Ty := .bool
def iwithin.T (N : Nat) (x : iwithin.P.D) : Tr iwithin.R.D := .ite (leI x.2.1 x.1) (.ret (leI x.1 x.2.2.1)) (.ret false)
def iwithin.F (N : Nat) (x : iwithin.P.D) : Option iwithin.R.D := (iwithin.T N x).run
abbrev iLabelRight.P : Ty := (.pair T86 .unit)
abbrev iLabelRight.R : Ty := .bool
def iLabelRight.T (N : Nat) (x : iLabelRight.P.D) : Tr iLabelRight.R.D := .bind (iwithin.F N (x.1.1, (0 : Int), (3 : Int), ())) fun x1 => .ite x1 (.bind (iwithin.F N (x.1.2.1, (0 : Int), (7 : Int), ())) fun x2 => .ret x2) (.ret false)
def iLabelRight.F (N : Nat) (x : iLabelRight.P.D) : Option iLabelRight.R.D := (iLabelRight.T N x).run
abbrev iChain_1.P : Ty := (.pair T86 .unit)
abbrev iChain_1.R : Ty := .bool
def iChain_1.T (N : Nat) (x : iChain_1.P.D) : Tr iChain_1.R.D := .bind (iLabelRight.F N x) fun x1 => .ret (!x1)
def iChain_1.F (N : Nat) (x : iChain_1.P.D) : Option iChain_1.R.D := (iChain_1.T N x).run
abbrev slIndexFunc_iChain_1.P : Ty := (.pair T82 .unit)
abbrev slIndexFunc_iChain_1.R : Ty := (.int .i64)
abbrev slIndexFunc_iChain_1.C0_0 : Ty := (.pair T82 (.pair (.int .i64) .unit))
abbrev slIndexFunc_iChain_1.M0_0 : Ty := (.pair (.int .i64) .unit)
abbrev slIndexFunc_iChain_1.O0_0 : Ty := .unit
abbrev slIndexFunc_iChain_1.Q0_0 : Ty := (.pair (.int .i64) .unit)
def slIndexFunc_iChain_1.B0_0 (N : Nat) (c : slIndexFunc_iChain_1.C0_0.D) (m : slIndexFunc_iChain_1.M0_0.D) : Tr (Leaf slIndexFunc_iChain_1.M0_0.D slIndexFunc_iChain_1.O0_0.D slIndexFunc_iChain_1.Q0_0.D) := .ite (ltI m.1 c.2.1) (.bind (idx c.1 m.1) fun x1 => .bind (iChain_1.F N (x1, ())) fun x2 => .ite x2 (.ret (.ret m)) (.ret (.more ((addW .i64 m.1 (1 : Int)), ())))) (.ret (.out ()))
def slIndexFunc_iChain_1.L0_0 (N : Nat) (c : slIndexFunc_iChain_1.C0_0.D) (m : slIndexFunc_iChain_1.M0_0.D) : Option (slIndexFunc_iChain_1.O0_0.D ⊕ slIndexFunc_iChain_1.Q0_0.D) := iterT (slIndexFunc_iChain_1.B0_0 N c) N m
def slIndexFunc_iChain_1.T (N : Nat) (x : slIndexFunc_iChain_1.P.D) : Tr slIndexFunc_iChain_1.R.D := .bind (slIndexFunc_iChain_1.L0_0 N (x.1, (lenI x.1), ()) ((0 : Int), ())) fun p1 => .sum p1 (fun a2 => .ret (-1 : Int)) (fun b3 => .ret b3.1)
def slIndexFunc_iChain_1.F (N : Nat) (x : slIndexFunc_iChain_1.P.D) : Option slIndexFunc_iChain_1.R.D := (slIndexFunc_iChain_1.T N x).run
abbrev slContainsFunc_iChain_1.P : Ty := (.pair T82 .unit)
abbrev slContainsFunc_iChain_1.R : Ty := .bool
def slContainsFunc_iChain_1.T (N : Nat) (x : slContainsFunc_iChain_1.P.D) : Tr slContainsFunc_iChain_1.R.D := .bind (slIndexFunc_iChain_1.F N x) fun x1 => .ret (leI (0 : Int) x1)
def slContainsFunc_iChain_1.F (N : Nat) (x : slContainsFunc_iChain_1.P.D) : Option slContainsFunc_iChain_1.R.D := (slContainsFunc_iChain_1.T N x).run
abbrev ibelow.P : Ty := (.pair T86 (.pair T86 .unit))
abbrev ibelow.R : Ty := .bool
def ibelow.T (N : Nat) (x : ibelow.P.D) : Tr ibelow.R.D := .ite (leI x.1.1 x.2.1.1) (.ret (eqI (andNotW .i64 x.1.2.1 x.2.1.2.1) (0 : Int))) (.ret false)
def ibelow.F (N : Nat) (x : ibelow.P.D) : Option ibelow.R.D := (ibelow.T N x).run
abbrev iChain.P : Ty := (.pair T82 .unit)
abbrev iChain.R : Ty := .bool
abbrev iChain.C0_0 : Ty := (.pair T82 .unit)
abbrev iChain.M0_0 : Ty := (.pair (.int .i64) .unit)
abbrev iChain.O0_0 : Ty := .unit
abbrev iChain.Q0_0 : Ty := (.pair .bool .unit)
def iChain.B0_0 (N : Nat) (c : iChain.C0_0.D) (m : iChain.M0_0.D) : Tr (Leaf iChain.M0_0.D iChain.O0_0.D iChain.Q0_0.D) := .ite (ltI m.1 (lenI c.1)) (.bind (idx c.1 (subW .i64 m.1 (1 : Int))) fun x1 => .bind (idx c.1 m.1) fun x2 => .ite (Ty.eqb T86 x1 x2) (.ret (.ret (false, ()))) (.bind (idx c.1 (subW .i64 m.1 (1 : Int))) fun x3 => .bind (idx c.1 m.1) fun x4 => .bind (ibelow.F N (x3, x4, ())) fun x5 => .ite (!x5) (.ret (.ret (false, ()))) (.ret (.more ((addW .i64 m.1 (1 : Int)), ()))))) (.ret (.out ()))
def iChain.L0_0 (N : Nat) (c : iChain.C0_0.D) (m : iChain.M0_0.D) : Option (iChain.O0_0.D ⊕ iChain.Q0_0.D) := iterT (iChain.B0_0 N c) N m
def iChain.T (N : Nat) (x : iChain.P.D) : Tr iChain.R.D := .ite (ltI (lenI x.1) (1 : Int)) (.ret false) (.ite (ltI (4 : Int) (lenI x.1)) (.ret false) (.bind (slContainsFunc_iChain_1.F N x) fun x1 => .ite x1 (.ret false) (.bind (iChain.L0_0 N x ((1 : Int), ())) fun p2 => .sum p2 (fun a3 => .ret true) (fun b4 => .ret b4.1))))
def iChain.F (N : Nat) (x : iChain.P.D) : Option iChain.R.D := (iChain.T N x).run
abbrev iclearRight_1.P : Ty := (.pair T82 .unit)
abbrev iclearRight_1.R : Ty := .bool
def iclearRight_1.T (N : Nat) (x : iclearRight_1.P.D) : Tr iclearRight_1.R.D := .bind (iChain.F N x) fun x1 => .ret (!x1)
def iclearRight_1.F (N : Nat) (x : iclearRight_1.P.D) : Option iclearRight_1.R.D := (iclearRight_1.T N x).run
abbrev slIndexFunc_iclearRight_1.P : Ty := (.pair T44 .unit)
abbrev slIndexFunc_iclearRight_1.R : Ty := (.int .i64)
abbrev slIndexFunc_iclearRight_1.C0_0 : Ty := (.pair T44 (.pair (.int .i64) .unit))
abbrev slIndexFunc_iclearRight_1.M0_0 : Ty := (.pair (.int .i64) .unit)
abbrev slIndexFunc_iclearRight_1.O0_0 : Ty := .unit
abbrev slIndexFunc_iclearRight_1.Q0_0 : Ty := (.pair (.int .i64) .unit)
def slIndexFunc_iclearRight_1.B0_0 (N : Nat) (c : slIndexFunc_iclearRight_1.C0_0.D) (m : slIndexFunc_iclearRight_1.M0_0.D) : Tr (Leaf slIndexFunc_iclearRight_1.M0_0.D slIndexFunc_iclearRight_1.O0_0.D slIndexFunc_iclearRight_1.Q0_0.D) := .ite (ltI m.1 c.2.1) (.bind (idx c.1 m.1) fun x1 => .bind (iclearRight_1.F N (x1, ())) fun x2 => .ite x2 (.ret (.ret m)) (.ret (.more ((addW .i64 m.1 (1 : Int)), ())))) (.ret (.out ()))
def slIndexFunc_iclearRight_1.L0_0 (N : Nat) (c : slIndexFunc_iclearRight_1.C0_0.D) (m : slIndexFunc_iclearRight_1.M0_0.D) : Option (slIndexFunc_iclearRight_1.O0_0.D ⊕ slIndexFunc_iclearRight_1.Q0_0.D) := iterT (slIndexFunc_iclearRight_1.B0_0 N c) N m
def slIndexFunc_iclearRight_1.T (N : Nat) (x : slIndexFunc_iclearRight_1.P.D) : Tr slIndexFunc_iclearRight_1.R.D := .bind (slIndexFunc_iclearRight_1.L0_0 N (x.1, (lenI x.1), ()) ((0 : Int), ())) fun p1 => .sum p1 (fun a2 => .ret (-1 : Int)) (fun b3 => .ret b3.1)
def slIndexFunc_iclearRight_1.F (N : Nat) (x : slIndexFunc_iclearRight_1.P.D) : Option slIndexFunc_iclearRight_1.R.D := (slIndexFunc_iclearRight_1.T N x).run
abbrev slContainsFunc_iclearRight_1.P : Ty := (.pair T44 .unit)
abbrev slContainsFunc_iclearRight_1.R : Ty := .bool
def slContainsFunc_iclearRight_1.T (N : Nat) (x : slContainsFunc_iclearRight_1.P.D) : Tr slContainsFunc_iclearRight_1.R.D := .bind (slIndexFunc_iclearRight_1.F N x) fun x1 => .ret (leI (0 : Int) x1)
def slContainsFunc_iclearRight_1.F (N : Nat) (x : slContainsFunc_iclearRight_1.P.D) : Option slContainsFunc_iclearRight_1.R.D := (slContainsFunc_iclearRight_1.T N x).run
abbrev iclearRight.P : Ty := (.pair T44 .unit)
abbrev iclearRight.R : Ty := .bool
def iclearRight.T (N : Nat) (x : iclearRight.P.D) : Tr iclearRight.R.D := .bind (iwithin.F N ((lenI x.1), (1 : Int), (6 : Int), ())) fun x1 => .ite x1 (.bind (slContainsFunc_iclearRight_1.F N x) fun x2 => .ret (!x2)) (.ret false)
def iclearRight.F (N : Nat) (x : iclearRight.P.D) : Option iclearRight.R.D := (iclearRight.T N x).run
abbrev slGrow_SLabel_n.P : Ty := (.pair (.int .i64) .unit)
abbrev slGrow_SLabel_n.R : Ty := T82
def slGrow_SLabel_n.T (N : Nat) (x : slGrow_SLabel_n.P.D) : Tr slGrow_SLabel_n.R.D := .ite (ltI x.1 (0 : Int)) (.no) (.ite (ltI (0 : Int) (subW .i64 x.1 (subW .i64 (0 : Int) (0 : Int)))) (.ite (inR 0 (0 : Int) (0 : Int) && leI (0 : Int) (0 : Int)) (.ite (decide (List.length ([] : List (Ty.D T86)) + List.length (List.replicate (Int.toNat (subW .i64 x.1 (subW .i64 (0 : Int) (0 : Int)))) (Ty.zero T86)) ≤ maxRow) && leI 0 (subW .i64 x.1 (subW .i64 (0 : Int) (0 : Int)))) (.ite (inR 0 (0 : Int) (0 : Int) && leI (0 : Int) (lenI (([] : List (Ty.D T86)) ++ (List.replicate (Int.toNat (subW .i64 x.1 (subW .i64 (0 : Int) (0 : Int)))) (Ty.zero T86))))) (.ret (List.take (Int.toNat (0 : Int)) (([] : List (Ty.D T86)) ++ (List.replicate (Int.toNat (subW .i64 x.1 (subW .i64 (0 : Int) (0 : Int)))) (Ty.zero T86))))) (.no)) (.no)) (.no)) (.ret ([] : List (Ty.D T86))))
def slGrow_SLabel_n.F (N : Nat) (x : slGrow_SLabel_n.P.D) : Option slGrow_SLabel_n.R.D := (slGrow_SLabel_n.T N x).run
abbrev slConcat_SLabel.P : Ty := (.pair T44 .unit)
abbrev slConcat_SLabel.R : Ty := T82
abbrev slConcat_SLabel.C0_0 : Ty := (.pair T44 (.pair T44 (.pair (.int .i64) .unit)))
abbrev slConcat_SLabel.M0_0 : Ty := T86
abbrev slConcat_SLabel.O0_0 : Ty := (.pair (.int .i64) .unit)
abbrev slConcat_SLabel.Q0_0 : Ty := .unit
def slConcat_SLabel.B0_0 (N : Nat) (c : slConcat_SLabel.C0_0.D) (m : slConcat_SLabel.M0_0.D) : Tr (Leaf slConcat_SLabel.M0_0.D slConcat_SLabel.O0_0.D slConcat_SLabel.Q0_0.D) := .ite (ltI m.2.1 c.2.2.1) (.bind (idx c.2.1 m.2.1) fun x1 => .ite (ltI (addW .i64 m.1 (lenI x1)) (0 : Int)) (.no) (.ret (.more ((addW .i64 m.1 (lenI x1)), (addW .i64 m.2.1 (1 : Int)), ())))) (.ret (.out (m.1, ())))
def slConcat_SLabel.L0_0 (N : Nat) (c : slConcat_SLabel.C0_0.D) (m : slConcat_SLabel.M0_0.D) : Option (slConcat_SLabel.O0_0.D ⊕ slConcat_SLabel.Q0_0.D) := iterT (slConcat_SLabel.B0_0 N c) N m
abbrev slConcat_SLabel.C0_4 : Ty := (.pair T44 (.pair (.int .i64) .unit))
abbrev slConcat_SLabel.M0_4 : Ty := (.pair (.int .i64) (.pair T82 .unit))
abbrev slConcat_SLabel.O0_4 : Ty := (.pair T82 .unit)
abbrev slConcat_SLabel.Q0_4 : Ty := .unit
def slConcat_SLabel.B0_4 (N : Nat) (c : slConcat_SLabel.C0_4.D) (m : slConcat_SLabel.M0_4.D) : Tr (Leaf slConcat_SLabel.M0_4.D slConcat_SLabel.O0_4.D slConcat_SLabel.Q0_4.D) := .ite (ltI m.1 c.2.1) (.bind (idx c.1 m.1) fun x1 => .ite (decide (List.length m.2.1 + List.length x1 ≤ maxRow) && true) (.ret (.more ((addW .i64 m.1 (1 : Int)), (m.2.1 ++ x1), ()))) (.no)) (.ret (.out m.2))
def slConcat_SLabel.L0_4 (N : Nat) (c : slConcat_SLabel.C0_4.D) (m : slConcat_SLabel.M0_4.D) : Option (slConcat_SLabel.O0_4.D ⊕ slConcat_SLabel.Q0_4.D) := iterT (slConcat_SLabel.B0_4 N c) N m
def slConcat_SLabel.T (N : Nat) (x : slConcat_SLabel.P.D) : Tr slConcat_SLabel.R.D := .bind (slConcat_SLabel.L0_0 N (x.1, x.1, (lenI x.1), ()) ((0 : Int), (0 : Int), ())) fun p1 => .sum p1 (fun a2 => .bind (slGrow_SLabel_n.F N a2) fun x4 => .bind (slConcat_SLabel.L0_4 N (x.1, (lenI x.1), ()) ((0 : Int), x4, ())) fun p5 => .sum p5 (fun a6 => .ret a6.1) (fun b7 => .no)) (fun b3 => .no)
def slConcat_SLabel.F (N : Nat) (x : slConcat_SLabel.P.D) : Option slConcat_SLabel.R.D := (slConcat_SLabel.T N x).run
abbrev slCompact_SLabel_o.P : Ty := (.pair T82 .unit)
abbrev slCompact_SLabel_o.R : Ty := T82
abbrev slCompact_SLabel_o.C0_4 : Ty := T86
abbrev slCompact_SLabel_o.M0_4 : Ty := (.pair (.int .i64) (.pair (.int .i64) (.pair T82 .unit)))
abbrev slCompact_SLabel_o.O0_4 : Ty := (.pair (.int .i64) (.pair T82 .unit))
abbrev slCompact_SLabel_o.Q0_4 : Ty := .unit
def slCompact_SLabel_o.B0_4 (N : Nat) (c : slCompact_SLabel_o.C0_4.D) (m : slCompact_SLabel_o.M0_4.D) : Tr (Leaf slCompact_SLabel_o.M0_4.D slCompact_SLabel_o.O0_4.D slCompact_SLabel_o.Q0_4.D) := .ite (ltI m.2.1 (subZ c.2.1 c.1)) (.ite (leI 0 m.2.1 && ltI m.2.1 (subZ c.2.1 c.1)) (.bind (idx m.2.2.1 (addZ c.1 m.2.1)) fun _ => .bind (idx m.2.2.1 (addZ c.1 m.2.1)) fun x1 => .ite (leI 0 (subW .i64 m.2.1 (1 : Int)) && ltI (subW .i64 m.2.1 (1 : Int)) (subZ c.2.1 c.1)) (.bind (idx m.2.2.1 (addZ c.1 (subW .i64 m.2.1 (1 : Int)))) fun _ => .bind (idx m.2.2.1 (addZ c.1 (subW .i64 m.2.1 (1 : Int)))) fun x2 => .ite (!Ty.eqb T86 x1 x2) (.ite (leI 0 m.2.1 && ltI m.2.1 (subZ c.2.1 c.1)) (.bind (idx m.2.2.1 (addZ c.1 m.2.1)) fun _ => .bind (idx m.2.2.1 (addZ c.1 m.2.1)) fun x3 => .bind (idx m.2.2.1 m.1) fun _ => .bind (idx m.2.2.1 m.1) fun x4 => .ret (.more ((addW .i64 m.1 (1 : Int)), (addW .i64 m.2.1 (1 : Int)), (List.set m.2.2.1 (Int.toNat m.1) x3), ()))) (.no)) (.ret (.more (m.1, (addW .i64 m.2.1 (1 : Int)), m.2.2)))) (.no)) (.no)) (.ret (.out (m.1, m.2.2)))
def slCompact_SLabel_o.L0_4 (N : Nat) (c : slCompact_SLabel_o.C0_4.D) (m : slCompact_SLabel_o.M0_4.D) : Option (slCompact_SLabel_o.O0_4.D ⊕ slCompact_SLabel_o.Q0_4.D) := iterT (slCompact_SLabel_o.B0_4 N c) N m
abbrev slCompact_SLabel_o.C0_0 : Ty := (.pair T82 .unit)
abbrev slCompact_SLabel_o.M0_0 : Ty := (.pair (.int .i64) .unit)
abbrev slCompact_SLabel_o.O0_0 : Ty := .unit
abbrev slCompact_SLabel_o.Q0_0 : Ty := (.pair (.int .i64) (.pair (.int .i64) (.pair T82 .unit)))
def slCompact_SLabel_o.B0_0 (N : Nat) (c : slCompact_SLabel_o.C0_0.D) (m : slCompact_SLabel_o.M0_0.D) : Tr (Leaf slCompact_SLabel_o.M0_0.D slCompact_SLabel_o.O0_0.D slCompact_SLabel_o.Q0_0.D) := .ite (ltI m.1 (lenI c.1)) (.bind (idx c.1 m.1) fun _ => .bind (idx c.1 m.1) fun x1 => .bind (idx c.1 (subW .i64 m.1 (1 : Int))) fun _ => .bind (idx c.1 (subW .i64 m.1 (1 : Int))) fun x2 => .ite (Ty.eqb T86 x1 x2) (.ite (inR 0 m.1 (lenI c.1) && leI (lenI c.1) (lenI c.1)) (.bind (slCompact_SLabel_o.L0_4 N (m.1, (lenI c.1), ()) (m.1, (1 : Int), c)) fun p3 => .sum p3 (fun a4 => .ite (inR 0 a4.1 (lenI a4.2.1) && leI (lenI a4.2.1) (lenI a4.2.1)) (.ite (inR 0 a4.1 (lenI a4.2.1) && leI (lenI a4.2.1) (lenI a4.2.1)) (.ite (inR 0 (0 : Int) a4.1 && leI a4.1 (lenI (List.take (Int.toNat a4.1) a4.2.1 ++ List.replicate (Int.toNat (lenI a4.2.1) - Int.toNat a4.1) (Ty.zero T86) ++ List.drop (Int.toNat (lenI a4.2.1)) a4.2.1))) (.ret (.ret ((0 : Int), a4.1, (List.take (Int.toNat a4.1) a4.2.1 ++ List.replicate (Int.toNat (lenI a4.2.1) - Int.toNat a4.1) (Ty.zero T86) ++ List.drop (Int.toNat (lenI a4.2.1)) a4.2.1), ()))) (.no)) (.no)) (.no)) (fun b5 => .no)) (.no)) (.ret (.more ((addW .i64 m.1 (1 : Int)), ())))) (.ret (.out ()))
def slCompact_SLabel_o.L0_0 (N : Nat) (c : slCompact_SLabel_o.C0_0.D) (m : slCompact_SLabel_o.M0_0.D) : Option (slCompact_SLabel_o.O0_0.D ⊕ slCompact_SLabel_o.Q0_0.D) := iterT (slCompact_SLabel_o.B0_0 N c) N m
def slCompact_SLabel_o.T (N : Nat) (x : slCompact_SLabel_o.P.D) : Tr slCompact_SLabel_o.R.D := .ite (ltI (lenI x.1) (2 : Int)) (.ret x.1) (.bind (slCompact_SLabel_o.L0_0 N x ((1 : Int), ())) fun p1 => .sum p1 (fun a2 => .ret x.1) (fun b3 => .ret (List.drop (Int.toNat b3.1) (List.take (Int.toNat b3.2.1) b3.2.2.1))))
def slCompact_SLabel_o.F (N : Nat) (x : slCompact_SLabel_o.P.D) : Option slCompact_SLabel_o.R.D := (slCompact_SLabel_o.T N x).run
abbrev iConfig_labels.P : Ty := (.pair T47 .unit)
abbrev iConfig_labels.R : Ty := T82
def iConfig_labels.T (N : Nat) (x : iConfig_labels.P.D) : Tr iConfig_labels.R.D := .bind (slConcat_SLabel.F N (x.1.1, ())) fun x1 => .bind (slSortFunc_icompareLabels_w.F N (x1, ())) fun x2 => .bind (slCompact_SLabel_o.F N x2) fun x3 => .ret x3
def iConfig_labels.F (N : Nat) (x : iConfig_labels.P.D) : Option iConfig_labels.R.D := (iConfig_labels.T N x).run
abbrev iConfig_pairsOf_1_p.P : Ty := (.pair T134 (.pair T134 .unit))
abbrev iConfig_pairsOf_1_p.R : Ty := .bool
def iConfig_pairsOf_1_p.T (N : Nat) (x : iConfig_pairsOf_1_p.P.D) : Tr iConfig_pairsOf_1_p.R.D := .ite (Ty.eqb T86 x.2.1.1 x.1.1) (.ret (Ty.eqb T86 x.2.1.2.1 x.1.2.1)) (.ret false)
def iConfig_pairsOf_1_p.F (N : Nat) (x : iConfig_pairsOf_1_p.P.D) : Option iConfig_pairsOf_1_p.R.D := (iConfig_pairsOf_1_p.T N x).run
abbrev slIndexFunc_iConfig_pairsOf_1.P : Ty := (.pair T45 (.pair T134 .unit))
abbrev slIndexFunc_iConfig_pairsOf_1.R : Ty := (.int .i64)
abbrev slIndexFunc_iConfig_pairsOf_1.C0_0 : Ty := (.pair T45 (.pair T134 (.pair (.int .i64) .unit)))
abbrev slIndexFunc_iConfig_pairsOf_1.M0_0 : Ty := (.pair (.int .i64) .unit)
abbrev slIndexFunc_iConfig_pairsOf_1.O0_0 : Ty := .unit
abbrev slIndexFunc_iConfig_pairsOf_1.Q0_0 : Ty := (.pair (.int .i64) .unit)
def slIndexFunc_iConfig_pairsOf_1.B0_0 (N : Nat) (c : slIndexFunc_iConfig_pairsOf_1.C0_0.D) (m : slIndexFunc_iConfig_pairsOf_1.M0_0.D) : Tr (Leaf slIndexFunc_iConfig_pairsOf_1.M0_0.D slIndexFunc_iConfig_pairsOf_1.O0_0.D slIndexFunc_iConfig_pairsOf_1.Q0_0.D) := .ite (ltI m.1 c.2.2.1) (.bind (idx c.1 m.1) fun x1 => .bind (iConfig_pairsOf_1_p.F N (x1, c.2.1, ())) fun x2 => .ite x2 (.ret (.ret m)) (.ret (.more ((addW .i64 m.1 (1 : Int)), ())))) (.ret (.out ()))
def slIndexFunc_iConfig_pairsOf_1.L0_0 (N : Nat) (c : slIndexFunc_iConfig_pairsOf_1.C0_0.D) (m : slIndexFunc_iConfig_pairsOf_1.M0_0.D) : Option (slIndexFunc_iConfig_pairsOf_1.O0_0.D ⊕ slIndexFunc_iConfig_pairsOf_1.Q0_0.D) := iterT (slIndexFunc_iConfig_pairsOf_1.B0_0 N c) N m
def slIndexFunc_iConfig_pairsOf_1.T (N : Nat) (x : slIndexFunc_iConfig_pairsOf_1.P.D) : Tr slIndexFunc_iConfig_pairsOf_1.R.D := .bind (slIndexFunc_iConfig_pairsOf_1.L0_0 N (x.1, x.2.1, (lenI x.1), ()) ((0 : Int), ())) fun p1 => .sum p1 (fun a2 => .ret (-1 : Int)) (fun b3 => .ret b3.1)
def slIndexFunc_iConfig_pairsOf_1.F (N : Nat) (x : slIndexFunc_iConfig_pairsOf_1.P.D) : Option slIndexFunc_iConfig_pairsOf_1.R.D := (slIndexFunc_iConfig_pairsOf_1.T N x).run
abbrev slContainsFunc_iConfig_pairsOf_1.P : Ty := (.pair T45 (.pair T134 .unit))
abbrev slContainsFunc_iConfig_pairsOf_1.R : Ty := .bool
def slContainsFunc_iConfig_pairsOf_1.T (N : Nat) (x : slContainsFunc_iConfig_pairsOf_1.P.D) : Tr slContainsFunc_iConfig_pairsOf_1.R.D := .bind (slIndexFunc_iConfig_pairsOf_1.F N x) fun x1 => .ret (leI (0 : Int) x1)
def slContainsFunc_iConfig_pairsOf_1.F (N : Nat) (x : slContainsFunc_iConfig_pairsOf_1.P.D) : Option slContainsFunc_iConfig_pairsOf_1.R.D := (slContainsFunc_iConfig_pairsOf_1.T N x).run
abbrev slIndex_SLabel.P : Ty := (.pair T82 (.pair T86 .unit))
abbrev slIndex_SLabel.R : Ty := (.int .i64)
abbrev slIndex_SLabel.C0_0 : Ty := (.pair T82 (.pair (.int .i64) T86))
abbrev slIndex_SLabel.M0_0 : Ty := (.pair (.int .i64) .unit)
abbrev slIndex_SLabel.O0_0 : Ty := .unit
abbrev slIndex_SLabel.Q0_0 : Ty := (.pair (.int .i64) .unit)
def slIndex_SLabel.B0_0 (N : Nat) (c : slIndex_SLabel.C0_0.D) (m : slIndex_SLabel.M0_0.D) : Tr (Leaf slIndex_SLabel.M0_0.D slIndex_SLabel.O0_0.D slIndex_SLabel.Q0_0.D) := .ite (ltI m.1 c.2.1) (.bind (idx c.1 m.1) fun x1 => .ite (Ty.eqb T86 c.2.2 x1) (.ret (.ret m)) (.ret (.more ((addW .i64 m.1 (1 : Int)), ())))) (.ret (.out ()))
def slIndex_SLabel.L0_0 (N : Nat) (c : slIndex_SLabel.C0_0.D) (m : slIndex_SLabel.M0_0.D) : Option (slIndex_SLabel.O0_0.D ⊕ slIndex_SLabel.Q0_0.D) := iterT (slIndex_SLabel.B0_0 N c) N m
def slIndex_SLabel.T (N : Nat) (x : slIndex_SLabel.P.D) : Tr slIndex_SLabel.R.D := .bind (slIndex_SLabel.L0_0 N (x.1, (lenI x.1), x.2.1) ((0 : Int), ())) fun p1 => .sum p1 (fun a2 => .ret (-1 : Int)) (fun b3 => .ret b3.1)
def slIndex_SLabel.F (N : Nat) (x : slIndex_SLabel.P.D) : Option slIndex_SLabel.R.D := (slIndex_SLabel.T N x).run
abbrev slContains_SLabel.P : Ty := (.pair T82 (.pair T86 .unit))
abbrev slContains_SLabel.R : Ty := .bool
def slContains_SLabel.T (N : Nat) (x : slContains_SLabel.P.D) : Tr slContains_SLabel.R.D := .bind (slIndex_SLabel.F N x) fun x1 => .ret (leI (0 : Int) x1)
def slContains_SLabel.F (N : Nat) (x : slContains_SLabel.P.D) : Option slContains_SLabel.R.D := (slContains_SLabel.T N x).run
abbrev iConfig_pairsOf.P : Ty := (.pair T47 (.pair T82 .unit))
abbrev iConfig_pairsOf.R : Ty := .bool
abbrev iConfig_pairsOf.C0_0 : Ty := (.pair T82 (.pair T45 (.pair (.int .i64) T47)))
abbrev iConfig_pairsOf.M0_0 : Ty := (.pair (.int .i64) .unit)
abbrev iConfig_pairsOf.O0_0 : Ty := .unit
abbrev iConfig_pairsOf.Q0_0 : Ty := (.pair .bool .unit)
def iConfig_pairsOf.B0_0 (N : Nat) (c : iConfig_pairsOf.C0_0.D) (m : iConfig_pairsOf.M0_0.D) : Tr (Leaf iConfig_pairsOf.M0_0.D iConfig_pairsOf.O0_0.D iConfig_pairsOf.Q0_0.D) := .ite (ltI m.1 c.2.2.1) (.bind (idx c.2.1 m.1) fun x1 => .ite (inR 0 (0 : Int) m.1 && leI m.1 (lenI c.2.2.2.2.1)) (.bind (slContainsFunc_iConfig_pairsOf_1.F N ((List.drop (Int.toNat (0 : Int)) (List.take (Int.toNat m.1) c.2.2.2.2.1)), x1, ())) fun x2 => .ite x2 (.ret (.ret (false, ()))) (.bind (slContains_SLabel.F N (c.1, x1.1, ())) fun x3 => .ite (!x3) (.ret (.ret (false, ()))) (.bind (slContains_SLabel.F N (c.1, x1.2.1, ())) fun x4 => .ite (!x4) (.ret (.ret (false, ()))) (.bind (ibelow.F N (x1.1, x1.2.1, ())) fun x5 => .ite x5 (.ret (.ret (false, ()))) (.bind (iwithin.F N (x1.2.2.1, (1 : Int), (3 : Int), ())) fun x6 => .ite (!x6) (.ret (.ret (false, ()))) (.ret (.more ((addW .i64 m.1 (1 : Int)), ())))))))) (.no)) (.ret (.out ()))
def iConfig_pairsOf.L0_0 (N : Nat) (c : iConfig_pairsOf.C0_0.D) (m : iConfig_pairsOf.M0_0.D) : Option (iConfig_pairsOf.O0_0.D ⊕ iConfig_pairsOf.Q0_0.D) := iterT (iConfig_pairsOf.B0_0 N c) N m
def iConfig_pairsOf.T (N : Nat) (x : iConfig_pairsOf.P.D) : Tr iConfig_pairsOf.R.D := .bind (iConfig_pairsOf.L0_0 N (x.2.1, x.1.2.1, (lenI x.1.2.1), x.1) ((0 : Int), ())) fun p1 => .sum p1 (fun a2 => .ret (leI (lenI x.1.2.1) (4 : Int))) (fun b3 => .ret b3.1)
def iConfig_pairsOf.F (N : Nat) (x : iConfig_pairsOf.P.D) : Option iConfig_pairsOf.R.D := (iConfig_pairsOf.T N x).run
abbrev iConfig_quotasOf.P : Ty := (.pair T47 (.pair T82 .unit))
abbrev iConfig_quotasOf.R : Ty := .bool
abbrev iConfig_quotasOf.C0_0 : Ty := (.pair T82 (.pair T46 (.pair (.int .i64) T47)))
abbrev iConfig_quotasOf.M0_0 : Ty := (.pair (.int .i64) .unit)
abbrev iConfig_quotasOf.O0_0 : Ty := .unit
abbrev iConfig_quotasOf.Q0_0 : Ty := (.pair .bool .unit)
def iConfig_quotasOf.B0_0 (N : Nat) (c : iConfig_quotasOf.C0_0.D) (m : iConfig_quotasOf.M0_0.D) : Tr (Leaf iConfig_quotasOf.M0_0.D iConfig_quotasOf.O0_0.D iConfig_quotasOf.Q0_0.D) := .ite (ltI m.1 c.2.2.1) (.bind (idx c.2.1 m.1) fun x1 => .bind (slContains_SLabel.F N (c.1, x1.1, ())) fun x2 => .ite (!x2) (.ret (.ret (false, ()))) (.bind (iwithin.F N (x1.2.1, (1 : Int), (9 : Int), ())) fun x3 => .ite (!x3) (.ret (.ret (false, ()))) (.ite (ltI (0 : Int) m.1) (.bind (idx c.2.2.2.2.2.1 (subW .i64 m.1 (1 : Int))) fun x4 => .bind (icompareLabels.F N (x4.1, x1.1, ())) fun x5 => .ite (leI (0 : Int) x5) (.ret (.ret (false, ()))) (.ret (.more ((addW .i64 m.1 (1 : Int)), ())))) (.ret (.more ((addW .i64 m.1 (1 : Int)), ())))))) (.ret (.out ()))
def iConfig_quotasOf.L0_0 (N : Nat) (c : iConfig_quotasOf.C0_0.D) (m : iConfig_quotasOf.M0_0.D) : Option (iConfig_quotasOf.O0_0.D ⊕ iConfig_quotasOf.Q0_0.D) := iterT (iConfig_quotasOf.B0_0 N c) N m
def iConfig_quotasOf.T (N : Nat) (x : iConfig_quotasOf.P.D) : Tr iConfig_quotasOf.R.D := .bind (iConfig_quotasOf.L0_0 N (x.2.1, x.1.2.2.1, (lenI x.1.2.2.1), x.1) ((0 : Int), ())) fun p1 => .sum p1 (fun a2 => .ret true) (fun b3 => .ret b3.1)
def iConfig_quotasOf.F (N : Nat) (x : iConfig_quotasOf.P.D) : Option iConfig_quotasOf.R.D := (iConfig_quotasOf.T N x).run
abbrev iConfigRight.P : Ty := (.pair T47 .unit)
abbrev iConfigRight.R : Ty := .bool
def iConfigRight.T (N : Nat) (x : iConfigRight.P.D) : Tr iConfigRight.R.D := .bind (iclearRight.F N (x.1.1, ())) fun x1 => .ite (!x1) (.ret false) (.bind (iwithin.F N (x.1.2.2.2.1, (1 : Int), (9 : Int), ())) fun x2 => .ite (!x2) (.ret false) (.bind (iConfig_labels.F N x) fun x3 => .ite (leI (lenI x3) (8 : Int)) (.bind (iConfig_pairsOf.F N (x.1, x3, ())) fun x4 => .ite x4 (.bind (iConfig_quotasOf.F N (x.1, x3, ())) fun x5 => .ret x5) (.ret false)) (.ret false)))
def iConfigRight.F (N : Nat) (x : iConfigRight.P.D) : Option iConfigRight.R.D := (iConfigRight.T N x).run
abbrev iisNodeState.P : Ty := (.pair (.int .i64) .unit)
abbrev iisNodeState.R : Ty := .bool
def iisNodeState.T (N : Nat) (x : iisNodeState.P.D) : Tr iisNodeState.R.D := .bind (iwithin.F N (x.1, (1 : Int), (3 : Int), ())) fun x1 => .ret x1
def iisNodeState.F (N : Nat) (x : iisNodeState.P.D) : Option iisNodeState.R.D := (iisNodeState.T N x).run
abbrev iisTime.P : Ty := (.pair (.int .i64) .unit)
abbrev iisTime.R : Ty := .bool
def iisTime.T (N : Nat) (x : iisTime.P.D) : Tr iisTime.R.D := .bind (iwithin.F N (x.1, (0 : Int), (1000000 : Int), ())) fun x1 => .ret x1
def iisTime.F (N : Nat) (x : iisTime.P.D) : Option iisTime.R.D := (iisTime.T N x).run
abbrev ispanRight.P : Ty := (.pair T86 .unit)
abbrev ispanRight.R : Ty := .bool
def ispanRight.T (N : Nat) (x : ispanRight.P.D) : Tr ispanRight.R.D := .bind (iisTime.F N (x.1.1, ())) fun x1 => .ite x1 (.bind (iisTime.F N x.1.2) fun x2 => .ite x2 (.ret (ltI x.1.1 x.1.2.1)) (.ret false)) (.ret false)
def ispanRight.F (N : Nat) (x : ispanRight.P.D) : Option ispanRight.R.D := (ispanRight.T N x).run
abbrev iSpansRight.P : Ty := (.pair T122 .unit)
abbrev iSpansRight.R : Ty := .bool
abbrev iSpansRight.C0_0 : Ty := (.pair T122 (.pair T122 (.pair (.int .i64) .unit)))
abbrev iSpansRight.M0_0 : Ty := (.pair (.int .i64) .unit)
abbrev iSpansRight.O0_0 : Ty := .unit
abbrev iSpansRight.Q0_0 : Ty := (.pair .bool .unit)
def iSpansRight.B0_0 (N : Nat) (c : iSpansRight.C0_0.D) (m : iSpansRight.M0_0.D) : Tr (Leaf iSpansRight.M0_0.D iSpansRight.O0_0.D iSpansRight.Q0_0.D) := .ite (ltI m.1 c.2.2.1) (.bind (idx c.2.1 m.1) fun x1 => .bind (ispanRight.F N (x1, ())) fun x2 => .ite (!x2) (.ret (.ret (false, ()))) (.ite (ltI (0 : Int) m.1) (.bind (idx c.1 (subW .i64 m.1 (1 : Int))) fun x3 => .ite (ltI x1.1 x3.2.1) (.ret (.ret (false, ()))) (.ret (.more ((addW .i64 m.1 (1 : Int)), ())))) (.ret (.more ((addW .i64 m.1 (1 : Int)), ()))))) (.ret (.out ()))
def iSpansRight.L0_0 (N : Nat) (c : iSpansRight.C0_0.D) (m : iSpansRight.M0_0.D) : Option (iSpansRight.O0_0.D ⊕ iSpansRight.Q0_0.D) := iterT (iSpansRight.B0_0 N c) N m
def iSpansRight.T (N : Nat) (x : iSpansRight.P.D) : Tr iSpansRight.R.D := .bind (iSpansRight.L0_0 N (x.1, x.1, (lenI x.1), ()) ((0 : Int), ())) fun p1 => .sum p1 (fun a2 => .ret (leI (lenI x.1) (20 : Int))) (fun b3 => .ret b3.1)
def iSpansRight.F (N : Nat) (x : iSpansRight.P.D) : Option iSpansRight.R.D := (iSpansRight.T N x).run
abbrev iNodesRight_1.P : Ty := (.pair T123 .unit)
abbrev iNodesRight_1.R : Ty := .bool
def iNodesRight_1.T (N : Nat) (x : iNodesRight_1.P.D) : Tr iNodesRight_1.R.D := .bind (iisNodeState.F N (x.1.1, ())) fun x1 => .ite (!x1) (.ret true) (.ite (ltI (4 : Int) (lenI x.1.2.1)) (.ret true) (.bind (iSpansRight.F N x.1.2) fun x2 => .ret (!x2)))
def iNodesRight_1.F (N : Nat) (x : iNodesRight_1.P.D) : Option iNodesRight_1.R.D := (iNodesRight_1.T N x).run
abbrev slIndexFunc_iNodesRight_1.P : Ty := (.pair T49 .unit)
abbrev slIndexFunc_iNodesRight_1.R : Ty := (.int .i64)
abbrev slIndexFunc_iNodesRight_1.C0_0 : Ty := (.pair T49 (.pair (.int .i64) .unit))
abbrev slIndexFunc_iNodesRight_1.M0_0 : Ty := (.pair (.int .i64) .unit)
abbrev slIndexFunc_iNodesRight_1.O0_0 : Ty := .unit
abbrev slIndexFunc_iNodesRight_1.Q0_0 : Ty := (.pair (.int .i64) .unit)
def slIndexFunc_iNodesRight_1.B0_0 (N : Nat) (c : slIndexFunc_iNodesRight_1.C0_0.D) (m : slIndexFunc_iNodesRight_1.M0_0.D) : Tr (Leaf slIndexFunc_iNodesRight_1.M0_0.D slIndexFunc_iNodesRight_1.O0_0.D slIndexFunc_iNodesRight_1.Q0_0.D) := .ite (ltI m.1 c.2.1) (.bind (idx c.1 m.1) fun x1 => .bind (iNodesRight_1.F N (x1, ())) fun x2 => .ite x2 (.ret (.ret m)) (.ret (.more ((addW .i64 m.1 (1 : Int)), ())))) (.ret (.out ()))
def slIndexFunc_iNodesRight_1.L0_0 (N : Nat) (c : slIndexFunc_iNodesRight_1.C0_0.D) (m : slIndexFunc_iNodesRight_1.M0_0.D) : Option (slIndexFunc_iNodesRight_1.O0_0.D ⊕ slIndexFunc_iNodesRight_1.Q0_0.D) := iterT (slIndexFunc_iNodesRight_1.B0_0 N c) N m
def slIndexFunc_iNodesRight_1.T (N : Nat) (x : slIndexFunc_iNodesRight_1.P.D) : Tr slIndexFunc_iNodesRight_1.R.D := .bind (slIndexFunc_iNodesRight_1.L0_0 N (x.1, (lenI x.1), ()) ((0 : Int), ())) fun p1 => .sum p1 (fun a2 => .ret (-1 : Int)) (fun b3 => .ret b3.1)
def slIndexFunc_iNodesRight_1.F (N : Nat) (x : slIndexFunc_iNodesRight_1.P.D) : Option slIndexFunc_iNodesRight_1.R.D := (slIndexFunc_iNodesRight_1.T N x).run
abbrev slContainsFunc_iNodesRight_1.P : Ty := (.pair T49 .unit)
abbrev slContainsFunc_iNodesRight_1.R : Ty := .bool
def slContainsFunc_iNodesRight_1.T (N : Nat) (x : slContainsFunc_iNodesRight_1.P.D) : Tr slContainsFunc_iNodesRight_1.R.D := .bind (slIndexFunc_iNodesRight_1.F N x) fun x1 => .ret (leI (0 : Int) x1)
def slContainsFunc_iNodesRight_1.F (N : Nat) (x : slContainsFunc_iNodesRight_1.P.D) : Option slContainsFunc_iNodesRight_1.R.D := (slContainsFunc_iNodesRight_1.T N x).run
abbrev iNodesRight.P : Ty := (.pair T49 .unit)
abbrev iNodesRight.R : Ty := .bool
def iNodesRight.T (N : Nat) (x : iNodesRight.P.D) : Tr iNodesRight.R.D := .bind (iwithin.F N ((lenI x.1), (1 : Int), (6 : Int), ())) fun x1 => .ite (!x1) (.ret false) (.bind (slContainsFunc_iNodesRight_1.F N x) fun x2 => .ret (!x2))
def iNodesRight.F (N : Nat) (x : iNodesRight.P.D) : Option iNodesRight.R.D := (iNodesRight.T N x).run
abbrev iNameRight.P : Ty := (.pair .str .unit)
abbrev iNameRight.R : Ty := .bool
abbrev iNameRight.C0_0 : Ty := (.pair .str (.pair (.int .i64) .unit))
abbrev iNameRight.M0_0 : Ty := (.pair (.int .i64) .unit)
abbrev iNameRight.O0_0 : Ty := .unit
abbrev iNameRight.Q0_0 : Ty := (.pair .bool .unit)
def iNameRight.B0_0 (N : Nat) (c : iNameRight.C0_0.D) (m : iNameRight.M0_0.D) : Tr (Leaf iNameRight.M0_0.D iNameRight.O0_0.D iNameRight.Q0_0.D) := .ite (ltI m.1 c.2.1) (.bind (idx c.1 m.1) fun x1 => .ite (leI (97 : Int) ((UInt8.toNat x1 : Nat) : Int)) (.ite (leI ((UInt8.toNat x1 : Nat) : Int) (122 : Int)) (.ret (.more ((addW .i64 m.1 (1 : Int)), ()))) (.ite (leI (48 : Int) ((UInt8.toNat x1 : Nat) : Int)) (.ite (leI ((UInt8.toNat x1 : Nat) : Int) (57 : Int)) (.ret (.more ((addW .i64 m.1 (1 : Int)), ()))) (.ite (!(eqI ((UInt8.toNat x1 : Nat) : Int) (95 : Int))) (.ret (.ret (false, ()))) (.ret (.more ((addW .i64 m.1 (1 : Int)), ()))))) (.ite (!(eqI ((UInt8.toNat x1 : Nat) : Int) (95 : Int))) (.ret (.ret (false, ()))) (.ret (.more ((addW .i64 m.1 (1 : Int)), ())))))) (.ite (leI (48 : Int) ((UInt8.toNat x1 : Nat) : Int)) (.ite (leI ((UInt8.toNat x1 : Nat) : Int) (57 : Int)) (.ret (.more ((addW .i64 m.1 (1 : Int)), ()))) (.ite (!(eqI ((UInt8.toNat x1 : Nat) : Int) (95 : Int))) (.ret (.ret (false, ()))) (.ret (.more ((addW .i64 m.1 (1 : Int)), ()))))) (.ite (!(eqI ((UInt8.toNat x1 : Nat) : Int) (95 : Int))) (.ret (.ret (false, ()))) (.ret (.more ((addW .i64 m.1 (1 : Int)), ())))))) (.ret (.out ()))
def iNameRight.L0_0 (N : Nat) (c : iNameRight.C0_0.D) (m : iNameRight.M0_0.D) : Option (iNameRight.O0_0.D ⊕ iNameRight.Q0_0.D) := iterT (iNameRight.B0_0 N c) N m
def iNameRight.T (N : Nat) (x : iNameRight.P.D) : Tr iNameRight.R.D := .ite (ltI (lenI x.1) (1 : Int)) (.ret false) (.ite (ltI (20 : Int) (lenI x.1)) (.ret false) (.bind (idx x.1 (0 : Int)) fun x1 => .ite (ltI ((UInt8.toNat x1 : Nat) : Int) (97 : Int)) (.ret false) (.bind (idx x.1 (0 : Int)) fun x2 => .ite (ltI (122 : Int) ((UInt8.toNat x2 : Nat) : Int)) (.ret false) (.bind (iNameRight.L0_0 N (x.1, (lenI x.1), ()) ((0 : Int), ())) fun p3 => .sum p3 (fun a4 => .ret true) (fun b5 => .ret b5.1)))))
def iNameRight.F (N : Nat) (x : iNameRight.P.D) : Option iNameRight.R.D := (iNameRight.T N x).run
abbrev iisWork.P : Ty := (.pair (.int .i64) T86)
abbrev iisWork.R : Ty := .bool
def iisWork.T (N : Nat) (x : iisWork.P.D) : Tr iisWork.R.D := .bind (iwithin.F N (x.1, (1 : Int), (6 : Int), ())) fun x1 => .ite x1 (.bind (iwithin.F N (x.2.1, (1 : Int), (20 : Int), ())) fun x2 => .ite x2 (.bind (iwithin.F N (x.2.2.1, (0 : Int), (9 : Int), ())) fun x3 => .ret x3) (.ret false)) (.ret false)
def iisWork.F (N : Nat) (x : iisWork.P.D) : Option iisWork.R.D := (iisWork.T N x).run
abbrev iisNow.P : Ty := (.pair (.int .i64) .unit)
abbrev iisNow.R : Ty := .bool
def iisNow.T (N : Nat) (x : iisNow.P.D) : Tr iisNow.R.D := .bind (iwithin.F N (x.1, (0 : Int), (999900 : Int), ())) fun x1 => .ret x1
def iisNow.F (N : Nat) (x : iisNow.P.D) : Option iisNow.R.D := (iisNow.T N x).run
abbrev iBelow.P : Ty := (.pair T86 (.pair T86 .unit))
abbrev iBelow.R : Ty := .bool
def iBelow.T (N : Nat) (x : iBelow.P.D) : Tr iBelow.R.D := .bind (iLabelRight.F N (x.1, ())) fun x1 => .ite x1 (.bind (iLabelRight.F N x.2) fun x2 => .ite x2 (.bind (ibelow.F N x) fun x3 => .ret x3) (.ret false)) (.ret false)
def iBelow.F (N : Nat) (x : iBelow.P.D) : Option iBelow.R.D := (iBelow.T N x).run
abbrev inodesRight.P : Ty := (.pair T89 (.pair (.int .i64) .unit))
abbrev inodesRight.R : Ty := .bool
abbrev inodesRight.C0_0 : Ty := (.pair T89 (.pair (.int .i64) (.pair T89 (.pair (.int .i64) .unit))))
abbrev inodesRight.M0_0 : Ty := (.pair (.int .i64) .unit)
abbrev inodesRight.O0_0 : Ty := .unit
abbrev inodesRight.Q0_0 : Ty := (.pair .bool .unit)
def inodesRight.B0_0 (N : Nat) (c : inodesRight.C0_0.D) (m : inodesRight.M0_0.D) : Tr (Leaf inodesRight.M0_0.D inodesRight.O0_0.D inodesRight.Q0_0.D) := .ite (ltI m.1 c.2.2.2.1) (.bind (idx c.2.2.1 m.1) fun x1 => .bind (iwithin.F N (x1, (0 : Int), (5 : Int), ())) fun x2 => .ite (!x2) (.ret (.ret (false, ()))) (.ite (ltI (0 : Int) m.1) (.bind (idx c.1 (subW .i64 m.1 (1 : Int))) fun x3 => .ite (leI x1 x3) (.ret (.ret (false, ()))) (.ret (.more ((addW .i64 m.1 (1 : Int)), ())))) (.ret (.more ((addW .i64 m.1 (1 : Int)), ()))))) (.ret (.out ()))
def inodesRight.L0_0 (N : Nat) (c : inodesRight.C0_0.D) (m : inodesRight.M0_0.D) : Option (inodesRight.O0_0.D ⊕ inodesRight.Q0_0.D) := iterT (inodesRight.B0_0 N c) N m
def inodesRight.T (N : Nat) (x : inodesRight.P.D) : Tr inodesRight.R.D := .bind (inodesRight.L0_0 N (x.1, x.2.1, x.1, (lenI x.1), ()) ((0 : Int), ())) fun p1 => .sum p1 (fun a2 => .ret (eqI (lenI x.1) x.2.1)) (fun b3 => .ret b3.1)
def inodesRight.F (N : Nat) (x : inodesRight.P.D) : Option inodesRight.R.D := (inodesRight.T N x).run
abbrev iTask_hasPlace.P : Ty := (.pair T128 .unit)
abbrev iTask_hasPlace.R : Ty := .bool
def iTask_hasPlace.T (N : Nat) (x : iTask_hasPlace.P.D) : Tr iTask_hasPlace.R.D := .ret (ltI (0 : Int) (lenI x.1.2.2.2.2.2.2.2.2.2.2.2.1))
def iTask_hasPlace.F (N : Nat) (x : iTask_hasPlace.P.D) : Option iTask_hasPlace.R.D := (iTask_hasPlace.T N x).run
abbrev iTaskRight.P : Ty := (.pair T128 .unit)
abbrev iTaskRight.R : Ty := .bool
def iTaskRight.T (N : Nat) (x : iTaskRight.P.D) : Tr iTaskRight.R.D := .bind (iLabelRight.F N (x.1.1, ())) fun x1 => .ite (!x1) (.ret false) (.bind (iwithin.F N (x.1.2.1, (1 : Int), (12 : Int), ())) fun x2 => .ite (!x2) (.ret false) (.bind (iNameRight.F N (x.1.2.2.1, ())) fun x3 => .ite (!x3) (.ret false) (.bind (iisWork.F N (x.1.2.2.2.1, x.1.2.2.2.2.1, x.1.2.2.2.2.2.1, ())) fun x4 => .ite (!x4) (.ret false) (.bind (iisNow.F N (x.1.2.2.2.2.2.2.2.2.1, ())) fun x5 => .ite (!x5) (.ret false) (.bind (iwithin.F N (x.1.2.2.2.2.2.2.2.2.2.1, (1 : Int), (6 : Int), ())) fun x6 => .ite (!x6) (.ret false) (.ite (!eqI x.1.2.2.2.2.2.2.2.1 (0 : Int)) (.bind (iwithin.F N (x.1.2.2.2.2.2.2.2.1, (1 : Int), (12 : Int), ())) fun x7 => .ite (!x7) (.ret false) (.bind (iBelow.F N (x.1.2.2.2.2.2.2.1, x.1.1, ())) fun x8 => .ite (!x8) (.ret false) (.ite (Ty.eqb T86 x.1.2.2.2.2.2.2.1 x.1.1) (.ite (leI x.1.2.1 x.1.2.2.2.2.2.2.2.1) (.ret false) (.ite (eqI x.1.2.2.2.2.2.2.2.2.2.1 (2 : Int)) (.bind (iisTime.F N (x.1.2.2.2.2.2.2.2.2.2.2.1, ())) fun x9 => .ite x9 (.bind (inodesRight.F N (x.1.2.2.2.2.2.2.2.2.2.2.2.1, x.1.2.2.2.1, ())) fun x10 => .ret x10) (.ret false)) (.ite (eqI x.1.2.2.2.2.2.2.2.2.2.1 (1 : Int)) (.bind (iTask_hasPlace.F N x) fun x11 => .ite x11 (.bind (iisTime.F N (x.1.2.2.2.2.2.2.2.2.2.2.1, ())) fun x12 => .ite x12 (.bind (inodesRight.F N (x.1.2.2.2.2.2.2.2.2.2.2.2.1, x.1.2.2.2.1, ())) fun x13 => .ret x13) (.ret false)) (.ite (eqI x.1.2.2.2.2.2.2.2.2.2.2.1 (0 : Int)) (.bind (iTask_hasPlace.F N x) fun x14 => .ret (!x14)) (.ret false))) (.ite (eqI x.1.2.2.2.2.2.2.2.2.2.2.1 (0 : Int)) (.bind (iTask_hasPlace.F N x) fun x15 => .ret (!x15)) (.ret false))))) (.ite (eqI x.1.2.2.2.2.2.2.2.2.2.1 (2 : Int)) (.bind (iisTime.F N (x.1.2.2.2.2.2.2.2.2.2.2.1, ())) fun x16 => .ite x16 (.bind (inodesRight.F N (x.1.2.2.2.2.2.2.2.2.2.2.2.1, x.1.2.2.2.1, ())) fun x17 => .ret x17) (.ret false)) (.ite (eqI x.1.2.2.2.2.2.2.2.2.2.1 (1 : Int)) (.bind (iTask_hasPlace.F N x) fun x18 => .ite x18 (.bind (iisTime.F N (x.1.2.2.2.2.2.2.2.2.2.2.1, ())) fun x19 => .ite x19 (.bind (inodesRight.F N (x.1.2.2.2.2.2.2.2.2.2.2.2.1, x.1.2.2.2.1, ())) fun x20 => .ret x20) (.ret false)) (.ite (eqI x.1.2.2.2.2.2.2.2.2.2.2.1 (0 : Int)) (.bind (iTask_hasPlace.F N x) fun x21 => .ret (!x21)) (.ret false))) (.ite (eqI x.1.2.2.2.2.2.2.2.2.2.2.1 (0 : Int)) (.bind (iTask_hasPlace.F N x) fun x22 => .ret (!x22)) (.ret false))))))) (.ite (!Ty.eqb T86 x.1.2.2.2.2.2.2.1 ((0 : Int), (0 : Int), ())) (.bind (iwithin.F N (x.1.2.2.2.2.2.2.2.1, (1 : Int), (12 : Int), ())) fun x23 => .ite (!x23) (.ret false) (.bind (iBelow.F N (x.1.2.2.2.2.2.2.1, x.1.1, ())) fun x24 => .ite (!x24) (.ret false) (.ite (Ty.eqb T86 x.1.2.2.2.2.2.2.1 x.1.1) (.ite (leI x.1.2.1 x.1.2.2.2.2.2.2.2.1) (.ret false) (.ite (eqI x.1.2.2.2.2.2.2.2.2.2.1 (2 : Int)) (.bind (iisTime.F N (x.1.2.2.2.2.2.2.2.2.2.2.1, ())) fun x25 => .ite x25 (.bind (inodesRight.F N (x.1.2.2.2.2.2.2.2.2.2.2.2.1, x.1.2.2.2.1, ())) fun x26 => .ret x26) (.ret false)) (.ite (eqI x.1.2.2.2.2.2.2.2.2.2.1 (1 : Int)) (.bind (iTask_hasPlace.F N x) fun x27 => .ite x27 (.bind (iisTime.F N (x.1.2.2.2.2.2.2.2.2.2.2.1, ())) fun x28 => .ite x28 (.bind (inodesRight.F N (x.1.2.2.2.2.2.2.2.2.2.2.2.1, x.1.2.2.2.1, ())) fun x29 => .ret x29) (.ret false)) (.ite (eqI x.1.2.2.2.2.2.2.2.2.2.2.1 (0 : Int)) (.bind (iTask_hasPlace.F N x) fun x30 => .ret (!x30)) (.ret false))) (.ite (eqI x.1.2.2.2.2.2.2.2.2.2.2.1 (0 : Int)) (.bind (iTask_hasPlace.F N x) fun x31 => .ret (!x31)) (.ret false))))) (.ite (eqI x.1.2.2.2.2.2.2.2.2.2.1 (2 : Int)) (.bind (iisTime.F N (x.1.2.2.2.2.2.2.2.2.2.2.1, ())) fun x32 => .ite x32 (.bind (inodesRight.F N (x.1.2.2.2.2.2.2.2.2.2.2.2.1, x.1.2.2.2.1, ())) fun x33 => .ret x33) (.ret false)) (.ite (eqI x.1.2.2.2.2.2.2.2.2.2.1 (1 : Int)) (.bind (iTask_hasPlace.F N x) fun x34 => .ite x34 (.bind (iisTime.F N (x.1.2.2.2.2.2.2.2.2.2.2.1, ())) fun x35 => .ite x35 (.bind (inodesRight.F N (x.1.2.2.2.2.2.2.2.2.2.2.2.1, x.1.2.2.2.1, ())) fun x36 => .ret x36) (.ret false)) (.ite (eqI x.1.2.2.2.2.2.2.2.2.2.2.1 (0 : Int)) (.bind (iTask_hasPlace.F N x) fun x37 => .ret (!x37)) (.ret false))) (.ite (eqI x.1.2.2.2.2.2.2.2.2.2.2.1 (0 : Int)) (.bind (iTask_hasPlace.F N x) fun x38 => .ret (!x38)) (.ret false))))))) (.ite (eqI x.1.2.2.2.2.2.2.2.2.2.1 (2 : Int)) (.bind (iisTime.F N (x.1.2.2.2.2.2.2.2.2.2.2.1, ())) fun x39 => .ite x39 (.bind (inodesRight.F N (x.1.2.2.2.2.2.2.2.2.2.2.2.1, x.1.2.2.2.1, ())) fun x40 => .ret x40) (.ret false)) (.ite (eqI x.1.2.2.2.2.2.2.2.2.2.1 (1 : Int)) (.bind (iTask_hasPlace.F N x) fun x41 => .ite x41 (.bind (iisTime.F N (x.1.2.2.2.2.2.2.2.2.2.2.1, ())) fun x42 => .ite x42 (.bind (inodesRight.F N (x.1.2.2.2.2.2.2.2.2.2.2.2.1, x.1.2.2.2.1, ())) fun x43 => .ret x43) (.ret false)) (.ite (eqI x.1.2.2.2.2.2.2.2.2.2.2.1 (0 : Int)) (.bind (iTask_hasPlace.F N x) fun x44 => .ret (!x44)) (.ret false))) (.ite (eqI x.1.2.2.2.2.2.2.2.2.2.2.1 (0 : Int)) (.bind (iTask_hasPlace.F N x) fun x45 => .ret (!x45)) (.ret false)))))))))))
def iTaskRight.F (N : Nat) (x : iTaskRight.P.D) : Option iTaskRight.R.D := (iTaskRight.T N x).run
abbrev itaskAt_1_pp.P : Ty := (.pair T128 T218)
abbrev itaskAt_1_pp.R : Ty := .bool
def itaskAt_1_pp.T (N : Nat) (x : itaskAt_1_pp.P.D) : Tr itaskAt_1_pp.R.D := .ite (Ty.eqb T86 x.1.1 x.2.1) (.ret (eqI x.1.2.1 x.2.2.1)) (.ret false)
def itaskAt_1_pp.F (N : Nat) (x : itaskAt_1_pp.P.D) : Option itaskAt_1_pp.R.D := (itaskAt_1_pp.T N x).run
abbrev slIndexFunc_itaskAt_1.P : Ty := (.pair T50 T218)
abbrev slIndexFunc_itaskAt_1.R : Ty := (.int .i64)
abbrev slIndexFunc_itaskAt_1.C0_0 : Ty := (.pair T50 (.pair T86 T86))
abbrev slIndexFunc_itaskAt_1.M0_0 : Ty := (.pair (.int .i64) .unit)
abbrev slIndexFunc_itaskAt_1.O0_0 : Ty := .unit
abbrev slIndexFunc_itaskAt_1.Q0_0 : Ty := (.pair (.int .i64) .unit)
def slIndexFunc_itaskAt_1.B0_0 (N : Nat) (c : slIndexFunc_itaskAt_1.C0_0.D) (m : slIndexFunc_itaskAt_1.M0_0.D) : Tr (Leaf slIndexFunc_itaskAt_1.M0_0.D slIndexFunc_itaskAt_1.O0_0.D slIndexFunc_itaskAt_1.Q0_0.D) := .ite (ltI m.1 c.2.2.2.1) (.bind (idx c.1 m.1) fun x1 => .bind (itaskAt_1_pp.F N (x1, c.2.1, c.2.2.1, ())) fun x2 => .ite x2 (.ret (.ret m)) (.ret (.more ((addW .i64 m.1 (1 : Int)), ())))) (.ret (.out ()))
def slIndexFunc_itaskAt_1.L0_0 (N : Nat) (c : slIndexFunc_itaskAt_1.C0_0.D) (m : slIndexFunc_itaskAt_1.M0_0.D) : Option (slIndexFunc_itaskAt_1.O0_0.D ⊕ slIndexFunc_itaskAt_1.Q0_0.D) := iterT (slIndexFunc_itaskAt_1.B0_0 N c) N m
def slIndexFunc_itaskAt_1.T (N : Nat) (x : slIndexFunc_itaskAt_1.P.D) : Tr slIndexFunc_itaskAt_1.R.D := .bind (slIndexFunc_itaskAt_1.L0_0 N (x.1, x.2.1, x.2.2.1, (lenI x.1), ()) ((0 : Int), ())) fun p1 => .sum p1 (fun a2 => .ret (-1 : Int)) (fun b3 => .ret b3.1)
def slIndexFunc_itaskAt_1.F (N : Nat) (x : slIndexFunc_itaskAt_1.P.D) : Option slIndexFunc_itaskAt_1.R.D := (slIndexFunc_itaskAt_1.T N x).run
abbrev itaskAt.P : Ty := (.pair T50 T218)
abbrev itaskAt.R : Ty := (.int .i64)
def itaskAt.T (N : Nat) (x : itaskAt.P.D) : Tr itaskAt.R.D := .bind (slIndexFunc_itaskAt_1.F N x) fun x1 => .ret x1
def itaskAt.F (N : Nat) (x : itaskAt.P.D) : Option itaskAt.R.D := (itaskAt.T N x).run
abbrev iTasksRight.P : Ty := (.pair T50 .unit)
abbrev iTasksRight.R : Ty := .bool
abbrev iTasksRight.C0_0 : Ty := (.pair T50 (.pair T50 (.pair (.int .i64) .unit)))
abbrev iTasksRight.M0_0 : Ty := (.pair (.int .i64) .unit)
abbrev iTasksRight.O0_0 : Ty := .unit
abbrev iTasksRight.Q0_0 : Ty := (.pair .bool .unit)
def iTasksRight.B0_0 (N : Nat) (c : iTasksRight.C0_0.D) (m : iTasksRight.M0_0.D) : Tr (Leaf iTasksRight.M0_0.D iTasksRight.O0_0.D iTasksRight.Q0_0.D) := .ite (ltI m.1 c.2.2.1) (.bind (idx c.2.1 m.1) fun x1 => .bind (iTaskRight.F N (x1, ())) fun x2 => .ite (!x2) (.ret (.ret (false, ()))) (.ite (ltI (0 : Int) m.1) (.bind (idx c.1 (subW .i64 m.1 (1 : Int))) fun x3 => .bind (icompareLabels.F N (x3.1, x1.1, ())) fun x4 => .ite (ltI (0 : Int) x4) (.ret (.ret (false, ()))) (.ite (eqI x4 (0 : Int)) (.bind (idx c.1 (subW .i64 m.1 (1 : Int))) fun x5 => .ite (!eqI x1.2.1 (addW .i64 x5.2.1 (1 : Int))) (.ret (.ret (false, ()))) (.ite (!eqI x1.2.2.2.2.2.2.2.1 (0 : Int)) (.bind (itaskAt.F N (c.1, x1.2.2.2.2.2.2.1, x1.2.2.2.2.2.2.2.1, ())) fun x6 => .ite (ltI x6 (0 : Int)) (.ret (.ret (false, ()))) (.ret (.more ((addW .i64 m.1 (1 : Int)), ())))) (.ret (.more ((addW .i64 m.1 (1 : Int)), ()))))) (.ite (!eqI x1.2.1 (1 : Int)) (.ret (.ret (false, ()))) (.ite (!eqI x1.2.2.2.2.2.2.2.1 (0 : Int)) (.bind (itaskAt.F N (c.1, x1.2.2.2.2.2.2.1, x1.2.2.2.2.2.2.2.1, ())) fun x7 => .ite (ltI x7 (0 : Int)) (.ret (.ret (false, ()))) (.ret (.more ((addW .i64 m.1 (1 : Int)), ())))) (.ret (.more ((addW .i64 m.1 (1 : Int)), ()))))))) (.ite (!eqI x1.2.1 (1 : Int)) (.ret (.ret (false, ()))) (.ite (!eqI x1.2.2.2.2.2.2.2.1 (0 : Int)) (.bind (itaskAt.F N (c.1, x1.2.2.2.2.2.2.1, x1.2.2.2.2.2.2.2.1, ())) fun x8 => .ite (ltI x8 (0 : Int)) (.ret (.ret (false, ()))) (.ret (.more ((addW .i64 m.1 (1 : Int)), ())))) (.ret (.more ((addW .i64 m.1 (1 : Int)), ()))))))) (.ret (.out ()))
def iTasksRight.L0_0 (N : Nat) (c : iTasksRight.C0_0.D) (m : iTasksRight.M0_0.D) : Option (iTasksRight.O0_0.D ⊕ iTasksRight.Q0_0.D) := iterT (iTasksRight.B0_0 N c) N m
def iTasksRight.T (N : Nat) (x : iTasksRight.P.D) : Tr iTasksRight.R.D := .ite (ltI (96 : Int) (lenI x.1)) (.ret false) (.bind (iTasksRight.L0_0 N (x.1, x.1, (lenI x.1), ()) ((0 : Int), ())) fun p1 => .sum p1 (fun a2 => .ret true) (fun b3 => .ret b3.1))
def iTasksRight.F (N : Nat) (x : iTasksRight.P.D) : Option iTasksRight.R.D := (iTasksRight.T N x).run
abbrev icompareUses.P : Ty := (.pair T131 (.pair T131 .unit))
abbrev icompareUses.R : Ty := (.int .i64)
def icompareUses.T (N : Nat) (x : icompareUses.P.D) : Tr icompareUses.R.D := .bind (icompareLabels.F N (x.1.1, x.2.1.1, ())) fun x1 => .bind (strCompare.F N (x.1.2.1, x.2.1.2.1, ())) fun x2 => .bind (cmpOr_int.F N (([x1, x2] : List (Ty.D (.int .i64))), ())) fun x3 => .ret x3
def icompareUses.F (N : Nat) (x : icompareUses.P.D) : Option icompareUses.R.D := (icompareUses.T N x).run
abbrev iownersOf.P : Ty := (.pair T51 (.pair T86 .unit))
abbrev iownersOf.R : Ty := (.int .i64)
abbrev iownersOf.C0_0 : Ty := (.pair T51 (.pair (.int .i64) T86))
abbrev iownersOf.M0_0 : Ty := T86
abbrev iownersOf.O0_0 : Ty := (.pair (.int .i64) .unit)
abbrev iownersOf.Q0_0 : Ty := .unit
def iownersOf.B0_0 (N : Nat) (c : iownersOf.C0_0.D) (m : iownersOf.M0_0.D) : Tr (Leaf iownersOf.M0_0.D iownersOf.O0_0.D iownersOf.Q0_0.D) := .ite (ltI m.2.1 c.2.1) (.bind (idx c.1 m.2.1) fun x1 => .ite (Ty.eqb T86 x1.1 c.2.2) (.ret (.more ((addW .i64 m.1 (1 : Int)), (addW .i64 m.2.1 (1 : Int)), ()))) (.ret (.more (m.1, (addW .i64 m.2.1 (1 : Int)), ())))) (.ret (.out (m.1, ())))
def iownersOf.L0_0 (N : Nat) (c : iownersOf.C0_0.D) (m : iownersOf.M0_0.D) : Option (iownersOf.O0_0.D ⊕ iownersOf.Q0_0.D) := iterT (iownersOf.B0_0 N c) N m
def iownersOf.T (N : Nat) (x : iownersOf.P.D) : Tr iownersOf.R.D := .bind (iownersOf.L0_0 N (x.1, (lenI x.1), x.2.1) ((0 : Int), (0 : Int), ())) fun p1 => .sum p1 (fun a2 => .ret a2.1) (fun b3 => .no)
def iownersOf.F (N : Nat) (x : iownersOf.P.D) : Option iownersOf.R.D := (iownersOf.T N x).run
abbrev iUsesRight.P : Ty := (.pair T51 .unit)
abbrev iUsesRight.R : Ty := .bool
abbrev iUsesRight.C0_0 : Ty := (.pair T51 (.pair T51 (.pair (.int .i64) .unit)))
abbrev iUsesRight.M0_0 : Ty := (.pair (.int .i64) .unit)
abbrev iUsesRight.O0_0 : Ty := .unit
abbrev iUsesRight.Q0_0 : Ty := (.pair .bool .unit)
def iUsesRight.B0_0 (N : Nat) (c : iUsesRight.C0_0.D) (m : iUsesRight.M0_0.D) : Tr (Leaf iUsesRight.M0_0.D iUsesRight.O0_0.D iUsesRight.Q0_0.D) := .ite (ltI m.1 c.2.2.1) (.bind (idx c.2.1 m.1) fun x1 => .bind (iLabelRight.F N (x1.1, ())) fun x2 => .ite (!x2) (.ret (.ret (false, ()))) (.bind (iNameRight.F N (x1.2.1, ())) fun x3 => .ite (!x3) (.ret (.ret (false, ()))) (.bind (iwithin.F N (x1.2.2.1, (1 : Int), (100000 : Int), ())) fun x4 => .ite (!x4) (.ret (.ret (false, ()))) (.ite (ltI (0 : Int) m.1) (.bind (idx c.1 (subW .i64 m.1 (1 : Int))) fun x5 => .bind (icompareUses.F N (x5, x1, ())) fun x6 => .ite (leI (0 : Int) x6) (.ret (.ret (false, ()))) (.ite (inR 0 (0 : Int) m.1 && leI m.1 (lenI c.1)) (.bind (iownersOf.F N ((List.drop (Int.toNat (0 : Int)) (List.take (Int.toNat m.1) c.1)), x1.1, ())) fun x7 => .ite (eqI x7 (6 : Int)) (.ret (.ret (false, ()))) (.ret (.more ((addW .i64 m.1 (1 : Int)), ())))) (.no))) (.ite (inR 0 (0 : Int) m.1 && leI m.1 (lenI c.1)) (.bind (iownersOf.F N ((List.drop (Int.toNat (0 : Int)) (List.take (Int.toNat m.1) c.1)), x1.1, ())) fun x8 => .ite (eqI x8 (6 : Int)) (.ret (.ret (false, ()))) (.ret (.more ((addW .i64 m.1 (1 : Int)), ())))) (.no)))))) (.ret (.out ()))
def iUsesRight.L0_0 (N : Nat) (c : iUsesRight.C0_0.D) (m : iUsesRight.M0_0.D) : Option (iUsesRight.O0_0.D ⊕ iUsesRight.Q0_0.D) := iterT (iUsesRight.B0_0 N c) N m
def iUsesRight.T (N : Nat) (x : iUsesRight.P.D) : Tr iUsesRight.R.D := .bind (iUsesRight.L0_0 N (x.1, x.1, (lenI x.1), ()) ((0 : Int), ())) fun p1 => .sum p1 (fun a2 => .ret (leI (lenI x.1) (48 : Int))) (fun b3 => .ret b3.1)
def iUsesRight.F (N : Nat) (x : iUsesRight.P.D) : Option iUsesRight.R.D := (iUsesRight.T N x).run
abbrev iConfig_clearFor.P : Ty := (.pair T47 (.pair T86 .unit))
abbrev iConfig_clearFor.R : Ty := T89
abbrev iConfig_clearFor.C0_0 : Ty := (.pair T44 (.pair (.int .i64) T86))
abbrev iConfig_clearFor.M0_0 : Ty := (.pair (.int .i64) (.pair T89 .unit))
abbrev iConfig_clearFor.O0_0 : Ty := (.pair T89 .unit)
abbrev iConfig_clearFor.Q0_0 : Ty := .unit
def iConfig_clearFor.B0_0 (N : Nat) (c : iConfig_clearFor.C0_0.D) (m : iConfig_clearFor.M0_0.D) : Tr (Leaf iConfig_clearFor.M0_0.D iConfig_clearFor.O0_0.D iConfig_clearFor.Q0_0.D) := .ite (ltI m.1 c.2.1) (.bind (idx c.1 m.1) fun x1 => .bind (slContains_SLabel.F N (x1, c.2.2, ())) fun x2 => .ite x2 (.ite (decide (List.length m.2.1 + List.length ([m.1] : List (Ty.D (.int .i64))) ≤ maxRow) && true) (.ret (.more ((addW .i64 m.1 (1 : Int)), (m.2.1 ++ ([m.1] : List (Ty.D (.int .i64)))), ()))) (.no)) (.ret (.more ((addW .i64 m.1 (1 : Int)), m.2)))) (.ret (.out m.2))
def iConfig_clearFor.L0_0 (N : Nat) (c : iConfig_clearFor.C0_0.D) (m : iConfig_clearFor.M0_0.D) : Option (iConfig_clearFor.O0_0.D ⊕ iConfig_clearFor.Q0_0.D) := iterT (iConfig_clearFor.B0_0 N c) N m
def iConfig_clearFor.T (N : Nat) (x : iConfig_clearFor.P.D) : Tr iConfig_clearFor.R.D := .bind (iConfig_clearFor.L0_0 N (x.1.1, (lenI x.1.1), x.2.1) ((0 : Int), ([] : List (Ty.D (.int .i64))), ())) fun p1 => .sum p1 (fun a2 => .ret a2.1) (fun b3 => .no)
def iConfig_clearFor.F (N : Nat) (x : iConfig_clearFor.P.D) : Option iConfig_clearFor.R.D := (iConfig_clearFor.T N x).run
abbrev slIndex_Sint64.P : Ty := (.pair T89 (.pair (.int .i64) .unit))
abbrev slIndex_Sint64.R : Ty := (.int .i64)
abbrev slIndex_Sint64.C0_0 : Ty := (.pair T89 T86)
abbrev slIndex_Sint64.M0_0 : Ty := (.pair (.int .i64) .unit)
abbrev slIndex_Sint64.O0_0 : Ty := .unit
abbrev slIndex_Sint64.Q0_0 : Ty := (.pair (.int .i64) .unit)
def slIndex_Sint64.B0_0 (N : Nat) (c : slIndex_Sint64.C0_0.D) (m : slIndex_Sint64.M0_0.D) : Tr (Leaf slIndex_Sint64.M0_0.D slIndex_Sint64.O0_0.D slIndex_Sint64.Q0_0.D) := .ite (ltI m.1 c.2.2.1) (.bind (idx c.1 m.1) fun x1 => .ite (eqI c.2.1 x1) (.ret (.ret m)) (.ret (.more ((addW .i64 m.1 (1 : Int)), ())))) (.ret (.out ()))
def slIndex_Sint64.L0_0 (N : Nat) (c : slIndex_Sint64.C0_0.D) (m : slIndex_Sint64.M0_0.D) : Option (slIndex_Sint64.O0_0.D ⊕ slIndex_Sint64.Q0_0.D) := iterT (slIndex_Sint64.B0_0 N c) N m
def slIndex_Sint64.T (N : Nat) (x : slIndex_Sint64.P.D) : Tr slIndex_Sint64.R.D := .bind (slIndex_Sint64.L0_0 N (x.1, x.2.1, (lenI x.1), ()) ((0 : Int), ())) fun p1 => .sum p1 (fun a2 => .ret (-1 : Int)) (fun b3 => .ret b3.1)
def slIndex_Sint64.F (N : Nat) (x : slIndex_Sint64.P.D) : Option slIndex_Sint64.R.D := (slIndex_Sint64.T N x).run
abbrev slContains_Sint64.P : Ty := (.pair T89 (.pair (.int .i64) .unit))
abbrev slContains_Sint64.R : Ty := .bool
def slContains_Sint64.T (N : Nat) (x : slContains_Sint64.P.D) : Tr slContains_Sint64.R.D := .bind (slIndex_Sint64.F N x) fun x1 => .ret (leI (0 : Int) x1)
def slContains_Sint64.F (N : Nat) (x : slContains_Sint64.P.D) : Option slContains_Sint64.R.D := (slContains_Sint64.T N x).run
abbrev iYard_taskFits_1_p.P : Ty := (.pair (.int .i64) (.pair T89 .unit))
abbrev iYard_taskFits_1_p.R : Ty := .bool
def iYard_taskFits_1_p.T (N : Nat) (x : iYard_taskFits_1_p.P.D) : Tr iYard_taskFits_1_p.R.D := .bind (slContains_Sint64.F N (x.2.1, x.1, ())) fun x1 => .ret (!x1)
def iYard_taskFits_1_p.F (N : Nat) (x : iYard_taskFits_1_p.P.D) : Option iYard_taskFits_1_p.R.D := (iYard_taskFits_1_p.T N x).run
abbrev slIndexFunc_iYard_taskFits_1.P : Ty := (.pair T89 (.pair T89 .unit))
abbrev slIndexFunc_iYard_taskFits_1.R : Ty := (.int .i64)
abbrev slIndexFunc_iYard_taskFits_1.C0_0 : Ty := (.pair T89 (.pair T89 (.pair (.int .i64) .unit)))
abbrev slIndexFunc_iYard_taskFits_1.M0_0 : Ty := (.pair (.int .i64) .unit)
abbrev slIndexFunc_iYard_taskFits_1.O0_0 : Ty := .unit
abbrev slIndexFunc_iYard_taskFits_1.Q0_0 : Ty := (.pair (.int .i64) .unit)
def slIndexFunc_iYard_taskFits_1.B0_0 (N : Nat) (c : slIndexFunc_iYard_taskFits_1.C0_0.D) (m : slIndexFunc_iYard_taskFits_1.M0_0.D) : Tr (Leaf slIndexFunc_iYard_taskFits_1.M0_0.D slIndexFunc_iYard_taskFits_1.O0_0.D slIndexFunc_iYard_taskFits_1.Q0_0.D) := .ite (ltI m.1 c.2.2.1) (.bind (idx c.1 m.1) fun x1 => .bind (iYard_taskFits_1_p.F N (x1, c.2.1, ())) fun x2 => .ite x2 (.ret (.ret m)) (.ret (.more ((addW .i64 m.1 (1 : Int)), ())))) (.ret (.out ()))
def slIndexFunc_iYard_taskFits_1.L0_0 (N : Nat) (c : slIndexFunc_iYard_taskFits_1.C0_0.D) (m : slIndexFunc_iYard_taskFits_1.M0_0.D) : Option (slIndexFunc_iYard_taskFits_1.O0_0.D ⊕ slIndexFunc_iYard_taskFits_1.Q0_0.D) := iterT (slIndexFunc_iYard_taskFits_1.B0_0 N c) N m
def slIndexFunc_iYard_taskFits_1.T (N : Nat) (x : slIndexFunc_iYard_taskFits_1.P.D) : Tr slIndexFunc_iYard_taskFits_1.R.D := .bind (slIndexFunc_iYard_taskFits_1.L0_0 N (x.1, x.2.1, (lenI x.1), ()) ((0 : Int), ())) fun p1 => .sum p1 (fun a2 => .ret (-1 : Int)) (fun b3 => .ret b3.1)
def slIndexFunc_iYard_taskFits_1.F (N : Nat) (x : slIndexFunc_iYard_taskFits_1.P.D) : Option slIndexFunc_iYard_taskFits_1.R.D := (slIndexFunc_iYard_taskFits_1.T N x).run
abbrev slContainsFunc_iYard_taskFits_1.P : Ty := (.pair T89 (.pair T89 .unit))
abbrev slContainsFunc_iYard_taskFits_1.R : Ty := .bool
def slContainsFunc_iYard_taskFits_1.T (N : Nat) (x : slContainsFunc_iYard_taskFits_1.P.D) : Tr slContainsFunc_iYard_taskFits_1.R.D := .bind (slIndexFunc_iYard_taskFits_1.F N x) fun x1 => .ret (leI (0 : Int) x1)
def slContainsFunc_iYard_taskFits_1.F (N : Nat) (x : slContainsFunc_iYard_taskFits_1.P.D) : Option slContainsFunc_iYard_taskFits_1.R.D := (slContainsFunc_iYard_taskFits_1.T N x).run
abbrev iTask_end.P : Ty := (.pair T128 .unit)
abbrev iTask_end.R : Ty := (.int .i64)
def iTask_end.T (N : Nat) (x : iTask_end.P.D) : Tr iTask_end.R.D := .ret (addW .i64 (addW .i64 x.1.2.2.2.2.2.2.2.2.2.2.1 (1 : Int)) x.1.2.2.2.2.1)
def iTask_end.F (N : Nat) (x : iTask_end.P.D) : Option iTask_end.R.D := (iTask_end.T N x).run
abbrev iYard_taskFits.P : Ty := (.pair T52 (.pair T128 .unit))
abbrev iYard_taskFits.R : Ty := .bool
def iYard_taskFits.T (N : Nat) (x : iYard_taskFits.P.D) : Tr iYard_taskFits.R.D := .bind (iConfig_clearFor.F N (x.1.1, x.2.1.1, ())) fun x1 => .ite (ltI (lenI x1) x.2.1.2.2.2.1) (.ret false) (.ite (ltI x.1.2.2.2.2.1 x.2.1.2.2.2.2.2.2.2.2.1) (.ret false) (.bind (slContainsFunc_iYard_taskFits_1.F N (x.2.1.2.2.2.2.2.2.2.2.2.2.2.1, x1, ())) fun x2 => .ite x2 (.ret false) (.ite (eqI x.2.1.2.2.2.2.2.2.2.2.2.1 (2 : Int)) (.ite (leI x.2.1.2.2.2.2.2.2.2.2.2.2.1 x.1.2.2.2.2.1) (.bind (iTask_end.F N x.2) fun x3 => .ret (ltI x.1.2.2.2.2.1 x3)) (.ret false)) (.bind (iTask_hasPlace.F N x.2) fun x4 => .ite x4 (.bind (iwithin.F N (x.2.1.2.2.2.2.2.2.2.2.2.2.1, (addW .i64 x.1.2.2.2.2.1 (1 : Int)), (addW .i64 x.1.2.2.2.2.1 (40 : Int)), ())) fun x5 => .ret x5) (.ret true)))))
def iYard_taskFits.F (N : Nat) (x : iYard_taskFits.P.D) : Option iYard_taskFits.R.D := (iYard_taskFits.T N x).run
abbrev iTask_isLive.P : Ty := (.pair T128 .unit)
abbrev iTask_isLive.R : Ty := .bool
def iTask_isLive.T (N : Nat) (x : iTask_isLive.P.D) : Tr iTask_isLive.R.D := .bind (iwithin.F N (x.1.2.2.2.2.2.2.2.2.2.1, (1 : Int), (3 : Int), ())) fun x1 => .ret x1
def iTask_isLive.F (N : Nat) (x : iTask_isLive.P.D) : Option iTask_isLive.R.D := (iTask_isLive.T N x).run
abbrev iliveOf.P : Ty := (.pair T50 (.pair T86 .unit))
abbrev iliveOf.R : Ty := (.int .i64)
abbrev iliveOf.C0_0 : Ty := (.pair T50 (.pair (.int .i64) T86))
abbrev iliveOf.M0_0 : Ty := T86
abbrev iliveOf.O0_0 : Ty := (.pair (.int .i64) .unit)
abbrev iliveOf.Q0_0 : Ty := .unit
def iliveOf.B0_0 (N : Nat) (c : iliveOf.C0_0.D) (m : iliveOf.M0_0.D) : Tr (Leaf iliveOf.M0_0.D iliveOf.O0_0.D iliveOf.Q0_0.D) := .ite (ltI m.2.1 c.2.1) (.bind (idx c.1 m.2.1) fun x1 => .ite (Ty.eqb T86 x1.1 c.2.2) (.bind (iTask_isLive.F N (x1, ())) fun x2 => .ite x2 (.ret (.more ((addW .i64 m.1 (1 : Int)), (addW .i64 m.2.1 (1 : Int)), ()))) (.ret (.more (m.1, (addW .i64 m.2.1 (1 : Int)), ())))) (.ret (.more (m.1, (addW .i64 m.2.1 (1 : Int)), ())))) (.ret (.out (m.1, ())))
def iliveOf.L0_0 (N : Nat) (c : iliveOf.C0_0.D) (m : iliveOf.M0_0.D) : Option (iliveOf.O0_0.D ⊕ iliveOf.Q0_0.D) := iterT (iliveOf.B0_0 N c) N m
def iliveOf.T (N : Nat) (x : iliveOf.P.D) : Tr iliveOf.R.D := .bind (iliveOf.L0_0 N (x.1, (lenI x.1), x.2.1) ((0 : Int), (0 : Int), ())) fun p1 => .sum p1 (fun a2 => .ret a2.1) (fun b3 => .no)
def iliveOf.F (N : Nat) (x : iliveOf.P.D) : Option iliveOf.R.D := (iliveOf.T N x).run
abbrev iQuotaOf.P : Ty := (.pair T47 (.pair T86 .unit))
abbrev iQuotaOf.R : Ty := (.int .i64)
abbrev iQuotaOf.C0_0 : Ty := (.pair T46 (.pair (.int .i64) T86))
abbrev iQuotaOf.M0_0 : Ty := (.pair (.int .i64) .unit)
abbrev iQuotaOf.O0_0 : Ty := .unit
abbrev iQuotaOf.Q0_0 : Ty := (.pair (.int .i64) .unit)
def iQuotaOf.B0_0 (N : Nat) (c : iQuotaOf.C0_0.D) (m : iQuotaOf.M0_0.D) : Tr (Leaf iQuotaOf.M0_0.D iQuotaOf.O0_0.D iQuotaOf.Q0_0.D) := .ite (ltI m.1 c.2.1) (.bind (idx c.1 m.1) fun x1 => .ite (Ty.eqb T86 x1.1 c.2.2) (.ret (.ret x1.2)) (.ret (.more ((addW .i64 m.1 (1 : Int)), ())))) (.ret (.out ()))
def iQuotaOf.L0_0 (N : Nat) (c : iQuotaOf.C0_0.D) (m : iQuotaOf.M0_0.D) : Option (iQuotaOf.O0_0.D ⊕ iQuotaOf.Q0_0.D) := iterT (iQuotaOf.B0_0 N c) N m
def iQuotaOf.T (N : Nat) (x : iQuotaOf.P.D) : Tr iQuotaOf.R.D := .bind (iConfigRight.F N (x.1, ())) fun x1 => .ite (!x1) (.ret (0 : Int)) (.bind (iConfig_clearFor.F N x) fun x2 => .ite (eqI (lenI x2) (0 : Int)) (.ret (0 : Int)) (.bind (iQuotaOf.L0_0 N (x.1.2.2.1, (lenI x.1.2.2.1), x.2.1) ((0 : Int), ())) fun p3 => .sum p3 (fun a4 => .ret (6 : Int)) (fun b5 => .ret b5.1)))
def iQuotaOf.F (N : Nat) (x : iQuotaOf.P.D) : Option iQuotaOf.R.D := (iQuotaOf.T N x).run
abbrev iYardRight_1_p.P : Ty := (.pair T86 (.pair T52 .unit))
abbrev iYardRight_1_p.R : Ty := .bool
def iYardRight_1_p.T (N : Nat) (x : iYardRight_1_p.P.D) : Tr iYardRight_1_p.R.D := .bind (iliveOf.F N (x.2.1.2.2.1, x.1, ())) fun x1 => .bind (iQuotaOf.F N (x.2.1.1, x.1, ())) fun x2 => .ret (ltI x2 x1)
def iYardRight_1_p.F (N : Nat) (x : iYardRight_1_p.P.D) : Option iYardRight_1_p.R.D := (iYardRight_1_p.T N x).run
abbrev slIndexFunc_iYardRight_1.P : Ty := (.pair T82 (.pair T52 .unit))
abbrev slIndexFunc_iYardRight_1.R : Ty := (.int .i64)
abbrev slIndexFunc_iYardRight_1.C0_0 : Ty := (.pair T82 (.pair T52 (.pair (.int .i64) .unit)))
abbrev slIndexFunc_iYardRight_1.M0_0 : Ty := (.pair (.int .i64) .unit)
abbrev slIndexFunc_iYardRight_1.O0_0 : Ty := .unit
abbrev slIndexFunc_iYardRight_1.Q0_0 : Ty := (.pair (.int .i64) .unit)
def slIndexFunc_iYardRight_1.B0_0 (N : Nat) (c : slIndexFunc_iYardRight_1.C0_0.D) (m : slIndexFunc_iYardRight_1.M0_0.D) : Tr (Leaf slIndexFunc_iYardRight_1.M0_0.D slIndexFunc_iYardRight_1.O0_0.D slIndexFunc_iYardRight_1.Q0_0.D) := .ite (ltI m.1 c.2.2.1) (.bind (idx c.1 m.1) fun x1 => .bind (iYardRight_1_p.F N (x1, c.2.1, ())) fun x2 => .ite x2 (.ret (.ret m)) (.ret (.more ((addW .i64 m.1 (1 : Int)), ())))) (.ret (.out ()))
def slIndexFunc_iYardRight_1.L0_0 (N : Nat) (c : slIndexFunc_iYardRight_1.C0_0.D) (m : slIndexFunc_iYardRight_1.M0_0.D) : Option (slIndexFunc_iYardRight_1.O0_0.D ⊕ slIndexFunc_iYardRight_1.Q0_0.D) := iterT (slIndexFunc_iYardRight_1.B0_0 N c) N m
def slIndexFunc_iYardRight_1.T (N : Nat) (x : slIndexFunc_iYardRight_1.P.D) : Tr slIndexFunc_iYardRight_1.R.D := .bind (slIndexFunc_iYardRight_1.L0_0 N (x.1, x.2.1, (lenI x.1), ()) ((0 : Int), ())) fun p1 => .sum p1 (fun a2 => .ret (-1 : Int)) (fun b3 => .ret b3.1)
def slIndexFunc_iYardRight_1.F (N : Nat) (x : slIndexFunc_iYardRight_1.P.D) : Option slIndexFunc_iYardRight_1.R.D := (slIndexFunc_iYardRight_1.T N x).run
abbrev slContainsFunc_iYardRight_1.P : Ty := (.pair T82 (.pair T52 .unit))
abbrev slContainsFunc_iYardRight_1.R : Ty := .bool
def slContainsFunc_iYardRight_1.T (N : Nat) (x : slContainsFunc_iYardRight_1.P.D) : Tr slContainsFunc_iYardRight_1.R.D := .bind (slIndexFunc_iYardRight_1.F N x) fun x1 => .ret (leI (0 : Int) x1)
def slContainsFunc_iYardRight_1.F (N : Nat) (x : slContainsFunc_iYardRight_1.P.D) : Option slContainsFunc_iYardRight_1.R.D := (slContainsFunc_iYardRight_1.T N x).run
abbrev iYardRight_2_p.P : Ty := (.pair T131 (.pair T82 .unit))
abbrev iYardRight_2_p.R : Ty := .bool
def iYardRight_2_p.T (N : Nat) (x : iYardRight_2_p.P.D) : Tr iYardRight_2_p.R.D := .bind (slContains_SLabel.F N (x.2.1, x.1.1, ())) fun x1 => .ret (!x1)
def iYardRight_2_p.F (N : Nat) (x : iYardRight_2_p.P.D) : Option iYardRight_2_p.R.D := (iYardRight_2_p.T N x).run
abbrev slIndexFunc_iYardRight_2.P : Ty := (.pair T51 (.pair T82 .unit))
abbrev slIndexFunc_iYardRight_2.R : Ty := (.int .i64)
abbrev slIndexFunc_iYardRight_2.C0_0 : Ty := (.pair T51 (.pair T82 (.pair (.int .i64) .unit)))
abbrev slIndexFunc_iYardRight_2.M0_0 : Ty := (.pair (.int .i64) .unit)
abbrev slIndexFunc_iYardRight_2.O0_0 : Ty := .unit
abbrev slIndexFunc_iYardRight_2.Q0_0 : Ty := (.pair (.int .i64) .unit)
def slIndexFunc_iYardRight_2.B0_0 (N : Nat) (c : slIndexFunc_iYardRight_2.C0_0.D) (m : slIndexFunc_iYardRight_2.M0_0.D) : Tr (Leaf slIndexFunc_iYardRight_2.M0_0.D slIndexFunc_iYardRight_2.O0_0.D slIndexFunc_iYardRight_2.Q0_0.D) := .ite (ltI m.1 c.2.2.1) (.bind (idx c.1 m.1) fun x1 => .bind (iYardRight_2_p.F N (x1, c.2.1, ())) fun x2 => .ite x2 (.ret (.ret m)) (.ret (.more ((addW .i64 m.1 (1 : Int)), ())))) (.ret (.out ()))
def slIndexFunc_iYardRight_2.L0_0 (N : Nat) (c : slIndexFunc_iYardRight_2.C0_0.D) (m : slIndexFunc_iYardRight_2.M0_0.D) : Option (slIndexFunc_iYardRight_2.O0_0.D ⊕ slIndexFunc_iYardRight_2.Q0_0.D) := iterT (slIndexFunc_iYardRight_2.B0_0 N c) N m
def slIndexFunc_iYardRight_2.T (N : Nat) (x : slIndexFunc_iYardRight_2.P.D) : Tr slIndexFunc_iYardRight_2.R.D := .bind (slIndexFunc_iYardRight_2.L0_0 N (x.1, x.2.1, (lenI x.1), ()) ((0 : Int), ())) fun p1 => .sum p1 (fun a2 => .ret (-1 : Int)) (fun b3 => .ret b3.1)
def slIndexFunc_iYardRight_2.F (N : Nat) (x : slIndexFunc_iYardRight_2.P.D) : Option slIndexFunc_iYardRight_2.R.D := (slIndexFunc_iYardRight_2.T N x).run
abbrev slContainsFunc_iYardRight_2.P : Ty := (.pair T51 (.pair T82 .unit))
abbrev slContainsFunc_iYardRight_2.R : Ty := .bool
def slContainsFunc_iYardRight_2.T (N : Nat) (x : slContainsFunc_iYardRight_2.P.D) : Tr slContainsFunc_iYardRight_2.R.D := .bind (slIndexFunc_iYardRight_2.F N x) fun x1 => .ret (leI (0 : Int) x1)
def slContainsFunc_iYardRight_2.F (N : Nat) (x : slContainsFunc_iYardRight_2.P.D) : Option slContainsFunc_iYardRight_2.R.D := (slContainsFunc_iYardRight_2.T N x).run
abbrev iYardRight.P : Ty := (.pair T52 .unit)
abbrev iYardRight.R : Ty := .bool
abbrev iYardRight.C0_4 : Ty := (.pair T50 (.pair (.int .i64) (.pair (.int .i64) (.pair T89 (.pair (.int .i64) (.pair T44 (.pair T45 (.pair T46 (.pair (.int .i64) (.pair T49 (.pair T50 (.pair T51 (.pair (.int .i64) (.pair (.int .i64) (.pair (.int .i64) (.pair (.int .i64) (.pair .str (.pair (.int .i64) (.pair (.int .i64) (.pair (.int .i64) (.pair (.int .i64) (.pair (.int .i64) (.pair (.int .i64) (.pair (.int .i64) (.pair (.int .i64) (.pair (.int .i64) (.pair T89 .unit)))))))))))))))))))))))))))
abbrev iYardRight.M0_4 : Ty := (.pair (.int .i64) (.pair (.slice 0 .bool) .unit))
abbrev iYardRight.O0_4 : Ty := (.pair (.slice 0 .bool) .unit)
abbrev iYardRight.Q0_4 : Ty := (.pair .bool .unit)
def iYardRight.B0_4 (N : Nat) (c : iYardRight.C0_4.D) (m : iYardRight.M0_4.D) : Tr (Leaf iYardRight.M0_4.D iYardRight.O0_4.D iYardRight.Q0_4.D) := .ite (ltI m.1 c.2.2.2.2.1) (.bind (idx c.2.2.2.1 m.1) fun x1 => .ite (eqI c.2.2.2.2.2.2.2.2.2.2.2.2.2.2.2.2.2.2.2.2.2.2.2.2.1 (2 : Int)) (.ite (ltI x1 6) (.bind (idx m.2.1 x1) fun _ => .bind (idx m.2.1 x1) fun x2 => .ite x2 (.ret (.ret (false, ()))) (.ite (ltI x1 6) (.bind (idx m.2.1 x1) fun _ => .bind (idx m.2.1 x1) fun x3 => .ite x3 (.ite (ltI x1 6) (.bind (idx m.2.1 x1) fun _ => .bind (idx m.2.1 x1) fun x4 => .ret (.more ((addW .i64 m.1 (1 : Int)), (List.set m.2.1 (Int.toNat x1) true), ()))) (.no)) (.ite (ltI x1 6) (.bind (idx m.2.1 x1) fun _ => .bind (idx m.2.1 x1) fun x5 => .ret (.more ((addW .i64 m.1 (1 : Int)), (List.set m.2.1 (Int.toNat x1) (eqI c.2.2.2.2.2.2.2.2.2.2.2.2.2.2.2.2.2.2.2.2.2.2.2.2.1 (2 : Int))), ()))) (.no))) (.no))) (.no)) (.ite (ltI x1 6) (.bind (idx m.2.1 x1) fun _ => .bind (idx m.2.1 x1) fun x6 => .ite x6 (.ite (ltI x1 6) (.bind (idx m.2.1 x1) fun _ => .bind (idx m.2.1 x1) fun x7 => .ret (.more ((addW .i64 m.1 (1 : Int)), (List.set m.2.1 (Int.toNat x1) true), ()))) (.no)) (.ite (ltI x1 6) (.bind (idx m.2.1 x1) fun _ => .bind (idx m.2.1 x1) fun x8 => .ret (.more ((addW .i64 m.1 (1 : Int)), (List.set m.2.1 (Int.toNat x1) (eqI c.2.2.2.2.2.2.2.2.2.2.2.2.2.2.2.2.2.2.2.2.2.2.2.2.1 (2 : Int))), ()))) (.no))) (.no))) (.ret (.out m.2))
def iYardRight.L0_4 (N : Nat) (c : iYardRight.C0_4.D) (m : iYardRight.M0_4.D) : Option (iYardRight.O0_4.D ⊕ iYardRight.Q0_4.D) := iterT (iYardRight.B0_4 N c) N m
abbrev iYardRight.C0_0 : Ty := (.pair T50 (.pair (.int .i64) (.pair T44 (.pair T45 (.pair T46 (.pair (.int .i64) (.pair T49 (.pair T50 (.pair T51 (.pair (.int .i64) .unit))))))))))
abbrev iYardRight.M0_0 : Ty := (.pair (.int .i64) (.pair (.slice 0 .bool) .unit))
abbrev iYardRight.O0_0 : Ty := .unit
abbrev iYardRight.Q0_0 : Ty := (.pair .bool .unit)
def iYardRight.B0_0 (N : Nat) (c : iYardRight.C0_0.D) (m : iYardRight.M0_0.D) : Tr (Leaf iYardRight.M0_0.D iYardRight.O0_0.D iYardRight.Q0_0.D) := .ite (ltI m.1 c.2.1) (.bind (idx c.1 m.1) fun x1 => .bind (iYard_taskFits.F N (((c.2.2.1, c.2.2.2.1, c.2.2.2.2.1, c.2.2.2.2.2.1, ()), c.2.2.2.2.2.2), x1, ())) fun x2 => .ite (!x2) (.ret (.ret (false, ()))) (.bind (iYardRight.L0_4 N (c.1, c.2.1, m.1, x1.2.2.2.2.2.2.2.2.2.2.2.1, (lenI x1.2.2.2.2.2.2.2.2.2.2.2.1), c.2.2.1, c.2.2.2.1, c.2.2.2.2.1, c.2.2.2.2.2.1, c.2.2.2.2.2.2.1, c.2.2.2.2.2.2.2.1, c.2.2.2.2.2.2.2.2.1, c.2.2.2.2.2.2.2.2.2.1, x1.1.1, x1.1.2.1, x1.2.1, x1.2.2.1, x1.2.2.2.1, x1.2.2.2.2.1, x1.2.2.2.2.2.1, x1.2.2.2.2.2.2.1.1, x1.2.2.2.2.2.2.1.2.1, x1.2.2.2.2.2.2.2) ((0 : Int), m.2)) fun p3 => .sum p3 (fun a4 => .ret (.more ((addW .i64 m.1 (1 : Int)), a4))) (fun b5 => .ret (.ret b5)))) (.ret (.out ()))
def iYardRight.L0_0 (N : Nat) (c : iYardRight.C0_0.D) (m : iYardRight.M0_0.D) : Option (iYardRight.O0_0.D ⊕ iYardRight.Q0_0.D) := iterT (iYardRight.B0_0 N c) N m
def iYardRight.T (N : Nat) (x : iYardRight.P.D) : Tr iYardRight.R.D := .bind (iConfigRight.F N (x.1.1, ())) fun x1 => .ite (!x1) (.ret false) (.ite (!eqI (lenI x.1.2.1) (lenI x.1.1.1)) (.ret false) (.bind (iNodesRight.F N (x.1.2.1, ())) fun x2 => .ite (!x2) (.ret false) (.bind (iTasksRight.F N (x.1.2.2.1, ())) fun x3 => .ite (!x3) (.ret false) (.bind (iUsesRight.F N (x.1.2.2.2.1, ())) fun x4 => .ite (!x4) (.ret false) (.bind (iisNow.F N x.1.2.2.2.2) fun x5 => .ite (!x5) (.ret false) (.ite (decide (6 ≤ List.length (List.replicate 6 (Ty.zero .bool)))) (.bind (iYardRight.L0_0 N (x.1.2.2.1, (lenI x.1.2.2.1), x.1.1.1, x.1.1.2.1, x.1.1.2.2.1, x.1.1.2.2.2.1, x.1.2) ((0 : Int), ([false, false, false, false, false, false] ++ List.drop 6 (List.replicate 6 (Ty.zero .bool))), ())) fun p6 => .sum p6 (fun a7 => .bind (iConfig_labels.F N (x.1.1, ())) fun x9 => .bind (slContainsFunc_iYardRight_1.F N (x9, x)) fun x10 => .ite x10 (.ret false) (.bind (slContainsFunc_iYardRight_2.F N (x.1.2.2.2.1, x9, ())) fun x11 => .ret (!x11))) (fun b8 => .ret b8.1)) (.no)))))))
def iYardRight.F (N : Nat) (x : iYardRight.P.D) : Option iYardRight.R.D := (iYardRight.T N x).run
abbrev inotesRight.P : Ty := (.pair T90 .unit)
abbrev inotesRight.R : Ty := .bool
abbrev inotesRight.C0_0 : Ty := (.pair T90 (.pair T90 (.pair (.int .i64) .unit)))
abbrev inotesRight.M0_0 : Ty := (.pair (.int .i64) .unit)
abbrev inotesRight.O0_0 : Ty := .unit
abbrev inotesRight.Q0_0 : Ty := (.pair .bool .unit)
def inotesRight.B0_0 (N : Nat) (c : inotesRight.C0_0.D) (m : inotesRight.M0_0.D) : Tr (Leaf inotesRight.M0_0.D inotesRight.O0_0.D inotesRight.Q0_0.D) := .ite (ltI m.1 c.2.2.1) (.bind (idx c.2.1 m.1) fun x1 => .bind (iisNow.F N (x1.1, ())) fun x2 => .ite (!x2) (.ret (.ret (false, ()))) (.ite (ltI (0 : Int) m.1) (.bind (idx c.1 (subW .i64 m.1 (1 : Int))) fun x3 => .ite (ltI x1.1 x3.1) (.ret (.ret (false, ()))) (.ret (.more ((addW .i64 m.1 (1 : Int)), ())))) (.ret (.more ((addW .i64 m.1 (1 : Int)), ()))))) (.ret (.out ()))
def inotesRight.L0_0 (N : Nat) (c : inotesRight.C0_0.D) (m : inotesRight.M0_0.D) : Option (inotesRight.O0_0.D ⊕ inotesRight.Q0_0.D) := iterT (inotesRight.B0_0 N c) N m
def inotesRight.T (N : Nat) (x : inotesRight.P.D) : Tr inotesRight.R.D := .bind (inotesRight.L0_0 N (x.1, x.1, (lenI x.1), ()) ((0 : Int), ())) fun p1 => .sum p1 (fun a2 => .ret (leI (lenI x.1) (12 : Int))) (fun b3 => .ret b3.1)
def inotesRight.F (N : Nat) (x : inotesRight.P.D) : Option inotesRight.R.D := (inotesRight.T N x).run
abbrev iMailRight.P : Ty := (.pair T47 (.pair T55 .unit))
abbrev iMailRight.R : Ty := .bool
abbrev iMailRight.C0_0 : Ty := (.pair T54 (.pair (.int .i64) T47))
abbrev iMailRight.M0_0 : Ty := (.pair (.int .i64) .unit)
abbrev iMailRight.O0_0 : Ty := .unit
abbrev iMailRight.Q0_0 : Ty := (.pair .bool .unit)
def iMailRight.B0_0 (N : Nat) (c : iMailRight.C0_0.D) (m : iMailRight.M0_0.D) : Tr (Leaf iMailRight.M0_0.D iMailRight.O0_0.D iMailRight.Q0_0.D) := .ite (ltI m.1 c.2.1) (.bind (idx c.1 m.1) fun x1 => .bind (idx c.2.2.2.1 m.1) fun x2 => .ite (ltI x2.2.2.1 (lenI x1.1)) (.ret (.ret (false, ()))) (.ite (ltI x2.2.2.1 (lenI x1.2.1)) (.ret (.ret (false, ()))) (.bind (inotesRight.F N x1.2.2) fun x3 => .ite (!x3) (.ret (.ret (false, ()))) (.ret (.more ((addW .i64 m.1 (1 : Int)), ())))))) (.ret (.out ()))
def iMailRight.L0_0 (N : Nat) (c : iMailRight.C0_0.D) (m : iMailRight.M0_0.D) : Option (iMailRight.O0_0.D ⊕ iMailRight.Q0_0.D) := iterT (iMailRight.B0_0 N c) N m
def iMailRight.T (N : Nat) (x : iMailRight.P.D) : Tr iMailRight.R.D := .bind (iConfigRight.F N (x.1, ())) fun x1 => .ite (!x1) (.ret false) (.ite (!eqI (lenI x.2.1.1) (lenI x.1.2.1)) (.ret false) (.bind (iMailRight.L0_0 N (x.2.1.1, (lenI x.2.1.1), x.1) ((0 : Int), ())) fun p2 => .sum p2 (fun a3 => .ret true) (fun b4 => .ret b4.1)))
def iMailRight.F (N : Nat) (x : iMailRight.P.D) : Option iMailRight.R.D := (iMailRight.T N x).run
abbrev iStateRight_1_1_p.P : Ty := (.pair T86 (.pair T57 .unit))
abbrev iStateRight_1_1_p.R : Ty := .bool
def iStateRight_1_1_p.T (N : Nat) (x : iStateRight_1_1_p.P.D) : Tr iStateRight_1_1_p.R.D := .ret (ltI x.2.1.1.2.2.2.2.1 x.1.1)
def iStateRight_1_1_p.F (N : Nat) (x : iStateRight_1_1_p.P.D) : Option iStateRight_1_1_p.R.D := (iStateRight_1_1_p.T N x).run
abbrev slIndexFunc_iStateRight_1_1.P : Ty := (.pair T90 (.pair T57 .unit))
abbrev slIndexFunc_iStateRight_1_1.R : Ty := (.int .i64)
abbrev slIndexFunc_iStateRight_1_1.C0_0 : Ty := (.pair T90 (.pair T57 (.pair (.int .i64) .unit)))
abbrev slIndexFunc_iStateRight_1_1.M0_0 : Ty := (.pair (.int .i64) .unit)
abbrev slIndexFunc_iStateRight_1_1.O0_0 : Ty := .unit
abbrev slIndexFunc_iStateRight_1_1.Q0_0 : Ty := (.pair (.int .i64) .unit)
def slIndexFunc_iStateRight_1_1.B0_0 (N : Nat) (c : slIndexFunc_iStateRight_1_1.C0_0.D) (m : slIndexFunc_iStateRight_1_1.M0_0.D) : Tr (Leaf slIndexFunc_iStateRight_1_1.M0_0.D slIndexFunc_iStateRight_1_1.O0_0.D slIndexFunc_iStateRight_1_1.Q0_0.D) := .ite (ltI m.1 c.2.2.1) (.bind (idx c.1 m.1) fun x1 => .bind (iStateRight_1_1_p.F N (x1, c.2.1, ())) fun x2 => .ite x2 (.ret (.ret m)) (.ret (.more ((addW .i64 m.1 (1 : Int)), ())))) (.ret (.out ()))
def slIndexFunc_iStateRight_1_1.L0_0 (N : Nat) (c : slIndexFunc_iStateRight_1_1.C0_0.D) (m : slIndexFunc_iStateRight_1_1.M0_0.D) : Option (slIndexFunc_iStateRight_1_1.O0_0.D ⊕ slIndexFunc_iStateRight_1_1.Q0_0.D) := iterT (slIndexFunc_iStateRight_1_1.B0_0 N c) N m
def slIndexFunc_iStateRight_1_1.T (N : Nat) (x : slIndexFunc_iStateRight_1_1.P.D) : Tr slIndexFunc_iStateRight_1_1.R.D := .bind (slIndexFunc_iStateRight_1_1.L0_0 N (x.1, x.2.1, (lenI x.1), ()) ((0 : Int), ())) fun p1 => .sum p1 (fun a2 => .ret (-1 : Int)) (fun b3 => .ret b3.1)
def slIndexFunc_iStateRight_1_1.F (N : Nat) (x : slIndexFunc_iStateRight_1_1.P.D) : Option slIndexFunc_iStateRight_1_1.R.D := (slIndexFunc_iStateRight_1_1.T N x).run
abbrev slContainsFunc_iStateRight_1_1.P : Ty := (.pair T90 (.pair T57 .unit))
abbrev slContainsFunc_iStateRight_1_1.R : Ty := .bool
def slContainsFunc_iStateRight_1_1.T (N : Nat) (x : slContainsFunc_iStateRight_1_1.P.D) : Tr slContainsFunc_iStateRight_1_1.R.D := .bind (slIndexFunc_iStateRight_1_1.F N x) fun x1 => .ret (leI (0 : Int) x1)
def slContainsFunc_iStateRight_1_1.F (N : Nat) (x : slContainsFunc_iStateRight_1_1.P.D) : Option slContainsFunc_iStateRight_1_1.R.D := (slContainsFunc_iStateRight_1_1.T N x).run
abbrev iStateRight_1_p.P : Ty := (.pair T91 (.pair T57 .unit))
abbrev iStateRight_1_p.R : Ty := .bool
def iStateRight_1_p.T (N : Nat) (x : iStateRight_1_p.P.D) : Tr iStateRight_1_p.R.D := .bind (slContainsFunc_iStateRight_1_1.F N (x.1.2.2.1, x.2)) fun x1 => .ret x1
def iStateRight_1_p.F (N : Nat) (x : iStateRight_1_p.P.D) : Option iStateRight_1_p.R.D := (iStateRight_1_p.T N x).run
abbrev slIndexFunc_iStateRight_1.P : Ty := (.pair T54 (.pair T57 .unit))
abbrev slIndexFunc_iStateRight_1.R : Ty := (.int .i64)
abbrev slIndexFunc_iStateRight_1.C0_0 : Ty := (.pair T54 (.pair T57 (.pair (.int .i64) .unit)))
abbrev slIndexFunc_iStateRight_1.M0_0 : Ty := (.pair (.int .i64) .unit)
abbrev slIndexFunc_iStateRight_1.O0_0 : Ty := .unit
abbrev slIndexFunc_iStateRight_1.Q0_0 : Ty := (.pair (.int .i64) .unit)
def slIndexFunc_iStateRight_1.B0_0 (N : Nat) (c : slIndexFunc_iStateRight_1.C0_0.D) (m : slIndexFunc_iStateRight_1.M0_0.D) : Tr (Leaf slIndexFunc_iStateRight_1.M0_0.D slIndexFunc_iStateRight_1.O0_0.D slIndexFunc_iStateRight_1.Q0_0.D) := .ite (ltI m.1 c.2.2.1) (.bind (idx c.1 m.1) fun x1 => .bind (iStateRight_1_p.F N (x1, c.2.1, ())) fun x2 => .ite x2 (.ret (.ret m)) (.ret (.more ((addW .i64 m.1 (1 : Int)), ())))) (.ret (.out ()))
def slIndexFunc_iStateRight_1.L0_0 (N : Nat) (c : slIndexFunc_iStateRight_1.C0_0.D) (m : slIndexFunc_iStateRight_1.M0_0.D) : Option (slIndexFunc_iStateRight_1.O0_0.D ⊕ slIndexFunc_iStateRight_1.Q0_0.D) := iterT (slIndexFunc_iStateRight_1.B0_0 N c) N m
def slIndexFunc_iStateRight_1.T (N : Nat) (x : slIndexFunc_iStateRight_1.P.D) : Tr slIndexFunc_iStateRight_1.R.D := .bind (slIndexFunc_iStateRight_1.L0_0 N (x.1, x.2.1, (lenI x.1), ()) ((0 : Int), ())) fun p1 => .sum p1 (fun a2 => .ret (-1 : Int)) (fun b3 => .ret b3.1)
def slIndexFunc_iStateRight_1.F (N : Nat) (x : slIndexFunc_iStateRight_1.P.D) : Option slIndexFunc_iStateRight_1.R.D := (slIndexFunc_iStateRight_1.T N x).run
abbrev slContainsFunc_iStateRight_1.P : Ty := (.pair T54 (.pair T57 .unit))
abbrev slContainsFunc_iStateRight_1.R : Ty := .bool
def slContainsFunc_iStateRight_1.T (N : Nat) (x : slContainsFunc_iStateRight_1.P.D) : Tr slContainsFunc_iStateRight_1.R.D := .bind (slIndexFunc_iStateRight_1.F N x) fun x1 => .ret (leI (0 : Int) x1)
def slContainsFunc_iStateRight_1.F (N : Nat) (x : slContainsFunc_iStateRight_1.P.D) : Option slContainsFunc_iStateRight_1.R.D := (slContainsFunc_iStateRight_1.T N x).run
abbrev iStateRight.P : Ty := (.pair T57 .unit)
abbrev iStateRight.R : Ty := .bool
def iStateRight.T (N : Nat) (x : iStateRight.P.D) : Tr iStateRight.R.D := .bind (iYardRight.F N (x.1.1, ())) fun x1 => .ite (!x1) (.ret false) (.bind (iMailRight.F N (x.1.1.1, x.1.2)) fun x2 => .ite (!x2) (.ret false) (.bind (slContainsFunc_iStateRight_1.F N (x.1.2.1.1, x)) fun x3 => .ret (!x3)))
def iStateRight.F (N : Nat) (x : iStateRight.P.D) : Option iStateRight.R.D := (iStateRight.T N x).run
abbrev iDiskRight_1.P : Ty := (.pair T104 .unit)
abbrev iDiskRight_1.R : Ty := .bool
def iDiskRight_1.T (N : Nat) (x : iDiskRight_1.P.D) : Tr iDiskRight_1.R.D := .ite (ltI (3000 : Int) (lenI x.1.1)) (.ret true) (.ite (ltI (3000 : Int) (lenI x.1.2.1)) (.ret true) (.ret (ltI (3000 : Int) (lenI x.1.2.2.1))))
def iDiskRight_1.F (N : Nat) (x : iDiskRight_1.P.D) : Option iDiskRight_1.R.D := (iDiskRight_1.T N x).run
abbrev slIndexFunc_iDiskRight_1.P : Ty := (.pair T59 .unit)
abbrev slIndexFunc_iDiskRight_1.R : Ty := (.int .i64)
abbrev slIndexFunc_iDiskRight_1.C0_0 : Ty := T60
abbrev slIndexFunc_iDiskRight_1.M0_0 : Ty := (.pair (.int .i64) .unit)
abbrev slIndexFunc_iDiskRight_1.O0_0 : Ty := .unit
abbrev slIndexFunc_iDiskRight_1.Q0_0 : Ty := (.pair (.int .i64) .unit)
def slIndexFunc_iDiskRight_1.B0_0 (N : Nat) (c : slIndexFunc_iDiskRight_1.C0_0.D) (m : slIndexFunc_iDiskRight_1.M0_0.D) : Tr (Leaf slIndexFunc_iDiskRight_1.M0_0.D slIndexFunc_iDiskRight_1.O0_0.D slIndexFunc_iDiskRight_1.Q0_0.D) := .ite (ltI m.1 c.2.1) (.bind (idx c.1 m.1) fun x1 => .bind (iDiskRight_1.F N (x1, ())) fun x2 => .ite x2 (.ret (.ret m)) (.ret (.more ((addW .i64 m.1 (1 : Int)), ())))) (.ret (.out ()))
def slIndexFunc_iDiskRight_1.L0_0 (N : Nat) (c : slIndexFunc_iDiskRight_1.C0_0.D) (m : slIndexFunc_iDiskRight_1.M0_0.D) : Option (slIndexFunc_iDiskRight_1.O0_0.D ⊕ slIndexFunc_iDiskRight_1.Q0_0.D) := iterT (slIndexFunc_iDiskRight_1.B0_0 N c) N m
def slIndexFunc_iDiskRight_1.T (N : Nat) (x : slIndexFunc_iDiskRight_1.P.D) : Tr slIndexFunc_iDiskRight_1.R.D := .bind (slIndexFunc_iDiskRight_1.L0_0 N (x.1, (lenI x.1), ()) ((0 : Int), ())) fun p1 => .sum p1 (fun a2 => .ret (-1 : Int)) (fun b3 => .ret b3.1)
def slIndexFunc_iDiskRight_1.F (N : Nat) (x : slIndexFunc_iDiskRight_1.P.D) : Option slIndexFunc_iDiskRight_1.R.D := (slIndexFunc_iDiskRight_1.T N x).run
abbrev slContainsFunc_iDiskRight_1.P : Ty := (.pair T59 .unit)
abbrev slContainsFunc_iDiskRight_1.R : Ty := .bool
def slContainsFunc_iDiskRight_1.T (N : Nat) (x : slContainsFunc_iDiskRight_1.P.D) : Tr slContainsFunc_iDiskRight_1.R.D := .bind (slIndexFunc_iDiskRight_1.F N x) fun x1 => .ret (leI (0 : Int) x1)
def slContainsFunc_iDiskRight_1.F (N : Nat) (x : slContainsFunc_iDiskRight_1.P.D) : Option slContainsFunc_iDiskRight_1.R.D := (slContainsFunc_iDiskRight_1.T N x).run
abbrev iDiskRight.P : Ty := (.pair T60 .unit)
abbrev iDiskRight.R : Ty := .bool
def iDiskRight.T (N : Nat) (x : iDiskRight.P.D) : Tr iDiskRight.R.D := .bind (iwithin.F N ((lenI x.1.1), (1 : Int), (13 : Int), ())) fun x1 => .ite (!x1) (.ret false) (.bind (iwithin.F N (x.1.2.1, (-1 : Int), (1000000 : Int), ())) fun x2 => .ite (!x2) (.ret false) (.bind (slContainsFunc_iDiskRight_1.F N (x.1.1, ())) fun x3 => .ret (!x3)))
def iDiskRight.F (N : Nat) (x : iDiskRight.P.D) : Option iDiskRight.R.D := (iDiskRight.T N x).run
abbrev iregionsOf.P : Ty := (.pair T47 .unit)
abbrev iregionsOf.R : Ty := (.int .i64)
def iregionsOf.T (N : Nat) (x : iregionsOf.P.D) : Tr iregionsOf.R.D := .bind (iConfig_labels.F N x) fun x1 => .ret (addW .i64 (addW .i64 (1 : Int) (lenI x1)) (lenI x.1.2.1))
def iregionsOf.F (N : Nat) (x : iregionsOf.P.D) : Option iregionsOf.R.D := (iregionsOf.T N x).run
abbrev iHouseRight.P : Ty := (.pair T62 .unit)
abbrev iHouseRight.R : Ty := .bool
def iHouseRight.T (N : Nat) (x : iHouseRight.P.D) : Tr iHouseRight.R.D := .bind (iStateRight.F N (x.1.1, ())) fun x1 => .ite x1 (.bind (iDiskRight.F N (x.1.2.1, ())) fun x2 => .ite x2 (.bind (iregionsOf.F N (x.1.1.1.1, ())) fun x3 => .ite (eqI (lenI x.1.2.1.1) x3) (.ite (eqI x.1.2.1.2.1 (-1 : Int)) (.bind (iisTime.F N x.1.2.2) fun x4 => .ret x4) (.ret false)) (.ret false)) (.ret false)) (.ret false)
def iHouseRight.F (N : Nat) (x : iHouseRight.P.D) : Option iHouseRight.R.D := (iHouseRight.T N x).run
abbrev leqLabel.P : Ty := (.pair T86 (.pair T86 .unit))
abbrev leqLabel.R : Ty := .bool
def leqLabel.T (N : Nat) (x : leqLabel.P.D) : Tr leqLabel.R.D := .ite (!eqI x.1.1 x.2.1.1) (.ret false) (.ite (!eqI x.1.2.1 x.2.1.2.1) (.ret false) (.ret true))
def leqLabel.F (N : Nat) (x : leqLabel.P.D) : Option leqLabel.R.D := (leqLabel.T N x).run
abbrev leqLabelS.P : Ty := (.pair T82 (.pair T82 .unit))
abbrev leqLabelS.R : Ty := .bool
abbrev leqLabelS.C0_0 : Ty := (.pair T82 (.pair T82 .unit))
abbrev leqLabelS.M0_0 : Ty := (.pair (.int .i64) .unit)
abbrev leqLabelS.O0_0 : Ty := .unit
abbrev leqLabelS.Q0_0 : Ty := (.pair .bool .unit)
def leqLabelS.B0_0 (N : Nat) (c : leqLabelS.C0_0.D) (m : leqLabelS.M0_0.D) : Tr (Leaf leqLabelS.M0_0.D leqLabelS.O0_0.D leqLabelS.Q0_0.D) := .ite (ltI m.1 (lenI c.1)) (.bind (idx c.1 m.1) fun x1 => .bind (idx c.2.1 m.1) fun x2 => .bind (leqLabel.F N (x1, x2, ())) fun x3 => .ite (!x3) (.ret (.ret (false, ()))) (.ret (.more ((addW .i64 m.1 (1 : Int)), ())))) (.ret (.out ()))
def leqLabelS.L0_0 (N : Nat) (c : leqLabelS.C0_0.D) (m : leqLabelS.M0_0.D) : Option (leqLabelS.O0_0.D ⊕ leqLabelS.Q0_0.D) := iterT (leqLabelS.B0_0 N c) N m
def leqLabelS.T (N : Nat) (x : leqLabelS.P.D) : Tr leqLabelS.R.D := .ite (!eqI (lenI x.1) (lenI x.2.1)) (.ret false) (.bind (leqLabelS.L0_0 N x ((0 : Int), ())) fun p1 => .sum p1 (fun a2 => .ret true) (fun b3 => .ret b3.1))
def leqLabelS.F (N : Nat) (x : leqLabelS.P.D) : Option leqLabelS.R.D := (leqLabelS.T N x).run
abbrev leqLabelSS.P : Ty := (.pair T44 (.pair T44 .unit))
abbrev leqLabelSS.R : Ty := .bool
abbrev leqLabelSS.C0_0 : Ty := (.pair T44 (.pair T44 .unit))
abbrev leqLabelSS.M0_0 : Ty := (.pair (.int .i64) .unit)
abbrev leqLabelSS.O0_0 : Ty := .unit
abbrev leqLabelSS.Q0_0 : Ty := (.pair .bool .unit)
def leqLabelSS.B0_0 (N : Nat) (c : leqLabelSS.C0_0.D) (m : leqLabelSS.M0_0.D) : Tr (Leaf leqLabelSS.M0_0.D leqLabelSS.O0_0.D leqLabelSS.Q0_0.D) := .ite (ltI m.1 (lenI c.1)) (.bind (idx c.1 m.1) fun x1 => .bind (idx c.2.1 m.1) fun x2 => .bind (leqLabelS.F N (x1, x2, ())) fun x3 => .ite (!x3) (.ret (.ret (false, ()))) (.ret (.more ((addW .i64 m.1 (1 : Int)), ())))) (.ret (.out ()))
def leqLabelSS.L0_0 (N : Nat) (c : leqLabelSS.C0_0.D) (m : leqLabelSS.M0_0.D) : Option (leqLabelSS.O0_0.D ⊕ leqLabelSS.Q0_0.D) := iterT (leqLabelSS.B0_0 N c) N m
def leqLabelSS.T (N : Nat) (x : leqLabelSS.P.D) : Tr leqLabelSS.R.D := .ite (!eqI (lenI x.1) (lenI x.2.1)) (.ret false) (.bind (leqLabelSS.L0_0 N x ((0 : Int), ())) fun p1 => .sum p1 (fun a2 => .ret true) (fun b3 => .ret b3.1))
def leqLabelSS.F (N : Nat) (x : leqLabelSS.P.D) : Option leqLabelSS.R.D := (leqLabelSS.T N x).run
abbrev leqPair.P : Ty := (.pair T134 (.pair T134 .unit))
abbrev leqPair.R : Ty := .bool
def leqPair.T (N : Nat) (x : leqPair.P.D) : Tr leqPair.R.D := .bind (leqLabel.F N (x.1.1, x.2.1.1, ())) fun x1 => .ite (!x1) (.ret false) (.bind (leqLabel.F N (x.1.2.1, x.2.1.2.1, ())) fun x2 => .ite (!x2) (.ret false) (.ite (!eqI x.1.2.2.1 x.2.1.2.2.1) (.ret false) (.ret true)))
def leqPair.F (N : Nat) (x : leqPair.P.D) : Option leqPair.R.D := (leqPair.T N x).run
abbrev leqPairS.P : Ty := (.pair T45 (.pair T45 .unit))
abbrev leqPairS.R : Ty := .bool
abbrev leqPairS.C0_0 : Ty := (.pair T45 (.pair T45 .unit))
abbrev leqPairS.M0_0 : Ty := (.pair (.int .i64) .unit)
abbrev leqPairS.O0_0 : Ty := .unit
abbrev leqPairS.Q0_0 : Ty := (.pair .bool .unit)
def leqPairS.B0_0 (N : Nat) (c : leqPairS.C0_0.D) (m : leqPairS.M0_0.D) : Tr (Leaf leqPairS.M0_0.D leqPairS.O0_0.D leqPairS.Q0_0.D) := .ite (ltI m.1 (lenI c.1)) (.bind (idx c.1 m.1) fun x1 => .bind (idx c.2.1 m.1) fun x2 => .bind (leqPair.F N (x1, x2, ())) fun x3 => .ite (!x3) (.ret (.ret (false, ()))) (.ret (.more ((addW .i64 m.1 (1 : Int)), ())))) (.ret (.out ()))
def leqPairS.L0_0 (N : Nat) (c : leqPairS.C0_0.D) (m : leqPairS.M0_0.D) : Option (leqPairS.O0_0.D ⊕ leqPairS.Q0_0.D) := iterT (leqPairS.B0_0 N c) N m
def leqPairS.T (N : Nat) (x : leqPairS.P.D) : Tr leqPairS.R.D := .ite (!eqI (lenI x.1) (lenI x.2.1)) (.ret false) (.bind (leqPairS.L0_0 N x ((0 : Int), ())) fun p1 => .sum p1 (fun a2 => .ret true) (fun b3 => .ret b3.1))
def leqPairS.F (N : Nat) (x : leqPairS.P.D) : Option leqPairS.R.D := (leqPairS.T N x).run
abbrev leqQuota.P : Ty := (.pair T218 (.pair T218 .unit))
abbrev leqQuota.R : Ty := .bool
def leqQuota.T (N : Nat) (x : leqQuota.P.D) : Tr leqQuota.R.D := .bind (leqLabel.F N (x.1.1, x.2.1.1, ())) fun x1 => .ite (!x1) (.ret false) (.ite (!eqI x.1.2.1 x.2.1.2.1) (.ret false) (.ret true))
def leqQuota.F (N : Nat) (x : leqQuota.P.D) : Option leqQuota.R.D := (leqQuota.T N x).run
abbrev leqQuotaS.P : Ty := (.pair T46 (.pair T46 .unit))
abbrev leqQuotaS.R : Ty := .bool
abbrev leqQuotaS.C0_0 : Ty := (.pair T46 (.pair T46 .unit))
abbrev leqQuotaS.M0_0 : Ty := (.pair (.int .i64) .unit)
abbrev leqQuotaS.O0_0 : Ty := .unit
abbrev leqQuotaS.Q0_0 : Ty := (.pair .bool .unit)
def leqQuotaS.B0_0 (N : Nat) (c : leqQuotaS.C0_0.D) (m : leqQuotaS.M0_0.D) : Tr (Leaf leqQuotaS.M0_0.D leqQuotaS.O0_0.D leqQuotaS.Q0_0.D) := .ite (ltI m.1 (lenI c.1)) (.bind (idx c.1 m.1) fun x1 => .bind (idx c.2.1 m.1) fun x2 => .bind (leqQuota.F N (x1, x2, ())) fun x3 => .ite (!x3) (.ret (.ret (false, ()))) (.ret (.more ((addW .i64 m.1 (1 : Int)), ())))) (.ret (.out ()))
def leqQuotaS.L0_0 (N : Nat) (c : leqQuotaS.C0_0.D) (m : leqQuotaS.M0_0.D) : Option (leqQuotaS.O0_0.D ⊕ leqQuotaS.Q0_0.D) := iterT (leqQuotaS.B0_0 N c) N m
def leqQuotaS.T (N : Nat) (x : leqQuotaS.P.D) : Tr leqQuotaS.R.D := .ite (!eqI (lenI x.1) (lenI x.2.1)) (.ret false) (.bind (leqQuotaS.L0_0 N x ((0 : Int), ())) fun p1 => .sum p1 (fun a2 => .ret true) (fun b3 => .ret b3.1))
def leqQuotaS.F (N : Nat) (x : leqQuotaS.P.D) : Option leqQuotaS.R.D := (leqQuotaS.T N x).run
abbrev leqConfig.P : Ty := (.pair T47 (.pair T47 .unit))
abbrev leqConfig.R : Ty := .bool
def leqConfig.T (N : Nat) (x : leqConfig.P.D) : Tr leqConfig.R.D := .bind (leqLabelSS.F N (x.1.1, x.2.1.1, ())) fun x1 => .ite (!x1) (.ret false) (.bind (leqPairS.F N (x.1.2.1, x.2.1.2.1, ())) fun x2 => .ite (!x2) (.ret false) (.bind (leqQuotaS.F N (x.1.2.2.1, x.2.1.2.2.1, ())) fun x3 => .ite (!x3) (.ret false) (.ite (!eqI x.1.2.2.2.1 x.2.1.2.2.2.1) (.ret false) (.ret true))))
def leqConfig.F (N : Nat) (x : leqConfig.P.D) : Option leqConfig.R.D := (leqConfig.T N x).run
abbrev leqSpan.P : Ty := (.pair T86 (.pair T86 .unit))
abbrev leqSpan.R : Ty := .bool
def leqSpan.T (N : Nat) (x : leqSpan.P.D) : Tr leqSpan.R.D := .ite (!eqI x.1.1 x.2.1.1) (.ret false) (.ite (!eqI x.1.2.1 x.2.1.2.1) (.ret false) (.ret true))
def leqSpan.F (N : Nat) (x : leqSpan.P.D) : Option leqSpan.R.D := (leqSpan.T N x).run
abbrev leqSpanS.P : Ty := (.pair T122 (.pair T122 .unit))
abbrev leqSpanS.R : Ty := .bool
abbrev leqSpanS.C0_0 : Ty := (.pair T122 (.pair T122 .unit))
abbrev leqSpanS.M0_0 : Ty := (.pair (.int .i64) .unit)
abbrev leqSpanS.O0_0 : Ty := .unit
abbrev leqSpanS.Q0_0 : Ty := (.pair .bool .unit)
def leqSpanS.B0_0 (N : Nat) (c : leqSpanS.C0_0.D) (m : leqSpanS.M0_0.D) : Tr (Leaf leqSpanS.M0_0.D leqSpanS.O0_0.D leqSpanS.Q0_0.D) := .ite (ltI m.1 (lenI c.1)) (.bind (idx c.1 m.1) fun x1 => .bind (idx c.2.1 m.1) fun x2 => .bind (leqSpan.F N (x1, x2, ())) fun x3 => .ite (!x3) (.ret (.ret (false, ()))) (.ret (.more ((addW .i64 m.1 (1 : Int)), ())))) (.ret (.out ()))
def leqSpanS.L0_0 (N : Nat) (c : leqSpanS.C0_0.D) (m : leqSpanS.M0_0.D) : Option (leqSpanS.O0_0.D ⊕ leqSpanS.Q0_0.D) := iterT (leqSpanS.B0_0 N c) N m
def leqSpanS.T (N : Nat) (x : leqSpanS.P.D) : Tr leqSpanS.R.D := .ite (!eqI (lenI x.1) (lenI x.2.1)) (.ret false) (.bind (leqSpanS.L0_0 N x ((0 : Int), ())) fun p1 => .sum p1 (fun a2 => .ret true) (fun b3 => .ret b3.1))
def leqSpanS.F (N : Nat) (x : leqSpanS.P.D) : Option leqSpanS.R.D := (leqSpanS.T N x).run
abbrev leqNode.P : Ty := (.pair T123 (.pair T123 .unit))
abbrev leqNode.R : Ty := .bool
def leqNode.T (N : Nat) (x : leqNode.P.D) : Tr leqNode.R.D := .ite (!eqI x.1.1 x.2.1.1) (.ret false) (.bind (leqSpanS.F N (x.1.2.1, x.2.1.2)) fun x1 => .ite (!x1) (.ret false) (.ret true))
def leqNode.F (N : Nat) (x : leqNode.P.D) : Option leqNode.R.D := (leqNode.T N x).run
abbrev leqNodeS.P : Ty := (.pair T49 (.pair T49 .unit))
abbrev leqNodeS.R : Ty := .bool
abbrev leqNodeS.C0_0 : Ty := (.pair T49 (.pair T49 .unit))
abbrev leqNodeS.M0_0 : Ty := (.pair (.int .i64) .unit)
abbrev leqNodeS.O0_0 : Ty := .unit
abbrev leqNodeS.Q0_0 : Ty := (.pair .bool .unit)
def leqNodeS.B0_0 (N : Nat) (c : leqNodeS.C0_0.D) (m : leqNodeS.M0_0.D) : Tr (Leaf leqNodeS.M0_0.D leqNodeS.O0_0.D leqNodeS.Q0_0.D) := .ite (ltI m.1 (lenI c.1)) (.bind (idx c.1 m.1) fun x1 => .bind (idx c.2.1 m.1) fun x2 => .bind (leqNode.F N (x1, x2, ())) fun x3 => .ite (!x3) (.ret (.ret (false, ()))) (.ret (.more ((addW .i64 m.1 (1 : Int)), ())))) (.ret (.out ()))
def leqNodeS.L0_0 (N : Nat) (c : leqNodeS.C0_0.D) (m : leqNodeS.M0_0.D) : Option (leqNodeS.O0_0.D ⊕ leqNodeS.Q0_0.D) := iterT (leqNodeS.B0_0 N c) N m
def leqNodeS.T (N : Nat) (x : leqNodeS.P.D) : Tr leqNodeS.R.D := .ite (!eqI (lenI x.1) (lenI x.2.1)) (.ret false) (.bind (leqNodeS.L0_0 N x ((0 : Int), ())) fun p1 => .sum p1 (fun a2 => .ret true) (fun b3 => .ret b3.1))
def leqNodeS.F (N : Nat) (x : leqNodeS.P.D) : Option leqNodeS.R.D := (leqNodeS.T N x).run
abbrev leqInt64S.P : Ty := (.pair T89 (.pair T89 .unit))
abbrev leqInt64S.R : Ty := .bool
abbrev leqInt64S.C0_0 : Ty := (.pair T89 (.pair T89 .unit))
abbrev leqInt64S.M0_0 : Ty := (.pair (.int .i64) .unit)
abbrev leqInt64S.O0_0 : Ty := .unit
abbrev leqInt64S.Q0_0 : Ty := (.pair .bool .unit)
def leqInt64S.B0_0 (N : Nat) (c : leqInt64S.C0_0.D) (m : leqInt64S.M0_0.D) : Tr (Leaf leqInt64S.M0_0.D leqInt64S.O0_0.D leqInt64S.Q0_0.D) := .ite (ltI m.1 (lenI c.1)) (.bind (idx c.1 m.1) fun x1 => .bind (idx c.2.1 m.1) fun x2 => .ite (!eqI x1 x2) (.ret (.ret (false, ()))) (.ret (.more ((addW .i64 m.1 (1 : Int)), ())))) (.ret (.out ()))
def leqInt64S.L0_0 (N : Nat) (c : leqInt64S.C0_0.D) (m : leqInt64S.M0_0.D) : Option (leqInt64S.O0_0.D ⊕ leqInt64S.Q0_0.D) := iterT (leqInt64S.B0_0 N c) N m
def leqInt64S.T (N : Nat) (x : leqInt64S.P.D) : Tr leqInt64S.R.D := .ite (!eqI (lenI x.1) (lenI x.2.1)) (.ret false) (.bind (leqInt64S.L0_0 N x ((0 : Int), ())) fun p1 => .sum p1 (fun a2 => .ret true) (fun b3 => .ret b3.1))
def leqInt64S.F (N : Nat) (x : leqInt64S.P.D) : Option leqInt64S.R.D := (leqInt64S.T N x).run
abbrev leqTask.P : Ty := (.pair T128 (.pair T128 .unit))
abbrev leqTask.R : Ty := .bool
def leqTask.T (N : Nat) (x : leqTask.P.D) : Tr leqTask.R.D := .bind (leqLabel.F N (x.1.1, x.2.1.1, ())) fun x1 => .ite (!x1) (.ret false) (.ite (!eqI x.1.2.1 x.2.1.2.1) (.ret false) (.ite (!eqS x.1.2.2.1 x.2.1.2.2.1) (.ret false) (.ite (!eqI x.1.2.2.2.1 x.2.1.2.2.2.1) (.ret false) (.ite (!eqI x.1.2.2.2.2.1 x.2.1.2.2.2.2.1) (.ret false) (.ite (!eqI x.1.2.2.2.2.2.1 x.2.1.2.2.2.2.2.1) (.ret false) (.bind (leqLabel.F N (x.1.2.2.2.2.2.2.1, x.2.1.2.2.2.2.2.2.1, ())) fun x2 => .ite (!x2) (.ret false) (.ite (!eqI x.1.2.2.2.2.2.2.2.1 x.2.1.2.2.2.2.2.2.2.1) (.ret false) (.ite (!eqI x.1.2.2.2.2.2.2.2.2.1 x.2.1.2.2.2.2.2.2.2.2.1) (.ret false) (.ite (!eqI x.1.2.2.2.2.2.2.2.2.2.1 x.2.1.2.2.2.2.2.2.2.2.2.1) (.ret false) (.ite (!eqI x.1.2.2.2.2.2.2.2.2.2.2.1 x.2.1.2.2.2.2.2.2.2.2.2.2.1) (.ret false) (.bind (leqInt64S.F N (x.1.2.2.2.2.2.2.2.2.2.2.2.1, x.2.1.2.2.2.2.2.2.2.2.2.2.2)) fun x3 => .ite (!x3) (.ret false) (.ret true))))))))))))
def leqTask.F (N : Nat) (x : leqTask.P.D) : Option leqTask.R.D := (leqTask.T N x).run
abbrev leqTaskS.P : Ty := (.pair T50 (.pair T50 .unit))
abbrev leqTaskS.R : Ty := .bool
abbrev leqTaskS.C0_0 : Ty := (.pair T50 (.pair T50 .unit))
abbrev leqTaskS.M0_0 : Ty := (.pair (.int .i64) .unit)
abbrev leqTaskS.O0_0 : Ty := .unit
abbrev leqTaskS.Q0_0 : Ty := (.pair .bool .unit)
def leqTaskS.B0_0 (N : Nat) (c : leqTaskS.C0_0.D) (m : leqTaskS.M0_0.D) : Tr (Leaf leqTaskS.M0_0.D leqTaskS.O0_0.D leqTaskS.Q0_0.D) := .ite (ltI m.1 (lenI c.1)) (.bind (idx c.1 m.1) fun x1 => .bind (idx c.2.1 m.1) fun x2 => .bind (leqTask.F N (x1, x2, ())) fun x3 => .ite (!x3) (.ret (.ret (false, ()))) (.ret (.more ((addW .i64 m.1 (1 : Int)), ())))) (.ret (.out ()))
def leqTaskS.L0_0 (N : Nat) (c : leqTaskS.C0_0.D) (m : leqTaskS.M0_0.D) : Option (leqTaskS.O0_0.D ⊕ leqTaskS.Q0_0.D) := iterT (leqTaskS.B0_0 N c) N m
def leqTaskS.T (N : Nat) (x : leqTaskS.P.D) : Tr leqTaskS.R.D := .ite (!eqI (lenI x.1) (lenI x.2.1)) (.ret false) (.bind (leqTaskS.L0_0 N x ((0 : Int), ())) fun p1 => .sum p1 (fun a2 => .ret true) (fun b3 => .ret b3.1))
def leqTaskS.F (N : Nat) (x : leqTaskS.P.D) : Option leqTaskS.R.D := (leqTaskS.T N x).run
abbrev leqUse.P : Ty := (.pair T131 (.pair T131 .unit))
abbrev leqUse.R : Ty := .bool
def leqUse.T (N : Nat) (x : leqUse.P.D) : Tr leqUse.R.D := .bind (leqLabel.F N (x.1.1, x.2.1.1, ())) fun x1 => .ite (!x1) (.ret false) (.ite (!eqS x.1.2.1 x.2.1.2.1) (.ret false) (.ite (!eqI x.1.2.2.1 x.2.1.2.2.1) (.ret false) (.ret true)))
def leqUse.F (N : Nat) (x : leqUse.P.D) : Option leqUse.R.D := (leqUse.T N x).run
abbrev leqUseS.P : Ty := (.pair T51 (.pair T51 .unit))
abbrev leqUseS.R : Ty := .bool
abbrev leqUseS.C0_0 : Ty := (.pair T51 (.pair T51 .unit))
abbrev leqUseS.M0_0 : Ty := (.pair (.int .i64) .unit)
abbrev leqUseS.O0_0 : Ty := .unit
abbrev leqUseS.Q0_0 : Ty := (.pair .bool .unit)
def leqUseS.B0_0 (N : Nat) (c : leqUseS.C0_0.D) (m : leqUseS.M0_0.D) : Tr (Leaf leqUseS.M0_0.D leqUseS.O0_0.D leqUseS.Q0_0.D) := .ite (ltI m.1 (lenI c.1)) (.bind (idx c.1 m.1) fun x1 => .bind (idx c.2.1 m.1) fun x2 => .bind (leqUse.F N (x1, x2, ())) fun x3 => .ite (!x3) (.ret (.ret (false, ()))) (.ret (.more ((addW .i64 m.1 (1 : Int)), ())))) (.ret (.out ()))
def leqUseS.L0_0 (N : Nat) (c : leqUseS.C0_0.D) (m : leqUseS.M0_0.D) : Option (leqUseS.O0_0.D ⊕ leqUseS.Q0_0.D) := iterT (leqUseS.B0_0 N c) N m
def leqUseS.T (N : Nat) (x : leqUseS.P.D) : Tr leqUseS.R.D := .ite (!eqI (lenI x.1) (lenI x.2.1)) (.ret false) (.bind (leqUseS.L0_0 N x ((0 : Int), ())) fun p1 => .sum p1 (fun a2 => .ret true) (fun b3 => .ret b3.1))
def leqUseS.F (N : Nat) (x : leqUseS.P.D) : Option leqUseS.R.D := (leqUseS.T N x).run
abbrev leqYard.P : Ty := (.pair T52 (.pair T52 .unit))
abbrev leqYard.R : Ty := .bool
def leqYard.T (N : Nat) (x : leqYard.P.D) : Tr leqYard.R.D := .bind (leqConfig.F N (x.1.1, x.2.1.1, ())) fun x1 => .ite (!x1) (.ret false) (.bind (leqNodeS.F N (x.1.2.1, x.2.1.2.1, ())) fun x2 => .ite (!x2) (.ret false) (.bind (leqTaskS.F N (x.1.2.2.1, x.2.1.2.2.1, ())) fun x3 => .ite (!x3) (.ret false) (.bind (leqUseS.F N (x.1.2.2.2.1, x.2.1.2.2.2.1, ())) fun x4 => .ite (!x4) (.ret false) (.ite (!eqI x.1.2.2.2.2.1 x.2.1.2.2.2.2.1) (.ret false) (.ret true)))))
def leqYard.F (N : Nat) (x : leqYard.P.D) : Option leqYard.R.D := (leqYard.T N x).run
abbrev leqNote.P : Ty := (.pair T86 (.pair T86 .unit))
abbrev leqNote.R : Ty := .bool
def leqNote.T (N : Nat) (x : leqNote.P.D) : Tr leqNote.R.D := .ite (!eqI x.1.1 x.2.1.1) (.ret false) (.ite (!eqI x.1.2.1 x.2.1.2.1) (.ret false) (.ret true))
def leqNote.F (N : Nat) (x : leqNote.P.D) : Option leqNote.R.D := (leqNote.T N x).run
abbrev leqNoteS.P : Ty := (.pair T90 (.pair T90 .unit))
abbrev leqNoteS.R : Ty := .bool
abbrev leqNoteS.C0_0 : Ty := (.pair T90 (.pair T90 .unit))
abbrev leqNoteS.M0_0 : Ty := (.pair (.int .i64) .unit)
abbrev leqNoteS.O0_0 : Ty := .unit
abbrev leqNoteS.Q0_0 : Ty := (.pair .bool .unit)
def leqNoteS.B0_0 (N : Nat) (c : leqNoteS.C0_0.D) (m : leqNoteS.M0_0.D) : Tr (Leaf leqNoteS.M0_0.D leqNoteS.O0_0.D leqNoteS.Q0_0.D) := .ite (ltI m.1 (lenI c.1)) (.bind (idx c.1 m.1) fun x1 => .bind (idx c.2.1 m.1) fun x2 => .bind (leqNote.F N (x1, x2, ())) fun x3 => .ite (!x3) (.ret (.ret (false, ()))) (.ret (.more ((addW .i64 m.1 (1 : Int)), ())))) (.ret (.out ()))
def leqNoteS.L0_0 (N : Nat) (c : leqNoteS.C0_0.D) (m : leqNoteS.M0_0.D) : Option (leqNoteS.O0_0.D ⊕ leqNoteS.Q0_0.D) := iterT (leqNoteS.B0_0 N c) N m
def leqNoteS.T (N : Nat) (x : leqNoteS.P.D) : Tr leqNoteS.R.D := .ite (!eqI (lenI x.1) (lenI x.2.1)) (.ret false) (.bind (leqNoteS.L0_0 N x ((0 : Int), ())) fun p1 => .sum p1 (fun a2 => .ret true) (fun b3 => .ret b3.1))
def leqNoteS.F (N : Nat) (x : leqNoteS.P.D) : Option leqNoteS.R.D := (leqNoteS.T N x).run
abbrev leqBox.P : Ty := (.pair T91 (.pair T91 .unit))
abbrev leqBox.R : Ty := .bool
def leqBox.T (N : Nat) (x : leqBox.P.D) : Tr leqBox.R.D := .bind (leqInt64S.F N (x.1.1, x.2.1.1, ())) fun x1 => .ite (!x1) (.ret false) (.bind (leqInt64S.F N (x.1.2.1, x.2.1.2.1, ())) fun x2 => .ite (!x2) (.ret false) (.bind (leqNoteS.F N (x.1.2.2.1, x.2.1.2.2)) fun x3 => .ite (!x3) (.ret false) (.ret true)))
def leqBox.F (N : Nat) (x : leqBox.P.D) : Option leqBox.R.D := (leqBox.T N x).run
abbrev leqBoxS.P : Ty := (.pair T54 T55)
abbrev leqBoxS.R : Ty := .bool
abbrev leqBoxS.C0_0 : Ty := (.pair T54 T55)
abbrev leqBoxS.M0_0 : Ty := (.pair (.int .i64) .unit)
abbrev leqBoxS.O0_0 : Ty := .unit
abbrev leqBoxS.Q0_0 : Ty := (.pair .bool .unit)
def leqBoxS.B0_0 (N : Nat) (c : leqBoxS.C0_0.D) (m : leqBoxS.M0_0.D) : Tr (Leaf leqBoxS.M0_0.D leqBoxS.O0_0.D leqBoxS.Q0_0.D) := .ite (ltI m.1 (lenI c.1)) (.bind (idx c.1 m.1) fun x1 => .bind (idx c.2.1 m.1) fun x2 => .bind (leqBox.F N (x1, x2, ())) fun x3 => .ite (!x3) (.ret (.ret (false, ()))) (.ret (.more ((addW .i64 m.1 (1 : Int)), ())))) (.ret (.out ()))
def leqBoxS.L0_0 (N : Nat) (c : leqBoxS.C0_0.D) (m : leqBoxS.M0_0.D) : Option (leqBoxS.O0_0.D ⊕ leqBoxS.Q0_0.D) := iterT (leqBoxS.B0_0 N c) N m
def leqBoxS.T (N : Nat) (x : leqBoxS.P.D) : Tr leqBoxS.R.D := .ite (!eqI (lenI x.1) (lenI x.2.1)) (.ret false) (.bind (leqBoxS.L0_0 N x ((0 : Int), ())) fun p1 => .sum p1 (fun a2 => .ret true) (fun b3 => .ret b3.1))
def leqBoxS.F (N : Nat) (x : leqBoxS.P.D) : Option leqBoxS.R.D := (leqBoxS.T N x).run
abbrev leqMail.P : Ty := (.pair T55 (.pair T55 .unit))
abbrev leqMail.R : Ty := .bool
def leqMail.T (N : Nat) (x : leqMail.P.D) : Tr leqMail.R.D := .bind (leqBoxS.F N (x.1.1, x.2.1)) fun x1 => .ite (!x1) (.ret false) (.ret true)
def leqMail.F (N : Nat) (x : leqMail.P.D) : Option leqMail.R.D := (leqMail.T N x).run
abbrev leqState.P : Ty := (.pair T57 (.pair T57 .unit))
abbrev leqState.R : Ty := .bool
def leqState.T (N : Nat) (x : leqState.P.D) : Tr leqState.R.D := .bind (leqYard.F N (x.1.1, x.2.1.1, ())) fun x1 => .ite (!x1) (.ret false) (.bind (leqMail.F N (x.1.2.1, x.2.1.2)) fun x2 => .ite (!x2) (.ret false) (.ret true))
def leqState.F (N : Nat) (x : leqState.P.D) : Option leqState.R.D := (leqState.T N x).run
abbrev leqRegion.P : Ty := (.pair T104 (.pair T104 .unit))
abbrev leqRegion.R : Ty := .bool
def leqRegion.T (N : Nat) (x : leqRegion.P.D) : Tr leqRegion.R.D := .ite (!eqS x.1.1 x.2.1.1) (.ret false) (.ite (!eqS x.1.2.1 x.2.1.2.1) (.ret false) (.ite (!eqS x.1.2.2.1 x.2.1.2.2.1) (.ret false) (.ret true)))
def leqRegion.F (N : Nat) (x : leqRegion.P.D) : Option leqRegion.R.D := (leqRegion.T N x).run
abbrev leqRegionS.P : Ty := (.pair T59 (.pair T59 .unit))
abbrev leqRegionS.R : Ty := .bool
abbrev leqRegionS.C0_0 : Ty := (.pair T59 (.pair T59 .unit))
abbrev leqRegionS.M0_0 : Ty := (.pair (.int .i64) .unit)
abbrev leqRegionS.O0_0 : Ty := .unit
abbrev leqRegionS.Q0_0 : Ty := (.pair .bool .unit)
def leqRegionS.B0_0 (N : Nat) (c : leqRegionS.C0_0.D) (m : leqRegionS.M0_0.D) : Tr (Leaf leqRegionS.M0_0.D leqRegionS.O0_0.D leqRegionS.Q0_0.D) := .ite (ltI m.1 (lenI c.1)) (.bind (idx c.1 m.1) fun x1 => .bind (idx c.2.1 m.1) fun x2 => .bind (leqRegion.F N (x1, x2, ())) fun x3 => .ite (!x3) (.ret (.ret (false, ()))) (.ret (.more ((addW .i64 m.1 (1 : Int)), ())))) (.ret (.out ()))
def leqRegionS.L0_0 (N : Nat) (c : leqRegionS.C0_0.D) (m : leqRegionS.M0_0.D) : Option (leqRegionS.O0_0.D ⊕ leqRegionS.Q0_0.D) := iterT (leqRegionS.B0_0 N c) N m
def leqRegionS.T (N : Nat) (x : leqRegionS.P.D) : Tr leqRegionS.R.D := .ite (!eqI (lenI x.1) (lenI x.2.1)) (.ret false) (.bind (leqRegionS.L0_0 N x ((0 : Int), ())) fun p1 => .sum p1 (fun a2 => .ret true) (fun b3 => .ret b3.1))
def leqRegionS.F (N : Nat) (x : leqRegionS.P.D) : Option leqRegionS.R.D := (leqRegionS.T N x).run
abbrev leqDisk.P : Ty := (.pair T60 (.pair T60 .unit))
abbrev leqDisk.R : Ty := .bool
def leqDisk.T (N : Nat) (x : leqDisk.P.D) : Tr leqDisk.R.D := .bind (leqRegionS.F N (x.1.1, x.2.1.1, ())) fun x1 => .ite (!x1) (.ret false) (.ite (!eqI x.1.2.1 x.2.1.2.1) (.ret false) (.ret true))
def leqDisk.F (N : Nat) (x : leqDisk.P.D) : Option leqDisk.R.D := (leqDisk.T N x).run
abbrev leqHouse.P : Ty := (.pair T62 (.pair T62 .unit))
abbrev leqHouse.R : Ty := .bool
def leqHouse.T (N : Nat) (x : leqHouse.P.D) : Tr leqHouse.R.D := .bind (leqState.F N (x.1.1, x.2.1.1, ())) fun x1 => .ite (!x1) (.ret false) (.bind (leqDisk.F N (x.1.2.1, x.2.1.2.1, ())) fun x2 => .ite (!x2) (.ret false) (.ite (!eqI x.1.2.2.1 x.2.1.2.2.1) (.ret false) (.ret true)))
def leqHouse.F (N : Nat) (x : leqHouse.P.D) : Option leqHouse.R.D := (leqHouse.T N x).run
abbrev lFnExactHouseRight.P : Ty := (.pair T40 .unit)
abbrev lFnExactHouseRight.R : Ty := .bool
def lFnExactHouseRight.T (N : Nat) (x : lFnExactHouseRight.P.D) : Tr lFnExactHouseRight.R.D := .bind (lszHouse.F N (x.1, (1048576 : Int), ())) fun x1 => .ite (ltI x1 (0 : Int)) (.ret true) (.bind (ltoHouse.F N x) fun x2 => .bind (sHouseRight.F N (x2, ())) fun x3 => .bind (ltoHouse.F N x) fun x4 => .bind (iHouseRight.F N (x4, ())) fun x5 => .ite (!(x5 == x3)) (.ret false) (.bind (ltoHouse.F N x) fun x6 => .bind (leqHouse.F N (x4, x6, ())) fun x7 => .ite (!x7) (.ret false) (.ret true)))
def lFnExactHouseRight.F (N : Nat) (x : lFnExactHouseRight.P.D) : Option lFnExactHouseRight.R.D := (lFnExactHouseRight.T N x).run
end Go.Proofs.YtjnfmjeiceiciaaGreat
