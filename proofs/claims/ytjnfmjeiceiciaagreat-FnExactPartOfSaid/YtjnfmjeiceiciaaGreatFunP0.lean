/-
The functions as plain Lean; printed by program.
-/
import Derived.Test.YtjnfmjeiceiciaaGreatFun0
namespace Go.Proofs.YtjnfmjeiceiciaaGreat
open X
set_option linter.unusedVariables false
set_option linter.unusedSimpArgs false
set_option maxRecDepth 100000
abbrev sl01Fold.P : Ty := (.pair (.int .i64) .unit)
abbrev sl01Fold.R : Ty := (.int .u64)
def sl01Fold.T (N : Nat) (x : sl01Fold.P.D) : Tr sl01Fold.R.D := .ite (ltI x.1 (0 : Int)) (.ret (addW .u64 (mulW .u64 (2 : Int) (IntKind.wrap .u64 (subW .i64 0 (addW .i64 x.1 (1 : Int))))) (1 : Int))) (.ret (mulW .u64 (2 : Int) (IntKind.wrap .u64 x.1)))
def sl01Fold.F (N : Nat) (x : sl01Fold.P.D) : Option sl01Fold.R.D := (sl01Fold.T N x).run
abbrev sPutNum.P : Ty := (.pair (.int .i64) .unit)
abbrev sPutNum.R : Ty := .str
abbrev sPutNum.C0_0 : Ty := .unit
abbrev sPutNum.M0_0 : Ty := (.pair (.int .u64) (.pair T193 .unit))
abbrev sPutNum.O0_0 : Ty := (.pair (.int .u64) (.pair T193 .unit))
abbrev sPutNum.Q0_0 : Ty := .unit
def sPutNum.B0_0 (N : Nat) (c : sPutNum.C0_0.D) (m : sPutNum.M0_0.D) : Tr (Leaf sPutNum.M0_0.D sPutNum.O0_0.D sPutNum.Q0_0.D) := .ite (leI (128 : Int) m.1) (.ite (eqI (128 : Int) 0) (.no) (.ite (decide (List.length m.2.1 + List.length ([(IntKind.wrap .u8 (addW .u64 (Int.tmod m.1 (128 : Int)) (128 : Int)))] : List (Ty.D (.int .u8))) ≤ maxRow) && true) (.ite (eqI (128 : Int) 0) (.no) (.ret (.more ((IntKind.wrap .u64 (Int.tdiv m.1 (128 : Int))), (m.2.1 ++ ([(IntKind.wrap .u8 (addW .u64 (Int.tmod m.1 (128 : Int)) (128 : Int)))] : List (Ty.D (.int .u8)))), ())))) (.no))) (.ret (.out m))
def sPutNum.L0_0 (N : Nat) (c : sPutNum.C0_0.D) (m : sPutNum.M0_0.D) : Option (sPutNum.O0_0.D ⊕ sPutNum.Q0_0.D) := iterT (sPutNum.B0_0 N c) N m
def sPutNum.T (N : Nat) (x : sPutNum.P.D) : Tr sPutNum.R.D := .bind (sl01Fold.F N x) fun x1 => .bind (sPutNum.L0_0 N () (x1, ([] : List (Ty.D (.int .u8))), ())) fun p2 => .sum p2 (fun a3 => .ite (decide (List.length a3.2.1 + List.length ([(IntKind.wrap .u8 a3.1)] : List (Ty.D (.int .u8))) ≤ maxRow) && true) (.ret (List.map (fun n : Int => UInt8.ofNat n.toNat) (a3.2.1 ++ ([(IntKind.wrap .u8 a3.1)] : List (Ty.D (.int .u8)))))) (.no)) (fun b4 => .no)
def sPutNum.F (N : Nat) (x : sPutNum.P.D) : Option sPutNum.R.D := (sPutNum.T N x).run
abbrev sl18System.P : Ty := (.pair T52 .unit)
abbrev sl18System.R : Ty := .str
abbrev sl18System.C0_4 : Ty := (.pair (.int .i64) (.pair T44 (.pair T45 (.pair T46 (.pair (.int .i64) (.pair T49 (.pair T50 (.pair T51 (.pair (.int .i64) .unit)))))))))
abbrev sl18System.M0_4 : Ty := (.pair .str (.pair (.int .i64) .unit))
abbrev sl18System.O0_4 : Ty := (.pair .str .unit)
abbrev sl18System.Q0_4 : Ty := .unit
def sl18System.B0_4 (N : Nat) (c : sl18System.C0_4.D) (m : sl18System.M0_4.D) : Tr (Leaf sl18System.M0_4.D sl18System.O0_4.D sl18System.Q0_4.D) := .bind (idx c.2.2.2.2.2.1 c.1) fun x1 => .ite (ltI m.2.1 (lenI x1.2.1)) (.bind (idx c.2.2.2.2.2.1 c.1) fun x2 => .bind (idx x2.2.1 m.2.1) fun x3 => .bind (sPutNum.F N (x3.1, ())) fun x4 => .ite (decide (List.length m.1 + List.length x4 ≤ maxStr)) (.bind (idx c.2.2.2.2.2.1 c.1) fun x5 => .bind (idx x5.2.1 m.2.1) fun x6 => .bind (sPutNum.F N x6.2) fun x7 => .ite (decide (List.length (m.1 ++ x4) + List.length x7 ≤ maxStr)) (.ret (.more (((m.1 ++ x4) ++ x7), (addW .i64 m.2.1 (1 : Int)), ()))) (.no)) (.no)) (.ret (.out (m.1, ())))
def sl18System.L0_4 (N : Nat) (c : sl18System.C0_4.D) (m : sl18System.M0_4.D) : Option (sl18System.O0_4.D ⊕ sl18System.Q0_4.D) := iterT (sl18System.B0_4 N c) N m
abbrev sl18System.C0_0 : Ty := (.pair T44 (.pair T45 (.pair T46 (.pair (.int .i64) (.pair T49 (.pair T50 (.pair T51 (.pair (.int .i64) .unit))))))))
abbrev sl18System.M0_0 : Ty := (.pair .str (.pair (.int .i64) .unit))
abbrev sl18System.O0_0 : Ty := (.pair .str .unit)
abbrev sl18System.Q0_0 : Ty := .unit
def sl18System.B0_0 (N : Nat) (c : sl18System.C0_0.D) (m : sl18System.M0_0.D) : Tr (Leaf sl18System.M0_0.D sl18System.O0_0.D sl18System.Q0_0.D) := .ite (ltI m.2.1 (lenI c.2.2.2.2.1)) (.bind (idx c.2.2.2.2.1 m.2.1) fun x1 => .bind (sPutNum.F N (x1.1, ())) fun x2 => .ite (decide (List.length m.1 + List.length x2 ≤ maxStr)) (.bind (idx c.2.2.2.2.1 m.2.1) fun x3 => .bind (sPutNum.F N ((lenI x3.2.1), ())) fun x4 => .ite (decide (List.length (m.1 ++ x2) + List.length x4 ≤ maxStr)) (.bind (sl18System.L0_4 N (m.2.1, c) (((m.1 ++ x2) ++ x4), (0 : Int), ())) fun p5 => .sum p5 (fun a6 => .ret (.more (a6.1, (addW .i64 m.2.1 (1 : Int)), ()))) (fun b7 => .no)) (.no)) (.no)) (.ret (.out (m.1, ())))
def sl18System.L0_0 (N : Nat) (c : sl18System.C0_0.D) (m : sl18System.M0_0.D) : Option (sl18System.O0_0.D ⊕ sl18System.Q0_0.D) := iterT (sl18System.B0_0 N c) N m
def sl18System.T (N : Nat) (x : sl18System.P.D) : Tr sl18System.R.D := .bind (sPutNum.F N x.1.2.2.2.2) fun x1 => .bind (sl18System.L0_0 N (x.1.1.1, x.1.1.2.1, x.1.1.2.2.1, x.1.1.2.2.2.1, x.1.2) (x1, (0 : Int), ())) fun p2 => .sum p2 (fun a3 => .ret a3.1) (fun b4 => .no)
def sl18System.F (N : Nat) (x : sl18System.P.D) : Option sl18System.R.D := (sl18System.T N x).run
abbrev sl13Many.P : Ty := (.pair T50 (.pair T86 .unit))
abbrev sl13Many.R : Ty := (.int .i64)
abbrev sl13Many.C0_0 : Ty := (.pair T50 T86)
abbrev sl13Many.M0_0 : Ty := T86
abbrev sl13Many.O0_0 : Ty := (.pair (.int .i64) .unit)
abbrev sl13Many.Q0_0 : Ty := .unit
def sl13Many.B0_0 (N : Nat) (c : sl13Many.C0_0.D) (m : sl13Many.M0_0.D) : Tr (Leaf sl13Many.M0_0.D sl13Many.O0_0.D sl13Many.Q0_0.D) := .ite (ltI m.2.1 (lenI c.1)) (.bind (idx c.1 m.2.1) fun x1 => .ite (Ty.eqb T86 x1.1 c.2) (.ret (.more ((addW .i64 m.1 (1 : Int)), (addW .i64 m.2.1 (1 : Int)), ()))) (.ret (.more (m.1, (addW .i64 m.2.1 (1 : Int)), ())))) (.ret (.out (m.1, ())))
def sl13Many.L0_0 (N : Nat) (c : sl13Many.C0_0.D) (m : sl13Many.M0_0.D) : Option (sl13Many.O0_0.D ⊕ sl13Many.Q0_0.D) := iterT (sl13Many.B0_0 N c) N m
def sl13Many.T (N : Nat) (x : sl13Many.P.D) : Tr sl13Many.R.D := .bind (sl13Many.L0_0 N (x.1, x.2.1) ((0 : Int), (0 : Int), ())) fun p1 => .sum p1 (fun a2 => .ret a2.1) (fun b3 => .no)
def sl13Many.F (N : Nat) (x : sl13Many.P.D) : Option sl13Many.R.D := (sl13Many.T N x).run
abbrev sPutText.P : Ty := (.pair .str .unit)
abbrev sPutText.R : Ty := .str
def sPutText.T (N : Nat) (x : sPutText.P.D) : Tr sPutText.R.D := .ite (ltI (8000 : Int) (lenI x.1)) (.ret ([] : List UInt8)) (.bind (sPutNum.F N ((lenI x.1), ())) fun x1 => .ite (decide (List.length x1 + List.length x.1 ≤ maxStr)) (.ret (x1 ++ x.1)) (.no))
def sPutText.F (N : Nat) (x : sPutText.P.D) : Option sPutText.R.D := (sPutText.T N x).run
abbrev sTaskBytes.P : Ty := (.pair T128 .unit)
abbrev sTaskBytes.R : Ty := .str
abbrev sTaskBytes.C0_0 : Ty := (.pair (.int .i64) (.pair (.int .i64) (.pair (.int .i64) (.pair .str (.pair (.int .i64) (.pair (.int .i64) (.pair (.int .i64) (.pair (.int .i64) (.pair (.int .i64) (.pair (.int .i64) (.pair (.int .i64) (.pair (.int .i64) (.pair (.int .i64) (.pair T89 .unit))))))))))))))
abbrev sTaskBytes.M0_0 : Ty := (.pair .str (.pair (.int .i64) .unit))
abbrev sTaskBytes.O0_0 : Ty := (.pair .str .unit)
abbrev sTaskBytes.Q0_0 : Ty := .unit
def sTaskBytes.B0_0 (N : Nat) (c : sTaskBytes.C0_0.D) (m : sTaskBytes.M0_0.D) : Tr (Leaf sTaskBytes.M0_0.D sTaskBytes.O0_0.D sTaskBytes.Q0_0.D) := .ite (ltI m.2.1 (lenI c.2.2.2.2.2.2.2.2.2.2.2.2.2.1)) (.bind (idx c.2.2.2.2.2.2.2.2.2.2.2.2.2.1 m.2.1) fun x1 => .bind (sPutNum.F N (x1, ())) fun x2 => .ite (decide (List.length m.1 + List.length x2 ≤ maxStr)) (.ret (.more ((m.1 ++ x2), (addW .i64 m.2.1 (1 : Int)), ()))) (.no)) (.ret (.out (m.1, ())))
def sTaskBytes.L0_0 (N : Nat) (c : sTaskBytes.C0_0.D) (m : sTaskBytes.M0_0.D) : Option (sTaskBytes.O0_0.D ⊕ sTaskBytes.Q0_0.D) := iterT (sTaskBytes.B0_0 N c) N m
def sTaskBytes.T (N : Nat) (x : sTaskBytes.P.D) : Tr sTaskBytes.R.D := .bind (sTaskRight.F N x) fun x1 => .ite (!x1) (.ret ([] : List UInt8)) (.bind (sPutNum.F N (x.1.1.1, ())) fun x2 => .bind (sPutNum.F N x.1.1.2) fun x3 => .ite (decide (List.length x2 + List.length x3 ≤ maxStr)) (.bind (sPutNum.F N (x.1.2.1, ())) fun x4 => .ite (decide (List.length (x2 ++ x3) + List.length x4 ≤ maxStr)) (.bind (sPutText.F N (x.1.2.2.1, ())) fun x5 => .ite (decide (List.length ((x2 ++ x3) ++ x4) + List.length x5 ≤ maxStr)) (.bind (sPutNum.F N (x.1.2.2.2.1, ())) fun x6 => .ite (decide (List.length (((x2 ++ x3) ++ x4) ++ x5) + List.length x6 ≤ maxStr)) (.bind (sPutNum.F N (x.1.2.2.2.2.1, ())) fun x7 => .ite (decide (List.length ((((x2 ++ x3) ++ x4) ++ x5) ++ x6) + List.length x7 ≤ maxStr)) (.bind (sPutNum.F N (x.1.2.2.2.2.2.1, ())) fun x8 => .ite (decide (List.length (((((x2 ++ x3) ++ x4) ++ x5) ++ x6) ++ x7) + List.length x8 ≤ maxStr)) (.bind (sPutNum.F N (x.1.2.2.2.2.2.2.1.1, ())) fun x9 => .ite (decide (List.length ((((((x2 ++ x3) ++ x4) ++ x5) ++ x6) ++ x7) ++ x8) + List.length x9 ≤ maxStr)) (.bind (sPutNum.F N x.1.2.2.2.2.2.2.1.2) fun x10 => .ite (decide (List.length (((((((x2 ++ x3) ++ x4) ++ x5) ++ x6) ++ x7) ++ x8) ++ x9) + List.length x10 ≤ maxStr)) (.bind (sPutNum.F N (x.1.2.2.2.2.2.2.2.1, ())) fun x11 => .ite (decide (List.length ((((((((x2 ++ x3) ++ x4) ++ x5) ++ x6) ++ x7) ++ x8) ++ x9) ++ x10) + List.length x11 ≤ maxStr)) (.bind (sPutNum.F N (x.1.2.2.2.2.2.2.2.2.1, ())) fun x12 => .ite (decide (List.length (((((((((x2 ++ x3) ++ x4) ++ x5) ++ x6) ++ x7) ++ x8) ++ x9) ++ x10) ++ x11) + List.length x12 ≤ maxStr)) (.bind (sPutNum.F N (x.1.2.2.2.2.2.2.2.2.2.1, ())) fun x13 => .ite (decide (List.length ((((((((((x2 ++ x3) ++ x4) ++ x5) ++ x6) ++ x7) ++ x8) ++ x9) ++ x10) ++ x11) ++ x12) + List.length x13 ≤ maxStr)) (.bind (sPutNum.F N (x.1.2.2.2.2.2.2.2.2.2.2.1, ())) fun x14 => .ite (decide (List.length (((((((((((x2 ++ x3) ++ x4) ++ x5) ++ x6) ++ x7) ++ x8) ++ x9) ++ x10) ++ x11) ++ x12) ++ x13) + List.length x14 ≤ maxStr)) (.bind (sPutNum.F N ((lenI x.1.2.2.2.2.2.2.2.2.2.2.2.1), ())) fun x15 => .ite (decide (List.length ((((((((((((x2 ++ x3) ++ x4) ++ x5) ++ x6) ++ x7) ++ x8) ++ x9) ++ x10) ++ x11) ++ x12) ++ x13) ++ x14) + List.length x15 ≤ maxStr)) (.bind (sTaskBytes.L0_0 N (x.1.1.1, x.1.1.2.1, x.1.2.1, x.1.2.2.1, x.1.2.2.2.1, x.1.2.2.2.2.1, x.1.2.2.2.2.2.1, x.1.2.2.2.2.2.2.1.1, x.1.2.2.2.2.2.2.1.2.1, x.1.2.2.2.2.2.2.2) ((((((((((((((x2 ++ x3) ++ x4) ++ x5) ++ x6) ++ x7) ++ x8) ++ x9) ++ x10) ++ x11) ++ x12) ++ x13) ++ x14) ++ x15), (0 : Int), ())) fun p16 => .sum p16 (fun a17 => .ret a17.1) (fun b18 => .no)) (.no)) (.no)) (.no)) (.no)) (.no)) (.no)) (.no)) (.no)) (.no)) (.no)) (.no)) (.no)) (.no))
def sTaskBytes.F (N : Nat) (x : sTaskBytes.P.D) : Option sTaskBytes.R.D := (sTaskBytes.T N x).run
abbrev sl18Nums.P : Ty := (.pair T89 .unit)
abbrev sl18Nums.R : Ty := .str
abbrev sl18Nums.C0_0 : Ty := (.pair T89 .unit)
abbrev sl18Nums.M0_0 : Ty := (.pair .str (.pair (.int .i64) .unit))
abbrev sl18Nums.O0_0 : Ty := (.pair .str .unit)
abbrev sl18Nums.Q0_0 : Ty := .unit
def sl18Nums.B0_0 (N : Nat) (c : sl18Nums.C0_0.D) (m : sl18Nums.M0_0.D) : Tr (Leaf sl18Nums.M0_0.D sl18Nums.O0_0.D sl18Nums.Q0_0.D) := .ite (ltI m.2.1 (lenI c.1)) (.bind (idx c.1 m.2.1) fun x1 => .bind (sPutNum.F N (x1, ())) fun x2 => .ite (decide (List.length m.1 + List.length x2 ≤ maxStr)) (.ret (.more ((m.1 ++ x2), (addW .i64 m.2.1 (1 : Int)), ()))) (.no)) (.ret (.out (m.1, ())))
def sl18Nums.L0_0 (N : Nat) (c : sl18Nums.C0_0.D) (m : sl18Nums.M0_0.D) : Option (sl18Nums.O0_0.D ⊕ sl18Nums.Q0_0.D) := iterT (sl18Nums.B0_0 N c) N m
def sl18Nums.T (N : Nat) (x : sl18Nums.P.D) : Tr sl18Nums.R.D := .bind (sPutNum.F N ((lenI x.1), ())) fun x1 => .bind (sl18Nums.L0_0 N x (x1, (0 : Int), ())) fun p2 => .sum p2 (fun a3 => .ret a3.1) (fun b4 => .no)
def sl18Nums.F (N : Nat) (x : sl18Nums.P.D) : Option sl18Nums.R.D := (sl18Nums.T N x).run
abbrev sl18Part.P : Ty := (.pair T57 (.pair T86 .unit))
abbrev sl18Part.R : Ty := .str
abbrev sl18Part.C0_0 : Ty := (.pair T44 (.pair T45 (.pair T46 (.pair (.int .i64) (.pair T49 (.pair T50 (.pair T51 (.pair (.int .i64) (.pair T54 (.pair (.int .i64) (.pair (.int .i64) (.pair T44 (.pair T45 (.pair T46 (.pair (.int .i64) (.pair T49 (.pair T50 (.pair T51 (.pair (.int .i64) .unit)))))))))))))))))))
abbrev sl18Part.M0_0 : Ty := (.pair .str (.pair (.int .i64) .unit))
abbrev sl18Part.O0_0 : Ty := (.pair .str .unit)
abbrev sl18Part.Q0_0 : Ty := .unit
def sl18Part.B0_0 (N : Nat) (c : sl18Part.C0_0.D) (m : sl18Part.M0_0.D) : Tr (Leaf sl18Part.M0_0.D sl18Part.O0_0.D sl18Part.Q0_0.D) := .ite (ltI m.2.1 (lenI c.2.2.2.2.2.2.2.2.2.2.2.2.2.2.2.2.1)) (.bind (idx c.2.2.2.2.2.2.2.2.2.2.2.2.2.2.2.2.1 m.2.1) fun x1 => .ite (Ty.eqb T86 x1.1 (c.2.2.2.2.2.2.2.2.2.1, c.2.2.2.2.2.2.2.2.2.2.1, ())) (.bind (idx c.2.2.2.2.2.2.2.2.2.2.2.2.2.2.2.2.1 m.2.1) fun x2 => .bind (sTaskBytes.F N (x2, ())) fun x3 => .ite (decide (List.length m.1 + List.length x3 ≤ maxStr)) (.ret (.more ((m.1 ++ x3), (addW .i64 m.2.1 (1 : Int)), ()))) (.no)) (.ret (.more (m.1, (addW .i64 m.2.1 (1 : Int)), ())))) (.ret (.out (m.1, ())))
def sl18Part.L0_0 (N : Nat) (c : sl18Part.C0_0.D) (m : sl18Part.M0_0.D) : Option (sl18Part.O0_0.D ⊕ sl18Part.Q0_0.D) := iterT (sl18Part.B0_0 N c) N m
abbrev sl18Part.C0_4 : Ty := (.pair .str (.pair T44 (.pair T45 (.pair T46 (.pair (.int .i64) (.pair T49 (.pair T50 (.pair T51 (.pair (.int .i64) (.pair T54 (.pair (.int .i64) (.pair (.int .i64) (.pair T44 (.pair T45 (.pair T46 (.pair (.int .i64) (.pair T49 (.pair T50 (.pair T51 (.pair (.int .i64) .unit))))))))))))))))))))
abbrev sl18Part.M0_4 : Ty := (.pair (.int .i64) (.pair .str (.pair (.int .i64) .unit)))
abbrev sl18Part.O0_4 : Ty := T321
abbrev sl18Part.Q0_4 : Ty := .unit
def sl18Part.B0_4 (N : Nat) (c : sl18Part.C0_4.D) (m : sl18Part.M0_4.D) : Tr (Leaf sl18Part.M0_4.D sl18Part.O0_4.D sl18Part.Q0_4.D) := .ite (ltI m.2.2.1 (lenI c.2.2.2.2.2.2.2.2.2.2.2.2.2.2.2.2.2.2.1)) (.bind (idx c.2.2.2.2.2.2.2.2.2.2.2.2.2.2.2.2.2.2.1 m.2.2.1) fun x1 => .ite (Ty.eqb T86 x1.1 (c.2.2.2.2.2.2.2.2.2.2.1, c.2.2.2.2.2.2.2.2.2.2.2.1, ())) (.bind (idx c.2.2.2.2.2.2.2.2.2.2.2.2.2.2.2.2.2.2.1 m.2.2.1) fun x2 => .bind (sPutText.F N (x2.2.1, ())) fun x3 => .ite (decide (List.length m.2.1 + List.length x3 ≤ maxStr)) (.bind (idx c.2.2.2.2.2.2.2.2.2.2.2.2.2.2.2.2.2.2.1 m.2.2.1) fun x4 => .bind (sPutNum.F N x4.2.2) fun x5 => .ite (decide (List.length (m.2.1 ++ x3) + List.length x5 ≤ maxStr)) (.ret (.more ((addW .i64 m.1 (1 : Int)), ((m.2.1 ++ x3) ++ x5), (addW .i64 m.2.2.1 (1 : Int)), ()))) (.no)) (.no)) (.ret (.more (m.1, m.2.1, (addW .i64 m.2.2.1 (1 : Int)), ())))) (.ret (.out (m.1, m.2.1, ())))
def sl18Part.L0_4 (N : Nat) (c : sl18Part.C0_4.D) (m : sl18Part.M0_4.D) : Option (sl18Part.O0_4.D ⊕ sl18Part.Q0_4.D) := iterT (sl18Part.B0_4 N c) N m
abbrev sl18Part.C0_12 : Ty := (.pair (.int .i64) (.pair T44 (.pair T45 (.pair T46 (.pair (.int .i64) (.pair T49 (.pair T50 (.pair T51 (.pair (.int .i64) (.pair T54 (.pair (.int .i64) (.pair (.int .i64) (.pair T44 (.pair T45 (.pair T46 (.pair (.int .i64) (.pair T49 (.pair T50 (.pair T51 (.pair (.int .i64) T91))))))))))))))))))))
abbrev sl18Part.M0_12 : Ty := (.pair .str (.pair (.int .i64) .unit))
abbrev sl18Part.O0_12 : Ty := (.pair .str .unit)
abbrev sl18Part.Q0_12 : Ty := .unit
def sl18Part.B0_12 (N : Nat) (c : sl18Part.C0_12.D) (m : sl18Part.M0_12.D) : Tr (Leaf sl18Part.M0_12.D sl18Part.O0_12.D sl18Part.Q0_12.D) := .ite (ltI m.2.1 (lenI c.2.2.2.2.2.2.2.2.2.2.2.2.2.2.2.2.2.2.2.2.2.2.1)) (.bind (idx c.2.2.2.2.2.2.2.2.2.2.2.2.2.2.2.2.2.2.2.2.2.2.1 m.2.1) fun x1 => .bind (sPutNum.F N (x1.1, ())) fun x2 => .ite (decide (List.length m.1 + List.length x2 ≤ maxStr)) (.bind (idx c.2.2.2.2.2.2.2.2.2.2.2.2.2.2.2.2.2.2.2.2.2.2.1 m.2.1) fun x3 => .bind (sPutNum.F N x3.2) fun x4 => .ite (decide (List.length (m.1 ++ x2) + List.length x4 ≤ maxStr)) (.ret (.more (((m.1 ++ x2) ++ x4), (addW .i64 m.2.1 (1 : Int)), ()))) (.no)) (.no)) (.ret (.out (m.1, ())))
def sl18Part.L0_12 (N : Nat) (c : sl18Part.C0_12.D) (m : sl18Part.M0_12.D) : Option (sl18Part.O0_12.D ⊕ sl18Part.Q0_12.D) := iterT (sl18Part.B0_12 N c) N m
abbrev sl18Part.C0_8 : Ty := (.pair T44 (.pair T45 (.pair T46 (.pair (.int .i64) (.pair T49 (.pair T50 (.pair T51 (.pair (.int .i64) (.pair T54 (.pair (.int .i64) (.pair (.int .i64) (.pair T44 (.pair T45 (.pair T46 (.pair (.int .i64) (.pair T49 (.pair T50 (.pair T51 (.pair (.int .i64) .unit)))))))))))))))))))
abbrev sl18Part.M0_8 : Ty := (.pair .str (.pair (.int .i64) .unit))
abbrev sl18Part.O0_8 : Ty := (.pair .str .unit)
abbrev sl18Part.Q0_8 : Ty := .unit
def sl18Part.B0_8 (N : Nat) (c : sl18Part.C0_8.D) (m : sl18Part.M0_8.D) : Tr (Leaf sl18Part.M0_8.D sl18Part.O0_8.D sl18Part.Q0_8.D) := .ite (ltI m.2.1 (lenI c.2.2.2.2.2.2.2.2.2.2.2.2.1)) (.bind (idx c.2.2.2.2.2.2.2.2.2.2.2.2.1 m.2.1) fun x1 => .ite (Ty.eqb T86 x1.1 (c.2.2.2.2.2.2.2.2.2.1, c.2.2.2.2.2.2.2.2.2.2.1, ())) (.bind (idx c.2.2.2.2.2.2.2.2.1 m.2.1) fun x2 => .bind (sPutNum.F N ((lenI x2.2.2.1), ())) fun x3 => .ite (decide (List.length m.1 + List.length x3 ≤ maxStr)) (.bind (sl18Part.L0_12 N (m.2.1, c.1, c.2.1, c.2.2.1, c.2.2.2.1, c.2.2.2.2.1, c.2.2.2.2.2.1, c.2.2.2.2.2.2.1, c.2.2.2.2.2.2.2.1, c.2.2.2.2.2.2.2.2.1, c.2.2.2.2.2.2.2.2.2.1, c.2.2.2.2.2.2.2.2.2.2.1, c.2.2.2.2.2.2.2.2.2.2.2.1, c.2.2.2.2.2.2.2.2.2.2.2.2.1, c.2.2.2.2.2.2.2.2.2.2.2.2.2.1, c.2.2.2.2.2.2.2.2.2.2.2.2.2.2.1, c.2.2.2.2.2.2.2.2.2.2.2.2.2.2.2.1, c.2.2.2.2.2.2.2.2.2.2.2.2.2.2.2.2.1, c.2.2.2.2.2.2.2.2.2.2.2.2.2.2.2.2.2.1, c.2.2.2.2.2.2.2.2.2.2.2.2.2.2.2.2.2.2.1, x2) ((m.1 ++ x3), (0 : Int), ())) fun p4 => .sum p4 (fun a5 => .ret (.more (a5.1, (addW .i64 m.2.1 (1 : Int)), ()))) (fun b6 => .no)) (.no)) (.ret (.more (m.1, (addW .i64 m.2.1 (1 : Int)), ())))) (.ret (.out (m.1, ())))
def sl18Part.L0_8 (N : Nat) (c : sl18Part.C0_8.D) (m : sl18Part.M0_8.D) : Option (sl18Part.O0_8.D ⊕ sl18Part.Q0_8.D) := iterT (sl18Part.B0_8 N c) N m
abbrev sl18Part.C0_16 : Ty := (.pair T44 (.pair T45 (.pair T46 (.pair (.int .i64) (.pair T49 (.pair T50 (.pair T51 (.pair (.int .i64) (.pair T54 (.pair (.int .i64) (.pair (.int .i64) (.pair T44 (.pair T45 (.pair T46 (.pair (.int .i64) (.pair T49 (.pair T50 (.pair T51 (.pair (.int .i64) .unit)))))))))))))))))))
abbrev sl18Part.M0_16 : Ty := (.pair .str (.pair (.int .i64) .unit))
abbrev sl18Part.O0_16 : Ty := (.pair .str .unit)
abbrev sl18Part.Q0_16 : Ty := .unit
def sl18Part.B0_16 (N : Nat) (c : sl18Part.C0_16.D) (m : sl18Part.M0_16.D) : Tr (Leaf sl18Part.M0_16.D sl18Part.O0_16.D sl18Part.Q0_16.D) := .ite (ltI m.2.1 (lenI c.2.2.2.2.2.2.2.2.2.2.2.2.1)) (.bind (idx c.2.2.2.2.2.2.2.2.2.2.2.2.1 m.2.1) fun x1 => .ite (Ty.eqb T86 x1.2.1 (c.2.2.2.2.2.2.2.2.2.1, c.2.2.2.2.2.2.2.2.2.2.1, ())) (.bind (idx c.2.2.2.2.2.2.2.2.1 m.2.1) fun x2 => .bind (sl18Nums.F N (x2.2.1, ())) fun x3 => .ite (decide (List.length m.1 + List.length x3 ≤ maxStr)) (.ret (.more ((m.1 ++ x3), (addW .i64 m.2.1 (1 : Int)), ()))) (.no)) (.ret (.more (m.1, (addW .i64 m.2.1 (1 : Int)), ())))) (.ret (.out (m.1, ())))
def sl18Part.L0_16 (N : Nat) (c : sl18Part.C0_16.D) (m : sl18Part.M0_16.D) : Option (sl18Part.O0_16.D ⊕ sl18Part.Q0_16.D) := iterT (sl18Part.B0_16 N c) N m
def sl18Part.T (N : Nat) (x : sl18Part.P.D) : Tr sl18Part.R.D := .bind (sl13Many.F N (x.1.1.2.2.1, x.2)) fun x1 => .bind (sPutNum.F N (x1, ())) fun x2 => .bind (sl18Part.L0_0 N (x.1.1.1.1, x.1.1.1.2.1, x.1.1.1.2.2.1, x.1.1.1.2.2.2.1, x.1.1.2.1, x.1.1.2.2.1, x.1.1.2.2.2.1, x.1.1.2.2.2.2.1, x.1.2.1.1, x.2.1.1, x.2.1.2.1, x.1.1.1.1, x.1.1.1.2.1, x.1.1.1.2.2.1, x.1.1.1.2.2.2.1, x.1.1.2) (x2, (0 : Int), ())) fun p3 => .sum p3 (fun a4 => .bind (sl18Part.L0_4 N (a4.1, x.1.1.1.1, x.1.1.1.2.1, x.1.1.1.2.2.1, x.1.1.1.2.2.2.1, x.1.1.2.1, x.1.1.2.2.1, x.1.1.2.2.2.1, x.1.1.2.2.2.2.1, x.1.2.1.1, x.2.1.1, x.2.1.2.1, x.1.1.1.1, x.1.1.1.2.1, x.1.1.1.2.2.1, x.1.1.1.2.2.2.1, x.1.1.2) ((0 : Int), ([] : List UInt8), (0 : Int), ())) fun p6 => .sum p6 (fun a7 => .bind (sPutNum.F N (a7.1, ())) fun x9 => .ite (decide (List.length a4.1 + List.length x9 ≤ maxStr)) (.ite (decide (List.length (a4.1 ++ x9) + List.length a7.2.1 ≤ maxStr)) (.bind (sl18Part.L0_8 N (x.1.1.1.1, x.1.1.1.2.1, x.1.1.1.2.2.1, x.1.1.1.2.2.2.1, x.1.1.2.1, x.1.1.2.2.1, x.1.1.2.2.2.1, x.1.1.2.2.2.2.1, x.1.2.1.1, x.2.1.1, x.2.1.2.1, x.1.1.1.1, x.1.1.1.2.1, x.1.1.1.2.2.1, x.1.1.1.2.2.2.1, x.1.1.2) (((a4.1 ++ x9) ++ a7.2.1), (0 : Int), ())) fun p10 => .sum p10 (fun a11 => .bind (sl18Part.L0_16 N (x.1.1.1.1, x.1.1.1.2.1, x.1.1.1.2.2.1, x.1.1.1.2.2.2.1, x.1.1.2.1, x.1.1.2.2.1, x.1.1.2.2.2.1, x.1.1.2.2.2.2.1, x.1.2.1.1, x.2.1.1, x.2.1.2.1, x.1.1.1.1, x.1.1.1.2.1, x.1.1.1.2.2.1, x.1.1.1.2.2.2.1, x.1.1.2) (a11.1, (0 : Int), ())) fun p13 => .sum p13 (fun a14 => .ret a14.1) (fun b15 => .no)) (fun b12 => .no)) (.no)) (.no)) (fun b8 => .no)) (fun b5 => .no)
def sl18Part.F (N : Nat) (x : sl18Part.P.D) : Option sl18Part.R.D := (sl18Part.T N x).run
abbrev sPartOf.P : Ty := (.pair T57 (.pair (.int .i64) .unit))
abbrev sPartOf.R : Ty := .str
def sPartOf.T (N : Nat) (x : sPartOf.P.D) : Tr sPartOf.R.D := .bind (sStateRight.F N (x.1, ())) fun x1 => .ite (!x1) (.ret ([] : List UInt8)) (.bind (sl09Labels.F N (x.1.1.1.1, ())) fun x2 => .ite (ltI x.2.1 (0 : Int)) (.ret ([] : List UInt8)) (.bind (sl18Regions.F N (x.1.1.1, ())) fun x3 => .ite (leI x3 x.2.1) (.ret ([] : List UInt8)) (.ite (eqI x.2.1 (0 : Int)) (.bind (sl18System.F N (x.1.1, ())) fun x4 => .ret x4) (.ite (leI x.2.1 (lenI x2)) (.bind (idx x2 (subW .i64 x.2.1 (1 : Int))) fun _ => .bind (idx x2 (subW .i64 x.2.1 (1 : Int))) fun x5 => .bind (sl18Part.F N (x.1, x5, ())) fun x6 => .ret x6) (.bind (idx x.1.2.1.1 (subW .i64 (subW .i64 x.2.1 (1 : Int)) (lenI x2))) fun x7 => .bind (sl18Nums.F N (x7.1, ())) fun x8 => .ret x8)))))
def sPartOf.F (N : Nat) (x : sPartOf.P.D) : Option sPartOf.R.D := (sPartOf.T N x).run
abbrev iPutNum.P : Ty := (.pair (.int .i64) .unit)
abbrev iPutNum.R : Ty := .str
abbrev iPutNum.C0_0 : Ty := .unit
abbrev iPutNum.M0_0 : Ty := (.pair (.int .u64) (.pair T193 .unit))
abbrev iPutNum.O0_0 : Ty := (.pair (.int .u64) (.pair T193 .unit))
abbrev iPutNum.Q0_0 : Ty := .unit
def iPutNum.B0_0 (N : Nat) (c : iPutNum.C0_0.D) (m : iPutNum.M0_0.D) : Tr (Leaf iPutNum.M0_0.D iPutNum.O0_0.D iPutNum.Q0_0.D) := .ite (leI (128 : Int) m.1) (.ite (decide (List.length m.2.1 + List.length ([(orW .u8 (IntKind.wrap .u8 m.1) (128 : Int))] : List (Ty.D (.int .u8))) ≤ maxRow) && true) (.ite (ltI (7 : Int) 0) (.no) (.ret (.more ((shrZ .u64 m.1 (7 : Int)), (m.2.1 ++ ([(orW .u8 (IntKind.wrap .u8 m.1) (128 : Int))] : List (Ty.D (.int .u8)))), ())))) (.no)) (.ret (.out m))
def iPutNum.L0_0 (N : Nat) (c : iPutNum.C0_0.D) (m : iPutNum.M0_0.D) : Option (iPutNum.O0_0.D ⊕ iPutNum.Q0_0.D) := iterT (iPutNum.B0_0 N c) N m
def iPutNum.T (N : Nat) (x : iPutNum.P.D) : Tr iPutNum.R.D := .ite (ltI (1 : Int) 0) (.no) (.ite (ltI (63 : Int) 0) (.no) (.bind (iPutNum.L0_0 N () ((xorW .u64 (IntKind.wrap .u64 (shlW .i64 x.1 (1 : Int))) (IntKind.wrap .u64 (shrZ .i64 x.1 (63 : Int)))), ([] : List (Ty.D (.int .u8))), ())) fun p1 => .sum p1 (fun a2 => .ite (decide (List.length a2.2.1 + List.length ([(IntKind.wrap .u8 a2.1)] : List (Ty.D (.int .u8))) ≤ maxRow) && true) (.ret (List.map (fun n : Int => UInt8.ofNat n.toNat) (a2.2.1 ++ ([(IntKind.wrap .u8 a2.1)] : List (Ty.D (.int .u8)))))) (.no)) (fun b3 => .no)))
def iPutNum.F (N : Nat) (x : iPutNum.P.D) : Option iPutNum.R.D := (iPutNum.T N x).run
abbrev iputNums.P : Ty := (.pair T89 .unit)
abbrev iputNums.R : Ty := .str
abbrev iputNums.C0_0 : Ty := (.pair T89 (.pair (.int .i64) .unit))
abbrev iputNums.M0_0 : Ty := (.pair .str (.pair (.int .i64) .unit))
abbrev iputNums.O0_0 : Ty := (.pair .str .unit)
abbrev iputNums.Q0_0 : Ty := .unit
def iputNums.B0_0 (N : Nat) (c : iputNums.C0_0.D) (m : iputNums.M0_0.D) : Tr (Leaf iputNums.M0_0.D iputNums.O0_0.D iputNums.Q0_0.D) := .ite (ltI m.2.1 c.2.1) (.bind (idx c.1 m.2.1) fun x1 => .bind (iPutNum.F N (x1, ())) fun x2 => .ite (decide (List.length m.1 + List.length x2 ≤ maxStr)) (.ret (.more ((m.1 ++ x2), (addW .i64 m.2.1 (1 : Int)), ()))) (.no)) (.ret (.out (m.1, ())))
def iputNums.L0_0 (N : Nat) (c : iputNums.C0_0.D) (m : iputNums.M0_0.D) : Option (iputNums.O0_0.D ⊕ iputNums.Q0_0.D) := iterT (iputNums.B0_0 N c) N m
def iputNums.T (N : Nat) (x : iputNums.P.D) : Tr iputNums.R.D := .bind (iputNums.L0_0 N (x.1, (lenI x.1), ()) (([] : List UInt8), (0 : Int), ())) fun p1 => .sum p1 (fun a2 => .ret a2.1) (fun b3 => .no)
def iputNums.F (N : Nat) (x : iputNums.P.D) : Option iputNums.R.D := (iputNums.T N x).run
abbrev inodesPart.P : Ty := (.pair T57 .unit)
abbrev inodesPart.R : Ty := .str
abbrev inodesPart.C0_4 : Ty := (.pair T49 (.pair (.int .i64) (.pair (.int .i64) (.pair T122 (.pair (.int .i64) .unit)))))
abbrev inodesPart.M0_4 : Ty := (.pair .str (.pair (.int .i64) .unit))
abbrev inodesPart.O0_4 : Ty := (.pair .str .unit)
abbrev inodesPart.Q0_4 : Ty := .unit
def inodesPart.B0_4 (N : Nat) (c : inodesPart.C0_4.D) (m : inodesPart.M0_4.D) : Tr (Leaf inodesPart.M0_4.D inodesPart.O0_4.D inodesPart.Q0_4.D) := .ite (ltI m.2.1 c.2.2.2.2.1) (.bind (idx c.2.2.2.1 m.2.1) fun x1 => .bind (iputNums.F N (([x1.1, x1.2.1] : List (Ty.D (.int .i64))), ())) fun x2 => .ite (decide (List.length m.1 + List.length x2 ≤ maxStr)) (.ret (.more ((m.1 ++ x2), (addW .i64 m.2.1 (1 : Int)), ()))) (.no)) (.ret (.out (m.1, ())))
def inodesPart.L0_4 (N : Nat) (c : inodesPart.C0_4.D) (m : inodesPart.M0_4.D) : Option (inodesPart.O0_4.D ⊕ inodesPart.Q0_4.D) := iterT (inodesPart.B0_4 N c) N m
abbrev inodesPart.C0_0 : Ty := (.pair T49 (.pair (.int .i64) .unit))
abbrev inodesPart.M0_0 : Ty := (.pair .str (.pair (.int .i64) .unit))
abbrev inodesPart.O0_0 : Ty := (.pair .str .unit)
abbrev inodesPart.Q0_0 : Ty := .unit
def inodesPart.B0_0 (N : Nat) (c : inodesPart.C0_0.D) (m : inodesPart.M0_0.D) : Tr (Leaf inodesPart.M0_0.D inodesPart.O0_0.D inodesPart.Q0_0.D) := .ite (ltI m.2.1 c.2.1) (.bind (idx c.1 m.2.1) fun x1 => .bind (iputNums.F N (([x1.1, (lenI x1.2.1)] : List (Ty.D (.int .i64))), ())) fun x2 => .ite (decide (List.length m.1 + List.length x2 ≤ maxStr)) (.bind (inodesPart.L0_4 N (c.1, c.2.1, m.2.1, x1.2.1, (lenI x1.2.1), ()) ((m.1 ++ x2), (0 : Int), ())) fun p3 => .sum p3 (fun a4 => .ret (.more (a4.1, (addW .i64 m.2.1 (1 : Int)), ()))) (fun b5 => .no)) (.no)) (.ret (.out (m.1, ())))
def inodesPart.L0_0 (N : Nat) (c : inodesPart.C0_0.D) (m : inodesPart.M0_0.D) : Option (inodesPart.O0_0.D ⊕ inodesPart.Q0_0.D) := iterT (inodesPart.B0_0 N c) N m
def inodesPart.T (N : Nat) (x : inodesPart.P.D) : Tr inodesPart.R.D := .bind (iPutNum.F N x.1.1.2.2.2.2) fun x1 => .bind (inodesPart.L0_0 N (x.1.1.2.1, (lenI x.1.1.2.1), ()) (x1, (0 : Int), ())) fun p2 => .sum p2 (fun a3 => .ret a3.1) (fun b4 => .no)
def inodesPart.F (N : Nat) (x : inodesPart.P.D) : Option inodesPart.R.D := (inodesPart.T N x).run
abbrev iisLongText.P : Ty := (.pair .str .unit)
abbrev iisLongText.R : Ty := .bool
def iisLongText.T (N : Nat) (x : iisLongText.P.D) : Tr iisLongText.R.D := .ret (ltI (8000 : Int) (lenI x.1))
def iisLongText.F (N : Nat) (x : iisLongText.P.D) : Option iisLongText.R.D := (iisLongText.T N x).run
abbrev iPutText.P : Ty := (.pair .str .unit)
abbrev iPutText.R : Ty := .str
def iPutText.T (N : Nat) (x : iPutText.P.D) : Tr iPutText.R.D := .bind (iisLongText.F N x) fun x1 => .ite x1 (.ret ([] : List UInt8)) (.bind (iPutNum.F N ((lenI x.1), ())) fun x2 => .ite (decide (List.length x2 + List.length x.1 ≤ maxStr)) (.ret (x2 ++ x.1)) (.no))
def iPutText.F (N : Nat) (x : iPutText.P.D) : Option iPutText.R.D := (iPutText.T N x).run
abbrev iTaskBytes.P : Ty := (.pair T128 .unit)
abbrev iTaskBytes.R : Ty := .str
def iTaskBytes.T (N : Nat) (x : iTaskBytes.P.D) : Tr iTaskBytes.R.D := .bind (iTaskRight.F N x) fun x1 => .ite (!x1) (.ret ([] : List UInt8)) (.bind (iputNums.F N (([x.1.1.1, x.1.1.2.1, x.1.2.1] : List (Ty.D (.int .i64))), ())) fun x2 => .bind (iPutText.F N (x.1.2.2.1, ())) fun x3 => .ite (decide (List.length x2 + List.length x3 ≤ maxStr)) (.bind (iputNums.F N (([x.1.2.2.2.1, x.1.2.2.2.2.1, x.1.2.2.2.2.2.1, x.1.2.2.2.2.2.2.1.1, x.1.2.2.2.2.2.2.1.2.1, x.1.2.2.2.2.2.2.2.1, x.1.2.2.2.2.2.2.2.2.1, x.1.2.2.2.2.2.2.2.2.2.1, x.1.2.2.2.2.2.2.2.2.2.2.1, (lenI x.1.2.2.2.2.2.2.2.2.2.2.2.1)] : List (Ty.D (.int .i64))), ())) fun x4 => .ite (decide (List.length (x2 ++ x3) + List.length x4 ≤ maxStr)) (.bind (iputNums.F N x.1.2.2.2.2.2.2.2.2.2.2.2) fun x5 => .ite (decide (List.length ((x2 ++ x3) ++ x4) + List.length x5 ≤ maxStr)) (.ret (((x2 ++ x3) ++ x4) ++ x5)) (.no)) (.no)) (.no))
def iTaskBytes.F (N : Nat) (x : iTaskBytes.P.D) : Option iTaskBytes.R.D := (iTaskBytes.T N x).run
abbrev ilabelPart.P : Ty := (.pair T57 (.pair T86 .unit))
abbrev ilabelPart.R : Ty := .str
abbrev ilabelPart.C0_0 : Ty := (.pair .str (.pair (.int .i64) (.pair T50 (.pair (.int .i64) (.pair T44 (.pair T45 (.pair T46 (.pair (.int .i64) (.pair T49 (.pair T50 (.pair T51 (.pair (.int .i64) (.pair T54 T86)))))))))))))
abbrev ilabelPart.M0_0 : Ty := (.pair .str T86)
abbrev ilabelPart.O0_0 : Ty := (.pair .str (.pair (.int .i64) .unit))
abbrev ilabelPart.Q0_0 : Ty := .unit
def ilabelPart.B0_0 (N : Nat) (c : ilabelPart.C0_0.D) (m : ilabelPart.M0_0.D) : Tr (Leaf ilabelPart.M0_0.D ilabelPart.O0_0.D ilabelPart.Q0_0.D) := .ite (ltI m.2.2.1 c.2.2.2.1) (.bind (idx c.2.2.1 m.2.2.1) fun x1 => .ite (Ty.eqb T86 x1.1 c.2.2.2.2.2.2.2.2.2.2.2.2.2) (.bind (iTaskBytes.F N (x1, ())) fun x2 => .ite (decide (List.length m.1 + List.length x2 ≤ maxStr)) (.ret (.more ((m.1 ++ x2), (addW .i64 m.2.1 (1 : Int)), (addW .i64 m.2.2.1 (1 : Int)), ()))) (.no)) (.ret (.more (m.1, m.2.1, (addW .i64 m.2.2.1 (1 : Int)), ())))) (.ret (.out (m.1, m.2.1, ())))
def ilabelPart.L0_0 (N : Nat) (c : ilabelPart.C0_0.D) (m : ilabelPart.M0_0.D) : Option (ilabelPart.O0_0.D ⊕ ilabelPart.Q0_0.D) := iterT (ilabelPart.B0_0 N c) N m
abbrev ilabelPart.C0_4 : Ty := (.pair .str (.pair (.int .i64) (.pair T51 (.pair (.int .i64) (.pair T44 (.pair T45 (.pair T46 (.pair (.int .i64) (.pair T49 (.pair T50 (.pair T51 (.pair (.int .i64) (.pair T54 T86)))))))))))))
abbrev ilabelPart.M0_4 : Ty := (.pair .str T86)
abbrev ilabelPart.O0_4 : Ty := (.pair .str (.pair (.int .i64) .unit))
abbrev ilabelPart.Q0_4 : Ty := .unit
def ilabelPart.B0_4 (N : Nat) (c : ilabelPart.C0_4.D) (m : ilabelPart.M0_4.D) : Tr (Leaf ilabelPart.M0_4.D ilabelPart.O0_4.D ilabelPart.Q0_4.D) := .ite (ltI m.2.2.1 c.2.2.2.1) (.bind (idx c.2.2.1 m.2.2.1) fun x1 => .ite (Ty.eqb T86 x1.1 c.2.2.2.2.2.2.2.2.2.2.2.2.2) (.bind (iPutText.F N (x1.2.1, ())) fun x2 => .bind (iPutNum.F N x1.2.2) fun x3 => .ite (decide (List.length x2 + List.length x3 ≤ maxStr)) (.ite (decide (List.length m.1 + List.length (x2 ++ x3) ≤ maxStr)) (.ret (.more ((m.1 ++ (x2 ++ x3)), (addW .i64 m.2.1 (1 : Int)), (addW .i64 m.2.2.1 (1 : Int)), ()))) (.no)) (.no)) (.ret (.more (m.1, m.2.1, (addW .i64 m.2.2.1 (1 : Int)), ())))) (.ret (.out (m.1, m.2.1, ())))
def ilabelPart.L0_4 (N : Nat) (c : ilabelPart.C0_4.D) (m : ilabelPart.M0_4.D) : Option (ilabelPart.O0_4.D ⊕ ilabelPart.Q0_4.D) := iterT (ilabelPart.B0_4 N c) N m
abbrev ilabelPart.C0_12 : Ty := (.pair T45 (.pair (.int .i64) (.pair (.int .i64) (.pair T90 (.pair (.int .i64) (.pair T44 (.pair T45 (.pair T46 (.pair (.int .i64) (.pair T49 (.pair T50 (.pair T51 (.pair (.int .i64) (.pair T54 T86))))))))))))))
abbrev ilabelPart.M0_12 : Ty := (.pair .str (.pair (.int .i64) .unit))
abbrev ilabelPart.O0_12 : Ty := (.pair .str .unit)
abbrev ilabelPart.Q0_12 : Ty := .unit
def ilabelPart.B0_12 (N : Nat) (c : ilabelPart.C0_12.D) (m : ilabelPart.M0_12.D) : Tr (Leaf ilabelPart.M0_12.D ilabelPart.O0_12.D ilabelPart.Q0_12.D) := .ite (ltI m.2.1 c.2.2.2.2.1) (.bind (idx c.2.2.2.1 m.2.1) fun x1 => .bind (iputNums.F N (([x1.1, x1.2.1] : List (Ty.D (.int .i64))), ())) fun x2 => .ite (decide (List.length m.1 + List.length x2 ≤ maxStr)) (.ret (.more ((m.1 ++ x2), (addW .i64 m.2.1 (1 : Int)), ()))) (.no)) (.ret (.out (m.1, ())))
def ilabelPart.L0_12 (N : Nat) (c : ilabelPart.C0_12.D) (m : ilabelPart.M0_12.D) : Option (ilabelPart.O0_12.D ⊕ ilabelPart.Q0_12.D) := iterT (ilabelPart.B0_12 N c) N m
abbrev ilabelPart.C0_8 : Ty := (.pair T45 (.pair (.int .i64) (.pair T44 (.pair T45 (.pair T46 (.pair (.int .i64) (.pair T49 (.pair T50 (.pair T51 (.pair (.int .i64) (.pair T54 T86)))))))))))
abbrev ilabelPart.M0_8 : Ty := (.pair .str (.pair (.int .i64) .unit))
abbrev ilabelPart.O0_8 : Ty := (.pair .str .unit)
abbrev ilabelPart.Q0_8 : Ty := .unit
def ilabelPart.B0_8 (N : Nat) (c : ilabelPart.C0_8.D) (m : ilabelPart.M0_8.D) : Tr (Leaf ilabelPart.M0_8.D ilabelPart.O0_8.D ilabelPart.Q0_8.D) := .ite (ltI m.2.1 c.2.1) (.bind (idx c.1 m.2.1) fun x1 => .ite (Ty.eqb T86 x1.1 c.2.2.2.2.2.2.2.2.2.2.2) (.bind (idx c.2.2.2.2.2.2.2.2.2.2.1 m.2.1) fun x2 => .bind (iPutNum.F N ((lenI x2.2.2.1), ())) fun x3 => .ite (decide (List.length m.1 + List.length x3 ≤ maxStr)) (.bind (idx c.2.2.2.2.2.2.2.2.2.2.1 m.2.1) fun x4 => .bind (ilabelPart.L0_12 N (c.1, c.2.1, m.2.1, x4.2.2.1, (lenI x4.2.2.1), c.2.2) ((m.1 ++ x3), (0 : Int), ())) fun p5 => .sum p5 (fun a6 => .ret (.more (a6.1, (addW .i64 m.2.1 (1 : Int)), ()))) (fun b7 => .no)) (.no)) (.ret (.more (m.1, (addW .i64 m.2.1 (1 : Int)), ())))) (.ret (.out (m.1, ())))
def ilabelPart.L0_8 (N : Nat) (c : ilabelPart.C0_8.D) (m : ilabelPart.M0_8.D) : Option (ilabelPart.O0_8.D ⊕ ilabelPart.Q0_8.D) := iterT (ilabelPart.B0_8 N c) N m
abbrev ilabelPart.C0_16 : Ty := (.pair T45 (.pair (.int .i64) (.pair T44 (.pair T45 (.pair T46 (.pair (.int .i64) (.pair T49 (.pair T50 (.pair T51 (.pair (.int .i64) (.pair T54 T86)))))))))))
abbrev ilabelPart.M0_16 : Ty := (.pair .str (.pair (.int .i64) .unit))
abbrev ilabelPart.O0_16 : Ty := (.pair .str .unit)
abbrev ilabelPart.Q0_16 : Ty := .unit
def ilabelPart.B0_16 (N : Nat) (c : ilabelPart.C0_16.D) (m : ilabelPart.M0_16.D) : Tr (Leaf ilabelPart.M0_16.D ilabelPart.O0_16.D ilabelPart.Q0_16.D) := .ite (ltI m.2.1 c.2.1) (.bind (idx c.1 m.2.1) fun x1 => .ite (Ty.eqb T86 x1.2.1 c.2.2.2.2.2.2.2.2.2.2.2) (.bind (idx c.2.2.2.2.2.2.2.2.2.2.1 m.2.1) fun x2 => .bind (iPutNum.F N ((lenI x2.2.1), ())) fun x3 => .bind (idx c.2.2.2.2.2.2.2.2.2.2.1 m.2.1) fun x4 => .bind (iputNums.F N (x4.2.1, ())) fun x5 => .ite (decide (List.length x3 + List.length x5 ≤ maxStr)) (.ite (decide (List.length m.1 + List.length (x3 ++ x5) ≤ maxStr)) (.ret (.more ((m.1 ++ (x3 ++ x5)), (addW .i64 m.2.1 (1 : Int)), ()))) (.no)) (.no)) (.ret (.more (m.1, (addW .i64 m.2.1 (1 : Int)), ())))) (.ret (.out (m.1, ())))
def ilabelPart.L0_16 (N : Nat) (c : ilabelPart.C0_16.D) (m : ilabelPart.M0_16.D) : Option (ilabelPart.O0_16.D ⊕ ilabelPart.Q0_16.D) := iterT (ilabelPart.B0_16 N c) N m
def ilabelPart.T (N : Nat) (x : ilabelPart.P.D) : Tr ilabelPart.R.D := .bind (ilabelPart.L0_0 N (([] : List UInt8), (0 : Int), x.1.1.2.2.1, (lenI x.1.1.2.2.1), x.1.1.1.1, x.1.1.1.2.1, x.1.1.1.2.2.1, x.1.1.1.2.2.2.1, x.1.1.2.1, x.1.1.2.2.1, x.1.1.2.2.2.1, x.1.1.2.2.2.2.1, x.1.2.1.1, x.2.1) (([] : List UInt8), (0 : Int), (0 : Int), ())) fun p1 => .sum p1 (fun a2 => .bind (ilabelPart.L0_4 N (a2.1, a2.2.1, x.1.1.2.2.2.1, (lenI x.1.1.2.2.2.1), x.1.1.1.1, x.1.1.1.2.1, x.1.1.1.2.2.1, x.1.1.1.2.2.2.1, x.1.1.2.1, x.1.1.2.2.1, x.1.1.2.2.2.1, x.1.1.2.2.2.2.1, x.1.2.1.1, x.2.1) (([] : List UInt8), (0 : Int), (0 : Int), ())) fun p4 => .sum p4 (fun a5 => .bind (iPutNum.F N a2.2) fun x7 => .ite (decide (List.length x7 + List.length a2.1 ≤ maxStr)) (.bind (iPutNum.F N a5.2) fun x8 => .ite (decide (List.length (x7 ++ a2.1) + List.length x8 ≤ maxStr)) (.ite (decide (List.length ((x7 ++ a2.1) ++ x8) + List.length a5.1 ≤ maxStr)) (.bind (ilabelPart.L0_8 N (x.1.1.1.2.1, (lenI x.1.1.1.2.1), x.1.1.1.1, x.1.1.1.2.1, x.1.1.1.2.2.1, x.1.1.1.2.2.2.1, x.1.1.2.1, x.1.1.2.2.1, x.1.1.2.2.2.1, x.1.1.2.2.2.2.1, x.1.2.1.1, x.2.1) ((((x7 ++ a2.1) ++ x8) ++ a5.1), (0 : Int), ())) fun p9 => .sum p9 (fun a10 => .bind (ilabelPart.L0_16 N (x.1.1.1.2.1, (lenI x.1.1.1.2.1), x.1.1.1.1, x.1.1.1.2.1, x.1.1.1.2.2.1, x.1.1.1.2.2.2.1, x.1.1.2.1, x.1.1.2.2.1, x.1.1.2.2.2.1, x.1.1.2.2.2.2.1, x.1.2.1.1, x.2.1) (a10.1, (0 : Int), ())) fun p12 => .sum p12 (fun a13 => .ret a13.1) (fun b14 => .no)) (fun b11 => .no)) (.no)) (.no)) (.no)) (fun b6 => .no)) (fun b3 => .no)
def ilabelPart.F (N : Nat) (x : ilabelPart.P.D) : Option ilabelPart.R.D := (ilabelPart.T N x).run
abbrev ipartOf.P : Ty := (.pair T57 (.pair (.int .i64) .unit))
abbrev ipartOf.R : Ty := .str
def ipartOf.T (N : Nat) (x : ipartOf.P.D) : Tr ipartOf.R.D := .bind (iConfig_labels.F N (x.1.1.1, ())) fun x1 => .ite (eqI x.2.1 (0 : Int)) (.bind (inodesPart.F N (x.1, ())) fun x2 => .ret x2) (.ite (leI x.2.1 (lenI x1)) (.bind (idx x1 (subW .i64 x.2.1 (1 : Int))) fun x3 => .bind (ilabelPart.F N (x.1, x3, ())) fun x4 => .ret x4) (.bind (idx x.1.2.1.1 (subW .i64 (subW .i64 x.2.1 (1 : Int)) (lenI x1))) fun x5 => .bind (iPutNum.F N ((lenI x5.1), ())) fun x6 => .bind (iputNums.F N (x5.1, ())) fun x7 => .ite (decide (List.length x6 + List.length x7 ≤ maxStr)) (.ret (x6 ++ x7)) (.no)))
def ipartOf.F (N : Nat) (x : ipartOf.P.D) : Option ipartOf.R.D := (ipartOf.T N x).run
abbrev iPartOf.P : Ty := (.pair T57 (.pair (.int .i64) .unit))
abbrev iPartOf.R : Ty := .str
def iPartOf.T (N : Nat) (x : iPartOf.P.D) : Tr iPartOf.R.D := .bind (iStateRight.F N (x.1, ())) fun x1 => .ite (!x1) (.ret ([] : List UInt8)) (.bind (iregionsOf.F N (x.1.1.1, ())) fun x2 => .bind (iwithin.F N (x.2.1, (0 : Int), (subW .i64 x2 (1 : Int)), ())) fun x3 => .ite (!x3) (.ret ([] : List UInt8)) (.bind (ipartOf.F N x) fun x4 => .ret x4))
def iPartOf.F (N : Nat) (x : iPartOf.P.D) : Option iPartOf.R.D := (iPartOf.T N x).run
abbrev lFnExactPartOf.P : Ty := (.pair T35 (.pair (.int .i64) .unit))
abbrev lFnExactPartOf.R : Ty := .bool
def lFnExactPartOf.T (N : Nat) (x : lFnExactPartOf.P.D) : Tr lFnExactPartOf.R.D := .bind (lszState.F N (x.1, (1048576 : Int), ())) fun x1 => .ite (ltI x1 (0 : Int)) (.ret true) (.bind (ltoState.F N (x.1, ())) fun x2 => .bind (sPartOf.F N (x2, x.2)) fun x3 => .bind (ltoState.F N (x.1, ())) fun x4 => .bind (iPartOf.F N (x4, x.2)) fun x5 => .ite (!eqS x5 x3) (.ret false) (.bind (ltoState.F N (x.1, ())) fun x6 => .bind (leqState.F N (x4, x6, ())) fun x7 => .ite (!x7) (.ret false) (.ret true)))
def lFnExactPartOf.F (N : Nat) (x : lFnExactPartOf.P.D) : Option lFnExactPartOf.R.D := (lFnExactPartOf.T N x).run
end Go.Proofs.YtjnfmjeiceiciaaGreat
