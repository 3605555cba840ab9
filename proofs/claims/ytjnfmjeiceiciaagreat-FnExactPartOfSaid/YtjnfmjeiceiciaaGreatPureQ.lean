/-
What the comparing functions tell.
-/
import Derived.Test.YtjnfmjeiceiciaaGreatPureA
import Derived.Test.YtjnfmjeiceiciaaGreatFun0
namespace Go.Proofs.YtjnfmjeiceiciaaGreat
open X Go
set_option linter.unusedVariables false
set_option linter.unusedSimpArgs false

theorem someIte {α : Type} (c : Prop) [Decidable c] (a b : α) : (if c then some a else some b) = some (if c then a else b) := by split <;> rfl

theorem cmpCompare_int64_F (N : Nat) (x : cmpCompare_int64.P.D) : cmpCompare_int64.F N x = some (cmpZ x.1 x.2.1) := by
  simp only [cmpCompare_int64.F, cmpCompare_int64.T, cmpisNaN_int64.F, cmpisNaN_int64.T, rBind, rIte, rRet, Option.bind_some, eqI_refl, Bool.not_true, Bool.false_eq_true, if_false, someIte, ltI_iff]
  rfl

theorem cmpOr_int_two {N : Nat} (hN : 3 ≤ N) (a b : Int) : cmpOr_int.F N ([a, b], ()) = some (cmpOr a b) := by
  obtain ⟨k, rfl⟩ : ∃ k, N = k + 3 := ⟨N - 3, by omega⟩
  have h0 : ltI (0 : Int) (lenI ([a, b] : List Int)) = true := rfl
  have h1 : ltI (1 : Int) (lenI ([a, b] : List Int)) = true := rfl
  have h2 : ltI (2 : Int) (lenI ([a, b] : List Int)) = false := rfl
  have w1 : addW .i64 (0 : Int) (1 : Int) = 1 := by decide
  have w2 : addW .i64 (1 : Int) (1 : Int) = 2 := by decide
  have i0 : idx ([a, b] : List Int) 0 = some a := rfl
  have i1 : idx ([a, b] : List Int) 1 = some b := rfl
  unfold cmpOr_int.F cmpOr_int.T cmpOr_int.L0_0
  rw [rBind, iterT_succ]
  simp only [cmpOr_int.B0_0, rIte, rBind, rRet, h0, if_true, i0, Option.bind_some]
  unfold cmpOr
  by_cases ha : a = 0
  · subst ha
    simp only [eqI_refl, Bool.not_true, Bool.false_eq_true, if_false, w1, if_true]
    rw [iterT_succ]
    simp only [cmpOr_int.B0_0, rIte, rBind, rRet, h1, if_true, i1, Option.bind_some]
    by_cases hb : b = 0
    · subst hb
      simp only [eqI_refl, Bool.not_true, Bool.false_eq_true, if_false, w2]
      rw [iterT_succ]
      simp only [cmpOr_int.B0_0, rIte, rRet, h2, Bool.false_eq_true, if_false, Option.bind_some, rInl]
    · simp only [eqI_false hb, Bool.not_false, if_true, Option.bind_some, rInr, rRet]
  · simp only [eqI_false ha, Bool.not_false, if_true, Option.bind_some, rInr, rRet, if_neg ha]

theorem icompareLabels_F {N : Nat} (hN : 3 ≤ N) (x : icompareLabels.P.D) : icompareLabels.F N x = some (cmpLab x.1 x.2.1) := by
  simp only [icompareLabels.F, icompareLabels.T, rBind, rRet, cmpCompare_int64_F, cmpOr_int_two hN, Option.bind_some]
  rfl

end Go.Proofs.YtjnfmjeiceiciaaGreat
