/-
The plain law of FnExactHouseRight.
-/
import Derived.Test.YtjnfmjeiceiciaaGreatPureO
import Derived.Test.YtjnfmjeiceiciaaGreatPureU
import Derived.Test.YtjnfmjeiceiciaaGreatPureL
namespace Go.Proofs.YtjnfmjeiceiciaaGreat
open X Go
set_option linter.unusedVariables false
set_option linter.unusedSimpArgs false
set_option maxRecDepth 100000

theorem houB_of {a b c d e f g h i j k l m n : TypeId} {x : Hou} (hw : Ty.wt (.pair (tSta a b c d e f g h i j k l m) (.pair (.pair (.slice n (.pair .str (.pair .str (.pair .str .unit)))) (.pair tI .unit)) (.pair tI .unit))) x ≤ 1048576) : HouB x := by
  have h0 : Ty.wt (tSta a b c d e f g h i j k l m) x.1 + ((Ty.wt (.slice n (.pair .str (.pair .str (.pair .str .unit)))) x.2.1.1 + (0 + 0)) + (0 + 0)) ≤ 1048576 := hw
  have a1 : x.2.1.1.length ≤ Ty.wt (.slice n (.pair .str (.pair .str (.pair .str .unit)))) x.2.1.1 := wt_len (E := n) (e := .pair .str (.pair .str (.pair .str .unit))) x.2.1.1
  exact ⟨staB_of (by omega : Ty.wt (tSta a b c d e f g h i j k l m) x.1 ≤ 1048576), by omega⟩

theorem lFnExactHouseRight_F {N : Nat} (hN : 1048577 < N) (x : lFnExactHouseRight.P.D) (hx : Ok T40 x.1) : lFnExactHouseRight.F N x = some true := by
  obtain ⟨s, u⟩ := x
  dsimp only at hx
  obtain ⟨r, e, h⟩ := lszHouse_ok N hN s 1048576 hx (by decide) (by decide)
  unfold lFnExactHouseRight.F lFnExactHouseRight.T
  dsimp only
  rw [rBind, e, Option.bind_some, rIte]
  by_cases hr : r < 0
  · rw [if_pos (ltI_iff.2 hr)]; rfl
  · rw [if_neg (by rw [ltI_iff]; exact hr)]
    have hw : Ty.wt T40 s ≤ 1048576 := by
      have := h.resolve_left hr
      omega
    have hto : ltoHouse.F N (s, u) = some s := ltoHouse_ok N hN (s, u) hw
    have hb : HouB s := houB_of hw
    have h1 := sHouseRight_F hN (s, ()) hb
    have h2 := iHouseRight_F hN (s, ()) hb
    have heq : leqHouse.F N (s, s, ()) = some true := leqHouse_ok N hN (s, s, ()) hw rfl
    simp only [rBind, rIte, rRet, hto, Option.bind_some, h1, h2, heq, beq_self_eq_true, Bool.not_true, Bool.false_eq_true, if_false]
end Go.Proofs.YtjnfmjeiceiciaaGreat
