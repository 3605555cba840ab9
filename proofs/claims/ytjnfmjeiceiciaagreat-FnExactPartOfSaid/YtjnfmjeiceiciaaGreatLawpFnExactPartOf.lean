/-
The plain law of FnExactPartOf.
-/
import Derived.Test.YtjnfmjeiceiciaaGreatPureW
import Derived.Test.YtjnfmjeiceiciaaGreatPureL
namespace Go.Proofs.YtjnfmjeiceiciaaGreat
open X Go
set_option linter.unusedVariables false
set_option linter.unusedSimpArgs false
set_option maxRecDepth 100000

theorem partOf_both {N : Nat} (hN : 1048577 < N) {a b c d e f g h i j k l m : TypeId} (s : Sta) (r : Int) (hw : Ty.wt (tSta a b c d e f g h i j k l m) s ≤ 1048576) (hok : Ok (tSta a b c d e f g h i j k l m) s) :
    iPartOf.F N (s, r, ()) = some (answerT s r) ∧ sPartOf.F N (s, r, ()) = some (answerT s r) :=
  have hB := staB_of hw
  have hP := staP_of hw hok
  ⟨iPartOf_F hN s r hB hP hok.1.2.1 hok.1.2.2.2.2.1, sPartOf_F hN s r hB hP hok.1.2.1 hok.1.2.2.2.2.1⟩

theorem lFnExactPartOf_F {N : Nat} (hN : 1048577 < N) (x : lFnExactPartOf.P.D) (hx : Ok T35 x.1) : lFnExactPartOf.F N x = some true := by
  obtain ⟨s, r, u⟩ := x
  dsimp only at hx
  obtain ⟨v, e, h⟩ := lszState_ok N hN s 1048576 hx (by decide) (by decide)
  unfold lFnExactPartOf.F lFnExactPartOf.T
  dsimp only
  rw [rBind, e, Option.bind_some, rIte]
  by_cases hr : v < 0
  · rw [if_pos (ltI_iff.2 hr)]; rfl
  · rw [if_neg (by rw [ltI_iff]; exact hr)]
    have hw : Ty.wt T35 s ≤ 1048576 := by
      have := h.resolve_left hr
      omega
    have hto : ltoState.F N (s, ()) = some s := ltoState_ok N hN (s, ()) hw
    obtain ⟨h1, h2⟩ := partOf_both hN s r hw hx
    have heq : leqState.F N (s, s, ()) = some true := leqState_ok N hN (s, s, ()) hw rfl
    simp only [rBind, rIte, rRet, hto, Option.bind_some, h1, h2, heq, eqS_refl, Bool.not_true, Bool.false_eq_true, if_false]
end Go.Proofs.YtjnfmjeiceiciaaGreat
