/-
Disks, regions, houses.
-/
import Derived.Test.YtjnfmjeiceiciaaGreatPureM
namespace Go.Proofs.YtjnfmjeiceiciaaGreat
open X Go
set_option linter.unusedVariables false
set_option linter.unusedSimpArgs false
set_option linter.unnecessarySimpa false
set_option maxRecDepth 100000

abbrev Rgn := List UInt8 × List UInt8 × List UInt8 × Unit
abbrev Dsk := List Rgn × Int × Unit
abbrev Hou := Sta × Dsk × Int × Unit

def longR (r : Rgn) : Bool := ltI 3000 (lenI r.1) || (ltI 3000 (lenI r.2.1) || ltI 3000 (lenI r.2.2.1))
def diskR (d : Dsk) : Bool := win (lenI d.1) 1 13 && (win d.2.1 (-1) 1000000 && !d.1.any longR)
def regs (c : Cfg) : Int := addW .i64 (addW .i64 1 (lenI (labsOf c.1))) (lenI c.2.1)
def houseR (h : Hou) : Bool := stateR h.1 && (diskR h.2.1 && (eqI (lenI h.2.1.1) (regs h.1.1.1) && (eqI h.2.1.2.1 (-1) && win h.2.2.1 0 1000000)))

theorem iDiskRight_1_F (N : Nat) (x : iDiskRight_1.P.D) : iDiskRight_1.F N x = some (longR x.1) := by
  simp only [iDiskRight_1.F, iDiskRight_1.T, rIte, rRet, someIte]
  unfold longR
  cases ltI 3000 (lenI x.1.1) <;> cases ltI 3000 (lenI x.1.2.1) <;> rfl
theorem slIndexFunc_iDiskRight_1_F {N : Nat} (hN : 1048577 < N) (x : slIndexFunc_iDiskRight_1.P.D) (hl : x.1.length ≤ 1048576) : slIndexFunc_iDiskRight_1.F N x = some (idxOf longR x.1) :=
  indexFunc x.1 hN hl (fun a => iDiskRight_1.F N (a, ())) _ (fun y _ => iDiskRight_1_F N (y, ()))
theorem slContainsFunc_iDiskRight_1_F {N : Nat} (hN : 1048577 < N) (x : slContainsFunc_iDiskRight_1.P.D) (hl : x.1.length ≤ 1048576) : slContainsFunc_iDiskRight_1.F N x = some (x.1.any longR) := contains_run (slIndexFunc_iDiskRight_1_F hN x hl)

theorem iDiskRight_F {N : Nat} (hN : 1048577 < N) (x : iDiskRight.P.D) (hl : x.1.1.length ≤ 1048576) : iDiskRight.F N x = some (diskR x.1) := by
  have h1 := slContainsFunc_iDiskRight_1_F hN (x.1.1, ()) hl
  simp only [iDiskRight.F, iDiskRight.T, rIte, rBind, rRet, iwithin_F, h1, Option.bind_some, someIte, iteNB]
  rfl

theorem sDiskRight_F {N : Nat} (hN : 1048577 < N) (x : sDiskRight.P.D) (hl : x.1.1.length ≤ 1048576) : sDiskRight.F N x = some (diskR x.1) := by
  obtain ⟨d, u⟩ := x
  dsimp only at hl
  have key : sDiskRight.L0_0 N d ((0 : Int), ()) = some (if (allN d.1.length fun i => !longR d.1[i]!) = true then .inl () else .inr (false, ())) := by
    refine iter_all (mk := fun i => ((i : Int), ())) (fun i _ hi _ => ?_) (fun _ => ?_) (by omega) (Nat.zero_le _)
    · simp only [sDiskRight.B0_0, rIte, rBind, rRet, ltLen hi, if_true, idxAt hi, Option.bind_some, wInc (show i < 9223372036854775807 by omega)]
      unfold longR
      cases ltI 3000 (lenI d.1[i]!.1) <;> cases ltI 3000 (lenI d.1[i]!.2.1) <;> cases ltI 3000 (lenI d.1[i]!.2.2.1) <;> rfl
    · simp only [sDiskRight.B0_0, rIte, rRet, ltEnd, Bool.false_eq_true, if_false]
  rw [all_get d.1 (fun r => !longR r), ← List.not_any_eq_all_not] at key
  simp only [sDiskRight.F, sDiskRight.T, rIte, rBind, rRet, sl02Is_F, key, Option.bind_some, rSumIte, someIte, iteN, iteNB, iteB]
  unfold diskR win
  rw [notLt, notLt]
  cases leI 1 (lenI d.1) <;> cases leI (lenI d.1) 13 <;> simp

theorem iregionsOf_F {N : Nat} (hN : 1048577 < N) (x : iregionsOf.P.D) (h : clearR x.1.1 = true) : iregionsOf.F N x = some (regs x.1) := by
  have h1 := iConfig_labels_F hN x h
  simp only [iregionsOf.F, iregionsOf.T, rBind, rRet, h1, Option.bind_some]
  rfl
theorem sl18Regions_F {N : Nat} (hN : 1048577 < N) (x : sl18Regions.P.D) (h : Bnd x.1.1) : sl18Regions.F N x = some (regs x.1) := by
  have h1 := sl09Labels_F hN (x.1.1, ()) h
  simp only [sl18Regions.F, sl18Regions.T, rBind, rRet, h1, Option.bind_some]
  rfl

theorem stateR_clear {s : Sta} (h : stateR s = true) : clearR s.1.1.1 = true := by
  unfold stateR yardR at h
  simp only [Bool.and_eq_true] at h
  exact configR_clear h.1.1

def HouB (h : Hou) : Prop := StaB h.1 ∧ h.2.1.1.length ≤ 1048576

theorem iHouseRight_F {N : Nat} (hN : 1048577 < N) (x : iHouseRight.P.D) (hx : HouB x.1) : iHouseRight.F N x = some (houseR x.1) := by
  obtain ⟨h, u⟩ := x
  dsimp only at hx
  have h1 := iStateRight_F hN (h.1, ()) hx.1
  have h2 := iDiskRight_F hN (h.2.1, ()) hx.2
  have h4 := iisTime_F N h.2.2
  unfold iHouseRight.F iHouseRight.T houseR
  dsimp only
  rw [rBind, h1, Option.bind_some, rIte]
  cases hs : stateR h.1 with
  | false => rfl
  | true =>
    have h3 := iregionsOf_F hN (h.1.1.1, ()) (stateR_clear hs)
    simp only [rIte, rBind, rRet, h2, h3, h4, Option.bind_some, someIte, iteB, if_true, Bool.true_and]

theorem sHouseRight_F {N : Nat} (hN : 1048577 < N) (x : sHouseRight.P.D) (hx : HouB x.1) : sHouseRight.F N x = some (houseR x.1) := by
  obtain ⟨h, u⟩ := x
  dsimp only at hx
  have h1 := sStateRight_F hN (h.1, ()) hx.1
  have h2 := sDiskRight_F hN (h.2.1, ()) hx.2
  have h4 := sl02Time_F N h.2.2
  have h3 := sl18Regions_F hN (h.1.1.1, ()) hx.1.1.1.1
  simp only [sHouseRight.F, sHouseRight.T, rIte, rBind, rRet, h1, h2, h3, h4, Option.bind_some, someIte, iteB]
  rfl
end Go.Proofs.YtjnfmjeiceiciaaGreat
