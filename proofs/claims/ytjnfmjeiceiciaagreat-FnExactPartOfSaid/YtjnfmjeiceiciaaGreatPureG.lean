/-
Nodes, names, tasks by themselves.
-/
import Derived.Test.YtjnfmjeiceiciaaGreatPureF
namespace Go.Proofs.YtjnfmjeiceiciaaGreat
open X Go
set_option linter.unusedVariables false
set_option linter.unusedSimpArgs false
set_option linter.unnecessarySimpa false
set_option maxRecDepth 100000

/-! ### Nodes -/

abbrev Nod := Int × List Spn × Unit
def nodeR (x : Nod) : Bool := win x.1 1 3 && (decide (x.2.1.length ≤ 4) && spansR x.2.1)
def nodsR (l : List Nod) : Bool := (decide (1 ≤ l.length) && decide (l.length ≤ 6)) && l.all nodeR
def NodB (l : List Nod) : Prop := l.length ≤ 1048576 ∧ ∀ x ∈ l, x.2.1.length ≤ 1048576

theorem iNodesRight_1_F {N : Nat} (hN : 1048577 < N) (x : iNodesRight_1.P.D) (hx : x.1.2.1.length ≤ 1048576) : iNodesRight_1.F N x = some (!nodeR x.1) := by
  unfold iNodesRight_1.F iNodesRight_1.T nodeR
  rw [rBind, iisNodeState_F, Option.bind_some, rIte, rIte, rBind, iSpansRight_F hN x.1.2 hx, Option.bind_some, show (4 : Int) = ((4 : Nat) : Int) from rfl, ltLenN]
  simp only [rRet, someIte]
  cases win x.1.1 1 3 <;> cases decide (x.1.2.1.length ≤ 4) <;> rfl
theorem slIndexFunc_iNodesRight_1_F {N : Nat} (hN : 1048577 < N) (x : slIndexFunc_iNodesRight_1.P.D) (hx : NodB x.1) : slIndexFunc_iNodesRight_1.F N x = some (idxOf (fun y => !nodeR y) x.1) :=
  indexFunc x.1 hN hx.1 (fun a => iNodesRight_1.F N (a, ())) _ (fun y hy => iNodesRight_1_F hN _ (hx.2 y hy))
theorem slContainsFunc_iNodesRight_1_F {N : Nat} (hN : 1048577 < N) (x : slContainsFunc_iNodesRight_1.P.D) (hx : NodB x.1) : slContainsFunc_iNodesRight_1.F N x = some (x.1.any fun y => !nodeR y) := contains_run (slIndexFunc_iNodesRight_1_F hN x hx)
theorem iNodesRight_F {N : Nat} (hN : 1048577 < N) (x : iNodesRight.P.D) (hx : NodB x.1) : iNodesRight.F N x = some (nodsR x.1) := by
  simp only [iNodesRight.F, iNodesRight.T, rBind, rIte, rRet, iwithin_F, slContainsFunc_iNodesRight_1_F hN x hx, Option.bind_some, someIte, iteNB, any_not, Bool.not_not]
  rw [show (1 : Int) = ((1 : Nat) : Int) from rfl, show (6 : Int) = ((6 : Nat) : Int) from rfl, winLen]
  rfl

theorem sNodesRight_F {N : Nat} (hN : 1048577 < N) (x : sNodesRight.P.D) (hx : NodB x.1) : sNodesRight.F N x = some (nodsR x.1) := by
  obtain ⟨l, u⟩ := x
  dsimp only at hx
  unfold sNodesRight.F sNodesRight.T
  rw [show (1 : Int) = ((1 : Nat) : Int) from rfl, show (6 : Int) = ((6 : Nat) : Int) from rfl, ltOne, ltLenN, rIte, rIte, all_run (q := allN l.length fun i => nodeR l[i]!)]
  · rw [all_get]
    simp only [rRet, someIte, nodsR]
    cases decide (1 ≤ l.length) <;> cases decide (l.length ≤ 6) <;> simp
  · refine iter_all (mk := fun i => ((i : Int), ())) (fun i _ hi _ => ?_) (fun _ => ?_) (by have := hx.1; omega) (Nat.zero_le _)
    · have hs := sSpansRight_F hN l[i]!.2 (hx.2 _ (mem_at hi))
      have hc : ltI (4 : Int) (lenI l[i]!.2.1) = !decide (l[i]!.2.1.length ≤ 4) := by rw [show (4 : Int) = ((4 : Nat) : Int) from rfl, ltLenN]
      simp only [sNodesRight.B0_0, rIte, rBind, rRet, ltLen hi, if_true, idxAt hi, Option.bind_some, sl10State_F, hs, hc, wInc (show i < 9223372036854775807 by have := hx.1; omega)]
      unfold nodeR
      cases win l[i]!.1 1 3 <;> cases decide (l[i]!.2.1.length ≤ 4) <;> cases spansR l[i]!.2.1 <;> rfl
    · simp only [sNodesRight.B0_0, rIte, rRet, ltEnd, Bool.false_eq_true, if_false]

/-! ### Names -/

def chLow (c : UInt8) : Bool := leI 97 ((UInt8.toNat c : Nat) : Int) && leI ((UInt8.toNat c : Nat) : Int) 122
def chName (c : UInt8) : Bool := chLow c || ((leI 48 ((UInt8.toNat c : Nat) : Int) && leI ((UInt8.toNat c : Nat) : Int) 57) || eqI ((UInt8.toNat c : Nat) : Int) 95)
def nameR (t : List UInt8) : Bool := decide (1 ≤ t.length) && (decide (t.length ≤ 20) && (chLow t[0]! && t.all chName))

theorem iNameRight_F {N : Nat} (hN : 1048577 < N) (x : iNameRight.P.D) : iNameRight.F N x = some (nameR x.1) := by
  obtain ⟨t, u⟩ := x
  unfold iNameRight.F iNameRight.T nameR
  dsimp only
  rw [show (1 : Int) = ((1 : Nat) : Int) from rfl, show (20 : Int) = ((20 : Nat) : Int) from rfl, ltOne, ltLenN, rIte, rIte]
  by_cases h1 : 1 ≤ t.length
  · by_cases h2 : t.length ≤ 20
    · rw [decide_eq_true h1, decide_eq_true h2, if_neg (by simp), if_neg (by simp), rBind, show (0 : Int) = ((0 : Nat) : Int) from rfl, idxAt (show 0 < t.length by omega), Option.bind_some, rIte, rBind, Option.bind_some, rIte, all_run (q := allN t.length fun i => chName t[i]!)]
      · rw [all_get, Bool.and_true, Bool.true_and, Bool.true_and]
        simp only [rRet, someIte]
        unfold chLow
        rw [← notLe, ← notLe]
        cases leI 97 ((UInt8.toNat t[0]! : Nat) : Int) <;> cases leI ((UInt8.toNat t[0]! : Nat) : Int) 122 <;> simp
      · refine iter_all (mk := fun i => ((i : Int), ())) (fun i _ hi _ => ?_) (fun _ => ?_) (by omega) (Nat.zero_le _)
        · simp only [iNameRight.B0_0, rIte, rBind, rRet, ltLen hi, if_true, idxAt hi, Option.bind_some, wInc (show i < 9223372036854775807 by omega)]
          unfold chName chLow
          cases leI 97 ((UInt8.toNat t[i]! : Nat) : Int) <;> cases leI ((UInt8.toNat t[i]! : Nat) : Int) 122 <;> cases leI 48 ((UInt8.toNat t[i]! : Nat) : Int) <;> cases leI ((UInt8.toNat t[i]! : Nat) : Int) 57 <;> cases eqI ((UInt8.toNat t[i]! : Nat) : Int) 95 <;> rfl
        · simp only [iNameRight.B0_0, rIte, rRet, ltEnd, Bool.false_eq_true, if_false]
    · simp [h1, h2, rRet]
  · simp [h1, rRet]

theorem sNameRight_F {N : Nat} (hN : 1048577 < N) (x : sNameRight.P.D) : sNameRight.F N x = some (nameR x.1) := by
  obtain ⟨t, u⟩ := x
  unfold sNameRight.F sNameRight.T nameR
  dsimp only
  rw [show (1 : Int) = ((1 : Nat) : Int) from rfl, show (20 : Int) = ((20 : Nat) : Int) from rfl, ltOne, ltLenN, rIte, rIte]
  by_cases h1 : 1 ≤ t.length
  · by_cases h2 : t.length ≤ 20
    · rw [decide_eq_true h1, decide_eq_true h2, if_neg (by simp), if_neg (by simp), all_run (q := allN t.length fun i => chLow t[i]! || (!decide (i = 0) && chName t[i]!))]
      · rw [Bool.and_true, Bool.true_and, Bool.true_and, ← all_get]
        congr 1
        rw [Bool.eq_iff_iff, Bool.and_eq_true, allN_true, allN_true]
        constructor
        · intro h
          refine ⟨by have := h 0 (by omega); simpa using this, fun i hi => ?_⟩
          have := h i hi
          rw [Bool.or_eq_true, Bool.and_eq_true] at this
          rcases this with h | h
          · unfold chName; rw [h]; rfl
          · exact h.2
        · rintro ⟨h3, h4⟩ i hi
          by_cases h0 : i = 0
          · subst h0; rw [h3]; rfl
          · rw [h4 i hi, decide_eq_false h0]; simp
      · refine iter_all (mk := fun i => ((i : Int), ())) (fun i _ hi _ => ?_) (fun _ => ?_) (by omega) (Nat.zero_le _)
        · have he : eqI (i : Int) 0 = decide (i = 0) := by rw [Bool.eq_iff_iff, eqI_iff, decide_eq_true_eq]; omega
          simp only [sNameRight.B0_0, rIte, rBind, rRet, ltLen hi, if_true, idxAt hi, Option.bind_some, wInc (show i < 9223372036854775807 by omega), he]
          unfold chName chLow
          cases leI 97 ((UInt8.toNat t[i]! : Nat) : Int) <;> cases leI ((UInt8.toNat t[i]! : Nat) : Int) 122 <;> cases decide (i = 0) <;> cases leI 48 ((UInt8.toNat t[i]! : Nat) : Int) <;> cases leI ((UInt8.toNat t[i]! : Nat) : Int) 57 <;> cases eqI ((UInt8.toNat t[i]! : Nat) : Int) 95 <;> rfl
        · simp only [sNameRight.B0_0, rIte, rRet, ltEnd, Bool.false_eq_true, if_false]
    · simp [h1, h2, rRet]
  · simp [h1, rRet]

/-! ### Node numbers -/

def noAt (l : List Int) (i : Nat) : Bool := win l[i]! 0 5 && (decide (i = 0) || ltI l[i - 1]! l[i]!)
def nosR (l : List Int) : Bool := allN l.length (noAt l)

theorem inodesRight_F {N : Nat} (hN : 1048577 < N) (x : inodesRight.P.D) (hx : x.1.length ≤ 1048576) : inodesRight.F N x = some (nosR x.1 && eqI (lenI x.1) x.2.1) := by
  obtain ⟨l, n, u⟩ := x
  dsimp only at hx
  unfold inodesRight.F inodesRight.T
  rw [all_run (q := nosR l)]
  refine iter_all (mk := fun i => ((i : Int), ())) (fun i _ hi _ => ?_) (fun _ => ?_) (by omega) (Nat.zero_le _)
  · simp only [inodesRight.B0_0, rIte, rBind, rRet, ltLen hi, if_true, idxAt hi, Option.bind_some, iwithin_F, wInc (show i < 9223372036854775807 by omega)]
    rw [prev_step hi hx (fun y => leI l[i]! y), nbIte]
    simp only [notLe]; rfl
  · simp only [inodesRight.B0_0, rIte, rRet, ltEnd, Bool.false_eq_true, if_false]

theorem sl04Nodes_F {N : Nat} (hN : 1048577 < N) (x : sl04Nodes.P.D) (hx : x.1.length ≤ 1048576) : sl04Nodes.F N x = some (nosR x.1) := by
  obtain ⟨l, u⟩ := x
  dsimp only at hx
  unfold sl04Nodes.F sl04Nodes.T
  rw [all_run (q := nosR l), Bool.and_true]
  refine iter_all (mk := fun i => ((i : Int), ())) (fun i _ hi _ => ?_) (fun _ => ?_) (by omega) (Nat.zero_le _)
  · simp only [sl04Nodes.B0_0, rIte, rBind, rRet, ltLen hi, if_true, idxAt hi, Option.bind_some, sl02Is_F, wInc (show i < 9223372036854775807 by omega)]
    rw [prev_step hi hx (fun y => leI l[i]! y), nbIte]
    simp only [notLe]; rfl
  · simp only [sl04Nodes.B0_0, rIte, rRet, ltEnd, Bool.false_eq_true, if_false]

/-! ### A task -/

abbrev Tsk := Lab × Int × List UInt8 × Int × Int × Int × Lab × Int × Int × Int × Int × List Int × Unit
abbrev tUnder (t : Tsk) : Lab := t.2.2.2.2.2.2.1
abbrev tAfter (t : Tsk) : Int := t.2.2.2.2.2.2.2.1
abbrev tBorn (t : Tsk) : Int := t.2.2.2.2.2.2.2.2.1
abbrev tState (t : Tsk) : Int := t.2.2.2.2.2.2.2.2.2.1
abbrev tStart (t : Tsk) : Int := t.2.2.2.2.2.2.2.2.2.2.1
abbrev tNodes (t : Tsk) : List Int := t.2.2.2.2.2.2.2.2.2.2.2.1

def workR (a b c : Int) : Bool := win a 1 6 && (win b 1 20 && win c 0 9)
theorem iisWork_F (N : Nat) (x : iisWork.P.D) : iisWork.F N x = some (workR x.1 x.2.1 x.2.2.1) := by
  simp only [iisWork.F, iisWork.T, rBind, rIte, rRet, iwithin_F, Option.bind_some, someIte, iteB, workR]

def hasPl (t : Tsk) : Bool := ltI 0 (lenI (tNodes t))
theorem iTask_hasPlace_F (N : Nat) (x : iTask_hasPlace.P.D) : iTask_hasPlace.F N x = some (hasPl x.1) := rfl
theorem hasPl_not (t : Tsk) : (!hasPl t) = eqI (lenI (tNodes t)) 0 := by
  unfold hasPl
  rw [notLt, Bool.eq_iff_iff, leI_iff, eqI_iff]
  unfold lenI
  omega

/-- What a task depends on may be. -/
def depR (t : Tsk) : Bool := (eqI (tAfter t) 0 && labEq (tUnder t) (0, 0, ())) || (win (tAfter t) 1 12 && ((labR (tUnder t) && (labR t.1 && belI (tUnder t) t.1)) && !(labEq (tUnder t) t.1 && leI t.2.1 (tAfter t))))
def placeR (t : Tsk) : Bool := if (eqI (tState t) 2 || (eqI (tState t) 1 && hasPl t)) = true then win (tStart t) 0 1000000 && (eqI (lenI (tNodes t)) t.2.2.2.1 && nosR (tNodes t)) else eqI (tStart t) 0 && !hasPl t
def taskR (t : Tsk) : Bool := labR t.1 && (win t.2.1 1 12 && (nameR t.2.2.1 && (workR t.2.2.2.1 t.2.2.2.2.1 t.2.2.2.2.2.1 && (win (tBorn t) 0 999900 && (win (tState t) 1 6 && (depR t && placeR t))))))

theorem win_zero {n a b : Int} (h : eqI n 0 = true) (ha : 0 < a) : win n a b = false := by
  rw [eqI_iff] at h
  subst h
  unfold win
  rw [leI_false ha]; rfl

theorem iTaskRight_F {N : Nat} (hN : 1048577 < N) (x : iTaskRight.P.D) (hx : (tNodes x.1).length ≤ 1048576) : iTaskRight.F N x = some (taskR x.1) := by
  obtain ⟨t, u⟩ := x
  dsimp only at hx
  have hn := inodesRight_F hN (tNodes t, t.2.2.2.1, ()) hx
  simp only [iTaskRight.F, iTaskRight.T, rBind, rIte, rRet, iLabelRight_F, iwithin_F, iNameRight_F hN, iisWork_F, iisNow_F, iBelow_F, iisTime_F, iTask_hasPlace_F, hn, Option.bind_some, someIte, iteB, iteNB, iteN, eqbLab]
  congr 1
  unfold taskR depR placeR
  have e := hasPl_not t
  have comm : (nosR (tNodes t) && eqI (lenI (tNodes t)) t.2.2.2.1) = (eqI (lenI (tNodes t)) t.2.2.2.1 && nosR (tNodes t)) := Bool.and_comm _ _
  rw [comm]
  generalize (eqI (lenI (tNodes t)) t.2.2.2.1 && nosR (tNodes t)) = nr
  generalize hasPl t = hp
  cases ha : eqI (tAfter t) 0 with
  | true =>
    rw [win_zero ha (by decide)]
    cases labEq (tUnder t) (0, 0, ()) <;> cases eqI (tState t) 2 <;> cases eqI (tState t) 1 <;> cases hp <;> simp
  | false =>
    cases win (tAfter t) 1 12 <;> cases (labR (tUnder t) && (labR t.1 && belI (tUnder t) t.1)) <;> cases labEq (tUnder t) t.1 <;> cases leI t.2.1 (tAfter t) <;> cases eqI (tState t) 2 <;> cases eqI (tState t) 1 <;> cases hp <;> simp

end Go.Proofs.YtjnfmjeiceiciaaGreat
