/-
Labels, spans, names, nodes: what the program's and the reference's small functions tell.
-/
import Derived.Test.YtjnfmjeiceiciaaGreatPureS
import Derived.Test.YtjnfmjeiceiciaaGreatPureQ
namespace Go.Proofs.YtjnfmjeiceiciaaGreat
open X Go
set_option linter.unusedVariables false
set_option linter.unusedSimpArgs false
set_option linter.unnecessarySimpa false
set_option maxRecDepth 100000

theorem iteB (c a : Bool) : (if c = true then a else false) = (c && a) := by cases c <;> rfl
theorem iteNB (c a : Bool) : (if (!c) = true then false else a) = (c && a) := by cases c <;> rfl
theorem iteN (c : Bool) (a : Bool) : (if c = true then false else a) = (!c && a) := by cases c <;> rfl
theorem iteO (c : Bool) (a : Bool) : (if c = true then true else a) = (c || a) := by cases c <;> rfl

/-- A loop that checks all, behind which a test stands. -/
theorem all_run {L : Option (Unit ⊕ (Bool × Unit))} {A : Bool} {q : Bool} (h : L = some (if q = true then .inl () else .inr (false, ()))) :
    (Tr.bind L fun p1 => .sum p1 (fun a2 => .ret A) (fun b3 => .ret b3.1)).run = some (q && A) := by
  rw [h, rBind]
  cases q <;> rfl

def win (n lo hi : Int) : Bool := leI lo n && leI n hi
theorem win_iff {n lo hi : Int} : win n lo hi = true ↔ lo ≤ n ∧ n ≤ hi := by simp [win, leI_iff]

theorem iwithin_F (N : Nat) (x : iwithin.P.D) : iwithin.F N x = some (win x.1 x.2.1 x.2.2.1) := by
  simp only [iwithin.F, iwithin.T, rIte, rRet, someIte, iteB, win]
theorem sl02Is_F (N : Nat) (x : sl02Is.P.D) : sl02Is.F N x = some (win x.1 x.2.1 x.2.2.1) := by
  simp only [sl02Is.F, sl02Is.T, rIte, rRet, someIte, iteB, win]
theorem sl03Now_F (N : Nat) (x : sl03Now.P.D) : sl03Now.F N x = some (win x.1 0 999900) := by
  simp only [sl03Now.F, sl03Now.T, rBind, rRet, sl02Is_F, Option.bind_some]
theorem sl02Time_F (N : Nat) (x : sl02Time.P.D) : sl02Time.F N x = some (win x.1 0 1000000) := by
  simp only [sl02Time.F, sl02Time.T, rBind, rRet, sl02Is_F, Option.bind_some]
theorem sl10State_F (N : Nat) (x : sl10State.P.D) : sl10State.F N x = some (win x.1 1 3) := by
  simp only [sl10State.F, sl10State.T, rBind, rRet, sl02Is_F, Option.bind_some]
theorem iisNow_F (N : Nat) (x : iisNow.P.D) : iisNow.F N x = some (win x.1 0 999900) := by
  simp only [iisNow.F, iisNow.T, rBind, rRet, iwithin_F, Option.bind_some]
theorem iisTime_F (N : Nat) (x : iisTime.P.D) : iisTime.F N x = some (win x.1 0 1000000) := by
  simp only [iisTime.F, iisTime.T, rBind, rRet, iwithin_F, Option.bind_some]
theorem iisNodeState_F (N : Nat) (x : iisNodeState.P.D) : iisNodeState.F N x = some (win x.1 1 3) := by
  simp only [iisNodeState.F, iisNodeState.T, rBind, rRet, iwithin_F, Option.bind_some]

abbrev Lab := Int × Int × Unit
def labR (a : Lab) : Bool := win a.1 0 3 && win a.2.1 0 7
theorem iLabelRight_F (N : Nat) (x : iLabelRight.P.D) : iLabelRight.F N x = some (labR x.1) := by
  simp only [iLabelRight.F, iLabelRight.T, rBind, rIte, rRet, iwithin_F, Option.bind_some, someIte, iteB, labR]
theorem sLabelRight_F (N : Nat) (x : sLabelRight.P.D) : sLabelRight.F N x = some (labR x.1) := by
  simp only [sLabelRight.F, sLabelRight.T, rBind, rIte, rRet, sl02Is_F, Option.bind_some, someIte, iteB, labR]

/-- Is dominated, by the bits. -/
def belI (a b : Lab) : Bool := leI a.1 b.1 && eqI (andNotW .i64 a.2.1 b.2.1) 0
def belS (a b : Lab) : Bool := leI a.1 b.1 && eqI (andW .i64 a.2.1 b.2.1) a.2.1
theorem ibelow_F (N : Nat) (x : ibelow.P.D) : ibelow.F N x = some (belI x.1 x.2.1) := by
  simp only [ibelow.F, ibelow.T, rIte, rRet, someIte, iteB, belI]
theorem sl02Below_F (N : Nat) (x : sl02Below.P.D) : sl02Below.F N x = some (belS x.1 x.2.1) := by
  simp only [sl02Below.F, sl02Below.T, rIte, rRet, someIte, iteB, belS]

theorem bits_eq {s s' : Int} (h1 : 0 ≤ s) (h2 : s ≤ 7) (h3 : 0 ≤ s') (h4 : s' ≤ 7) : eqI (andW .i64 s s') s = eqI (andNotW .i64 s s') 0 := by
  have hs : s = 0 ∨ s = 1 ∨ s = 2 ∨ s = 3 ∨ s = 4 ∨ s = 5 ∨ s = 6 ∨ s = 7 := by omega
  have hs' : s' = 0 ∨ s' = 1 ∨ s' = 2 ∨ s' = 3 ∨ s' = 4 ∨ s' = 5 ∨ s' = 6 ∨ s' = 7 := by omega
  clear h1 h2 h3 h4
  rcases hs with rfl | rfl | rfl | rfl | rfl | rfl | rfl | rfl <;> rcases hs' with rfl | rfl | rfl | rfl | rfl | rfl | rfl | rfl <;> decide

/-- Of right labels both tell the same. -/
theorem bel_eq {a b : Lab} (ha : labR a = true) (hb : labR b = true) : belS a b = belI a b := by
  simp only [labR, Bool.and_eq_true, win_iff] at ha hb
  unfold belS belI
  rw [bits_eq ha.2.1 ha.2.2 hb.2.1 hb.2.2]

theorem iBelow_F (N : Nat) (x : iBelow.P.D) : iBelow.F N x = some (labR x.1 && (labR x.2.1 && belI x.1 x.2.1)) := by
  simp only [iBelow.F, iBelow.T, rBind, rIte, rRet, iLabelRight_F, ibelow_F, Option.bind_some, someIte, iteB]
theorem sBelow_F (N : Nat) (x : sBelow.P.D) : sBelow.F N x = some (labR x.1 && (labR x.2.1 && belI x.1 x.2.1)) := by
  simp only [sBelow.F, sBelow.T, rBind, rIte, rRet, sLabelRight_F, sl02Below_F, Option.bind_some, someIte, iteB]
  cases h1 : labR x.1 <;> cases h2 : labR x.2.1 <;> simp
  exact bel_eq h1 h2

/-! ### Spans -/

abbrev Spn := Int × Int × Unit
def spanR (x : Spn) : Bool := win x.1 0 1000000 && (win x.2.1 0 1000000 && ltI x.1 x.2.1)
theorem ispanRight_F (N : Nat) (x : ispanRight.P.D) : ispanRight.F N x = some (spanR x.1) := by
  simp only [ispanRight.F, ispanRight.T, rBind, rIte, rRet, iisTime_F, Option.bind_some, someIte, iteB, spanR]
theorem sl03Span_F (N : Nat) (x : sl03Span.P.D) : sl03Span.F N x = some (spanR x.1) := by
  simp only [sl03Span.F, sl03Span.T, rBind, rIte, rRet, sl02Time_F, Option.bind_some, someIte, iteB, spanR]
  congr 1
  rw [Bool.eq_iff_iff]
  simp only [Bool.and_eq_true, win_iff, ltI_iff, leI_iff]
  omega

def spansAt (l : List Spn) (i : Nat) : Bool := spanR l[i]! && (decide (i = 0) || leI l[i - 1]!.2.1 l[i]!.1)
def spansR (l : List Spn) : Bool := allN l.length (spansAt l) && decide (l.length ≤ 20)

/-- A test of the element before, where there is one. -/
theorem prev_step {α β : Type} [Inhabited α] {l : List α} {i : Nat} (hi : i < l.length) (hl : l.length ≤ 1048576) (bad : α → Bool) (a b : β) :
    (if ltI 0 (i : Int) = true then (idx l (subW .i64 (i : Int) 1)).bind (fun y => if bad y = true then some a else some b) else some b) = some (if (decide (i = 0) || !bad l[i - 1]!) = true then b else a) := by
  rcases Nat.eq_zero_or_pos i with h0 | h0
  · subst h0
    rw [if_neg (by rw [ltI_iff]; simp)]
    simp
  · rw [if_pos (ltI_true (by omega)), idxPrev h0 (by omega) (by omega)]
    simp only [Option.bind_some, someIte, show decide (i = 0) = false by simp; omega, Bool.false_or]
    cases bad l[i - 1]! <;> rfl

theorem notLt (a b : Int) : (!ltI a b) = leI b a := by
  rw [Bool.eq_iff_iff, leI_iff]
  simp [ltI]
theorem notLe (a b : Int) : (!leI a b) = ltI b a := by
  rw [Bool.eq_iff_iff, ltI_iff]
  simp [leI]

theorem nbIte {α : Type} (c d : Bool) (a b : α) : (if (!c) = true then some a else some (if d = true then b else a)) = some (if (c && d) = true then b else a) := by cases c <;> cases d <;> rfl
theorem nbIte1 {α : Type} (c : Bool) (a b : α) : (if (!c) = true then some a else some b) = some (if c = true then b else a) := by cases c <;> rfl
theorem bIte {α : Type} (c d : Bool) (a b : α) : (if c = true then some a else some (if d = true then b else a)) = some (if (!c && d) = true then b else a) := by cases c <;> cases d <;> rfl
theorem bIte1 {α : Type} (c : Bool) (a b : α) : (if c = true then some a else some b) = some (if (!c) = true then b else a) := by cases c <;> rfl
theorem lenLe {α : Type} (l : List α) (n : Nat) : leI (lenI l) (n : Int) = decide (l.length ≤ n) := by
  rw [Bool.eq_iff_iff, leI_iff]
  simp [lenI]

theorem iSpansRight_F {N : Nat} (hN : 1048577 < N) (x : iSpansRight.P.D) (hx : x.1.length ≤ 1048576) : iSpansRight.F N x = some (spansR x.1) := by
  unfold iSpansRight.F iSpansRight.T
  rw [all_run (q := allN x.1.length (spansAt x.1))]
  · rw [show (20 : Int) = ((20 : Nat) : Int) from rfl, lenLe]; rfl
  · refine iter_all (mk := fun i => ((i : Int), ())) (fun i _ hi _ => ?_) (fun _ => ?_) (by omega) (Nat.zero_le _)
    · simp only [iSpansRight.B0_0, rIte, rBind, rRet, ltLen hi, if_true, idxAt hi, Option.bind_some, ispanRight_F, wInc (show i < 9223372036854775807 by omega)]
      rw [prev_step hi hx (fun y => ltI x.1[i]!.1 y.2.1), nbIte]
      simp only [notLt]; rfl
    · simp only [iSpansRight.B0_0, rIte, rBind, rRet, ltEnd, Bool.false_eq_true, if_false]

theorem sSpansRight_F {N : Nat} (hN : 1048577 < N) (x : sSpansRight.P.D) (hx : x.1.length ≤ 1048576) : sSpansRight.F N x = some (spansR x.1) := by
  unfold sSpansRight.F sSpansRight.T
  have hmin : min x.1.length 21 ≤ x.1.length := Nat.min_le_left _ _
  rw [all_run (q := allN (min x.1.length 21) (spansAt x.1))]
  · rw [show (20 : Int) = ((20 : Nat) : Int) from rfl, lenLe]
    unfold spansR
    congr 1
    rw [Bool.eq_iff_iff]
    simp only [Bool.and_eq_true, allN_true, decide_eq_true_eq]
    constructor
    · rintro ⟨h1, h2⟩
      exact ⟨fun i hi => h1 i (by omega), by omega⟩
    · rintro ⟨h1, h2⟩
      exact ⟨fun i hi => h1 i (by omega), by omega⟩
  · refine iter_all (mk := fun i => ((i : Int), ())) (fun i _ hi _ => ?_) (fun _ => ?_) (by omega) (Nat.zero_le _)
    · have hi' : i < x.1.length := by omega
      simp only [sSpansRight.B0_0, rIte, rBind, rRet, ltLen hi', leI_true (show (i : Int) ≤ 20 by omega), if_true, idxAt hi', Option.bind_some, sl03Span_F, wInc (show i < 9223372036854775807 by omega)]
      rw [prev_step hi' hx (fun y => ltI x.1[i]!.1 y.2.1), nbIte]
      simp only [notLt]; rfl
    · simp only [sSpansRight.B0_0, rIte, rBind, rRet]
      by_cases h : x.1.length ≤ 21
      · rw [Nat.min_eq_left h, ltEnd]; rfl
      · rw [Nat.min_eq_right (by omega), leI_false (show (20 : Int) < ((21 : Nat) : Int) by decide)]
        simp only [Bool.false_eq_true, if_false]
        split <;> rfl

end Go.Proofs.YtjnfmjeiceiciaaGreat
