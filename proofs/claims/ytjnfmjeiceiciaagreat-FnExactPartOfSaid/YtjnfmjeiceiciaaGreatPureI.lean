/-
Uses.
-/
import Derived.Test.YtjnfmjeiceiciaaGreatPureH
namespace Go.Proofs.YtjnfmjeiceiciaaGreat
open X Go
set_option linter.unusedVariables false
set_option linter.unusedSimpArgs false
set_option linter.unnecessarySimpa false
set_option maxRecDepth 100000

abbrev Us := Lab × List UInt8 × Int × Unit
def cmpUse (a b : Us) : Int := cmpOr (cmpLab a.1 b.1) (cmpTxt a.2.1 b.2.1)
theorem icompareUses_F {N : Nat} (hN : 3 ≤ N) (x : icompareUses.P.D) : icompareUses.F N x = some (cmpUse x.1 x.2.1) := by
  simp only [icompareUses.F, icompareUses.T, rBind, rRet, icompareLabels_F hN, strCompare.F, cmpOr_int_two hN, Option.bind_some]
  rfl

theorem bytesLess_self : ∀ a : List UInt8, Go.Op.bytesLess a a = false
  | [] => rfl
  | a :: r => by simp [Go.Op.bytesLess, bytesLess_self r]
theorem cmpTxt_neg (a b : List UInt8) : ltI (cmpTxt a b) 0 = Go.Op.bytesLess a b := by
  unfold cmpTxt
  by_cases h : a = b
  · subst h; simp [bytesLess_self, ltI]
  · cases hb : Go.Op.bytesLess a b <;> simp [h, ltI]

/-- What the reference asks. -/
def lessW (a b : Us) : Bool := if (!labEq a.1 b.1) = true then ltI (ordW a.1) (ordW b.1) else Go.Op.bytesLess a.2.1 b.2.1
theorem sl11Less_F (N : Nat) (x : sl11Less.P.D) : sl11Less.F N x = some (lessW x.1 x.2.1) := by
  simp only [sl11Less.F, sl11Less.T, rBind, rIte, rRet, sl09Ord_F, Option.bind_some, someIte, eqbLab, lessW]
theorem lessW_eq {a b : Us} (ha : labR a.1 = true) (hb : labR b.1 = true) : lessW a b = ltI (cmpUse a b) 0 := by
  unfold lessW cmpUse cmpOr
  by_cases h : labEq a.1 b.1 = true
  · have e := labEq_iff.1 h
    rw [if_neg (by simp [h]), if_pos (by rw [cmpLab_zero_iff]; exact e), cmpTxt_neg]
  · rw [if_pos (by simp [h]), if_neg (by rw [cmpLab_zero_iff]; exact fun e => h (labEq_iff.2 e)), ordW_lt ha hb]

/-- How many of a label. -/
def cntU (a : Lab) (l : List Us) : Nat := l.countP fun u => labEq u.1 a
theorem cntU_take (a : Lab) (l : List Us) {i : Nat} (h : i < l.length) : cntU a (l.take (i + 1)) = cntU a (l.take i) + if labEq l[i]!.1 a = true then 1 else 0 := by
  unfold cntU
  rw [List.take_add_one, getElem!_pos l i h, List.getElem?_eq_getElem h, List.countP_append]
  simp [List.countP_cons]
theorem cntU_le (a : Lab) (l : List Us) : cntU a l ≤ l.length := List.countP_le_length

theorem iownersOf_F {N : Nat} (hN : 1048577 < N) (x : iownersOf.P.D) (hx : x.1.length ≤ 1048576) : iownersOf.F N x = some (cntU x.2.1 x.1 : Int) := by
  obtain ⟨l, a, u⟩ := x
  dsimp only at hx
  obtain ⟨p, hp, q⟩ := iter_ix (B := iownersOf.B0_0 N (l, (lenI l), a)) l.length (fun i (s : Int) => (s, (i : Int), ()))
    (fun i s => s = (cntU a (l.take i) : Int)) (fun p => p = .inl ((cntU a l : Int), ()))
    (fun i s hi hI => by
      left
      have hle := cntU_le a (l.take i)
      rw [List.length_take] at hle
      refine ⟨(cntU a (l.take (i + 1)) : Int), ?_, rfl⟩
      have hw : addW .i64 s (1 : Int) = s + 1 := addW64 (by omega) (by omega)
      simp only [iownersOf.B0_0, rIte, rBind, rRet, ltLen hi, if_true, idxAt hi, Option.bind_some, eqbLab, hw, wInc (show i < 9223372036854775807 by omega)]
      rw [cntU_take a l hi, hI]
      cases labEq l[i]!.1 a <;> simp)
    (fun s hI => by
      left
      refine ⟨(s, ()), ?_, by rw [hI, List.take_length]⟩
      simp only [iownersOf.B0_0, rIte, rRet, ltEnd, Bool.false_eq_true, if_false]) N 0 0 (Nat.zero_le _) (by omega) (by simp [cntU])
  have e : iownersOf.L0_0 N (l, (lenI l), a) ((0 : Int), (0 : Int), ()) = some p := hp
  unfold iownersOf.F iownersOf.T
  dsimp only
  rw [rBind, e, q, Option.bind_some, rInl, rRet]

def useAt (l : List Us) (i : Nat) : Bool := labR l[i]!.1 && (nameR l[i]!.2.1 && (win l[i]!.2.2.1 1 100000 && ((decide (i = 0) || ltI (cmpUse l[i - 1]! l[i]!) 0) && decide (cntU l[i]!.1 (l.take i) < 6))))
def usesR (l : List Us) : Bool := allN l.length (useAt l) && decide (l.length ≤ 48)

theorem use_cnt {l : List Us} {a : Lab} : ∀ i, i ≤ l.length → (∀ j, j < i → useAt l j = true) → cntU a (l.take i) ≤ 6
  | 0, _, _ => by simp [cntU]
  | i + 1, hi, h => by
    have ih := use_cnt (a := a) i (by omega) fun j hj => h j (by omega)
    rw [cntU_take a l (by omega)]
    split
    · rename_i he
      have := h i (by omega)
      simp only [useAt, Bool.and_eq_true, decide_eq_true_eq] at this
      have := this.2.2.2.2
      rw [labEq_iff.1 he] at this
      omega
    · omega

theorem iUsesRight_F {N : Nat} (hN : 1048577 < N) (x : iUsesRight.P.D) (hx : x.1.length ≤ 1048576) : iUsesRight.F N x = some (usesR x.1) := by
  obtain ⟨l, u⟩ := x
  dsimp only at hx
  unfold iUsesRight.F iUsesRight.T usesR
  dsimp only
  rw [all_run (q := allN l.length (useAt l))]
  · rw [show (48 : Int) = ((48 : Nat) : Int) from rfl, lenLe]
  · refine iter_all (mk := fun i => ((i : Int), ())) (fun i _ hi hprev => ?_) (fun _ => ?_) (by omega) (Nat.zero_le _)
    · have ho := iownersOf_F hN (l.take i, l[i]!.1, ()) (by simp only [List.length_take]; omega)
      have hc := use_cnt (a := l[i]!.1) i (by omega) fun j hj => hprev j (Nat.zero_le _) hj
      have he : eqI (cntU l[i]!.1 (l.take i) : Int) 6 = !decide (cntU l[i]!.1 (l.take i) < 6) := by
        rw [Bool.eq_iff_iff, eqI_iff, Bool.not_eq_true', decide_eq_false_iff_not]; omega
      simp only [iUsesRight.B0_0, rIte, rBind, rRet, ltLen hi, if_true, idxAt hi, Option.bind_some, iLabelRight_F, iNameRight_F hN, iwithin_F, icompareUses_F (show 3 ≤ N by omega), sliceOk (Nat.le_of_lt hi), dropTake, ho, he, wInc (show i < 9223372036854775807 by omega)]
      unfold useAt
      rcases Nat.eq_zero_or_pos i with h0 | h0
      · subst h0
        rw [if_neg (show ¬ ltI 0 ((0 : Nat) : Int) = true by decide)]
        cases labR l[0]!.1 <;> cases nameR l[0]!.2.1 <;> cases win l[0]!.2.2.1 1 100000 <;> cases decide (cntU l[0]!.1 (l.take 0) < 6) <;> rfl
      · rw [if_pos (ltI_true (by omega)), idxPrev h0 (by omega) (by omega), decide_eq_false (show ¬ i = 0 by omega)]
        simp only [Option.bind_some, ← notLe]
        cases labR l[i]!.1 <;> cases nameR l[i]!.2.1 <;> cases win l[i]!.2.2.1 1 100000 <;> cases leI 0 (cmpUse l[i - 1]! l[i]!) <;> cases decide (cntU l[i]!.1 (l.take i) < 6) <;> rfl
    · simp only [iUsesRight.B0_0, rIte, rRet, ltEnd, Bool.false_eq_true, if_false]

/-- Labels of uses ascend. -/
theorem use_lab {a b : Us} (h : ltI (cmpUse a b) 0 = true) : a.1 = b.1 ∨ labLt a.1 b.1 := by
  rw [ltI_iff] at h
  unfold cmpUse cmpOr at h
  split at h
  · rename_i hz
    rw [cmpLab_zero_iff] at hz
    exact .inl hz
  · rw [cmpLab_neg_iff] at h
    exact .inr h

theorem use_chain {l : List Us} {n : Nat} (h : ∀ i, i < n → useAt l i = true) : ∀ j i, i < j → j < n → (l[i]!.1 = l[j]!.1 ∨ labLt l[i]!.1 l[j]!.1) := by
  intro j
  induction j with
  | zero => intro i h; omega
  | succ j ih =>
    intro i hij hj
    have := h (j + 1) hj
    simp only [useAt, Bool.and_eq_true, Bool.or_eq_true, decide_eq_true_eq] at this
    have h2 : l[j]!.1 = l[j + 1]!.1 ∨ labLt l[j]!.1 l[j + 1]!.1 := by
      rcases this.2.2.2.1 with e | e
      · omega
      · exact use_lab e
    by_cases e : i = j
    · subst e; exact h2
    · have h1 := ih i (by omega) (by omega)
      rcases h1 with h1 | h1
      · rw [h1]; exact h2
      · rcases h2 with h2 | h2
        · rw [← h2]; exact .inr h1
        · exact .inr (labLt_trans h1 h2)

theorem cntU_zero {a : Lab} {l : List Us} {i : Nat} (hi : i ≤ l.length) (h : ∀ j, j < i → labLt l[j]!.1 a) : cntU a (l.take i) = 0 := by
  unfold cntU
  rw [List.countP_eq_zero]
  intro y hy
  obtain ⟨j, hj, rfl⟩ := List.mem_take_iff_getElem.1 hy
  have := h j (by omega)
  rw [getElem!_pos l j (by omega)] at this
  intro e
  rw [labEq_iff] at e
  rw [e] at this
  unfold labLt at this
  omega

/-- The count so far. -/
def runU (l : List Us) (i : Nat) : Int := if i = 0 then 0 else (cntU l[i - 1]!.1 (l.take i) : Int)

theorem runU_step {l : List Us} {i : Nat} (hi : i < l.length) (h0 : 0 < i) (h : ∀ j, j < i → useAt l j = true) (hlt : ltI (cmpUse l[i - 1]! l[i]!) 0 = true) :
    (if labEq l[i - 1]!.1 l[i]!.1 = true then runU l i + 1 else 1) = (cntU l[i]!.1 (l.take (i + 1)) : Int) ∧ (cntU l[i]!.1 (l.take (i + 1)) : Int) = (cntU l[i]!.1 (l.take i) : Int) + 1 := by
  have h2 : (cntU l[i]!.1 (l.take (i + 1)) : Int) = (cntU l[i]!.1 (l.take i) : Int) + 1 := by
    rw [cntU_take _ l hi, if_pos (labEq_refl _)]; rfl
  refine ⟨?_, h2⟩
  have hr : runU l i = (cntU l[i - 1]!.1 (l.take i) : Int) := by
    unfold runU
    rw [if_neg (by omega)]
  rw [h2, hr]
  split
  · rename_i e
    rw [labEq_iff.1 e]
  · rename_i e
    have hl := (use_lab hlt).resolve_left fun h => e (labEq_iff.2 h)
    rw [cntU_zero (by omega) fun j hj => ?_]
    · rfl
    · by_cases hji : j = i - 1
      · subst hji; exact hl
      · rcases use_chain h (i - 1) j (by omega) (by omega) with h | h
        · rw [h]; exact hl
        · exact labLt_trans h hl

theorem sUsesRight_F {N : Nat} (hN : 1048577 < N) (x : sUsesRight.P.D) (hx : x.1.length ≤ 1048576) : sUsesRight.F N x = some (usesR x.1) := by
  obtain ⟨l, u⟩ := x
  dsimp only at hx
  unfold sUsesRight.F sUsesRight.T usesR
  dsimp only
  rw [show (48 : Int) = ((48 : Nat) : Int) from rfl, ltLenN, rIte]
  obtain ⟨p, hp, q⟩ := iter_ix (B := sUsesRight.B0_0 N (l, ())) l.length (fun i (s : Int) => (s, (i : Int), ()))
    (fun i s => s = runU l i ∧ ∀ j, j < i → useAt l j = true)
    (fun p => p = if allN l.length (useAt l) = true then .inl () else .inr (false, ()))
    (fun i s hi hI => by
      obtain ⟨hs, hprev⟩ := hI
      have hcnt := use_cnt (a := l[i]!.1) i (by omega) hprev
      have hbad : useAt l i = false → (Sum.inr (false, ()) : Unit ⊕ (Bool × Unit)) = if allN l.length (useAt l) = true then .inl () else .inr (false, ()) := fun h => by rw [allN_false i hi h]; rfl
      simp only [sUsesRight.B0_0, rIte, rBind, rRet, ltLen hi, if_true, idxAt hi, Option.bind_some, sLabelRight_F, sNameRight_F hN, sl02Is_F, sl11Less_F, eqbLab, wInc (show i < 9223372036854775807 by omega)]
      cases h1 : labR l[i]!.1 with
      | false => exact .inr (.inr ⟨_, rfl, hbad (by unfold useAt; rw [h1]; rfl)⟩)
      | true =>
        cases h2 : nameR l[i]!.2.1 with
        | false => exact .inr (.inr ⟨_, rfl, hbad (by unfold useAt; rw [h1, h2]; rfl)⟩)
        | true =>
          cases h3 : win l[i]!.2.2.1 1 100000 with
          | false => exact .inr (.inr ⟨_, rfl, hbad (by unfold useAt; rw [h1, h2, h3]; rfl)⟩)
          | true =>
            simp only [Bool.not_true, Bool.false_eq_true, if_false]
            rcases Nat.eq_zero_or_pos i with h0 | h0
            · subst h0
              left
              refine ⟨runU l 1, ?_, rfl, fun j hj => ?_⟩
              · rw [if_neg (show ¬ ltI 0 ((0 : Nat) : Int) = true by decide), if_neg (show ¬ ltI 0 ((0 : Nat) : Int) = true by decide), if_neg (show ¬ ltI (6 : Int) 1 = true by decide)]
                have : runU l 1 = 1 := by
                  unfold runU
                  rw [if_neg (by decide)]
                  show (cntU l[0]!.1 (l.take 1) : Int) = 1
                  rw [cntU_take _ l hi, if_pos (labEq_refl _)]
                  simp [cntU]
                rw [this]
              · have : j = 0 := by omega
                subst this
                unfold useAt
                rw [h1, h2, h3]
                simp [cntU]
            · have hpr := hprev (i - 1) (by omega)
              have hlp : labR l[i - 1]!.1 = true := by
                simp only [useAt, Bool.and_eq_true] at hpr; exact hpr.1
              rw [if_pos (ltI_true (by omega)), if_pos (ltI_true (by omega)), idxPrev h0 (by omega) (by omega)]
              simp only [Option.bind_some, lessW_eq hlp h1]
              cases h4 : ltI (cmpUse l[i - 1]! l[i]!) 0 with
              | false => exact .inr (.inr ⟨_, rfl, hbad (by unfold useAt; rw [h1, h2, h3, h4, decide_eq_false (show ¬ i = 0 by omega)]; rfl)⟩)
              | true =>
                simp only [Bool.not_true, Bool.false_eq_true, if_false]
                obtain ⟨r1, r2⟩ := runU_step hi h0 hprev h4
                have hrun : runU l (i + 1) = (cntU l[i]!.1 (l.take (i + 1)) : Int) := by
                  unfold runU
                  rw [if_neg (by omega)]; rfl
                have hsle : s ≤ 48 ∧ 0 ≤ s := by
                  rw [hs]
                  unfold runU
                  rw [if_neg (by omega)]
                  have := use_cnt (a := l[i - 1]!.1) i (by omega) hprev
                  omega
                have hw : addW .i64 s (1 : Int) = s + 1 := addW64 (by omega) (by omega)
                have huse : useAt l i = decide (cntU l[i]!.1 (l.take i) < 6) := by
                  unfold useAt
                  rw [h1, h2, h3, h4, decide_eq_false (show ¬ i = 0 by omega)]; rfl
                have good : ¬ (6 < (cntU l[i]!.1 (l.take (i + 1)) : Int)) → ∀ j, j < i + 1 → useAt l j = true := fun h j hj => by
                  by_cases hji : j = i
                  · subst hji
                    rw [huse, decide_eq_true_eq]; omega
                  · exact hprev j (by omega)
                have bad : 6 < (cntU l[i]!.1 (l.take (i + 1)) : Int) → useAt l i = false := fun h => by
                  rw [huse, decide_eq_false_iff_not]; omega
                cases h5 : labEq l[i - 1]!.1 l[i]!.1 with
                | true =>
                  rw [if_pos rfl, hw]
                  rw [h5, if_pos rfl, ← hs] at r1
                  by_cases h6 : 6 < s + 1
                  · right; right
                    rw [if_pos (ltI_true h6)]
                    exact ⟨_, rfl, hbad (bad (by omega))⟩
                  · left
                    rw [if_neg (by rw [ltI_iff]; exact h6)]
                    exact ⟨s + 1, rfl, by rw [hrun, ← r1], good (by omega)⟩
                | false =>
                  rw [if_neg (by decide), if_neg (show ¬ ltI (6 : Int) 1 = true by decide)]
                  rw [h5, if_neg (by decide)] at r1
                  left
                  exact ⟨1, rfl, by rw [hrun, ← r1], good (by omega)⟩)
    (fun s hI => by
      left
      refine ⟨(), ?_, ?_⟩
      · simp only [sUsesRight.B0_0, rIte, rRet, ltEnd, Bool.false_eq_true, if_false]
      · rw [allN_true.2 hI.2, if_pos rfl]) N 0 0 (Nat.zero_le _) (by omega) ⟨rfl, fun j hj => by omega⟩
  have e : sUsesRight.L0_0 N (l, ()) ((0 : Int), (0 : Int), ()) = some (if allN l.length (useAt l) = true then .inl () else .inr (false, ())) := by rw [← q]; exact hp
  have e' : sUsesRight.L0_0 N (l, u) ((0 : Int), (0 : Int), ()) = some (if allN l.length (useAt l) = true then .inl () else .inr (false, ())) := e
  rw [all_run e']
  simp only [rRet, Bool.and_true]
  cases decide (l.length ≤ 48) <;> simp

end Go.Proofs.YtjnfmjeiceiciaaGreat
