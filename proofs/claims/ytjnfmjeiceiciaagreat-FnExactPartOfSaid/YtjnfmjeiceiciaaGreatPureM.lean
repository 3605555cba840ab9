/-
Mail and state.
-/
import Derived.Test.YtjnfmjeiceiciaaGreatPureK
namespace Go.Proofs.YtjnfmjeiceiciaaGreat
open X Go
set_option linter.unusedVariables false
set_option linter.unusedSimpArgs false
set_option linter.unnecessarySimpa false
set_option maxRecDepth 100000

abbrev Nte := Int × Int × Unit
abbrev Bx := List Int × List Int × List Nte × Unit
abbrev Mal := List Bx × Unit
abbrev Sta := Yrd × Mal × Unit

def noteAt (l : List Nte) (i : Nat) : Bool := win l[i]!.1 0 999900 && (decide (i = 0) || !ltI l[i]!.1 l[i - 1]!.1)
def notesR (l : List Nte) : Bool := allN l.length (noteAt l) && leI (lenI l) 12
def boxAt (c : Cfg) (l : List Bx) (i : Nat) : Bool := !ltI c.2.1[i]!.2.2.1 (lenI l[i]!.1) && (!ltI c.2.1[i]!.2.2.1 (lenI l[i]!.2.1) && notesR l[i]!.2.2.1)
def mailR (c : Cfg) (m : Mal) : Bool := configR c && (eqI (lenI m.1) (lenI c.2.1) && allN m.1.length (boxAt c m.1))
def lateB (now : Int) (b : Bx) : Bool := b.2.2.1.any fun n => ltI now n.1
def stateR (s : Sta) : Bool := yardR s.1 && (mailR s.1.1 s.2.1 && !(s.2.1.1.any (lateB s.1.2.2.2.2.1)))
def MalB (m : Mal) : Prop := m.1.length ≤ 1048576 ∧ ∀ b ∈ m.1, b.2.2.1.length ≤ 1048576
def StaB (s : Sta) : Prop := YrdB s.1 ∧ MalB s.2.1

theorem ltI0 {i : Nat} (h : 0 < i) : ltI (0 : Int) (i : Int) = true := ltI_true (by omega)

theorem inotesRight_F {N : Nat} (hN : 1048577 < N) (x : inotesRight.P.D) (hx : x.1.length ≤ 1048576) : inotesRight.F N x = some (notesR x.1) := by
  obtain ⟨l, u⟩ := x
  dsimp only at hx
  have key : inotesRight.L0_0 N (l, l, lenI l, ()) ((0 : Int), ()) = some (if (allN l.length (noteAt l)) = true then .inl () else .inr (false, ())) := by
    refine iter_all (mk := fun i => ((i : Int), ())) (fun i _ hi _ => ?_) (fun _ => ?_) (by omega) (Nat.zero_le _)
    · simp only [inotesRight.B0_0, rIte, rBind, rRet, ltLen hi, if_true, idxAt hi, Option.bind_some, iisNow_F, wInc (show i < 9223372036854775807 by omega)]
      unfold noteAt
      rcases Nat.eq_zero_or_pos i with h0 | h0
      · subst h0
        rw [if_neg (show ¬ ltI 0 ((0 : Nat) : Int) = true by decide)]
        cases win l[0]!.1 0 999900 <;> rfl
      · rw [if_pos (ltI0 h0), idxPrev h0 (by omega) (by omega)]
        simp only [Option.bind_some, show ¬ i = 0 by omega, decide_false, Bool.false_or]
        cases win l[i]!.1 0 999900 <;> cases ltI l[i]!.1 l[i - 1]!.1 <;> rfl
    · simp only [inotesRight.B0_0, rIte, rRet, ltEnd, Bool.false_eq_true, if_false]
  simp only [inotesRight.F, inotesRight.T, rBind, key, Option.bind_some, rSumIte, rRet, someIte, iteB]
  rfl

theorem len_le_of {α β : Type} {l : List α} {m : List β} (h : eqI (lenI l) (lenI m) = true) : l.length = m.length := by
  rw [eqI_iff] at h
  unfold lenI at h
  omega

theorem iMailRight_F {N : Nat} (hN : 1048577 < N) (x : iMailRight.P.D) (hc : CfgB x.1) (hx : MalB x.2.1) : iMailRight.F N x = some (mailR x.1 x.2.1) := by
  obtain ⟨c, m, u⟩ := x
  dsimp only at hc hx
  have h1 := iConfigRight_F hN (c, ()) hc
  unfold iMailRight.F iMailRight.T mailR
  dsimp only
  rw [rBind, h1, Option.bind_some, rIte]
  cases configR c with
  | false => rfl
  | true =>
    rw [if_neg (by decide), rIte]
    cases hlen : eqI (lenI m.1) (lenI c.2.1) with
    | false => rfl
    | true =>
      have hl := len_le_of hlen
      have key : iMailRight.L0_0 N (m.1, lenI m.1, c) ((0 : Int), ()) = some (if (allN m.1.length (boxAt c m.1)) = true then .inl () else .inr (false, ())) := by
        refine iter_all (mk := fun i => ((i : Int), ())) (fun i _ hi _ => ?_) (fun _ => ?_) (by have := hx.1; omega) (Nat.zero_le _)
        · have hn := inotesRight_F hN m.1[i]!.2.2 (hx.2 _ (mem_at hi))
          have hlx := hx.1
          simp only [iMailRight.B0_0, rIte, rBind, rRet, ltLen hi, if_true, idxAt hi, idxAt (show i < c.2.1.length by omega), Option.bind_some, hn, wInc (show i < 9223372036854775807 by omega)]
          unfold boxAt
          cases ltI c.2.1[i]!.2.2.1 (lenI m.1[i]!.1) <;> cases ltI c.2.1[i]!.2.2.1 (lenI m.1[i]!.2.1) <;> cases notesR m.1[i]!.2.2.1 <;> rfl
        · simp only [iMailRight.B0_0, rIte, rRet, ltEnd, Bool.false_eq_true, if_false]
      rw [if_neg (by decide), rBind, key, Option.bind_some, rSumIte]
      simp only [rRet, someIte, iteB, Bool.true_and, Bool.and_true]

theorem sNotes_L {N : Nat} (hN : 1048577 < N) (l : List Nte) (hx : l.length ≤ 1048576) (c : sMailRight.C0_4.D) (hc : c.2.2.2.2.2.2.2.2.1 = l) : sMailRight.L0_4 N c ((0 : Int), ()) = some (if (allN l.length (noteAt l)) = true then .inl () else .inr (false, ())) := by
  refine iter_all (mk := fun i => ((i : Int), ())) (fun i _ hi _ => ?_) (fun _ => ?_) (by omega) (Nat.zero_le _)
  · simp only [sMailRight.B0_4, hc, rIte, rBind, rRet, ltLen hi, if_true, idxAt hi, Option.bind_some, sl03Now_F, wInc (show i < 9223372036854775807 by omega)]
    unfold noteAt
    rcases Nat.eq_zero_or_pos i with h0 | h0
    · subst h0
      rw [if_neg (show ¬ ltI 0 ((0 : Nat) : Int) = true by decide)]
      cases win l[0]!.1 0 999900 <;> rfl
    · rw [if_pos (ltI0 h0), idxPrev h0 (by omega) (by omega)]
      simp only [Option.bind_some, show ¬ i = 0 by omega, decide_false, Bool.false_or]
      cases win l[i]!.1 0 999900 <;> cases ltI l[i]!.1 l[i - 1]!.1 <;> rfl
  · simp only [sMailRight.B0_4, hc, rIte, rRet, ltEnd, Bool.false_eq_true, if_false]

theorem sMailRight_F {N : Nat} (hN : 1048577 < N) (x : sMailRight.P.D) (hc : CfgB x.1) (hx : MalB x.2.1) : sMailRight.F N x = some (mailR x.1 x.2.1) := by
  obtain ⟨c, m, u⟩ := x
  dsimp only at hc hx
  have h1 := sConfigRight_F hN (c, ()) hc
  unfold sMailRight.F sMailRight.T mailR
  dsimp only
  rw [rBind, h1, Option.bind_some, rIte]
  cases configR c with
  | false => rfl
  | true =>
    rw [if_neg (by decide), rIte]
    cases hlen : eqI (lenI m.1) (lenI c.2.1) with
    | false => rfl
    | true =>
      have hl := len_le_of hlen
      have key : sMailRight.L0_0 N (c.1, c.2.1, c.2.2.1, c.2.2.2.1, m) ((0 : Int), ()) = some (if (allN m.1.length (boxAt c m.1)) = true then .inl () else .inr (false, ())) := by
        refine iter_all (mk := fun i => ((i : Int), ())) (fun i _ hi _ => ?_) (fun _ => ?_) (by have := hx.1; omega) (Nat.zero_le _)
        · have hn := sNotes_L hN m.1[i]!.2.2.1 (hx.2 _ (mem_at hi)) ((i : Int), c.1, c.2.1, c.2.2.1, c.2.2.2.1, m.1, m.1[i]!) rfl
          have hlx := hx.1
          simp only [sMailRight.B0_0, rIte, rBind, rRet, ltLen hi, if_true, idxAt hi, idxAt (show i < c.2.1.length by omega), Option.bind_some, hn, rSumIte, wInc (show i < 9223372036854775807 by omega)]
          unfold boxAt notesR
          rw [← notLt]
          cases ltI c.2.1[i]!.2.2.1 (lenI m.1[i]!.1) <;> cases ltI c.2.1[i]!.2.2.1 (lenI m.1[i]!.2.1) <;> cases allN m.1[i]!.2.2.1.length (noteAt m.1[i]!.2.2.1) <;> cases ltI 12 (lenI m.1[i]!.2.2.1) <;> rfl
        · simp only [sMailRight.B0_0, rIte, rRet, ltEnd, Bool.false_eq_true, if_false]
      rw [if_neg (by decide), rBind, key, Option.bind_some, rSumIte]
      simp only [rRet, someIte, iteB, Bool.true_and, Bool.and_true]

/-! ### The last note is the latest -/

theorem notes_up {l : List Nte} (h : notesR l = true) : ∀ j, j < l.length → ∀ i, i ≤ j → l[i]!.1 ≤ l[j]!.1 := by
  unfold notesR at h
  rw [Bool.and_eq_true, allN_true] at h
  intro j
  induction j with
  | zero =>
    intro _ i hi
    obtain rfl : i = 0 := by omega
    exact Int.le_refl _
  | succ j ih =>
    intro hj i hi
    by_cases e : i = j + 1
    · subst e; exact Int.le_refl _
    · have h1 := h.1 (j + 1) hj
      unfold noteAt at h1
      rw [Bool.and_eq_true] at h1
      have h2 := h1.2
      simp only [show ¬ j + 1 = 0 by omega, decide_false, Bool.false_or, notLt, leI_iff, Nat.add_sub_cancel] at h2
      exact Int.le_trans (ih (by omega) i (by omega)) h2

theorem late_last {l : List Nte} (h : notesR l = true) (now : Int) : (l.any fun n => ltI now n.1) = (decide (0 < l.length) && ltI now l[l.length - 1]!.1) := by
  rw [Bool.eq_iff_iff, Bool.and_eq_true, List.any_eq_true, decide_eq_true_eq, ltI_iff]
  constructor
  · rintro ⟨n, hn, hlt⟩
    obtain ⟨i, hi, rfl⟩ := List.getElem_of_mem hn
    rw [ltI_iff] at hlt
    have := notes_up h (l.length - 1) (by omega) i (by omega)
    rw [getElem!_pos l i hi] at this
    exact ⟨by omega, by omega⟩
  · rintro ⟨h0, hlt⟩
    exact ⟨l[l.length - 1]!, mem_at (by omega), ltI_iff.2 hlt⟩

/-! ### States -/

theorem iStateRight_1_1_p_F (N : Nat) (x : iStateRight_1_1_p.P.D) : iStateRight_1_1_p.F N x = some (ltI x.2.1.1.2.2.2.2.1 x.1.1) := rfl
theorem slIndexFunc_iStateRight_1_1_F {N : Nat} (hN : 1048577 < N) (x : slIndexFunc_iStateRight_1_1.P.D) (hl : x.1.length ≤ 1048576) : slIndexFunc_iStateRight_1_1.F N x = some (idxOf (fun n => ltI x.2.1.1.2.2.2.2.1 n.1) x.1) :=
  indexFunc x.1 hN hl (fun a => iStateRight_1_1_p.F N (a, x.2.1, ())) _ (fun y _ => iStateRight_1_1_p_F N (y, x.2.1, ()))
theorem slContainsFunc_iStateRight_1_1_F {N : Nat} (hN : 1048577 < N) (x : slContainsFunc_iStateRight_1_1.P.D) (hl : x.1.length ≤ 1048576) : slContainsFunc_iStateRight_1_1.F N x = some (x.1.any fun n => ltI x.2.1.1.2.2.2.2.1 n.1) := contains_run (slIndexFunc_iStateRight_1_1_F hN x hl)
theorem iStateRight_1_p_F {N : Nat} (hN : 1048577 < N) (x : iStateRight_1_p.P.D) (hl : x.1.2.2.1.length ≤ 1048576) : iStateRight_1_p.F N x = some (lateB x.2.1.1.2.2.2.2.1 x.1) := by
  have h1 := slContainsFunc_iStateRight_1_1_F hN (x.1.2.2.1, x.2) hl
  simp only [iStateRight_1_p.F, iStateRight_1_p.T, rBind, rRet, h1, Option.bind_some]
  rfl
theorem slIndexFunc_iStateRight_1_F {N : Nat} (hN : 1048577 < N) (x : slIndexFunc_iStateRight_1.P.D) (hl : x.1.length ≤ 1048576) (hb : ∀ b ∈ x.1, b.2.2.1.length ≤ 1048576) : slIndexFunc_iStateRight_1.F N x = some (idxOf (lateB x.2.1.1.2.2.2.2.1) x.1) :=
  indexFunc x.1 hN hl (fun a => iStateRight_1_p.F N (a, x.2.1, ())) _ (fun y hy => iStateRight_1_p_F hN (y, x.2.1, ()) (hb y hy))
theorem slContainsFunc_iStateRight_1_F {N : Nat} (hN : 1048577 < N) (x : slContainsFunc_iStateRight_1.P.D) (hl : x.1.length ≤ 1048576) (hb : ∀ b ∈ x.1, b.2.2.1.length ≤ 1048576) : slContainsFunc_iStateRight_1.F N x = some (x.1.any (lateB x.2.1.1.2.2.2.2.1)) := contains_run (slIndexFunc_iStateRight_1_F hN x hl hb)

theorem iStateRight_F {N : Nat} (hN : 1048577 < N) (x : iStateRight.P.D) (hx : StaB x.1) : iStateRight.F N x = some (stateR x.1) := by
  obtain ⟨s, u⟩ := x
  dsimp only at hx
  have h1 := iYardRight_F hN (s.1, ()) hx.1
  have h2 := iMailRight_F hN (s.1.1, s.2) hx.1.1 hx.2
  have h3 := slContainsFunc_iStateRight_1_F hN (s.2.1.1, s, u) hx.2.1 hx.2.2
  simp only [iStateRight.F, iStateRight.T, rIte, rBind, rRet, h1, h2, h3, Option.bind_some, someIte]
  unfold stateR
  cases yardR s.1 <;> cases mailR s.1.1 s.2.1 <;> rfl

theorem sStateRight_F {N : Nat} (hN : 1048577 < N) (x : sStateRight.P.D) (hx : StaB x.1) : sStateRight.F N x = some (stateR x.1) := by
  obtain ⟨s, u⟩ := x
  dsimp only at hx
  have h1 := sYardRight_F hN (s.1, ()) hx.1
  have h2 := sMailRight_F hN (s.1.1, s.2) hx.1.1 hx.2
  unfold sStateRight.F sStateRight.T stateR
  dsimp only
  rw [rBind, h1, Option.bind_some, rIte]
  cases yardR s.1 with
  | false => rfl
  | true =>
    rw [if_neg (by decide), rBind, h2, Option.bind_some, rIte]
    cases hm : mailR s.1.1 s.2.1 with
    | false => rfl
    | true =>
      have each : ∀ i, i < s.2.1.1.length → notesR s.2.1.1[i]!.2.2.1 = true := by
        intro i hi
        unfold mailR at hm
        simp only [Bool.and_eq_true, allN_true] at hm
        have := hm.2.2 i hi
        unfold boxAt at this
        simp only [Bool.and_eq_true] at this
        exact this.2.2
      have key : sStateRight.L0_0 N (s.1.1.1, s.1.1.2.1, s.1.1.2.2.1, s.1.1.2.2.2.1, s.1.2.1, s.1.2.2.1, s.1.2.2.2.1, s.1.2.2.2.2.1, s.2.1) ((0 : Int), ()) = some (if (allN s.2.1.1.length fun i => !lateB s.1.2.2.2.2.1 s.2.1.1[i]!) = true then .inl () else .inr (false, ())) := by
        refine iter_all (mk := fun i => ((i : Int), ())) (fun i _ hi _ => ?_) (fun _ => ?_) (by have := hx.2.1; omega) (Nat.zero_le _)
        · have hlx := hx.2.1
          have hnl := hx.2.2 _ (mem_at hi)
          have hla := late_last (each i hi) s.1.2.2.2.2.1
          simp only [sStateRight.B0_0, rIte, rBind, rRet, ltLen hi, if_true, idxAt hi, Option.bind_some, wInc (show i < 9223372036854775807 by omega)]
          unfold lateB
          rw [hla]
          rcases Nat.eq_zero_or_pos s.2.1.1[i]!.2.2.1.length with h0 | h0
          · rw [if_neg (by unfold lenI; rw [h0]; decide), h0]
            rfl
          · have hpos : ltI 0 (lenI s.2.1.1[i]!.2.2.1) = true := ltI_true (by unfold lenI; omega)
            have hidx : idx s.2.1.1[i]!.2.2.1 (subW .i64 (lenI s.2.1.1[i]!.2.2.1) (1 : Int)) = some s.2.1.1[i]!.2.2.1[s.2.1.1[i]!.2.2.1.length - 1]! := idxPrev h0 (Nat.le_refl _) (by omega)
            rw [if_pos hpos, hidx]
            simp only [Option.bind_some, h0, decide_true, Bool.true_and]
            exact bIte1 _ _ _
        · simp only [sStateRight.B0_0, rIte, rRet, ltEnd, Bool.false_eq_true, if_false]
      rw [if_neg (by decide), rBind, key, Option.bind_some, rSumIte, all_get s.2.1.1 (fun b => !lateB s.1.2.2.2.2.1 b), ← List.not_any_eq_all_not]
      simp only [rRet, someIte, iteB, Bool.true_and, Bool.and_true]
end Go.Proofs.YtjnfmjeiceiciaaGreat
