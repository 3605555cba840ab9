/-
Pairs, quotas; configurations.
-/
import Derived.Test.YtjnfmjeiceiciaaGreatPureE
namespace Go.Proofs.YtjnfmjeiceiciaaGreat
open X Go
set_option linter.unusedVariables false
set_option linter.unusedSimpArgs false
set_option linter.unnecessarySimpa false
set_option maxRecDepth 100000

abbrev Par := Lab × Lab × Int × Unit
abbrev Quo := Lab × Int × Unit
abbrev Cfg := List (List Lab) × List Par × List Quo × Int × Unit

def inLabs (labs : List Lab) (a : Lab) : Bool := labs.any fun y => labEq a y
theorem inLabs_iff {labs : List Lab} {a : Lab} : inLabs labs a = true ↔ a ∈ labs := by
  unfold inLabs
  rw [List.any_eq_true]
  constructor
  · rintro ⟨y, hy, e⟩
    rw [labEq_iff.1 e]; exact hy
  · intro h; exact ⟨a, h, labEq_refl a⟩

/-! ### Pairs -/

def parSame (x y : Par) : Bool := labEq x.1 y.1 && labEq x.2.1 y.2.1
def pairAt (labs : List Lab) (l : List Par) (i : Nat) : Bool := !((l.take i).any (parSame l[i]!)) && (inLabs labs l[i]!.1 && (inLabs labs l[i]!.2.1 && (!belI l[i]!.1 l[i]!.2.1 && win l[i]!.2.2.1 1 3)))
def pairsR (labs : List Lab) (l : List Par) : Bool := allN l.length (pairAt labs l) && decide (l.length ≤ 4)

theorem iConfig_pairsOf_1_p_F (N : Nat) (x : iConfig_pairsOf_1_p.P.D) : iConfig_pairsOf_1_p.F N x = some (parSame x.2.1 x.1) := by
  simp only [iConfig_pairsOf_1_p.F, iConfig_pairsOf_1_p.T, rIte, rRet, someIte, iteB, eqbLab, parSame]
theorem slIndexFunc_iConfig_pairsOf_1_F {N : Nat} (hN : 1048577 < N) (x : slIndexFunc_iConfig_pairsOf_1.P.D) (hx : x.1.length ≤ 1048576) : slIndexFunc_iConfig_pairsOf_1.F N x = some (idxOf (fun y => parSame x.2.1 y) x.1) :=
  indexFunc x.1 hN hx (fun a => iConfig_pairsOf_1_p.F N (a, x.2.1, ())) _ (fun y _ => iConfig_pairsOf_1_p_F N _)
theorem slContainsFunc_iConfig_pairsOf_1_F {N : Nat} (hN : 1048577 < N) (x : slContainsFunc_iConfig_pairsOf_1.P.D) (hx : x.1.length ≤ 1048576) : slContainsFunc_iConfig_pairsOf_1.F N x = some (x.1.any fun y => parSame x.2.1 y) := contains_run (slIndexFunc_iConfig_pairsOf_1_F hN x hx)

theorem dropTake {α : Type} (l : List α) (i : Nat) : List.drop (Int.toNat (0 : Int)) (List.take (Int.toNat (i : Int)) l) = l.take i := by
  rw [Int.toNat_natCast]; rfl
theorem sliceOk {α : Type} {l : List α} {i : Nat} (h : i ≤ l.length) : (inR 0 (0 : Int) (i : Int) && leI (i : Int) (lenI l)) = true := by
  rw [inR0 (Int.le_refl 0) (by omega), leI_true (by unfold lenI; omega)]; rfl

theorem iConfig_pairsOf_F {N : Nat} (hN : 1048577 < N) (x : iConfig_pairsOf.P.D) (h1 : x.1.2.1.length ≤ 1048576) (h2 : x.2.1.length ≤ 1048576) : iConfig_pairsOf.F N x = some (pairsR x.2.1 x.1.2.1) := by
  obtain ⟨⟨nodes, l, c⟩, labs, u⟩ := x
  dsimp only at h1 h2
  unfold iConfig_pairsOf.F iConfig_pairsOf.T
  rw [all_run (q := allN l.length (pairAt labs l))]
  · rw [show (4 : Int) = ((4 : Nat) : Int) from rfl, lenLe]; rfl
  · refine iter_all (mk := fun i => ((i : Int), ())) (fun i _ hi _ => ?_) (fun _ => ?_) (by omega) (Nat.zero_le _)
    · have hc := slContainsFunc_iConfig_pairsOf_1_F hN (l.take i, l[i]!, ()) (by simp only [List.length_take]; omega)
      simp only [iConfig_pairsOf.B0_0, rIte, rBind, rRet, ltLen hi, if_true, idxAt hi, Option.bind_some, sliceOk (Nat.le_of_lt hi), dropTake, hc, slContains_SLabel_F hN (labs, _, ()) h2, ibelow_F, iwithin_F, wInc (show i < 9223372036854775807 by omega)]
      unfold pairAt inLabs
      cases (l.take i).any fun y => parSame l[i]! y with
      | true => rfl
      | false =>
        cases labs.any fun y => labEq l[i]!.1 y with
        | false => rfl
        | true =>
          cases labs.any fun y => labEq l[i]!.2.1 y with
          | false => rfl
          | true => cases belI l[i]!.1 l[i]!.2.1 <;> cases win l[i]!.2.2.1 1 3 <;> rfl
    · simp only [iConfig_pairsOf.B0_0, rIte, rRet, ltEnd, Bool.false_eq_true, if_false]

theorem sl09Pairs_F {N : Nat} (hN : 1048577 < N) (x : sl09Pairs.P.D) (h1 : x.2.1.length ≤ 1048576) (h2 : x.1.length ≤ 1048576) (hr : ∀ a ∈ x.1, labR a = true) : sl09Pairs.F N x = some (pairsR x.1 x.2.1) := by
  obtain ⟨labs, l, u⟩ := x
  dsimp only at h1 h2 hr
  unfold sl09Pairs.F sl09Pairs.T
  rw [show (4 : Int) = ((4 : Nat) : Int) from rfl, ltLenN, rIte]
  by_cases h4 : l.length ≤ 4
  · rw [if_neg (by simp [h4]), all_run (q := allN l.length fun i => inLabs labs l[i]!.1 && (inLabs labs l[i]!.2.1 && (!belS l[i]!.1 l[i]!.2.1 && (win l[i]!.2.2.1 1 3 && allN i fun j => !parSame l[i]! l[j]!))))]
    · unfold pairsR
      rw [Bool.and_true, decide_eq_true h4, Bool.and_true]
      congr 1
      refine allN_congr fun i hi => ?_
      have e1 : allN i (fun j => !parSame l[i]! l[j]!) = !((l.take i).any (parSame l[i]!)) := by
        rw [Bool.eq_iff_iff, allN_true, Bool.not_eq_true', Bool.eq_false_iff, Ne, List.any_eq_true]
        constructor
        · rintro h ⟨y, hy, e⟩
          obtain ⟨j, hj, rfl⟩ := List.mem_take_iff_getElem.1 hy
          have := h j (by omega)
          rw [getElem!_pos l j (by omega)] at this
          rw [e] at this; cases this
        · intro h j hj
          rw [Bool.not_eq_true', Bool.eq_false_iff]
          intro e
          exact h ⟨l[j]!, by rw [getElem!_pos l j (by omega)]; exact List.mem_take_iff_getElem.2 ⟨j, by omega, rfl⟩, e⟩
      rw [e1]
      unfold pairAt
      cases ha : inLabs labs l[i]!.1 with
      | false => simp
      | true =>
        cases hb : inLabs labs l[i]!.2.1 with
        | false => simp
        | true =>
          rw [bel_eq (hr _ (inLabs_iff.1 ha)) (hr _ (inLabs_iff.1 hb))]
          cases (l.take i).any (parSame l[i]!) <;> simp
    · refine iter_all (mk := fun i => ((i : Int), ())) (fun i _ hi _ => ?_) (fun _ => ?_) (by omega) (Nat.zero_le _)
      · have inner := iter_all (B := sl09Pairs.B0_4 N (labs, l, (i : Int), l[i]!.1.1, l[i]!.1.2.1, l[i]!.2.1.1, l[i]!.2.1.2.1, l[i]!.2.2)) (mk := fun i => ((i : Int), ())) (a := 0) (n := i) (p := fun j => !parSame l[i]! l[j]!) (r0 := (false, ())) (o0 := ())
          (fun j _ hj _ => by
            have hlt : ltI (j : Int) (i : Int) = true := ltI_true (by omega)
            simp only [sl09Pairs.B0_4, rIte, rBind, rRet, hlt, if_true, idxAt (show j < l.length by omega), Option.bind_some, eqbLab, wInc (show j < 9223372036854775807 by omega)]
            have ea : labEq l[j]!.1 (l[i]!.1.1, l[i]!.1.2.1, ()) = labEq l[i]!.1 l[j]!.1 := labEq_comm _ _
            have eb : labEq l[j]!.2.1 (l[i]!.2.1.1, l[i]!.2.1.2.1, ()) = labEq l[i]!.2.1 l[j]!.2.1 := labEq_comm _ _
            rw [ea, eb]
            unfold parSame
            cases labEq l[i]!.1 l[j]!.1 <;> cases labEq l[i]!.2.1 l[j]!.2.1 <;> rfl)
          (fun _ => by
            have hlt : ltI (i : Int) (i : Int) = false := ltI_false (Int.le_refl _)
            simp only [sl09Pairs.B0_4, rIte, rRet, hlt, Bool.false_eq_true, if_false]) (k := N) (by omega) (Nat.zero_le _)
        have e2 : sl09Pairs.L0_4 N (labs, l, (i : Int), l[i]!.1.1, l[i]!.1.2.1, l[i]!.2.1.1, l[i]!.2.1.2.1, l[i]!.2.2) ((0 : Int), ()) = some (if (allN i fun j => !parSame l[i]! l[j]!) = true then .inl () else .inr (false, ())) := inner
        simp only [sl09Pairs.B0_0, rIte, rBind, rRet, ltLen hi, if_true, idxAt hi, Option.bind_some, sl05Cleared_F hN (labs, _, ()) h2, sl02Below_F, sl02Is_F, wInc (show i < 9223372036854775807 by omega), e2, rSumIte]
        unfold inLabs
        cases labs.any fun y => labEq l[i]!.1 y with
        | false => rfl
        | true =>
          cases labs.any fun y => labEq l[i]!.2.1 y with
          | false => rfl
          | true => cases belS l[i]!.1 l[i]!.2.1 <;> cases win l[i]!.2.2.1 1 3 <;> cases (allN i fun j => !parSame l[i]! l[j]!) <;> rfl
      · simp only [sl09Pairs.B0_0, rIte, rRet, ltEnd, Bool.false_eq_true, if_false]
  · rw [if_pos (by simp [h4]), rRet]
    unfold pairsR
    rw [decide_eq_false h4, Bool.and_false]

/-! ### Quotas -/

def ordW (a : Lab) : Int := addW .i64 (mulW .i64 (8 : Int) a.1) a.2.1
theorem sl09Ord_F (N : Nat) (x : sl09Ord.P.D) : sl09Ord.F N x = some (ordW x.1) := rfl
theorem ordW_eq {a : Lab} (h : labR a = true) : ordW a = 8 * a.1 + a.2.1 := by
  simp only [labR, Bool.and_eq_true, win_iff] at h
  unfold ordW
  rw [mulW64 (by omega) (by omega), addW64 (by omega) (by omega)]
theorem ordW_lt {a b : Lab} (ha : labR a = true) (hb : labR b = true) : ltI (ordW a) (ordW b) = ltI (cmpLab a b) 0 := by
  rw [Bool.eq_iff_iff, ltI_iff, ltI_iff, cmpLab_neg_iff, ordW_eq ha, ordW_eq hb]
  simp only [labR, Bool.and_eq_true, win_iff] at ha hb
  unfold labLt
  omega

def quotaAt (labs : List Lab) (l : List Quo) (i : Nat) : Bool := inLabs labs l[i]!.1 && (win l[i]!.2.1 1 9 && (decide (i = 0) || ltI (cmpLab l[i - 1]!.1 l[i]!.1) 0))
def quotasR (labs : List Lab) (l : List Quo) : Bool := allN l.length (quotaAt labs l)

theorem iConfig_quotasOf_F {N : Nat} (hN : 1048577 < N) (x : iConfig_quotasOf.P.D) (h1 : x.1.2.2.1.length ≤ 1048576) (h2 : x.2.1.length ≤ 1048576) : iConfig_quotasOf.F N x = some (quotasR x.2.1 x.1.2.2.1) := by
  obtain ⟨⟨nodes, pairs, l, c⟩, labs, u⟩ := x
  dsimp only at h1 h2
  unfold iConfig_quotasOf.F iConfig_quotasOf.T
  rw [all_run (q := allN l.length (quotaAt labs l))]
  · rw [Bool.and_true]; rfl
  · refine iter_all (mk := fun i => ((i : Int), ())) (fun i _ hi _ => ?_) (fun _ => ?_) (by omega) (Nat.zero_le _)
    · simp only [iConfig_quotasOf.B0_0, rIte, rBind, rRet, ltLen hi, if_true, idxAt hi, Option.bind_some, slContains_SLabel_F hN (labs, _, ()) h2, iwithin_F, icompareLabels_F (show 3 ≤ N by omega), wInc (show i < 9223372036854775807 by omega)]
      rw [prev_step hi h1 (fun y => leI 0 (cmpLab y.1 l[i]!.1)), nbIte, nbIte]
      simp only [notLe]; rfl
    · simp only [iConfig_quotasOf.B0_0, rIte, rRet, ltEnd, Bool.false_eq_true, if_false]

theorem len_le_of_strict : ∀ {l m : List Lab}, l.Pairwise labLt → (∀ a ∈ l, a ∈ m) → l.length ≤ m.length
  | [], _, _, _ => Nat.zero_le _
  | a :: l, m, hl, h => by
    rw [List.pairwise_cons] at hl
    have hm : a ∈ m := h a (by simp)
    have hlen := List.length_erase_of_mem hm
    have := len_le_of_strict (m := m.erase a) hl.2 fun b hb => by
      have hne : b ≠ a := by
        rintro rfl
        have := hl.1 b hb
        unfold labLt at this
        omega
      rw [List.mem_erase_of_ne hne]
      exact h b (by simp [hb])
    have hpos : 0 < m.length := List.length_pos_of_mem hm
    simp only [List.length_cons]
    omega

theorem quotas_len {labs : List Lab} {l : List Quo} (h : quotasR labs l = true) : l.length ≤ labs.length := by
  unfold quotasR at h
  rw [allN_true] at h
  have lt : ∀ j i, i < j → j < l.length → labLt l[i]!.1 l[j]!.1 := by
    intro j
    induction j with
    | zero => intro i h; omega
    | succ j ih =>
      intro i hij hj
      have := h (j + 1) hj
      simp only [quotaAt, Bool.and_eq_true, Bool.or_eq_true, decide_eq_true_eq, ltI_iff, cmpLab_neg_iff] at this
      have h2 : labLt l[j]!.1 l[j + 1]!.1 := by
        rcases this.2.2 with h | h
        · omega
        · exact h
      by_cases e : i = j
      · subst e; exact h2
      · have h1 := ih i (by omega) (by omega)
        unfold labLt at *
        omega
  have := len_le_of_strict (l := l.map (·.1)) (m := labs) (by
    rw [List.pairwise_iff_getElem]
    intro i j hi hj hij
    simp only [List.length_map] at hi hj
    have := lt j i hij hj
    rw [getElem!_pos l i hi, getElem!_pos l j hj] at this
    simpa using this) (by
    intro a ha
    rw [List.mem_map] at ha
    obtain ⟨x, hx, rfl⟩ := ha
    obtain ⟨i, hi, rfl⟩ := List.getElem_of_mem hx
    have := h i hi
    simp only [quotaAt, Bool.and_eq_true] at this
    have := inLabs_iff.1 this.1
    rwa [getElem!_pos l i hi] at this)
  simpa using this

theorem sl09Quotas_F {N : Nat} (hN : 1048577 < N) (x : sl09Quotas.P.D) (h1 : x.2.1.length ≤ 1048576) (h2 : x.1.length ≤ 8) (hr : ∀ a ∈ x.1, labR a = true) : sl09Quotas.F N x = some (quotasR x.1 x.2.1) := by
  obtain ⟨labs, l, u⟩ := x
  dsimp only at h1 h2 hr
  unfold sl09Quotas.F sl09Quotas.T
  rw [show (8 : Int) = ((8 : Nat) : Int) from rfl, ltLenN, rIte]
  by_cases h4 : l.length ≤ 8
  · rw [if_neg (by simp [h4]), all_run (q := allN l.length fun i => inLabs labs l[i]!.1 && (win l[i]!.2.1 1 9 && (decide (i = 0) || ltI (ordW l[i - 1]!.1) (ordW l[i]!.1))))]
    · rw [Bool.and_true]
      congr 1
      unfold quotasR
      rw [Bool.eq_iff_iff, allN_true, allN_true]
      have key : ∀ i, (∀ j, j ≤ i → inLabs labs l[j]!.1 = true) → (decide (i = 0) || ltI (ordW l[i - 1]!.1) (ordW l[i]!.1)) = (decide (i = 0) || ltI (cmpLab l[i - 1]!.1 l[i]!.1) 0) := fun i hj => by
        rw [ordW_lt (hr _ (inLabs_iff.1 (hj (i - 1) (by omega)))) (hr _ (inLabs_iff.1 (hj i (Nat.le_refl _))))]
      constructor
      · intro h i hi
        have h : ∀ i, i < l.length → _ := h
        have hi : i < l.length := hi
        have hj : ∀ j, j ≤ i → inLabs labs l[j]!.1 = true := fun j hj => by
          have := h j (by omega)
          rw [Bool.and_eq_true] at this; exact this.1
        have := h i hi
        rw [key i hj] at this
        exact this
      · intro h i hi
        have h : ∀ i, i < l.length → _ := h
        have hi : i < l.length := hi
        have hj : ∀ j, j ≤ i → inLabs labs l[j]!.1 = true := fun j hj => by
          have := h j (by omega)
          simp only [quotaAt, Bool.and_eq_true] at this; exact this.1
        rw [key i hj]
        exact h i hi
    · refine iter_all (mk := fun i => ((i : Int), ())) (fun i _ hi _ => ?_) (fun _ => ?_) (by omega) (Nat.zero_le _)
      · simp only [sl09Quotas.B0_0, rIte, rBind, rRet, ltLen hi, if_true, idxAt hi, Option.bind_some, sl05Cleared_F hN (labs, _, ()) (show labs.length ≤ 1048576 by omega), sl02Is_F, sl09Ord_F, wInc (show i < 9223372036854775807 by omega)]
        rw [prev_step hi h1 (fun y => leI (ordW l[i]!.1) (ordW y.1)), nbIte, nbIte]
        simp only [notLe]; rfl
      · simp only [sl09Quotas.B0_0, rIte, rRet, ltEnd, Bool.false_eq_true, if_false]
  · rw [if_pos (by simp [h4]), rRet]
    cases hq : quotasR labs l with
    | false => rfl
    | true =>
      have := quotas_len hq
      omega

/-! ### Configurations -/

def configR (c : Cfg) : Bool := clearR c.1 && (win c.2.2.2.1 1 9 && (decide ((labsOf c.1).length ≤ 8) && (pairsR (labsOf c.1) c.2.1 && quotasR (labsOf c.1) c.2.2.1)))
def CfgB (c : Cfg) : Prop := Bnd c.1 ∧ c.2.1.length ≤ 1048576 ∧ c.2.2.1.length ≤ 1048576

theorem labsOf_len (l : List (List Lab)) : (labsOf l).length ≤ 32 := by
  unfold labsOf
  have := List.length_filter_le (hasLab l) ((List.range 32).map labNo)
  simpa using this

theorem iConfigRight_F {N : Nat} (hN : 1048577 < N) (x : iConfigRight.P.D) (h : CfgB x.1) : iConfigRight.F N x = some (configR x.1) := by
  obtain ⟨c, u⟩ := x
  dsimp only at h
  have hl := labsOf_len c.1
  unfold iConfigRight.F iConfigRight.T configR
  rw [rBind, iclearRight_F hN (c.1, ()) h.1, Option.bind_some, rIte]
  cases hc : clearR c.1 with
  | false => rfl
  | true =>
    simp only [Bool.not_true, Bool.false_eq_true, if_false, rBind, rIte, rRet, iwithin_F, Option.bind_some, iConfig_labels_F hN (c, ()) hc, show (8 : Int) = ((8 : Nat) : Int) from rfl, lenLe]
    rw [iConfig_pairsOf_F hN (c, labsOf c.1, ()) h.2.1 (by show (labsOf c.1).length ≤ 1048576; omega), iConfig_quotasOf_F hN (c, labsOf c.1, ()) h.2.2 (by show (labsOf c.1).length ≤ 1048576; omega)]
    simp only [Option.bind_some, someIte, iteB, iteNB, Bool.true_and]

theorem sConfigRight_F {N : Nat} (hN : 1048577 < N) (x : sConfigRight.P.D) (h : CfgB x.1) : sConfigRight.F N x = some (configR x.1) := by
  obtain ⟨c, u⟩ := x
  dsimp only at h
  have hl := labsOf_len c.1
  unfold sConfigRight.F sConfigRight.T configR
  rw [rBind, sl05Clear_F hN (c.1, ()) h.1, Option.bind_some, rIte]
  cases hc : clearR c.1 with
  | false => rfl
  | true =>
    simp only [Bool.not_true, Bool.false_eq_true, if_false, rBind, rIte, rRet, sl02Is_F, Option.bind_some, sl09Labels_F hN (c.1, ()) h.1, show (8 : Int) = ((8 : Nat) : Int) from rfl, lenLe]
    rw [sl09Pairs_F hN (labsOf c.1, c.2.1, ()) h.2.1 (by show (labsOf c.1).length ≤ 1048576; omega) (fun a ha => labsOf_right ha)]
    by_cases h8 : (labsOf c.1).length ≤ 8
    · rw [sl09Quotas_F hN (labsOf c.1, c.2.2.1, ()) h.2.2 h8 (fun a ha => labsOf_right ha)]
      simp only [Option.bind_some, someIte, iteB, iteNB, Bool.true_and]
    · simp only [decide_eq_false h8, Bool.false_eq_true, if_false, someIte, iteB, iteNB, Bool.true_and, Bool.false_and]
      cases win c.2.2.2.1 1 9 <;> rfl

end Go.Proofs.YtjnfmjeiceiciaaGreat
