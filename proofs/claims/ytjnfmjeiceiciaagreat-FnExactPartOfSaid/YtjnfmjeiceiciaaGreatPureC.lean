/-
Searches in slices; chains, labels, configurations.
-/
import Derived.Test.YtjnfmjeiceiciaaGreatPureB
namespace Go.Proofs.YtjnfmjeiceiciaaGreat
open X Go
set_option linter.unusedVariables false
set_option linter.unusedSimpArgs false
set_option linter.unnecessarySimpa false
set_option maxRecDepth 100000

/-! ### Searches -/

/-- The first place at which a test holds, or -1. -/
def idxOf {α : Type} [Inhabited α] (p : α → Bool) (l : List α) : Int :=
  match (List.range l.length).find? fun i => p l[i]! with
  | some i => i
  | none => -1

theorem idxOf_any {α : Type} [Inhabited α] (p : α → Bool) (l : List α) : leI 0 (idxOf p l) = l.any p := by
  rw [← find_get]
  unfold idxOf
  cases (List.range l.length).find? fun i => p l[i]! with
  | none => rfl
  | some i => simp [leI]

theorem idxOf_neg {α : Type} [Inhabited α] (p : α → Bool) (l : List α) : ltI (idxOf p l) 0 = !l.any p := by
  rw [← idxOf_any, notLe]

theorem indexFunc {α : Type} [Inhabited α] (l : List α) {N : Nat} (hN : 1048577 < N) (hl : l.length ≤ 1048576) (f : α → Option Bool) (p : α → Bool) (hf : ∀ y ∈ l, f y = some (p y)) :
    (Tr.bind (iterT (fun m : Int × Unit => (Tr.ite (ltI m.1 (lenI l)) (.bind (idx l m.1) fun x1 => .bind (f x1) fun x2 => .ite x2 (.ret (.ret m)) (.ret (.more ((addW .i64 m.1 (1 : Int)), ())))) (.ret (.out ())) : Tr (Leaf (Int × Unit) Unit (Int × Unit)))) N ((0 : Int), ())) fun p1 => .sum p1 (fun a2 => .ret (-1 : Int)) (fun b3 => .ret b3.1)).run = some (idxOf p l) := by
  have := iter_find (B := (fun m : Int × Unit => (Tr.ite (ltI m.1 (lenI l)) (.bind (idx l m.1) fun x1 => .bind (f x1) fun x2 => .ite x2 (.ret (.ret m)) (.ret (.more ((addW .i64 m.1 (1 : Int)), ())))) (.ret (.out ())) : Tr (Leaf (Int × Unit) Unit (Int × Unit))))) (n := l.length) (mk := fun i => ((i : Int), ())) (p := fun i => p l[i]!) (r := fun i => ((i : Int), ())) (o0 := ())
    (fun i hi => by
      have hm : l[i]! ∈ l := by rw [getElem!_pos l i hi]; exact List.getElem_mem hi
      simp only [rIte, rBind, rRet, ltLen hi, if_true, idxAt hi, Option.bind_some, hf _ hm, wInc (show i < 9223372036854775807 by omega), someIte])
    (by simp only [rIte, rRet, ltEnd, Bool.false_eq_true, if_false]) (k := N) (by omega)
  have h2 : iterT (fun m : Int × Unit => (Tr.ite (ltI m.1 (lenI l)) (.bind (idx l m.1) fun x1 => .bind (f x1) fun x2 => .ite x2 (.ret (.ret m)) (.ret (.more ((addW .i64 m.1 (1 : Int)), ())))) (.ret (.out ())) : Tr (Leaf (Int × Unit) Unit (Int × Unit)))) N ((0 : Int), ()) = _ := this
  rw [h2, rBind, Option.bind_some]
  unfold idxOf
  cases (List.range l.length).find? fun i => p l[i]! with
  | none => rfl
  | some i => rfl

theorem indexPlain {α : Type} [Inhabited α] (l : List α) {N : Nat} (hN : 1048577 < N) (hl : l.length ≤ 1048576) (p : α → Bool) :
    (Tr.bind (iterT (fun m : Int × Unit => (Tr.ite (ltI m.1 (lenI l)) (.bind (idx l m.1) fun x1 => .ite (p x1) (.ret (.ret m)) (.ret (.more ((addW .i64 m.1 (1 : Int)), ())))) (.ret (.out ())) : Tr (Leaf (Int × Unit) Unit (Int × Unit)))) N ((0 : Int), ())) fun p1 => .sum p1 (fun a2 => .ret (-1 : Int)) (fun b3 => .ret b3.1)).run = some (idxOf p l) := by
  rw [← indexFunc l hN hl (fun y => some (p y)) p (fun _ _ => rfl), rBind, rBind]
  congr 1
  exact iterT_congr (fun m => by simp only [rIte, rBind, rRet, Option.bind_some]) N _

theorem contains_run {f : Option Int} {α : Type} [Inhabited α] {l : List α} {p : α → Bool} (h : f = some (idxOf p l)) : (Tr.bind f fun x1 => Tr.ret (leI (0 : Int) x1)).run = some (l.any p) := by
  rw [h, rBind, Option.bind_some, rRet, idxOf_any]

/-! ### Labels as they are compared -/

def labEq (a b : Lab) : Bool := eqI a.1 b.1 && eqI a.2.1 b.2.1
theorem labEq_iff {a b : Lab} : labEq a b = true ↔ a = b := by
  obtain ⟨x, y, _⟩ := a
  obtain ⟨x', y', _⟩ := b
  simp [labEq, eqI_iff]
theorem labEq_refl (a : Lab) : labEq a a = true := labEq_iff.2 rfl
theorem labEq_dec (a b : Lab) : labEq a b = decide (a = b) := by
  rw [Bool.eq_iff_iff, labEq_iff]; simp
theorem labEq_comm (a b : Lab) : labEq a b = labEq b a := by
  rw [Bool.eq_iff_iff, labEq_iff, labEq_iff]; exact eq_comm
theorem eqbLab (a b : Lab) : Ty.eqb (.pair (.int .i64) (.pair (.int .i64) .unit)) a b = labEq a b := by
  simp only [Ty.eqb, labEq, eqI, Bool.and_true]

theorem slIndex_SLabel_F {N : Nat} (hN : 1048577 < N) (x : slIndex_SLabel.P.D) (hx : x.1.length ≤ 1048576) : slIndex_SLabel.F N x = some (idxOf (fun y => labEq x.2.1 y) x.1) := by
  rw [← indexPlain x.1 hN hx (fun y => labEq x.2.1 y)]
  simp only [← eqbLab]
  rfl
theorem slContains_SLabel_F {N : Nat} (hN : 1048577 < N) (x : slContains_SLabel.P.D) (hx : x.1.length ≤ 1048576) : slContains_SLabel.F N x = some (x.1.any fun y => labEq x.2.1 y) := contains_run (slIndex_SLabel_F hN x hx)

theorem sl05Cleared_F {N : Nat} (hN : 1048577 < N) (x : sl05Cleared.P.D) (hx : x.1.length ≤ 1048576) : sl05Cleared.F N x = some (x.1.any fun y => labEq x.2.1 y) := by
  have := iter_find (B := sl05Cleared.B0_0 N (x.1, x.2.1)) (n := x.1.length) (mk := fun i => ((i : Int), ())) (p := fun i => labEq x.2.1 x.1[i]!) (r := fun i => (true, ())) (o0 := ())
    (fun i hi => by
      simp only [sl05Cleared.B0_0, rIte, rBind, rRet, ltLen hi, if_true, idxAt hi, Option.bind_some, wInc (show i < 9223372036854775807 by omega), eqbLab, someIte]
      rw [labEq_comm])
    (by simp only [sl05Cleared.B0_0, rIte, rRet, ltEnd, Bool.false_eq_true, if_false]) (k := N) (by omega)
  unfold sl05Cleared.F sl05Cleared.T
  have h2 : sl05Cleared.L0_0 N (x.1, x.2.1) ((0 : Int), ()) = _ := this
  rw [rBind, h2, Option.bind_some, ← find_get]
  cases (List.range x.1.length).find? fun i => labEq x.2.1 x.1[i]! with
  | none => rfl
  | some i => rfl

/-! ### Chains -/

theorem iChain_1_F (N : Nat) (x : iChain_1.P.D) : iChain_1.F N x = some (!labR x.1) := by
  simp only [iChain_1.F, iChain_1.T, rBind, rRet, iLabelRight_F, Option.bind_some]
theorem slIndexFunc_iChain_1_F {N : Nat} (hN : 1048577 < N) (x : slIndexFunc_iChain_1.P.D) (hx : x.1.length ≤ 1048576) : slIndexFunc_iChain_1.F N x = some (idxOf (fun a => !labR a) x.1) :=
  indexFunc x.1 hN hx (fun a => iChain_1.F N (a, ())) _ (fun y _ => iChain_1_F N (y, ()))
theorem slContainsFunc_iChain_1_F {N : Nat} (hN : 1048577 < N) (x : slContainsFunc_iChain_1.P.D) (hx : x.1.length ≤ 1048576) : slContainsFunc_iChain_1.F N x = some (x.1.any fun a => !labR a) := contains_run (slIndexFunc_iChain_1_F hN x hx)

def chainAt (l : List Lab) (i : Nat) : Bool := !labEq l[i - 1]! l[i]! && belI l[i - 1]! l[i]!
def chainR (l : List Lab) : Bool := decide (1 ≤ l.length) && (decide (l.length ≤ 4) && (l.all labR && allR 1 l.length (chainAt l)))

theorem ltOne {α : Type} (l : List α) (n : Nat) : ltI (lenI l) (n : Int) = !decide (n ≤ l.length) := by
  rw [Bool.eq_iff_iff, ltI_iff]; simp [lenI]
theorem ltLenN {α : Type} (l : List α) (n : Nat) : ltI (n : Int) (lenI l) = !decide (l.length ≤ n) := by
  rw [Bool.eq_iff_iff, ltI_iff]; simp [lenI]
theorem leLenN {α : Type} (l : List α) (n : Nat) : leI (n : Int) (lenI l) = decide (n ≤ l.length) := by
  rw [Bool.eq_iff_iff, leI_iff]; simp [lenI]
theorem any_not {α : Type} (l : List α) (p : α → Bool) : (l.any fun a => !p a) = !l.all p := by
  rw [List.not_all_eq_any_not]

theorem iChain_F {N : Nat} (hN : 1048577 < N) (x : iChain.P.D) (hx : x.1.length ≤ 1048576) : iChain.F N x = some (chainR x.1) := by
  unfold iChain.F iChain.T
  rw [show (1 : Int) = ((1 : Nat) : Int) from rfl, show (4 : Int) = ((4 : Nat) : Int) from rfl, ltOne, ltLenN, rIte, rIte, rBind, slContainsFunc_iChain_1_F hN x hx, Option.bind_some, any_not, rIte]
  simp only [rRet, chainR]
  by_cases h1 : 1 ≤ x.1.length
  · by_cases h4 : x.1.length ≤ 4
    · simp only [h1, h4, decide_true, Bool.not_true, Bool.false_eq_true, if_false, Bool.true_and]
      rw [all_run (q := allR 1 x.1.length (chainAt x.1))]
      · cases x.1.all labR <;> simp
      · refine iter_all (mk := fun i => ((i : Int), ())) (fun i h1 hi _ => ?_) (fun _ => ?_) (by omega) h1
        · simp only [iChain.B0_0, rIte, rBind, rRet, ltLen hi, if_true, idxAt hi, idxPrev (show 0 < i by omega) (show i ≤ x.1.length by omega) (by omega), Option.bind_some, ibelow_F, wInc (show i < 9223372036854775807 by omega), eqbLab]
          unfold chainAt
          cases labEq x.1[i - 1]! x.1[i]! <;> cases belI x.1[i - 1]! x.1[i]! <;> rfl
        · simp only [iChain.B0_0, rIte, rRet, ltEnd, Bool.false_eq_true, if_false]
    · simp [h1, h4]
  · simp [h1]

theorem all_labR {l : List Lab} {i : Nat} (hi : i < l.length) : (∀ j, j < i + 1 → labR l[j]! = true) → labR l[i]! = true := fun h => h i (by omega)

theorem sChain_F {N : Nat} (hN : 1048577 < N) (x : sChain.P.D) (hx : x.1.length ≤ 1048576) : sChain.F N x = some (chainR x.1) := by
  unfold sChain.F sChain.T
  rw [show (1 : Int) = ((1 : Nat) : Int) from rfl, show (4 : Int) = ((4 : Nat) : Int) from rfl, ltOne, ltLenN, rIte, rIte]
  simp only [rRet, chainR]
  by_cases h1 : 1 ≤ x.1.length
  · by_cases h4 : x.1.length ≤ 4
    · simp only [h1, h4, decide_true, Bool.not_true, Bool.false_eq_true, if_false, Bool.true_and]
      rw [all_run (q := allN x.1.length fun i => labR x.1[i]! && (decide (i = 0) || (belS x.1[i - 1]! x.1[i]! && !labEq x.1[i - 1]! x.1[i]!)))]
      · congr 1
        rw [Bool.and_true, Bool.eq_iff_iff]
        simp only [Bool.and_eq_true, allN_true, allR_true, ← all_get, Bool.or_eq_true, decide_eq_true_eq, chainAt]
        constructor
        · intro h
          refine ⟨fun i hi => (h i hi).1, fun i h1 hi => ?_⟩
          obtain ⟨q1, q2⟩ := h i hi
          have q3 := (h (i - 1) (by omega)).1
          rcases q2 with q2 | q2
          · omega
          · rw [← bel_eq q3 q1]; exact ⟨q2.2, q2.1⟩
        · rintro ⟨h2, h3⟩ i hi
          refine ⟨h2 i hi, ?_⟩
          by_cases h0 : i = 0
          · exact .inl h0
          · right
            obtain ⟨q1, q2⟩ := h3 i (by omega) hi
            rw [bel_eq (h2 (i - 1) (by omega)) (h2 i hi)]; exact ⟨q2, q1⟩
      · refine iter_all (mk := fun i => ((i : Int), ())) (fun i _ hi _ => ?_) (fun _ => ?_) (by omega) (Nat.zero_le _)
        · simp only [sChain.B0_0, rIte, rBind, rRet, ltLen hi, if_true, idxAt hi, Option.bind_some, sLabelRight_F, sl02Below_F, wInc (show i < 9223372036854775807 by omega), eqbLab]
          rcases Nat.eq_zero_or_pos i with h0 | h0
          · subst h0
            rw [if_neg (show ¬ ltI 0 ((0 : Nat) : Int) = true by decide)]
            cases labR x.1[0]! <;> rfl
          · rw [if_pos (ltI_true (by omega)), idxPrev h0 (by omega) (by omega)]
            simp only [Option.bind_some, show decide (i = 0) = false by simp; omega, Bool.false_or]
            cases labR x.1[i]! <;> cases belS x.1[i - 1]! x.1[i]! <;> cases labEq x.1[i - 1]! x.1[i]! <;> rfl
        · simp only [sChain.B0_0, rIte, rRet, ltEnd, Bool.false_eq_true, if_false]
    · simp [h1, h4]
  · simp [h1]

/-! ### The nodes' labels -/

def Bnd {α : Type} (l : List (List α)) : Prop := l.length ≤ 1048576 ∧ ∀ x ∈ l, x.length ≤ 1048576

theorem iclearRight_1_F {N : Nat} (hN : 1048577 < N) (x : iclearRight_1.P.D) (hx : x.1.length ≤ 1048576) : iclearRight_1.F N x = some (!chainR x.1) := by
  simp only [iclearRight_1.F, iclearRight_1.T, rBind, rRet, iChain_F hN x hx, Option.bind_some]
theorem slIndexFunc_iclearRight_1_F {N : Nat} (hN : 1048577 < N) (x : slIndexFunc_iclearRight_1.P.D) (hx : Bnd x.1) : slIndexFunc_iclearRight_1.F N x = some (idxOf (fun a => !chainR a) x.1) :=
  indexFunc x.1 hN hx.1 (fun a => iclearRight_1.F N (a, ())) _ (fun y hy => iclearRight_1_F hN (y, ()) (hx.2 y hy))
theorem slContainsFunc_iclearRight_1_F {N : Nat} (hN : 1048577 < N) (x : slContainsFunc_iclearRight_1.P.D) (hx : Bnd x.1) : slContainsFunc_iclearRight_1.F N x = some (x.1.any fun a => !chainR a) := contains_run (slIndexFunc_iclearRight_1_F hN x hx)

def clearR (l : List (List Lab)) : Bool := (decide (1 ≤ l.length) && decide (l.length ≤ 6)) && l.all chainR
theorem winLen {α : Type} (l : List α) (a b : Nat) : win (lenI l) (a : Int) (b : Int) = (decide (a ≤ l.length) && decide (l.length ≤ b)) := by
  unfold win
  rw [leLenN, lenLe]

theorem iclearRight_F {N : Nat} (hN : 1048577 < N) (x : iclearRight.P.D) (hx : Bnd x.1) : iclearRight.F N x = some (clearR x.1) := by
  simp only [iclearRight.F, iclearRight.T, rBind, rIte, rRet, iwithin_F, slContainsFunc_iclearRight_1_F hN x hx, Option.bind_some, someIte, iteB, any_not, Bool.not_not]
  rw [show (1 : Int) = ((1 : Nat) : Int) from rfl, show (6 : Int) = ((6 : Nat) : Int) from rfl, winLen]
  rfl

theorem mem_at {α : Type} [Inhabited α] {l : List α} {i : Nat} (hi : i < l.length) : l[i]! ∈ l := by
  rw [getElem!_pos l i hi]; exact List.getElem_mem hi

theorem sl05Clear_F {N : Nat} (hN : 1048577 < N) (x : sl05Clear.P.D) (hx : Bnd x.1) : sl05Clear.F N x = some (clearR x.1) := by
  unfold sl05Clear.F sl05Clear.T
  have h1 : (Tr.ite (leI (1 : Int) (lenI x.1)) (.ret (leI (lenI x.1) (6 : Int))) (.ret false)) = Tr.ite (leI ((1 : Nat) : Int) (lenI x.1)) (.ret (leI (lenI x.1) ((6 : Nat) : Int))) (.ret false) := rfl
  have key := iter_all (B := sl05Clear.B0_0 N x) (mk := fun i => ((i : Int), ())) (a := 0) (n := min x.1.length 7) (p := fun i => chainR x.1[i]!) (r0 := (false, ())) (o0 := ())
    (fun i _ hi _ => by
      have hi' : i < x.1.length := by omega
      simp only [sl05Clear.B0_0, rIte, rBind, rRet, ltLen hi', leI_true (show (i : Int) ≤ 6 by omega), if_true, idxAt hi', Option.bind_some, sChain_F hN (x.1[i]!, ()) (hx.2 _ (mem_at hi')), wInc (show i < 9223372036854775807 by omega)]
      cases chainR x.1[i]! <;> rfl)
    (fun _ => by
      simp only [sl05Clear.B0_0, rIte, rBind, rRet]
      by_cases h : x.1.length ≤ 7
      · rw [Nat.min_eq_left h, ltEnd]; rfl
      · rw [Nat.min_eq_right (by omega), leI_false (show (6 : Int) < ((7 : Nat) : Int) by decide)]
        simp only [Bool.false_eq_true, if_false]
        split <;> rfl) (k := N) (by have := hx.1; omega) (Nat.zero_le _)
  have h2 : sl05Clear.L0_0 N x ((0 : Int), ()) = _ := key
  rw [rBind, h2, Option.bind_some, rSumIte, h1, rIte, leLenN, lenLe]
  simp only [rRet, someIte, iteB]
  unfold clearR
  congr 1
  rw [Bool.eq_iff_iff]
  simp only [Bool.and_eq_true, decide_eq_true_eq, ← all_get, allN_true, allR_true]
  constructor
  · rintro ⟨h1, h2, h3⟩
    exact ⟨⟨h2, h3⟩, fun i hi => h1 i (Nat.zero_le _) (by omega)⟩
  · rintro ⟨⟨h2, h3⟩, h1⟩
    exact ⟨fun i _ hi => h1 i (by omega), h2, h3⟩

end Go.Proofs.YtjnfmjeiceiciaaGreat
