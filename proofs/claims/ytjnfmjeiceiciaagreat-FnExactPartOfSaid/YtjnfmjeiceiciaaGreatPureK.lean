/-
Yards, mails, states: the program and the reference tell the same.
-/
import Derived.Test.YtjnfmjeiceiciaaGreatPureJ
namespace Go.Proofs.YtjnfmjeiceiciaaGreat
open X Go
set_option linter.unusedVariables false
set_option linter.unusedSimpArgs false
set_option linter.unnecessarySimpa false
set_option maxRecDepth 100000

/-! ### Nodes are taken once -/

def take1s (tk : List Bool) (n : Int) : Option (List Bool) := if tk[n.toNat]! = true then none else some (tk.set n.toNat true)
/-- A task takes its nodes, if it runs. -/
def takeT (tk : List Bool) (t : Tsk) : Option (List Bool) := if eqI (tState t) 2 = true then (tNodes t).foldlM take1s tk else some tk
def takeY (y : Yrd) (tk : List Bool) (t : Tsk) : Option (List Bool) := if fitsR y t = true then takeT tk t else none

theorem take1s_len {tk tk' : List Bool} {n : Int} (h : take1s tk n = some tk') : tk'.length = tk.length := by
  unfold take1s at h
  split at h
  · cases h
  · cases h; simp
theorem foldM_len : ∀ (ns : List Int) (tk tk' : List Bool), ns.foldlM take1s tk = some tk' → tk'.length = tk.length
  | [], tk, tk', h => by cases h; rfl
  | n :: r, tk, tk', h => by
    rw [List.foldlM_cons] at h
    cases h1 : take1s tk n with
    | none => rw [h1] at h; cases h
    | some s => rw [h1] at h; rw [foldM_len r s tk' h, take1s_len h1]
theorem takeT_len {tk tk' : List Bool} {t : Tsk} (h : takeT tk t = some tk') : tk'.length = tk.length := by
  unfold takeT at h
  split at h
  · exact foldM_len _ _ _ h
  · cases h; rfl
theorem takeY_len {y : Yrd} {tk tk' : List Bool} {t : Tsk} (h : takeY y tk t = some tk') : tk'.length = tk.length := by
  unfold takeY at h
  split at h
  · exact takeT_len h
  · cases h

theorem six {n : Int} (h0 : 0 ≤ n) (h5 : n ≤ 5) {tk : List Bool} (h6 : tk.length = 6) : ltI n 6 = true ∧ idx tk n = some tk[n.toNat]! := by
  refine ⟨ltI_true (by omega), ?_⟩
  rw [← idxAt (l := tk) (n := n.toNat) (by omega), Int.toNat_of_nonneg h0]

theorem set_same {tk : List Bool} {k : Nat} (h : tk[k]! = false) : tk.set k false = tk := by
  apply List.ext_getElem?
  intro i
  rw [List.getElem?_set]
  split
  · rename_i e
    subst e
    split
    · rename_i hl
      rw [List.getElem?_eq_getElem hl]
      rw [getElem!_pos tk k hl] at h
      rw [h]
    · rename_i hl
      rw [List.getElem?_eq_none (by omega)]
  · rfl
theorem set_same_true {tk : List Bool} {k : Nat} (h : tk[k]! = true) : tk.set k true = tk := by
  apply List.ext_getElem?
  intro i
  rw [List.getElem?_set]
  split
  · rename_i e
    subst e
    split
    · rename_i hl
      rw [List.getElem?_eq_getElem hl]
      rw [getElem!_pos tk k hl] at h
      rw [h]
    · rename_i hl
      rw [List.getElem?_eq_none (by omega)]
  · rfl

theorem iTake_F {N : Nat} (hN : 1048577 < N) (t : Tsk) (hl : (tNodes t).length ≤ 1048576) (hn : ∀ n ∈ tNodes t, 0 ≤ n ∧ n ≤ 5) (tk : List Bool) (h6 : tk.length = 6) (c : iYardRight.C0_4.D) (hc1 : c.2.2.2.1 = tNodes t) (hc2 : c.2.2.2.2.1 = lenI (tNodes t)) (hc3 : c.2.2.2.2.2.2.2.2.2.2.2.2.2.2.2.2.2.2.2.2.2.2.2.2.1 = tState t) :
    iYardRight.L0_4 N c ((0 : Int), (tk, ())) = some (match takeT tk t with | some s => .inl (s, ()) | none => .inr (false, ())) := by
  have := iter_foldM (B := iYardRight.B0_4 N c) (tNodes t) (fun tk n => if eqI (tState t) 2 = true then take1s tk n else some tk) (fun tk => tk.length = 6) (fun i s => ((i : Int), (s, ()))) (fun s => (s, ())) (false, ())
    (fun i s hi hI => by
      obtain ⟨n0, n5⟩ := hn _ (mem_at hi)
      obtain ⟨s1, s2⟩ := six n0 n5 hI
      simp only [iYardRight.B0_4, hc1, hc2, hc3, rIte, rBind, rRet, ltLen hi, if_true, idxAt hi, Option.bind_some, s1, s2, wInc (show i < 9223372036854775807 by omega)]
      refine ⟨?_, fun s' hs => ?_⟩
      · unfold take1s
        cases h2 : eqI (tState t) 2 with
        | true =>
          cases hb : s[(tNodes t)[i]!.toNat]! with
          | true => rfl
          | false => rfl
        | false =>
          cases hb : s[(tNodes t)[i]!.toNat]! with
          | true => simp only [Bool.false_eq_true, if_false, if_true, set_same_true hb]
          | false => simp only [Bool.false_eq_true, if_false, set_same hb]
      · split at hs
        · rw [take1s_len hs]; exact hI
        · cases hs; exact hI)
    (fun s hI => by
      simp only [iYardRight.B0_4, hc2, rIte, rRet, ltEnd, Bool.false_eq_true, if_false]) (k := N) (by omega) h6
  have e : iYardRight.L0_4 N c ((0 : Int), (tk, ())) = _ := this
  rw [e]
  unfold takeT
  cases h2 : eqI (tState t) 2 with
  | true =>
    simp only [if_true]
    have e2 : List.foldlM (fun tk n => take1s tk n) tk (tNodes t) = List.foldlM take1s tk (tNodes t) := rfl
    rw [e2]
    cases List.foldlM take1s tk (tNodes t) <;> rfl
  | false =>
    have : ∀ (l : List Int), l.foldlM (fun (tk : List Bool) (n : Int) => some tk) tk = some tk := by
      intro l
      induction l with
      | nil => rfl
      | cons a r ih => rw [List.foldlM_cons]; exact ih
    simp only [Bool.false_eq_true, if_false, this]

theorem sTake_F {N : Nat} (hN : 1048577 < N) (t : Tsk) (hl : (tNodes t).length ≤ 1048576) (hn : ∀ n ∈ tNodes t, 0 ≤ n ∧ n ≤ 5) (tk : List Bool) (h6 : tk.length = 6) (c : sYardRight.C0_4.D) (hc1 : c.2.2.2.2.2.2.2.2.2.2.2.2.2.2.2.2.2.2.2.2.2.2.1 = tNodes t) (hc3 : c.2.2.2.2.2.2.2.2.2.2.2.2.2.2.2.2.2.2.2.2.1 = tState t) :
    sYardRight.L0_4 N c ((0 : Int), (tk, ())) = some (match takeT tk t with | some s => .inl (s, ()) | none => .inr (false, ())) := by
  unfold takeT
  cases h2 : eqI (tState t) 2 with
  | true =>
    have := iter_foldM (B := sYardRight.B0_4 N c) (tNodes t) take1s (fun tk => tk.length = 6) (fun i s => ((i : Int), (s, ()))) (fun s => (s, ())) (false, ())
      (fun i s hi hI => by
        obtain ⟨n0, n5⟩ := hn _ (mem_at hi)
        obtain ⟨s1, s2⟩ := six n0 n5 hI
        simp only [sYardRight.B0_4, hc1, hc3, h2, rIte, rBind, rRet, ltLen hi, if_true, idxAt hi, Option.bind_some, s2, wInc (show i < 9223372036854775807 by omega)]
        refine ⟨?_, fun s' hs => by rw [take1s_len hs]; exact hI⟩
        unfold take1s
        cases hb : s[(tNodes t)[i]!.toNat]! with
        | true => rfl
        | false => rfl)
      (fun s hI => by
        simp only [sYardRight.B0_4, hc1, rIte, rRet, ltEnd, Bool.false_eq_true, if_false]) (k := N) (by omega) h6
    have e : sYardRight.L0_4 N c ((0 : Int), (tk, ())) = _ := this
    rw [e]
    simp only [if_true]
    cases List.foldlM take1s tk (tNodes t) <;> rfl
  | false =>
    simp only [Bool.false_eq_true, if_false]
    unfold sYardRight.L0_4
    obtain ⟨k, rfl⟩ : ∃ k, N = k + 1 := ⟨N - 1, by omega⟩
    rw [iterT_succ]
    have hb : (sYardRight.B0_4 (k + 1) c ((0 : Int), (tk, ()))).run = some (.out (tk, ())) := by
      simp only [sYardRight.B0_4, hc1, hc3, h2, rIte, rRet, Bool.false_eq_true, if_false, ite_self]
    rw [hb]

/-! ### Yards -/

def takenR (y : Yrd) : Bool := (y.2.2.1.foldlM (takeY y) [false, false, false, false, false, false]).isSome
def quotasOk (y : Yrd) : Bool := (labsOf y.1.1).all fun a => !ltI (quotaOf y.1 a) (liveN a y.2.2.1 : Int)
def usesOk (y : Yrd) : Bool := y.2.2.2.1.all fun u => inLabs (labsOf y.1.1) u.1
def yardR (y : Yrd) : Bool := configR y.1 && (decide (y.2.1.length = y.1.1.length) && (nodsR y.2.1 && (tasksR y.2.2.1 && (usesR y.2.2.2.1 && (win y.2.2.2.2.1 0 999900 && (takenR y && (quotasOk y && usesOk y)))))))
def YrdB (y : Yrd) : Prop := CfgB y.1 ∧ NodB y.2.1 ∧ TskB y.2.2.1 ∧ y.2.2.2.1.length ≤ 1048576

theorem tasksR_each {l : List Tsk} (h : tasksR l = true) : ∀ t ∈ l, taskR t = true := by
  unfold tasksR at h
  rw [Bool.and_eq_true, allN_true] at h
  intro t ht
  obtain ⟨i, hi, rfl⟩ := List.getElem_of_mem ht
  have := h.2 i hi
  unfold tskAt at this
  rw [Bool.and_eq_true, getElem!_pos l i hi] at this
  exact this.1

theorem iYardRight_1_p_F {N : Nat} (hN : 1048577 < N) (x : iYardRight_1_p.P.D) (hx : YrdB x.2.1) : iYardRight_1_p.F N x = some (ltI (quotaOf x.2.1.1 x.1) (liveN x.1 x.2.1.2.2.1 : Int)) := by
  have h1 := iliveOf_F hN (x.2.1.2.2.1, x.1, ()) hx.2.2.1.1
  have h2 := iQuotaOf_F hN (x.2.1.1, x.1, ()) hx.1
  simp only [iYardRight_1_p.F, iYardRight_1_p.T, rBind, rRet, h1, h2, Option.bind_some]
theorem slIndexFunc_iYardRight_1_F {N : Nat} (hN : 1048577 < N) (x : slIndexFunc_iYardRight_1.P.D) (hl : x.1.length ≤ 1048576) (hx : YrdB x.2.1) : slIndexFunc_iYardRight_1.F N x = some (idxOf (fun a => ltI (quotaOf x.2.1.1 a) (liveN a x.2.1.2.2.1 : Int)) x.1) :=
  indexFunc x.1 hN hl (fun a => iYardRight_1_p.F N (a, x.2.1, ())) _ (fun y _ => iYardRight_1_p_F hN (y, x.2.1, ()) hx)
theorem slContainsFunc_iYardRight_1_F {N : Nat} (hN : 1048577 < N) (x : slContainsFunc_iYardRight_1.P.D) (hl : x.1.length ≤ 1048576) (hx : YrdB x.2.1) : slContainsFunc_iYardRight_1.F N x = some (x.1.any fun a => ltI (quotaOf x.2.1.1 a) (liveN a x.2.1.2.2.1 : Int)) := contains_run (slIndexFunc_iYardRight_1_F hN x hl hx)

theorem iYardRight_2_p_F {N : Nat} (hN : 1048577 < N) (x : iYardRight_2_p.P.D) (hx : x.2.1.length ≤ 1048576) : iYardRight_2_p.F N x = some (!inLabs x.2.1 x.1.1) := by
  have h1 := slContains_SLabel_F hN (x.2.1, x.1.1, ()) hx
  simp only [iYardRight_2_p.F, iYardRight_2_p.T, rBind, rRet, h1, Option.bind_some]
  rfl
theorem slIndexFunc_iYardRight_2_F {N : Nat} (hN : 1048577 < N) (x : slIndexFunc_iYardRight_2.P.D) (hl : x.1.length ≤ 1048576) (hx : x.2.1.length ≤ 1048576) : slIndexFunc_iYardRight_2.F N x = some (idxOf (fun u => !inLabs x.2.1 u.1) x.1) :=
  indexFunc x.1 hN hl (fun a => iYardRight_2_p.F N (a, x.2.1, ())) _ (fun y _ => iYardRight_2_p_F hN (y, x.2.1, ()) hx)
theorem slContainsFunc_iYardRight_2_F {N : Nat} (hN : 1048577 < N) (x : slContainsFunc_iYardRight_2.P.D) (hl : x.1.length ≤ 1048576) (hx : x.2.1.length ≤ 1048576) : slContainsFunc_iYardRight_2.F N x = some (x.1.any fun u => !inLabs x.2.1 u.1) := contains_run (slIndexFunc_iYardRight_2_F hN x hl hx)

theorem lenEq {α β : Type} (l : List α) (m : List β) : eqI (lenI l) (lenI m) = decide (l.length = m.length) := by
  rw [Bool.eq_iff_iff, eqI_iff, decide_eq_true_eq]
  unfold lenI
  omega

theorem iYardRight_F {N : Nat} (hN : 1048577 < N) (x : iYardRight.P.D) (hx : YrdB x.1) : iYardRight.F N x = some (yardR x.1) := by
  obtain ⟨y, u⟩ := x
  dsimp only at hx
  have h1 := iConfigRight_F hN (y.1, ()) hx.1
  have h2 := iNodesRight_F hN (y.2.1, ()) hx.2.1
  have h3 := iTasksRight_F hN (y.2.2.1, ()) hx.2.2.1
  have h4 := iUsesRight_F hN (y.2.2.2.1, ()) hx.2.2.2
  have h5 := iisNow_F N (y.2.2.2.2.1, ())
  have h5' : iisNow.F N y.2.2.2.2 = some (win y.2.2.2.2.1 0 999900) := iisNow_F N y.2.2.2.2
  unfold iYardRight.F iYardRight.T yardR
  dsimp only
  rw [rBind, h1, Option.bind_some, rIte]
  cases hc : configR y.1 with
  | false => rfl
  | true =>
    rw [if_neg (by decide), rIte, lenEq]
    cases hlen : decide (y.2.1.length = y.1.1.length) with
    | false => rfl
    | true =>
      rw [if_neg (by decide), rBind, h2, Option.bind_some, rIte]
      cases nodsR y.2.1 with
      | false => rfl
      | true =>
        rw [if_neg (by decide), rBind, h3, Option.bind_some, rIte]
        cases htk : tasksR y.2.2.1 with
        | false => rfl
        | true =>
          rw [if_neg (by decide), rBind, h4, Option.bind_some, rIte]
          cases usesR y.2.2.2.1 with
          | false => rfl
          | true =>
            rw [if_neg (by decide), rBind, h5', Option.bind_some, rIte]
            cases win y.2.2.2.2.1 0 999900 with
            | false => rfl
            | true =>
              have hbnd := hx.1.1
              have hcl := configR_clear hc
              have each := tasksR_each htk
              have hlab := iConfig_labels_F hN (y.1, ()) hcl
              have hll := labsOf_len y.1.1
              have key := iter_foldM (B := iYardRight.B0_0 N (y.2.2.1, (lenI y.2.2.1), y.1.1, y.1.2.1, y.1.2.2.1, y.1.2.2.2.1, y.2)) y.2.2.1 (takeY y) (fun tk => tk.length = 6) (fun i s => ((i : Int), (s, ()))) (fun s => ()) (false, ())
                (fun i s hi hI => by
                  have ht := hx.2.2.1.2 _ (mem_at hi)
                  have hfit := iYard_taskFits_F hN (y, y.2.2.1[i]!, ()) hbnd ht
                  have hfit' : iYard_taskFits.F N (((y.1.1, y.1.2.1, y.1.2.2.1, y.1.2.2.2.1, ()), y.2), y.2.2.1[i]!, ()) = some (fitsR y y.2.2.1[i]!) := hfit
                  have htake := iTake_F hN y.2.2.1[i]! ht (taskR_nodes (each _ (mem_at hi))) s hI (y.2.2.1, (lenI y.2.2.1), (i : Int), y.2.2.1[i]!.2.2.2.2.2.2.2.2.2.2.2.1, (lenI y.2.2.1[i]!.2.2.2.2.2.2.2.2.2.2.2.1), y.1.1, y.1.2.1, y.1.2.2.1, y.1.2.2.2.1, y.2.1, y.2.2.1, y.2.2.2.1, y.2.2.2.2.1, y.2.2.1[i]!.1.1, y.2.2.1[i]!.1.2.1, y.2.2.1[i]!.2.1, y.2.2.1[i]!.2.2.1, y.2.2.1[i]!.2.2.2.1, y.2.2.1[i]!.2.2.2.2.1, y.2.2.1[i]!.2.2.2.2.2.1, y.2.2.1[i]!.2.2.2.2.2.2.1.1, y.2.2.1[i]!.2.2.2.2.2.2.1.2.1, y.2.2.1[i]!.2.2.2.2.2.2.2) rfl rfl rfl
                  have hl := hx.2.2.1.1
                  simp only [iYardRight.B0_0, rIte, rBind, rRet, ltLen hi, if_true, idxAt hi, Option.bind_some, hfit', htake, wInc (show i < 9223372036854775807 by omega)]
                  refine ⟨?_, fun s' hs => by rw [takeY_len hs]; exact hI⟩
                  unfold takeY
                  cases fitsR y y.2.2.1[i]! with
                  | false => rfl
                  | true =>
                    simp only [Bool.not_true, Bool.false_eq_true, if_false, if_true]
                    cases takeT s y.2.2.1[i]! with
                    | none => rfl
                    | some s' => rfl)
                (fun s hI => by
                  simp only [iYardRight.B0_0, rIte, rRet, ltEnd, Bool.false_eq_true, if_false]) (k := N) (by have := hx.2.2.1.1; omega) (s0 := [false, false, false, false, false, false]) rfl
              have e : iYardRight.L0_0 N (y.2.2.1, (lenI y.2.2.1), y.1.1, y.1.2.1, y.1.2.2.1, y.1.2.2.2.1, y.2) ((0 : Int), ([false, false, false, false, false, false] ++ List.drop 6 (List.replicate 6 (Ty.zero .bool))), ()) = _ := key
              have h9 := slContainsFunc_iYardRight_1_F hN (labsOf y.1.1, y, ()) (by show (labsOf y.1.1).length ≤ 1048576; omega) hx
              have h9' : slContainsFunc_iYardRight_1.F N (labsOf y.1.1, y, u) = _ := h9
              have h10 := slContainsFunc_iYardRight_2_F hN (y.2.2.2.1, labsOf y.1.1, ()) hx.2.2.2 (by show (labsOf y.1.1).length ≤ 1048576; omega)
              rw [if_neg (by decide), rIte, if_pos (by decide), rBind, e, Option.bind_some]
              unfold takenR
              cases y.2.2.1.foldlM (takeY y) [false, false, false, false, false, false] with
              | none => rfl
              | some s =>
                simp only [rInl, rBind, rIte, rRet, hlab, h9', h10, Option.bind_some, someIte, iteN, any_not, Bool.not_not, Option.isSome_some, Bool.true_and]
                unfold quotasOk usesOk
                rw [List.not_any_eq_all_not]

theorem sYardRight_F {N : Nat} (hN : 1048577 < N) (x : sYardRight.P.D) (hx : YrdB x.1) : sYardRight.F N x = some (yardR x.1) := by
  obtain ⟨y, u⟩ := x
  dsimp only at hx
  have h1 := sConfigRight_F hN (y.1, ()) hx.1
  have h2 := sNodesRight_F hN (y.2.1, ()) hx.2.1
  have h3 := sTasksRight_F hN (y.2.2.1, ()) hx.2.2.1
  have h4 := sUsesRight_F hN (y.2.2.2.1, ()) hx.2.2.2
  have h5' : sl03Now.F N y.2.2.2.2 = some (win y.2.2.2.2.1 0 999900) := sl03Now_F N y.2.2.2.2
  unfold sYardRight.F sYardRight.T yardR
  dsimp only
  rw [rBind, h5', Option.bind_some, rIte]
  cases hw : win y.2.2.2.2.1 0 999900 with
  | false => simp [rRet]
  | true =>
    rw [if_neg (by decide), rBind, h1, Option.bind_some, rIte]
    cases hc : configR y.1 with
    | false => rfl
    | true =>
      rw [if_neg (by decide), rBind, h2, Option.bind_some, rIte]
      cases nodsR y.2.1 with
      | false => simp [rRet]
      | true =>
        rw [if_neg (by decide), rIte, lenEq]
        cases hlen : decide (y.2.1.length = y.1.1.length) with
        | false => rfl
        | true =>
          rw [if_neg (by decide), rBind, h3, Option.bind_some, rIte]
          cases htk : tasksR y.2.2.1 with
          | false => rfl
          | true =>
            rw [if_neg (by decide), rBind, h4, Option.bind_some, rIte]
            cases usesR y.2.2.2.1 with
            | false => rfl
            | true =>
              have hbnd := hx.1.1
              have hcl := configR_clear hc
              have each := tasksR_each htk
              have hlab := sl09Labels_F hN (y.1.1, ()) hbnd
              have hll := labsOf_len y.1.1
              have key := iter_foldM (B := sYardRight.B0_0 N (y.1.1, y.1.2.1, y.1.2.2.1, y.1.2.2.2.1, y.2)) y.2.2.1 (takeY y) (fun tk => tk.length = 6) (fun i s => ((i : Int), (s, ()))) (fun s => ()) (false, ())
                (fun i s hi hI => by
                  have ht := hx.2.2.1.2 _ (mem_at hi)
                  have hfit := sl13Task_F hN (y, y.2.2.1[i]!, ()) hbnd (each _ (mem_at hi)) ht (of_decide_eq_true hlen) hw
                  have hfit' : sl13Task.F N (((y.1.1, y.1.2.1, y.1.2.2.1, y.1.2.2.2.1, ()), y.2), y.2.2.1[i]!, ()) = some (fitsR y y.2.2.1[i]!) := hfit
                  have htake := sTake_F hN y.2.2.1[i]! ht (taskR_nodes (each _ (mem_at hi))) s hI ((i : Int), y.1.1, y.1.2.1, y.1.2.2.1, y.1.2.2.2.1, y.2.1, y.2.2.1, y.2.2.2.1, y.2.2.2.2.1, y.2.2.1[i]!.1.1, y.2.2.1[i]!.1.2.1, y.2.2.1[i]!.2.1, y.2.2.1[i]!.2.2.1, y.2.2.1[i]!.2.2.2.1, y.2.2.1[i]!.2.2.2.2.1, y.2.2.1[i]!.2.2.2.2.2.1, y.2.2.1[i]!.2.2.2.2.2.2.1.1, y.2.2.1[i]!.2.2.2.2.2.2.1.2.1, y.2.2.1[i]!.2.2.2.2.2.2.2) rfl rfl
                  have hl := hx.2.2.1.1
                  simp only [sYardRight.B0_0, rIte, rBind, rRet, ltLen hi, if_true, idxAt hi, Option.bind_some, hfit', htake, wInc (show i < 9223372036854775807 by omega)]
                  refine ⟨?_, fun s' hs => by rw [takeY_len hs]; exact hI⟩
                  unfold takeY
                  cases fitsR y y.2.2.1[i]! with
                  | false => rfl
                  | true =>
                    simp only [Bool.not_true, Bool.false_eq_true, if_false, if_true]
                    cases takeT s y.2.2.1[i]! with
                    | none => rfl
                    | some s' => rfl)
                (fun s hI => by
                  simp only [sYardRight.B0_0, rIte, rRet, ltEnd, Bool.false_eq_true, if_false]) (k := N) (by have := hx.2.2.1.1; omega) (s0 := [false, false, false, false, false, false]) rfl
              have e : sYardRight.L0_0 N (y.1.1, y.1.2.1, y.1.2.2.1, y.1.2.2.2.1, y.2) ((0 : Int), (List.replicate (Int.toNat (6 : Int)) (Ty.zero .bool)), ()) = _ := key
              have k8 : sYardRight.L0_8 N (y.1.1, y.1.2.1, y.1.2.2.1, y.1.2.2.2.1, y.2.1, y.2.2.1, y.2.2.2.1, y.2.2.2.2.1, labsOf y.1.1, ()) ((0 : Int), ()) = some (if (allN y.2.2.2.1.length fun i => inLabs (labsOf y.1.1) y.2.2.2.1[i]!.1) = true then .inl () else .inr (false, ())) := by
                refine iter_all (mk := fun i => ((i : Int), ())) (fun i _ hi _ => ?_) (fun _ => ?_) (by have := hx.2.2.2; omega) (Nat.zero_le _)
                · have hcl := sl05Cleared_F hN (labsOf y.1.1, y.2.2.2.1[i]!.1, ()) (by show (labsOf y.1.1).length ≤ 1048576; omega)
                  simp only [sYardRight.B0_8, rIte, rBind, rRet, ltLen hi, if_true, idxAt hi, Option.bind_some, hcl, wInc (show i < 9223372036854775807 by have := hx.2.2.2; omega)]
                  exact nbIte1 _ _ _
                · simp only [sYardRight.B0_8, rIte, rRet, ltEnd, Bool.false_eq_true, if_false]
              have k12 : sYardRight.L0_12 N (y.1.1, y.1.2.1, y.1.2.2.1, y.1.2.2.2.1, y.2.1, y.2.2.1, y.2.2.2.1, y.2.2.2.2.1, labsOf y.1.1, ()) ((0 : Int), ()) = some (if (allN (labsOf y.1.1).length fun i => !ltI (quotaOf y.1 (labsOf y.1.1)[i]!) (liveN (labsOf y.1.1)[i]! y.2.2.1 : Int)) = true then .inl () else .inr (false, ())) := by
                refine iter_all (mk := fun i => ((i : Int), ())) (fun i _ hi _ => ?_) (fun _ => ?_) (by omega) (Nat.zero_le _)
                · have hlv := sLiveOf_F hN (y.2.2.1, (labsOf y.1.1)[i]!, ()) hx.2.2.1
                  have hlv' : sLiveOf.F N (y.2.2.1, (labsOf y.1.1)[i]!, ()) = some (liveN (labsOf y.1.1)[i]! y.2.2.1 : Int) := by rw [hlv, if_pos htk]
                  have hqo := sQuotaOf_F hN (y.1, (labsOf y.1.1)[i]!, ()) hx.1
                  have hqo' : sQuotaOf.F N ((y.1.1, y.1.2.1, y.1.2.2.1, y.1.2.2.2.1, ()), (labsOf y.1.1)[i]!, ()) = some (quotaOf y.1 (labsOf y.1.1)[i]!) := hqo
                  simp only [sYardRight.B0_12, rIte, rBind, rRet, ltLen hi, if_true, idxAt hi, Option.bind_some, hlv', hqo', wInc (show i < 9223372036854775807 by omega)]
                  exact bIte1 _ _ _
                · simp only [sYardRight.B0_12, rIte, rRet, ltEnd, Bool.false_eq_true, if_false]
              rw [if_neg (by decide), rIte, if_pos (by decide), rBind, e, Option.bind_some]
              unfold takenR
              cases y.2.2.1.foldlM (takeY y) [false, false, false, false, false, false] with
              | none => rfl
              | some s =>
                rw [rInl, rBind, hlab, Option.bind_some, rBind, k8, Option.bind_some, rSumIte, rBind, k12, Option.bind_some, rSumIte, all_get (labsOf y.1.1) (fun a => !ltI (quotaOf y.1 a) (liveN a y.2.2.1 : Int)), all_get y.2.2.2.1 (fun u => inLabs (labsOf y.1.1) u.1)]
                simp only [rRet, someIte, iteB, Option.isSome_some, Bool.true_and]
                unfold quotasOk usesOk
                cases (y.2.2.2.1.all fun u => inLabs (labsOf y.1.1) u.1) <;> cases ((labsOf y.1.1).all fun a => !ltI (quotaOf y.1 a) (liveN a y.2.2.1 : Int)) <;> rfl

end Go.Proofs.YtjnfmjeiceiciaaGreat
