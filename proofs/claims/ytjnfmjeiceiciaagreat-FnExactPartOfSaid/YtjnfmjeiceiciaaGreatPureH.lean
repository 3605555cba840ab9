/-
Lists of tasks.
-/
import Derived.Test.YtjnfmjeiceiciaaGreatPureG
namespace Go.Proofs.YtjnfmjeiceiciaaGreat
open X Go
set_option linter.unusedVariables false
set_option linter.unusedSimpArgs false
set_option linter.unnecessarySimpa false
set_option maxRecDepth 100000

theorem sTaskRight_F {N : Nat} (hN : 1048577 < N) (x : sTaskRight.P.D) (hx : (tNodes x.1).length ≤ 1048576) : sTaskRight.F N x = some (taskR x.1) := by
  obtain ⟨t, u⟩ := x
  dsimp only at hx
  have hn := sl04Nodes_F hN (tNodes t, ()) hx
  simp only [sTaskRight.F, sTaskRight.T, rBind, rIte, rRet, sLabelRight_F, sl02Is_F, sNameRight_F hN, sl03Now_F, sBelow_F, sl02Time_F, hn, Option.bind_some, someIte, iteB, iteNB, iteN, eqbLab]
  congr 1
  unfold taskR depR placeR workR
  have e := hasPl_not t
  rw [e]
  have eh : ltI 0 (lenI (tNodes t)) = hasPl t := rfl
  have eh2 : hasPl t = !eqI (lenI (tNodes t)) 0 := by rw [← e, Bool.not_not]
  rw [eh, eh2]
  generalize eqI (lenI (tNodes t)) 0 = hp
  cases ha : eqI (tAfter t) 0 with
  | true =>
    rw [win_zero ha (by decide)]
    generalize win t.2.2.2.1 1 6 = w1
    generalize win t.2.2.2.2.1 1 20 = w2
    generalize win t.2.2.2.2.2.1 0 9 = w3
    cases labEq (tUnder t) (0, 0, ()) <;> cases eqI (tState t) 2 <;> cases eqI (tState t) 1 <;> cases hp <;> simp [Bool.and_assoc]
  | false =>
    generalize win t.2.2.2.1 1 6 = w1
    generalize win t.2.2.2.2.1 1 20 = w2
    generalize win t.2.2.2.2.2.1 0 9 = w3
    cases win (tAfter t) 1 12 <;> cases (labR (tUnder t) && (labR t.1 && belI (tUnder t) t.1)) <;> cases labEq (tUnder t) t.1 <;> cases leI t.2.1 (tAfter t) <;> cases eqI (tState t) 2 <;> cases eqI (tState t) 1 <;> cases hp <;> simp [Bool.and_assoc]

/-- Is it this task? -/
def isTsk (a : Lab) (id : Int) (t : Tsk) : Bool := labEq t.1 a && eqI t.2.1 id

theorem itaskAt_1_pp_F (N : Nat) (x : itaskAt_1_pp.P.D) : itaskAt_1_pp.F N x = some (isTsk x.2.1 x.2.2.1 x.1) := by
  simp only [itaskAt_1_pp.F, itaskAt_1_pp.T, rIte, rRet, someIte, iteB, eqbLab, isTsk]
theorem slIndexFunc_itaskAt_1_F {N : Nat} (hN : 1048577 < N) (x : slIndexFunc_itaskAt_1.P.D) (hx : x.1.length ≤ 1048576) : slIndexFunc_itaskAt_1.F N x = some (idxOf (isTsk x.2.1 x.2.2.1) x.1) :=
  indexFunc x.1 hN hx (fun a => itaskAt_1_pp.F N (a, x.2.1, x.2.2.1, ())) _ (fun y _ => itaskAt_1_pp_F N _)
theorem itaskAt_F {N : Nat} (hN : 1048577 < N) (x : itaskAt.P.D) (hx : x.1.length ≤ 1048576) : itaskAt.F N x = some (idxOf (isTsk x.2.1 x.2.2.1) x.1) := by
  have := slIndexFunc_itaskAt_1_F hN x hx
  simp only [itaskAt.F, itaskAt.T, rBind, rRet, this, Option.bind_some]

theorem sl12At_F {N : Nat} (hN : 1048577 < N) (x : sl12At.P.D) (hx : x.1.length ≤ 1048576) : sl12At.F N x = some (idxOf (isTsk x.2.1 x.2.2.1) x.1) := by
  obtain ⟨l, a, id, u⟩ := x
  dsimp only at hx
  have := iter_find (B := sl12At.B0_0 N (l, id, a)) (n := l.length) (mk := fun i => ((i : Int), ())) (p := fun i => isTsk a id l[i]!) (r := fun i => ((i : Int), ())) (o0 := ())
    (fun i hi => by
      simp only [sl12At.B0_0, rIte, rBind, rRet, ltLen hi, if_true, idxAt hi, Option.bind_some, wInc (show i < 9223372036854775807 by omega), eqbLab]
      unfold isTsk
      cases labEq l[i]!.1 a <;> cases eqI l[i]!.2.1 id <;> rfl)
    (by simp only [sl12At.B0_0, rIte, rRet, ltEnd, Bool.false_eq_true, if_false]) (k := N) (by omega)
  have e : sl12At.L0_0 N (l, id, a) ((0 : Int), ()) = _ := this
  unfold sl12At.F sl12At.T
  dsimp only
  rw [rBind, e, Option.bind_some]
  unfold idxOf
  cases (List.range l.length).find? fun i => isTsk a id l[i]! with
  | none => rfl
  | some i => rfl

/-- Its number follows. -/
def idOk (l : List Tsk) (i : Nat) : Bool :=
  if i = 0 then eqI l[i]!.2.1 1 else if ltI (cmpLab l[i - 1]!.1 l[i]!.1) 0 = true then eqI l[i]!.2.1 1 else eqI (cmpLab l[i - 1]!.1 l[i]!.1) 0 && eqI l[i]!.2.1 (l[i - 1]!.2.1 + 1)
def tskAt (l m : List Tsk) (i : Nat) : Bool := taskR l[i]! && (idOk l i && (eqI (tAfter l[i]!) 0 || m.any (isTsk (tUnder l[i]!) (tAfter l[i]!))))
def tasksR (l : List Tsk) : Bool := decide (l.length ≤ 96) && allN l.length fun i => tskAt l l i
def TskB (l : List Tsk) : Prop := l.length ≤ 1048576 ∧ ∀ t ∈ l, (tNodes t).length ≤ 1048576

theorem taskR_id {t : Tsk} (h : taskR t = true) : 1 ≤ t.2.1 ∧ t.2.1 ≤ 12 := by
  simp only [taskR, Bool.and_eq_true, win_iff] at h
  exact h.2.1
theorem taskR_lab {t : Tsk} (h : taskR t = true) : labR t.1 = true := by
  simp only [taskR, Bool.and_eq_true] at h
  exact h.1

theorem eqI_comm (a b : Int) : eqI a b = eqI b a := by
  rw [Bool.eq_iff_iff, eqI_iff, eqI_iff]; exact eq_comm

theorem iTasksRight_F {N : Nat} (hN : 1048577 < N) (x : iTasksRight.P.D) (hx : TskB x.1) : iTasksRight.F N x = some (tasksR x.1) := by
  obtain ⟨l, u⟩ := x
  dsimp only at hx
  have hl := hx.1
  unfold iTasksRight.F iTasksRight.T tasksR
  dsimp only
  rw [show (96 : Int) = ((96 : Nat) : Int) from rfl, ltLenN, rIte, all_run (q := allN l.length fun i => tskAt l l i)]
  · simp only [rRet, Bool.and_true]
    cases decide (l.length ≤ 96) <;> simp
  · refine iter_all (mk := fun i => ((i : Int), ())) (fun i _ hi hprev => ?_) (fun _ => ?_) (by omega) (Nat.zero_le _)
    · have ht := iTaskRight_F hN (l[i]!, ()) (hx.2 _ (mem_at hi))
      have hat := itaskAt_F hN (l, tUnder l[i]!, tAfter l[i]!, ()) hl
      simp only [iTasksRight.B0_0, rIte, rBind, rRet, ltLen hi, if_true, idxAt hi, Option.bind_some, ht, icompareLabels_F (show 3 ≤ N by omega), hat, idxOf_neg, wInc (show i < 9223372036854775807 by omega)]
      unfold tskAt idOk
      rcases Nat.eq_zero_or_pos i with h0 | h0
      · subst h0
        rw [if_neg (show ¬ ltI 0 ((0 : Nat) : Int) = true by decide), if_pos rfl]
        cases taskR l[0]! <;> cases eqI l[0]!.2.1 1 <;> cases eqI (tAfter l[0]!) 0 <;> cases l.any (isTsk (tUnder l[0]!) (tAfter l[0]!)) <;> rfl
      · have hp := hprev (i - 1) (Nat.zero_le _) (by omega)
        have hid := taskR_id (t := l[i - 1]!) (by
          unfold tskAt at hp
          rw [Bool.and_eq_true] at hp; exact hp.1)
        have hw : addW .i64 l[i - 1]!.2.1 (1 : Int) = l[i - 1]!.2.1 + 1 := addW64 (by omega) (by omega)
        rw [if_pos (ltI_true (by omega)), idxPrev h0 (by omega) (by omega), if_neg (show ¬ i = 0 by omega)]
        simp only [Option.bind_some, hw]
        have hc : (ltI 0 (cmpLab l[i - 1]!.1 l[i]!.1) = true ∧ eqI (cmpLab l[i - 1]!.1 l[i]!.1) 0 = false ∧ ltI (cmpLab l[i - 1]!.1 l[i]!.1) 0 = false) ∨ (ltI 0 (cmpLab l[i - 1]!.1 l[i]!.1) = false ∧ eqI (cmpLab l[i - 1]!.1 l[i]!.1) 0 = true ∧ ltI (cmpLab l[i - 1]!.1 l[i]!.1) 0 = false) ∨ (ltI 0 (cmpLab l[i - 1]!.1 l[i]!.1) = false ∧ eqI (cmpLab l[i - 1]!.1 l[i]!.1) 0 = false ∧ ltI (cmpLab l[i - 1]!.1 l[i]!.1) 0 = true) := by
          generalize cmpLab l[i - 1]!.1 l[i]!.1 = c
          rcases Int.lt_trichotomy c 0 with h | h | h
          · exact .inr (.inr ⟨ltI_false (by omega), eqI_false (by omega), ltI_true h⟩)
          · exact .inr (.inl ⟨ltI_false (by omega), eqI_true h, ltI_false (by omega)⟩)
          · exact .inl ⟨ltI_true h, eqI_false (by omega), ltI_false (by omega)⟩
        rcases hc with ⟨c1, c2, c3⟩ | ⟨c1, c2, c3⟩ | ⟨c1, c2, c3⟩ <;> simp only [c1, c2, c3] <;> cases taskR l[i]! <;> cases eqI l[i]!.2.1 1 <;> cases eqI l[i]!.2.1 (l[i - 1]!.2.1 + 1) <;> cases eqI (tAfter l[i]!) 0 <;> cases l.any (isTsk (tUnder l[i]!) (tAfter l[i]!)) <;> rfl
    · simp only [iTasksRight.B0_0, rIte, rRet, ltEnd, Bool.false_eq_true, if_false]

/-- In a list that is right so far, what a task depends on stands ahead of it. -/
def tskLt (a b : Tsk) : Prop := labLt a.1 b.1 ∨ (a.1 = b.1 ∧ a.2.1 < b.2.1)

theorem labLt_trans {a b c : Lab} (h : labLt a b) (k : labLt b c) : labLt a c := by
  unfold labLt at *
  omega
theorem tskLt_trans {a b c : Tsk} (h : tskLt a b) (k : tskLt b c) : tskLt a c := by
  unfold tskLt at *
  rcases h with h | ⟨h, h'⟩
  · rcases k with k | ⟨k, k'⟩
    · exact .inl (labLt_trans h k)
    · rw [← k]; exact .inl h
  · rcases k with k | ⟨k, k'⟩
    · rw [h]; exact .inl k
    · exact .inr ⟨h.trans k, by omega⟩
theorem tskLt_irrefl {a : Tsk} : ¬ tskLt a a := by
  unfold tskLt labLt
  omega

theorem idOk_lt {l : List Tsk} {i : Nat} (h0 : 0 < i) (h : idOk l i = true) : tskLt l[i - 1]! l[i]! := by
  unfold idOk at h
  rw [if_neg (by omega)] at h
  split at h
  · rename_i hc
    rw [ltI_iff, cmpLab_neg_iff] at hc
    exact .inl hc
  · rw [Bool.and_eq_true, eqI_iff, eqI_iff, cmpLab_zero_iff] at h
    exact .inr ⟨h.1, by omega⟩
theorem idOk_chain {l : List Tsk} {n : Nat} (h : ∀ i, i < n → idOk l i = true) : ∀ j i, i < j → j < n → tskLt l[i]! l[j]! := by
  intro j
  induction j with
  | zero => intro i h; omega
  | succ j ih =>
    intro i hij hj
    have h2 := idOk_lt (by omega) (h (j + 1) hj)
    rw [Nat.add_sub_cancel] at h2
    by_cases e : i = j
    · subst e; exact h2
    · exact tskLt_trans (ih i (by omega) (by omega)) h2

theorem bits_le {s s' : Int} (h1 : 0 ≤ s) (h2 : s ≤ 7) (h3 : 0 ≤ s') (h4 : s' ≤ 7) (h : eqI (andNotW .i64 s s') 0 = true) : s ≤ s' := by
  have hs : s = 0 ∨ s = 1 ∨ s = 2 ∨ s = 3 ∨ s = 4 ∨ s = 5 ∨ s = 6 ∨ s = 7 := by omega
  have hs' : s' = 0 ∨ s' = 1 ∨ s' = 2 ∨ s' = 3 ∨ s' = 4 ∨ s' = 5 ∨ s' = 6 ∨ s' = 7 := by omega
  clear h1 h2 h3 h4
  revert h
  rcases hs with rfl | rfl | rfl | rfl | rfl | rfl | rfl | rfl <;> rcases hs' with rfl | rfl | rfl | rfl | rfl | rfl | rfl | rfl <;> decide

theorem belI_le {a b : Lab} (ha : labR a = true) (hb : labR b = true) (h : belI a b = true) : a = b ∨ labLt a b := by
  simp only [labR, Bool.and_eq_true, win_iff] at ha hb
  unfold belI at h
  rw [Bool.and_eq_true, leI_iff] at h
  obtain ⟨h1, h2⟩ := h
  have key := bits_le ha.2.1 ha.2.2 hb.2.1 hb.2.2 h2
  have he : a = b ↔ (a.1 = b.1 ∧ a.2.1 = b.2.1) := by
    obtain ⟨x, y, _⟩ := a
    obtain ⟨x', y', _⟩ := b
    simp
  rw [he]
  unfold labLt
  omega

/-- What a right task depends on comes before it. -/
theorem dep_lt {t s : Tsk} (h : taskR t = true) (ha : eqI (tAfter t) 0 = false) (hs : isTsk (tUnder t) (tAfter t) s = true) : tskLt s t := by
  simp only [taskR, Bool.and_eq_true] at h
  have hd := h.2.2.2.2.2.2.1
  unfold depR at hd
  rw [ha] at hd
  simp only [Bool.false_and, Bool.false_or, Bool.and_eq_true, Bool.not_eq_true', Bool.and_eq_false_iff] at hd
  obtain ⟨_, ⟨h1, h2, h3⟩, h4⟩ := hd
  unfold isTsk at hs
  rw [Bool.and_eq_true, labEq_iff, eqI_iff] at hs
  obtain ⟨e1, e2⟩ := hs
  rcases belI_le h1 h2 h3 with e | e
  · right
    rw [e1, e]
    refine ⟨rfl, ?_⟩
    rcases h4 with h4 | h4
    · rw [labEq_iff.2 e] at h4; cases h4
    · rw [Bool.eq_false_iff, Ne, leI_iff] at h4
      omega
  · left
    rw [e1]; exact e

theorem any_take {l : List Tsk} {i : Nat} {p : Tsk → Bool} (hi : i ≤ l.length) : (l.take i).any p = true ↔ ∃ j, j < i ∧ p l[j]! = true := by
  rw [List.any_eq_true]
  constructor
  · rintro ⟨y, hy, e⟩
    obtain ⟨j, hj, rfl⟩ := List.mem_take_iff_getElem.1 hy
    exact ⟨j, by omega, by rw [getElem!_pos l j (by omega)]; exact e⟩
  · rintro ⟨j, hj, e⟩
    exact ⟨l[j]!, by rw [getElem!_pos l j (by omega)]; exact List.mem_take_iff_getElem.2 ⟨j, by omega, rfl⟩, e⟩

theorem tasks_ahead (l : List Tsk) : allN l.length (fun i => tskAt l (l.take i) i) = allN l.length (fun i => tskAt l l i) := by
  rw [Bool.eq_iff_iff, allN_true, allN_true]
  constructor
  · intro h i hi
    have := h i hi
    unfold tskAt at this ⊢
    rw [Bool.and_eq_true, Bool.and_eq_true, Bool.or_eq_true] at this ⊢
    refine ⟨this.1, this.2.1, this.2.2.imp id fun h => ?_⟩
    rw [List.any_eq_true] at h ⊢
    obtain ⟨y, hy, e⟩ := h
    exact ⟨y, List.mem_of_mem_take hy, e⟩
  · intro h i hi
    have hh := h i hi
    unfold tskAt at hh ⊢
    rw [Bool.and_eq_true, Bool.and_eq_true, Bool.or_eq_true] at hh ⊢
    refine ⟨hh.1, hh.2.1, ?_⟩
    rcases hh.2.2 with e | e
    · exact .inl e
    · cases ha : eqI (tAfter l[i]!) 0 with
      | true => exact .inl rfl
      | false =>
        right
        rw [any_take (Nat.le_of_lt hi)]
        rw [List.any_eq_true] at e
        obtain ⟨y, hy, hq⟩ := e
        obtain ⟨k, hk, rfl⟩ := List.getElem_of_mem hy
        have hlt := dep_lt hh.1 ha hq
        rw [← getElem!_pos l k hk] at hlt hq
        refine ⟨k, ?_, hq⟩
        have chain := idOk_chain (l := l) (n := l.length) fun j hj => by
          have := h j hj
          unfold tskAt at this
          rw [Bool.and_eq_true, Bool.and_eq_true] at this
          exact this.2.1
        rcases Nat.lt_trichotomy k i with h | h | h
        · exact h
        · subst h; exact absurd hlt tskLt_irrefl
        · exact absurd (tskLt_trans hlt (chain k i h hk)) tskLt_irrefl

theorem sTasksRight_F {N : Nat} (hN : 1048577 < N) (x : sTasksRight.P.D) (hx : TskB x.1) : sTasksRight.F N x = some (tasksR x.1) := by
  obtain ⟨l, u⟩ := x
  dsimp only at hx
  have hl := hx.1
  unfold sTasksRight.F sTasksRight.T tasksR
  dsimp only
  rw [show (96 : Int) = ((96 : Nat) : Int) from rfl, ltLenN, rIte, all_run (q := allN l.length fun i => tskAt l (l.take i) i)]
  · simp only [rRet, Bool.and_true, tasks_ahead]
    cases decide (l.length ≤ 96) <;> simp
  · refine iter_all (mk := fun i => ((i : Int), ())) (fun i _ hi hprev => ?_) (fun _ => ?_) (by omega) (Nat.zero_le _)
    · have ht := sTaskRight_F hN (l[i]!, ()) (hx.2 _ (mem_at hi))
      have hat := sl12At_F hN (l.take i, tUnder l[i]!, tAfter l[i]!, ()) (by simp only [List.length_take]; omega)
      have he : eqI (i : Int) 0 = decide (i = 0) := by rw [Bool.eq_iff_iff, eqI_iff, decide_eq_true_eq]; omega
      simp only [sTasksRight.B0_0, rIte, rBind, rRet, ltLen hi, if_true, idxAt hi, Option.bind_some, ht, sl09Ord_F, sliceOk (Nat.le_of_lt hi), dropTake, hat, idxOf_neg, he, eqbLab, wInc (show i < 9223372036854775807 by omega)]
      unfold tskAt idOk
      rcases Nat.eq_zero_or_pos i with h0 | h0
      · subst h0
        rw [if_pos rfl]
        cases taskR l[0]! <;> cases eqI l[0]!.2.1 1 <;> cases eqI (tAfter l[0]!) 0 <;> cases (l.take 0).any (isTsk (tUnder l[0]!) (tAfter l[0]!)) <;> rfl
      · have hp := hprev (i - 1) (Nat.zero_le _) (by omega)
        have htp : taskR l[i - 1]! = true := by
          unfold tskAt at hp
          rw [Bool.and_eq_true] at hp; exact hp.1
        have hid := taskR_id htp
        have hw : addW .i64 l[i - 1]!.2.1 (1 : Int) = l[i - 1]!.2.1 + 1 := addW64 (by omega) (by omega)
        rw [decide_eq_false (show ¬ i = 0 by omega), idxPrev h0 (by omega) (by omega), if_neg (show ¬ i = 0 by omega)]
        simp only [Option.bind_some, hw, Bool.false_eq_true, if_false]
        cases htc : taskR l[i]! with
        | false => rfl
        | true =>
          rw [ordW_lt (taskR_lab htp) (taskR_lab htc)]
          have hz : labEq l[i - 1]!.1 l[i]!.1 = eqI (cmpLab l[i - 1]!.1 l[i]!.1) 0 := by rw [Bool.eq_iff_iff, labEq_iff, eqI_iff, cmpLab_zero_iff]
          rw [hz, eqI_comm (l[i - 1]!.2.1 + 1)]
          cases ltI (cmpLab l[i - 1]!.1 l[i]!.1) 0 <;> cases eqI (cmpLab l[i - 1]!.1 l[i]!.1) 0 <;> cases eqI l[i]!.2.1 1 <;> cases eqI l[i]!.2.1 (l[i - 1]!.2.1 + 1) <;> cases eqI (tAfter l[i]!) 0 <;> cases (l.take i).any (isTsk (tUnder l[i]!) (tAfter l[i]!)) <;> rfl
    · simp only [sTasksRight.B0_0, rIte, rRet, ltEnd, Bool.false_eq_true, if_false]

end Go.Proofs.YtjnfmjeiceiciaaGreat
