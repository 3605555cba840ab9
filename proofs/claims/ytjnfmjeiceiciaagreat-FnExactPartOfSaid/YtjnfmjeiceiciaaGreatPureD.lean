/-
The labels of a configuration, in order.
-/
import Derived.Test.YtjnfmjeiceiciaaGreatPureC
namespace Go.Proofs.YtjnfmjeiceiciaaGreat
open X Go
set_option linter.unusedVariables false
set_option linter.unusedSimpArgs false
set_option linter.unnecessarySimpa false
set_option maxRecDepth 100000

theorem sub00 : subW .i64 (0 : Int) (0 : Int) = 0 := by decide
theorem inR0 {a b : Int} (h : 0 ≤ a) (h' : a ≤ b) : inR 0 a b = true := by
  unfold inR
  rw [Bool.and_eq_true]
  exact ⟨decide_eq_true h, decide_eq_true h'⟩
theorem maxRow_le {n : Nat} (h : n ≤ 1048576) : decide (n ≤ maxRow) = true := by
  unfold maxRow
  exact decide_eq_true (by omega)

theorem slGrow_SLabel_n_F {N : Nat} (n : Int) (h0 : 0 ≤ n) (h1 : n ≤ 1000) : slGrow_SLabel_n.F N (n, ()) = some [] := by
  have hs : subW .i64 n (0 : Int) = n := by rw [subW64] <;> omega
  have hr : decide (List.length ([] : List Lab) + List.length (List.replicate (Int.toNat n) (((0 : Int), (0 : Int), ()) : Lab)) ≤ maxRow) = true := maxRow_le (by simp; omega)
  simp only [slGrow_SLabel_n.F, slGrow_SLabel_n.T, rIte, rRet, ltI_false h0, sub00, hs, Bool.false_eq_true, if_false, inR0 (Int.le_refl 0) (Int.le_refl 0), leI_true (Int.le_refl (0 : Int)), Bool.and_self, if_true]
  by_cases hn : (0 : Int) < n
  · rw [if_pos (ltI_true hn)]
    have hr' : (decide (List.length ([] : List Lab) + List.length (List.replicate (Int.toNat n) (Ty.zero (.pair (.int .i64) (.pair (.int .i64) .unit)))) ≤ maxRow) && leI 0 n) = true := by
      rw [Bool.and_eq_true]; exact ⟨hr, leI_true (by omega)⟩
    rw [if_pos hr', if_pos]
    · rfl
    · rw [Bool.and_eq_true]
      exact ⟨rfl, leI_true (by unfold lenI; omega)⟩
  · rw [if_neg (by rw [ltI_iff]; exact hn)]

def sumLen (l : List (List Lab)) : Nat := (l.map List.length).sum
theorem sumLen_take (l : List (List Lab)) {i : Nat} (h : i < l.length) : sumLen (l.take (i + 1)) = sumLen (l.take i) + l[i]!.length := by
  unfold sumLen
  rw [List.take_add_one, getElem!_pos l i h, List.getElem?_eq_getElem h, List.map_append, List.sum_append]
  simp
theorem sumLen_le {l : List (List Lab)} (h4 : ∀ x ∈ l, x.length ≤ 4) : sumLen l ≤ 4 * l.length := by
  unfold sumLen
  induction l with
  | nil => simp
  | cons a r ih =>
    simp only [List.map_cons, List.sum_cons, List.length_cons]
    have := ih fun x hx => h4 x (by simp [hx])
    have := h4 a (by simp)
    omega
theorem flatten_take {l : List (List Lab)} {i : Nat} (h : i < l.length) : (l.take (i + 1)).flatten = (l.take i).flatten ++ l[i]! := by
  rw [List.take_add_one, getElem!_pos l i h, List.getElem?_eq_getElem h, List.flatten_append]
  simp
theorem flatten_len (l : List (List Lab)) : l.flatten.length = sumLen l := by
  unfold sumLen
  exact List.length_flatten

theorem slConcat_SLabel_F {N : Nat} (hN : 1048577 < N) (x : slConcat_SLabel.P.D) (h6 : x.1.length ≤ 6) (h4 : ∀ y ∈ x.1, y.length ≤ 4) : slConcat_SLabel.F N x = some x.1.flatten := by
  have bnd : ∀ i, sumLen (x.1.take i) ≤ 24 := fun i => by
    have := sumLen_le (l := x.1.take i) fun y hy => h4 y (List.mem_of_mem_take hy)
    rw [List.length_take] at this
    omega
  have b4 : ∀ {i}, i < x.1.length → x.1[i]!.length ≤ 4 := fun hi => h4 _ (mem_at hi)
  obtain ⟨p, hp, q⟩ := iter_ix (B := slConcat_SLabel.B0_0 N (x.1, x.1, (lenI x.1), ())) x.1.length (fun i (s : Int) => (s, (i : Int), ()))
    (fun i s => s = (sumLen (x.1.take i) : Int)) (fun p => p = .inl ((sumLen x.1 : Int), ()))
    (fun i s hi hI => by
      left
      have hb := bnd i
      have hb4 := b4 hi
      have hw : addW .i64 s (lenI x.1[i]!) = (sumLen (x.1.take (i + 1)) : Int) := by
        rw [sumLen_take _ hi, hI, addW64] <;> unfold lenI <;> omega
      refine ⟨_, ?_, rfl⟩
      simp only [slConcat_SLabel.B0_0, rIte, rBind, rRet, ltLen hi, if_true, idxAt hi, Option.bind_some, hw, wInc (show i < 9223372036854775807 by omega)]
      rw [if_neg (by rw [ltI_iff]; omega)])
    (fun s hI => by
      left
      refine ⟨(s, ()), ?_, ?_⟩
      · simp only [slConcat_SLabel.B0_0, rIte, rRet, ltEnd, Bool.false_eq_true, if_false]
      · rw [hI, List.take_length]) N 0 0 (Nat.zero_le _) (by omega) (by simp [sumLen])
  obtain ⟨p', hp', q'⟩ := iter_ix (B := slConcat_SLabel.B0_4 N (x.1, (lenI x.1), ())) x.1.length (fun i (s : List Lab) => ((i : Int), s, ()))
    (fun i s => s = (x.1.take i).flatten) (fun p => p = .inl (x.1.flatten, ()))
    (fun i s hi hI => by
      left
      have hb := bnd i
      have hb4 := b4 hi
      have hl : s.length = sumLen (x.1.take i) := by rw [hI, flatten_len]
      have hr : (decide (List.length s + List.length x.1[i]! ≤ maxRow) && true) = true := by
        rw [Bool.and_true]; exact maxRow_le (by omega)
      refine ⟨s ++ x.1[i]!, ?_, by rw [hI, flatten_take hi]⟩
      simp only [slConcat_SLabel.B0_4, rIte, rBind, rRet, ltLen hi, if_true, idxAt hi, Option.bind_some, wInc (show i < 9223372036854775807 by omega)]
      rw [if_pos hr])
    (fun s hI => by
      left
      refine ⟨(s, ()), ?_, ?_⟩
      · simp only [slConcat_SLabel.B0_4, rIte, rRet, ltEnd, Bool.false_eq_true, if_false]
      · rw [hI, List.take_length]) N 0 [] (Nat.zero_le _) (by omega) (by simp)
  have e1 : slConcat_SLabel.L0_0 N (x.1, x.1, (lenI x.1), ()) ((0 : Int), (0 : Int), ()) = some p := hp
  have e2 : slConcat_SLabel.L0_4 N (x.1, (lenI x.1), ()) ((0 : Int), ([] : List Lab), ()) = some p' := hp'
  unfold slConcat_SLabel.F slConcat_SLabel.T
  have hbig := bnd x.1.length
  rw [List.take_length] at hbig
  rw [rBind, e1, q, Option.bind_some, rInl, rBind, slGrow_SLabel_n_F (sumLen x.1 : Int) (by omega) (by omega), Option.bind_some, rBind, e2, q', Option.bind_some, rInl, rRet]

/-- Of equal neighbours one; of the first n. -/
def ddN (l : List Lab) : Nat → List Lab
  | 0 => []
  | n + 1 => if n = 0 then [l[0]!] else if labEq l[n]! l[n - 1]! = true then ddN l n else ddN l n ++ [l[n]!]

theorem ddN_len (l : List Lab) : ∀ n, (ddN l n).length ≤ n
  | 0 => Nat.le_refl 0
  | n + 1 => by
    have := ddN_len l n
    unfold ddN
    split
    · simp
    · split
      · omega
      · simp; omega
theorem ddN_pos (l : List Lab) : ∀ n, 0 < (ddN l (n + 1)).length
  | 0 => by simp [ddN]
  | n + 1 => by
    have := ddN_pos l n
    rw [ddN]
    split
    · simp
    · split
      · exact this
      · simp

/-- No equal neighbours among the first n. -/
theorem ddN_same (l : List Lab) : ∀ n, n ≤ l.length → (∀ i, 1 ≤ i → i < n → labEq l[i]! l[i - 1]! = false) → ddN l n = l.take n
  | 0, _, _ => rfl
  | n + 1, hn, h => by
    have ih := ddN_same l n (by omega) fun i h1 h2 => h i h1 (by omega)
    rw [ddN]
    split
    · rename_i h0
      subst h0
      cases l with
      | nil => simp at hn
      | cons a r => simp
    · rename_i h0
      rw [h n (by omega) (by omega), ih, List.take_add_one, getElem!_pos l n (by omega), List.getElem?_eq_getElem (by omega)]
      simp

theorem take_set_snoc {α : Type} {l : List α} {j : Nat} {x : α} (h : j < l.length) : (l.set j x).take (j + 1) = l.take j ++ [x] := by
  rw [List.take_add_one, List.take_set_of_le (Nat.le_refl j)]
  simp [h]
theorem drop_set_lt {α : Type} {l : List α} {j n : Nat} {x : α} (h : j < n) : (l.set j x).drop n = l.drop n := by
  rw [List.drop_set, if_pos h]
theorem get_drop {α : Type} [Inhabited α] {s l : List α} {a n : Nat} (h : s.drop a = l.drop a) (hn : a ≤ n) : s[n]! = l[n]! := by
  have : s[n]? = l[n]? := by
    have := congrArg (fun z : List α => z[n - a]?) h
    simp only [List.getElem?_drop] at this
    rwa [show a + (n - a) = n by omega] at this
  rw [List.getElem!_eq_getElem?_getD, List.getElem!_eq_getElem?_getD, this]

theorem slCompact_SLabel_o_F {N : Nat} (hN : 1048577 < N) (x : slCompact_SLabel_o.P.D) (hx : x.1.length ≤ 1000) : slCompact_SLabel_o.F N x = some (ddN x.1 x.1.length) := by
  obtain ⟨l, u⟩ := x
  dsimp only at hx
  unfold slCompact_SLabel_o.F slCompact_SLabel_o.T
  dsimp only
  rw [rIte]
  by_cases h2 : l.length < 2
  · rw [if_pos (ltI_true (by unfold lenI; omega)), rRet, ddN_same l _ (Nat.le_refl _) (fun i h1 hi => by omega), List.take_length]
  rw [if_neg (by rw [ltI_iff]; unfold lenI; omega), rBind]
  -- the inner loop
  have inner : ∀ i, 1 ≤ i → i < l.length → labEq l[i]! l[i - 1]! = true → ddN l i = l.take i →
      ∃ s : List Lab, s.length = l.length ∧ s.take (ddN l l.length).length = ddN l l.length ∧ slCompact_SLabel_o.L0_4 N ((i : Int), (lenI l), ()) ((i : Int), (1 : Int), (l, ())) = some (.inl (((ddN l l.length).length : Int), (s, ()))) := by
    intro i h1 hi heq hdd
    obtain ⟨p, hp, s, hs1, hs2, hq⟩ := iter_ix (B := slCompact_SLabel_o.B0_4 N ((i : Int), (lenI l), ())) (l.length - i - 1) (fun k (st : Nat × List Lab) => ((st.1 : Int), ((k + 1 : Nat) : Int), (st.2, ())))
      (fun k st => st.1 = (ddN l (i + k + 1)).length ∧ st.2.length = l.length ∧ st.2.take st.1 = ddN l (i + k + 1) ∧ st.2.drop (i + k) = l.drop (i + k) ∧ st.1 ≤ i + k)
      (fun p => ∃ s : List Lab, s.length = l.length ∧ s.take (ddN l l.length).length = ddN l l.length ∧ p = .inl (((ddN l l.length).length : Int), (s, ())))
      (fun k st hk hI => by
        obtain ⟨j, s⟩ := st
        obtain ⟨e1, e2, e3, e4, e5⟩ := hI
        simp only at e1 e2 e3 e4 e5
        left
        have hjl := ddN_len l (i + k + 1)
        have hcur : s[i + (k + 1)]! = l[i + (k + 1)]! := get_drop e4 (by omega)
        have hprev : s[i + k]! = l[i + k]! := get_drop e4 (by omega)
        have c1 : ltI ((k + 1 : Nat) : Int) (subZ (lenI l) (i : Int)) = true := ltI_true (by unfold subZ lenI; omega)
        have c2 : leI 0 ((k + 1 : Nat) : Int) = true := leI_true (by omega)
        have hsub : subW .i64 ((k + 1 : Nat) : Int) (1 : Int) = (k : Int) := by rw [subW64] <;> omega
        have c3 : leI 0 (k : Int) = true := leI_true (by omega)
        have c4 : ltI (k : Int) (subZ (lenI l) (i : Int)) = true := ltI_true (by unfold subZ lenI; omega)
        have a1 : addZ (i : Int) ((k + 1 : Nat) : Int) = ((i + (k + 1) : Nat) : Int) := by unfold addZ; omega
        have a2 : addZ (i : Int) (k : Int) = ((i + k : Nat) : Int) := by unfold addZ; omega
        have hd : ddN l (i + (k + 1) + 1) = if labEq l[i + (k + 1)]! l[i + k]! = true then ddN l (i + k + 1) else ddN l (i + k + 1) ++ [l[i + (k + 1)]!] := by
          rw [ddN, if_neg (by omega)]
          rw [show i + (k + 1) - 1 = i + k by omega]
          rfl
        simp only [slCompact_SLabel_o.B0_4, rIte, rBind, rRet, c1, c2, hsub, c3, c4, a1, a2, Bool.and_self, if_true, idxAt (show i + (k + 1) < s.length by omega), idxAt (show i + k < s.length by omega), idxAt (show j < s.length by omega), Option.bind_some, eqbLab, hcur, hprev, wInc (show k + 1 < 9223372036854775807 by omega), wInc (show j < 9223372036854775807 by omega), Int.toNat_natCast]
        by_cases hc : labEq l[i + (k + 1)]! l[i + k]! = true
        · refine ⟨(j, s), ?_, ?_, e2, ?_, ?_, by simp only; omega⟩
          · simp only [hc, Bool.not_true, Bool.false_eq_true, if_false]
          · rw [hd, if_pos hc]; exact e1
          · rw [hd, if_pos hc]; exact e3
          · have := congrArg (List.drop 1) e4
            rw [List.drop_drop, List.drop_drop] at this
            exact this
        · refine ⟨(j + 1, s.set j l[i + (k + 1)]!), ?_, ?_, ?_, ?_, ?_, by simp only; omega⟩
          · simp only [hc, Bool.not_false, if_true]
          · rw [hd, if_neg hc]; simp [e1]
          · simp [e2]
          · rw [hd, if_neg hc]
            show (s.set j _).take (j + 1) = _
            rw [take_set_snoc (by omega), e3]
          · show (s.set j _).drop _ = _
            rw [drop_set_lt (by omega)]
            have := congrArg (List.drop 1) e4
            rw [List.drop_drop, List.drop_drop] at this
            exact this)
      (fun st hI => by
        obtain ⟨j, s⟩ := st
        obtain ⟨e1, e2, e3, e4, e5⟩ := hI
        simp only at e1 e2 e3 e4 e5
        rw [show i + (l.length - i - 1) + 1 = l.length by omega] at e1 e3
        left
        refine ⟨((j : Int), (s, ())), ?_, s, e2, by rw [← e1]; exact e3, by rw [e1]⟩
        have c1 : ltI ((l.length - i - 1 + 1 : Nat) : Int) (subZ (lenI l) (i : Int)) = false := ltI_false (by unfold subZ lenI; omega)
        simp only [slCompact_SLabel_o.B0_4, rIte, rRet, c1, Bool.false_eq_true, if_false]) N 0 (i, l) (Nat.zero_le _) (by omega)
      (by
        have hd : ddN l (i + 0 + 1) = ddN l i := by
          rw [Nat.add_zero, ddN, if_neg (by omega), if_pos heq]
        refine ⟨?_, rfl, ?_, rfl, by simp only; omega⟩
        · rw [hd, hdd, List.length_take]; simp only; omega
        · rw [hd, hdd])
    refine ⟨s, hs1, hs2, ?_⟩
    rw [← hq]; exact hp
  -- the outer loop
  obtain ⟨p, hp, q⟩ := iter_ix (B := slCompact_SLabel_o.B0_0 N (l, ())) (l.length - 1) (fun k (st : Unit) => (((k + 1 : Nat) : Int), ()))
    (fun k _ => ∀ i, 1 ≤ i → i < k + 1 → labEq l[i]! l[i - 1]! = false)
    (fun p => (p = .inl () ∧ ddN l l.length = l) ∨ ∃ s : List Lab, p = .inr ((0 : Int), ((ddN l l.length).length : Int), s, ()) ∧ s.take (ddN l l.length).length = ddN l l.length)
    (fun k st hk hI => by
      have hprev : idx l (subW .i64 ((k + 1 : Nat) : Int) (1 : Int)) = some l[k + 1 - 1]! := idxPrev (by omega) (by omega) (by omega)
      simp only [slCompact_SLabel_o.B0_0, rIte, rBind, rRet, ltLen (show k + 1 < l.length by omega), if_true, idxAt (show k + 1 < l.length by omega), hprev, Option.bind_some, eqbLab]
      by_cases hc : labEq l[k + 1]! l[k + 1 - 1]! = true
      · right; right
        obtain ⟨s, hs1, hs2, hs3⟩ := inner (k + 1) (by omega) (by omega) hc (ddN_same l _ (by omega) hI)
        have hle := ddN_len l l.length
        have r1 : (inR 0 ((k + 1 : Nat) : Int) (lenI l) && leI (lenI l) (lenI l)) = true := by
          rw [inR0 (by omega) (by unfold lenI; omega), leI_true (Int.le_refl _)]; rfl
        have r2 : (inR 0 ((ddN l l.length).length : Int) (lenI s) && leI (lenI s) (lenI s)) = true := by
          rw [inR0 (by omega) (by unfold lenI; omega), leI_true (Int.le_refl _)]; rfl
        have r3 : (inR 0 (0 : Int) ((ddN l l.length).length : Int) && leI ((ddN l l.length).length : Int) (lenI (List.take (Int.toNat ((ddN l l.length).length : Int)) s ++ List.replicate (Int.toNat (lenI s) - Int.toNat ((ddN l l.length).length : Int)) (Ty.zero (.pair (.int .i64) (.pair (.int .i64) .unit))) ++ List.drop (Int.toNat (lenI s)) s))) = true := by
          rw [inR0 (by omega) (by omega), leI_true]
          · rfl
          · unfold lenI; simp; omega
        rw [if_pos hc, if_pos r1, hs3, Option.bind_some, rInl, rIte, if_pos r2, rIte, if_pos r2, rIte, if_pos r3, rRet]
        refine ⟨_, rfl, .inr ⟨_, rfl, ?_⟩⟩
        rw [Int.toNat_natCast, hs2, List.append_assoc, List.take_append_of_le_length (Nat.le_refl _), List.take_length]
      · left
        refine ⟨(), ?_, ?_⟩
        · rw [if_neg hc, wInc (by omega)]
        · intro i h1 h2
          by_cases hik : i = k + 1
          · subst hik; exact Bool.eq_false_iff.2 hc
          · exact hI i h1 (by omega))
    (fun st hI => by
      left
      refine ⟨(), ?_, .inl ⟨rfl, ?_⟩⟩
      · have c : ltI ((l.length - 1 + 1 : Nat) : Int) (lenI l) = false := ltI_false (by unfold lenI; omega)
        simp only [slCompact_SLabel_o.B0_0, rIte, rRet, c, Bool.false_eq_true, if_false]
      · rw [ddN_same l _ (Nat.le_refl _) fun i h1 h2 => hI i h1 (by omega), List.take_length]) N 0 () (Nat.zero_le _) (by omega) (fun i h1 h2 => by omega)
  have e1 : slCompact_SLabel_o.L0_0 N (l, ()) ((1 : Int), ()) = some p := hp
  have e2 : (l, u) = (l, ()) := rfl
  rw [e2, e1, Option.bind_some]
  rcases q with ⟨rfl, h⟩ | ⟨s, rfl, h⟩
  · rw [rInl, rRet, h]
  · rw [rInr, rRet]
    simp only [Int.toNat_natCast]
    rw [h]
    rfl

end Go.Proofs.YtjnfmjeiceiciaaGreat
