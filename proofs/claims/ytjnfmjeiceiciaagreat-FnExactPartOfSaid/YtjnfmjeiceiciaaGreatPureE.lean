/-
The program's and the reference's lists of labels are one; configurations.
-/
import Derived.Test.YtjnfmjeiceiciaaGreatPureD
namespace Go.Proofs.YtjnfmjeiceiciaaGreat
open X Go
set_option linter.unusedVariables false
set_option linter.unusedSimpArgs false
set_option linter.unnecessarySimpa false
set_option maxRecDepth 100000

def labLt (a b : Lab) : Prop := a.1 < b.1 ∨ (a.1 = b.1 ∧ a.2.1 < b.2.1)
theorem cmpZ_neg (a b : Int) : cmpZ a b < 0 ↔ a < b := by
  unfold cmpZ
  by_cases h1 : a < b
  · simp [h1]
  · by_cases h2 : b < a <;> simp [h1, h2]
theorem cmpZ_zero (a b : Int) : cmpZ a b = 0 ↔ a = b := by
  unfold cmpZ
  by_cases h1 : a < b
  · simp [h1]; omega
  · by_cases h2 : b < a
    · simp [h1, h2]; omega
    · simp [h1, h2]; omega
theorem cmpLab_neg_iff (a b : Lab) : cmpLab a b < 0 ↔ labLt a b := by
  have h1 := cmpZ_neg a.1 b.1
  have h2 := cmpZ_zero a.1 b.1
  have h3 := cmpZ_neg a.2.1 b.2.1
  unfold cmpLab cmpOr labLt
  split <;> omega
theorem cmpLab_zero_iff (a b : Lab) : cmpLab a b = 0 ↔ a = b := by
  obtain ⟨x, y, _⟩ := a
  obtain ⟨x', y', _⟩ := b
  have h2 := cmpZ_zero x x'
  have h3 := cmpZ_zero y y'
  unfold cmpLab cmpOr
  simp only [Prod.mk.injEq, and_true]
  split <;> omega
theorem labLe_iff (a b : Lab) : labLe a b = true ↔ a.1 < b.1 ∨ (a.1 = b.1 ∧ a.2.1 ≤ b.2.1) := by
  unfold labLe
  rw [decide_eq_true_eq]
  have h1 := cmpLab_neg_iff a b
  have h2 := cmpLab_zero_iff a b
  have h3 : a = b ↔ (a.1 = b.1 ∧ a.2.1 = b.2.1) := by
    obtain ⟨x, y, _⟩ := a
    obtain ⟨x', y', _⟩ := b
    simp
  rw [h3] at h2
  unfold labLt at h1
  omega

theorem eq_of_strict : ∀ {l m : List Lab}, l.Pairwise labLt → m.Pairwise labLt → (∀ a, a ∈ l ↔ a ∈ m) → l = m
  | [], [], _, _, _ => rfl
  | [], b :: m, _, _, h => by have := (h b).2 (by simp); simp at this
  | a :: l, [], _, _, h => by have := (h a).1 (by simp); simp at this
  | a :: l, b :: m, hl, hm, h => by
    rw [List.pairwise_cons] at hl hm
    have hab : a = b := by
      rcases List.mem_cons.1 ((h a).1 (by simp)) with e | ha
      · exact e
      · rcases List.mem_cons.1 ((h b).2 (by simp)) with e | hb
        · exact e.symm
        · have h1 := hm.1 a ha
          have h2 := hl.1 b hb
          unfold labLt at h1 h2
          omega
    subst hab
    congr 1
    refine eq_of_strict hl.2 hm.2 fun c => ?_
    have hc := h c
    constructor
    · intro hcl
      rcases List.mem_cons.1 (hc.1 (by simp [hcl])) with e | hcm
      · subst e
        have := hl.1 c hcl
        unfold labLt at this
        omega
      · exact hcm
    · intro hcm
      rcases List.mem_cons.1 (hc.2 (by simp [hcm])) with e | hcl
      · subst e
        have := hm.1 c hcm
        unfold labLt at this
        omega
      · exact hcl

theorem ddN_spec {l : List Lab} (hs : l.Pairwise fun a b => labLe a b = true) : ∀ n, n ≤ l.length → (ddN l n).Pairwise labLt ∧ (∀ a, a ∈ ddN l n ↔ a ∈ l.take n) ∧ (n ≠ 0 → ∀ a ∈ ddN l n, labLe a l[n - 1]! = true)
  | 0, _ => ⟨.nil, by simp [ddN], fun h => absurd rfl h⟩
  | n + 1, hn => by
    obtain ⟨h1, h2, h3⟩ := ddN_spec hs n (by omega)
    have htake : l.take (n + 1) = l.take n ++ [l[n]!] := by
      rw [List.take_add_one, getElem!_pos l n (by omega), List.getElem?_eq_getElem (by omega)]
      rfl
    rw [ddN]
    by_cases h0 : n = 0
    · subst h0
      rw [if_pos rfl, htake]
      refine ⟨by simp, by simp, fun _ a ha => ?_⟩
      simp only [List.mem_singleton] at ha
      rw [ha, labLe_iff]; exact .inr ⟨rfl, Int.le_refl _⟩
    · rw [if_neg h0]
      have hle : labLe l[n - 1]! l[n]! = true := by
        rw [getElem!_pos l (n - 1) (by omega), getElem!_pos l n (by omega)]
        exact List.pairwise_iff_getElem.1 hs (n - 1) n (by omega) (by omega) (by omega)
      by_cases hc : labEq l[n]! l[n - 1]! = true
      · rw [if_pos hc]
        have e := labEq_iff.1 hc
        refine ⟨h1, fun a => ?_, fun _ a ha => ?_⟩
        · rw [htake, List.mem_append, ← h2 a]
          constructor
          · exact .inl
          · rintro (h | h)
            · exact h
            · simp only [List.mem_singleton] at h
              rw [h, e]
              have : l[n - 1]! ∈ l.take n := by
                rw [getElem!_pos l (n - 1) (by omega)]
                exact List.mem_take_iff_getElem.2 ⟨n - 1, by omega, rfl⟩
              exact (h2 _).2 this
        · rw [show n + 1 - 1 = n by omega, e]; exact h3 h0 a ha
      · rw [if_neg hc]
        have hlt : labLt l[n - 1]! l[n]! := by
          have hne : l[n]! ≠ l[n - 1]! := fun e => hc (labEq_iff.2 e)
          have h3' : l[n]! = l[n - 1]! ↔ (l[n]!.1 = l[n - 1]!.1 ∧ l[n]!.2.1 = l[n - 1]!.2.1) := by
            generalize l[n]! = p
            generalize l[n - 1]! = q
            obtain ⟨x, y, _⟩ := p
            obtain ⟨x', y', _⟩ := q
            simp
          rw [labLe_iff] at hle
          rw [Ne, h3'] at hne
          unfold labLt
          omega
        refine ⟨?_, fun a => ?_, fun _ a ha => ?_⟩
        · rw [List.pairwise_append]
          refine ⟨h1, by simp, fun a ha b hb => ?_⟩
          simp only [List.mem_singleton] at hb
          subst hb
          have := h3 h0 a ha
          rw [labLe_iff] at this
          unfold labLt at *
          omega
        · rw [htake, List.mem_append, List.mem_append, h2 a]
        · rw [show n + 1 - 1 = n by omega]
          rcases List.mem_append.1 ha with ha | ha
          · have q := h3 h0 a ha
            rw [labLe_iff] at q ⊢
            unfold labLt at hlt
            omega
          · simp only [List.mem_singleton] at ha
            rw [ha, labLe_iff]; exact .inr ⟨rfl, Int.le_refl _⟩

def labNo (k : Nat) : Lab := (((k / 8 : Nat) : Int), ((k % 8 : Nat) : Int), ())
def hasLab (l : List (List Lab)) (a : Lab) : Bool := l.any fun n => n.any fun y => labEq a y
/-- All labels of some nodes, in order. -/
def labsOf (l : List (List Lab)) : List Lab := ((List.range 32).map labNo).filter (hasLab l)

theorem labNo_strict : ((List.range 32).map labNo).Pairwise labLt := by
  rw [List.pairwise_map]
  refine List.Pairwise.imp_of_mem ?_ List.pairwise_lt_range
  intro a b ha hb hab
  rw [List.mem_range] at ha hb
  unfold labLt labNo
  simp only
  omega
theorem labsOf_strict (l : List (List Lab)) : (labsOf l).Pairwise labLt := labNo_strict.filter _

theorem labR_no {a : Lab} (h : labR a = true) : a ∈ (List.range 32).map labNo := by
  obtain ⟨x, y, _⟩ := a
  simp only [labR, Bool.and_eq_true, win_iff] at h
  rw [List.mem_map]
  refine ⟨(8 * x + y).toNat, by rw [List.mem_range]; omega, ?_⟩
  unfold labNo
  simp only [Prod.mk.injEq, and_true]
  omega
theorem no_labR {a : Lab} (h : a ∈ (List.range 32).map labNo) : labR a = true := by
  rw [List.mem_map] at h
  obtain ⟨k, hk, rfl⟩ := h
  rw [List.mem_range] at hk
  simp only [labR, Bool.and_eq_true, win_iff, labNo]
  omega
theorem labsOf_right {l : List (List Lab)} {a : Lab} (h : a ∈ labsOf l) : labR a = true := no_labR ((List.mem_filter.1 h).1)
theorem hasLab_iff {l : List (List Lab)} {a : Lab} : hasLab l a = true ↔ ∃ n ∈ l, a ∈ n := by
  unfold hasLab
  rw [List.any_eq_true]
  constructor
  · rintro ⟨n, hn, h⟩
    rw [List.any_eq_true] at h
    obtain ⟨y, hy, e⟩ := h
    exact ⟨n, hn, by rw [labEq_iff.1 e]; exact hy⟩
  · rintro ⟨n, hn, h⟩
    exact ⟨n, hn, List.any_eq_true.2 ⟨a, h, labEq_refl a⟩⟩

theorem clearR_right {l : List (List Lab)} (h : clearR l = true) : l.length ≤ 6 ∧ 1 ≤ l.length ∧ ∀ n ∈ l, n.length ≤ 4 ∧ 1 ≤ n.length ∧ ∀ a ∈ n, labR a = true := by
  simp only [clearR, Bool.and_eq_true, decide_eq_true_eq, List.all_eq_true] at h
  refine ⟨h.1.2, h.1.1, fun n hn => ?_⟩
  have := h.2 n hn
  simp only [chainR, Bool.and_eq_true, decide_eq_true_eq, List.all_eq_true] at this
  exact ⟨this.2.1, this.1, this.2.2.1⟩
theorem clearR_bnd {l : List (List Lab)} (h : clearR l = true) : Bnd l := by
  obtain ⟨h1, _, h2⟩ := clearR_right h
  exact ⟨by omega, fun n hn => by have := (h2 n hn).1; omega⟩

theorem labs_eq {l : List (List Lab)} (h : clearR l = true) : ddN (l.flatten.mergeSort labLe) (l.flatten.mergeSort labLe).length = labsOf l := by
  have hs : (l.flatten.mergeSort labLe).Pairwise fun a b => labLe a b = true := List.pairwise_mergeSort (fun a b c h1 h2 => by rw [labLe_iff] at *; omega) (fun a b => by
    rw [Bool.or_eq_true, labLe_iff, labLe_iff]; omega) _
  obtain ⟨h1, h2, _⟩ := ddN_spec hs _ (Nat.le_refl _)
  refine eq_of_strict h1 (labsOf_strict l) fun a => ?_
  rw [h2, List.take_length, List.mem_mergeSort, List.mem_flatten, labsOf, List.mem_filter, hasLab_iff]
  obtain ⟨_, _, h4⟩ := clearR_right h
  constructor
  · rintro ⟨n, hn, ha⟩
    exact ⟨labR_no ((h4 n hn).2.2 a ha), n, hn, ha⟩
  · rintro ⟨_, n, hn, ha⟩
    exact ⟨n, hn, ha⟩

theorem iConfig_labels_F {N : Nat} (hN : 1048577 < N) (x : iConfig_labels.P.D) (h : clearR x.1.1 = true) : iConfig_labels.F N x = some (labsOf x.1.1) := by
  obtain ⟨h6, _, h4⟩ := clearR_right h
  have hfl : x.1.1.flatten.length ≤ 24 := by
    rw [flatten_len]
    have := sumLen_le (l := x.1.1) fun y hy => (h4 y hy).1
    omega
  have hms : (x.1.1.flatten.mergeSort labLe).length = x.1.1.flatten.length := by simp
  have e2 : slSortFunc_icompareLabels_w.F N (x.1.1.flatten, ()) = some (x.1.1.flatten.mergeSort labLe, ()) := by
    unfold slSortFunc_icompareLabels_w.F
    rw [if_pos (by show x.1.1.flatten.length ≤ 1048576; omega)]
  unfold iConfig_labels.F iConfig_labels.T
  rw [rBind, slConcat_SLabel_F hN (x.1.1, ()) h6 (fun y hy => (h4 y hy).1), Option.bind_some, rBind, e2, Option.bind_some, rBind, slCompact_SLabel_o_F hN _ (by rw [hms]; omega), Option.bind_some, rRet, labs_eq h]

theorem sl09Labels_F {N : Nat} (hN : 1048577 < N) (x : sl09Labels.P.D) (h : Bnd x.1) : sl09Labels.F N x = some (labsOf x.1) := by
  obtain ⟨l, u⟩ := x
  dsimp only at h
  have inner : ∀ (k : Nat) (c : sl09Labels.C0_4.D), c.1 = l → c.2.2.1 = ((k / 8 : Nat) : Int) → c.2.2.2.1 = ((k % 8 : Nat) : Int) → sl09Labels.L0_4 N c (false, (0 : Int), ()) = some (.inl (hasLab l (labNo k), ())) := by
    intro k c hc1 hc2 hc3
    obtain ⟨p, hp, q⟩ := iter_ix (B := sl09Labels.B0_4 N c) l.length (fun i (s : Bool) => (s, (i : Int), ()))
      (fun i s => s = hasLab (l.take i) (labNo k)) (fun p => p = .inl (hasLab l (labNo k), ()))
      (fun i s hi hI => by
        left
        have ht : hasLab (l.take (i + 1)) (labNo k) = (hasLab (l.take i) (labNo k) || l[i]!.any fun y => labEq (labNo k) y) := by
          unfold hasLab
          rw [List.take_add_one, getElem!_pos l i hi, List.getElem?_eq_getElem hi, List.any_append]
          simp
        refine ⟨hasLab (l.take (i + 1)) (labNo k), ?_, rfl⟩
        have hcl : sl05Cleared.F N (l[i]!, (c.2.2.1, c.2.2.2.1, ()), ()) = some (l[i]!.any fun y => labEq (labNo k) y) := by
          rw [sl05Cleared_F hN _ (h.2 _ (mem_at hi)), hc2, hc3]; rfl
        simp only [sl09Labels.B0_4, hc1, rIte, rBind, rRet, ltLen hi, if_true, idxAt hi, Option.bind_some, hcl, wInc (show i < 9223372036854775807 by have := h.1; omega)]
        rw [ht, ← hI]
        cases s <;> simp)
      (fun s hI => by
        left
        refine ⟨(s, ()), ?_, ?_⟩
        · simp only [sl09Labels.B0_4, hc1, rIte, rRet, ltEnd, Bool.false_eq_true, if_false]
        · rw [hI, List.take_length]) N 0 false (Nat.zero_le _) (by have := h.1; omega) (by simp [hasLab])
    rw [← q]; exact hp
  obtain ⟨p, hp, q⟩ := iter_ix (B := sl09Labels.B0_0 N (l, ())) 32 (fun i (s : List Lab) => ((i : Int), s, ()))
    (fun i s => s = ((List.range i).map labNo).filter (hasLab l)) (fun p => p = .inl (labsOf l, ()))
    (fun i s hi hI => by
      left
      have hlen : s.length ≤ 32 := by
        rw [hI]
        have := List.length_filter_le (hasLab l) ((List.range i).map labNo)
        simp only [List.length_map, List.length_range] at this
        omega
      have hd : IntKind.wrap .i64 (Int.tdiv (i : Int) (8 : Int)) = ((i / 8 : Nat) : Int) := by
        rw [show Int.tdiv (i : Int) (8 : Int) = ((i / 8 : Nat) : Int) from rfl, w64] <;> omega
      have hm : Int.tmod (i : Int) (8 : Int) = ((i % 8 : Nat) : Int) := rfl
      have hr : (decide (List.length s + List.length ([(((i / 8 : Nat) : Int), ((i % 8 : Nat) : Int), ())] : List Lab) ≤ maxRow) && true) = true := by
        rw [Bool.and_true]; exact maxRow_le (by simp; omega)
      have h32 : ltI (i : Int) (32 : Int) = true := ltI_true (by omega)
      have h8 : eqI (8 : Int) 0 = false := by decide
      have hin := inner i (l, (i : Int), ((i / 8 : Nat) : Int), ((i % 8 : Nat) : Int), (s, ())) rfl rfl rfl
      refine ⟨((List.range (i + 1)).map labNo).filter (hasLab l), ?_, rfl⟩
      simp only [sl09Labels.B0_0, rIte, rBind, rRet, h32, h8, hd, hm, Bool.false_eq_true, if_false, if_true, hin, Option.bind_some, rInl, wInc (show i < 9223372036854775807 by omega)]
      rw [if_pos hr, List.range_succ, List.map_append, List.filter_append, ← hI]
      cases hh : hasLab l (labNo i) with
      | true => simp [hh]; rfl
      | false => simp [hh])
    (fun s hI => by
      left
      refine ⟨(s, ()), ?_, by rw [hI]; rfl⟩
      have h32 : ltI ((32 : Nat) : Int) (32 : Int) = false := by decide
      simp only [sl09Labels.B0_0, rIte, rRet, h32, Bool.false_eq_true, if_false]) N 0 [] (Nat.zero_le _) (by omega) rfl
  have e1 : sl09Labels.L0_0 N (l, ()) ((0 : Int), ([] : List Lab), ()) = some p := hp
  have e2 : (l, u) = (l, ()) := rfl
  unfold sl09Labels.F sl09Labels.T
  rw [e2, rBind, e1, q, Option.bind_some, rInl, rRet]

end Go.Proofs.YtjnfmjeiceiciaaGreat
