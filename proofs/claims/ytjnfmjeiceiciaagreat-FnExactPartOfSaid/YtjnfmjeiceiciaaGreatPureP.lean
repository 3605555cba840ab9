/-
Numbers, names, tasks as texts.
-/
import Derived.Test.YtjnfmjeiceiciaaGreatFunP0
import Derived.Test.YtjnfmjeiceiciaaGreatPureN
import Derived.Test.YtjnfmjeiceiciaaGreatPureO
import Derived.Test.YtjnfmjeiceiciaaGreatPureU
namespace Go.Proofs.YtjnfmjeiceiciaaGreat
open X Go
set_option linter.unusedVariables false
set_option linter.unusedSimpArgs false
set_option linter.unnecessarySimpa false
set_option maxRecDepth 100000

def I64 (n : Int) : Prop := -9223372036854775808 ≤ n ∧ n ≤ 9223372036854775807

theorem foldZ_lt {n : Int} (h : I64 n) : 0 ≤ foldZ n ∧ foldZ n < 18446744073709551616 := by
  unfold I64 at h
  unfold foldZ
  split <;> omega
theorem pow10 : (128 : Int) ^ (9 + 1) = 1180591620717411303424 := by decide +kernel
theorem fitRow {a b : List Int} (h : a.length + b.length ≤ 4294967296) : (decide (List.length a + List.length b ≤ maxRow) && true) = true := by
  rw [Bool.and_true]
  exact decide_eq_true h
theorem fitStr {a b : List UInt8} (h : a.length + b.length ≤ 9223372036854775807) : decide (List.length a + List.length b ≤ maxStr) = true := decide_eq_true h
theorem byte_lt {u : Int} (h0 : 0 ≤ u) (h1 : u < 128) : IntKind.wrap .u8 u = u := by
  rw [IntKind.wrap_u8]; omega

theorem iPutNum_F {N : Nat} (hN : 1048577 < N) (n : Int) (h : I64 n) : iPutNum.F N (n, ()) = some (pN n) := by
  obtain ⟨f0, f1⟩ := foldZ_lt h
  have hz : xorW .u64 (IntKind.wrap .u64 (shlW .i64 n (1 : Int))) (IntKind.wrap .u64 (shrZ .i64 n (63 : Int))) = foldZ n := by
    unfold I64 at h
    unfold foldZ
    by_cases hn : n < 0
    · rw [if_pos hn]; exact zig_neg hn h.1
    · rw [if_neg hn]; exact zig_nn (by omega) h.2
  have key : iPutNum.L0_0 N () (foldZ n, ([] : List Int), ()) = some (.inl ((lp 9 (foldZ n)).2, ([] ++ (lp 9 (foldZ n)).1 : List Int), ())) :=
    lp_loop (B := iPutNum.B0_0 N ()) (fun u l => (u, l, ())) (fun u l => (u, l, ()))
      (fun u l h1 h2 h3 => by
        have e1 : orW .u8 (IntKind.wrap .u8 u) (128 : Int) = u % 128 + 128 := by
          rw [or128 (by rw [IntKind.wrap_u8]; omega) (by rw [IntKind.wrap_u8]; omega), IntKind.wrap_u8]
          omega
        have e2 : shrZ .u64 u (7 : Int) = u / 128 := by
          show Int.fdiv u (2 ^ 7) = _
          rw [Int.fdiv_eq_ediv_of_nonneg _ (by decide)]
          rfl
        simp only [iPutNum.B0_0, rIte, rRet, leI_true h1, if_true, e1, e2]
        rw [if_pos (fitRow (by simp only [List.length_cons, List.length_nil]; omega)), if_neg (by decide)])
      (fun u l h1 h2 h3 => by
        simp only [iPutNum.B0_0, rIte, rRet, leI_false h2, Bool.false_eq_true, if_false])
      9 N (foldZ n) [] f0 (by rw [pow10]; omega) f1 (by simp) (by omega)
  obtain ⟨l0, l1⟩ := lp_lt 9 (foldZ n) f0 (by rw [pow10]; omega)
  have hlen := lp_len 9 (foldZ n)
  unfold iPutNum.F iPutNum.T
  dsimp only
  rw [rIte, if_neg (by decide), rIte, if_neg (by decide), rBind, hz, key, Option.bind_some, rInl, rIte, if_pos (fitRow (by simp only [List.length_cons, List.length_nil, List.nil_append]; omega)), rRet, byte_lt l0 l1]
  rfl

theorem sl01Fold_F (N : Nat) (n : Int) (h : I64 n) : sl01Fold.F N (n, ()) = some (foldZ n) := by
  unfold I64 at h
  simp only [sl01Fold.F, sl01Fold.T, rIte, rRet]
  unfold foldZ
  by_cases hn : n < 0
  · rw [if_pos (ltI_iff.2 hn), if_pos hn]
    have e1 : addW .i64 n (1 : Int) = n + 1 := addW64 (by omega) (by omega)
    have e2 : subW .i64 0 (n + 1) = -(n + 1) := by rw [subW64 (by omega) (by omega)]; omega
    rw [e1, e2]
    show some (IntKind.wrap .u64 (IntKind.wrap .u64 (2 * IntKind.wrap .u64 (-(n + 1))) + 1)) = _
    rw [IntKind.wrap_u64, IntKind.wrap_u64, IntKind.wrap_u64]
    congr 1
    omega
  · rw [if_neg (by rw [ltI_iff]; exact hn), if_neg hn]
    show some (IntKind.wrap .u64 (2 * IntKind.wrap .u64 n)) = _
    rw [IntKind.wrap_u64, IntKind.wrap_u64]
    congr 1
    omega

theorem sPutNum_F {N : Nat} (hN : 1048577 < N) (n : Int) (h : I64 n) : sPutNum.F N (n, ()) = some (pN n) := by
  obtain ⟨f0, f1⟩ := foldZ_lt h
  have hz := sl01Fold_F N n h
  have key : sPutNum.L0_0 N () (foldZ n, ([] : List Int), ()) = some (.inl ((lp 9 (foldZ n)).2, ([] ++ (lp 9 (foldZ n)).1 : List Int), ())) :=
    lp_loop (B := sPutNum.B0_0 N ()) (fun u l => (u, l, ())) (fun u l => (u, l, ()))
      (fun u l h1 h2 h3 => by
        have e0 : Int.tmod u (128 : Int) = u % 128 := Int.tmod_eq_emod_of_nonneg (by omega)
        have e1 : IntKind.wrap .u8 (addW .u64 (u % 128) (128 : Int)) = u % 128 + 128 := by
          show IntKind.wrap .u8 (IntKind.wrap .u64 (u % 128 + 128)) = _
          rw [IntKind.wrap_u8, IntKind.wrap_u64]
          omega
        have e2 : IntKind.wrap .u64 (Int.tdiv u (128 : Int)) = u / 128 := by
          rw [Int.tdiv_eq_ediv_of_nonneg (by omega), IntKind.wrap_u64]
          omega
        simp only [sPutNum.B0_0, rIte, rRet, leI_true h1, if_true, e0, e1, e2]
        rw [if_neg (by decide), if_pos (fitRow (by simp only [List.length_cons, List.length_nil]; omega)), if_neg (by decide)])
      (fun u l h1 h2 h3 => by
        simp only [sPutNum.B0_0, rIte, rRet, leI_false h2, Bool.false_eq_true, if_false])
      9 N (foldZ n) [] f0 (by rw [pow10]; omega) f1 (by simp) (by omega)
  obtain ⟨l0, l1⟩ := lp_lt 9 (foldZ n) f0 (by rw [pow10]; omega)
  have hlen := lp_len 9 (foldZ n)
  unfold sPutNum.F sPutNum.T
  rw [rBind, hz, Option.bind_some, rBind, key, Option.bind_some, rInl, rIte, if_pos (fitRow (by simp only [List.length_cons, List.length_nil, List.nil_append]; omega)), rRet, byte_lt l0 l1]
  rfl

/-! ### Lists of numbers, names -/

def pT (t : List UInt8) : List UInt8 := if ltI 8000 (lenI t) = true then [] else pN (lenI t) ++ t
theorem pT_len (t : List UInt8) : (pT t).length ≤ 8010 := by
  unfold pT
  split
  · exact Nat.zero_le _
  · rename_i h
    rw [ltI_iff] at h
    unfold lenI at h
    have := pN_len (lenI t)
    rw [List.length_append]
    omega
theorem lenI64 {α : Type} {l : List α} (h : l.length ≤ 9223372036854775807) : I64 (lenI l) := by
  unfold I64 lenI; omega
theorem notLong {t : List UInt8} (h : ¬ ltI 8000 (lenI t) = true) : t.length ≤ 8000 := by
  rw [ltI_iff] at h
  unfold lenI at h
  omega

theorem iPutText_F {N : Nat} (hN : 1048577 < N) (x : iPutText.P.D) : iPutText.F N x = some (pT x.1) := by
  unfold iPutText.F iPutText.T pT
  have h1 : iisLongText.F N x = some (ltI 8000 (lenI x.1)) := rfl
  rw [rBind, h1, Option.bind_some, rIte]
  by_cases h : ltI 8000 (lenI x.1) = true
  · rw [if_pos h, if_pos h]; rfl
  · have hl := notLong h
    have hp := pN_len (lenI x.1)
    rw [if_neg h, if_neg h, rBind, iPutNum_F hN _ (lenI64 (by omega)), Option.bind_some, rIte, if_pos (fitStr (by omega))]
    rfl
theorem sPutText_F {N : Nat} (hN : 1048577 < N) (x : sPutText.P.D) : sPutText.F N x = some (pT x.1) := by
  unfold sPutText.F sPutText.T pT
  rw [rIte]
  by_cases h : ltI 8000 (lenI x.1) = true
  · rw [if_pos h, if_pos h]; rfl
  · have hl := notLong h
    have hp := pN_len (lenI x.1)
    rw [if_neg h, if_neg h, rBind, sPutNum_F hN _ (lenI64 (by omega)), Option.bind_some, rIte, if_pos (fitStr (by omega))]
    rfl

def pNs (l : List Int) : List UInt8 := l.flatMap pN
theorem pNs_len (l : List Int) : (pNs l).length ≤ l.length * 10 := flat_le l pN 10 fun a _ => pN_len a

theorem iputNums_F {N : Nat} (hN : 1048577 < N) (x : iputNums.P.D) (hl : x.1.length ≤ 1048576) (h : ∀ n ∈ x.1, I64 n) : iputNums.F N x = some (pNs x.1) := by
  obtain ⟨l, u⟩ := x
  dsimp only at hl h
  have key : iputNums.L0_0 N (l, lenI l, ()) (([] : List UInt8), (0 : Int), ()) = some (.inl ([] ++ l.flatMap pN, ())) :=
    iter_text (B := iputNums.B0_0 N (l, lenI l, ())) l pN 10 0 (fun i t => (t, (i : Int), ())) (fun t => (t, ())) (fun a _ => pN_len a) hl
      (fun i t hi ht => by
        have hp := pN_len l[i]!
        have e1 := iPutNum_F hN l[i]! (h _ (mem_at hi))
        simp only [iputNums.B0_0, rIte, rBind, rRet, ltLen hi, if_true, idxAt hi, e1, Option.bind_some, wInc (show i < 9223372036854775807 by omega)]
        rw [if_pos (fitStr (by omega))])
      (fun t ht => by simp only [iputNums.B0_0, rIte, rRet, ltEnd, Bool.false_eq_true, if_false]) (k := N) (by omega) (by simp)
  unfold iputNums.F iputNums.T
  dsimp only
  rw [rBind, key, Option.bind_some, rInl, rRet]
  rfl

def numsT (l : List Int) : List UInt8 := pN (lenI l) ++ pNs l
theorem sl18Nums_F {N : Nat} (hN : 1048577 < N) (x : sl18Nums.P.D) (hl : x.1.length ≤ 1048576) (h : ∀ n ∈ x.1, I64 n) : sl18Nums.F N x = some (numsT x.1) := by
  obtain ⟨l, u⟩ := x
  dsimp only at hl h
  have key : sl18Nums.L0_0 N (l, u) (pN (lenI l), (0 : Int), ()) = some (.inl (pN (lenI l) ++ l.flatMap pN, ())) :=
    iter_text (B := sl18Nums.B0_0 N (l, u)) l pN 10 10 (fun i t => (t, (i : Int), ())) (fun t => (t, ())) (fun a _ => pN_len a) hl
      (fun i t hi ht => by
        have hp := pN_len l[i]!
        have e1 := sPutNum_F hN l[i]! (h _ (mem_at hi))
        simp only [sl18Nums.B0_0, rIte, rBind, rRet, ltLen hi, if_true, idxAt hi, e1, Option.bind_some, wInc (show i < 9223372036854775807 by omega)]
        rw [if_pos (fitStr (by omega))])
      (fun t ht => by simp only [sl18Nums.B0_0, rIte, rRet, ltEnd, Bool.false_eq_true, if_false]) (k := N) (by omega) (pN_len _)
  unfold sl18Nums.F sl18Nums.T
  dsimp only
  rw [rBind, sPutNum_F hN _ (lenI64 (by omega)), Option.bind_some, rBind, key, Option.bind_some, rInl, rRet]
  rfl
end Go.Proofs.YtjnfmjeiceiciaaGreat
