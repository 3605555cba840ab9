/-
Numbers as bytes: the folding of the sign, the mark of a byte that is not the last.
-/
import Derived.Test.YtjnfmjeiceiciaaGreatPureA
namespace Go.Proofs.YtjnfmjeiceiciaaGreat
open X Go
set_option linter.unusedVariables false
set_option linter.unusedSimpArgs false
set_option maxRecDepth 100000
theorem zig_nn {n : Int} (h0 : 0 ≤ n) (h1 : n ≤ 9223372036854775807) : xorW .u64 (IntKind.wrap .u64 (shlW .i64 n 1)) (IntKind.wrap .u64 (shrZ .i64 n 63)) = 2 * n := by
  have e1 : shrZ .i64 n 63 = 0 := by
    show Int.fdiv n (2 ^ 63) = 0
    rw [Int.fdiv_eq_ediv_of_nonneg _ (by decide)]
    omega
  have e2 : IntKind.wrap .u64 (shlW .i64 n 1) = 2 * n := by
    show IntKind.wrap .u64 (IntKind.wrap .i64 (n * 2 ^ 1)) = _
    rw [IntKind.wrap_i64, IntKind.wrap_u64]
    omega
  rw [e1, e2]
  show IntKind.wrap .u64 ((BitVec.toNat (BitVec.ofInt 64 (2 * n) ^^^ BitVec.ofInt 64 (IntKind.wrap .u64 0)) : Nat) : Int) = _
  have e3 : IntKind.wrap .u64 0 = 0 := by decide
  rw [e3]
  have e4 : BitVec.ofInt 64 0 = 0#64 := by decide
  rw [e4, BitVec.xor_zero, BitVec.toNat_ofInt, IntKind.wrap_u64]
  omega
theorem zig_neg {n : Int} (h0 : n < 0) (h1 : -9223372036854775808 ≤ n) : xorW .u64 (IntKind.wrap .u64 (shlW .i64 n 1)) (IntKind.wrap .u64 (shrZ .i64 n 63)) = 2 * (-(n + 1)) + 1 := by
  have e1 : shrZ .i64 n 63 = -1 := by
    show Int.fdiv n (2 ^ 63) = -1
    rw [Int.fdiv_eq_ediv_of_nonneg _ (by decide)]
    omega
  have e2 : IntKind.wrap .u64 (shlW .i64 n 1) = 2 * n + 18446744073709551616 := by
    show IntKind.wrap .u64 (IntKind.wrap .i64 (n * 2 ^ 1)) = _
    rw [IntKind.wrap_i64, IntKind.wrap_u64]
    omega
  have e3 : IntKind.wrap .u64 (-1) = 18446744073709551615 := by decide
  rw [e1, e2, e3]
  show IntKind.wrap .u64 ((BitVec.toNat (BitVec.ofInt 64 (2 * n + 18446744073709551616) ^^^ BitVec.ofInt 64 18446744073709551615) : Nat) : Int) = _
  have e4 : BitVec.ofInt 64 18446744073709551615 = BitVec.allOnes 64 := by decide
  rw [e4, BitVec.xor_allOnes, BitVec.toNat_not, BitVec.toNat_ofInt, IntKind.wrap_u64]
  omega
theorem or128 {b : Int} (h0 : 0 ≤ b) (h1 : b ≤ 255) : orW .u8 b 128 = b % 128 + 128 := by
  obtain ⟨m, rfl⟩ : ∃ m : Fin 256, b = (m.val : Int) := ⟨⟨b.toNat, by omega⟩, by simp only; omega⟩
  revert m
  decide +kernel

/-! ### A number's bytes -/

def lp : Nat → Int → List Int × Int
  | 0, u => ([], u)
  | f + 1, u => if u < 128 then ([], u) else ((u % 128 + 128) :: (lp f (u / 128)).1, (lp f (u / 128)).2)

def foldZ (n : Int) : Int := if n < 0 then 2 * (-(n + 1)) + 1 else 2 * n
def byteL (l : List Int) : List UInt8 := l.map fun n : Int => UInt8.ofNat n.toNat
def pN (n : Int) : List UInt8 := byteL ((lp 9 (foldZ n)).1 ++ [(lp 9 (foldZ n)).2])

theorem lp_len : ∀ (f : Nat) (u : Int), (lp f u).1.length ≤ f
  | 0, u => Nat.le_refl _
  | f + 1, u => by
    unfold lp
    split
    · exact Nat.zero_le _
    · have := lp_len f (u / 128)
      simp only [List.length_cons]
      omega
theorem lp_lt : ∀ (f : Nat) (u : Int), 0 ≤ u → u < (128 : Int) ^ (f + 1) → 0 ≤ (lp f u).2 ∧ (lp f u).2 < 128
  | 0, u, h0, h1 => ⟨h0, show u < 128 by simpa using h1⟩
  | f + 1, u, h0, h1 => by
    unfold lp
    split
    · rename_i h
      exact ⟨h0, h⟩
    · exact lp_lt f (u / 128) (by omega) (by
        rw [Int.pow_succ] at h1
        exact Int.ediv_lt_of_lt_mul (by decide) h1)
theorem pN_len (n : Int) : (pN n).length ≤ 10 := by
  unfold pN byteL
  rw [List.length_map, List.length_append]
  have := lp_len 9 (foldZ n)
  simp only [List.length_cons, List.length_nil]
  omega

theorem lp_loop {M O R : Type} {B : M → Tr (Leaf M O R)} (mk : Int → List Int → M) (o : Int → List Int → O)
    (hmore : ∀ u l, 128 ≤ u → u < 18446744073709551616 → l.length ≤ 9 → (B (mk u l)).run = some (.more (mk (u / 128) (l ++ [u % 128 + 128]))))
    (hlast : ∀ u l, 0 ≤ u → u < 128 → l.length ≤ 9 → (B (mk u l)).run = some (.out (o u l))) :
    ∀ (f k : Nat) (u : Int) (l : List Int), 0 ≤ u → u < (128 : Int) ^ (f + 1) → u < 18446744073709551616 → l.length + f ≤ 9 → f < k → iterT B k (mk u l) = some (.inl (o (lp f u).2 (l ++ (lp f u).1)))
  | f, 0, u, l, _, _, _, _, h => by omega
  | 0, k + 1, u, l, h0, h1, h2, h3, _ => by
    rw [iterT_succ, hlast u l h0 (by simpa using h1) (by omega)]
    simp [lp]
  | f + 1, k + 1, u, l, h0, h1, h2, h3, h4 => by
    rw [iterT_succ]
    unfold lp
    by_cases h : u < 128
    · rw [hlast u l h0 h (by omega), if_pos h, List.append_nil]
    · rw [hmore u l (by omega) h2 (by omega), if_neg h]
      have := lp_loop mk o hmore hlast f k (u / 128) (l ++ [u % 128 + 128]) (by omega) (by
        rw [Int.pow_succ] at h1
        exact Int.ediv_lt_of_lt_mul (by decide) h1) (by omega) (by simp; omega) (by omega)
      simp only
      rw [this, List.append_assoc]
      rfl

/-- A loop that lays texts one behind another. -/
theorem iter_text {M O R : Type} {B : M → Tr (Leaf M O R)} {α : Type} [Inhabited α] (l : List α) (g : α → List UInt8) (G S : Nat) (mk : Nat → List UInt8 → M) (o : List UInt8 → O)
    (hg : ∀ a ∈ l, (g a).length ≤ G) (hl : l.length ≤ 1048576)
    (step : ∀ i t, i < l.length → t.length ≤ S + i * G → (B (mk i t)).run = some (.more (mk (i + 1) (t ++ g l[i]!))))
    (last : ∀ t, t.length ≤ S + l.length * G → (B (mk l.length t)).run = some (.out (o t))) {k : Nat} (hk : l.length < k) {t : List UInt8} (ht : t.length ≤ S) :
    iterT B k (mk 0 t) = some (.inl (o (t ++ l.flatMap g))) := by
  have gen : ∀ k i t, i ≤ l.length → l.length < i + k → t.length ≤ S + i * G → iterT B k (mk i t) = some (.inl (o (t ++ (l.drop i).flatMap g))) := by
    intro k
    induction k with
    | zero => intro i t h1 h2; omega
    | succ k ih =>
      intro i t h1 h2 h3
      rw [iterT_succ]
      by_cases hn : i = l.length
      · subst hn
        rw [last t h3, List.drop_length]
        simp
      · have hi : i < l.length := by omega
        rw [step i t hi h3]
        have hm : l[i]! ∈ l := by rw [getElem!_pos l i hi]; exact List.getElem_mem hi
        have hgi := hg _ hm
        simp only
        rw [ih (i + 1) _ (by omega) (by omega) (by rw [List.length_append, Nat.succ_mul]; omega)]
        rw [List.drop_eq_getElem_cons hi, List.flatMap_cons, ← getElem!_pos l i hi, List.append_assoc]
  have := gen k 0 t (Nat.zero_le _) (by omega) (by omega)
  rwa [List.drop_zero] at this

theorem flat_le {α : Type} (l : List α) (g : α → List UInt8) (G : Nat) (hg : ∀ a ∈ l, (g a).length ≤ G) : (l.flatMap g).length ≤ l.length * G := by
  induction l with
  | nil => simp
  | cons a r ih =>
    rw [List.flatMap_cons, List.length_append, List.length_cons, Nat.succ_mul]
    have h1 := hg a (List.mem_cons_self ..)
    have h2 := ih fun b hb => hg b (List.mem_cons_of_mem _ hb)
    omega
end Go.Proofs.YtjnfmjeiceiciaaGreat
