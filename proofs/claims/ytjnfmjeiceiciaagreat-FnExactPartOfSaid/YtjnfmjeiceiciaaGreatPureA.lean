/-
Plain laws about loops that are told by their rounds, about lists and whole numbers.
-/
import Derived.Test.YtjnfmjeiceiciaaGreatCore1
namespace Go.Proofs.YtjnfmjeiceiciaaGreat
open X Go
set_option linter.unusedVariables false
set_option linter.unusedSimpArgs false
set_option linter.unnecessarySimpa false

theorem rIte {ρ : Type} (c : Bool) (t e : Tr ρ) : (Tr.ite c t e).run = if c = true then t.run else e.run := by cases c <;> rfl
theorem rBind {ρ α : Type} (x : Option α) (f : α → Tr ρ) : (Tr.bind x f).run = x.bind fun a => (f a).run := by cases x <;> rfl
theorem rRet {ρ : Type} (a : ρ) : (Tr.ret a).run = some a := rfl
theorem rNo {ρ : Type} : (Tr.no : Tr ρ).run = none := rfl
theorem rInl {ρ α β : Type} (a : α) (f : α → Tr ρ) (g : β → Tr ρ) : (Tr.sum (.inl a) f g).run = (f a).run := rfl
theorem rInr {ρ α β : Type} (b : β) (f : α → Tr ρ) (g : β → Tr ρ) : (Tr.sum (.inr b) f g).run = (g b).run := rfl
theorem rSum {ρ α β : Type} (p : α ⊕ β) (f : α → Tr ρ) (g : β → Tr ρ) : (Tr.sum p f g).run = Sum.elim (fun a => (f a).run) (fun b => (g b).run) p := by cases p <;> rfl
theorem rSumIte {ρ α β : Type} (c : Prop) [Decidable c] (a : α) (b : β) (f : α → Tr ρ) (g : β → Tr ρ) : (Tr.sum (if c then .inl a else .inr b) f g).run = if c then (f a).run else (g b).run := by split <;> rfl

theorem w64 {n : Int} (h1 : -9223372036854775808 ≤ n) (h2 : n ≤ 9223372036854775807) : IntKind.wrap .i64 n = n := by
  rw [IntKind.wrap_i64]; omega
theorem addW64 {a b : Int} (h1 : -9223372036854775808 ≤ a + b) (h2 : a + b ≤ 9223372036854775807) : addW .i64 a b = a + b := w64 h1 h2
theorem subW64 {a b : Int} (h1 : -9223372036854775808 ≤ a - b) (h2 : a - b ≤ 9223372036854775807) : subW .i64 a b = a - b := w64 h1 h2
theorem mulW64 {a b : Int} (h1 : -9223372036854775808 ≤ a * b) (h2 : a * b ≤ 9223372036854775807) : mulW .i64 a b = a * b := w64 h1 h2
theorem wInc {n : Nat} (h : n < 9223372036854775807) : addW .i64 (n : Int) (1 : Int) = ((n + 1 : Nat) : Int) := by
  rw [addW64] <;> omega
theorem wDec {n : Nat} (h : 0 < n) (h' : n < 9223372036854775807) : subW .i64 (n : Int) (1 : Int) = ((n - 1 : Nat) : Int) := by
  rw [subW64] <;> omega
theorem ltI_iff {a b : Int} : ltI a b = true ↔ a < b := by simp [ltI]
theorem leI_iff {a b : Int} : leI a b = true ↔ a ≤ b := by simp [leI]
theorem eqI_iff {a b : Int} : eqI a b = true ↔ a = b := by simp [eqI]
theorem eqS_iff {a b : List UInt8} : eqS a b = true ↔ a = b := by simp [eqS]
theorem eqI_refl (a : Int) : eqI a a = true := eqI_iff.2 rfl
theorem eqS_refl (a : List UInt8) : eqS a a = true := eqS_iff.2 rfl
theorem ltI_true {a b : Int} (h : a < b) : ltI a b = true := ltI_iff.2 h
theorem ltI_false {a b : Int} (h : b ≤ a) : ltI a b = false := by simp [ltI]; omega
theorem leI_true {a b : Int} (h : a ≤ b) : leI a b = true := leI_iff.2 h
theorem leI_false {a b : Int} (h : b < a) : leI a b = false := by simp [leI]; omega
theorem eqI_true {a b : Int} (h : a = b) : eqI a b = true := eqI_iff.2 h
theorem eqI_false {a b : Int} (h : a ≠ b) : eqI a b = false := by simp [eqI, h]
theorem ltLen {α : Type} {i : Nat} {l : List α} (h : i < l.length) : ltI (i : Int) (lenI l) = true := ltI_true (by unfold lenI; omega)
theorem ltEnd {α : Type} {l : List α} : ltI (l.length : Int) (lenI l) = false := ltI_false (by unfold lenI; omega)

theorem idxN {α : Type} (l : List α) (n : Nat) : idx l (n : Int) = l[n]? := by simp [idx]
theorem idx0 {α : Type} (l : List α) : idx l (0 : Int) = l[0]? := by simp [idx]
theorem idxAt {α : Type} [Inhabited α] {l : List α} {n : Nat} (h : n < l.length) : idx l (n : Int) = some l[n]! := by
  rw [idxN, List.getElem?_eq_getElem h, getElem!_pos l n h]
theorem idxPrev {α : Type} [Inhabited α] {l : List α} {n : Nat} (h : 0 < n) (h' : n ≤ l.length) (hl : l.length < 9223372036854775807) : idx l (subW .i64 (n : Int) (1 : Int)) = some l[n - 1]! := by
  rw [wDec h (by omega), idxAt (by omega)]

/-! ### Loops -/

section
variable {M O R : Type} {B : M → Tr (Leaf M O R)}

theorem iterT_succ (n : Nat) (m : M) : iterT B (n + 1) m = match (B m).run with
    | some (.more m') => iterT B n m'
    | some (.out o) => some (.inl o)
    | some (.ret r) => some (.inr r)
    | none => none := rfl

/-- A loop over places: what holds before each round, and what at the end. -/
theorem iter_ix {σ : Type} (n : Nat) (mk : Nat → σ → M) (I : Nat → σ → Prop) (Q : O ⊕ R → Prop)
    (step : ∀ i s, i < n → I i s → (∃ s', (B (mk i s)).run = some (.more (mk (i + 1) s')) ∧ I (i + 1) s') ∨ (∃ o, (B (mk i s)).run = some (.out o) ∧ Q (.inl o)) ∨ (∃ r, (B (mk i s)).run = some (.ret r) ∧ Q (.inr r)))
    (last : ∀ s, I n s → (∃ o, (B (mk n s)).run = some (.out o) ∧ Q (.inl o)) ∨ (∃ r, (B (mk n s)).run = some (.ret r) ∧ Q (.inr r))) :
    ∀ k i s, i ≤ n → n < i + k → I i s → ∃ p, iterT B k (mk i s) = some p ∧ Q p := by
  intro k
  induction k with
  | zero => intro i s h1 h2; omega
  | succ k ih =>
    intro i s h1 h2 hI
    rw [iterT_succ]
    by_cases hn : i = n
    · subst hn
      rcases last s hI with ⟨o, e, q⟩ | ⟨r, e, q⟩
      · rw [e]; exact ⟨_, rfl, q⟩
      · rw [e]; exact ⟨_, rfl, q⟩
    · rcases step i s (by omega) hI with ⟨s', e, hI'⟩ | ⟨o, e, q⟩ | ⟨r, e, q⟩
      · rw [e]; exact ih (i + 1) s' (by omega) (by omega) hI'
      · rw [e]; exact ⟨_, rfl, q⟩
      · rw [e]; exact ⟨_, rfl, q⟩

/-- All of some numbers, from a on. -/
def allR (a n : Nat) (p : Nat → Bool) : Bool := (List.range' a (n - a)).all p
theorem allR_true {a n : Nat} {p : Nat → Bool} : allR a n p = true ↔ ∀ i, a ≤ i → i < n → p i = true := by
  unfold allR
  rw [List.all_eq_true]
  constructor
  · intro h i h1 h2
    exact h i (by rw [List.mem_range'_1]; omega)
  · intro h i hi
    rw [List.mem_range'_1] at hi
    exact h i hi.1 (by omega)

/-- All of some numbers. -/
def allN (n : Nat) (p : Nat → Bool) : Bool := allR 0 n p

theorem allN_true {n : Nat} {p : Nat → Bool} : allN n p = true ↔ ∀ i, i < n → p i = true := by
  unfold allN
  rw [allR_true]
  exact ⟨fun h i hi => h i (Nat.zero_le _) hi, fun h i _ hi => h i hi⟩
theorem allN_range {n : Nat} {p : Nat → Bool} : allN n p = (List.range n).all p := by
  unfold allN allR
  rw [Nat.sub_zero, List.range_eq_range']
theorem allN_congr {n : Nat} {p q : Nat → Bool} (h : ∀ i, i < n → p i = q i) : allN n p = allN n q := by
  rw [Bool.eq_iff_iff, allN_true, allN_true]
  exact forall_congr' fun i => forall_congr' fun hi => by rw [h i hi]
theorem allN_false {n : Nat} {p : Nat → Bool} (i : Nat) (hi : i < n) (h : p i = false) : allN n p = false := by
  rw [Bool.eq_false_iff, Ne, allN_true]
  intro hh
  rw [hh i hi] at h; cases h

/-- A loop that looks at each place from a on and ends at the first that is wrong. -/
theorem iter_all {a n : Nat} {mk : Nat → M} {p : Nat → Bool} {r0 : R} {o0 : O}
    (step : ∀ i, a ≤ i → i < n → (∀ j, a ≤ j → j < i → p j = true) → (B (mk i)).run = some (if p i = true then .more (mk (i + 1)) else .ret r0))
    (last : (∀ j, a ≤ j → j < n → p j = true) → (B (mk n)).run = some (.out o0)) {k : Nat} (hk : n < k) (ha : a ≤ n) :
    iterT B k (mk a) = some (if allR a n p = true then .inl o0 else .inr r0) := by
  have gen : ∀ k i, a ≤ i → i ≤ n → n < i + k → (∀ j, a ≤ j → j < i → p j = true) → iterT B k (mk i) = some (if allR a n p = true then .inl o0 else .inr r0) := by
    intro k
    induction k with
    | zero => intro i h1 h2; omega
    | succ k ih =>
      intro i h0 h1 h2 h3
      rw [iterT_succ]
      by_cases hn : i = n
      · subst hn
        rw [last h3, if_pos (allR_true.2 h3)]
      · rw [step i h0 (by omega) h3]
        by_cases hp : p i = true
        · rw [if_pos hp]
          refine ih (i + 1) (by omega) (by omega) (by omega) fun j h4 hj => ?_
          by_cases hji : j = i
          · subst hji; exact hp
          · exact h3 j h4 (by omega)
        · rw [if_neg hp, if_neg (fun hh => hp (allR_true.1 hh i h0 (by omega)))]
  exact gen k a (Nat.le_refl _) ha (by omega) (fun j h1 h2 => by omega)

/-- A loop that ends at the first place that is right. -/
theorem iter_find {n : Nat} {mk : Nat → M} {p : Nat → Bool} {r : Nat → R} {o0 : O}
    (step : ∀ i, i < n → (B (mk i)).run = some (if p i = true then .ret (r i) else .more (mk (i + 1))))
    (last : (B (mk n)).run = some (.out o0)) {k : Nat} (hk : n < k) :
    iterT B k (mk 0) = some (match (List.range n).find? p with | some i => .inr (r i) | none => .inl o0) := by
  have gen : ∀ k i, i ≤ n → n < i + k → iterT B k (mk i) = some (match (List.range' i (n - i)).find? p with | some i => .inr (r i) | none => .inl o0) := by
    intro k
    induction k with
    | zero => intro i h1 h2; omega
    | succ k ih =>
      intro i h1 h2
      rw [iterT_succ]
      by_cases hn : i = n
      · subst hn
        rw [last]; simp
      · rw [step i (by omega)]
        rw [show n - i = (n - (i + 1)) + 1 by omega, List.range'_succ, List.find?_cons]
        by_cases hp : p i = true
        · simp [hp]
        · simp only [hp, Bool.false_eq_true, if_false]
          exact ih (i + 1) (by omega) (by omega)
  rw [gen k 0 (Nat.zero_le _) (by omega), List.range_eq_range', Nat.sub_zero]

/-- A loop that carries something along. -/
theorem iter_fold {σ : Type} {n : Nat} {mk : Nat → σ → M} {g : Nat → σ → σ} {o : σ → O} (I : Nat → σ → Prop)
    (step : ∀ i s, i < n → I i s → (B (mk i s)).run = some (.more (mk (i + 1) (g i s))) ∧ I (i + 1) (g i s))
    (last : ∀ s, I n s → (B (mk n s)).run = some (.out (o s))) {k : Nat} (hk : n < k) {s0 : σ} (h0 : I 0 s0) :
    iterT B k (mk 0 s0) = some (.inl (o ((List.range n).foldl (fun s i => g i s) s0))) ∧ I n ((List.range n).foldl (fun s i => g i s) s0) := by
  have gen : ∀ k i s, i ≤ n → n < i + k → I i s → iterT B k (mk i s) = some (.inl (o ((List.range' i (n - i)).foldl (fun s i => g i s) s))) ∧ I n ((List.range' i (n - i)).foldl (fun s i => g i s) s) := by
    intro k
    induction k with
    | zero => intro i s h1 h2; omega
    | succ k ih =>
      intro i s h1 h2 hI
      rw [iterT_succ]
      by_cases hn : i = n
      · subst hn
        rw [last s hI]
        simpa using hI
      · obtain ⟨e, hI'⟩ := step i s (by omega) hI
        rw [e, show n - i = (n - (i + 1)) + 1 by omega, List.range'_succ, List.foldl_cons]
        exact ih (i + 1) _ (by omega) (by omega) hI'
  have := gen k 0 s0 (Nat.zero_le _) (by omega) h0
  rwa [Nat.sub_zero, ← List.range_eq_range'] at this

end

/-- The lists' elements by their places. -/
theorem range_map_get {α : Type} [Inhabited α] (l : List α) : (List.range l.length).map (fun i => l[i]!) = l := by
  apply List.ext_getElem (by simp)
  intro i h1 h2
  simp [h2]

theorem foldl_get {α β : Type} [Inhabited α] (l : List α) (f : β → α → β) (b : β) : (List.range l.length).foldl (fun s i => f s l[i]!) b = l.foldl f b := by
  conv => rhs; rw [← range_map_get l, List.foldl_map]

theorem all_get {α : Type} [Inhabited α] (l : List α) (p : α → Bool) : allN l.length (fun i => p l[i]!) = l.all p := by
  conv => rhs; rw [← range_map_get l, List.all_map]
  rw [allN_range]
  rfl

theorem find_get {α : Type} [Inhabited α] (l : List α) (p : α → Bool) : ((List.range l.length).find? fun i => p l[i]!).isSome = l.any p := by
  rw [List.find?_isSome_eq_any]
  conv => rhs; rw [← range_map_get l, List.any_map]
  rfl
 where
  List.find?_isSome_eq_any {α : Type} {l : List α} {p : α → Bool} : (l.find? p).isSome = l.any p := by
    rw [Bool.eq_iff_iff, List.find?_isSome, List.any_eq_true]

end Go.Proofs.YtjnfmjeiceiciaaGreat
