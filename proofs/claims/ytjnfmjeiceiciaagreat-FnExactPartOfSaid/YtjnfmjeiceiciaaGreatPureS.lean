/-
A law's bookkeeping: sizes are bounded, copies are equal, equality is reflexive.
-/
import Derived.Test.YtjnfmjeiceiciaaGreatPureA
namespace Go.Proofs.YtjnfmjeiceiciaaGreat
open X Go
set_option linter.unusedVariables false
set_option linter.unusedSimpArgs false
set_option linter.unnecessarySimpa false

def SzOK (t : Ty) (f : t.D × Int × Unit → Option Int) : Prop :=
  ∀ (x : t.D) (left : Int), Ok t x → 0 ≤ left → left ≤ 1048576 → ∃ r, f (x, left, ()) = some r ∧ (r < 0 ∨ (0 ≤ r ∧ r + (t.wt x : Int) ≤ left))

theorem sum_zero {α : Type} {l : List α} {w : α → Nat} (h : ∀ x, w x = 0) : (l.map w).sum = 0 := by
  induction l with
  | nil => rfl
  | cons a r ih => simp [h, ih]

theorem SzOK.flat {E : TypeId} {e : Ty} (h : ∀ x, e.wt x = 0) : SzOK (.slice E e) (fun x => (Tr.ite (ltI (subW .i64 x.2.1 (lenI x.1)) (0 : Int)) (.ret (-1 : Int)) (.ret (subW .i64 x.2.1 (lenI x.1)))).run) := by
  intro x left hok h0 h1
  have hl : x.length ≤ 9223372036854775807 := hok.1
  simp only [rIte, rRet]
  rw [subW64 (by unfold lenI; omega) (by unfold lenI; omega)]
  unfold lenI
  split
  · exact ⟨_, rfl, .inl (by omega)⟩
  · rename_i hn
    rw [ltI_iff] at hn
    refine ⟨_, rfl, .inr ⟨by omega, ?_⟩⟩
    have : Ty.wt (.slice E e) x = x.length := by simp only [Ty.wt, sum_zero h, Nat.add_zero]
    rw [this]; omega

theorem sum_take {α : Type} [Inhabited α] (l : List α) (w : α → Nat) {i : Nat} (h : i < l.length) : ((l.take (i + 1)).map w).sum = ((l.take i).map w).sum + w l[i]! := by
  rw [List.take_add_one, getElem!_pos l i h, List.getElem?_eq_getElem h, List.map_append, List.sum_append]
  simp

theorem le_sum {x : Nat} : ∀ {l : List Nat}, x ∈ l → x ≤ l.sum
  | a :: r, h => by
    rcases List.mem_cons.1 h with rfl | h
    · simp
    · have := le_sum h
      simp only [List.sum_cons]; omega

theorem SzOK.list {N : Nat} (hN : 1048577 < N) {E : TypeId} {e : Ty} [Inhabited e.D] {f : e.D × Int × Unit → Option Int} (hf : SzOK e f) :
    SzOK (.slice E e) (fun x => (Tr.ite (ltI (subW .i64 x.2.1 (lenI x.1)) (0 : Int)) (.ret (-1 : Int)) (.bind (iterT (fun m : Int × Int × Unit => (Tr.ite (ltI m.2.1 (lenI x.1)) (.bind (idx x.1 m.2.1) fun x1 => .bind (f (x1, m.1, ())) fun x2 => .ite (ltI x2 (0 : Int)) (.ret (.ret ((-1 : Int), ()))) (.ret (.more (x2, (addW .i64 m.2.1 (1 : Int)), ())))) (.ret (.out (m.1, ()))) : Tr (Leaf (Int × Int × Unit) (Int × Unit) (Int × Unit)))) N ((subW .i64 x.2.1 (lenI x.1)), (0 : Int), ())) fun p1 => .sum p1 (fun a2 => .ret a2.1) (fun b3 => .ret b3.1))).run) := by
  intro x left hok h0 h1
  obtain ⟨hl, hx⟩ := hok
  simp only [rIte]
  have hsub : subW .i64 left (lenI x) = left - x.length := by unfold lenI; exact subW64 (by omega) (by omega)
  rw [hsub]
  split
  · exact ⟨_, rfl, .inl (by omega)⟩
  · rename_i hn
    rw [ltI_iff] at hn
    rw [rBind]
    obtain ⟨p, hp, q⟩ := iter_ix (B := (fun m : Int × Int × Unit => (Tr.ite (ltI m.2.1 (lenI x)) (.bind (idx x m.2.1) fun x1 => .bind (f (x1, m.1, ())) fun x2 => .ite (ltI x2 (0 : Int)) (.ret (.ret ((-1 : Int), ()))) (.ret (.more (x2, (addW .i64 m.2.1 (1 : Int)), ())))) (.ret (.out (m.1, ()))) : Tr (Leaf (Int × Int × Unit) (Int × Unit) (Int × Unit))))) x.length (fun i (s : Int) => (s, (i : Int), ()))
      (fun i s => 0 ≤ s ∧ s + (((x.take i).map e.wt).sum : Nat) ≤ left - x.length)
      (fun p => match p with | .inl o => 0 ≤ o.1 ∧ o.1 + ((x.map e.wt).sum : Nat) ≤ left - x.length | .inr r => r.1 = -1)
      (fun i s hi hI => by
        obtain ⟨r, hr, hrr⟩ := hf x[i]! s (hx _ (by rw [getElem!_pos x i hi]; exact List.getElem_mem hi)) hI.1 (by omega)
        simp only [rIte, rBind, rRet, idxAt hi, Option.bind_some, hr]
        rw [if_pos (ltLen hi)]
        by_cases hneg : r < 0
        · right; right
          exact ⟨_, by rw [if_pos (ltI_true hneg)], rfl⟩
        · left
          refine ⟨r, ?_, by omega, ?_⟩
          · rw [if_neg (by rw [ltI_iff]; exact hneg), wInc (by omega)]
          · rw [sum_take x _ hi]; omega)
      (fun s hI => by
        left
        refine ⟨(s, ()), ?_, hI.1, ?_⟩
        · simp only [rIte, rRet]
          rw [if_neg (by rw [ltEnd]; decide)]
        · have := hI.2
          rw [List.take_length] at this
          exact this) N 0 (left - x.length) (Nat.zero_le _) (by omega) ⟨by omega, by simp⟩
    have hp' : iterT (fun m : Int × Int × Unit => (Tr.ite (ltI m.2.1 (lenI x)) (.bind (idx x m.2.1) fun x1 => .bind (f (x1, m.1, ())) fun x2 => .ite (ltI x2 (0 : Int)) (.ret (.ret ((-1 : Int), ()))) (.ret (.more (x2, (addW .i64 m.2.1 (1 : Int)), ())))) (.ret (.out (m.1, ()))) : Tr (Leaf (Int × Int × Unit) (Int × Unit) (Int × Unit)))) N ((left - x.length), (0 : Int), ()) = some p := hp
    rw [hp', Option.bind_some]
    cases p with
    | inl o =>
      refine ⟨o.1, rfl, .inr ⟨q.1, ?_⟩⟩
      have := q.2
      simp only [Ty.wt]
      omega
    | inr r => exact ⟨r.1, rfl, .inl (by rw [q]; decide)⟩

def ToOK (t : Ty) (f : t.D × Unit → Option t.D) : Prop := ∀ y : t.D × Unit, t.wt y.1 ≤ 1048576 → f y = some y.1

theorem set_take {α : Type} [Inhabited α] (l m : List α) {i : Nat} (h : i < l.length) (hm : m.length = l.length) : (l.take i ++ m.drop i).set i l[i]! = l.take (i + 1) ++ m.drop (i + 1) := by
  apply List.ext_getElem (by simp; omega)
  intro k h1 h2
  simp only [List.getElem_set]
  split
  · rename_i e
    subst e
    rw [List.getElem_append_left (by simp; omega), getElem!_pos l i h, List.getElem_take]
  · rename_i hne
    by_cases hk : k < i
    · rw [List.getElem_append_left (by simp; omega), List.getElem_append_left (by simp; omega)]
      simp
    · rw [List.getElem_append_right (by simp; omega), List.getElem_append_right (by simp; omega)]
      simp only [List.getElem_drop, List.length_take]
      congr 1
      omega

theorem wt_get {E : TypeId} {e : Ty} [Inhabited e.D] {l : List e.D} {i : Nat} (h : i < l.length) : e.wt l[i]! ≤ Ty.wt (.slice E e) l := by
  rw [getElem!_pos l i h]
  have : e.wt l[i] ∈ l.map e.wt := List.mem_map.2 ⟨_, List.getElem_mem h, rfl⟩
  have := le_sum this
  simp only [Ty.wt]; omega

theorem ToOK.list {N : Nat} (hN : 1048577 < N) {E : TypeId} {e : Ty} [Inhabited e.D] {f : e.D × Unit → Option e.D} (hf : ToOK e f) (z : e.D) :
    ToOK (.slice E e) (fun x => (Tr.ite (eqI (lenI x.1) (lenI x.1) && inR 0 (lenI x.1) maxRow) (.bind (iterT (fun m : Int × List e.D × Unit => (Tr.ite (ltI m.1 (lenI x.1)) (.bind (idx x.1 m.1) fun x1 => .bind (f (x1, ())) fun x2 => .bind (idx m.2.1 m.1) fun _ => .bind (idx m.2.1 m.1) fun x3 => .ret (.more ((addW .i64 m.1 (1 : Int)), (List.set m.2.1 (Int.toNat m.1) x2), ()))) (.ret (.out m.2)) : Tr (Leaf (Int × List e.D × Unit) (List e.D × Unit) Unit))) N ((0 : Int), (List.replicate (Int.toNat (lenI x.1)) z), ())) fun p1 => .sum p1 (fun a2 => .ret a2.1) (fun b3 => .no)) (.no)).run) := by
  rintro ⟨x, u⟩ hw
  dsimp only at hw ⊢
  have hlen : x.length ≤ 1048576 := by simp only [Ty.wt] at hw; omega
  have hc : (eqI (lenI x) (lenI x) && inR 0 (lenI x) maxRow) = true := by
    rw [Bool.and_eq_true]
    refine ⟨eqI_true rfl, ?_⟩
    unfold inR lenI
    rw [Bool.and_eq_true]
    exact ⟨decide_eq_true (by omega), decide_eq_true (by have : ((maxRow : Nat) : Int) = 4294967296 := rfl; omega)⟩
  rw [rIte, if_pos hc, rBind]
  obtain ⟨p, hp, q⟩ := iter_ix (B := (fun m : Int × List e.D × Unit => (Tr.ite (ltI m.1 (lenI x)) (.bind (idx x m.1) fun x1 => .bind (f (x1, ())) fun x2 => .bind (idx m.2.1 m.1) fun _ => .bind (idx m.2.1 m.1) fun x3 => .ret (.more ((addW .i64 m.1 (1 : Int)), (List.set m.2.1 (Int.toNat m.1) x2), ()))) (.ret (.out m.2)) : Tr (Leaf (Int × List e.D × Unit) (List e.D × Unit) Unit)))) x.length (fun i (s : List e.D) => ((i : Int), s, ()))
    (fun i s => s = x.take i ++ (List.replicate x.length z).drop i)
    (fun p => p = .inl (x, ()))
    (fun i s hi hI => by
      left
      have hfx := hf (x[i]!, ()) (by have := wt_get (E := E) (e := e) hi; simp only at hw ⊢; omega)
      have hsl : i < s.length := by rw [hI]; simp; omega
      refine ⟨s.set i x[i]!, ?_, ?_⟩
      · simp only [rIte, rBind, rRet, idxAt hi, Option.bind_some, hfx, idxAt hsl]
        rw [if_pos (ltLen hi), wInc (by omega), Int.toNat_natCast]
      · rw [hI]; exact set_take x _ hi (by simp))
    (fun s hI => by
      left
      refine ⟨(s, ()), ?_, ?_⟩
      · simp only [rIte, rRet]
        rw [if_neg (by rw [ltEnd]; decide)]
      · rw [hI]; simp) N 0 (List.replicate x.length z) (Nat.zero_le _) (by omega) (by simp)
  have hp' : iterT (fun m : Int × List e.D × Unit => (Tr.ite (ltI m.1 (lenI x)) (.bind (idx x m.1) fun x1 => .bind (f (x1, ())) fun x2 => .bind (idx m.2.1 m.1) fun _ => .bind (idx m.2.1 m.1) fun x3 => .ret (.more ((addW .i64 m.1 (1 : Int)), (List.set m.2.1 (Int.toNat m.1) x2), ()))) (.ret (.out m.2)) : Tr (Leaf (Int × List e.D × Unit) (List e.D × Unit) Unit))) N ((0 : Int), (List.replicate (Int.toNat (lenI x)) z), ()) = some p := by unfold lenI; rw [Int.toNat_natCast]; exact hp
  rw [hp', q]
  rfl

def EqOK (t : Ty) (f : t.D × t.D × Unit → Option Bool) : Prop := ∀ y : t.D × t.D × Unit, t.wt y.1 ≤ 1048576 → y.1 = y.2.1 → f y = some true

theorem EqOK.list {N : Nat} (hN : 1048577 < N) {E : TypeId} {e : Ty} [Inhabited e.D] {f : e.D × e.D × Unit → Option Bool} (hf : EqOK e f) :
    EqOK (.slice E e) (fun x => (Tr.ite (!eqI (lenI x.1) (lenI x.2.1)) (.ret false) (.bind (iterT (fun m : Int × Unit => (Tr.ite (ltI m.1 (lenI x.1)) (.bind (idx x.1 m.1) fun x1 => .bind (idx x.2.1 m.1) fun x2 => .bind (f (x1, x2, ())) fun x3 => .ite (!x3) (.ret (.ret (false, ()))) (.ret (.more ((addW .i64 m.1 (1 : Int)), ())))) (.ret (.out ())) : Tr (Leaf (Int × Unit) Unit (Bool × Unit)))) N ((0 : Int), ())) fun p1 => .sum p1 (fun a2 => .ret true) (fun b3 => .ret b3.1))).run) := by
  rintro ⟨x, x', u⟩ hw heq
  simp only at hw heq ⊢
  subst heq
  have hlen : x.length ≤ 1048576 := by simp only [Ty.wt] at hw; omega
  rw [rIte, eqI_true rfl]
  simp only [Bool.not_true, Bool.false_eq_true, if_false, rBind]
  have := iter_all (B := (fun m : Int × Unit => (Tr.ite (ltI m.1 (lenI x)) (.bind (idx x m.1) fun x1 => .bind (idx x m.1) fun x2 => .bind (f (x1, x2, ())) fun x3 => .ite (!x3) (.ret (.ret (false, ()))) (.ret (.more ((addW .i64 m.1 (1 : Int)), ())))) (.ret (.out ())) : Tr (Leaf (Int × Unit) Unit (Bool × Unit))))) (a := 0) (n := x.length) (mk := fun i => ((i : Int), ())) (p := fun _ => true) (r0 := (false, ())) (o0 := ())
    (fun i _ hi _ => by
      have hfx := hf (x[i]!, x[i]!, ()) (by have := wt_get (E := E) (e := e) hi; simp only at hw ⊢; omega) rfl
      simp only [rIte, rBind, rRet, idxAt hi, Option.bind_some, hfx, Bool.not_true, Bool.false_eq_true, if_false]
      rw [if_pos (ltLen hi), wInc (by omega)]; rfl)
    (fun _ => by
      simp only [rIte, rRet]
      rw [if_neg (by rw [ltEnd]; decide)]) (k := N) (by omega) (Nat.zero_le _)
  have h2 : iterT (fun m : Int × Unit => (Tr.ite (ltI m.1 (lenI x)) (.bind (idx x m.1) fun x1 => .bind (idx x m.1) fun x2 => .bind (f (x1, x2, ())) fun x3 => .ite (!x3) (.ret (.ret (false, ()))) (.ret (.more ((addW .i64 m.1 (1 : Int)), ())))) (.ret (.out ())) : Tr (Leaf (Int × Unit) Unit (Bool × Unit)))) N ((0 : Int), ()) = some (.inl ()) := by
    refine Eq.trans this ?_
    rw [if_pos (allR_true.2 fun _ _ _ => rfl)]
  rw [h2]
  rfl

theorem iterT_congr {M O R : Type} {B B' : M → Tr (Leaf M O R)} (h : ∀ m, (B m).run = (B' m).run) : ∀ (n : Nat) (m : M), iterT B n m = iterT B' n m
  | 0, _ => rfl
  | n + 1, m => by
    simp only [iterT, h m]
    split <;> first | rfl | exact iterT_congr h n _

theorem ToOK.list0 {N : Nat} (hN : 1048577 < N) {E : TypeId} {e : Ty} [Inhabited e.D] (z : e.D) :
    ToOK (.slice E e) (fun x => (Tr.ite (eqI (lenI x.1) (lenI x.1) && inR 0 (lenI x.1) maxRow) (.bind (iterT (fun m : Int × List e.D × Unit => (Tr.ite (ltI m.1 (lenI x.1)) (.bind (idx x.1 m.1) fun x1 => .bind (idx m.2.1 m.1) fun _ => .bind (idx m.2.1 m.1) fun x3 => .ret (.more ((addW .i64 m.1 (1 : Int)), (List.set m.2.1 (Int.toNat m.1) x1), ()))) (.ret (.out m.2)) : Tr (Leaf (Int × List e.D × Unit) (List e.D × Unit) Unit))) N ((0 : Int), (List.replicate (Int.toNat (lenI x.1)) z), ())) fun p1 => .sum p1 (fun a2 => .ret a2.1) (fun b3 => .no)) (.no)).run) := by
  intro y hw
  have h := ToOK.list hN (E := E) (e := e) (f := fun y => some y.1) (fun y _ => rfl) z y hw
  dsimp only at h ⊢
  rw [rIte, rBind] at h ⊢
  rw [iterT_congr (B' := (fun m : Int × List e.D × Unit => (Tr.ite (ltI m.1 (lenI y.1)) (.bind (idx y.1 m.1) fun x1 => .bind ((fun y : e.D × Unit => some y.1) (x1, ())) fun x2 => .bind (idx m.2.1 m.1) fun _ => .bind (idx m.2.1 m.1) fun x3 => .ret (.more ((addW .i64 m.1 (1 : Int)), (List.set m.2.1 (Int.toNat m.1) x2), ()))) (.ret (.out m.2)) : Tr (Leaf (Int × List e.D × Unit) (List e.D × Unit) Unit)))) (fun m => by simp only [rIte, rBind, rRet, Option.bind_some])]
  exact h

theorem EqOK.list0 {N : Nat} (hN : 1048577 < N) {E : TypeId} {e : Ty} [Inhabited e.D] (eqD : e.D → e.D → Bool) (hD : ∀ x, eqD x x = true) :
    EqOK (.slice E e) (fun x => (Tr.ite (!eqI (lenI x.1) (lenI x.2.1)) (.ret false) (.bind (iterT (fun m : Int × Unit => (Tr.ite (ltI m.1 (lenI x.1)) (.bind (idx x.1 m.1) fun x1 => .bind (idx x.2.1 m.1) fun x2 => .ite (!eqD x1 x2) (.ret (.ret (false, ()))) (.ret (.more ((addW .i64 m.1 (1 : Int)), ())))) (.ret (.out ())) : Tr (Leaf (Int × Unit) Unit (Bool × Unit)))) N ((0 : Int), ())) fun p1 => .sum p1 (fun a2 => .ret true) (fun b3 => .ret b3.1))).run) := by
  intro y hw heq
  have h := EqOK.list hN (E := E) (e := e) (f := fun y => some (eqD y.1 y.2.1)) (fun y _ h => by dsimp only at h ⊢; rw [h, hD]) y hw heq
  dsimp only at h ⊢
  rw [rIte, rBind] at h ⊢
  rw [iterT_congr (B' := (fun m : Int × Unit => (Tr.ite (ltI m.1 (lenI y.1)) (.bind (idx y.1 m.1) fun x1 => .bind (idx y.2.1 m.1) fun x2 => .bind ((fun y : e.D × e.D × Unit => some (eqD y.1 y.2.1)) (x1, x2, ())) fun x3 => .ite (!x3) (.ret (.ret (false, ()))) (.ret (.more ((addW .i64 m.1 (1 : Int)), ())))) (.ret (.out ())) : Tr (Leaf (Int × Unit) Unit (Bool × Unit))))) (fun m => by simp only [rIte, rBind, rRet, Option.bind_some])]
  exact h

end Go.Proofs.YtjnfmjeiceiciaaGreat
