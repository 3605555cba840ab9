/-
The language's soundness, part 3: CoreZh CoreZi CoreZj CoreZk CoreZl CoreZm.
-/
import Derived.Test.YtjnfmjeiceiciaaGreatCore2
import Derived.ProofKit
import Derived.OpenShut
import Derived.ShutString
import Derived.ChangeOld
import Derived.Below
import Derived.Carry
import Derived.SizedLaws
import Derived.Shelf.SlSortCmp.NoneTotal
import Derived.Lib.Strings
import Derived.Lib.Slices
import Derived.Lib.Walk
import Derived.Lib.Bytealg
/-
A function's result: data and rows of its own.
-/
namespace Go.Proofs.YtjnfmjeiceiciaaGreat
namespace X
open Go Go.RowKit
set_option linter.unusedVariables false
set_option linter.unusedSimpArgs false
set_option linter.unnecessarySimpa false
set_option linter.unusedSectionVars false

/-- No block of one heap's objects is another's. -/
def Apart (μ : Hd) (h : Hp) (μt : Hd) (ht : Hp) : Prop := ∀ b, Own μ h b → ¬ Own μt ht b

theorem Inv.enlarge {B : Base} {μ μt : Hd} {S S' : BSet} {w : World} {h h' ht : Hp} (It : Inv B μt S w ht) (I' : Inv B μ S' w h') (f : Fz μ w S h S' h') (ap : Apart μ h μt ht) : Inv B μt S' w ht where
  base := It.base
  dom := It.dom
  fresh := It.fresh
  obj o ob u h1 h2 := (It.obj o ob u h1 h2).keep (Hd.le.refl _) f.keep (fun _ _ => rfl)
  sep := It.sep
  out o ob u b h1 h2 h3 := by
    obtain ⟨p, q⟩ := It.out o ob u b h1 h2 h3
    refine ⟨fun hs => ?_, q⟩
    rcases f.s b hs with h | h
    · exact p h
    · exact ap b h ⟨o, ob, u, h1, h2, h3⟩
  lt := I'.lt
  sub := I'.sub

/-- A row that nobody else has. -/
theorem Inv.adopt {B : Base} {μ0 : Hd} {S : BSet} {w : World} {h0 : Hp} (I0 : Inv B μ0 S w h0) {E : TypeId} {e : Ty} {l : List e.D} {u : Value} (ho : ∀ μ', ORep μ' S w (.row E e l) u) (hb : ∀ b, ownB (.row E e l) u = some b → ¬ S b ∧ B.ours b ∧ ¬ Own μ0 h0 b) :
    Inv B (μ0.put h0.length u) S w (h0 ++ [.row E e l]) := by
  have hn : μ0 h0.length = none := I0.fresh _ (Nat.le_refl _)
  have key : ∀ {i : Nat} {x : Ob} {v : Value}, (h0 ++ [.row E e l])[i]? = some x → μ0.put h0.length u i = some v → (i = h0.length ∧ x = .row E e l ∧ v = u) ∨ (i ≠ h0.length ∧ h0[i]? = some x ∧ μ0 i = some v) := by
    intro i x v h1 h2
    rcases get_snoc h1 with ⟨l1, e1⟩ | ⟨l1, rfl⟩
    · rcases Hd.put_get h2 with ⟨rfl, _⟩ | ⟨hne, h2'⟩
      · omega
      · exact .inr ⟨hne, e1, h2'⟩
    · rcases Hd.put_get h2 with ⟨_, rfl⟩ | ⟨hne, h2'⟩
      · exact .inl ⟨l1, rfl, rfl⟩
      · exact absurd l1 hne
  have notown : ∀ {i : Nat} {x : Ob} {v : Value} {b : Nat}, h0[i]? = some x → μ0 i = some v → ownB x v = some b → ownB (.row E e l) u ≠ some b := fun h1 h2 h3 h4 => (hb _ h4).2.2 ⟨_, _, _, h1, h2, h3⟩
  refine ⟨I0.base, fun i x h1 h2 => ?_, fun i hi => ?_, fun i x v h1 h2 => ?_, fun i i' x x' v v' b h1 h2 h3 h4 h5 h6 => ?_, fun i x v b h1 h2 h3 => ?_, I0.lt, I0.sub⟩
  · rcases get_snoc h1 with ⟨l1, e1⟩ | ⟨l1, rfl⟩
    · obtain ⟨v, hv⟩ := I0.dom i x e1 h2
      exact ⟨v, Hd.put_le hn _ _ hv⟩
    · subst l1; exact ⟨u, Hd.put_same⟩
  · simp only [List.length_append, List.length_singleton] at hi
    unfold Hd.put
    rw [if_neg (by omega)]
    exact I0.fresh i (by omega)
  · rcases key h1 h2 with ⟨rfl, rfl, rfl⟩ | ⟨hne, h1', h2'⟩
    · exact ho _
    · exact (I0.obj i x v h1' h2').keep (Hd.put_le hn) (Keeps.refl S w) fun _ _ => rfl
  · rcases key h1 h3 with ⟨rfl, rfl, rfl⟩ | ⟨hne, h1', h3'⟩ <;> rcases key h2 h4 with ⟨rfl, rfl, rfl⟩ | ⟨hne2, h2', h4'⟩
    · rfl
    · exact absurd h5 (notown h2' h4' h6)
    · exact absurd h6 (notown h1' h3' h5)
    · exact I0.sep i i' x x' v v' b h1' h2' h3' h4' h5 h6
  · rcases key h1 h2 with ⟨rfl, rfl, rfl⟩ | ⟨hne, h1', h2'⟩
    · exact ⟨(hb b h3).1, (hb b h3).2.1⟩
    · exact I0.out i x v b h1' h2' h3

/-- A row goes over. -/
theorem hand_over {B : Base} {μ μt : Hd} {S : BSet} {w : World} {h ht : Hp} (I : Inv B μ S w h) (It : Inv B μt S w ht) (ap : Apart μ h μt ht) {o : Nat} {E : TypeId} {e : Ty} {l l' : List e.D} {u0 u : Value} (h1 : h[o]? = some (.row E e l)) (h2 : μ o = some u0)
    (hr : ∀ μ', ORep μ' S w (.row E e l') u) (hb : ∀ b, ownB (.row E e l') u = some b → ownB (.row E e l) u0 = some b) :
    Inv B (μt.put ht.length u) S w (ht ++ [.row E e l']) ∧ Apart μ (h.set o .dead) (μt.put ht.length u) (ht ++ [.row E e l']) := by
  have hown : ∀ b, ownB (.row E e l') u = some b → Own μ h b := fun b hb' => ⟨o, _, u0, h1, h2, hb b hb'⟩
  refine ⟨It.adopt hr fun b hb' => ?_, ?_⟩
  · obtain ⟨p, q⟩ := I.out o _ u0 b h1 h2 (hb b hb')
    exact ⟨p, q, ap b (hown b hb')⟩
  · rintro b ⟨i, x, v, e1, e2, e3⟩ ⟨j, y, z, f1, f2, f3⟩
    rcases get_set e1 with ⟨rfl, rfl, _⟩ | ⟨hne, e1'⟩
    · simp [ownB] at e3
    · rcases get_snoc f1 with ⟨l1, f1'⟩ | ⟨l1, rfl⟩
      · rcases Hd.put_get f2 with ⟨rfl, _⟩ | ⟨_, f2'⟩
        · omega
        · exact ap b ⟨i, x, v, e1', e2, e3⟩ ⟨j, y, z, f1', f2', f3⟩
      · rcases Hd.put_get f2 with ⟨_, rfl⟩ | ⟨hne', _⟩
        · exact hne (I.sep i o x _ v u0 b e1' h1 e2 h2 e3 (hb b f3))
        · exact hne' l1

/-- The head of a row. -/
theorem sub_row {B : Base} {μ : Hd} {S : BSet} {w : World} {h : Hp} (I : Inv B μ S w h) {o : Nat} {E : TypeId} {e e' : Ty} {l : List e.D} {hi : Int} {u : Value} (h1 : h[o]? = some (.row E e l)) (hv : VRep μ S w (.sub o e' 0 hi) u) :
    ∃ u0, μ o = some u0 ∧ (∀ μ', ORep μ' S w (.row E e (l.take hi.toNat)) u) ∧ (∀ b, ownB (.row E e (l.take hi.toNat)) u = some b → ownB (.row E e l) u0 = some b) ∧ ∃ a n c, u = .slice a n c := by
  simp only [VRep] at hv
  obtain ⟨a0, n0, c0, p0, hmo, ha0, k1, k2, k3, k4, hus, k6, k7⟩ := hv
  have hp := k7 trivial
  clear k7 k6
  subst hp
  obtain ⟨xs, hw, hlx⟩ := I.obj o _ _ h1 hmo
  have hle : hi.toNat ≤ l.length := by
    obtain ⟨a1, c1, he1, _, _⟩ := I.head (.inl h1) hmo
    cases he1
    omega
  have hlen : (List.take hi.toNat l).length = hi.toNat := by rw [List.length_take]; omega
  simp only [Int.toNat_zero, Nat.sub_zero] at hus
  refine ⟨_, hmo, fun μ' => ⟨xs.take (hi.toNat * e.size), ?_, RepL.take (fun x c hx => Rep.len e x c hx) _ _ _ hlx⟩, fun b hb => ?_, ⟨_, _, _, hus⟩⟩
  · rw [hlen, hus]
    rcases hw.2 with ⟨hn, hz0⟩ | ⟨g, cap, cur, hn, hz0, hgg, hnc, hcm, hcs, htake⟩
    · cases hn
      have : hi.toNat = 0 := by omega
      rw [this]
      exact ⟨by simp, .inl ⟨rfl, rfl⟩⟩
    · cases hn
      refine ⟨by rw [List.length_take, hw.1]; exact Nat.min_eq_left (Nat.mul_le_mul_right _ hle), .inr ⟨g, c0, cur, rfl, hz0, hgg, by omega, hcm, hcs, ?_⟩⟩
      rw [← htake, List.take_take, Nat.min_eq_left (Nat.mul_le_mul_right _ hle)]
  · rw [hus] at hb
    cases p0 <;> simpa [ownB] using hb

/-- What is behind the reading of a result. -/
structure Out (B : Base) (w : World) (μ μt : Hd) (S S' : BSet) (h h' ht hx : Hp) (vs vs' xs : List V) (us us' cs : List Value) (μt' : Hd) : Prop where
  inv : Inv B μ S' w h'
  keep : Keeps S S' w w
  cells : us = cs ++ us'
  rest : VRepL μ S' w vs' us'
  tgt : Inv B μt' S' w hx
  low : ∀ k, k < ht.length → μt' k = μt k
  apart : Apart μ h' μt' hx
  rep : VRepL μt' S' w xs cs
  one : ∀ x ∈ cs, x.oneCell' = true

theorem out_own {B : Base} {w : World} {E : TypeId} {e : Ty} {z : List e.D} {S : BSet} {h : Hp} {μ : Hd} {v : V} {vs : List V} {us : List Value} {h' ht : Hp} {μt : Hd} (I : Inv B μ S w h) (hv : VRepL μ S w (v :: vs) us) (It : Inv B μt S w ht) (ap : Apart μ h μt ht)
    (hc : (v = .nils ∧ z = [] ∧ h' = h) ∨ (∃ o, v = .row o ∧ h[o]? = some (.row E e z) ∧ h' = h.set o .dead) ∨ (∃ o l hi, v = .sub o e 0 hi ∧ h[o]? = some (.row E e l) ∧ z = l.take hi.toNat ∧ h' = h.set o .dead)) :
    ∃ S' μt' cs us', Out B w μ μt S S' h h' ht (ht ++ [.row E e z]) (v :: vs) vs [.row ht.length] us us' cs μt' ∧ cs.length = 1 := by
  simp only [VRepL] at hv
  obtain ⟨u, r, rfl, h1, h2⟩ := hv
  have le : ∀ u0 : Value, μt.le (μt.put ht.length u0) := fun u0 => Hd.put_le (It.fresh _ (Nat.le_refl _))
  have low : ∀ (u0 : Value) (k : Nat), k < ht.length → μt.put ht.length u0 k = μt k := fun u0 k hk => by
    unfold Hd.put
    rw [if_neg (by omega)]
  have fin : ∀ {a n c}, u = .slice a n c → Inv B (μt.put ht.length u) S w (ht ++ [.row E e z]) → Inv B μ S w h' → Apart μ h' (μt.put ht.length u) (ht ++ [.row E e z]) →
      ∃ S' μt' cs us', Out B w μ μt S S' h h' ht (ht ++ [.row E e z]) (v :: vs) vs [.row ht.length] (u :: r) us' cs μt' ∧ cs.length = 1 := by
    intro a n c hu J I' ap'
    refine ⟨S, μt.put ht.length u, [u], r, ⟨I', Keeps.refl S w, rfl, h2, J, low u, ap', ?_, ?_⟩, rfl⟩
    · simp only [VRepL]
      refine ⟨u, [], rfl, ?_, rfl⟩
      simp only [VRep]
      exact ⟨Hd.put_same, a, n, c, hu⟩
    · intro x hx
      simp only [List.mem_singleton] at hx
      subst hx hu; rfl
  rcases hc with ⟨rfl, rfl, rfl⟩ | ⟨o, rfl, ho, rfl⟩ | ⟨o, l, hi, rfl, ho, rfl, rfl⟩
  · simp only [VRep] at h1
    obtain ⟨J, _, _⟩ := nil_push It E e
    subst h1
    refine fin rfl J I fun b hb => ?_
    rintro ⟨j, y, z, f1, f2, f3⟩
    rcases get_snoc f1 with ⟨l1, f1'⟩ | ⟨l1, rfl⟩
    · rcases Hd.put_get f2 with ⟨rfl, _⟩ | ⟨_, f2'⟩
      · omega
      · exact ap b hb ⟨j, y, z, f1', f2', f3⟩
    · rcases Hd.put_get f2 with ⟨_, rfl⟩ | ⟨hne', _⟩
      · simp [ownB] at f3
      · exact hne' l1
  · simp only [VRep] at h1
    obtain ⟨hm, a, n, c, rfl⟩ := h1
    obtain ⟨xs, hw, hl⟩ := I.obj o _ _ ho hm
    obtain ⟨J, ap'⟩ := hand_over I It ap ho hm (l' := z) (u := .slice a n c) (fun μ' => ⟨xs, hw, hl⟩) fun b hb => hb
    exact fin rfl J (I.drop o) ap'
  · obtain ⟨u0, hm, hr, hb, a, n, c, rfl⟩ := sub_row I ho h1
    obtain ⟨J, ap'⟩ := hand_over I It ap ho hm hr hb
    exact fin rfl J (I.drop o) ap'

theorem out_read {B : Base} {w : World} {E : TypeId} {e : Ty} {z : List e.D} {S : BSet} {h : Hp} {μ : Hd} {v : V} {vs : List V} {us : List Value} {ht : Hp} {μt : Hd} (I : Inv B μ S w h) (hv : VRepL μ S w (v :: vs) us) (It : Inv B μt S w ht) (ap : Apart μ h μt ht)
    (hr : rowOf h e v = some z) :
    ∃ S' μt' cs us', Out B w μ μt S S' h (freeze h v) ht (ht ++ []) (v :: vs) vs [.dat (.slice E e) z] us us' cs μt' ∧ cs.length = 1 := by
  simp only [VRepL] at hv
  obtain ⟨u, r, rfl, h1, h2⟩ := hv
  obtain ⟨S', I', f, hrep⟩ := rowOf_froze (E := E) I hr h1
  rw [List.append_nil]
  refine ⟨S', μt, [u], r, ⟨I', f.keep, rfl, VRepL.keep (Hd.le.refl _) f.keep _ _ h2, It.enlarge I' f ap, fun _ _ => rfl, fun b hb => ap b (f.own b hb), ?_, ?_⟩, rfl⟩
  · simp only [VRepL]
    refine ⟨u, [], rfl, ?_, rfl⟩
    simp only [VRep]
    exact ⟨[u], hrep, by simp [mkV, Ty.isAgg]⟩
  · exact Rep.one _ _ _ hrep

theorem out_dat {B : Base} {w : World} {t : Ty} (ht1 : t.isAgg = false) {z : t.D} {S : BSet} {h : Hp} {μ : Hd} {v : V} {vs : List V} {us : List Value} {ht : Hp} {μt : Hd} (I : Inv B μ S w h) (hv : VRepL μ S w (v :: vs) us) (It : Inv B μt S w ht) (ap : Apart μ h μt ht)
    (hr : ∀ u, VRep μ S w v u → ∃ cs, Rep S w t z cs ∧ u = mkV t cs) :
    ∃ S' μt' cs us', Out B w μ μt S S' h h ht (ht ++ []) (v :: vs) vs [.dat t z] us us' cs μt' ∧ cs.length = 1 := by
  simp only [VRepL] at hv
  obtain ⟨u, r, rfl, h1, h2⟩ := hv
  obtain ⟨cs, hrep, hu⟩ := hr u h1
  rw [List.append_nil]
  obtain ⟨y, rfl, hy⟩ := one_of_rep hrep ht1
  simp only [mkV, ht1, Bool.false_eq_true, if_false, List.headD_cons] at hu
  subst hu
  refine ⟨S, μt, [u], r, ⟨I, Keeps.refl S w, rfl, h2, It, fun _ _ => rfl, ap, ?_, ?_⟩, rfl⟩
  · simp only [VRepL]
    refine ⟨u, [], rfl, ?_, rfl⟩
    simp only [VRep]
    exact ⟨[u], hrep, by simp [mkV, ht1]⟩
  · exact Rep.one _ _ _ hrep

theorem outD_sound {B : Base} {w : World} : ∀ (t : Ty) (own : List Bool) (vs : List V) (S : BSet) (h : Hp) (μ : Hd) (us : List Value) (z : t.D) (own' : List Bool) (vs' : List V) (h' ht : Hp) (μt : Hd),
    Inv B μ S w h → VRepL μ S w vs us → outD t own vs h = some (z, own', vs', h') → Inv B μt S w ht → Apart μ h μt ht →
    ∃ S' μt' cs us', Out B w μ μt S S' h h' ht (ht ++ (inject t z own ht.length).2.2) vs vs' (inject t z own ht.length).1 us us' cs μt' ∧ cs.length = t.size ∧ (inject t z own ht.length).2.1 = own'
  | .unit, own, vs, S, h, μ, us, z, own', vs', h', ht, μt, I, hv, ho, It, ap => by
    simp only [outD, Option.some.injEq, Prod.mk.injEq] at ho
    obtain ⟨_, rfl, rfl, rfl⟩ := ho
    simp only [inject, List.append_nil]
    exact ⟨S, μt, [], us, ⟨I, Keeps.refl S w, rfl, hv, It, fun _ _ => rfl, ap, by simp [VRepL], by simp⟩, rfl, trivial⟩
  | .pair a b, own, vs, S, h, μ, us, z, own', vs', h', ht, μt, I, hv, ho, It, ap => by
    simp only [outD] at ho
    split at ho
    · rename_i x m1 vs1 h1 e1
      split at ho
      · rename_i y r2 e2
        obtain ⟨m2, vs2, h2⟩ := r2
        simp only [Option.some.injEq, Prod.mk.injEq] at ho
        obtain ⟨rfl, rfl, rfl, rfl⟩ := ho
        obtain ⟨S1, μ1, c1, us1, O1, l1, n1⟩ := outD_sound a own vs S h μ us x m1 vs1 h1 ht μt I hv e1 It ap
        obtain ⟨S2, μ2, c2, us2, O2, l2, n2⟩ := outD_sound b m1 vs1 S1 h1 μ us1 y m2 vs2 h2 _ μ1 O1.inv O1.rest e2 O1.tgt O1.apart
        simp only [inject]
        rw [n1]
        rw [List.length_append] at O2 n2
        rw [List.append_assoc] at O2
        refine ⟨S2, μ2, c1 ++ c2, us2, ⟨O2.inv, O1.keep.trans O2.keep, by rw [O1.cells, O2.cells, List.append_assoc], O2.rest, O2.tgt, fun k hk => (O2.low k (by rw [List.length_append]; omega)).trans (O1.low k hk), O2.apart, ?_, ?_⟩, by simp [l1, l2, Ty.size], n2⟩
        · refine VRepL.app _ _ _ _ (VRepL.keep ?_ O2.keep _ _ O1.rep) O2.rep
          intro k u hk
          have hlt : k < (ht ++ (inject a x own ht.length).2.2).length := by
            by_cases hlt : k < (ht ++ (inject a x own ht.length).2.2).length
            · exact hlt
            · rw [O1.tgt.fresh k (by omega)] at hk; cases hk
          rw [O2.low k hlt]; exact hk
        · intro v hv
          rcases List.mem_append.1 hv with hv | hv
          · exact O1.one v hv
          · exact O2.one v hv
      · cases ho
    · cases ho
  | .slice E e, own, vs, S, h, μ, us, z, own', vs', h', ht, μt, I, hv, ho, It, ap => by
    cases vs with
    | nil => simp [outD] at ho
    | cons v vs =>
      simp only [outD] at ho
      split at ho
      · rename_i m
        have fin : ∀ (hc : (v = .nils ∧ z = [] ∧ h' = h) ∨ (∃ o, v = .row o ∧ h[o]? = some (.row E e z) ∧ h' = h.set o .dead) ∨ (∃ o l hi, v = .sub o e 0 hi ∧ h[o]? = some (.row E e l) ∧ z = l.take hi.toNat ∧ h' = h.set o .dead)), vs' = vs → own' = m →
            ∃ S' μt' cs us', Out B w μ μt S S' h h' ht (ht ++ (inject (.slice E e) z (true :: m) ht.length).2.2) (v :: vs) vs' (inject (.slice E e) z (true :: m) ht.length).1 us us' cs μt' ∧ cs.length = (Ty.slice E e).size ∧ (inject (.slice E e) z (true :: m) ht.length).2.1 = own' := by
          rintro hc rfl rfl
          obtain ⟨S', μt', cs, us', O, l⟩ := out_own (E := E) I hv It ap hc
          exact ⟨S', μt', cs, us', O, l, rfl⟩
        cases v with
        | nils =>
          simp only [Option.some.injEq, Prod.mk.injEq] at ho
          obtain ⟨rfl, rfl, rfl, rfl⟩ := ho
          exact fin (.inl ⟨rfl, rfl, rfl⟩) rfl rfl
        | row o =>
          simp only at ho
          split at ho
          · rename_i E' t l hoo
            split at ho
            · rename_i g
              subst g
              split at ho
              · rename_i g
                subst g
                simp only [Option.some.injEq, Prod.mk.injEq] at ho
                obtain ⟨rfl, rfl, rfl, rfl⟩ := ho
                exact fin (.inr (.inl ⟨o, rfl, hoo, rfl⟩)) rfl rfl
              · cases ho
            · cases ho
          · cases ho
        | sub o t0 lo hi =>
          simp only at ho
          split at ho
          · rename_i E' t l hoo
            split at ho
            · rename_i g
              subst g
              split at ho
              · rename_i g
                obtain ⟨rfl, rfl, rfl⟩ := g
                simp only [Option.some.injEq, Prod.mk.injEq] at ho
                obtain ⟨rfl, rfl, rfl, rfl⟩ := ho
                exact fin (.inr (.inr ⟨o, l, hi, rfl, hoo, rfl, rfl⟩)) rfl rfl
              · cases ho
            · cases ho
          · cases ho
        | _ => cases ho
      · rename_i m hm
        split at ho
        · rename_i l hl
          simp only [Option.some.injEq, Prod.mk.injEq] at ho
          obtain ⟨rfl, rfl, rfl, rfl⟩ := ho
          obtain ⟨S', μt', cs, us', O, l1⟩ := out_read (E := E) I hv It ap hl
          have hj : inject (.slice E e) l own ht.length = ([.dat (.slice E e) l], own.tail, []) := by
            cases own with
            | nil => rfl
            | cons b r => cases b with
              | true => exact absurd rfl (hm r)
              | false => rfl
          rw [hj]
          exact ⟨S', μt', cs, us', O, l1, rfl⟩
        · cases ho
  | .int k, own, vs, S, h, μ, us, z, own', vs', h', ht, μt, I, hv, ho, It, ap => by
    cases vs with
    | nil => simp [outD] at ho
    | cons v vs =>
      cases v with
      | dat t y =>
        cases t with
        | int k' =>
          simp only [outD] at ho
          split at ho
          · rename_i hk
            subst hk
            simp only [Option.some.injEq, Prod.mk.injEq] at ho
            obtain ⟨rfl, rfl, rfl, rfl⟩ := ho
            obtain ⟨S', μt', cs, us', O, l⟩ := out_dat (t := .int k) (z := y) rfl I hv It ap fun u hu => by simpa only [VRep] using hu
            exact ⟨S', μt', cs, us', O, l, rfl⟩
          · cases ho
        | _ => simp [outD] at ho
      | _ => simp [outD] at ho
  | .bool, own, vs, S, h, μ, us, z, own', vs', h', ht, μt, I, hv, ho, It, ap => by
    cases vs with
    | nil => simp [outD] at ho
    | cons v vs =>
      cases v with
      | dat t y =>
        cases t with
        | bool =>
          simp only [outD, Option.some.injEq, Prod.mk.injEq] at ho
          obtain ⟨rfl, rfl, rfl, rfl⟩ := ho
          obtain ⟨S', μt', cs, us', O, l⟩ := out_dat (t := .bool) (z := y) rfl I hv It ap fun u hu => by simpa only [VRep] using hu
          exact ⟨S', μt', cs, us', O, l, rfl⟩
        | _ => simp [outD] at ho
      | kb b =>
        simp only [outD, Option.some.injEq, Prod.mk.injEq] at ho
        obtain ⟨rfl, rfl, rfl, rfl⟩ := ho
        obtain ⟨S', μt', cs, us', O, l⟩ := out_dat (t := .bool) (z := b) rfl I hv It ap fun u hu => by
          simp only [VRep] at hu
          exact ⟨[.bool b], rfl, by rw [hu]; rfl⟩
        exact ⟨S', μt', cs, us', O, l, rfl⟩
      | _ => simp [outD] at ho
  | .str, own, vs, S, h, μ, us, z, own', vs', h', ht, μt, I, hv, ho, It, ap => by
    cases vs with
    | nil => simp [outD] at ho
    | cons v vs =>
      cases v with
      | dat t y =>
        cases t with
        | str =>
          simp only [outD, Option.some.injEq, Prod.mk.injEq] at ho
          obtain ⟨rfl, rfl, rfl, rfl⟩ := ho
          obtain ⟨S', μt', cs, us', O, l⟩ := out_dat (t := .str) (z := y) rfl I hv It ap fun u hu => by simpa only [VRep] using hu
          exact ⟨S', μt', cs, us', O, l, rfl⟩
        | _ => simp [outD] at ho
      | _ => simp [outD] at ho

end X
end Go.Proofs.YtjnfmjeiceiciaaGreat

/-
A function is what its equation tells: its contract.
-/
namespace Go.Proofs.YtjnfmjeiceiciaaGreat
namespace X
open Go Go.RowKit
set_option linter.unusedVariables false
set_option linter.unusedSimpArgs false
set_option linter.unnecessarySimpa false
set_option linter.unusedSectionVars false

/-- What results are read from. -/
def resRead (tmps : Array Value) : ResultVar → Sem Value
  | .tmp t => pure (tmps.getD t undef)
  | .cell a t => do loadVar t (← asAddr (tmps.getD a undef))

theorem results_eq (fn : Func) (tmps : Array Value) : results fn tmps = (do let vs ← fn.results.mapM (resRead tmps); pure (if h : vs.size = 1 then vs[0] else .tuple vs)) := by
  unfold results
  refine congrArg (fun g : ResultVar → Sem Value => (do let vs ← fn.results.mapM g; pure (if h : vs.size = 1 then vs[0] else .tuple vs) : Sem Value)) ?_
  funext x
  cases x <;> rfl

theorem resOf_sound {P : Program} {tb : Tabs} (ht : TabOK P tb.tt) {B : Base} {μ : Hd} {S : BSet} {w : World} {h : Hp} (I : Inv B μ S w h) {e : Env} {a : Act} (he : VRepL μ S w e a.tmps.toList) : ∀ (rs : List ResultVar) (vs : List V), resOf tb e h rs = some vs →
    ∃ us : List Value, (rs.mapM (resRead a.tmps)).run P w = .ok us w ∧ VRepL μ S w vs us
  | [], vs, hr => by
    simp only [resOf, Option.some.injEq] at hr
    subst hr
    exact ⟨[], by simp, by simp [VRepL]⟩
  | .tmp t :: r, vs, hr => by
    simp only [resOf] at hr
    split at hr
    · rename_i l hl
      simp only [Option.some.injEq] at hr
      subst hr
      obtain ⟨us, h1, h2⟩ := resOf_sound ht I he r l hl
      refine ⟨a.tmps.getD t undef :: us, ?_, ?_⟩
      · simp only [List.mapM_cons, resRead, Sem.run_bind, Sem.run_pure, Result.andThen_ok, h1]
      · simp only [VRepL]
        exact ⟨_, _, rfl, getV_rep he (.tmp t), h2⟩
    · cases hr
  | .cell c T :: r, vs, hr => by
    simp only [resOf] at hr
    split at hr
    · rename_i o off l hp hl
      obtain ⟨us, h1, h2⟩ := resOf_sound ht I he r l hl
      have hpv : VRep μ S w (.cp o off) (a.tmps.getD c undef) := by
        have := getV_rep he (.tmp c)
        simp only [getV] at this
        rw [hp] at this; exact this
      have fin : ∀ v, (loadV tb.tt T (.cp o off) h).run = some v → vs = v :: l → ∃ us : List Value, ((ResultVar.cell c T :: r).mapM (resRead a.tmps)).run P w = .ok us w ∧ VRepL μ S w vs us := by
        intro v hv hvs
        subst hvs
        obtain ⟨x, h3, h4⟩ := loadV_sound ht I hv hpv
        simp only [VRep] at hpv
        obtain ⟨g, _, hu⟩ := hpv
        rw [hu] at h3
        simp only [Instr.loadAt, Instr.sureAddr, Sem.run_bind, Sem.run_pure, Result.andThen_ok] at h3
        refine ⟨x :: us, ?_, ?_⟩
        · simp only [List.mapM_cons, resRead, Sem.run_bind, hu, asAddr, Sem.run_pure, Result.andThen_ok, h3, h1]
        · simp only [VRepL]
          exact ⟨_, _, rfl, h4, h2⟩
      split at hr
      · rename_i vs0 u ho hT
        split at hr
        · rename_i hle
          split at hr
          · rename_i hag
            simp only [Option.some.injEq] at hr
            refine fin _ ?_ hr.symm
            simp [loadV, ho, hT, hle, hag, Tr.run]
          · rename_i hag
            simp only [Option.some.injEq] at hr
            refine fin _ ?_ hr.symm
            simp [loadV, ho, hT, hle, hag, Tr.run]
        · cases hr
      · rename_i vs0 ho hT
        split at hr
        · rename_i hlt
          simp only [Option.some.injEq] at hr
          refine fin _ ?_ hr.symm
          simp [loadV, ho, hT, hlt, Tr.run]
        · cases hr
      · cases hr
    · cases hr

theorem Inv.nothing {B : Base} {μ : Hd} {S : BSet} {w : World} {h : Hp} (I : Inv B μ S w h) (n : Nat) : Inv B (fun _ => none) S w (List.replicate n .dead) where
  base := I.base
  dom o ob h1 h2 := absurd (List.eq_of_mem_replicate (List.mem_of_getElem? h1)) h2
  fresh _ _ := rfl
  obj o ob u h1 h2 := by cases h2
  sep o o' ob ob' u u' b h1 h2 h3 := by cases h3
  out o ob u b h1 h2 := by cases h2
  lt := I.lt
  sub := I.sub

theorem one_cell {μ : Hd} {S : BSet} {w : World} {v : V} {u : Value} (hok : okV v = true) (ha : aggV v = false) (hv : VRep μ S w v u) : u.cells = #[u] := by
  have hne : v ≠ .undef := by rintro rfl; cases hok
  have hna := not_agg ha hne hv
  cases u <;> first | rfl | (rename_i cs; exact absurd rfl (hna cs))

/-- A part of a result. -/
theorem partR {μ μ' : Hd} {S S' : BSet} {w : World} {t : Ty} {v : V} {u : Value} (hok : okV v = true) (ha : aggV v = t.isAgg) (hv : VRep μ S w v u) {xs : List V} (hx : VRepL μ' S' w xs u.cells.toList) (h1 : ∀ x ∈ u.cells.toList, x.oneCell' = true) :
    VRep μ' S' w (if t.isAgg then .agg xs else xs.headD .undef) u := by
  cases hag : t.isAgg with
  | true =>
    rw [hag] at ha
    obtain ⟨cs, rfl⟩ := aggV_agg ha hv
    simp only [if_true, VRep]
    exact ⟨cs, rfl, by simpa [Value.cells] using hx, by simpa [Value.cells] using h1⟩
  | false =>
    rw [hag] at ha
    have hc := one_cell hok ha hv
    rw [hc] at hx
    simp only [Bool.false_eq_true, if_false]
    cases xs with
    | nil => simp [VRepL] at hx
    | cons y r =>
      simp only [VRepL] at hx
      obtain ⟨z, s, he, h2, _⟩ := hx
      simp at he
      obtain ⟨rfl, _⟩ := he
      exact h2

theorem parts_rep {μ μ' : Hd} {S S' : BSet} {w : World} : ∀ (t : Ty) (vs : List V) (us : List Value) (xs : List V), fitsV t vs = true → VRepL μ S w vs us → VRepL μ' S' w xs (us.flatMap fun u => u.cells.toList) → (∀ x ∈ us.flatMap (fun u => u.cells.toList), x.oneCell' = true) → VRepL μ' S' w (partsV t xs) us
  | .pair a b, vs, us, xs, hf, hv, hx, h1 => by
    cases vs with
    | nil => simp [fitsV] at hf
    | cons v vs =>
      simp only [fitsV, Bool.and_eq_true, beq_iff_eq, decide_eq_true_eq] at hf
      obtain ⟨⟨⟨hok, ha⟩, hl⟩, hf⟩ := hf
      simp only [VRepL] at hv
      obtain ⟨u, r, rfl, h2, h3⟩ := hv
      have hne : v ≠ .undef := by rintro rfl; cases hok
      have hlen : u.cells.toList.length = a.size := by rw [VRepL.len _ _ (h2.cells v u hne), hl]
      simp only [List.flatMap_cons] at hx h1
      have t1 := VRepL.take a.size _ _ hx
      have t2 := VRepL.drop a.size _ _ hx
      rw [← hlen, List.take_left] at t1
      rw [← hlen, List.drop_left] at t2
      simp only [partsV, VRepL]
      refine ⟨u, r, rfl, ?_, parts_rep b vs r _ hf h3 (by rw [← hlen]; exact t2) fun x hx => h1 x (List.mem_append_right _ hx)⟩
      have := partR hok ha h2 t1 fun x hx => h1 x (List.mem_append_left _ hx)
      rw [hlen] at this
      cases hag : a.isAgg with
      | true => simpa [hag] using this
      | false =>
        simp only [hag, Bool.false_eq_true, if_false] at this ⊢
        have h1 : a.size = 1 := by cases a <;> simp_all [Ty.isAgg, Ty.size]
        rw [h1] at this
        cases xs <;> simpa using this
  | .unit, vs, us, xs, hf, hv, hx, h1 => by
    cases vs with
    | nil => simp only [VRepL] at hv; subst hv; simp [partsV, VRepL]
    | cons v vs => simp [fitsV] at hf
  | .int k, vs, us, xs, hf, hv, hx, h1 => by simp [fitsV] at hf
  | .bool, vs, us, xs, hf, hv, hx, h1 => by simp [fitsV] at hf
  | .str, vs, us, xs, hf, hv, hx, h1 => by simp [fitsV] at hf
  | .slice _ _, vs, us, xs, hf, hv, hx, h1 => by simp [fitsV] at hf

theorem cellsL_rep {μ : Hd} {S : BSet} {w : World} : ∀ (t : Ty) (vs : List V) (us : List Value), fitsV t vs = true → VRepL μ S w vs us → VRepL μ S w (cellsL vs) (us.flatMap fun u => u.cells.toList)
  | .pair a b, vs, us, hf, hv => by
    cases vs with
    | nil => simp [fitsV] at hf
    | cons v vs =>
      simp only [fitsV, Bool.and_eq_true, beq_iff_eq, decide_eq_true_eq] at hf
      obtain ⟨⟨⟨hok, ha⟩, hl⟩, hf⟩ := hf
      simp only [VRepL] at hv
      obtain ⟨u, r, rfl, h2, h3⟩ := hv
      have hne : v ≠ .undef := by rintro rfl; cases hok
      simp only [cellsL, List.flatMap_cons]
      exact VRepL.app _ _ _ _ (h2.cells v u hne) (cellsL_rep b vs r hf h3)
  | .unit, vs, us, hf, hv => by
    cases vs with
    | nil => simp only [VRepL] at hv; subst hv; simp [cellsL, VRepL]
    | cons v vs => simp [fitsV] at hf
  | .int k, vs, us, hf, hv => by simp [fitsV] at hf
  | .bool, vs, us, hf, hv => by simp [fitsV] at hf
  | .str, vs, us, hf, hv => by simp [fitsV] at hf
  | .slice _ _, vs, us, hf, hv => by simp [fitsV] at hf

/-- The result of a function by itself. -/
theorem ans_of {B : Base} {s : Sig} {n : Nat} {io : List V} {h0 : Hp} {μ0 : Hd} (hio : s.io = false) {μ : Hd} {S : BSet} {w : World} {h : Hp} (I : Inv B μ S w h) (hk : Keeps B.S0 S B.W w) {y : V} {u : Value} (hy : VRep μ S w y u) {vs : List V} {z : s.r.D} {m : List Bool} {h' : Hp}
    (hvs : resCells s.multi s.r y = some vs) (ho : outD s.r s.own vs h = some (z, m, [], h')) : Ans B s n io h0 μ0 z u w := by
  simp only [Ans, hio, Bool.false_eq_true, if_false]
  have go : ∀ us : List Value, VRepL μ S w vs us → ∃ S' μt', Keeps S S' w w ∧ Inv B μt' S' w (List.replicate n .dead ++ (inject s.r z s.own n).2.2) ∧ (∀ k, k < n → μt' k = none) ∧ VRepL μt' S' w (inject s.r z s.own n).1 us ∧ ∀ x ∈ us, x.oneCell' = true := by
    intro us hus
    obtain ⟨S', μt', cs, us', O, hl, _⟩ := outD_sound s.r s.own vs S h μ us z m [] h' (List.replicate n .dead) (fun _ => none) I hus ho (I.nothing n) fun b _ hb => by obtain ⟨o, ob, u, _, h2, _⟩ := hb; cases h2
    simp only [List.length_replicate] at O
    have hrest := O.rest
    simp only [VRepL] at hrest
    have hcs : us = cs := by rw [O.cells, hrest, List.append_nil]
    refine ⟨S', μt', O.keep, O.tgt, fun k hk => O.low k (by simpa using hk), ?_, ?_⟩
    · rw [hcs]; exact O.rep
    · rw [hcs]; exact O.one
  cases hm : s.multi with
  | true =>
    rw [hm] at hvs
    unfold resCells at hvs
    rw [if_pos rfl] at hvs
    cases y with
    | tup vs1 =>
      simp only at hvs
      split at hvs
      · rename_i hf
        simp only [Option.some.injEq] at hvs
        subst hvs
        simp only [VRep] at hy
        obtain ⟨cs1, rfl, hv1⟩ := hy
        obtain ⟨S', μt', k1, J, lo, hr, h1⟩ := go _ (cellsL_rep s.r vs1 _ hf hv1)
        refine ⟨μt', S', hk.trans k1, lo, J, ?_⟩
        simp only [resV, if_true, VRep]
        exact ⟨cs1, rfl, parts_rep s.r vs1 _ _ hf hv1 hr h1⟩
      · cases hvs
    | _ => cases hvs
  | false =>
    rw [hm] at hvs
    unfold resCells at hvs
    rw [if_neg (by simp)] at hvs
    split at hvs
    · rename_i hf
      simp only [Bool.and_eq_true, beq_iff_eq] at hf
      simp only [Option.some.injEq] at hvs
      subst hvs
      have hne : y ≠ .undef := by rintro rfl; cases hf.1
      obtain ⟨S', μt', k1, J, lo, hr, h1⟩ := go _ (hy.cells y u hne)
      refine ⟨μt', S', hk.trans k1, lo, J, ?_⟩
      simp only [resV, Bool.false_eq_true, if_false]
      exact partR hf.1 hf.2 hy hr h1
    · cases hvs

theorem sound_of {P : Program} {tb : Tabs} (ht : TabOK P tb.tt) (hmix : P.follows .mixedOrders = true) (hs : SigsOK P tb) {f : FuncId} {fn : Func} (hfn : P.funcs[f]? = some fn) (hname : (fn.name == "runtime.NumGoroutine") = false) {body : Code} (hb : fn.body = some body)
    (hform : formC tb 0 body = true) {done : List Nat} (hg : ∀ id ∈ done, Good P tb 0 body id) (hin : innerB tb 0 body done = true) {sh : List AS} {s : Sig} (hio : s.io = false) {T : s.p.D → Tr s.r.D} (heq : ∀ x, topV tb 0 fn sh s.p s.r s.multi false s.own x = T x) (hF : ∀ x, s.f x = (T x).run) : Sound P f sh s := by
  refine ⟨⟨fn, hfn, hname, by rw [hb]; rfl⟩, ?_⟩
  intro x r n B μ args hx I hv
  rw [hF, ← heq] at hx
  simp only [topV] at hx
  have hform' := hform
  simp only [formC, formB, Bool.and_eq_true] at hform'
  have hcode : CodeOK P tb 0 body := codeOK_of (nodupB_spec _ hform'.1.1) body (.refl _) hform'.1.2 (inner_good hg hin)
  generalize ha : argsV sh s.p x [] = A at hx I hv
  obtain ⟨vs, h⟩ := A
  simp only at hx I hv
  rw [Tr.run_bnd] at hx
  cases hbv : (bodyV tb 0 fn vs h).run with
  | none => rw [hbv] at hx; cases hx
  | some y =>
    obtain ⟨y1, y2⟩ := y
    rw [hbv] at hx
    simp only [Option.bind_some, Bool.false_eq_true, if_false] at hx
    unfold bodyV at hbv
    rw [hb] at hbv
    simp only at hbv
    split at hbv
    · rename_i hlen
      rw [Tr.run_bnd] at hbv
      cases hex : (ex tb 0 body (vs ++ List.replicate (fn.ntmps - vs.length) .undef) h).run with
      | none => rw [hex] at hbv; cases hbv
      | some q =>
        obtain ⟨x1, e1, h1⟩ := q
        rw [hex] at hbv
        simp only [Option.bind_some] at hbv
        have hargs : args.size = vs.length := by simpa using VRepL.len _ _ hv
        have hst : VRepL μ B.S0 B.W (vs ++ List.replicate (fn.ntmps - vs.length) .undef) ({ tmps := args ++ Array.replicate (fn.ntmps - args.size) undef, defers := [] } : Act).tmps.toList := by
          simp only [Array.toList_append, Array.toList_replicate, hargs]
          refine VRepL.app _ _ _ _ hv ?_
          have := undef_rep (μ := μ) (S := B.S0) (w := B.W) (List.replicate (fn.ntmps - vs.length) undef)
          simpa using this
        refine calls_of_wp hfn hb (wp_mono (ex_sound ht hs hmix body _ h x1 e1 h1 μ B.S0 _ B.W hcode hex I hst) fun z a w hp => ?_)
        obtain ⟨rfl, hd, μ2, S2, k2, I2, v2⟩ := hp
        have fin : (∀ j, x1 ≠ .exit j) → a.defers = [] ∧ ∃ v, (results fn a.tmps).run P w = .ok v w ∧ ∃ u, Ending.returned v = .returned u ∧ Ans B s n (ioV sh (argsV sh s.p x []).1) (argsV sh s.p x []).2 μ r u w := by
          intro hne
          refine ⟨hd, ?_⟩
          have hbv' : (match resOf tb e1 h1 fn.results.toList with | some [v] => Tr.ret (v, h1) | some vs => .ret (.tup vs, h1) | none => .no).run = some (y1, y2) := by
            cases x1 with
            | exit j => exact absurd rfl (hne j)
            | normal => exact hbv
            | ret => exact hbv
          cases hres : resOf tb e1 h1 fn.results.toList with
          | none => rw [hres] at hbv'; cases hbv'
          | some ws =>
            rw [hres] at hbv'
            obtain ⟨us, hrun, hus⟩ := resOf_sound ht I2 v2 _ ws hres
            have hrr : (results fn a.tmps).run P w = .ok (if h : us.toArray.size = 1 then us.toArray[0] else .tuple us.toArray) w := by
              rw [results_eq]
              have e1 : fn.results.mapM (resRead a.tmps) = List.toArray <$> fn.results.toList.mapM (resRead a.tmps) := by
                rw [← List.mapM_toArray]
              rw [e1, map_eq_pure_bind]
              simp only [Sem.run_bind, hrun, Result.andThen_ok, Sem.run_pure]
            refine ⟨_, hrr, _, rfl, ?_⟩
            have hy : y2 = h1 ∧ VRep μ2 S2 w y1 (if h : us.toArray.size = 1 then us.toArray[0] else .tuple us.toArray) := by
              match ws, hbv', hus with
              | [], hbv', hus =>
                simp only [Tr.run, Option.some.injEq, Prod.mk.injEq] at hbv'
                obtain ⟨rfl, rfl⟩ := hbv'
                simp only [VRepL] at hus
                subst hus
                refine ⟨rfl, ?_⟩
                simp [VRep, VRepL]
              | [v], hbv', hus =>
                simp only [Tr.run, Option.some.injEq, Prod.mk.injEq] at hbv'
                obtain ⟨rfl, rfl⟩ := hbv'
                simp only [VRepL] at hus
                obtain ⟨u, r', rfl, hu, rfl⟩ := hus
                exact ⟨rfl, by simpa using hu⟩
              | v :: v' :: l, hbv', hus =>
                simp only [Tr.run, Option.some.injEq, Prod.mk.injEq] at hbv'
                obtain ⟨rfl, rfl⟩ := hbv'
                have hl := VRepL.len _ _ hus
                simp only [List.length_cons] at hl
                have hn1 : ¬ us.toArray.size = 1 := by simp; omega
                refine ⟨rfl, ?_⟩
                rw [dif_neg hn1]
                simp only [VRep]
                exact ⟨us.toArray, rfl, by simpa using hus⟩
            obtain ⟨rfl, hy⟩ := hy
            have hx2 : ∃ vs2, resCells s.multi s.r y1 = some vs2 ∧ ∃ m h', outD s.r s.own vs2 y2 = some (r, m, [], h') := by
              split at hx
              · rename_i vs2 hvs2
                refine ⟨vs2, hvs2, ?_⟩
                split at hx
                · rename_i z m h' hz
                  simp only [Tr.run, Option.some.injEq] at hx
                  subst hx
                  exact ⟨m, h', hz⟩
                · cases hx
              · cases hx
            obtain ⟨vs2, q1, m, h', q2⟩ := hx2
            exact ans_of hio I2 k2 hy q1 q2
        rw [ha] at fin
        cases x1 with
        | normal => exact fin (by simp)
        | ret => exact fin (by simp)
        | exit j => cases hbv
    · cases hbv

end X
end Go.Proofs.YtjnfmjeiceiciaaGreat

/-
A law's arguments as data; a law's call.
-/
namespace Go.Proofs.YtjnfmjeiceiciaaGreat
namespace X
open Go Go.RowKit Go.WideShapes Go.ChangeShapes
set_option linter.unusedVariables false
set_option linter.unusedSimpArgs false
set_option linter.unnecessarySimpa false
set_option linter.unusedSectionVars false

/-- No slice of empty things. -/
def Ty.pos : Ty → Bool
  | .slice _ e => decide (e.size ≠ 0) && e.pos
  | .pair a b => a.pos && b.pos
  | _ => true

section
variable {H : Type} {enc : TypeId × Value → H} {P : Program} {W : World} {base : Nat} {spare : Nat → Bool} {held : Bool}

theorem cellsOf_info {T : TypeId} {t : Ty} (h : infoB P t T = true) : P.cellsOf T = t.size := by
  obtain ⟨i, z, hi, hs, _⟩ := infoB_spec h
  simp [Program.cellsOf, hi, hs]

theorem rows_rep {e : Ty} {a : Addr} {n : Nat} {f : Nat → Option (DataW H × List MemPlace)} (each : ∀ i, i < n → ∃ cs y, (f i = some y) ∧ (cs : List Value).length = e.size ∧ (∀ j u, cs[j]? = some u → W.cell? (a.add (i * e.size + j)) = some u) ∧ ∃ d : e.D, Rep (ltS W) W e d cs ∧ Ok e d) :
    ∀ m, m ≤ n → ∃ (l : List e.D) (xs : List Value), l.length = m ∧ RepL (Rep (ltS W) W e) l xs ∧ (∀ j u, xs[j]? = some u → W.cell? (a.add j) = some u) ∧ ∀ x ∈ l, Ok e x
  | 0, _ => ⟨[], [], rfl, rfl, by simp, by simp⟩
  | m + 1, hm => by
    obtain ⟨l, xs, h1, h2, h3, h4⟩ := rows_rep each m (by omega)
    obtain ⟨cs, y, _, hcl, hc, d, hd, hok⟩ := each m (by omega)
    have hxl : xs.length = m * e.size := by rw [RepL.len (fun x c hx => Rep.len e x c hx) l xs h2, h1]
    refine ⟨l ++ [d], xs ++ cs, by simp [h1], RepL.app _ _ _ _ h2 ⟨cs, [], by simp, hd, rfl⟩, fun j u hj => ?_, fun x hx => ?_⟩
    · by_cases hlt : j < xs.length
      · rw [List.getElem?_append_left hlt] at hj; exact h3 j u hj
      · rw [List.getElem?_append_right (by omega)] at hj
        have := hc _ u hj
        rwa [show m * e.size + (j - xs.length) = j by omega] at this
    · rcases List.mem_append.1 hx with hx | hx
      · exact h4 x hx
      · simp only [List.mem_singleton] at hx; subst hx; exact hok

mutual
theorem trod_rep : ∀ (t : Ty) (T : TypeId) (fuel : Nat) (cs : List Value) (x : DataW H × List MemPlace), tyB P t T = true → t.pos = true → DataW.trod enc P W base spare held fuel T cs = some x → ∃ d : t.D, Rep (ltS W) W t d cs ∧ Ok t d
  | .int k, T, fuel, cs, x, ht, hp, h => by
    simp only [tyB, Bool.and_eq_true] at ht
    have h1 := ht.1
    split at h1
    · rename_i k' hu
      rw [beq_iff_eq] at h1
      subst h1
      obtain ⟨n, rfl, _, hw⟩ := DataW.trod_int hu h
      simp only [Lit.wf, Bool.and_eq_true, decide_eq_true_eq] at hw
      exact ⟨n, rfl, hw⟩
    · cases h1
  | .bool, T, fuel, cs, x, ht, hp, h => by
    simp only [tyB, Bool.and_eq_true] at ht
    have h1 := ht.1
    split at h1
    · rename_i hu
      obtain ⟨b, rfl, _⟩ := DataW.trod_bool hu h
      exact ⟨b, rfl, trivial⟩
    · cases h1
  | .str, T, fuel, cs, x, ht, hp, h => by
    simp only [tyB, Bool.and_eq_true] at ht
    have h1 := ht.1
    split at h1
    · rename_i hu
      obtain ⟨s, rfl, _, hs⟩ := DataW.trod_string hu h
      refine ⟨s.data.toList, ?_, ?_⟩
      · simp only [Rep]
      · simp only [Ok]
        have : s.size ≤ 9223372036854775807 := hs
        rw [Array.length_toList]
        exact this
    · cases h1
  | .unit, T, fuel, cs, x, ht, hp, h => by
    simp only [tyB, Bool.and_eq_true] at ht
    have h1 := ht.1.1.1
    split at h1
    · rename_i fs hu
      obtain ⟨xs, n, _, _, hl, _⟩ := DataW.trod_struct hu h
      rw [cellsOf_info ht.1.1.2] at hl
      refine ⟨(), ?_, trivial⟩
      simp only [Rep]
      exact List.eq_nil_of_length_eq_zero hl
    · cases h1
  | .slice E e, T, fuel, cs, x, ht, hp, h => by
    obtain ⟨hu, hE⟩ := tyB_slice ht
    simp only [Ty.pos, Bool.and_eq_true, decide_eq_true_eq] at hp
    have hc := cellsOf_info (tyB_info hE)
    rcases DataW.trod_slice hu h with ⟨rfl, _⟩ | ⟨a, len, cap, elems, rest, n, _, rfl, rfl, hb, hl, hm, hlen, hel, hsp, hns⟩
    · refine ⟨[], ?_, ?_⟩
      · simp only [Rep]
        exact ⟨none, 0, rfl, Nat.le_refl _, .inl trivial⟩
      · simp [Ok]
    · have each : ∀ i, i < len → ∃ cs y, (elems[i]? = some y) ∧ (cs : List Value).length = e.size ∧ (∀ j u, cs[j]? = some u → W.cell? (a.add (i * e.size + j)) = some u) ∧ ∃ d : e.D, Rep (ltS W) W e d cs ∧ Ok e d := by
        intro i hi
        have hlt : i < elems.length := by omega
        have h1 := hel i hi
        rw [List.getElem?_eq_getElem hlt, hc, Option.bind_eq_some_iff] at h1
        obtain ⟨cs, h2, h3⟩ := h1
        obtain ⟨_, hcl, hcell⟩ := World.cells?_some h2
        obtain ⟨d, hd, hok⟩ := trod_rep e E n cs _ hE hp.2 h3
        refine ⟨cs, _, List.getElem?_eq_getElem hlt, hcl, fun j u hj => ?_, d, hd, hok⟩
        have hjl : j < e.size := by
          obtain ⟨h, _⟩ := List.getElem?_eq_some_iff.1 hj
          omega
        have := hcell j hjl
        rw [Addr.add_add] at this
        rw [this, hj]
      obtain ⟨l, xs, h1, h2, h3, h4⟩ := rows_rep each len (Nat.le_refl _)
      refine ⟨l, ?_, ?_⟩
      · simp only [Rep]
        refine ⟨some a, cap, by rw [h1], by omega, ?_⟩
        cases l with
        | nil => exact .inl rfl
        | cons y r =>
          right
          refine ⟨a, xs, rfl, ?_, h2, h3⟩
          have hxl := RepL.len (fun x c hx => Rep.len e x c hx) _ xs h2
          have : 0 < xs.length := by
            rw [hxl]; exact Nat.mul_pos (by simp) (Nat.pos_of_ne_zero hp.1)
          have h0 := h3 0 _ (List.getElem?_eq_getElem this)
          have hblk : (a.add 0).block = a.block := by unfold Addr.add; split <;> rfl
          show a.block < W.heap.size
          rw [← hblk]
          by_cases hlt : (a.add 0).block < W.heap.size
          · exact hlt
          · exfalso
            unfold World.cell? at h0
            rw [Array.getElem?_eq_none (by omega)] at h0
            cases h0
      · simp only [Ok]
        refine ⟨?_, h4⟩
        have : cap ≤ 9223372036854775807 := hm
        omega
  | .pair a b, T, fuel, cs, x, ht, hp, h => by
    simp only [tyB, Bool.and_eq_true] at ht
    obtain ⟨⟨⟨h1, hi⟩, _⟩, _⟩ := ht
    split at h1
    · rename_i fs hu
      split at h1
      · rename_i f r hfs
        simp only [Bool.and_eq_true, beq_iff_eq, decide_eq_true_eq] at h1
        obtain ⟨⟨⟨⟨h2, _⟩, h4⟩, h5⟩, h6⟩ := h1
        obtain ⟨ys, n, _, _, hl, hyl, hf⟩ := DataW.trod_struct hu h
        rw [cellsOf_info hi] at hl
        simp only [Ty.pos, Bool.and_eq_true] at hp
        have hget : ∀ (i : Nat) (g : Field), (f :: r)[i]? = some g → fs[i]? = some g := fun i g hg => by rw [← hfs] at hg; simpa using hg
        have hys : ys.length = (f :: r).length := by rw [hyl, ← hfs]; simp
        have each : ∀ g ∈ f :: r, ∃ y, DataW.trod enc P W base spare held n g.type ((cs.drop g.offset).take (P.cellsOf g.type)) = some y := by
          intro g hg
          obtain ⟨i, hlt, hgi⟩ := List.getElem_of_mem hg
          have := hf i g (hget i g (by rw [List.getElem?_eq_getElem hlt, hgi]))
          rw [List.getElem?_eq_getElem (by omega)] at this
          exact ⟨_, this⟩
        obtain ⟨y, hy⟩ := each f (by simp)
        rw [h2, cellsOf_info (tyB_info h4), List.drop_zero] at hy
        obtain ⟨d1, r1, o1⟩ := trod_rep a f.type n _ y h4 hp.1 hy
        obtain ⟨d2, r2, o2⟩ := flds_rep b r a.size n cs h6 hp.2 (fun g hg => each g (by simp [hg])) (by simpa [Ty.size] using hl)
        refine ⟨(d1, d2), ?_, o1, o2⟩
        simp only [Rep]
        exact ⟨cs.take a.size, cs.drop a.size, by simp, r1, r2⟩
      · cases h1
    · cases h1
theorem flds_rep : ∀ (t : Ty) (fs : List Field) (o : Nat) (n : Nat) (cs : List Value), fldB P t fs o = true → t.pos = true → (∀ g ∈ fs, ∃ y, DataW.trod enc P W base spare held n g.type ((cs.drop g.offset).take (P.cellsOf g.type)) = some y) → cs.length = o + t.size → ∃ d : t.D, Rep (ltS W) W t d (cs.drop o) ∧ Ok t d
  | .unit, fs, o, n, cs, hb, hp, each, hl => by
    refine ⟨(), ?_, trivial⟩
    simp only [Rep]
    rw [List.drop_eq_nil_iff]
    simp only [Ty.size] at hl
    omega
  | .pair a b, fs, o, n, cs, hb, hp, each, hl => by
    cases fs with
    | nil => simp [fldB] at hb
    | cons f r =>
      simp only [fldB, Bool.and_eq_true, beq_iff_eq, decide_eq_true_eq] at hb
      obtain ⟨⟨⟨⟨h2, _⟩, h4⟩, h5⟩, h6⟩ := hb
      simp only [Ty.pos, Bool.and_eq_true] at hp
      obtain ⟨y, hy⟩ := each f (by simp)
      rw [h2, cellsOf_info (tyB_info h4)] at hy
      obtain ⟨d1, r1, o1⟩ := trod_rep a f.type n _ y h4 hp.1 hy
      obtain ⟨d2, r2, o2⟩ := flds_rep b r (o + a.size) n cs h6 hp.2 (fun g hg => each g (by simp [hg])) (by simp only [Ty.size] at hl; omega)
      refine ⟨(d1, d2), ?_, o1, o2⟩
      simp only [Rep]
      exact ⟨(cs.drop o).take a.size, cs.drop (o + a.size), by rw [← List.drop_drop]; exact (List.take_append_drop _ _).symm, r1, r2⟩
  | .int k, fs, o, n, cs, hb, hp, each, hl => by cases fs <;> simp [fldB] at hb
  | .bool, fs, o, n, cs, hb, hp, each, hl => by cases fs <;> simp [fldB] at hb
  | .str, fs, o, n, cs, hb, hp, each, hl => by cases fs <;> simp [fldB] at hb
  | .slice _ _, fs, o, n, cs, hb, hp, each, hl => by cases fs <;> simp [fldB] at hb
end

/-- A value of a type is a struct just where its type is one. -/
theorem okWide_row {t : Ty} {T : TypeId} (ht : tyB P t T = true) {r : Reach} {b0 : Nat} {v : Value} (h : Value.okWide P W r b0 T v) : v = mkV t v.cells.toList := by
  obtain ⟨d, hu, hd⟩ := tyB_row ht
  cases t with
  | int k =>
    simp only [tyB, Bool.and_eq_true] at ht
    have h1 := ht.1
    split at h1
    · rename_i k' hu'; obtain ⟨n, rfl⟩ := okWide_int hu' h; rfl
    · cases h1
  | bool =>
    simp only [tyB, Bool.and_eq_true] at ht
    have h1 := ht.1
    split at h1
    · rename_i hu'; obtain ⟨n, rfl⟩ := okWide_bool hu' h; rfl
    · cases h1
  | str =>
    simp only [tyB, Bool.and_eq_true] at ht
    have h1 := ht.1
    split at h1
    · rename_i hu'; obtain ⟨n, rfl⟩ := okWide_string hu' h; rfl
    · cases h1
  | slice E e =>
    obtain ⟨hu', _⟩ := tyB_slice ht
    obtain ⟨a, l, c, rfl⟩ := okWide_slice hu' h
    rfl
  | unit =>
    simp only [tyB, Bool.and_eq_true] at ht
    have h1 := ht.1.1.1
    split at h1
    · rename_i fs hu'; obtain ⟨cs, rfl, _⟩ := okWide_struct hu' h; simp [mkV, Ty.isAgg, Value.cells]
    · cases h1
  | pair a b =>
    simp only [tyB, Bool.and_eq_true] at ht
    have h1 := ht.1.1.1
    split at h1
    · rename_i fs hu'; obtain ⟨cs, rfl, _⟩ := okWide_struct hu' h; simp [mkV, Ty.isAgg, Value.cells]
    · cases h1

/-- A law's parameters. -/
def parsB (tt : TypeId → TI) : List TypeId → Ty → Bool
  | [], .unit => true
  | T :: r, .pair a b => decide (tt T = .d a) && a.pos && parsB tt r b
  | _, _ => false

theorem args_rep {base' : Nat} {tt : TypeId → TI} (ht : TabOK P tt) (μ : Hd) : ∀ (ts : List TypeId) (p : Ty) (vs : List Value) (ds : List (DataW H)) (ps : List MemPlace), parsB tt ts p = true → DataW.TrodAll enc P W base spare held ts vs ds ps →
    (∀ (j : Nat) t v, ts[j]? = some t → vs[j]? = some v → Value.okWide P W .any base' t v) → ∃ x : p.D, (∀ h, VRepL μ (ltS W) W (argsV (List.replicate ts.length .d) p x h).1 vs) ∧ (∀ h, (argsV (List.replicate ts.length .d) p x h).2 = h) ∧ Ok p x
  | [], p, vs, ds, ps, hb, h, hv => by
    cases p with
    | unit =>
      obtain ⟨rfl, _, _⟩ := trodAll_nil h
      exact ⟨(), fun h => by simp [argsV, VRepL], fun h => by simp [argsV], trivial⟩
    | _ => simp [parsB] at hb
  | T :: r, p, vs, ds, ps, hb, h, hv => by
    cases p with
    | pair a b =>
      simp only [parsB, Bool.and_eq_true, decide_eq_true_eq] at hb
      obtain ⟨⟨hT, hpos⟩, hr⟩ := hb
      obtain ⟨v, vs', d, ds', p1, q1, rfl, rfl, rfl, h1, h2⟩ := trodAll_cons h
      obtain ⟨x, h3, h4, h5⟩ := args_rep ht μ r b vs' ds' q1 hr h2 fun j t u e1 e2 => hv (j + 1) t u (by simpa using e1) (by simpa using e2)
      obtain ⟨fuel, hf⟩ := h1
      obtain ⟨y, hy, hok⟩ := trod_rep a T fuel _ _ (ht.d hT) hpos hf
      refine ⟨(y, x), fun h => ?_, fun h => ?_, hok, h5⟩
      · simp only [List.length_cons, List.replicate_succ, argsV, VRepL]
        refine ⟨v, vs', rfl, ?_, h3 h⟩
        simp only [VRep]
        exact ⟨_, hy, okWide_row (ht.d hT) (hv 0 T v rfl rfl)⟩
      · simp only [List.length_cons, List.replicate_succ, argsV]
        exact h4 h
    | _ => simp [parsB] at hb

/-- The arguments read as before. -/
theorem args_back {w' : World} (hl : laidOutB P = true) (hb : Below W.heap.size W w') : ∀ (ts : List TypeId) (vs : List Value) (ds : List (DataW H)) (ps : List MemPlace), (ts.all fun t => P.readableRec t && decide (t < P.types.size)) = true →
    DataW.TrodAll enc P W 0 (fun _ => true) true ts vs ds ps → DataW.TrodAll enc P w' 0 (fun b => decide (b < W.heap.size)) true ts vs ds ps
  | [], vs, ds, ps, ht, h => by
    obtain ⟨rfl, rfl, rfl⟩ := trodAll_nil h
    exact trodAll_mk0
  | T :: r, vs, ds, ps, ht, h => by
    have hlt := h.lt
    obtain ⟨v, vs', d, ds', p1, q1, rfl, rfl, rfl, h1, h2⟩ := trodAll_cons h
    simp only [List.all_cons, Bool.and_eq_true, decide_eq_true_eq] at ht
    exact ⟨p1, q1, Below.trod hl ht.1.1 ht.1.2 h1 hb fun x hx => hlt x (List.mem_append_left _ hx), args_back hl hb r vs' ds' q1 (by simpa using ht.2) h2, rfl⟩

end

/-- A law's call. -/
theorem law_calls {P : Program} {f : FuncId} {sh : List AS} {s : Sig} (hS : Sound P f sh s) (hr : s.r = .bool) (hm : s.multi = false) (hio : s.io = false) (hown : s.own = []) {x : s.p.D} (hx : s.f x = some (hr ▸ (true : Ty.D .bool))) {W : World} {args : Array Value}
    (hv : VRepL (fun _ => none) (ltS W) W (argsV sh s.p x []).1 args.toList) (hh : (argsV sh s.p x []).2 = []) : Calls P f args W fun e w' => e = .returned (.bool true) ∧ Below W.heap.size W w' := by
  have I := callee_none W (ltS W) (fun b hb => hb)
  refine Calls.mono (hS.2 x _ 0 ⟨W, fun _ => False, ltS W⟩ (fun _ => none) args hx (by rw [hh]; exact I) hv) fun e w' he => ?_
  obtain ⟨u, rfl, ha⟩ := he
  simp only [Ans, hio, Bool.false_eq_true, if_false] at ha
  obtain ⟨μ', S', hk, _, I', hu⟩ := ha
  obtain ⟨p, r, multi, io, own, fz, sf⟩ := s
  simp only at hr hm hown hu
  subst hr hm hown
  simp only [inject, resV, Bool.false_eq_true, if_false, Ty.isAgg, List.headD_cons, VRep] at hu
  obtain ⟨cs, hc, rfl⟩ := hu
  simp only [Rep] at hc
  subst hc
  refine ⟨rfl, ⟨I'.base.os, I'.base.tape, I'.base.output, I'.base.size, fun k hk' => I'.base.same k hk' (fun h => h)⟩⟩

end X
end Go.Proofs.YtjnfmjeiceiciaaGreat

/-
What the printed functions lean on.
-/
namespace Go.Proofs.YtjnfmjeiceiciaaGreat
namespace X
open Go Go.RowKit
set_option linter.unusedVariables false
set_option linter.unusedSimpArgs false
set_option linter.unnecessarySimpa false
set_option linter.unusedSectionVars false

/-- The contracts in a list hold. -/
def AllSig (P : Program) : List (Nat × Nat × Nat × CE) → Prop
  | [] => True
  | (_, _, _, .sig m sh s) :: r => Sound P m sh s ∧ AllSig P r

theorem sigs_of {P : Program} {tb : Tabs} (l : List (Nat × Nat × Nat × CE)) (he : tb.ct = fun a b c => look3 a b c l) (h : AllSig P l) : SigsOK P tb := by
  intro fid rid i m sh s hc
  rw [he] at hc
  simp only at hc
  clear he
  induction l with
  | nil => simp [look3] at hc
  | cons y r ih =>
    obtain ⟨a, b, c, e⟩ := y
    obtain ⟨m', sh', s'⟩ := e
    simp only [AllSig] at h
    simp only [look3] at hc
    split at hc
    · split at hc
      · split at hc
        · cases hc; exact h.1
        · exact ih h.2 hc
      · exact ih h.2 hc
    · exact ih h.2 hc

def bodyOf (fn : Func) : Code := fn.body.getD .skip

def Goods (P : Program) (tb : Tabs) (fn : Func) (done : List Nat) : Prop := ∀ j ∈ done, Good P tb 0 (bodyOf fn) j

theorem goods_nil {P : Program} {tb : Tabs} {fn : Func} : Goods P tb fn [] := fun j hj => by cases hj

def fnB (tb : Tabs) (fn : Func) (done : List Nat) : Bool := fn.body.isSome && formC tb 0 (bodyOf fn) && innerB tb 0 (bodyOf fn) done && !(fn.name == "runtime.NumGoroutine")

def loopB (tb : Tabs) (fn : Func) (id : Nat) (done : List Nat) : Bool := fn.body.isSome && formC tb 0 (bodyOf fn) && match loopAt id (bodyOf fn) with
  | some a => innerB tb 0 a done
  | none => false

theorem body_of {fn : Func} (h : fn.body.isSome = true) : fn.body = some (bodyOf fn) := by
  unfold bodyOf
  cases hb : fn.body with
  | none => rw [hb] at h; cases h
  | some b => rfl

theorem goods_cons {P : Program} {tt : TypeId → TI} (ht : TabOK P tt) (hmix : P.follows .mixedOrders = true) {tb : Tabs} (htt : tb.tt = tt) (hs : SigsOK P tb) {fn : Func} {done : List Nat} (hd : Goods P tb fn done) (id : Nat) (hB : loopB tb fn id done = true) {i o r : Tmpl} {C M O R : Ty} (BB : C.D → M.D → Tr (Leaf M.D O.D R.D)) (N : Nat) {ci co cr : List Nat}
    (hfr : tb.fr 0 (2 * id) = some ⟨i, o, r, C, M, O, R, fun c m => iterT (BB c) N m⟩)
    (heq : ∀ c m, roundV tb 0 fn id i o r M O R (unpack C c) m = (BB c m).map (withC (stays (unpack C c) ci) (stays (unpack C c) co) (stays (unpack C c) cr))) : Goods P tb fn (id :: done) := by
  simp only [loopB, Bool.and_eq_true] at hB
  obtain ⟨⟨h1, h2⟩, h3⟩ := hB
  split at h3
  · rename_i a ha
    exact good_step (by rw [htt]; exact ht) hs hmix (body_of h1) h2 hd id ha h3 i o r C M O R BB N ci co cr hfr heq
  · cases h3

theorem ok_of {P : Program} {tt : TypeId → TI} (ht : TabOK P tt) (hmix : P.follows .mixedOrders = true) {tb : Tabs} (htt : tb.tt = tt) (hs : SigsOK P tb) {n : FuncId} {fn : Func} (hfn : P.funcs[n]? = some fn) {done : List Nat} (hg : Goods P tb fn done) (hB : fnB tb fn done = true) {sh : List AS} {s : Sig} (hio : s.io = false)
    {T : s.p.D → Tr s.r.D} (heq : ∀ x, topV tb 0 fn sh s.p s.r s.multi false s.own x = T x) (hF : ∀ x, s.f x = (T x).run) : Sound P n sh s := by
  simp only [fnB, Bool.and_eq_true, Bool.not_eq_true'] at hB
  obtain ⟨⟨⟨h1, h2⟩, h3⟩, h4⟩ := hB
  exact sound_of (by rw [htt]; exact ht) hmix hs hfn h4 (body_of h1) h2 hg h3 hio heq hF

end X
end Go.Proofs.YtjnfmjeiceiciaaGreat

/-
slices.SortFunc over structs without slices, by the kit's contract.
-/
namespace Go.Proofs.YtjnfmjeiceiciaaGreat
namespace X
open Go Go.RowKit Go.Sort Go.Shelf
set_option linter.unusedVariables false
set_option linter.unusedSimpArgs false
set_option linter.unnecessarySimpa false
set_option linter.unusedSectionVars false

/-- A datum without slices in its cells. -/
def encF : (t : Ty) → t.D → List Value
  | .int k, n => [.int k n]
  | .bool, b => [.bool b]
  | .str, s => [.string ⟨s.toArray⟩]
  | .unit, _ => []
  | .slice _ _, _ => []
  | .pair a b, x => encF a x.1 ++ encF b x.2

theorem encF_rep {S : BSet} {w : World} : ∀ (t : Ty) (x : t.D) (cs : List Value), t.flat = true → (Rep S w t x cs ↔ cs = encF t x)
  | .int k, x, cs, _ => by simp [Rep, encF]
  | .bool, x, cs, _ => by simp [Rep, encF]
  | .str, x, cs, _ => by simp [Rep, encF]
  | .unit, x, cs, _ => by simp [Rep, encF]
  | .slice _ _, x, cs, h => by simp [Ty.flat] at h
  | .pair a b, x, cs, h => by
    simp only [Ty.flat, Bool.and_eq_true] at h
    simp only [Rep, encF]
    constructor
    · rintro ⟨c1, c2, rfl, h1, h2⟩
      rw [(encF_rep a x.1 c1 h.1).1 h1, (encF_rep b x.2 c2 h.2).1 h2]
    · rintro rfl
      exact ⟨_, _, rfl, (encF_rep a x.1 _ h.1).2 rfl, (encF_rep b x.2 _ h.2).2 rfl⟩

theorem encF_len (t : Ty) (x : t.D) (h : t.flat = true) : (encF t x).length = t.size :=
  Rep.len t x _ ((encF_rep (S := fun _ => False) (w := default) t x _ h).2 rfl)
theorem encF_one (t : Ty) (x : t.D) (h : t.flat = true) : ∀ v ∈ encF t x, v.oneCell' = true :=
  Rep.one t x _ ((encF_rep (S := fun _ => False) (w := default) t x _ h).2 rfl)

/-- A world that has only grown. -/
theorem grown_eq {W w' : World} (h : Frame0 ⟨W, fun _ => False, fun _ => False⟩ w') : ∃ q os, w' = grow (W.drewN q) os := by
  refine ⟨w'.drawn - W.drawn, w'.heap.extract W.heap.size w'.heap.size, ?_⟩
  have hd := h.drew
  have hs := h.size
  obtain ⟨heap, tape, drawn, os, output⟩ := w'
  simp only [grow, World.drewN, World.mk.injEq]
  refine ⟨?_, h.tape, ?_, h.os, h.output⟩
  · apply Array.ext_getElem?
    intro i
    by_cases hi : i < W.heap.size
    · rw [Array.getElem?_append_left hi]
      exact h.same i hi (fun h => h)
    · rw [Array.getElem?_append_right (by omega), Array.getElem?_extract]
      by_cases hj : i < heap.size
      · rw [if_pos (by show i - W.heap.size < min heap.size heap.size - W.heap.size; omega)]
        congr 1; omega
      · rw [if_neg (by show ¬ i - W.heap.size < min heap.size heap.size - W.heap.size; omega), Array.getElem?_eq_none (by omega)]
  · simp only at hd ⊢; omega

section
variable {P : Program} {e : Ty} [Inhabited e.D] (hfl : e.flat = true)
 include hfl

theorem cmp_lays {g : FuncId} {f : e.D × e.D × Unit → Option Int} (hag : e.isAgg = true) (hS : Sound P g [.d, .d] ⟨.pair e (.pair e .unit), .int .i64, false, false, [], false, f⟩) (cf : e.D → e.D → Int) (hf : ∀ x y, f (x, y, ()) = some (cf x y)) (blk off size : Nat) (w : World) :
    CmpLays P g #[] (encF e) e.size cf blk off size w := by
  intro m os dk _ x y
  generalize sortWorldK (encF e) e.size w blk off m dk os = W
  have I := callee_none W (fun _ => False) (fun b hb => hb.elim)
  refine Calls.mono (hS.2 (x, y, ()) (cf x y) 0 ⟨W, fun _ => False, fun _ => False⟩ (fun _ => none) _ (hf x y) I ?_) fun en w' he => ?_
  · simp only [argsV, VRepL]
    refine ⟨_, _, rfl, ?_, _, _, rfl, ?_, rfl⟩
    · simp only [VRep]
      exact ⟨encF e x, (encF_rep e x _ hfl).2 rfl, by simp [mkV, hag]⟩
    · simp only [VRep]
      exact ⟨encF e y, (encF_rep e y _ hfl).2 rfl, by simp [mkV, hag]⟩
  · obtain ⟨u, rfl, ha⟩ := he
    simp only [Ans, Bool.false_eq_true, if_false] at ha
    obtain ⟨μ', S', hk, _, I', hu⟩ := ha
    simp only [inject, resV, Bool.false_eq_true, if_false, Ty.isAgg, List.headD_cons, VRep] at hu
    obtain ⟨cs, hc, rfl⟩ := hu
    simp only [Rep] at hc
    subst hc
    refine ⟨rfl, ?_⟩
    obtain ⟨q, os', h⟩ := grown_eq (W := W) (w' := w') ⟨I'.base.os, I'.base.tape, I'.base.output, I'.base.size, fun k hk _ => I'.base.same k hk (fun h => h), I'.base.drew⟩
    exact ⟨q, os', h⟩

theorem flat_seg (d : Array e.D) (i : Nat) (hi : i < d.size) (hpos : e.size ≠ 0) : ((flatK (encF e) e.size d).toList.drop (i * e.size)).take e.size = encF e d[i]! := by
  have hlen := encF_len e d[i]! hfl
  have hle : i * e.size + e.size ≤ d.size * e.size := by
    have := Nat.mul_le_mul_right e.size (Nat.succ_le_of_lt hi)
    rw [Nat.succ_mul] at this; exact this
  apply List.ext_getElem?
  intro j
  by_cases hj : j < e.size
  · rw [List.getElem?_take_of_lt hj, List.getElem?_drop, Array.getElem?_toList]
    have hlt : i * e.size + j < (flatK (encF e) e.size d).size := by rw [size_flatK]; omega
    have h1 := get_flatK (encF e) e.size d (i * e.size + j) (by omega)
    rw [getElem!_pos (flatK (encF e) e.size d) (i * e.size + j) hlt] at h1
    rw [Array.getElem?_eq_getElem hlt, h1]
    have e1 : (i * e.size + j) / e.size = i := by
      rw [Nat.mul_comm, Nat.mul_add_div (Nat.pos_of_ne_zero hpos), Nat.div_eq_of_lt hj]; omega
    have e2 : (i * e.size + j) % e.size = j := by
      rw [Nat.mul_comm, Nat.mul_add_mod, Nat.mod_eq_of_lt hj]
    rw [e1, e2, getElem!_pos (encF e d[i]!) j (by omega), List.getElem?_eq_getElem (by omega)]
  · rw [List.getElem?_eq_none (by simp; omega), List.getElem?_eq_none (by omega)]

theorem rep_flat {S : BSet} {w : World} (hpos : e.size ≠ 0) : ∀ (l : List e.D) (xs : List Value), xs.length = l.length * e.size → (∀ i, i < l.length → (xs.drop (i * e.size)).take e.size = encF e l[i]!) → RepL (Rep S w e) l xs
  | [], xs, hl, _ => by
    simp only [List.length_nil, Nat.zero_mul] at hl
    simp only [RepL]
    exact List.eq_nil_of_length_eq_zero hl
  | x :: l, xs, hl, hs => by
    have h0 := hs 0 (by simp)
    simp only [Nat.zero_mul, List.drop_zero] at h0
    have hl' : xs.length = e.size + l.length * e.size := by rw [hl, List.length_cons, Nat.succ_mul, Nat.add_comm]
    refine ⟨xs.take e.size, xs.drop e.size, by simp, (encF_rep e x _ hfl).2 (by simpa using h0), rep_flat hpos l _ (by rw [List.length_drop]; omega) fun i hi => ?_⟩
    have := hs (i + 1) (by simpa using hi)
    rw [Nat.succ_mul, Nat.add_comm, ← List.drop_drop] at this
    simpa using this

theorem flat_of {S : BSet} {w : World} (hpos : e.size ≠ 0) {l : List e.D} {xs : List Value} (h : RepL (Rep S w e) l xs) : xs = (flatK (encF e) e.size l.toArray).toList := by
  have hl := RepL.len (fun x c hx => Rep.len e x c hx) l xs h
  have seg : ∀ i, i < l.length → (xs.drop (i * e.size)).take e.size = encF e l[i]! := fun i hi => by
    obtain ⟨cs, h1, h2⟩ := RepL.get (fun x c hx => Rep.len e x c hx) l xs h i l[i]! (by rw [getElem!_pos l i hi]; exact List.getElem?_eq_getElem hi)
    rw [h2]; exact (encF_rep e _ _ hfl).1 h1
  apply List.ext_getElem?
  intro j
  by_cases hj : j < l.length * e.size
  · have hk := Nat.pos_of_ne_zero hpos
    have hi : j / e.size < l.length := Nat.div_lt_of_lt_mul (by rw [Nat.mul_comm]; exact hj)
    have hm : j % e.size < e.size := Nat.mod_lt _ hk
    have key : ∀ ys : List Value, (ys.drop (j / e.size * e.size)).take e.size = encF e l[j / e.size]! → ys[j]? = (encF e l[j / e.size]!)[j % e.size]? := fun ys hy => by
      rw [← hy, List.getElem?_take_of_lt hm, List.getElem?_drop]
      congr 1
      rw [Nat.mul_comm]; exact (Nat.div_add_mod j e.size).symm
    rw [key xs (seg _ hi), key _ (by have := flat_seg hfl l.toArray (j / e.size) (by simpa using hi) hpos; simpa using this)]
  · rw [List.getElem?_eq_none (by omega), List.getElem?_eq_none (by simp; omega)]

end

theorem sortFunc_ok {P : Program} {ρ : Ren} (L : SlLaysF0.n6 P ρ) {e : Ty} [Inhabited e.D] (hfl : e.flat = true) (hag : e.isAgg = true) (hpos : e.size ≠ 0) (hty : tyB P e (ρ.t 24) = true) {g : FuncId} {f : e.D × e.D × Unit → Option Int}
    (hS : Sound P g [.d, .d] ⟨.pair e (.pair e .unit), .int .i64, false, false, [], false, f⟩) (cf : e.D → e.D → Int) (hf : ∀ x y, f (x, y, ()) = some (cf x y)) (hO : SWO (ltOf cf)) (hT : ∀ x y, (ltOf cf) x y = false → (ltOf cf) y x = false → x = y) (le : e.D → e.D → Bool) (hle : ∀ x y, le x y = !(ltOf cf) y x) (hcall : Callable P (ρ.f 6)) :
    Sound P (ρ.f 6) [.io, .fn g 0] ⟨.pair (.slice (ρ.t 24) e) .unit, .pair (.slice (ρ.t 24) e) .unit, false, true, [true], false, fun x => if x.1.length ≤ 1048576 then some (x.1.mergeSort le, ()) else none⟩ := by
  refine ⟨hcall, ?_⟩
  intro x r n B μ args hx I hv
  simp only [argsV, List.nil_append, List.length_nil] at I hv ⊢
  simp only at hx
  split at hx
  · rename_i hlen
    simp only [Option.some.injEq] at hx
    subst hx
    obtain ⟨l, u⟩ := x
    simp only at hlen I hv ⊢
    obtain ⟨fng, hg1, hg2, hg3⟩ := hS.1
    have hle' : l.mergeSort le = l.mergeSort (fun x y => !(ltOf cf) y x) := by congr 1; funext x y; exact hle x y
    simp only [VRepL] at hv
    obtain ⟨u0, r0, ha, h0, u1, r1, rfl, h1, rfl⟩ := hv
    simp only [VRep, VRepL] at h0 h1
    obtain ⟨hm, a, n0, c0, rfl⟩ := h0
    obtain ⟨cs, rfl, hcs⟩ := h1
    have hargs : args = #[.slice a n0 c0, .func (.func g) #[] #[]] := by
      apply Array.ext'
      rw [ha]
      have : cs = #[] := by cases cs; simp_all
      rw [this]
    obtain ⟨xs, hw, hl⟩ := I.obj 0 _ _ rfl hm
    have mk : ∀ w', Inv B μ B.S0 w' [.row (ρ.t 24) e (l.mergeSort le)] → Keeps B.S0 B.S0 B.W w' → Ans B ⟨.pair (.slice (ρ.t 24) e) .unit, .pair (.slice (ρ.t 24) e) .unit, false, true, [true], false, fun x => if x.1.length ≤ 1048576 then some (x.1.mergeSort le, ()) else none⟩ n (ioV [.io, .fn g 0] [.row 0, .fn g []]) [.row (ρ.t 24) e l] μ (l.mergeSort le, ()) (.tuple #[]) w' := by
      intro w' I' k
      simp only [Ans, if_true]
      exact ⟨B.S0, [.row (ρ.t 24) e (l.mergeSort le)], trivial, k, rfl, I'⟩
    rcases hw.2 with ⟨hn, hz⟩ | ⟨gb, cap, cur, hn, hz0, hgg, hnc, hcm, hcs', htake⟩
    · cases hn
      have hnil : l = [] := List.eq_nil_of_length_eq_zero hz
      subst hnil
      rw [hargs]
      refine Calls.mono (AnyF.slices_SortFunc_none L none 0 _ B.W) fun en w' he => ?_
      obtain ⟨rfl, rfl⟩ := he
      refine ⟨_, rfl, mk _ ?_ (Keeps.refl _ _)⟩
      simpa using I
    · cases hn
      have hob : ownB (.row (ρ.t 24) e l) (.slice (some ⟨gb, 0, none⟩) l.length c0) = some gb := rfl
      obtain ⟨hnS, hour⟩ := I.out 0 _ _ gb rfl hm hob
      have hblk : gb < B.W.heap.size := by obtain ⟨h, _⟩ := Array.getElem?_eq_some_iff.1 hgg; exact h
      have hxs := flat_of hfl hpos hl
      have hsz : l.length * e.size ≤ cur.size := by rw [hcs']; exact Nat.mul_le_mul_right _ hnc
      have hH : HoldsK (encF e) e.size B.W gb 0 l.toArray := by
        intro j hj
        have hj' : j < l.length * e.size := by simpa using hj
        have hc1 : cur[j]? = some (flatK (encF e) e.size l.toArray)[j]! := by
          have : cur.toList[j]? = xs[j]? := by
            rw [← htake, List.getElem?_take_of_lt hj']
          rw [Array.getElem?_toList] at this
          rw [this, hxs, Array.getElem?_toList, Array.getElem?_eq_getElem hj, getElem!_pos (flatK (encF e) e.size l.toArray) j hj]
        constructor
        · simp only [id, Nat.zero_add]
          rw [cell_of_row B.W gb j cur _ (0, 0) hgg]
          exact hc1
        · simp [World.frozen?, hgg]
      have hcon := AnyQ.slices_SortFunc_total L e.size (fun w => by rw [run_isAgg w (tyB_row hty).choose_spec.1, (tyB_row hty).choose_spec.2, hag]) (fun w => by obtain ⟨i, z, h1, h2, _⟩ := infoB_spec (tyB_info hty); rw [run_size w h1, h2]) (encF e) (fun x => encF_len e x hfl) (fun x => encF_one e x hfl) cf hO g #[] gb 0 c0 l.toArray B.W
        (enters_of hg1 hg2 (body_of (by cases hb : fng.body <;> simp_all))) (cmp_lays hfl hag hS cf hf gb 0 _ B.W) hH hblk (by simp; omega) hT
      rw [hargs]
      have hls : l.toArray.size = l.length := by simp
      rw [hls] at hcon
      refine Calls.mono hcon fun en w' he => ?_
      obtain ⟨rfl, q, os, rfl⟩ := he
      refine ⟨_, rfl, ?_⟩
      -- the row written
      generalize hd' : (l.mergeSort le) = l' at mk ⊢
      have hd2 : (l.toArray.toList.mergeSort fun x y => !(ltOf cf) y x).toArray = l'.toArray := by rw [← hd', hle']
      rw [hd2]
      have hl'len : l'.length = l.length := by rw [← hd']; simp
      have hW1 : (putRowK (encF e) e.size B.W gb 0 l'.toArray).heap[gb]? = some (.cells (putCells id 0 (flatK (encF e) e.size l'.toArray) cur) (ρ.t 24) (0, 0)) := by
        simp only [putRowK, putRow, mapBlock, Array.getElem?_modify, if_true, hgg, Option.map_some, onCells]
      have htk : (putCells id 0 (flatK (encF e) e.size l'.toArray) cur).toList.take (l'.length * e.size) = (flatK (encF e) e.size l'.toArray).toList := by
        apply List.ext_getElem?
        intro j
        have hfs : (flatK (encF e) e.size l'.toArray).size = l'.length * e.size := by simp
        by_cases hj : j < l'.length * e.size
        · rw [List.getElem?_take_of_lt hj, Array.getElem?_toList, Array.getElem?_toList, Array.getElem?_eq_getElem (xs := flatK (encF e) e.size l'.toArray) (by rw [hfs]; exact hj)]
          simp only [putCells, Array.getElem?_mapIdx]
          rw [Array.getElem?_eq_getElem (show j < cur.size by rw [hl'len] at hj; omega)]
          simp only [Option.map_some, Nat.zero_le, true_and, Nat.zero_add, Nat.sub_zero, hfs, hj, if_true, id]
          rw [getElem!_pos (flatK (encF e) e.size l'.toArray) j (by rw [hfs]; exact hj)]
        · rw [List.getElem?_eq_none (by rw [List.length_take]; omega), List.getElem?_eq_none (by rw [Array.length_toList, hfs]; omega)]
      have hrow : ORep μ B.S0 (putRowK (encF e) e.size B.W gb 0 l'.toArray) (.row (ρ.t 24) e l') (.slice (some ⟨gb, 0, none⟩) l.length c0) := by
        refine ⟨(flatK (encF e) e.size l'.toArray).toList, ⟨by simp, .inr ⟨gb, c0, _, by rw [hl'len], Nat.zero_le _, hW1, by omega, hcm, by simp [putCells, hcs'], htk⟩⟩, ?_⟩
        refine rep_flat hfl hpos l' _ (by simp) fun i hi => ?_
        have := flat_seg hfl l'.toArray i (by simpa using hi) hpos
        simpa using this
      obtain ⟨I1, k1⟩ := I.write (w' := putRowK (encF e) e.size B.W gb 0 l'.toArray) (ob' := .row (ρ.t 24) e l') rfl hm hob (.inl rfl) rfl rfl rfl (by simp [putRowK]) (fun k hk => by
        simp only [putRowK, putRow, mapBlock, Array.getElem?_modify]
        rw [if_neg (fun h => hk h.symm)]) (Nat.le_refl _) hrow
      have more : More (putRowK (encF e) e.size B.W gb 0 l'.toArray) (sortWorldK (encF e) e.size B.W gb 0 q l'.toArray os) := by
        refine ⟨rfl, rfl, rfl, by simp [sortWorldK, putRowK], fun k hk => ?_, ?_⟩
        · simp only [sortWorldK]
          rw [heap_grow_old _ _ (by simpa [putRowK] using hk)]
          rfl
        · simp only [sortWorldK, grow, putRowK, drawn_putRow, drawn_ahead]; omega
      refine mk _ (I1.more more) (k1.trans (more.keeps fun b hb => ?_))
      have := I.lt b hb
      simpa [putRowK] using this
  · cases hx

end X
end Go.Proofs.YtjnfmjeiceiciaaGreat

/-
Orders of the program's data: strict weak orders; strings.Compare.
-/
namespace Go.Proofs.YtjnfmjeiceiciaaGreat
namespace X
open Go Go.RowKit Go.Sort Go.Shelf
set_option linter.unusedVariables false
set_option linter.unusedSimpArgs false
set_option linter.unnecessarySimpa false

theorem cmpZ_cases (a b : Int) : (a < b ∧ cmpZ a b = -1) ∨ (b < a ∧ cmpZ a b = 1) ∨ (a = b ∧ cmpZ a b = 0) := by
  unfold cmpZ
  by_cases h1 : a < b
  · exact .inl ⟨h1, by simp [h1]⟩
  · by_cases h2 : b < a
    · exact .inr (.inl ⟨h2, by simp [h1, h2]⟩)
    · exact .inr (.inr ⟨by omega, by simp [h1, h2]⟩)

theorem cmpLab_neg (a b : Int × Int × Unit) : cmpLab a b < 0 ↔ (a.1 < b.1 ∨ (a.1 = b.1 ∧ a.2.1 < b.2.1)) := by
  unfold cmpLab cmpOr
  rcases cmpZ_cases a.1 b.1 with ⟨h, e⟩ | ⟨h, e⟩ | ⟨h, e⟩ <;> rcases cmpZ_cases a.2.1 b.2.1 with ⟨h', e'⟩ | ⟨h', e'⟩ | ⟨h', e'⟩ <;> rw [e, e'] <;> simp <;> omega

theorem ltLab (a b : Int × Int × Unit) : ltOf cmpLab a b = decide (a.1 < b.1 ∨ (a.1 = b.1 ∧ a.2.1 < b.2.1)) := by
  unfold ltOf
  rw [decide_eq_decide]
  exact cmpLab_neg a b

theorem swoLab : SWO (ltOf cmpLab) where
  irrefl x := by rw [ltLab]; simp
  trans x y z h1 h2 := by
    rw [ltLab, decide_eq_true_eq] at *
    omega
  ntrans x y z h1 h2 := by
    rw [ltLab, decide_eq_false_iff_not] at *
    omega

theorem totLab (x y : Int × Int × Unit) (h1 : ltOf cmpLab x y = false) (h2 : ltOf cmpLab y x = false) : x = y := by
  rw [ltLab, decide_eq_false_iff_not] at *
  obtain ⟨a, b, _⟩ := x
  obtain ⟨c, d, _⟩ := y
  simp only at h1 h2
  have e1 : a = c := by omega
  have e2 : b = d := by omega
  subst e1 e2
  rfl

theorem leLab (x y : Int × Int × Unit) : labLe x y = !ltOf cmpLab y x := by
  rw [ltLab]
  unfold labLe cmpLab cmpOr
  rcases cmpZ_cases x.1 y.1 with ⟨h, e⟩ | ⟨h, e⟩ | ⟨h, e⟩ <;> rcases cmpZ_cases x.2.1 y.2.1 with ⟨h', e'⟩ | ⟨h', e'⟩ | ⟨h', e'⟩ <;> rw [e, e'] <;> simp <;> omega

theorem bytesLess_irrefl : ∀ a : List UInt8, Go.Op.bytesLess a a = false
  | [] => rfl
  | a :: r => by simp [Go.Op.bytesLess, bytesLess_irrefl r]

theorem cmpTxt_eq : ∀ a b : List UInt8, Go.Lib.compareBytes a b = cmpTxt a b
  | [], [] => rfl
  | [], b :: s => by simp [Go.Lib.compareBytes, cmpTxt, Go.Op.bytesLess]
  | a :: r, [] => by simp [Go.Lib.compareBytes, cmpTxt, Go.Op.bytesLess]
  | a :: r, b :: s => by
    have ih := cmpTxt_eq r s
    simp only [Go.Lib.compareBytes, ih]
    unfold cmpTxt
    by_cases h : a = b
    · subst h
      simp [Go.Op.bytesLess]
    · by_cases hl : a < b
      · simp [hl, h, Go.Op.bytesLess]
      · have hg : b < a := by
          rw [UInt8.lt_iff_toNat_lt] at *
          have : a.toNat ≠ b.toNat := fun e => h (UInt8.toNat_inj.1 e)
          omega
        simp [hl, hg, h, Go.Op.bytesLess]

/-- A library function of two strings that touches nothing. -/
theorem str2_ok {P : Program} {n : FuncId} (hc : Callable P n) (c : List UInt8 → List UInt8 → Int) (h : ∀ (a b : ByteArray) (w : World), Calls P n #[.string a, .string b] w fun e w' => e = .returned (.int .i64 (c a.data.toList b.data.toList)) ∧ w' = w) :
    Sound P n [.d, .d] ⟨.pair .str (.pair .str .unit), .int .i64, false, false, [], false, fun x => some (c x.1 x.2.1)⟩ := by
  refine ⟨hc, ?_⟩
  intro x r k B μ args hx I hv
  simp only [Option.some.injEq] at hx
  subst hx
  simp only [argsV, VRepL] at hv
  obtain ⟨u0, r0, ha, h0, u1, r1, rfl, h1, rfl⟩ := hv
  simp only [VRep, Rep] at h0 h1
  obtain ⟨c0, rfl, rfl⟩ := h0
  obtain ⟨c1, rfl, rfl⟩ := h1
  have hargs : args = #[.string ⟨x.1.toArray⟩, .string ⟨x.2.1.toArray⟩] := by
    apply Array.ext'
    rw [ha]
    rfl
  rw [hargs]
  refine Calls.mono (h _ _ _) fun e w' he => ?_
  obtain ⟨rfl, rfl⟩ := he
  refine ⟨_, rfl, ?_⟩
  simp only [Ans, Bool.false_eq_true, if_false]
  refine ⟨fun _ => none, B.S0, Keeps.refl _ _, fun _ _ => rfl, ?_, ?_⟩
  · simp only [inject, List.append_nil]
    exact I.nothing k
  · simp only [inject, resV, Bool.false_eq_true, if_false, Ty.isAgg, List.headD_cons, VRep, Rep]
    exact ⟨_, rfl, by simp [mkV, Ty.isAgg]⟩

end X
end Go.Proofs.YtjnfmjeiceiciaaGreat
