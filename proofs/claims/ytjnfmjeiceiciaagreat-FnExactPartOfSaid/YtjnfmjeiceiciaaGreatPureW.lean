/-
The part of a region.
-/
import Derived.Test.YtjnfmjeiceiciaaGreatPureV
namespace Go.Proofs.YtjnfmjeiceiciaaGreat
open X Go
set_option linter.unusedVariables false
set_option linter.unusedSimpArgs false
set_option linter.unnecessarySimpa false
set_option maxRecDepth 100000

theorem boxW {a b c d e f g h i j k l m : TypeId} {s : Sta} (hw : Ty.wt (tSta a b c d e f g h i j k l m) s ≤ 1048576) (x : Bx) (hx : x ∈ s.2.1.1) : x.1.length ≤ 1048576 ∧ x.2.1.length ≤ 1048576 ∧ x.2.2.1.length ≤ 1048576 := by
  have h0 : Ty.wt (tYrd a b c d e f g h i) s.1 + ((Ty.wt (.slice j (tBox k l m)) s.2.1.1 + 0) + 0) ≤ 1048576 := hw
  have b1 : Ty.wt (tBox k l m) x ≤ Ty.wt (.slice j (tBox k l m)) s.2.1.1 := wt_mem (E := j) (e := tBox k l m) (l := s.2.1.1) (x := x) hx
  have b2 : x.1.length ≤ Ty.wt (.slice k tI) x.1 := wt_len (E := k) (e := tI) x.1
  have b3 : x.2.1.length ≤ Ty.wt (.slice l tI) x.2.1 := wt_len (E := l) (e := tI) x.2.1
  have b4 : x.2.2.1.length ≤ Ty.wt (.slice m tLab) x.2.2.1 := wt_len (E := m) (e := tLab) x.2.2.1
  have b5 : Ty.wt (tBox k l m) x = Ty.wt (.slice k tI) x.1 + (Ty.wt (.slice l tI) x.2.1 + (Ty.wt (.slice m tLab) x.2.2.1 + 0)) := rfl
  omega

theorem staP_of {a b c d e f g h i j k l m : TypeId} {s : Sta} (hw : Ty.wt (tSta a b c d e f g h i j k l m) s ≤ 1048576) (hok : Ok (tSta a b c d e f g h i j k l m) s) (hs : stateR s = true) : StaP h s where
  tasks := (staB_of hw).1.2.2.1
  tok := hok.1.2.2.1.2
  uses := (staB_of hw).1.2.2.2
  uok := hok.1.2.2.2.1.2
  pairs := (staB_of hw).1.1.2.1
  boxes := by
    unfold stateR mailR at hs
    simp only [Bool.and_eq_true] at hs
    exact len_le_of hs.2.1.2.1
  bok := fun x hx => by
    obtain ⟨w1, w2, w3⟩ := boxW hw x hx
    obtain ⟨k1, k2, k3, _⟩ := hok.2.1.1.2 x hx
    exact ⟨⟨w1, k1.2⟩, ⟨w2, k2.2⟩, ⟨w3, k3.2⟩⟩

theorem regs_eq {c : Cfg} (h : c.2.1.length ≤ 1048576) : regs c = 1 + ((labsOf c.1).length : Int) + (c.2.1.length : Int) := by
  have := labsOf_len c.1
  unfold regs lenI
  rw [addW64 (a := 1) (by omega) (by omega), addW64 (by omega) (by omega)]

def wholeT (s : Sta) (r : Int) : List UInt8 :=
  if eqI r 0 = true then sysT s.1 else if leI r (lenI (labsOf s.1.1.1)) = true then partT s (labsOf s.1.1.1)[(r - 1).toNat]! else numsT s.2.1.1[(r - 1 - ((labsOf s.1.1.1).length : Int)).toNat]!.1
def answerT (s : Sta) (r : Int) : List UInt8 := if (stateR s && (leI 0 r && ltI r (regs s.1.1))) = true then wholeT s r else []

theorem idxZ {α : Type} [Inhabited α] {l : List α} {n : Int} (h0 : 0 ≤ n) (h1 : n < (l.length : Int)) : idx l n = some l[n.toNat]! := by
  obtain ⟨k, rfl⟩ : ∃ k : Nat, n = (k : Int) := ⟨n.toNat, by omega⟩
  rw [Int.toNat_natCast]
  exact idxAt (by omega)

theorem ipartOf_F {N : Nat} (hN : 1048577 < N) {q e f : TypeId} (s : Sta) (r : Int) (hs : stateR s = true) (h : StaP q s) (hb : NodB s.1.2.1) (hok : Ok (.slice e (tNod f)) s.1.2.1) (hn : I64 s.1.2.2.2.2.1) (h0 : 0 ≤ r) (h1 : r < regs s.1.1) : ipartOf.F N (s, r, ()) = some (wholeT s r) := by
  rw [regs_eq h.pairs] at h1
  have hlab := labsOf_len s.1.1.1
  have hp := h.pairs
  have e1 : iConfig_labels.F N (s.1.1, ()) = some (labsOf s.1.1.1) := iConfig_labels_F hN (s.1.1, ()) (stateR_clear hs)
  unfold ipartOf.F ipartOf.T wholeT
  dsimp only
  refine (bindStep e1).trans ?_
  rw [rIte]
  by_cases hr : r = 0
  · rw [if_pos (eqI_true hr), if_pos (eqI_true hr)]
    refine (bindStep (inodesPart_F hN s hb hok hn)).trans ?_
    rfl
  · have w1 : subW .i64 r (1 : Int) = r - 1 := subW64 (by omega) (by omega)
    rw [if_neg (by rw [eqI_false hr]; decide), if_neg (by rw [eqI_false hr]; decide), rIte]
    by_cases hr2 : leI r (lenI (labsOf s.1.1.1)) = true
    · rw [if_pos hr2, if_pos hr2]
      rw [leI_iff] at hr2
      unfold lenI at hr2
      have i1 : idx (labsOf s.1.1.1) (subW .i64 r (1 : Int)) = some (labsOf s.1.1.1)[(r - 1).toNat]! := by rw [w1]; exact idxZ (by omega) (by omega)
      refine (bindStep i1).trans ?_
      refine (bindStep (ilabelPart_F hN s _ h)).trans ?_
      rfl
    · rw [if_neg hr2, if_neg hr2]
      rw [leI_iff] at hr2
      unfold lenI at hr2
      have hbx := h.boxes
      have w2 : subW .i64 (subW .i64 r (1 : Int)) (lenI (labsOf s.1.1.1)) = r - 1 - ((labsOf s.1.1.1).length : Int) := by
        rw [w1]; exact subW64 (by unfold lenI; omega) (by unfold lenI; omega)
      have i1 : idx s.2.1.1 (subW .i64 (subW .i64 r (1 : Int)) (lenI (labsOf s.1.1.1))) = some s.2.1.1[(r - 1 - ((labsOf s.1.1.1).length : Int)).toNat]! := by rw [w2]; exact idxZ (by omega) (by omega)
      obtain ⟨⟨k1, k2⟩, _⟩ := h.bok _ (mem_at (show (r - 1 - ((labsOf s.1.1.1).length : Int)).toNat < s.2.1.1.length by omega))
      refine (bindStep i1).trans ?_
      generalize s.2.1.1[(r - 1 - ((labsOf s.1.1.1).length : Int)).toNat]! = b at k1 k2 ⊢
      have p1 := pN_len (lenI b.1)
      have p2 := pNs_len b.1
      have e2 : iputNums.F N (b.1, ()) = some (pNs b.1) := iputNums_F hN (b.1, ()) k1 k2
      refine (bindStep (iPutNum_F hN (lenI b.1) (lenI64 (by omega)))).trans ?_
      refine stepCat e2 (by omega) ?_
      rfl

theorem iPartOf_F {N : Nat} (hN : 1048577 < N) {q e f : TypeId} (s : Sta) (r : Int) (hB : StaB s) (h : stateR s = true → StaP q s) (hok : Ok (.slice e (tNod f)) s.1.2.1) (hn : I64 s.1.2.2.2.2.1) : iPartOf.F N (s, r, ()) = some (answerT s r) := by
  have e1 := iStateRight_F hN (s, ()) hB
  dsimp only at e1
  unfold iPartOf.F iPartOf.T answerT
  dsimp only
  refine (bindStep e1).trans ?_
  rw [rIte]
  cases hs : stateR s with
  | false => rfl
  | true =>
    rw [if_neg (by decide)]
    have e2 : iregionsOf.F N (s.1.1, ()) = some (regs s.1.1) := iregionsOf_F hN (s.1.1, ()) (stateR_clear hs)
    have hlab := labsOf_len s.1.1.1
    have hp := (h hs).pairs
    have hreg := regs_eq hp
    have w1 : subW .i64 (regs s.1.1) (1 : Int) = regs s.1.1 - 1 := subW64 (by omega) (by omega)
    refine (bindStep e2).trans ?_
    refine (bindStep (iwithin_F N _)).trans ?_
    dsimp only
    rw [rIte, w1]
    have e3 : win r 0 (regs s.1.1 - 1) = (leI 0 r && ltI r (regs s.1.1)) := by
      rw [Bool.eq_iff_iff, win_iff, Bool.and_eq_true, leI_iff, ltI_iff]
      omega
    rw [e3, Bool.true_and]
    cases hw : (leI 0 r && ltI r (regs s.1.1)) with
    | false => rfl
    | true =>
      rw [Bool.and_eq_true, leI_iff, ltI_iff] at hw
      rw [if_neg (by decide), if_pos rfl]
      refine (bindStep (ipartOf_F hN s r hs (h hs) hB.1.2.1 hok hn hw.1 hw.2)).trans ?_
      rfl

theorem sPartOf_F {N : Nat} (hN : 1048577 < N) {q e f : TypeId} (s : Sta) (r : Int) (hB : StaB s) (h : stateR s = true → StaP q s) (hok : Ok (.slice e (tNod f)) s.1.2.1) (hn : I64 s.1.2.2.2.2.1) : sPartOf.F N (s, r, ()) = some (answerT s r) := by
  have e1 := sStateRight_F hN (s, ()) hB
  dsimp only at e1
  unfold sPartOf.F sPartOf.T answerT
  dsimp only
  refine (bindStep e1).trans ?_
  rw [rIte]
  cases hs : stateR s with
  | false => rfl
  | true =>
    rw [if_neg (by decide), Bool.true_and]
    have e2 : sl09Labels.F N (s.1.1.1, ()) = some (labsOf s.1.1.1) := sl09Labels_F hN (s.1.1.1, ()) hB.1.1.1
    have e3 : sl18Regions.F N (s.1.1, ()) = some (regs s.1.1) := sl18Regions_F hN (s.1.1, ()) hB.1.1.1
    have hP := h hs
    have hlab := labsOf_len s.1.1.1
    have hp := hP.pairs
    have hreg := regs_eq hp
    refine (bindStep e2).trans ?_
    rw [rIte]
    by_cases h0 : 0 ≤ r
    · rw [if_neg (by rw [ltI_iff]; omega), leI_true h0, Bool.true_and]
      refine (bindStep e3).trans ?_
      rw [rIte]
      by_cases h1 : r < regs s.1.1
      · rw [if_neg (by rw [leI_iff]; omega), if_pos (ltI_iff.2 h1), rIte]
        unfold wholeT
        by_cases hr : r = 0
        · rw [if_pos (eqI_true hr), if_pos (eqI_true hr)]
          refine (bindStep (sl18System_F hN s.1 hB.1.2.1 hok hn)).trans ?_
          rfl
        · have w1 : subW .i64 r (1 : Int) = r - 1 := subW64 (by omega) (by omega)
          rw [if_neg (by rw [eqI_false hr]; decide), if_neg (by rw [eqI_false hr]; decide), rIte]
          by_cases hr2 : leI r (lenI (labsOf s.1.1.1)) = true
          · rw [if_pos hr2, if_pos hr2]
            rw [leI_iff] at hr2
            unfold lenI at hr2
            have i1 : idx (labsOf s.1.1.1) (subW .i64 r (1 : Int)) = some (labsOf s.1.1.1)[(r - 1).toNat]! := by rw [w1]; exact idxZ (by omega) (by omega)
            refine (bindStep i1).trans ?_
            refine (bindStep i1).trans ?_
            refine (bindStep (sl18Part_F hN s _ hP)).trans ?_
            rfl
          · rw [if_neg hr2, if_neg hr2]
            rw [leI_iff] at hr2
            unfold lenI at hr2
            have hbx := hP.boxes
            have w2 : subW .i64 (subW .i64 r (1 : Int)) (lenI (labsOf s.1.1.1)) = r - 1 - ((labsOf s.1.1.1).length : Int) := by
              rw [w1]; exact subW64 (by unfold lenI; omega) (by unfold lenI; omega)
            have i1 : idx s.2.1.1 (subW .i64 (subW .i64 r (1 : Int)) (lenI (labsOf s.1.1.1))) = some s.2.1.1[(r - 1 - ((labsOf s.1.1.1).length : Int)).toNat]! := by rw [w2]; exact idxZ (by omega) (by omega)
            obtain ⟨⟨k1, k2⟩, _⟩ := hP.bok _ (mem_at (show (r - 1 - ((labsOf s.1.1.1).length : Int)).toNat < s.2.1.1.length by omega))
            refine (bindStep i1).trans ?_
            refine (bindStep (sl18Nums_F hN (_, ()) k1 k2)).trans ?_
            rfl
      · rw [if_pos (leI_iff.2 (by omega)), if_neg (by rw [ltI_iff]; exact h1)]
        rfl
    · rw [if_pos (ltI_iff.2 (by omega)), leI_false (by omega), Bool.false_and, if_neg (by decide)]
      rfl
end Go.Proofs.YtjnfmjeiceiciaaGreat
