/-
A yard: nodes cleared for a label, quotas, tasks at their places.
-/
import Derived.Test.YtjnfmjeiceiciaaGreatPureI
namespace Go.Proofs.YtjnfmjeiceiciaaGreat
open X Go
set_option linter.unusedVariables false
set_option linter.unusedSimpArgs false
set_option linter.unnecessarySimpa false
set_option maxRecDepth 100000

/-- A loop that carries something along or gives up. -/
theorem iter_foldM {M O R : Type} {B : M → Tr (Leaf M O R)} {α σ : Type} [Inhabited α] (l : List α) (step : σ → α → Option σ) (I : σ → Prop) (mk : Nat → σ → M) (o : σ → O) (r0 : R)
    (hstep : ∀ i s, i < l.length → I s → (B (mk i s)).run = some (match step s l[i]! with | some s' => .more (mk (i + 1) s') | none => .ret r0) ∧ ∀ s', step s l[i]! = some s' → I s')
    (hlast : ∀ s, I s → (B (mk l.length s)).run = some (.out (o s))) {k : Nat} (hk : l.length < k) {s0 : σ} (h0 : I s0) :
    iterT B k (mk 0 s0) = some (match l.foldlM step s0 with | some s => .inl (o s) | none => .inr r0) := by
  have gen : ∀ k i s, i ≤ l.length → l.length < i + k → I s → iterT B k (mk i s) = some (match (l.drop i).foldlM step s with | some s => .inl (o s) | none => .inr r0) := by
    intro k
    induction k with
    | zero => intro i s h1 h2; omega
    | succ k ih =>
      intro i s h1 h2 hI
      rw [iterT_succ]
      by_cases hn : i = l.length
      · subst hn
        rw [hlast s hI, List.drop_length]
        rfl
      · obtain ⟨e, hI'⟩ := hstep i s (by omega) hI
        rw [e, List.drop_eq_getElem_cons (show i < l.length by omega), List.foldlM_cons, ← getElem!_pos l i (by omega)]
        cases hs : step s l[i]! with
        | none => rfl
        | some s' => exact ih (i + 1) s' (by omega) (by omega) (hI' s' hs)
  have := gen k 0 s0 (Nat.zero_le _) (by omega) h0
  rwa [List.drop_zero] at this

/-! ### Nodes cleared for a label -/

def clearFor (nodes : List (List Lab)) (a : Lab) : List Int := ((List.range nodes.length).filter fun i => inLabs nodes[i]! a).map fun (i : Nat) => (i : Int)

theorem clearFor_le (nodes : List (List Lab)) (a : Lab) : (clearFor nodes a).length ≤ nodes.length := by
  unfold clearFor
  rw [List.length_map]
  have := List.length_filter_le (fun i => inLabs nodes[i]! a) (List.range nodes.length)
  rwa [List.length_range] at this

theorem filter_range_succ (p : Nat → Bool) (i : Nat) : (List.range (i + 1)).filter p = (List.range i).filter p ++ if p i = true then [i] else [] := by
  rw [List.range_succ, List.filter_append]
  cases h : p i <;> simp [h]

theorem iConfig_clearFor_F {N : Nat} (hN : 1048577 < N) (x : iConfig_clearFor.P.D) (hx : Bnd x.1.1) : iConfig_clearFor.F N x = some (clearFor x.1.1 x.2.1) := by
  obtain ⟨⟨l, c⟩, a, u⟩ := x
  dsimp only at hx
  obtain ⟨p, hp, q⟩ := iter_ix (B := iConfig_clearFor.B0_0 N (l, (lenI l), a)) l.length (fun i (s : List Int) => ((i : Int), s, ()))
    (fun i s => s = ((List.range i).filter fun i => inLabs l[i]! a).map fun (i : Nat) => (i : Int)) (fun p => p = .inl (clearFor l a, ()))
    (fun i s hi hI => by
      left
      have hlen : s.length ≤ 1048575 := by
        rw [hI, List.length_map]
        have := List.length_filter_le (fun i => inLabs l[i]! a) (List.range i)
        rw [List.length_range] at this
        have := hx.1
        omega
      have hr : (decide (List.length s + List.length ([(i : Int)] : List Int) ≤ maxRow) && true) = true := by
        rw [Bool.and_true]; exact maxRow_le (by simp; omega)
      have hc := slContains_SLabel_F hN (l[i]!, a, ()) (hx.2 _ (mem_at hi))
      refine ⟨((List.range (i + 1)).filter fun i => inLabs l[i]! a).map fun (i : Nat) => (i : Int), ?_, rfl⟩
      simp only [iConfig_clearFor.B0_0, rIte, rBind, rRet, ltLen hi, if_true, idxAt hi, Option.bind_some, hc, wInc (show i < 9223372036854775807 by have := hx.1; omega)]
      rw [if_pos hr, filter_range_succ, List.map_append, ← hI]
      unfold inLabs
      cases l[i]!.any fun y => labEq a y <;> simp)
    (fun s hI => by
      left
      refine ⟨(s, ()), ?_, by rw [hI]; rfl⟩
      simp only [iConfig_clearFor.B0_0, rIte, rRet, ltEnd, Bool.false_eq_true, if_false]) N 0 [] (Nat.zero_le _) (by have := hx.1; omega) rfl
  have e : iConfig_clearFor.L0_0 N (l, (lenI l), a) ((0 : Int), ([] : List Int), ()) = some p := hp
  unfold iConfig_clearFor.F iConfig_clearFor.T
  dsimp only
  rw [rBind, e, q, Option.bind_some, rInl, rRet]

theorem sl13Clear_F {N : Nat} (hN : 1048577 < N) (x : sl13Clear.P.D) (hx : Bnd x.1.1) : sl13Clear.F N x = some ((clearFor x.1.1 x.2.1).length : Int) := by
  obtain ⟨⟨l, c1, c2, c3, c4⟩, a, u⟩ := x
  dsimp only at hx
  obtain ⟨p, hp, q⟩ := iter_ix (B := sl13Clear.B0_0 N (l, c1, c2, c3, a)) l.length (fun i (s : Int) => (s, (i : Int), ()))
    (fun i s => s = ((((List.range i).filter fun i => inLabs l[i]! a).length : Nat) : Int)) (fun p => p = .inl (((clearFor l a).length : Int), ()))
    (fun i s hi hI => by
      left
      have hlen : ((List.range i).filter fun i => inLabs l[i]! a).length ≤ i := by
        have := List.length_filter_le (fun i => inLabs l[i]! a) (List.range i)
        rwa [List.length_range] at this
      have hx1 := hx.1
      have hc := sl05Cleared_F hN (l[i]!, a, ()) (hx.2 _ (mem_at hi))
      have hw : addW .i64 s (1 : Int) = s + 1 := addW64 (by omega) (by omega)
      refine ⟨((((List.range (i + 1)).filter fun i => inLabs l[i]! a).length : Nat) : Int), ?_, rfl⟩
      simp only [sl13Clear.B0_0, rIte, rBind, rRet, ltLen hi, if_true, idxAt hi, Option.bind_some, hc, hw, wInc (show i < 9223372036854775807 by omega)]
      rw [filter_range_succ, List.length_append, hI]
      unfold inLabs
      cases l[i]!.any fun y => labEq a y <;> simp)
    (fun s hI => by
      left
      refine ⟨(s, ()), ?_, by rw [hI]; unfold clearFor; rw [List.length_map]⟩
      simp only [sl13Clear.B0_0, rIte, rRet, ltEnd, Bool.false_eq_true, if_false]) N 0 0 (Nat.zero_le _) (by have := hx.1; omega) rfl
  have e : sl13Clear.L0_0 N (l, c1, c2, c3, a) ((0 : Int), (0 : Int), ()) = some p := hp
  unfold sl13Clear.F sl13Clear.T
  dsimp only
  rw [rBind, e, q, Option.bind_some, rInl, rRet]

theorem slContains_Sint64_F {N : Nat} (hN : 1048577 < N) (x : slContains_Sint64.P.D) (hx : x.1.length ≤ 1048576) : slContains_Sint64.F N x = some (x.1.any fun y => eqI x.2.1 y) :=
  contains_run (p := fun y => eqI x.2.1 y) (l := x.1) (indexPlain x.1 hN hx (fun y => eqI x.2.1 y))

theorem clearFor_has {nodes : List (List Lab)} {a : Lab} {n : Int} (h0 : 0 ≤ n) : ((clearFor nodes a).any fun y => eqI n y) = (decide (n < nodes.length) && inLabs nodes[n.toNat]! a) := by
  rw [Bool.eq_iff_iff, List.any_eq_true, Bool.and_eq_true, decide_eq_true_eq]
  unfold clearFor
  constructor
  · rintro ⟨y, hy, e⟩
    rw [eqI_iff] at e
    subst e
    rw [List.mem_map] at hy
    obtain ⟨i, hi, rfl⟩ := hy
    rw [List.mem_filter, List.mem_range] at hi
    rw [Int.toNat_natCast]
    exact ⟨by omega, hi.2⟩
  · rintro ⟨h1, h2⟩
    refine ⟨n, List.mem_map.2 ⟨n.toNat, ?_, by omega⟩, eqI_refl n⟩
    rw [List.mem_filter, List.mem_range]
    exact ⟨by omega, h2⟩

/-! ### A task at its place -/

abbrev Yrd := Cfg × List Nod × List Tsk × List Us × Int × Unit
def endW (t : Tsk) : Int := addW .i64 (addW .i64 (tStart t) (1 : Int)) t.2.2.2.2.1
theorem iTask_end_F (N : Nat) (x : iTask_end.P.D) : iTask_end.F N x = some (endW x.1) := rfl
theorem sl13End_F (N : Nat) (x : sl13End.P.D) : sl13End.F N x = some (endW x.1) := rfl

def fitsR (y : Yrd) (t : Tsk) : Bool :=
  !ltI ((clearFor y.1.1 t.1).length : Int) t.2.2.2.1 && (!ltI y.2.2.2.2.1 (tBorn t) && (((tNodes t).all fun n => (clearFor y.1.1 t.1).any fun z => eqI n z) &&
    if eqI (tState t) 2 = true then leI (tStart t) y.2.2.2.2.1 && ltI y.2.2.2.2.1 (endW t) else if hasPl t = true then win (tStart t) (addW .i64 y.2.2.2.2.1 (1 : Int)) (addW .i64 y.2.2.2.2.1 (40 : Int)) else true))

theorem iYard_taskFits_1_p_F {N : Nat} (hN : 1048577 < N) (x : iYard_taskFits_1_p.P.D) (hx : x.2.1.length ≤ 1048576) : iYard_taskFits_1_p.F N x = some (!(x.2.1.any fun z => eqI x.1 z)) := by
  have := slContains_Sint64_F hN (x.2.1, x.1, ()) hx
  simp only [iYard_taskFits_1_p.F, iYard_taskFits_1_p.T, rBind, rRet, this, Option.bind_some]
theorem slContainsFunc_iYard_taskFits_1_F {N : Nat} (hN : 1048577 < N) (x : slContainsFunc_iYard_taskFits_1.P.D) (hx : x.1.length ≤ 1048576) (hx2 : x.2.1.length ≤ 1048576) : slContainsFunc_iYard_taskFits_1.F N x = some (x.1.any fun n => !(x.2.1.any fun z => eqI n z)) :=
  contains_run (l := x.1) (p := fun n => !(x.2.1.any fun z => eqI n z)) (indexFunc x.1 hN hx (fun a => iYard_taskFits_1_p.F N (a, x.2.1, ())) _ (fun y _ => iYard_taskFits_1_p_F hN (y, x.2.1, ()) hx2))

theorem iYard_taskFits_F {N : Nat} (hN : 1048577 < N) (x : iYard_taskFits.P.D) (hx : Bnd x.1.1.1) (ht : (tNodes x.2.1).length ≤ 1048576) : iYard_taskFits.F N x = some (fitsR x.1 x.2.1) := by
  obtain ⟨y, t, u⟩ := x
  dsimp only at hx ht
  have hc := iConfig_clearFor_F hN (y.1, t.1, ()) hx
  have hl := clearFor_le y.1.1 t.1
  have hs := slContainsFunc_iYard_taskFits_1_F hN (tNodes t, clearFor y.1.1 t.1, ()) ht (by have := hx.1; show (clearFor y.1.1 t.1).length ≤ _; omega)
  simp only [iYard_taskFits.F, iYard_taskFits.T, rBind, rIte, rRet, hc, hs, Option.bind_some, iTask_end_F, iTask_hasPlace_F, iwithin_F, any_not, someIte, iteN, iteB, iteNB, Bool.not_not]
  rfl

theorem taskR_nodes {t : Tsk} (h : taskR t = true) : ∀ n ∈ tNodes t, 0 ≤ n ∧ n ≤ 5 := by
  simp only [taskR, Bool.and_eq_true] at h
  have hp := h.2.2.2.2.2.2.2
  unfold placeR at hp
  split at hp
  · simp only [Bool.and_eq_true] at hp
    have hn := hp.2.2
    unfold nosR at hn
    rw [allN_true] at hn
    intro n hn'
    obtain ⟨i, hi, rfl⟩ := List.getElem_of_mem hn'
    have := hn i hi
    unfold noAt at this
    rw [Bool.and_eq_true, win_iff, getElem!_pos (tNodes t) i hi] at this
    exact this.1
  · rw [Bool.and_eq_true] at hp
    have hp2 := hp.2
    rw [hasPl_not, eqI_iff] at hp2
    have : (tNodes t).length = 0 := by
      unfold lenI at hp2
      omega
    intro n hn
    rw [List.eq_nil_of_length_eq_zero this] at hn
    cases hn

theorem sl13Task_F {N : Nat} (hN : 1048577 < N) (x : sl13Task.P.D) (hx : Bnd x.1.1.1) (ht : taskR x.2.1 = true) (hl : (tNodes x.2.1).length ≤ 1048576) (hlen : x.1.2.1.length = x.1.1.1.length) (hnow : win x.1.2.2.2.2.1 0 999900 = true) : sl13Task.F N x = some (fitsR x.1 x.2.1) := by
  obtain ⟨y, t, u⟩ := x
  dsimp only at hx ht hl hlen hnow
  have hc := sl13Clear_F hN (y.1, t.1, ()) hx
  have hns := taskR_nodes ht
  have key : sl13Task.L0_0 N (y.1.1, y.1.2.1, y.1.2.2.1, y.1.2.2.2.1, y.2.1, y.2.2.1, y.2.2.2.1, y.2.2.2.2.1, t.1.1, t.1.2.1, t.2.1, t.2.2.1, t.2.2.2.1, t.2.2.2.2.1, t.2.2.2.2.2.1, t.2.2.2.2.2.2.1.1, t.2.2.2.2.2.2.1.2.1, t.2.2.2.2.2.2.2) ((0 : Int), ()) =
      some (if (allN (tNodes t).length fun i => (clearFor y.1.1 t.1).any fun z => eqI (tNodes t)[i]! z) = true then .inl () else .inr (false, ())) := by
    refine iter_all (mk := fun i => ((i : Int), ())) (fun i _ hi _ => ?_) (fun _ => ?_) (by omega) (Nat.zero_le _)
    · obtain ⟨n0, n5⟩ := hns _ (mem_at hi)
      have hlt : ltI (i : Int) (lenI t.2.2.2.2.2.2.2.2.2.2.2.1) = true := ltLen hi
      have hid : idx t.2.2.2.2.2.2.2.2.2.2.2.1 (i : Int) = some (tNodes t)[i]! := idxAt hi
      simp only [sl13Task.B0_0, rIte, rBind, rRet, hlt, if_true, hid, Option.bind_some, wInc (show i < 9223372036854775807 by omega)]
      rw [clearFor_has n0]
      by_cases hn : (tNodes t)[i]! < (y.1.1.length : Int)
      · have h1 : leI (lenI y.2.1) (tNodes t)[i]! = false := leI_false (by unfold lenI; omega)
        have h2 : idx y.1.1 (tNodes t)[i]! = some y.1.1[(tNodes t)[i]!.toNat]! := by
          rw [← idxAt (l := y.1.1) (n := (tNodes t)[i]!.toNat) (by omega), Int.toNat_of_nonneg n0]
        have h3 := sl05Cleared_F hN (y.1.1[(tNodes t)[i]!.toNat]!, t.1, ()) (hx.2 _ (mem_at (by omega)))
        have h3' : sl05Cleared.F N (y.1.1[(tNodes t)[i]!.toNat]!, (t.1.1, t.1.2.1, ()), ()) = _ := h3
        rw [h1, if_neg (by decide), h2, Option.bind_some, h3', Option.bind_some, decide_eq_true hn, Bool.true_and]
        exact nbIte1 _ _ _
      · have h1 : leI (lenI y.2.1) (tNodes t)[i]! = true := leI_true (by unfold lenI; omega)
        rw [h1, if_pos rfl, decide_eq_false hn]
        rfl
    · have hlt : ltI ((tNodes t).length : Int) (lenI t.2.2.2.2.2.2.2.2.2.2.2.1) = false := ltEnd
      simp only [sl13Task.B0_0, rIte, rRet, hlt, Bool.false_eq_true, if_false]
  rw [win_iff] at hnow
  have w1 : addW .i64 y.2.2.2.2.1 (1 : Int) = y.2.2.2.2.1 + 1 := addW64 (by omega) (by omega)
  have w40 : addW .i64 y.2.2.2.2.1 (40 : Int) = y.2.2.2.2.1 + 40 := addW64 (by omega) (by omega)
  have hw : win (tStart t) (addW .i64 y.2.2.2.2.1 (1 : Int)) (addW .i64 y.2.2.2.2.1 (40 : Int)) = (ltI y.2.2.2.2.1 (tStart t) && leI (tStart t) (addW .i64 y.2.2.2.2.1 (40 : Int))) := by
    rw [Bool.eq_iff_iff, win_iff, Bool.and_eq_true, ltI_iff, leI_iff, w1, w40]
    omega
  have hpl : eqI (lenI t.2.2.2.2.2.2.2.2.2.2.2.1) 0 = !hasPl t := (hasPl_not t).symm
  unfold sl13Task.F sl13Task.T fitsR
  dsimp only
  rw [rBind, hc, Option.bind_some, rIte, rIte, rBind, key, Option.bind_some, rSumIte, all_get (tNodes t) (fun n => (clearFor y.1.1 t.1).any fun z => eqI n z), hw]
  simp only [rIte, rBind, rRet, sl13End_F, Option.bind_some, someIte, iteB, hpl]
  generalize (ltI ((clearFor y.1.1 t.1).length : Int) t.2.2.2.1) = b1
  generalize (ltI y.2.2.2.2.1 (tBorn t)) = b2
  generalize ((tNodes t).all fun n => (clearFor y.1.1 t.1).any fun z => eqI n z) = b3
  cases b1 <;> cases b2 <;> cases b3 <;> cases eqI (tState t) 2 <;> cases hasPl t <;> simp

/-! ### Live tasks; quotas -/

def liveR (s : Int) : Bool := win s 1 3
def liveN (a : Lab) (l : List Tsk) : Nat := l.countP fun t => labEq t.1 a && liveR (tState t)
theorem liveN_take (a : Lab) (l : List Tsk) {i : Nat} (h : i < l.length) : liveN a (l.take (i + 1)) = liveN a (l.take i) + if (labEq l[i]!.1 a && liveR (tState l[i]!)) = true then 1 else 0 := by
  unfold liveN
  rw [List.take_add_one, getElem!_pos l i h, List.getElem?_eq_getElem h, List.countP_append]
  simp [List.countP_cons]
theorem liveN_le (a : Lab) (l : List Tsk) : liveN a l ≤ l.length := List.countP_le_length

theorem iTask_isLive_F (N : Nat) (x : iTask_isLive.P.D) : iTask_isLive.F N x = some (liveR (tState x.1)) := by
  simp only [iTask_isLive.F, iTask_isLive.T, rBind, rRet, iwithin_F, Option.bind_some]
  rfl
theorem sl12Live_F (N : Nat) (x : sl12Live.P.D) : sl12Live.F N x = some (liveR x.1) := by
  simp only [sl12Live.F, sl12Live.T, rIte, rRet, someIte, iteO]
  congr 1
  rw [Bool.eq_iff_iff]
  simp only [Bool.or_eq_true, eqI_iff, liveR, win_iff]
  obtain ⟨n, u⟩ := x
  have : ∀ n : Int, (n = 1 ∨ n = 2 ∨ n = 3) ↔ (1 ≤ n ∧ n ≤ 3) := fun n => by omega
  exact this n

theorem iliveOf_F {N : Nat} (hN : 1048577 < N) (x : iliveOf.P.D) (hx : x.1.length ≤ 1048576) : iliveOf.F N x = some (liveN x.2.1 x.1 : Int) := by
  obtain ⟨l, a, u⟩ := x
  dsimp only at hx
  obtain ⟨p, hp, q⟩ := iter_ix (B := iliveOf.B0_0 N (l, (lenI l), a)) l.length (fun i (s : Int) => (s, (i : Int), ()))
    (fun i s => s = (liveN a (l.take i) : Int)) (fun p => p = .inl ((liveN a l : Int), ()))
    (fun i s hi hI => by
      left
      have hle := liveN_le a (l.take i)
      rw [List.length_take] at hle
      refine ⟨(liveN a (l.take (i + 1)) : Int), ?_, rfl⟩
      have hw : addW .i64 s (1 : Int) = s + 1 := addW64 (by omega) (by omega)
      simp only [iliveOf.B0_0, rIte, rBind, rRet, ltLen hi, if_true, idxAt hi, Option.bind_some, eqbLab, iTask_isLive_F, hw, wInc (show i < 9223372036854775807 by omega)]
      rw [liveN_take a l hi, hI]
      cases labEq l[i]!.1 a <;> cases liveR (tState l[i]!) <;> simp)
    (fun s hI => by
      left
      refine ⟨(s, ()), ?_, by rw [hI, List.take_length]⟩
      simp only [iliveOf.B0_0, rIte, rRet, ltEnd, Bool.false_eq_true, if_false]) N 0 0 (Nat.zero_le _) (by omega) (by simp [liveN])
  have e : iliveOf.L0_0 N (l, (lenI l), a) ((0 : Int), (0 : Int), ()) = some p := hp
  unfold iliveOf.F iliveOf.T
  dsimp only
  rw [rBind, e, q, Option.bind_some, rInl, rRet]

theorem sLiveOf_F {N : Nat} (hN : 1048577 < N) (x : sLiveOf.P.D) (hx : TskB x.1) : sLiveOf.F N x = some (if tasksR x.1 = true then (liveN x.2.1 x.1 : Int) else 0) := by
  obtain ⟨l, a, u⟩ := x
  dsimp only at hx
  have hl := hx.1
  obtain ⟨p, hp, q⟩ := iter_ix (B := sLiveOf.B0_0 N (l, a)) l.length (fun i (s : Int) => (s, (i : Int), ()))
    (fun i s => s = (liveN a (l.take i) : Int)) (fun p => p = .inl ((liveN a l : Int), ()))
    (fun i s hi hI => by
      left
      have hle := liveN_le a (l.take i)
      rw [List.length_take] at hle
      refine ⟨(liveN a (l.take (i + 1)) : Int), ?_, rfl⟩
      have hw : addW .i64 s (1 : Int) = s + 1 := addW64 (by omega) (by omega)
      have hv := sl12Live_F N (tState l[i]!, ())
      simp only [sLiveOf.B0_0, rIte, rBind, rRet, ltLen hi, if_true, idxAt hi, Option.bind_some, eqbLab, hv, hw, wInc (show i < 9223372036854775807 by omega)]
      rw [liveN_take a l hi, hI]
      cases labEq l[i]!.1 a <;> cases liveR (tState l[i]!) <;> simp)
    (fun s hI => by
      left
      refine ⟨(s, ()), ?_, by rw [hI, List.take_length]⟩
      simp only [sLiveOf.B0_0, rIte, rRet, ltEnd, Bool.false_eq_true, if_false]) N 0 0 (Nat.zero_le _) (by omega) (by simp [liveN])
  have e : sLiveOf.L0_0 N (l, a) ((0 : Int), (0 : Int), ()) = some p := hp
  have et := sTasksRight_F hN (l, ()) hx
  unfold sLiveOf.F sLiveOf.T
  dsimp only
  rw [rBind, et, Option.bind_some, rIte, rBind, e, q, Option.bind_some, rInl, rRet, rRet]
  cases tasksR l <;> rfl

/-- The first quota of a label, else 6. -/
def findQ (l : List Quo) (a : Lab) : Int := match (List.range l.length).find? fun i => labEq l[i]!.1 a with
  | some i => l[i]!.2.1
  | none => 6
def quotaOf (c : Cfg) (a : Lab) : Int := if (configR c && inLabs (labsOf c.1) a) = true then findQ c.2.2.1 a else 0

theorem inLabs_labsOf {nodes : List (List Lab)} (h : clearR nodes = true) (a : Lab) : inLabs (labsOf nodes) a = hasLab nodes a := by
  rw [Bool.eq_iff_iff, inLabs_iff, labsOf, List.mem_filter]
  constructor
  · exact fun h => h.2
  · intro ha
    refine ⟨?_, ha⟩
    obtain ⟨n, hn, hm⟩ := hasLab_iff.1 ha
    exact labR_no ((clearR_right h).2.2 n hn |>.2.2 a hm)

theorem clearFor_nil {nodes : List (List Lab)} {a : Lab} : eqI (lenI (clearFor nodes a)) 0 = !hasLab nodes a := by
  rw [Bool.eq_iff_iff, eqI_iff, Bool.not_eq_true', Bool.eq_false_iff, Ne, hasLab_iff]
  unfold lenI clearFor
  rw [List.length_map]
  constructor
  · rintro h ⟨n, hn, hm⟩
    obtain ⟨i, hi, rfl⟩ := List.getElem_of_mem hn
    have hz : ((List.range nodes.length).filter fun i => inLabs nodes[i]! a) = [] := List.eq_nil_of_length_eq_zero (by omega)
    rw [List.filter_eq_nil_iff] at hz
    refine hz i (by rw [List.mem_range]; exact hi) ?_
    rw [getElem!_pos nodes i hi, inLabs_iff]
    exact hm
  · intro h
    rw [List.filter_eq_nil_iff.2]
    · rfl
    · intro i hi hc
      rw [List.mem_range] at hi
      rw [inLabs_iff] at hc
      exact h ⟨_, mem_at hi, hc⟩

theorem configR_clear {c : Cfg} (h : configR c = true) : clearR c.1 = true := by
  unfold configR at h
  rw [Bool.and_eq_true] at h
  exact h.1

theorem iQuotaOf_F {N : Nat} (hN : 1048577 < N) (x : iQuotaOf.P.D) (hx : CfgB x.1) : iQuotaOf.F N x = some (quotaOf x.1 x.2.1) := by
  obtain ⟨c, a, u⟩ := x
  dsimp only at hx
  have hq := hx.2.2
  have hc := iConfigRight_F hN (c, ()) hx
  have hf := iConfig_clearFor_F hN (c, a, ()) hx.1
  have key := iter_find (B := iQuotaOf.B0_0 N (c.2.2.1, (lenI c.2.2.1), a)) (n := c.2.2.1.length) (mk := fun i => ((i : Int), ())) (p := fun i => labEq c.2.2.1[i]!.1 a) (r := fun i => c.2.2.1[i]!.2) (o0 := ())
    (fun i hi => by
      simp only [iQuotaOf.B0_0, rIte, rBind, rRet, ltLen hi, if_true, idxAt hi, Option.bind_some, wInc (show i < 9223372036854775807 by omega), eqbLab, someIte])
    (by simp only [iQuotaOf.B0_0, rIte, rRet, ltEnd, Bool.false_eq_true, if_false]) (k := N) (by omega)
  have e : iQuotaOf.L0_0 N (c.2.2.1, (lenI c.2.2.1), a) ((0 : Int), ()) = _ := key
  unfold iQuotaOf.F iQuotaOf.T quotaOf
  dsimp only
  have hf' : iConfig_clearFor.F N (c, a, u) = some (clearFor c.1 a) := hf
  rw [rBind, hc, Option.bind_some, rIte, rBind, hf', Option.bind_some, rIte, clearFor_nil, rBind, e, Option.bind_some]
  cases hr : configR c with
  | false => rfl
  | true =>
    rw [inLabs_labsOf (configR_clear hr)]
    cases hasLab c.1 a with
    | false => rfl
    | true =>
      simp only [Bool.not_true, Bool.false_eq_true, if_false, Bool.and_self, if_true]
      unfold findQ
      cases (List.range c.2.2.1.length).find? fun i => labEq c.2.2.1[i]!.1 a with
      | none => rfl
      | some i => rfl

theorem sLabelsOf_F {N : Nat} (hN : 1048577 < N) (x : sLabelsOf.P.D) (hx : CfgB x.1) : sLabelsOf.F N x = some (if configR x.1 = true then labsOf x.1.1 else []) := by
  obtain ⟨c, u⟩ := x
  dsimp only at hx
  have hc := sConfigRight_F hN (c, u) hx
  have hl := sl09Labels_F hN (c.1, ()) hx.1
  unfold sLabelsOf.F sLabelsOf.T
  rw [rBind, hc, Option.bind_some, rIte, rBind, hl, Option.bind_some, rRet, rRet]
  cases configR c <;> rfl

theorem sQuotaOf_F {N : Nat} (hN : 1048577 < N) (x : sQuotaOf.P.D) (hx : CfgB x.1) : sQuotaOf.F N x = some (quotaOf x.1 x.2.1) := by
  obtain ⟨c, a, u⟩ := x
  dsimp only at hx
  have hq := hx.2.2
  have hl := sLabelsOf_F hN (c, ()) hx
  have key := iter_find (B := sQuotaOf.B0_0 N (c.1, c.2.1, c.2.2.1, c.2.2.2.1, a)) (n := c.2.2.1.length) (mk := fun i => ((i : Int), ())) (p := fun i => labEq c.2.2.1[i]!.1 a) (r := fun i => c.2.2.1[i]!.2) (o0 := ())
    (fun i hi => by
      simp only [sQuotaOf.B0_0, rIte, rBind, rRet, ltLen hi, if_true, idxAt hi, Option.bind_some, wInc (show i < 9223372036854775807 by omega), eqbLab, someIte])
    (by simp only [sQuotaOf.B0_0, rIte, rRet, ltEnd, Bool.false_eq_true, if_false]) (k := N) (by omega)
  have e : sQuotaOf.L0_0 N (c.1, c.2.1, c.2.2.1, c.2.2.2.1, a) ((0 : Int), ()) = _ := key
  unfold sQuotaOf.F sQuotaOf.T quotaOf
  dsimp only
  have hcl : ∀ labs : List Lab, labs.length ≤ 1048576 → sl05Cleared.F N (labs, a, u) = some (inLabs labs a) := fun labs h => sl05Cleared_F hN (labs, a, ()) h
  rw [rBind, hl, Option.bind_some, rBind, hcl _ (by have := labsOf_len c.1; split <;> simp; omega), Option.bind_some, rIte, rBind, e, Option.bind_some]
  cases hr : configR c with
  | false => rfl
  | true =>
    simp only [if_true, Bool.true_and]
    cases inLabs (labsOf c.1) a with
    | false => rfl
    | true =>
      simp only [Bool.not_true, Bool.false_eq_true, if_false, if_true]
      unfold findQ
      cases (List.range c.2.2.1.length).find? fun i => labEq c.2.2.1[i]!.1 a with
      | none => rfl
      | some i => rfl

end Go.Proofs.YtjnfmjeiceiciaaGreat
