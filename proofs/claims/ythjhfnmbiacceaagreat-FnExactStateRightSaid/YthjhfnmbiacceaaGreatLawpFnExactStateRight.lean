/-
The plain law of FnExactStateRight.
-/
import Derived.Test.YthjhfnmbiacceaaGreatPureM
import Derived.Test.YthjhfnmbiacceaaGreatPureL
namespace Go.Proofs.YthjhfnmbiacceaaGreat
open X Go
set_option linter.unusedVariables false
set_option linter.unusedSimpArgs false
set_option maxRecDepth 100000

theorem leSum {l : List Nat} {n : Nat} (h : n ∈ l) : n ≤ l.sum := by
  induction l with
  | nil => cases h
  | cons a r ih =>
    rw [List.sum_cons]
    cases h with
    | head => omega
    | tail _ h => have := ih h; omega
theorem wt_len {E : TypeId} {e : Ty} (l : List e.D) : l.length ≤ Ty.wt (.slice E e) l := Nat.le_add_right _ _
theorem wt_mem {E : TypeId} {e : Ty} {l : List e.D} {x : e.D} (h : x ∈ l) : e.wt x ≤ Ty.wt (.slice E e) l :=
  Nat.le_trans (leSum (List.mem_map_of_mem h)) (Nat.le_add_left _ _)

theorem staB_of {s : Sta} (h : Ty.wt T35 s ≤ 1048576) : StaB s := by
  have h0 : ((Ty.wt T22 s.1.1.1 + (Ty.wt T23 s.1.1.2.1 + (Ty.wt T24 s.1.1.2.2.1 + (0 + 0)))) + (Ty.wt T27 s.1.2.1 + (Ty.wt T28 s.1.2.2.1 + (Ty.wt T29 s.1.2.2.2.1 + (0 + 0))))) + ((Ty.wt T32 s.2.1.1 + 0) + 0) ≤ 1048576 := h
  have a1 : s.1.1.1.length ≤ Ty.wt T22 s.1.1.1 := wt_len (E := 185) (e := T185) s.1.1.1
  have a2 : s.1.1.2.1.length ≤ Ty.wt T23 s.1.1.2.1 := wt_len (E := 197) (e := T98) s.1.1.2.1
  have a3 : s.1.1.2.2.1.length ≤ Ty.wt T24 s.1.1.2.2.1 := wt_len (E := 200) (e := T152) s.1.1.2.2.1
  have a4 : s.1.2.1.length ≤ Ty.wt T27 s.1.2.1 := wt_len (E := 126) (e := T125) s.1.2.1
  have a5 : s.1.2.2.1.length ≤ Ty.wt T28 s.1.2.2.1 := wt_len (E := 130) (e := T88) s.1.2.2.1
  have a6 : s.1.2.2.2.1.length ≤ Ty.wt T29 s.1.2.2.2.1 := wt_len (E := 133) (e := T94) s.1.2.2.2.1
  have a7 : s.2.1.1.length ≤ Ty.wt T32 s.2.1.1 := wt_len (E := 137) (e := T136) s.2.1.1
  refine ⟨⟨⟨⟨by omega, fun x hx => ?_⟩, by omega, by omega⟩, ⟨by omega, fun x hx => ?_⟩, ⟨by omega, fun x hx => ?_⟩, by omega⟩, by omega, fun x hx => ?_⟩
  · have b1 : Ty.wt T185 x ≤ Ty.wt T22 s.1.1.1 := wt_mem (E := 185) (e := T185) (l := s.1.1.1) (x := x) hx
    have b2 : x.length ≤ Ty.wt T185 x := wt_len (E := 128) (e := T65) x
    omega
  · have b1 : Ty.wt T125 x ≤ Ty.wt T27 s.1.2.1 := wt_mem (E := 126) (e := T125) (l := s.1.2.1) (x := x) hx
    have b2 : x.2.1.length ≤ Ty.wt T124 x.2.1 := wt_len (E := 226) (e := T65) x.2.1
    have b3 : Ty.wt T125 x = 0 + (Ty.wt T124 x.2.1 + 0) := rfl
    omega
  · have b1 : Ty.wt T88 x ≤ Ty.wt T28 s.1.2.2.1 := wt_mem (E := 130) (e := T88) (l := s.1.2.2.1) (x := x) hx
    have b2 : (tNodes x).length ≤ Ty.wt T61 (tNodes x) := wt_len (E := 2) (e := .int .i64) (tNodes x)
    have b3 : Ty.wt T88 x = (0 + (0 + 0)) + (0 + (x.2.2.1.length + (0 + (0 + (0 + ((0 + (0 + 0)) + (0 + (0 + (0 + (0 + (Ty.wt T61 (tNodes x) + 0))))))))))) := rfl
    omega
  · have b1 : Ty.wt T136 x ≤ Ty.wt T32 s.2.1.1 := wt_mem (E := 137) (e := T136) (l := s.2.1.1) (x := x) hx
    have b2 : x.2.2.1.length ≤ Ty.wt T135 x.2.2.1 := wt_len (E := 228) (e := T65) x.2.2.1
    have b3 : Ty.wt T136 x = Ty.wt T61 x.1 + (Ty.wt T61 x.2.1 + (Ty.wt T135 x.2.2.1 + 0)) := rfl
    omega

theorem lFnExactStateRight_F {N : Nat} (hN : 1048577 < N) (x : lFnExactStateRight.P.D) (hx : Ok T35 x.1) : lFnExactStateRight.F N x = some true := by
  obtain ⟨s, u⟩ := x
  dsimp only at hx
  obtain ⟨r, e, h⟩ := lszState_ok N hN s 1048576 hx (by decide) (by decide)
  unfold lFnExactStateRight.F lFnExactStateRight.T
  dsimp only
  rw [rBind, e, Option.bind_some, rIte]
  by_cases hr : r < 0
  · rw [if_pos (ltI_iff.2 hr)]; rfl
  · rw [if_neg (by rw [ltI_iff]; exact hr)]
    have hw : Ty.wt T35 s ≤ 1048576 := by
      have := h.resolve_left hr
      omega
    have hto : ltoState.F N (s, u) = some s := ltoState_ok N hN (s, u) hw
    have hb := staB_of hw
    have h1 := sStateRight_F hN (s, ()) hb
    have h2 := iStateRight_F hN (s, ()) hb
    have heq : leqState.F N (s, s, ()) = some true := leqState_ok N hN (s, s, ()) hw rfl
    simp only [rBind, rIte, rRet, hto, Option.bind_some, h1, h2, heq, beq_self_eq_true, Bool.not_true, Bool.false_eq_true, if_false]

end Go.Proofs.YthjhfnmbiacceaaGreat
