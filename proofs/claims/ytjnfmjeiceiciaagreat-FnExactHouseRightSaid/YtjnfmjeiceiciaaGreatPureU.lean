/-
What a bound on the whole says of the parts.
-/
import Derived.Test.YtjnfmjeiceiciaaGreatPureM
namespace Go.Proofs.YtjnfmjeiceiciaaGreat
open X Go
set_option linter.unusedVariables false
set_option linter.unusedSimpArgs false
set_option maxRecDepth 100000

theorem leSum {l : List Nat} {n : Nat} (h : n ∈ l) : n ≤ l.sum := by
  induction l with
  | nil => cases h
  | cons a r ih =>
    rw [List.sum_cons]
    cases h with
    | head => omega
    | tail _ h => have := ih h; omega
theorem wt_len {E : TypeId} {e : Ty} (l : List e.D) : l.length ≤ Ty.wt (.slice E e) l := Nat.le_add_right _ _
theorem wt_mem {E : TypeId} {e : Ty} {l : List e.D} {x : e.D} (h : x ∈ l) : e.wt x ≤ Ty.wt (.slice E e) l :=
  Nat.le_trans (leSum (List.mem_map_of_mem h)) (Nat.le_add_left _ _)

abbrev tI : Ty := .int .i64
abbrev tLab : Ty := .pair tI (.pair tI .unit)
abbrev tPar : Ty := .pair tLab (.pair tLab (.pair tI .unit))
abbrev tQuo : Ty := .pair tLab (.pair tI .unit)
abbrev tCfg (a b c d : TypeId) : Ty := .pair (.slice a (.slice b tLab)) (.pair (.slice c tPar) (.pair (.slice d tQuo) (.pair tI .unit)))
abbrev tNod (a : TypeId) : Ty := .pair tI (.pair (.slice a tLab) .unit)
abbrev tTsk (a : TypeId) : Ty := .pair tLab (.pair tI (.pair .str (.pair tI (.pair tI (.pair tI (.pair tLab (.pair tI (.pair tI (.pair tI (.pair tI (.pair (.slice a tI) .unit)))))))))))
abbrev tUse : Ty := .pair tLab (.pair .str (.pair tI .unit))
abbrev tYrd (a b c d e f g h i : TypeId) : Ty := .pair (tCfg a b c d) (.pair (.slice e (tNod f)) (.pair (.slice g (tTsk h)) (.pair (.slice i tUse) (.pair tI .unit))))
abbrev tBox (a b c : TypeId) : Ty := .pair (.slice a tI) (.pair (.slice b tI) (.pair (.slice c tLab) .unit))
abbrev tSta (a b c d e f g h i j k l m : TypeId) : Ty := .pair (tYrd a b c d e f g h i) (.pair (.pair (.slice j (tBox k l m)) .unit) .unit)

theorem staB_of {a b c d e f g h i j k l m : TypeId} {s : Sta} (hw : Ty.wt (tSta a b c d e f g h i j k l m) s ≤ 1048576) : StaB s := by
  have h0 : ((Ty.wt (.slice a (.slice b tLab)) s.1.1.1 + (Ty.wt (.slice c tPar) s.1.1.2.1 + (Ty.wt (.slice d tQuo) s.1.1.2.2.1 + (0 + 0)))) + (Ty.wt (.slice e (tNod f)) s.1.2.1 + (Ty.wt (.slice g (tTsk h)) s.1.2.2.1 + (Ty.wt (.slice i tUse) s.1.2.2.2.1 + (0 + 0))))) + ((Ty.wt (.slice j (tBox k l m)) s.2.1.1 + 0) + 0) ≤ 1048576 := hw
  have a1 : s.1.1.1.length ≤ Ty.wt (.slice a (.slice b tLab)) s.1.1.1 := wt_len (E := a) (e := .slice b tLab) s.1.1.1
  have a2 : s.1.1.2.1.length ≤ Ty.wt (.slice c tPar) s.1.1.2.1 := wt_len (E := c) (e := tPar) s.1.1.2.1
  have a3 : s.1.1.2.2.1.length ≤ Ty.wt (.slice d tQuo) s.1.1.2.2.1 := wt_len (E := d) (e := tQuo) s.1.1.2.2.1
  have a4 : s.1.2.1.length ≤ Ty.wt (.slice e (tNod f)) s.1.2.1 := wt_len (E := e) (e := tNod f) s.1.2.1
  have a5 : s.1.2.2.1.length ≤ Ty.wt (.slice g (tTsk h)) s.1.2.2.1 := wt_len (E := g) (e := tTsk h) s.1.2.2.1
  have a6 : s.1.2.2.2.1.length ≤ Ty.wt (.slice i tUse) s.1.2.2.2.1 := wt_len (E := i) (e := tUse) s.1.2.2.2.1
  have a7 : s.2.1.1.length ≤ Ty.wt (.slice j (tBox k l m)) s.2.1.1 := wt_len (E := j) (e := tBox k l m) s.2.1.1
  refine ⟨⟨⟨⟨by omega, fun x hx => ?_⟩, by omega, by omega⟩, ⟨by omega, fun x hx => ?_⟩, ⟨by omega, fun x hx => ?_⟩, by omega⟩, by omega, fun x hx => ?_⟩
  · have b1 : Ty.wt (.slice b tLab) x ≤ Ty.wt (.slice a (.slice b tLab)) s.1.1.1 := wt_mem (E := a) (e := .slice b tLab) (l := s.1.1.1) (x := x) hx
    have b2 : x.length ≤ Ty.wt (.slice b tLab) x := wt_len (E := b) (e := tLab) x
    omega
  · have b1 : Ty.wt (tNod f) x ≤ Ty.wt (.slice e (tNod f)) s.1.2.1 := wt_mem (E := e) (e := tNod f) (l := s.1.2.1) (x := x) hx
    have b2 : x.2.1.length ≤ Ty.wt (.slice f tLab) x.2.1 := wt_len (E := f) (e := tLab) x.2.1
    have b3 : Ty.wt (tNod f) x = 0 + (Ty.wt (.slice f tLab) x.2.1 + 0) := rfl
    omega
  · have b1 : Ty.wt (tTsk h) x ≤ Ty.wt (.slice g (tTsk h)) s.1.2.2.1 := wt_mem (E := g) (e := tTsk h) (l := s.1.2.2.1) (x := x) hx
    have b2 : (tNodes x).length ≤ Ty.wt (.slice h tI) (tNodes x) := wt_len (E := h) (e := tI) (tNodes x)
    have b3 : Ty.wt (tTsk h) x = (0 + (0 + 0)) + (0 + (x.2.2.1.length + (0 + (0 + (0 + ((0 + (0 + 0)) + (0 + (0 + (0 + (0 + (Ty.wt (.slice h tI) (tNodes x) + 0))))))))))) := rfl
    omega
  · have b1 : Ty.wt (tBox k l m) x ≤ Ty.wt (.slice j (tBox k l m)) s.2.1.1 := wt_mem (E := j) (e := tBox k l m) (l := s.2.1.1) (x := x) hx
    have b2 : x.2.2.1.length ≤ Ty.wt (.slice m tLab) x.2.2.1 := wt_len (E := m) (e := tLab) x.2.2.1
    have b3 : Ty.wt (tBox k l m) x = Ty.wt (.slice k tI) x.1 + (Ty.wt (.slice l tI) x.2.1 + (Ty.wt (.slice m tLab) x.2.2.1 + 0)) := rfl
    omega
end Go.Proofs.YtjnfmjeiceiciaaGreat
