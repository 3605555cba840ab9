/-
Sizes, copies, equality of the law; printed by program.
-/
import Derived.Test.YtjnfmjeiceiciaaGreatPureS
import Derived.Test.YtjnfmjeiceiciaaGreatFun0
namespace Go.Proofs.YtjnfmjeiceiciaaGreat
open X
set_option linter.unusedVariables false
set_option linter.unusedSimpArgs false
set_option maxRecDepth 100000
open Go
theorem lszLabelS_ok (N : Nat) (hN : 1048577 < N) : SzOK T239 (lszLabelS.F N) := SzOK.flat (fun _ => rfl)
theorem lszLabelSS_ok (N : Nat) (hN : 1048577 < N) : SzOK T22 (lszLabelSS.F N) := SzOK.list hN (lszLabelS_ok N hN)
theorem lszPairS_ok (N : Nat) (hN : 1048577 < N) : SzOK T23 (lszPairS.F N) := SzOK.flat (fun _ => rfl)
theorem lszQuotaS_ok (N : Nat) (hN : 1048577 < N) : SzOK T24 (lszQuotaS.F N) := SzOK.flat (fun _ => rfl)
theorem lszConfig_ok (N : Nat) (hN : 1048577 < N) : SzOK T25 (lszConfig.F N) := by
  intro x left hok h0 h1
  obtain ⟨k0, k1, k2, k3, _⟩ := hok
  unfold lszConfig.F lszConfig.T
  dsimp only
  obtain ⟨r0, e1, q1⟩ := lszLabelSS_ok N hN x.1 left k0 (by omega) (by omega)
  rw [rBind, e1, Option.bind_some, rIte]
  split
  · exact ⟨_, rfl, .inl (by decide)⟩
  rename_i c1
  rw [ltI_iff] at c1
  replace q1 := q1.resolve_left c1
  obtain ⟨r1, e2, q2⟩ := lszPairS_ok N hN x.2.1 r0 k1 (by omega) (by omega)
  rw [rBind, e2, Option.bind_some, rIte]
  split
  · exact ⟨_, rfl, .inl (by decide)⟩
  rename_i c2
  rw [ltI_iff] at c2
  replace q2 := q2.resolve_left c2
  obtain ⟨r2, e3, q3⟩ := lszQuotaS_ok N hN x.2.2.1 r1 k2 (by omega) (by omega)
  rw [rBind, e3, Option.bind_some, rIte]
  split
  · exact ⟨_, rfl, .inl (by decide)⟩
  rename_i c3
  rw [ltI_iff] at c3
  replace q3 := q3.resolve_left c3
  refine ⟨_, rfl, .inr ⟨by omega, ?_⟩⟩
  show r2 + ((Ty.wt T22 x.1 + (Ty.wt T23 x.2.1 + (Ty.wt T24 x.2.2.1 + (0 + 0))) : Nat) : Int) ≤ left
  omega
theorem lszSpanS_ok (N : Nat) (hN : 1048577 < N) : SzOK T177 (lszSpanS.F N) := SzOK.flat (fun _ => rfl)
theorem lszNode_ok (N : Nat) (hN : 1048577 < N) : SzOK T178 (lszNode.F N) := by
  intro x left hok h0 h1
  obtain ⟨k0, k1, _⟩ := hok
  unfold lszNode.F lszNode.T
  dsimp only
  obtain ⟨r0, e1, q1⟩ := lszSpanS_ok N hN x.2.1 left k1 (by omega) (by omega)
  rw [rBind, e1, Option.bind_some, rIte]
  split
  · exact ⟨_, rfl, .inl (by decide)⟩
  rename_i c1
  rw [ltI_iff] at c1
  replace q1 := q1.resolve_left c1
  refine ⟨_, rfl, .inr ⟨by omega, ?_⟩⟩
  show r0 + ((0 + (Ty.wt T177 x.2.1 + 0) : Nat) : Int) ≤ left
  omega
theorem lszNodeS_ok (N : Nat) (hN : 1048577 < N) : SzOK T27 (lszNodeS.F N) := SzOK.list hN (lszNode_ok N hN)
theorem lszInt64S_ok (N : Nat) (hN : 1048577 < N) : SzOK T89 (lszInt64S.F N) := SzOK.flat (fun _ => rfl)
theorem lszTask_ok (N : Nat) (hN : 1048577 < N) : SzOK T128 (lszTask.F N) := by
  intro x left hok h0 h1
  obtain ⟨k0, k1, k2, k3, k4, k5, k6, k7, k8, k9, k10, k11, _⟩ := hok
  unfold lszTask.F lszTask.T
  dsimp only
  have j2 : List.length x.2.2.1 ≤ 9223372036854775807 := k2
  have s2 : subW .i64 left (lenI x.2.2.1) = left - ((List.length x.2.2.1 : Nat) : Int) := by unfold lenI; exact subW64 (by omega) (by omega)
  rw [s2, rIte]
  split
  · exact ⟨_, rfl, .inl (by decide)⟩
  rename_i c1
  rw [ltI_iff] at c1
  generalize g1 : left - ((List.length x.2.2.1 : Nat) : Int) = l0 at *
  obtain ⟨r1, e2, q2⟩ := lszInt64S_ok N hN x.2.2.2.2.2.2.2.2.2.2.2.1 l0 k11 (by omega) (by omega)
  rw [rBind, e2, Option.bind_some, rIte]
  split
  · exact ⟨_, rfl, .inl (by decide)⟩
  rename_i c2
  rw [ltI_iff] at c2
  replace q2 := q2.resolve_left c2
  refine ⟨_, rfl, .inr ⟨by omega, ?_⟩⟩
  show r1 + ((0 + (0 + ((x.2.2.1).length + (0 + (0 + (0 + (0 + (0 + (0 + (0 + (0 + (Ty.wt T89 x.2.2.2.2.2.2.2.2.2.2.2.1 + 0))))))))))) : Nat) : Int) ≤ left
  omega
theorem lszTaskS_ok (N : Nat) (hN : 1048577 < N) : SzOK T28 (lszTaskS.F N) := SzOK.list hN (lszTask_ok N hN)
theorem lszUse_ok (N : Nat) (hN : 1048577 < N) : SzOK T131 (lszUse.F N) := by
  intro x left hok h0 h1
  obtain ⟨k0, k1, k2, _⟩ := hok
  unfold lszUse.F lszUse.T
  dsimp only
  have j1 : List.length x.2.1 ≤ 9223372036854775807 := k1
  have s1 : subW .i64 left (lenI x.2.1) = left - ((List.length x.2.1 : Nat) : Int) := by unfold lenI; exact subW64 (by omega) (by omega)
  rw [s1, rIte]
  split
  · exact ⟨_, rfl, .inl (by decide)⟩
  rename_i c1
  rw [ltI_iff] at c1
  generalize g1 : left - ((List.length x.2.1 : Nat) : Int) = l0 at *
  refine ⟨_, rfl, .inr ⟨by omega, ?_⟩⟩
  show l0 + ((0 + ((x.2.1).length + (0 + 0)) : Nat) : Int) ≤ left
  omega
theorem lszUseS_ok (N : Nat) (hN : 1048577 < N) : SzOK T29 (lszUseS.F N) := SzOK.list hN (lszUse_ok N hN)
theorem lszYard_ok (N : Nat) (hN : 1048577 < N) : SzOK T30 (lszYard.F N) := by
  intro x left hok h0 h1
  obtain ⟨k0, k1, k2, k3, k4, _⟩ := hok
  unfold lszYard.F lszYard.T
  dsimp only
  obtain ⟨r0, e1, q1⟩ := lszConfig_ok N hN x.1 left k0 (by omega) (by omega)
  rw [rBind, e1, Option.bind_some, rIte]
  split
  · exact ⟨_, rfl, .inl (by decide)⟩
  rename_i c1
  rw [ltI_iff] at c1
  replace q1 := q1.resolve_left c1
  obtain ⟨r1, e2, q2⟩ := lszNodeS_ok N hN x.2.1 r0 k1 (by omega) (by omega)
  rw [rBind, e2, Option.bind_some, rIte]
  split
  · exact ⟨_, rfl, .inl (by decide)⟩
  rename_i c2
  rw [ltI_iff] at c2
  replace q2 := q2.resolve_left c2
  obtain ⟨r2, e3, q3⟩ := lszTaskS_ok N hN x.2.2.1 r1 k2 (by omega) (by omega)
  rw [rBind, e3, Option.bind_some, rIte]
  split
  · exact ⟨_, rfl, .inl (by decide)⟩
  rename_i c3
  rw [ltI_iff] at c3
  replace q3 := q3.resolve_left c3
  obtain ⟨r3, e4, q4⟩ := lszUseS_ok N hN x.2.2.2.1 r2 k3 (by omega) (by omega)
  rw [rBind, e4, Option.bind_some, rIte]
  split
  · exact ⟨_, rfl, .inl (by decide)⟩
  rename_i c4
  rw [ltI_iff] at c4
  replace q4 := q4.resolve_left c4
  refine ⟨_, rfl, .inr ⟨by omega, ?_⟩⟩
  show r3 + ((Ty.wt T25 x.1 + (Ty.wt T27 x.2.1 + (Ty.wt T28 x.2.2.1 + (Ty.wt T29 x.2.2.2.1 + (0 + 0)))) : Nat) : Int) ≤ left
  omega
theorem lszNoteS_ok (N : Nat) (hN : 1048577 < N) : SzOK T188 (lszNoteS.F N) := SzOK.flat (fun _ => rfl)
theorem lszBox_ok (N : Nat) (hN : 1048577 < N) : SzOK T189 (lszBox.F N) := by
  intro x left hok h0 h1
  obtain ⟨k0, k1, k2, _⟩ := hok
  unfold lszBox.F lszBox.T
  dsimp only
  obtain ⟨r0, e1, q1⟩ := lszInt64S_ok N hN x.1 left k0 (by omega) (by omega)
  rw [rBind, e1, Option.bind_some, rIte]
  split
  · exact ⟨_, rfl, .inl (by decide)⟩
  rename_i c1
  rw [ltI_iff] at c1
  replace q1 := q1.resolve_left c1
  obtain ⟨r1, e2, q2⟩ := lszInt64S_ok N hN x.2.1 r0 k1 (by omega) (by omega)
  rw [rBind, e2, Option.bind_some, rIte]
  split
  · exact ⟨_, rfl, .inl (by decide)⟩
  rename_i c2
  rw [ltI_iff] at c2
  replace q2 := q2.resolve_left c2
  obtain ⟨r2, e3, q3⟩ := lszNoteS_ok N hN x.2.2.1 r1 k2 (by omega) (by omega)
  rw [rBind, e3, Option.bind_some, rIte]
  split
  · exact ⟨_, rfl, .inl (by decide)⟩
  rename_i c3
  rw [ltI_iff] at c3
  replace q3 := q3.resolve_left c3
  refine ⟨_, rfl, .inr ⟨by omega, ?_⟩⟩
  show r2 + ((Ty.wt T89 x.1 + (Ty.wt T89 x.2.1 + (Ty.wt T188 x.2.2.1 + 0)) : Nat) : Int) ≤ left
  omega
theorem lszBoxS_ok (N : Nat) (hN : 1048577 < N) : SzOK T32 (lszBoxS.F N) := SzOK.list hN (lszBox_ok N hN)
theorem lszMail_ok (N : Nat) (hN : 1048577 < N) : SzOK T33 (lszMail.F N) := by
  intro x left hok h0 h1
  obtain ⟨k0, _⟩ := hok
  unfold lszMail.F lszMail.T
  dsimp only
  obtain ⟨r0, e1, q1⟩ := lszBoxS_ok N hN x.1 left k0 (by omega) (by omega)
  rw [rBind, e1, Option.bind_some, rIte]
  split
  · exact ⟨_, rfl, .inl (by decide)⟩
  rename_i c1
  rw [ltI_iff] at c1
  replace q1 := q1.resolve_left c1
  refine ⟨_, rfl, .inr ⟨by omega, ?_⟩⟩
  show r0 + ((Ty.wt T32 x.1 + 0 : Nat) : Int) ≤ left
  omega
theorem lszState_ok (N : Nat) (hN : 1048577 < N) : SzOK T35 (lszState.F N) := by
  intro x left hok h0 h1
  obtain ⟨k0, k1, _⟩ := hok
  unfold lszState.F lszState.T
  dsimp only
  obtain ⟨r0, e1, q1⟩ := lszYard_ok N hN x.1 left k0 (by omega) (by omega)
  rw [rBind, e1, Option.bind_some, rIte]
  split
  · exact ⟨_, rfl, .inl (by decide)⟩
  rename_i c1
  rw [ltI_iff] at c1
  replace q1 := q1.resolve_left c1
  obtain ⟨r1, e2, q2⟩ := lszMail_ok N hN x.2.1 r0 k1 (by omega) (by omega)
  rw [rBind, e2, Option.bind_some, rIte]
  split
  · exact ⟨_, rfl, .inl (by decide)⟩
  rename_i c2
  rw [ltI_iff] at c2
  replace q2 := q2.resolve_left c2
  refine ⟨_, rfl, .inr ⟨by omega, ?_⟩⟩
  show r1 + ((Ty.wt T30 x.1 + (Ty.wt T33 x.2.1 + 0) : Nat) : Int) ≤ left
  omega
theorem lszRegion_ok (N : Nat) (hN : 1048577 < N) : SzOK T104 (lszRegion.F N) := by
  intro x left hok h0 h1
  obtain ⟨k0, k1, k2, _⟩ := hok
  unfold lszRegion.F lszRegion.T
  dsimp only
  have j0 : List.length x.1 ≤ 9223372036854775807 := k0
  have s0 : subW .i64 left (lenI x.1) = left - ((List.length x.1 : Nat) : Int) := by unfold lenI; exact subW64 (by omega) (by omega)
  rw [s0, rIte]
  split
  · exact ⟨_, rfl, .inl (by decide)⟩
  rename_i c1
  rw [ltI_iff] at c1
  generalize g1 : left - ((List.length x.1 : Nat) : Int) = l0 at *
  have j1 : List.length x.2.1 ≤ 9223372036854775807 := k1
  have s1 : subW .i64 l0 (lenI x.2.1) = l0 - ((List.length x.2.1 : Nat) : Int) := by unfold lenI; exact subW64 (by omega) (by omega)
  rw [s1, rIte]
  split
  · exact ⟨_, rfl, .inl (by decide)⟩
  rename_i c2
  rw [ltI_iff] at c2
  generalize g2 : l0 - ((List.length x.2.1 : Nat) : Int) = l1 at *
  have j2 : List.length x.2.2.1 ≤ 9223372036854775807 := k2
  have s2 : subW .i64 l1 (lenI x.2.2.1) = l1 - ((List.length x.2.2.1 : Nat) : Int) := by unfold lenI; exact subW64 (by omega) (by omega)
  rw [s2, rIte]
  split
  · exact ⟨_, rfl, .inl (by decide)⟩
  rename_i c3
  rw [ltI_iff] at c3
  generalize g3 : l1 - ((List.length x.2.2.1 : Nat) : Int) = l2 at *
  refine ⟨_, rfl, .inr ⟨by omega, ?_⟩⟩
  show l2 + (((x.1).length + ((x.2.1).length + ((x.2.2.1).length + 0)) : Nat) : Int) ≤ left
  omega
theorem lszRegionS_ok (N : Nat) (hN : 1048577 < N) : SzOK T37 (lszRegionS.F N) := SzOK.list hN (lszRegion_ok N hN)
theorem lszDisk_ok (N : Nat) (hN : 1048577 < N) : SzOK T38 (lszDisk.F N) := by
  intro x left hok h0 h1
  obtain ⟨k0, k1, _⟩ := hok
  unfold lszDisk.F lszDisk.T
  dsimp only
  obtain ⟨r0, e1, q1⟩ := lszRegionS_ok N hN x.1 left k0 (by omega) (by omega)
  rw [rBind, e1, Option.bind_some, rIte]
  split
  · exact ⟨_, rfl, .inl (by decide)⟩
  rename_i c1
  rw [ltI_iff] at c1
  replace q1 := q1.resolve_left c1
  refine ⟨_, rfl, .inr ⟨by omega, ?_⟩⟩
  show r0 + ((Ty.wt T37 x.1 + (0 + 0) : Nat) : Int) ≤ left
  omega
theorem lszHouse_ok (N : Nat) (hN : 1048577 < N) : SzOK T40 (lszHouse.F N) := by
  intro x left hok h0 h1
  obtain ⟨k0, k1, k2, _⟩ := hok
  unfold lszHouse.F lszHouse.T
  dsimp only
  obtain ⟨r0, e1, q1⟩ := lszState_ok N hN x.1 left k0 (by omega) (by omega)
  rw [rBind, e1, Option.bind_some, rIte]
  split
  · exact ⟨_, rfl, .inl (by decide)⟩
  rename_i c1
  rw [ltI_iff] at c1
  replace q1 := q1.resolve_left c1
  obtain ⟨r1, e2, q2⟩ := lszDisk_ok N hN x.2.1 r0 k1 (by omega) (by omega)
  rw [rBind, e2, Option.bind_some, rIte]
  split
  · exact ⟨_, rfl, .inl (by decide)⟩
  rename_i c2
  rw [ltI_iff] at c2
  replace q2 := q2.resolve_left c2
  refine ⟨_, rfl, .inr ⟨by omega, ?_⟩⟩
  show r1 + ((Ty.wt T35 x.1 + (Ty.wt T38 x.2.1 + (0 + 0)) : Nat) : Int) ≤ left
  omega
theorem ltoLabel_ok (N : Nat) (hN : 1048577 < N) : ToOK T86 (ltoLabel.F N) := by
  rintro ⟨x, u⟩ hw
  dsimp only at hw ⊢
  have hw1 : 0 + (0 + 0) ≤ 1048576 := hw
  simp only [ltoLabel.F, ltoLabel.T, rBind, rRet, Option.bind_some]
theorem ltoLabelS_ok (N : Nat) (hN : 1048577 < N) : ToOK T239 (ltoLabelS.F N) := ToOK.list hN (ltoLabel_ok N hN) _
theorem ltoLabelSS_ok (N : Nat) (hN : 1048577 < N) : ToOK T22 (ltoLabelSS.F N) := ToOK.list hN (ltoLabelS_ok N hN) _
theorem ltoPair_ok (N : Nat) (hN : 1048577 < N) : ToOK T134 (ltoPair.F N) := by
  rintro ⟨x, u⟩ hw
  dsimp only at hw ⊢
  have hw1 : 0 + (0 + (0 + 0)) ≤ 1048576 := hw
  have e0 : ltoLabel.F N (x.1, ()) = some x.1 := ltoLabel_ok N hN (x.1, ()) (by show Ty.wt _ x.1 ≤ _; first | omega | exact Nat.zero_le _)
  have e1 : ltoLabel.F N (x.2.1, ()) = some x.2.1 := ltoLabel_ok N hN (x.2.1, ()) (by show Ty.wt _ x.2.1 ≤ _; first | omega | exact Nat.zero_le _)
  simp only [ltoPair.F, ltoPair.T, rBind, rRet, Option.bind_some, e0, e1]
theorem ltoPairS_ok (N : Nat) (hN : 1048577 < N) : ToOK T23 (ltoPairS.F N) := ToOK.list hN (ltoPair_ok N hN) _
theorem ltoQuota_ok (N : Nat) (hN : 1048577 < N) : ToOK T218 (ltoQuota.F N) := by
  rintro ⟨x, u⟩ hw
  dsimp only at hw ⊢
  have hw1 : 0 + (0 + 0) ≤ 1048576 := hw
  have e0 : ltoLabel.F N (x.1, ()) = some x.1 := ltoLabel_ok N hN (x.1, ()) (by show Ty.wt _ x.1 ≤ _; first | omega | exact Nat.zero_le _)
  simp only [ltoQuota.F, ltoQuota.T, rBind, rRet, Option.bind_some, e0]
theorem ltoQuotaS_ok (N : Nat) (hN : 1048577 < N) : ToOK T24 (ltoQuotaS.F N) := ToOK.list hN (ltoQuota_ok N hN) _
theorem ltoConfig_ok (N : Nat) (hN : 1048577 < N) : ToOK T25 (ltoConfig.F N) := by
  rintro ⟨x, u⟩ hw
  dsimp only at hw ⊢
  have hw1 : Ty.wt T22 x.1 + (Ty.wt T23 x.2.1 + (Ty.wt T24 x.2.2.1 + (0 + 0))) ≤ 1048576 := hw
  have e0 : ltoLabelSS.F N (x.1, ()) = some x.1 := ltoLabelSS_ok N hN (x.1, ()) (by show Ty.wt _ x.1 ≤ _; first | omega | exact Nat.zero_le _)
  have e1 : ltoPairS.F N (x.2.1, ()) = some x.2.1 := ltoPairS_ok N hN (x.2.1, ()) (by show Ty.wt _ x.2.1 ≤ _; first | omega | exact Nat.zero_le _)
  have e2 : ltoQuotaS.F N (x.2.2.1, ()) = some x.2.2.1 := ltoQuotaS_ok N hN (x.2.2.1, ()) (by show Ty.wt _ x.2.2.1 ≤ _; first | omega | exact Nat.zero_le _)
  simp only [ltoConfig.F, ltoConfig.T, rBind, rRet, Option.bind_some, e0, e1, e2]
theorem ltoSpan_ok (N : Nat) (hN : 1048577 < N) : ToOK T86 (ltoSpan.F N) := by
  rintro ⟨x, u⟩ hw
  dsimp only at hw ⊢
  have hw1 : 0 + (0 + 0) ≤ 1048576 := hw
  simp only [ltoSpan.F, ltoSpan.T, rBind, rRet, Option.bind_some]
theorem ltoSpanS_ok (N : Nat) (hN : 1048577 < N) : ToOK T177 (ltoSpanS.F N) := ToOK.list hN (ltoSpan_ok N hN) _
theorem ltoNode_ok (N : Nat) (hN : 1048577 < N) : ToOK T178 (ltoNode.F N) := by
  rintro ⟨x, u⟩ hw
  dsimp only at hw ⊢
  have hw1 : 0 + (Ty.wt T177 x.2.1 + 0) ≤ 1048576 := hw
  have e0 : ltoSpanS.F N x.2 = some x.2.1 := ltoSpanS_ok N hN x.2 (by show Ty.wt _ x.2.1 ≤ _; first | omega | exact Nat.zero_le _)
  simp only [ltoNode.F, ltoNode.T, rBind, rRet, Option.bind_some, e0]
theorem ltoNodeS_ok (N : Nat) (hN : 1048577 < N) : ToOK T27 (ltoNodeS.F N) := ToOK.list hN (ltoNode_ok N hN) _
theorem ltoInt64S_ok (N : Nat) (hN : 1048577 < N) : ToOK T89 (ltoInt64S.F N) := ToOK.list0 hN _
theorem ltoTask_ok (N : Nat) (hN : 1048577 < N) : ToOK T128 (ltoTask.F N) := by
  rintro ⟨x, u⟩ hw
  dsimp only at hw ⊢
  have hw1 : 0 + (0 + ((x.2.2.1).length + (0 + (0 + (0 + (0 + (0 + (0 + (0 + (0 + (Ty.wt T89 x.2.2.2.2.2.2.2.2.2.2.2.1 + 0))))))))))) ≤ 1048576 := hw
  have e0 : ltoLabel.F N (x.1, ()) = some x.1 := ltoLabel_ok N hN (x.1, ()) (by show Ty.wt _ x.1 ≤ _; first | omega | exact Nat.zero_le _)
  have e1 : ltoLabel.F N (x.2.2.2.2.2.2.1, ()) = some x.2.2.2.2.2.2.1 := ltoLabel_ok N hN (x.2.2.2.2.2.2.1, ()) (by show Ty.wt _ x.2.2.2.2.2.2.1 ≤ _; first | omega | exact Nat.zero_le _)
  have e2 : ltoInt64S.F N x.2.2.2.2.2.2.2.2.2.2.2 = some x.2.2.2.2.2.2.2.2.2.2.2.1 := ltoInt64S_ok N hN x.2.2.2.2.2.2.2.2.2.2.2 (by show Ty.wt _ x.2.2.2.2.2.2.2.2.2.2.2.1 ≤ _; first | omega | exact Nat.zero_le _)
  simp only [ltoTask.F, ltoTask.T, rBind, rRet, Option.bind_some, e0, e1, e2]
theorem ltoTaskS_ok (N : Nat) (hN : 1048577 < N) : ToOK T28 (ltoTaskS.F N) := ToOK.list hN (ltoTask_ok N hN) _
theorem ltoUse_ok (N : Nat) (hN : 1048577 < N) : ToOK T131 (ltoUse.F N) := by
  rintro ⟨x, u⟩ hw
  dsimp only at hw ⊢
  have hw1 : 0 + ((x.2.1).length + (0 + 0)) ≤ 1048576 := hw
  have e0 : ltoLabel.F N (x.1, ()) = some x.1 := ltoLabel_ok N hN (x.1, ()) (by show Ty.wt _ x.1 ≤ _; first | omega | exact Nat.zero_le _)
  simp only [ltoUse.F, ltoUse.T, rBind, rRet, Option.bind_some, e0]
theorem ltoUseS_ok (N : Nat) (hN : 1048577 < N) : ToOK T29 (ltoUseS.F N) := ToOK.list hN (ltoUse_ok N hN) _
theorem ltoYard_ok (N : Nat) (hN : 1048577 < N) : ToOK T30 (ltoYard.F N) := by
  rintro ⟨x, u⟩ hw
  dsimp only at hw ⊢
  have hw1 : Ty.wt T25 x.1 + (Ty.wt T27 x.2.1 + (Ty.wt T28 x.2.2.1 + (Ty.wt T29 x.2.2.2.1 + (0 + 0)))) ≤ 1048576 := hw
  have e0 : ltoConfig.F N (x.1, ()) = some x.1 := ltoConfig_ok N hN (x.1, ()) (by show Ty.wt _ x.1 ≤ _; first | omega | exact Nat.zero_le _)
  have e1 : ltoNodeS.F N (x.2.1, ()) = some x.2.1 := ltoNodeS_ok N hN (x.2.1, ()) (by show Ty.wt _ x.2.1 ≤ _; first | omega | exact Nat.zero_le _)
  have e2 : ltoTaskS.F N (x.2.2.1, ()) = some x.2.2.1 := ltoTaskS_ok N hN (x.2.2.1, ()) (by show Ty.wt _ x.2.2.1 ≤ _; first | omega | exact Nat.zero_le _)
  have e3 : ltoUseS.F N (x.2.2.2.1, ()) = some x.2.2.2.1 := ltoUseS_ok N hN (x.2.2.2.1, ()) (by show Ty.wt _ x.2.2.2.1 ≤ _; first | omega | exact Nat.zero_le _)
  simp only [ltoYard.F, ltoYard.T, rBind, rRet, Option.bind_some, e0, e1, e2, e3]
theorem ltoNote_ok (N : Nat) (hN : 1048577 < N) : ToOK T86 (ltoNote.F N) := by
  rintro ⟨x, u⟩ hw
  dsimp only at hw ⊢
  have hw1 : 0 + (0 + 0) ≤ 1048576 := hw
  simp only [ltoNote.F, ltoNote.T, rBind, rRet, Option.bind_some]
theorem ltoNoteS_ok (N : Nat) (hN : 1048577 < N) : ToOK T188 (ltoNoteS.F N) := ToOK.list hN (ltoNote_ok N hN) _
theorem ltoBox_ok (N : Nat) (hN : 1048577 < N) : ToOK T189 (ltoBox.F N) := by
  rintro ⟨x, u⟩ hw
  dsimp only at hw ⊢
  have hw1 : Ty.wt T89 x.1 + (Ty.wt T89 x.2.1 + (Ty.wt T188 x.2.2.1 + 0)) ≤ 1048576 := hw
  have e0 : ltoInt64S.F N (x.1, ()) = some x.1 := ltoInt64S_ok N hN (x.1, ()) (by show Ty.wt _ x.1 ≤ _; first | omega | exact Nat.zero_le _)
  have e1 : ltoInt64S.F N (x.2.1, ()) = some x.2.1 := ltoInt64S_ok N hN (x.2.1, ()) (by show Ty.wt _ x.2.1 ≤ _; first | omega | exact Nat.zero_le _)
  have e2 : ltoNoteS.F N x.2.2 = some x.2.2.1 := ltoNoteS_ok N hN x.2.2 (by show Ty.wt _ x.2.2.1 ≤ _; first | omega | exact Nat.zero_le _)
  simp only [ltoBox.F, ltoBox.T, rBind, rRet, Option.bind_some, e0, e1, e2]
theorem ltoBoxS_ok (N : Nat) (hN : 1048577 < N) : ToOK T32 (ltoBoxS.F N) := ToOK.list hN (ltoBox_ok N hN) _
theorem ltoMail_ok (N : Nat) (hN : 1048577 < N) : ToOK T33 (ltoMail.F N) := by
  rintro ⟨x, u⟩ hw
  dsimp only at hw ⊢
  have hw1 : Ty.wt T32 x.1 + 0 ≤ 1048576 := hw
  have e0 : ltoBoxS.F N x = some x.1 := ltoBoxS_ok N hN x (by show Ty.wt _ x.1 ≤ _; first | omega | exact Nat.zero_le _)
  simp only [ltoMail.F, ltoMail.T, rBind, rRet, Option.bind_some, e0]
theorem ltoState_ok (N : Nat) (hN : 1048577 < N) : ToOK T35 (ltoState.F N) := by
  rintro ⟨x, u⟩ hw
  dsimp only at hw ⊢
  have hw1 : Ty.wt T30 x.1 + (Ty.wt T33 x.2.1 + 0) ≤ 1048576 := hw
  have e0 : ltoYard.F N (x.1, ()) = some x.1 := ltoYard_ok N hN (x.1, ()) (by show Ty.wt _ x.1 ≤ _; first | omega | exact Nat.zero_le _)
  have e1 : ltoMail.F N x.2 = some x.2.1 := ltoMail_ok N hN x.2 (by show Ty.wt _ x.2.1 ≤ _; first | omega | exact Nat.zero_le _)
  simp only [ltoState.F, ltoState.T, rBind, rRet, Option.bind_some, e0, e1]
theorem ltoRegion_ok (N : Nat) (hN : 1048577 < N) : ToOK T104 (ltoRegion.F N) := by
  rintro ⟨x, u⟩ hw
  dsimp only at hw ⊢
  have hw1 : (x.1).length + ((x.2.1).length + ((x.2.2.1).length + 0)) ≤ 1048576 := hw
  simp only [ltoRegion.F, ltoRegion.T, rBind, rRet, Option.bind_some]
theorem ltoRegionS_ok (N : Nat) (hN : 1048577 < N) : ToOK T37 (ltoRegionS.F N) := ToOK.list hN (ltoRegion_ok N hN) _
theorem ltoDisk_ok (N : Nat) (hN : 1048577 < N) : ToOK T38 (ltoDisk.F N) := by
  rintro ⟨x, u⟩ hw
  dsimp only at hw ⊢
  have hw1 : Ty.wt T37 x.1 + (0 + 0) ≤ 1048576 := hw
  have e0 : ltoRegionS.F N (x.1, ()) = some x.1 := ltoRegionS_ok N hN (x.1, ()) (by show Ty.wt _ x.1 ≤ _; first | omega | exact Nat.zero_le _)
  simp only [ltoDisk.F, ltoDisk.T, rBind, rRet, Option.bind_some, e0]
theorem ltoHouse_ok (N : Nat) (hN : 1048577 < N) : ToOK T40 (ltoHouse.F N) := by
  rintro ⟨x, u⟩ hw
  dsimp only at hw ⊢
  have hw1 : Ty.wt T35 x.1 + (Ty.wt T38 x.2.1 + (0 + 0)) ≤ 1048576 := hw
  have e0 : ltoState.F N (x.1, ()) = some x.1 := ltoState_ok N hN (x.1, ()) (by show Ty.wt _ x.1 ≤ _; first | omega | exact Nat.zero_le _)
  have e1 : ltoDisk.F N (x.2.1, ()) = some x.2.1 := ltoDisk_ok N hN (x.2.1, ()) (by show Ty.wt _ x.2.1 ≤ _; first | omega | exact Nat.zero_le _)
  simp only [ltoHouse.F, ltoHouse.T, rBind, rRet, Option.bind_some, e0, e1]
theorem leqLabel_ok (N : Nat) (hN : 1048577 < N) : EqOK T86 (leqLabel.F N) := by
  rintro ⟨x, x', u⟩ hw heq
  dsimp only at hw heq ⊢
  subst heq
  have hw1 : 0 + (0 + 0) ≤ 1048576 := hw
  simp only [leqLabel.F, leqLabel.T, rBind, rIte, rRet, Option.bind_some, Bool.not_true, eqI_refl, eqS_refl, Bool.false_eq_true, if_false]
theorem leqLabelS_ok (N : Nat) (hN : 1048577 < N) : EqOK T82 (leqLabelS.F N) := EqOK.list hN (leqLabel_ok N hN)
theorem leqLabelSS_ok (N : Nat) (hN : 1048577 < N) : EqOK T44 (leqLabelSS.F N) := EqOK.list hN (leqLabelS_ok N hN)
theorem leqPair_ok (N : Nat) (hN : 1048577 < N) : EqOK T134 (leqPair.F N) := by
  rintro ⟨x, x', u⟩ hw heq
  dsimp only at hw heq ⊢
  subst heq
  have hw1 : 0 + (0 + (0 + 0)) ≤ 1048576 := hw
  have e0 : leqLabel.F N (x.1, x.1, ()) = some true := leqLabel_ok N hN (x.1, x.1, ()) (by show Ty.wt _ x.1 ≤ _; first | omega | exact Nat.zero_le _) rfl
  have e1 : leqLabel.F N (x.2.1, x.2.1, ()) = some true := leqLabel_ok N hN (x.2.1, x.2.1, ()) (by show Ty.wt _ x.2.1 ≤ _; first | omega | exact Nat.zero_le _) rfl
  simp only [leqPair.F, leqPair.T, rBind, rIte, rRet, Option.bind_some, Bool.not_true, eqI_refl, eqS_refl, Bool.false_eq_true, if_false, e0, e1]
theorem leqPairS_ok (N : Nat) (hN : 1048577 < N) : EqOK T45 (leqPairS.F N) := EqOK.list hN (leqPair_ok N hN)
theorem leqQuota_ok (N : Nat) (hN : 1048577 < N) : EqOK T218 (leqQuota.F N) := by
  rintro ⟨x, x', u⟩ hw heq
  dsimp only at hw heq ⊢
  subst heq
  have hw1 : 0 + (0 + 0) ≤ 1048576 := hw
  have e0 : leqLabel.F N (x.1, x.1, ()) = some true := leqLabel_ok N hN (x.1, x.1, ()) (by show Ty.wt _ x.1 ≤ _; first | omega | exact Nat.zero_le _) rfl
  simp only [leqQuota.F, leqQuota.T, rBind, rIte, rRet, Option.bind_some, Bool.not_true, eqI_refl, eqS_refl, Bool.false_eq_true, if_false, e0]
theorem leqQuotaS_ok (N : Nat) (hN : 1048577 < N) : EqOK T46 (leqQuotaS.F N) := EqOK.list hN (leqQuota_ok N hN)
theorem leqConfig_ok (N : Nat) (hN : 1048577 < N) : EqOK T47 (leqConfig.F N) := by
  rintro ⟨x, x', u⟩ hw heq
  dsimp only at hw heq ⊢
  subst heq
  have hw1 : Ty.wt T44 x.1 + (Ty.wt T45 x.2.1 + (Ty.wt T46 x.2.2.1 + (0 + 0))) ≤ 1048576 := hw
  have e0 : leqLabelSS.F N (x.1, x.1, ()) = some true := leqLabelSS_ok N hN (x.1, x.1, ()) (by show Ty.wt _ x.1 ≤ _; first | omega | exact Nat.zero_le _) rfl
  have e1 : leqPairS.F N (x.2.1, x.2.1, ()) = some true := leqPairS_ok N hN (x.2.1, x.2.1, ()) (by show Ty.wt _ x.2.1 ≤ _; first | omega | exact Nat.zero_le _) rfl
  have e2 : leqQuotaS.F N (x.2.2.1, x.2.2.1, ()) = some true := leqQuotaS_ok N hN (x.2.2.1, x.2.2.1, ()) (by show Ty.wt _ x.2.2.1 ≤ _; first | omega | exact Nat.zero_le _) rfl
  simp only [leqConfig.F, leqConfig.T, rBind, rIte, rRet, Option.bind_some, Bool.not_true, eqI_refl, eqS_refl, Bool.false_eq_true, if_false, e0, e1, e2]
theorem leqSpan_ok (N : Nat) (hN : 1048577 < N) : EqOK T86 (leqSpan.F N) := by
  rintro ⟨x, x', u⟩ hw heq
  dsimp only at hw heq ⊢
  subst heq
  have hw1 : 0 + (0 + 0) ≤ 1048576 := hw
  simp only [leqSpan.F, leqSpan.T, rBind, rIte, rRet, Option.bind_some, Bool.not_true, eqI_refl, eqS_refl, Bool.false_eq_true, if_false]
theorem leqSpanS_ok (N : Nat) (hN : 1048577 < N) : EqOK T122 (leqSpanS.F N) := EqOK.list hN (leqSpan_ok N hN)
theorem leqNode_ok (N : Nat) (hN : 1048577 < N) : EqOK T123 (leqNode.F N) := by
  rintro ⟨x, x', u⟩ hw heq
  dsimp only at hw heq ⊢
  subst heq
  have hw1 : 0 + (Ty.wt T122 x.2.1 + 0) ≤ 1048576 := hw
  have e0 : leqSpanS.F N (x.2.1, x.2) = some true := leqSpanS_ok N hN (x.2.1, x.2) (by show Ty.wt _ x.2.1 ≤ _; first | omega | exact Nat.zero_le _) rfl
  simp only [leqNode.F, leqNode.T, rBind, rIte, rRet, Option.bind_some, Bool.not_true, eqI_refl, eqS_refl, Bool.false_eq_true, if_false, e0]
theorem leqNodeS_ok (N : Nat) (hN : 1048577 < N) : EqOK T49 (leqNodeS.F N) := EqOK.list hN (leqNode_ok N hN)
theorem leqInt64S_ok (N : Nat) (hN : 1048577 < N) : EqOK T89 (leqInt64S.F N) := EqOK.list0 hN (e := (.int .i64)) eqI eqI_refl
theorem leqTask_ok (N : Nat) (hN : 1048577 < N) : EqOK T128 (leqTask.F N) := by
  rintro ⟨x, x', u⟩ hw heq
  dsimp only at hw heq ⊢
  subst heq
  have hw1 : 0 + (0 + ((x.2.2.1).length + (0 + (0 + (0 + (0 + (0 + (0 + (0 + (0 + (Ty.wt T89 x.2.2.2.2.2.2.2.2.2.2.2.1 + 0))))))))))) ≤ 1048576 := hw
  have e0 : leqLabel.F N (x.1, x.1, ()) = some true := leqLabel_ok N hN (x.1, x.1, ()) (by show Ty.wt _ x.1 ≤ _; first | omega | exact Nat.zero_le _) rfl
  have e1 : leqLabel.F N (x.2.2.2.2.2.2.1, x.2.2.2.2.2.2.1, ()) = some true := leqLabel_ok N hN (x.2.2.2.2.2.2.1, x.2.2.2.2.2.2.1, ()) (by show Ty.wt _ x.2.2.2.2.2.2.1 ≤ _; first | omega | exact Nat.zero_le _) rfl
  have e2 : leqInt64S.F N (x.2.2.2.2.2.2.2.2.2.2.2.1, x.2.2.2.2.2.2.2.2.2.2.2) = some true := leqInt64S_ok N hN (x.2.2.2.2.2.2.2.2.2.2.2.1, x.2.2.2.2.2.2.2.2.2.2.2) (by show Ty.wt _ x.2.2.2.2.2.2.2.2.2.2.2.1 ≤ _; first | omega | exact Nat.zero_le _) rfl
  simp only [leqTask.F, leqTask.T, rBind, rIte, rRet, Option.bind_some, Bool.not_true, eqI_refl, eqS_refl, Bool.false_eq_true, if_false, e0, e1, e2]
theorem leqTaskS_ok (N : Nat) (hN : 1048577 < N) : EqOK T50 (leqTaskS.F N) := EqOK.list hN (leqTask_ok N hN)
theorem leqUse_ok (N : Nat) (hN : 1048577 < N) : EqOK T131 (leqUse.F N) := by
  rintro ⟨x, x', u⟩ hw heq
  dsimp only at hw heq ⊢
  subst heq
  have hw1 : 0 + ((x.2.1).length + (0 + 0)) ≤ 1048576 := hw
  have e0 : leqLabel.F N (x.1, x.1, ()) = some true := leqLabel_ok N hN (x.1, x.1, ()) (by show Ty.wt _ x.1 ≤ _; first | omega | exact Nat.zero_le _) rfl
  simp only [leqUse.F, leqUse.T, rBind, rIte, rRet, Option.bind_some, Bool.not_true, eqI_refl, eqS_refl, Bool.false_eq_true, if_false, e0]
theorem leqUseS_ok (N : Nat) (hN : 1048577 < N) : EqOK T51 (leqUseS.F N) := EqOK.list hN (leqUse_ok N hN)
theorem leqYard_ok (N : Nat) (hN : 1048577 < N) : EqOK T52 (leqYard.F N) := by
  rintro ⟨x, x', u⟩ hw heq
  dsimp only at hw heq ⊢
  subst heq
  have hw1 : Ty.wt T47 x.1 + (Ty.wt T49 x.2.1 + (Ty.wt T50 x.2.2.1 + (Ty.wt T51 x.2.2.2.1 + (0 + 0)))) ≤ 1048576 := hw
  have e0 : leqConfig.F N (x.1, x.1, ()) = some true := leqConfig_ok N hN (x.1, x.1, ()) (by show Ty.wt _ x.1 ≤ _; first | omega | exact Nat.zero_le _) rfl
  have e1 : leqNodeS.F N (x.2.1, x.2.1, ()) = some true := leqNodeS_ok N hN (x.2.1, x.2.1, ()) (by show Ty.wt _ x.2.1 ≤ _; first | omega | exact Nat.zero_le _) rfl
  have e2 : leqTaskS.F N (x.2.2.1, x.2.2.1, ()) = some true := leqTaskS_ok N hN (x.2.2.1, x.2.2.1, ()) (by show Ty.wt _ x.2.2.1 ≤ _; first | omega | exact Nat.zero_le _) rfl
  have e3 : leqUseS.F N (x.2.2.2.1, x.2.2.2.1, ()) = some true := leqUseS_ok N hN (x.2.2.2.1, x.2.2.2.1, ()) (by show Ty.wt _ x.2.2.2.1 ≤ _; first | omega | exact Nat.zero_le _) rfl
  simp only [leqYard.F, leqYard.T, rBind, rIte, rRet, Option.bind_some, Bool.not_true, eqI_refl, eqS_refl, Bool.false_eq_true, if_false, e0, e1, e2, e3]
theorem leqNote_ok (N : Nat) (hN : 1048577 < N) : EqOK T86 (leqNote.F N) := by
  rintro ⟨x, x', u⟩ hw heq
  dsimp only at hw heq ⊢
  subst heq
  have hw1 : 0 + (0 + 0) ≤ 1048576 := hw
  simp only [leqNote.F, leqNote.T, rBind, rIte, rRet, Option.bind_some, Bool.not_true, eqI_refl, eqS_refl, Bool.false_eq_true, if_false]
theorem leqNoteS_ok (N : Nat) (hN : 1048577 < N) : EqOK T90 (leqNoteS.F N) := EqOK.list hN (leqNote_ok N hN)
theorem leqBox_ok (N : Nat) (hN : 1048577 < N) : EqOK T91 (leqBox.F N) := by
  rintro ⟨x, x', u⟩ hw heq
  dsimp only at hw heq ⊢
  subst heq
  have hw1 : Ty.wt T89 x.1 + (Ty.wt T89 x.2.1 + (Ty.wt T90 x.2.2.1 + 0)) ≤ 1048576 := hw
  have e0 : leqInt64S.F N (x.1, x.1, ()) = some true := leqInt64S_ok N hN (x.1, x.1, ()) (by show Ty.wt _ x.1 ≤ _; first | omega | exact Nat.zero_le _) rfl
  have e1 : leqInt64S.F N (x.2.1, x.2.1, ()) = some true := leqInt64S_ok N hN (x.2.1, x.2.1, ()) (by show Ty.wt _ x.2.1 ≤ _; first | omega | exact Nat.zero_le _) rfl
  have e2 : leqNoteS.F N (x.2.2.1, x.2.2) = some true := leqNoteS_ok N hN (x.2.2.1, x.2.2) (by show Ty.wt _ x.2.2.1 ≤ _; first | omega | exact Nat.zero_le _) rfl
  simp only [leqBox.F, leqBox.T, rBind, rIte, rRet, Option.bind_some, Bool.not_true, eqI_refl, eqS_refl, Bool.false_eq_true, if_false, e0, e1, e2]
theorem leqBoxS_ok (N : Nat) (hN : 1048577 < N) : EqOK T54 (leqBoxS.F N) := EqOK.list hN (leqBox_ok N hN)
theorem leqMail_ok (N : Nat) (hN : 1048577 < N) : EqOK T55 (leqMail.F N) := by
  rintro ⟨x, x', u⟩ hw heq
  dsimp only at hw heq ⊢
  subst heq
  have hw1 : Ty.wt T54 x.1 + 0 ≤ 1048576 := hw
  have e0 : leqBoxS.F N (x.1, x) = some true := leqBoxS_ok N hN (x.1, x) (by show Ty.wt _ x.1 ≤ _; first | omega | exact Nat.zero_le _) rfl
  simp only [leqMail.F, leqMail.T, rBind, rIte, rRet, Option.bind_some, Bool.not_true, eqI_refl, eqS_refl, Bool.false_eq_true, if_false, e0]
theorem leqState_ok (N : Nat) (hN : 1048577 < N) : EqOK T57 (leqState.F N) := by
  rintro ⟨x, x', u⟩ hw heq
  dsimp only at hw heq ⊢
  subst heq
  have hw1 : Ty.wt T52 x.1 + (Ty.wt T55 x.2.1 + 0) ≤ 1048576 := hw
  have e0 : leqYard.F N (x.1, x.1, ()) = some true := leqYard_ok N hN (x.1, x.1, ()) (by show Ty.wt _ x.1 ≤ _; first | omega | exact Nat.zero_le _) rfl
  have e1 : leqMail.F N (x.2.1, x.2) = some true := leqMail_ok N hN (x.2.1, x.2) (by show Ty.wt _ x.2.1 ≤ _; first | omega | exact Nat.zero_le _) rfl
  simp only [leqState.F, leqState.T, rBind, rIte, rRet, Option.bind_some, Bool.not_true, eqI_refl, eqS_refl, Bool.false_eq_true, if_false, e0, e1]
theorem leqRegion_ok (N : Nat) (hN : 1048577 < N) : EqOK T104 (leqRegion.F N) := by
  rintro ⟨x, x', u⟩ hw heq
  dsimp only at hw heq ⊢
  subst heq
  have hw1 : (x.1).length + ((x.2.1).length + ((x.2.2.1).length + 0)) ≤ 1048576 := hw
  simp only [leqRegion.F, leqRegion.T, rBind, rIte, rRet, Option.bind_some, Bool.not_true, eqI_refl, eqS_refl, Bool.false_eq_true, if_false]
theorem leqRegionS_ok (N : Nat) (hN : 1048577 < N) : EqOK T59 (leqRegionS.F N) := EqOK.list hN (leqRegion_ok N hN)
theorem leqDisk_ok (N : Nat) (hN : 1048577 < N) : EqOK T60 (leqDisk.F N) := by
  rintro ⟨x, x', u⟩ hw heq
  dsimp only at hw heq ⊢
  subst heq
  have hw1 : Ty.wt T59 x.1 + (0 + 0) ≤ 1048576 := hw
  have e0 : leqRegionS.F N (x.1, x.1, ()) = some true := leqRegionS_ok N hN (x.1, x.1, ()) (by show Ty.wt _ x.1 ≤ _; first | omega | exact Nat.zero_le _) rfl
  simp only [leqDisk.F, leqDisk.T, rBind, rIte, rRet, Option.bind_some, Bool.not_true, eqI_refl, eqS_refl, Bool.false_eq_true, if_false, e0]
theorem leqHouse_ok (N : Nat) (hN : 1048577 < N) : EqOK T62 (leqHouse.F N) := by
  rintro ⟨x, x', u⟩ hw heq
  dsimp only at hw heq ⊢
  subst heq
  have hw1 : Ty.wt T57 x.1 + (Ty.wt T60 x.2.1 + (0 + 0)) ≤ 1048576 := hw
  have e0 : leqState.F N (x.1, x.1, ()) = some true := leqState_ok N hN (x.1, x.1, ()) (by show Ty.wt _ x.1 ≤ _; first | omega | exact Nat.zero_le _) rfl
  have e1 : leqDisk.F N (x.2.1, x.2.1, ()) = some true := leqDisk_ok N hN (x.2.1, x.2.1, ()) (by show Ty.wt _ x.2.1 ≤ _; first | omega | exact Nat.zero_le _) rfl
  simp only [leqHouse.F, leqHouse.T, rBind, rIte, rRet, Option.bind_some, Bool.not_true, eqI_refl, eqS_refl, Bool.false_eq_true, if_false, e0, e1]
end Go.Proofs.YtjnfmjeiceiciaaGreat
