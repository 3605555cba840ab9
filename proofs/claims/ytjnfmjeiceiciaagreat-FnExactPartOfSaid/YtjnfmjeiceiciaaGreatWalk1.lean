/-
What the functions are: checked by the kernel; printed by program.
-/
import Derived.Test.YtjnfmjeiceiciaaGreatWalk0
namespace Go.Proofs.YtjnfmjeiceiciaaGreat
open X
set_option linter.unusedVariables false
set_option linter.unusedSimpArgs false
set_option maxRecDepth 100000
open Go Go.RowKit Go.Shelf
def iYard_taskFits_1_p.tb (N : Nat) : Tabs := ⟨tt, fun a b c => look3 a b c [(0, 1, 2, CE.sig 164 [.d, .d] (slContains_Sint64.S N))], fun a b => look2 a b []⟩
def iYard_taskFits_1_p.S (N : Nat) : Sig := ⟨iYard_taskFits_1_p.P, iYard_taskFits_1_p.R, false, false, [], false, iYard_taskFits_1_p.F N⟩
theorem iYard_taskFits_1_p.eq (N : Nat) (x : iYard_taskFits_1_p.P.D) : topV (iYard_taskFits_1_p.tb N) 0 Tryz.f163 [.d, .ip] iYard_taskFits_1_p.P iYard_taskFits_1_p.R false false [] x = iYard_taskFits_1_p.T N x := by kernel_rfl
theorem iYard_taskFits_1_p.ok (N : Nat) : Sound Tryz.prog 163 [.d, .ip] (iYard_taskFits_1_p.S N) := by
  have hs : SigsOK Tryz.prog (iYard_taskFits_1_p.tb N) := sigs_of _ rfl ⟨slContains_Sint64.ok N, trivial⟩
  have g0 : Goods Tryz.prog (iYard_taskFits_1_p.tb N) Tryz.f163 [] := goods_nil
  exact ok_of tabOK mixed rfl hs Tryz.func163 g0 (by kernel_rfl) rfl (iYard_taskFits_1_p.eq N) (fun _ => rfl)
def slIndexFunc_iYard_taskFits_1.i0_0 : Tmpl := ⟨0, 19, [0, 1, 7, 8], [.d (some 0) T89, .fn 163 [.ip (some 1) T89], .d (some 2) (.int .i64), .d none (.int .i64)], []⟩
def slIndexFunc_iYard_taskFits_1.o0_0 : Tmpl := ⟨0, 19, [], [], []⟩
def slIndexFunc_iYard_taskFits_1.r0_0 : Tmpl := ⟨0, 19, [4], [.d none (.int .i64)], []⟩
def slIndexFunc_iYard_taskFits_1.G0_0 (N : Nat) : Frag := ⟨slIndexFunc_iYard_taskFits_1.i0_0, slIndexFunc_iYard_taskFits_1.o0_0, slIndexFunc_iYard_taskFits_1.r0_0, slIndexFunc_iYard_taskFits_1.C0_0, slIndexFunc_iYard_taskFits_1.M0_0, slIndexFunc_iYard_taskFits_1.O0_0, slIndexFunc_iYard_taskFits_1.Q0_0, slIndexFunc_iYard_taskFits_1.L0_0 N⟩
def slIndexFunc_iYard_taskFits_1.tb (N : Nat) : Tabs := ⟨tt, fun a b c => look3 a b c [(0, 4, 5, CE.sig 163 [.d, .ip] (iYard_taskFits_1_p.S N))], fun a b => look2 a b [(0, 0, slIndexFunc_iYard_taskFits_1.G0_0 N)]⟩
theorem slIndexFunc_iYard_taskFits_1.eq0_0 (N : Nat) (c : slIndexFunc_iYard_taskFits_1.C0_0.D) (m : slIndexFunc_iYard_taskFits_1.M0_0.D) : roundV (slIndexFunc_iYard_taskFits_1.tb N) 0 Tryz.f214 0 slIndexFunc_iYard_taskFits_1.i0_0 slIndexFunc_iYard_taskFits_1.o0_0 slIndexFunc_iYard_taskFits_1.r0_0 slIndexFunc_iYard_taskFits_1.M0_0 slIndexFunc_iYard_taskFits_1.O0_0 slIndexFunc_iYard_taskFits_1.Q0_0 (unpack slIndexFunc_iYard_taskFits_1.C0_0 c) m = (slIndexFunc_iYard_taskFits_1.B0_0 N c m).map (withC (stays (unpack slIndexFunc_iYard_taskFits_1.C0_0 c) [0, 1, 2]) (stays (unpack slIndexFunc_iYard_taskFits_1.C0_0 c) []) (stays (unpack slIndexFunc_iYard_taskFits_1.C0_0 c) [])) := by kernel_rfl
def slIndexFunc_iYard_taskFits_1.S (N : Nat) : Sig := ⟨slIndexFunc_iYard_taskFits_1.P, slIndexFunc_iYard_taskFits_1.R, false, false, [], false, slIndexFunc_iYard_taskFits_1.F N⟩
theorem slIndexFunc_iYard_taskFits_1.eq (N : Nat) (x : slIndexFunc_iYard_taskFits_1.P.D) : topV (slIndexFunc_iYard_taskFits_1.tb N) 0 Tryz.f214 [.d, .fn 163 1] slIndexFunc_iYard_taskFits_1.P slIndexFunc_iYard_taskFits_1.R false false [] x = slIndexFunc_iYard_taskFits_1.T N x := by kernel_rfl
theorem slIndexFunc_iYard_taskFits_1.ok (N : Nat) : Sound Tryz.prog 214 [.d, .fn 163 1] (slIndexFunc_iYard_taskFits_1.S N) := by
  have hs : SigsOK Tryz.prog (slIndexFunc_iYard_taskFits_1.tb N) := sigs_of _ rfl ⟨iYard_taskFits_1_p.ok N, trivial⟩
  have g0 : Goods Tryz.prog (slIndexFunc_iYard_taskFits_1.tb N) Tryz.f214 [] := goods_nil
  have g1 := goods_cons tabOK mixed rfl hs g0 0 (by kernel_rfl) (slIndexFunc_iYard_taskFits_1.B0_0 N) N rfl (slIndexFunc_iYard_taskFits_1.eq0_0 N)
  exact ok_of tabOK mixed rfl hs Tryz.func214 g1 (by kernel_rfl) rfl (slIndexFunc_iYard_taskFits_1.eq N) (fun _ => rfl)
def slContainsFunc_iYard_taskFits_1.tb (N : Nat) : Tabs := ⟨tt, fun a b c => look3 a b c [(0, 1, 2, CE.sig 214 [.d, .fn 163 1] (slIndexFunc_iYard_taskFits_1.S N))], fun a b => look2 a b []⟩
def slContainsFunc_iYard_taskFits_1.S (N : Nat) : Sig := ⟨slContainsFunc_iYard_taskFits_1.P, slContainsFunc_iYard_taskFits_1.R, false, false, [], false, slContainsFunc_iYard_taskFits_1.F N⟩
theorem slContainsFunc_iYard_taskFits_1.eq (N : Nat) (x : slContainsFunc_iYard_taskFits_1.P.D) : topV (slContainsFunc_iYard_taskFits_1.tb N) 0 Tryz.f162 [.d, .fn 163 1] slContainsFunc_iYard_taskFits_1.P slContainsFunc_iYard_taskFits_1.R false false [] x = slContainsFunc_iYard_taskFits_1.T N x := by kernel_rfl
theorem slContainsFunc_iYard_taskFits_1.ok (N : Nat) : Sound Tryz.prog 162 [.d, .fn 163 1] (slContainsFunc_iYard_taskFits_1.S N) := by
  have hs : SigsOK Tryz.prog (slContainsFunc_iYard_taskFits_1.tb N) := sigs_of _ rfl ⟨slIndexFunc_iYard_taskFits_1.ok N, trivial⟩
  have g0 : Goods Tryz.prog (slContainsFunc_iYard_taskFits_1.tb N) Tryz.f162 [] := goods_nil
  exact ok_of tabOK mixed rfl hs Tryz.func162 g0 (by kernel_rfl) rfl (slContainsFunc_iYard_taskFits_1.eq N) (fun _ => rfl)
def iTask_end.tb (N : Nat) : Tabs := ⟨tt, fun a b c => look3 a b c [], fun a b => look2 a b []⟩
def iTask_end.S (N : Nat) : Sig := ⟨iTask_end.P, iTask_end.R, false, false, [], false, iTask_end.F N⟩
theorem iTask_end.eq (N : Nat) (x : iTask_end.P.D) : topV (iTask_end.tb N) 0 Tryz.f165 [.d] iTask_end.P iTask_end.R false false [] x = iTask_end.T N x := by kernel_rfl
theorem iTask_end.ok (N : Nat) : Sound Tryz.prog 165 [.d] (iTask_end.S N) := by
  have hs : SigsOK Tryz.prog (iTask_end.tb N) := sigs_of _ rfl trivial
  have g0 : Goods Tryz.prog (iTask_end.tb N) Tryz.f165 [] := goods_nil
  exact ok_of tabOK mixed rfl hs Tryz.func165 g0 (by kernel_rfl) rfl (iTask_end.eq N) (fun _ => rfl)
def iYard_taskFits.tb (N : Nat) : Tabs := ⟨tt, fun a b c => look3 a b c [(0, 1, 4, CE.sig 161 [.d, .d] (iConfig_clearFor.S N)), (0, 4, 3, CE.sig 162 [.d, .fn 163 1] (slContainsFunc_iYard_taskFits_1.S N)), (0, 7, 9, CE.sig 165 [.d] (iTask_end.S N)), (0, 8, 1, CE.sig 166 [.d] (iTask_hasPlace.S N)), (0, 9, 8, CE.sig 34 [.d, .d, .d] (iwithin.S N))], fun a b => look2 a b []⟩
def iYard_taskFits.S (N : Nat) : Sig := ⟨iYard_taskFits.P, iYard_taskFits.R, false, false, [], false, iYard_taskFits.F N⟩
theorem iYard_taskFits.eq (N : Nat) (x : iYard_taskFits.P.D) : topV (iYard_taskFits.tb N) 0 Tryz.f92 [.d, .d] iYard_taskFits.P iYard_taskFits.R false false [] x = iYard_taskFits.T N x := by kernel_rfl
theorem iYard_taskFits.ok (N : Nat) : Sound Tryz.prog 92 [.d, .d] (iYard_taskFits.S N) := by
  have hs : SigsOK Tryz.prog (iYard_taskFits.tb N) := sigs_of _ rfl ⟨iConfig_clearFor.ok N, slContainsFunc_iYard_taskFits_1.ok N, iTask_end.ok N, iTask_hasPlace.ok N, iwithin.ok N, trivial⟩
  have g0 : Goods Tryz.prog (iYard_taskFits.tb N) Tryz.f92 [] := goods_nil
  exact ok_of tabOK mixed rfl hs Tryz.func92 g0 (by kernel_rfl) rfl (iYard_taskFits.eq N) (fun _ => rfl)
def iTask_isLive.tb (N : Nat) : Tabs := ⟨tt, fun a b c => look3 a b c [(0, 1, 2, CE.sig 34 [.d, .d, .d] (iwithin.S N))], fun a b => look2 a b []⟩
def iTask_isLive.S (N : Nat) : Sig := ⟨iTask_isLive.P, iTask_isLive.R, false, false, [], false, iTask_isLive.F N⟩
theorem iTask_isLive.eq (N : Nat) (x : iTask_isLive.P.D) : topV (iTask_isLive.tb N) 0 Tryz.f168 [.d] iTask_isLive.P iTask_isLive.R false false [] x = iTask_isLive.T N x := by kernel_rfl
theorem iTask_isLive.ok (N : Nat) : Sound Tryz.prog 168 [.d] (iTask_isLive.S N) := by
  have hs : SigsOK Tryz.prog (iTask_isLive.tb N) := sigs_of _ rfl ⟨iwithin.ok N, trivial⟩
  have g0 : Goods Tryz.prog (iTask_isLive.tb N) Tryz.f168 [] := goods_nil
  exact ok_of tabOK mixed rfl hs Tryz.func168 g0 (by kernel_rfl) rfl (iTask_isLive.eq N) (fun _ => rfl)
def iliveOf.i0_0 : Tmpl := ⟨1, 26, [3, 5, 8, 9, 10], [.cp 0 0, .d none (.int .i64), .d (some 0) T50, .d (some 1) (.int .i64), .d none (.int .i64)], [.cells [.d (some 2) (.int .i64), .d (some 3) (.int .i64)]]⟩
def iliveOf.o0_0 : Tmpl := ⟨1, 26, [5], [.d none (.int .i64)], [.dead]⟩
def iliveOf.r0_0 : Tmpl := ⟨0, 0, [], [.d (some 9999) .unit], []⟩
def iliveOf.G0_0 (N : Nat) : Frag := ⟨iliveOf.i0_0, iliveOf.o0_0, iliveOf.r0_0, iliveOf.C0_0, iliveOf.M0_0, iliveOf.O0_0, iliveOf.Q0_0, iliveOf.L0_0 N⟩
def iliveOf.tb (N : Nat) : Tabs := ⟨tt, fun a b c => look3 a b c [(0, 5, 6, CE.sig 168 [.d] (iTask_isLive.S N))], fun a b => look2 a b [(0, 0, iliveOf.G0_0 N)]⟩
theorem iliveOf.eq0_0 (N : Nat) (c : iliveOf.C0_0.D) (m : iliveOf.M0_0.D) : roundV (iliveOf.tb N) 0 Tryz.f95 0 iliveOf.i0_0 iliveOf.o0_0 iliveOf.r0_0 iliveOf.M0_0 iliveOf.O0_0 iliveOf.Q0_0 (unpack iliveOf.C0_0 c) m = (iliveOf.B0_0 N c m).map (withC (stays (unpack iliveOf.C0_0 c) [0, 1, 2, 3]) (stays (unpack iliveOf.C0_0 c) []) (stays (unpack iliveOf.C0_0 c) [])) := by kernel_rfl
def iliveOf.S (N : Nat) : Sig := ⟨iliveOf.P, iliveOf.R, false, false, [], false, iliveOf.F N⟩
theorem iliveOf.eq (N : Nat) (x : iliveOf.P.D) : topV (iliveOf.tb N) 0 Tryz.f95 [.d, .d] iliveOf.P iliveOf.R false false [] x = iliveOf.T N x := by kernel_rfl
theorem iliveOf.ok (N : Nat) : Sound Tryz.prog 95 [.d, .d] (iliveOf.S N) := by
  have hs : SigsOK Tryz.prog (iliveOf.tb N) := sigs_of _ rfl ⟨iTask_isLive.ok N, trivial⟩
  have g0 : Goods Tryz.prog (iliveOf.tb N) Tryz.f95 [] := goods_nil
  have g1 := goods_cons tabOK mixed rfl hs g0 0 (by kernel_rfl) (iliveOf.B0_0 N) N rfl (iliveOf.eq0_0 N)
  exact ok_of tabOK mixed rfl hs Tryz.func95 g1 (by kernel_rfl) rfl (iliveOf.eq N) (fun _ => rfl)
def iQuotaOf.i0_0 : Tmpl := ⟨3, 31, [3, 18, 19, 20], [.cp 1 0, .d (some 0) T46, .d (some 1) (.int .i64), .d none (.int .i64)], [.dead, .cells [.d (some 2) (.int .i64), .d (some 3) (.int .i64)], .dead]⟩
def iQuotaOf.o0_0 : Tmpl := ⟨3, 31, [], [], [.dead, .dead, .dead]⟩
def iQuotaOf.r0_0 : Tmpl := ⟨3, 31, [4], [.d none (.int .i64)], [.dead, .dead, .dead]⟩
def iQuotaOf.G0_0 (N : Nat) : Frag := ⟨iQuotaOf.i0_0, iQuotaOf.o0_0, iQuotaOf.r0_0, iQuotaOf.C0_0, iQuotaOf.M0_0, iQuotaOf.O0_0, iQuotaOf.Q0_0, iQuotaOf.L0_0 N⟩
def iQuotaOf.tb (N : Nat) : Tabs := ⟨tt, fun a b c => look3 a b c [(0, 1, 1, CE.sig 87 [.d] (iConfigRight.S N)), (0, 1, 6, CE.sig 161 [.d, .d] (iConfig_clearFor.S N))], fun a b => look2 a b [(0, 0, iQuotaOf.G0_0 N)]⟩
theorem iQuotaOf.eq0_0 (N : Nat) (c : iQuotaOf.C0_0.D) (m : iQuotaOf.M0_0.D) : roundV (iQuotaOf.tb N) 0 Tryz.f96 0 iQuotaOf.i0_0 iQuotaOf.o0_0 iQuotaOf.r0_0 iQuotaOf.M0_0 iQuotaOf.O0_0 iQuotaOf.Q0_0 (unpack iQuotaOf.C0_0 c) m = (iQuotaOf.B0_0 N c m).map (withC (stays (unpack iQuotaOf.C0_0 c) [0, 1, 2, 3]) (stays (unpack iQuotaOf.C0_0 c) []) (stays (unpack iQuotaOf.C0_0 c) [])) := by kernel_rfl
def iQuotaOf.S (N : Nat) : Sig := ⟨iQuotaOf.P, iQuotaOf.R, false, false, [], false, iQuotaOf.F N⟩
theorem iQuotaOf.eq (N : Nat) (x : iQuotaOf.P.D) : topV (iQuotaOf.tb N) 0 Tryz.f96 [.d, .d] iQuotaOf.P iQuotaOf.R false false [] x = iQuotaOf.T N x := by kernel_rfl
theorem iQuotaOf.ok (N : Nat) : Sound Tryz.prog 96 [.d, .d] (iQuotaOf.S N) := by
  have hs : SigsOK Tryz.prog (iQuotaOf.tb N) := sigs_of _ rfl ⟨iConfigRight.ok N, iConfig_clearFor.ok N, trivial⟩
  have g0 : Goods Tryz.prog (iQuotaOf.tb N) Tryz.f96 [] := goods_nil
  have g1 := goods_cons tabOK mixed rfl hs g0 0 (by kernel_rfl) (iQuotaOf.B0_0 N) N rfl (iQuotaOf.eq0_0 N)
  exact ok_of tabOK mixed rfl hs Tryz.func96 g1 (by kernel_rfl) rfl (iQuotaOf.eq N) (fun _ => rfl)
def iYardRight_1_p.tb (N : Nat) : Tabs := ⟨tt, fun a b c => look3 a b c [(0, 1, 3, CE.sig 95 [.d, .d] (iliveOf.S N)), (0, 1, 7, CE.sig 96 [.d, .d] (iQuotaOf.S N))], fun a b => look2 a b []⟩
def iYardRight_1_p.S (N : Nat) : Sig := ⟨iYardRight_1_p.P, iYardRight_1_p.R, false, false, [], false, iYardRight_1_p.F N⟩
theorem iYardRight_1_p.eq (N : Nat) (x : iYardRight_1_p.P.D) : topV (iYardRight_1_p.tb N) 0 Tryz.f94 [.d, .ip] iYardRight_1_p.P iYardRight_1_p.R false false [] x = iYardRight_1_p.T N x := by kernel_rfl
theorem iYardRight_1_p.ok (N : Nat) : Sound Tryz.prog 94 [.d, .ip] (iYardRight_1_p.S N) := by
  have hs : SigsOK Tryz.prog (iYardRight_1_p.tb N) := sigs_of _ rfl ⟨iliveOf.ok N, iQuotaOf.ok N, trivial⟩
  have g0 : Goods Tryz.prog (iYardRight_1_p.tb N) Tryz.f94 [] := goods_nil
  exact ok_of tabOK mixed rfl hs Tryz.func94 g0 (by kernel_rfl) rfl (iYardRight_1_p.eq N) (fun _ => rfl)
def slIndexFunc_iYardRight_1.i0_0 : Tmpl := ⟨0, 19, [0, 1, 7, 8], [.d (some 0) T82, .fn 94 [.ip (some 1) T52], .d (some 2) (.int .i64), .d none (.int .i64)], []⟩
def slIndexFunc_iYardRight_1.o0_0 : Tmpl := ⟨0, 19, [], [], []⟩
def slIndexFunc_iYardRight_1.r0_0 : Tmpl := ⟨0, 19, [4], [.d none (.int .i64)], []⟩
def slIndexFunc_iYardRight_1.G0_0 (N : Nat) : Frag := ⟨slIndexFunc_iYardRight_1.i0_0, slIndexFunc_iYardRight_1.o0_0, slIndexFunc_iYardRight_1.r0_0, slIndexFunc_iYardRight_1.C0_0, slIndexFunc_iYardRight_1.M0_0, slIndexFunc_iYardRight_1.O0_0, slIndexFunc_iYardRight_1.Q0_0, slIndexFunc_iYardRight_1.L0_0 N⟩
def slIndexFunc_iYardRight_1.tb (N : Nat) : Tabs := ⟨tt, fun a b c => look3 a b c [(0, 4, 5, CE.sig 94 [.d, .ip] (iYardRight_1_p.S N))], fun a b => look2 a b [(0, 0, slIndexFunc_iYardRight_1.G0_0 N)]⟩
theorem slIndexFunc_iYardRight_1.eq0_0 (N : Nat) (c : slIndexFunc_iYardRight_1.C0_0.D) (m : slIndexFunc_iYardRight_1.M0_0.D) : roundV (slIndexFunc_iYardRight_1.tb N) 0 Tryz.f167 0 slIndexFunc_iYardRight_1.i0_0 slIndexFunc_iYardRight_1.o0_0 slIndexFunc_iYardRight_1.r0_0 slIndexFunc_iYardRight_1.M0_0 slIndexFunc_iYardRight_1.O0_0 slIndexFunc_iYardRight_1.Q0_0 (unpack slIndexFunc_iYardRight_1.C0_0 c) m = (slIndexFunc_iYardRight_1.B0_0 N c m).map (withC (stays (unpack slIndexFunc_iYardRight_1.C0_0 c) [0, 1, 2]) (stays (unpack slIndexFunc_iYardRight_1.C0_0 c) []) (stays (unpack slIndexFunc_iYardRight_1.C0_0 c) [])) := by kernel_rfl
def slIndexFunc_iYardRight_1.S (N : Nat) : Sig := ⟨slIndexFunc_iYardRight_1.P, slIndexFunc_iYardRight_1.R, false, false, [], false, slIndexFunc_iYardRight_1.F N⟩
theorem slIndexFunc_iYardRight_1.eq (N : Nat) (x : slIndexFunc_iYardRight_1.P.D) : topV (slIndexFunc_iYardRight_1.tb N) 0 Tryz.f167 [.d, .fn 94 1] slIndexFunc_iYardRight_1.P slIndexFunc_iYardRight_1.R false false [] x = slIndexFunc_iYardRight_1.T N x := by kernel_rfl
theorem slIndexFunc_iYardRight_1.ok (N : Nat) : Sound Tryz.prog 167 [.d, .fn 94 1] (slIndexFunc_iYardRight_1.S N) := by
  have hs : SigsOK Tryz.prog (slIndexFunc_iYardRight_1.tb N) := sigs_of _ rfl ⟨iYardRight_1_p.ok N, trivial⟩
  have g0 : Goods Tryz.prog (slIndexFunc_iYardRight_1.tb N) Tryz.f167 [] := goods_nil
  have g1 := goods_cons tabOK mixed rfl hs g0 0 (by kernel_rfl) (slIndexFunc_iYardRight_1.B0_0 N) N rfl (slIndexFunc_iYardRight_1.eq0_0 N)
  exact ok_of tabOK mixed rfl hs Tryz.func167 g1 (by kernel_rfl) rfl (slIndexFunc_iYardRight_1.eq N) (fun _ => rfl)
def slContainsFunc_iYardRight_1.tb (N : Nat) : Tabs := ⟨tt, fun a b c => look3 a b c [(0, 1, 2, CE.sig 167 [.d, .fn 94 1] (slIndexFunc_iYardRight_1.S N))], fun a b => look2 a b []⟩
def slContainsFunc_iYardRight_1.S (N : Nat) : Sig := ⟨slContainsFunc_iYardRight_1.P, slContainsFunc_iYardRight_1.R, false, false, [], false, slContainsFunc_iYardRight_1.F N⟩
theorem slContainsFunc_iYardRight_1.eq (N : Nat) (x : slContainsFunc_iYardRight_1.P.D) : topV (slContainsFunc_iYardRight_1.tb N) 0 Tryz.f93 [.d, .fn 94 1] slContainsFunc_iYardRight_1.P slContainsFunc_iYardRight_1.R false false [] x = slContainsFunc_iYardRight_1.T N x := by kernel_rfl
theorem slContainsFunc_iYardRight_1.ok (N : Nat) : Sound Tryz.prog 93 [.d, .fn 94 1] (slContainsFunc_iYardRight_1.S N) := by
  have hs : SigsOK Tryz.prog (slContainsFunc_iYardRight_1.tb N) := sigs_of _ rfl ⟨slIndexFunc_iYardRight_1.ok N, trivial⟩
  have g0 : Goods Tryz.prog (slContainsFunc_iYardRight_1.tb N) Tryz.f93 [] := goods_nil
  exact ok_of tabOK mixed rfl hs Tryz.func93 g0 (by kernel_rfl) rfl (slContainsFunc_iYardRight_1.eq N) (fun _ => rfl)
def iYardRight_2_p.tb (N : Nat) : Tabs := ⟨tt, fun a b c => look3 a b c [(0, 1, 3, CE.sig 99 [.d, .d] (slContains_SLabel.S N))], fun a b => look2 a b []⟩
def iYardRight_2_p.S (N : Nat) : Sig := ⟨iYardRight_2_p.P, iYardRight_2_p.R, false, false, [], false, iYardRight_2_p.F N⟩
theorem iYardRight_2_p.eq (N : Nat) (x : iYardRight_2_p.P.D) : topV (iYardRight_2_p.tb N) 0 Tryz.f98 [.d, .ip] iYardRight_2_p.P iYardRight_2_p.R false false [] x = iYardRight_2_p.T N x := by kernel_rfl
theorem iYardRight_2_p.ok (N : Nat) : Sound Tryz.prog 98 [.d, .ip] (iYardRight_2_p.S N) := by
  have hs : SigsOK Tryz.prog (iYardRight_2_p.tb N) := sigs_of _ rfl ⟨slContains_SLabel.ok N, trivial⟩
  have g0 : Goods Tryz.prog (iYardRight_2_p.tb N) Tryz.f98 [] := goods_nil
  exact ok_of tabOK mixed rfl hs Tryz.func98 g0 (by kernel_rfl) rfl (iYardRight_2_p.eq N) (fun _ => rfl)
def slIndexFunc_iYardRight_2.i0_0 : Tmpl := ⟨0, 19, [0, 1, 7, 8], [.d (some 0) T51, .fn 98 [.ip (some 1) T82], .d (some 2) (.int .i64), .d none (.int .i64)], []⟩
def slIndexFunc_iYardRight_2.o0_0 : Tmpl := ⟨0, 19, [], [], []⟩
def slIndexFunc_iYardRight_2.r0_0 : Tmpl := ⟨0, 19, [4], [.d none (.int .i64)], []⟩
def slIndexFunc_iYardRight_2.G0_0 (N : Nat) : Frag := ⟨slIndexFunc_iYardRight_2.i0_0, slIndexFunc_iYardRight_2.o0_0, slIndexFunc_iYardRight_2.r0_0, slIndexFunc_iYardRight_2.C0_0, slIndexFunc_iYardRight_2.M0_0, slIndexFunc_iYardRight_2.O0_0, slIndexFunc_iYardRight_2.Q0_0, slIndexFunc_iYardRight_2.L0_0 N⟩
def slIndexFunc_iYardRight_2.tb (N : Nat) : Tabs := ⟨tt, fun a b c => look3 a b c [(0, 4, 5, CE.sig 98 [.d, .ip] (iYardRight_2_p.S N))], fun a b => look2 a b [(0, 0, slIndexFunc_iYardRight_2.G0_0 N)]⟩
theorem slIndexFunc_iYardRight_2.eq0_0 (N : Nat) (c : slIndexFunc_iYardRight_2.C0_0.D) (m : slIndexFunc_iYardRight_2.M0_0.D) : roundV (slIndexFunc_iYardRight_2.tb N) 0 Tryz.f169 0 slIndexFunc_iYardRight_2.i0_0 slIndexFunc_iYardRight_2.o0_0 slIndexFunc_iYardRight_2.r0_0 slIndexFunc_iYardRight_2.M0_0 slIndexFunc_iYardRight_2.O0_0 slIndexFunc_iYardRight_2.Q0_0 (unpack slIndexFunc_iYardRight_2.C0_0 c) m = (slIndexFunc_iYardRight_2.B0_0 N c m).map (withC (stays (unpack slIndexFunc_iYardRight_2.C0_0 c) [0, 1, 2]) (stays (unpack slIndexFunc_iYardRight_2.C0_0 c) []) (stays (unpack slIndexFunc_iYardRight_2.C0_0 c) [])) := by kernel_rfl
def slIndexFunc_iYardRight_2.S (N : Nat) : Sig := ⟨slIndexFunc_iYardRight_2.P, slIndexFunc_iYardRight_2.R, false, false, [], false, slIndexFunc_iYardRight_2.F N⟩
theorem slIndexFunc_iYardRight_2.eq (N : Nat) (x : slIndexFunc_iYardRight_2.P.D) : topV (slIndexFunc_iYardRight_2.tb N) 0 Tryz.f169 [.d, .fn 98 1] slIndexFunc_iYardRight_2.P slIndexFunc_iYardRight_2.R false false [] x = slIndexFunc_iYardRight_2.T N x := by kernel_rfl
theorem slIndexFunc_iYardRight_2.ok (N : Nat) : Sound Tryz.prog 169 [.d, .fn 98 1] (slIndexFunc_iYardRight_2.S N) := by
  have hs : SigsOK Tryz.prog (slIndexFunc_iYardRight_2.tb N) := sigs_of _ rfl ⟨iYardRight_2_p.ok N, trivial⟩
  have g0 : Goods Tryz.prog (slIndexFunc_iYardRight_2.tb N) Tryz.f169 [] := goods_nil
  have g1 := goods_cons tabOK mixed rfl hs g0 0 (by kernel_rfl) (slIndexFunc_iYardRight_2.B0_0 N) N rfl (slIndexFunc_iYardRight_2.eq0_0 N)
  exact ok_of tabOK mixed rfl hs Tryz.func169 g1 (by kernel_rfl) rfl (slIndexFunc_iYardRight_2.eq N) (fun _ => rfl)
def slContainsFunc_iYardRight_2.tb (N : Nat) : Tabs := ⟨tt, fun a b c => look3 a b c [(0, 1, 2, CE.sig 169 [.d, .fn 98 1] (slIndexFunc_iYardRight_2.S N))], fun a b => look2 a b []⟩
def slContainsFunc_iYardRight_2.S (N : Nat) : Sig := ⟨slContainsFunc_iYardRight_2.P, slContainsFunc_iYardRight_2.R, false, false, [], false, slContainsFunc_iYardRight_2.F N⟩
theorem slContainsFunc_iYardRight_2.eq (N : Nat) (x : slContainsFunc_iYardRight_2.P.D) : topV (slContainsFunc_iYardRight_2.tb N) 0 Tryz.f97 [.d, .fn 98 1] slContainsFunc_iYardRight_2.P slContainsFunc_iYardRight_2.R false false [] x = slContainsFunc_iYardRight_2.T N x := by kernel_rfl
theorem slContainsFunc_iYardRight_2.ok (N : Nat) : Sound Tryz.prog 97 [.d, .fn 98 1] (slContainsFunc_iYardRight_2.S N) := by
  have hs : SigsOK Tryz.prog (slContainsFunc_iYardRight_2.tb N) := sigs_of _ rfl ⟨slIndexFunc_iYardRight_2.ok N, trivial⟩
  have g0 : Goods Tryz.prog (slContainsFunc_iYardRight_2.tb N) Tryz.f97 [] := goods_nil
  exact ok_of tabOK mixed rfl hs Tryz.func97 g0 (by kernel_rfl) rfl (slContainsFunc_iYardRight_2.eq N) (fun _ => rfl)
def iYardRight.i0_4 : Tmpl := ⟨3, 97, [1, 3, 5, 49, 50, 51, 60, 61, 62], [.cp 0 0, .ap 1, .cp 2 0, .d (some 0) T50, .d (some 1) (.int .i64), .d (some 2) (.int .i64), .d (some 3) T89, .d (some 4) (.int .i64), .d none (.int .i64)], [.cells [.d (some 5) T44, .d (some 6) T45, .d (some 7) T46, .d (some 8) (.int .i64), .d (some 9) T49, .d (some 10) T50, .d (some 11) T51, .d (some 12) (.int .i64)], .arr none .bool, .cells [.d (some 13) (.int .i64), .d (some 14) (.int .i64), .d (some 15) (.int .i64), .d (some 16) .str, .d (some 17) (.int .i64), .d (some 18) (.int .i64), .d (some 19) (.int .i64), .d (some 20) (.int .i64), .d (some 21) (.int .i64), .d (some 22) (.int .i64), .d (some 23) (.int .i64), .d (some 24) (.int .i64), .d (some 25) (.int .i64), .d (some 26) T89]]⟩
def iYardRight.o0_4 : Tmpl := ⟨3, 97, [1, 3, 49, 50, 51], [.cp 0 0, .ap 1, .d (some 0) T50, .d (some 1) (.int .i64), .d (some 2) (.int .i64)], [.cells [.d (some 5) T44, .d (some 6) T45, .d (some 7) T46, .d (some 8) (.int .i64), .d (some 9) T49, .d (some 10) T50, .d (some 11) T51, .d (some 12) (.int .i64)], .arr none .bool, .dead]⟩
def iYardRight.r0_4 : Tmpl := ⟨3, 97, [2], [.d none .bool], [.dead, .dead, .dead]⟩
def iYardRight.G0_4 (N : Nat) : Frag := ⟨iYardRight.i0_4, iYardRight.o0_4, iYardRight.r0_4, iYardRight.C0_4, iYardRight.M0_4, iYardRight.O0_4, iYardRight.Q0_4, iYardRight.L0_4 N⟩
def iYardRight.i0_0 : Tmpl := ⟨2, 97, [1, 3, 49, 50, 51], [.cp 0 0, .ap 1, .d (some 0) T50, .d (some 1) (.int .i64), .d none (.int .i64)], [.cells [.d (some 2) T44, .d (some 3) T45, .d (some 4) T46, .d (some 5) (.int .i64), .d (some 6) T49, .d (some 7) T50, .d (some 8) T51, .d (some 9) (.int .i64)], .arr none .bool]⟩
def iYardRight.o0_0 : Tmpl := ⟨2, 97, [1], [.cp 0 0], [.cells [.d (some 2) T44, .d (some 3) T45, .d (some 4) T46, .d (some 5) (.int .i64), .d (some 6) T49, .d (some 7) T50, .d (some 8) T51, .d (some 9) (.int .i64)], .dead]⟩
def iYardRight.r0_0 : Tmpl := ⟨2, 97, [2], [.d none .bool], [.dead, .dead]⟩
def iYardRight.G0_0 (N : Nat) : Frag := ⟨iYardRight.i0_0, iYardRight.o0_0, iYardRight.r0_0, iYardRight.C0_0, iYardRight.M0_0, iYardRight.O0_0, iYardRight.Q0_0, iYardRight.L0_0 N⟩
def iYardRight.tb (N : Nat) : Tabs := ⟨tt, fun a b c => look3 a b c [(0, 1, 2, CE.sig 87 [.d] (iConfigRight.S N)), (0, 1, 17, CE.sig 88 [.d] (iNodesRight.S N)), (0, 1, 23, CE.sig 89 [.d] (iTasksRight.S N)), (0, 1, 29, CE.sig 90 [.d] (iUsesRight.S N)), (0, 1, 35, CE.sig 91 [.d] (iisNow.S N)), (0, 7, 2, CE.sig 92 [.d, .d] (iYard_taskFits.S N)), (0, 17, 2, CE.sig 51 [.d] (iConfig_labels.S N)), (0, 18, 2, CE.sig 93 [.d, .fn 94 1] (slContainsFunc_iYardRight_1.S N)), (0, 20, 3, CE.sig 97 [.d, .fn 98 1] (slContainsFunc_iYardRight_2.S N))], fun a b => look2 a b [(0, 4, iYardRight.G0_4 N), (0, 0, iYardRight.G0_0 N)]⟩
theorem iYardRight.eq0_4 (N : Nat) (c : iYardRight.C0_4.D) (m : iYardRight.M0_4.D) : roundV (iYardRight.tb N) 0 Tryz.f43 2 iYardRight.i0_4 iYardRight.o0_4 iYardRight.r0_4 iYardRight.M0_4 iYardRight.O0_4 iYardRight.Q0_4 (unpack iYardRight.C0_4 c) m = (iYardRight.B0_4 N c m).map (withC (stays (unpack iYardRight.C0_4 c) [0, 1, 2, 3, 4, 5, 6, 7, 8, 9, 10, 11, 12, 13, 14, 15, 16, 17, 18, 19, 20, 21, 22, 23, 24, 25, 26]) (stays (unpack iYardRight.C0_4 c) [0, 1, 2, 5, 6, 7, 8, 9, 10, 11, 12]) (stays (unpack iYardRight.C0_4 c) [])) := by kernel_rfl
theorem iYardRight.eq0_0 (N : Nat) (c : iYardRight.C0_0.D) (m : iYardRight.M0_0.D) : roundV (iYardRight.tb N) 0 Tryz.f43 0 iYardRight.i0_0 iYardRight.o0_0 iYardRight.r0_0 iYardRight.M0_0 iYardRight.O0_0 iYardRight.Q0_0 (unpack iYardRight.C0_0 c) m = (iYardRight.B0_0 N c m).map (withC (stays (unpack iYardRight.C0_0 c) [0, 1, 2, 3, 4, 5, 6, 7, 8, 9]) (stays (unpack iYardRight.C0_0 c) [2, 3, 4, 5, 6, 7, 8, 9]) (stays (unpack iYardRight.C0_0 c) [])) := by kernel_rfl
def iYardRight.S (N : Nat) : Sig := ⟨iYardRight.P, iYardRight.R, false, false, [], false, iYardRight.F N⟩
theorem iYardRight.eq (N : Nat) (x : iYardRight.P.D) : topV (iYardRight.tb N) 0 Tryz.f43 [.d] iYardRight.P iYardRight.R false false [] x = iYardRight.T N x := by kernel_rfl
theorem iYardRight.ok (N : Nat) : Sound Tryz.prog 43 [.d] (iYardRight.S N) := by
  have hs : SigsOK Tryz.prog (iYardRight.tb N) := sigs_of _ rfl ⟨iConfigRight.ok N, iNodesRight.ok N, iTasksRight.ok N, iUsesRight.ok N, iisNow.ok N, iYard_taskFits.ok N, iConfig_labels.ok N, slContainsFunc_iYardRight_1.ok N, slContainsFunc_iYardRight_2.ok N, trivial⟩
  have g0 : Goods Tryz.prog (iYardRight.tb N) Tryz.f43 [] := goods_nil
  have g1 := goods_cons tabOK mixed rfl hs g0 2 (by kernel_rfl) (iYardRight.B0_4 N) N rfl (iYardRight.eq0_4 N)
  have g2 := goods_cons tabOK mixed rfl hs g1 0 (by kernel_rfl) (iYardRight.B0_0 N) N rfl (iYardRight.eq0_0 N)
  exact ok_of tabOK mixed rfl hs Tryz.func43 g2 (by kernel_rfl) rfl (iYardRight.eq N) (fun _ => rfl)
def inotesRight.i0_0 : Tmpl := ⟨0, 35, [0, 5, 6, 7], [.d (some 0) T90, .d (some 1) T90, .d (some 2) (.int .i64), .d none (.int .i64)], []⟩
def inotesRight.o0_0 : Tmpl := ⟨0, 35, [0], [.d (some 0) T90], []⟩
def inotesRight.r0_0 : Tmpl := ⟨0, 35, [2], [.d none .bool], []⟩
def inotesRight.G0_0 (N : Nat) : Frag := ⟨inotesRight.i0_0, inotesRight.o0_0, inotesRight.r0_0, inotesRight.C0_0, inotesRight.M0_0, inotesRight.O0_0, inotesRight.Q0_0, inotesRight.L0_0 N⟩
def inotesRight.tb (N : Nat) : Tabs := ⟨tt, fun a b c => look3 a b c [(0, 4, 2, CE.sig 91 [.d] (iisNow.S N))], fun a b => look2 a b [(0, 0, inotesRight.G0_0 N)]⟩
theorem inotesRight.eq0_0 (N : Nat) (c : inotesRight.C0_0.D) (m : inotesRight.M0_0.D) : roundV (inotesRight.tb N) 0 Tryz.f100 0 inotesRight.i0_0 inotesRight.o0_0 inotesRight.r0_0 inotesRight.M0_0 inotesRight.O0_0 inotesRight.Q0_0 (unpack inotesRight.C0_0 c) m = (inotesRight.B0_0 N c m).map (withC (stays (unpack inotesRight.C0_0 c) [0, 1, 2]) (stays (unpack inotesRight.C0_0 c) [0]) (stays (unpack inotesRight.C0_0 c) [])) := by kernel_rfl
def inotesRight.S (N : Nat) : Sig := ⟨inotesRight.P, inotesRight.R, false, false, [], false, inotesRight.F N⟩
theorem inotesRight.eq (N : Nat) (x : inotesRight.P.D) : topV (inotesRight.tb N) 0 Tryz.f100 [.d] inotesRight.P inotesRight.R false false [] x = inotesRight.T N x := by kernel_rfl
theorem inotesRight.ok (N : Nat) : Sound Tryz.prog 100 [.d] (inotesRight.S N) := by
  have hs : SigsOK Tryz.prog (inotesRight.tb N) := sigs_of _ rfl ⟨iisNow.ok N, trivial⟩
  have g0 : Goods Tryz.prog (inotesRight.tb N) Tryz.f100 [] := goods_nil
  have g1 := goods_cons tabOK mixed rfl hs g0 0 (by kernel_rfl) (inotesRight.B0_0 N) N rfl (inotesRight.eq0_0 N)
  exact ok_of tabOK mixed rfl hs Tryz.func100 g1 (by kernel_rfl) rfl (inotesRight.eq N) (fun _ => rfl)
def iMailRight.i0_0 : Tmpl := ⟨2, 53, [2, 21, 22, 23], [.cp 0 0, .d (some 0) T54, .d (some 1) (.int .i64), .d none (.int .i64)], [.cells [.d (some 2) T44, .d (some 3) T45, .d (some 4) T46, .d (some 5) (.int .i64)], .dead]⟩
def iMailRight.o0_0 : Tmpl := ⟨2, 53, [], [], [.dead, .dead]⟩
def iMailRight.r0_0 : Tmpl := ⟨2, 53, [4], [.d none .bool], [.dead, .dead]⟩
def iMailRight.G0_0 (N : Nat) : Frag := ⟨iMailRight.i0_0, iMailRight.o0_0, iMailRight.r0_0, iMailRight.C0_0, iMailRight.M0_0, iMailRight.O0_0, iMailRight.Q0_0, iMailRight.L0_0 N⟩
def iMailRight.tb (N : Nat) : Tabs := ⟨tt, fun a b c => look3 a b c [(0, 1, 1, CE.sig 87 [.d] (iConfigRight.S N)), (0, 7, 15, CE.sig 100 [.d] (inotesRight.S N))], fun a b => look2 a b [(0, 0, iMailRight.G0_0 N)]⟩
theorem iMailRight.eq0_0 (N : Nat) (c : iMailRight.C0_0.D) (m : iMailRight.M0_0.D) : roundV (iMailRight.tb N) 0 Tryz.f44 0 iMailRight.i0_0 iMailRight.o0_0 iMailRight.r0_0 iMailRight.M0_0 iMailRight.O0_0 iMailRight.Q0_0 (unpack iMailRight.C0_0 c) m = (iMailRight.B0_0 N c m).map (withC (stays (unpack iMailRight.C0_0 c) [0, 1, 2, 3, 4, 5]) (stays (unpack iMailRight.C0_0 c) []) (stays (unpack iMailRight.C0_0 c) [])) := by kernel_rfl
def iMailRight.S (N : Nat) : Sig := ⟨iMailRight.P, iMailRight.R, false, false, [], false, iMailRight.F N⟩
theorem iMailRight.eq (N : Nat) (x : iMailRight.P.D) : topV (iMailRight.tb N) 0 Tryz.f44 [.d, .d] iMailRight.P iMailRight.R false false [] x = iMailRight.T N x := by kernel_rfl
theorem iMailRight.ok (N : Nat) : Sound Tryz.prog 44 [.d, .d] (iMailRight.S N) := by
  have hs : SigsOK Tryz.prog (iMailRight.tb N) := sigs_of _ rfl ⟨iConfigRight.ok N, inotesRight.ok N, trivial⟩
  have g0 : Goods Tryz.prog (iMailRight.tb N) Tryz.f44 [] := goods_nil
  have g1 := goods_cons tabOK mixed rfl hs g0 0 (by kernel_rfl) (iMailRight.B0_0 N) N rfl (iMailRight.eq0_0 N)
  exact ok_of tabOK mixed rfl hs Tryz.func44 g1 (by kernel_rfl) rfl (iMailRight.eq N) (fun _ => rfl)
def iStateRight_1_1_p.tb (N : Nat) : Tabs := ⟨tt, fun a b c => look3 a b c [], fun a b => look2 a b []⟩
def iStateRight_1_1_p.S (N : Nat) : Sig := ⟨iStateRight_1_1_p.P, iStateRight_1_1_p.R, false, false, [], false, iStateRight_1_1_p.F N⟩
theorem iStateRight_1_1_p.eq (N : Nat) (x : iStateRight_1_1_p.P.D) : topV (iStateRight_1_1_p.tb N) 0 Tryz.f48 [.d, .ip] iStateRight_1_1_p.P iStateRight_1_1_p.R false false [] x = iStateRight_1_1_p.T N x := by kernel_rfl
theorem iStateRight_1_1_p.ok (N : Nat) : Sound Tryz.prog 48 [.d, .ip] (iStateRight_1_1_p.S N) := by
  have hs : SigsOK Tryz.prog (iStateRight_1_1_p.tb N) := sigs_of _ rfl trivial
  have g0 : Goods Tryz.prog (iStateRight_1_1_p.tb N) Tryz.f48 [] := goods_nil
  exact ok_of tabOK mixed rfl hs Tryz.func48 g0 (by kernel_rfl) rfl (iStateRight_1_1_p.eq N) (fun _ => rfl)
def slIndexFunc_iStateRight_1_1.i0_0 : Tmpl := ⟨0, 19, [0, 1, 7, 8], [.d (some 0) T90, .fn 48 [.ip (some 1) T57], .d (some 2) (.int .i64), .d none (.int .i64)], []⟩
def slIndexFunc_iStateRight_1_1.o0_0 : Tmpl := ⟨0, 19, [], [], []⟩
def slIndexFunc_iStateRight_1_1.r0_0 : Tmpl := ⟨0, 19, [4], [.d none (.int .i64)], []⟩
def slIndexFunc_iStateRight_1_1.G0_0 (N : Nat) : Frag := ⟨slIndexFunc_iStateRight_1_1.i0_0, slIndexFunc_iStateRight_1_1.o0_0, slIndexFunc_iStateRight_1_1.r0_0, slIndexFunc_iStateRight_1_1.C0_0, slIndexFunc_iStateRight_1_1.M0_0, slIndexFunc_iStateRight_1_1.O0_0, slIndexFunc_iStateRight_1_1.Q0_0, slIndexFunc_iStateRight_1_1.L0_0 N⟩
def slIndexFunc_iStateRight_1_1.tb (N : Nat) : Tabs := ⟨tt, fun a b c => look3 a b c [(0, 4, 5, CE.sig 48 [.d, .ip] (iStateRight_1_1_p.S N))], fun a b => look2 a b [(0, 0, slIndexFunc_iStateRight_1_1.G0_0 N)]⟩
theorem slIndexFunc_iStateRight_1_1.eq0_0 (N : Nat) (c : slIndexFunc_iStateRight_1_1.C0_0.D) (m : slIndexFunc_iStateRight_1_1.M0_0.D) : roundV (slIndexFunc_iStateRight_1_1.tb N) 0 Tryz.f102 0 slIndexFunc_iStateRight_1_1.i0_0 slIndexFunc_iStateRight_1_1.o0_0 slIndexFunc_iStateRight_1_1.r0_0 slIndexFunc_iStateRight_1_1.M0_0 slIndexFunc_iStateRight_1_1.O0_0 slIndexFunc_iStateRight_1_1.Q0_0 (unpack slIndexFunc_iStateRight_1_1.C0_0 c) m = (slIndexFunc_iStateRight_1_1.B0_0 N c m).map (withC (stays (unpack slIndexFunc_iStateRight_1_1.C0_0 c) [0, 1, 2]) (stays (unpack slIndexFunc_iStateRight_1_1.C0_0 c) []) (stays (unpack slIndexFunc_iStateRight_1_1.C0_0 c) [])) := by kernel_rfl
def slIndexFunc_iStateRight_1_1.S (N : Nat) : Sig := ⟨slIndexFunc_iStateRight_1_1.P, slIndexFunc_iStateRight_1_1.R, false, false, [], false, slIndexFunc_iStateRight_1_1.F N⟩
theorem slIndexFunc_iStateRight_1_1.eq (N : Nat) (x : slIndexFunc_iStateRight_1_1.P.D) : topV (slIndexFunc_iStateRight_1_1.tb N) 0 Tryz.f102 [.d, .fn 48 1] slIndexFunc_iStateRight_1_1.P slIndexFunc_iStateRight_1_1.R false false [] x = slIndexFunc_iStateRight_1_1.T N x := by kernel_rfl
theorem slIndexFunc_iStateRight_1_1.ok (N : Nat) : Sound Tryz.prog 102 [.d, .fn 48 1] (slIndexFunc_iStateRight_1_1.S N) := by
  have hs : SigsOK Tryz.prog (slIndexFunc_iStateRight_1_1.tb N) := sigs_of _ rfl ⟨iStateRight_1_1_p.ok N, trivial⟩
  have g0 : Goods Tryz.prog (slIndexFunc_iStateRight_1_1.tb N) Tryz.f102 [] := goods_nil
  have g1 := goods_cons tabOK mixed rfl hs g0 0 (by kernel_rfl) (slIndexFunc_iStateRight_1_1.B0_0 N) N rfl (slIndexFunc_iStateRight_1_1.eq0_0 N)
  exact ok_of tabOK mixed rfl hs Tryz.func102 g1 (by kernel_rfl) rfl (slIndexFunc_iStateRight_1_1.eq N) (fun _ => rfl)
def slContainsFunc_iStateRight_1_1.tb (N : Nat) : Tabs := ⟨tt, fun a b c => look3 a b c [(0, 1, 2, CE.sig 102 [.d, .fn 48 1] (slIndexFunc_iStateRight_1_1.S N))], fun a b => look2 a b []⟩
def slContainsFunc_iStateRight_1_1.S (N : Nat) : Sig := ⟨slContainsFunc_iStateRight_1_1.P, slContainsFunc_iStateRight_1_1.R, false, false, [], false, slContainsFunc_iStateRight_1_1.F N⟩
theorem slContainsFunc_iStateRight_1_1.eq (N : Nat) (x : slContainsFunc_iStateRight_1_1.P.D) : topV (slContainsFunc_iStateRight_1_1.tb N) 0 Tryz.f47 [.d, .fn 48 1] slContainsFunc_iStateRight_1_1.P slContainsFunc_iStateRight_1_1.R false false [] x = slContainsFunc_iStateRight_1_1.T N x := by kernel_rfl
theorem slContainsFunc_iStateRight_1_1.ok (N : Nat) : Sound Tryz.prog 47 [.d, .fn 48 1] (slContainsFunc_iStateRight_1_1.S N) := by
  have hs : SigsOK Tryz.prog (slContainsFunc_iStateRight_1_1.tb N) := sigs_of _ rfl ⟨slIndexFunc_iStateRight_1_1.ok N, trivial⟩
  have g0 : Goods Tryz.prog (slContainsFunc_iStateRight_1_1.tb N) Tryz.f47 [] := goods_nil
  exact ok_of tabOK mixed rfl hs Tryz.func47 g0 (by kernel_rfl) rfl (slContainsFunc_iStateRight_1_1.eq N) (fun _ => rfl)
def iStateRight_1_p.tb (N : Nat) : Tabs := ⟨tt, fun a b c => look3 a b c [(0, 1, 3, CE.sig 47 [.d, .fn 48 1] (slContainsFunc_iStateRight_1_1.S N))], fun a b => look2 a b []⟩
def iStateRight_1_p.S (N : Nat) : Sig := ⟨iStateRight_1_p.P, iStateRight_1_p.R, false, false, [], false, iStateRight_1_p.F N⟩
theorem iStateRight_1_p.eq (N : Nat) (x : iStateRight_1_p.P.D) : topV (iStateRight_1_p.tb N) 0 Tryz.f46 [.d, .ip] iStateRight_1_p.P iStateRight_1_p.R false false [] x = iStateRight_1_p.T N x := by kernel_rfl
theorem iStateRight_1_p.ok (N : Nat) : Sound Tryz.prog 46 [.d, .ip] (iStateRight_1_p.S N) := by
  have hs : SigsOK Tryz.prog (iStateRight_1_p.tb N) := sigs_of _ rfl ⟨slContainsFunc_iStateRight_1_1.ok N, trivial⟩
  have g0 : Goods Tryz.prog (iStateRight_1_p.tb N) Tryz.f46 [] := goods_nil
  exact ok_of tabOK mixed rfl hs Tryz.func46 g0 (by kernel_rfl) rfl (iStateRight_1_p.eq N) (fun _ => rfl)
def slIndexFunc_iStateRight_1.i0_0 : Tmpl := ⟨0, 19, [0, 1, 7, 8], [.d (some 0) T54, .fn 46 [.ip (some 1) T57], .d (some 2) (.int .i64), .d none (.int .i64)], []⟩
def slIndexFunc_iStateRight_1.o0_0 : Tmpl := ⟨0, 19, [], [], []⟩
def slIndexFunc_iStateRight_1.r0_0 : Tmpl := ⟨0, 19, [4], [.d none (.int .i64)], []⟩
def slIndexFunc_iStateRight_1.G0_0 (N : Nat) : Frag := ⟨slIndexFunc_iStateRight_1.i0_0, slIndexFunc_iStateRight_1.o0_0, slIndexFunc_iStateRight_1.r0_0, slIndexFunc_iStateRight_1.C0_0, slIndexFunc_iStateRight_1.M0_0, slIndexFunc_iStateRight_1.O0_0, slIndexFunc_iStateRight_1.Q0_0, slIndexFunc_iStateRight_1.L0_0 N⟩
def slIndexFunc_iStateRight_1.tb (N : Nat) : Tabs := ⟨tt, fun a b c => look3 a b c [(0, 4, 5, CE.sig 46 [.d, .ip] (iStateRight_1_p.S N))], fun a b => look2 a b [(0, 0, slIndexFunc_iStateRight_1.G0_0 N)]⟩
theorem slIndexFunc_iStateRight_1.eq0_0 (N : Nat) (c : slIndexFunc_iStateRight_1.C0_0.D) (m : slIndexFunc_iStateRight_1.M0_0.D) : roundV (slIndexFunc_iStateRight_1.tb N) 0 Tryz.f101 0 slIndexFunc_iStateRight_1.i0_0 slIndexFunc_iStateRight_1.o0_0 slIndexFunc_iStateRight_1.r0_0 slIndexFunc_iStateRight_1.M0_0 slIndexFunc_iStateRight_1.O0_0 slIndexFunc_iStateRight_1.Q0_0 (unpack slIndexFunc_iStateRight_1.C0_0 c) m = (slIndexFunc_iStateRight_1.B0_0 N c m).map (withC (stays (unpack slIndexFunc_iStateRight_1.C0_0 c) [0, 1, 2]) (stays (unpack slIndexFunc_iStateRight_1.C0_0 c) []) (stays (unpack slIndexFunc_iStateRight_1.C0_0 c) [])) := by kernel_rfl
def slIndexFunc_iStateRight_1.S (N : Nat) : Sig := ⟨slIndexFunc_iStateRight_1.P, slIndexFunc_iStateRight_1.R, false, false, [], false, slIndexFunc_iStateRight_1.F N⟩
theorem slIndexFunc_iStateRight_1.eq (N : Nat) (x : slIndexFunc_iStateRight_1.P.D) : topV (slIndexFunc_iStateRight_1.tb N) 0 Tryz.f101 [.d, .fn 46 1] slIndexFunc_iStateRight_1.P slIndexFunc_iStateRight_1.R false false [] x = slIndexFunc_iStateRight_1.T N x := by kernel_rfl
theorem slIndexFunc_iStateRight_1.ok (N : Nat) : Sound Tryz.prog 101 [.d, .fn 46 1] (slIndexFunc_iStateRight_1.S N) := by
  have hs : SigsOK Tryz.prog (slIndexFunc_iStateRight_1.tb N) := sigs_of _ rfl ⟨iStateRight_1_p.ok N, trivial⟩
  have g0 : Goods Tryz.prog (slIndexFunc_iStateRight_1.tb N) Tryz.f101 [] := goods_nil
  have g1 := goods_cons tabOK mixed rfl hs g0 0 (by kernel_rfl) (slIndexFunc_iStateRight_1.B0_0 N) N rfl (slIndexFunc_iStateRight_1.eq0_0 N)
  exact ok_of tabOK mixed rfl hs Tryz.func101 g1 (by kernel_rfl) rfl (slIndexFunc_iStateRight_1.eq N) (fun _ => rfl)
def slContainsFunc_iStateRight_1.tb (N : Nat) : Tabs := ⟨tt, fun a b c => look3 a b c [(0, 1, 2, CE.sig 101 [.d, .fn 46 1] (slIndexFunc_iStateRight_1.S N))], fun a b => look2 a b []⟩
def slContainsFunc_iStateRight_1.S (N : Nat) : Sig := ⟨slContainsFunc_iStateRight_1.P, slContainsFunc_iStateRight_1.R, false, false, [], false, slContainsFunc_iStateRight_1.F N⟩
theorem slContainsFunc_iStateRight_1.eq (N : Nat) (x : slContainsFunc_iStateRight_1.P.D) : topV (slContainsFunc_iStateRight_1.tb N) 0 Tryz.f45 [.d, .fn 46 1] slContainsFunc_iStateRight_1.P slContainsFunc_iStateRight_1.R false false [] x = slContainsFunc_iStateRight_1.T N x := by kernel_rfl
theorem slContainsFunc_iStateRight_1.ok (N : Nat) : Sound Tryz.prog 45 [.d, .fn 46 1] (slContainsFunc_iStateRight_1.S N) := by
  have hs : SigsOK Tryz.prog (slContainsFunc_iStateRight_1.tb N) := sigs_of _ rfl ⟨slIndexFunc_iStateRight_1.ok N, trivial⟩
  have g0 : Goods Tryz.prog (slContainsFunc_iStateRight_1.tb N) Tryz.f45 [] := goods_nil
  exact ok_of tabOK mixed rfl hs Tryz.func45 g0 (by kernel_rfl) rfl (slContainsFunc_iStateRight_1.eq N) (fun _ => rfl)
def iStateRight.tb (N : Nat) : Tabs := ⟨tt, fun a b c => look3 a b c [(0, 1, 2, CE.sig 43 [.d] (iYardRight.S N)), (0, 1, 10, CE.sig 44 [.d, .d] (iMailRight.S N)), (0, 3, 4, CE.sig 45 [.d, .fn 46 1] (slContainsFunc_iStateRight_1.S N))], fun a b => look2 a b []⟩
def iStateRight.S (N : Nat) : Sig := ⟨iStateRight.P, iStateRight.R, false, false, [], false, iStateRight.F N⟩
theorem iStateRight.eq (N : Nat) (x : iStateRight.P.D) : topV (iStateRight.tb N) 0 Tryz.f21 [.d] iStateRight.P iStateRight.R false false [] x = iStateRight.T N x := by kernel_rfl
theorem iStateRight.ok (N : Nat) : Sound Tryz.prog 21 [.d] (iStateRight.S N) := by
  have hs : SigsOK Tryz.prog (iStateRight.tb N) := sigs_of _ rfl ⟨iYardRight.ok N, iMailRight.ok N, slContainsFunc_iStateRight_1.ok N, trivial⟩
  have g0 : Goods Tryz.prog (iStateRight.tb N) Tryz.f21 [] := goods_nil
  exact ok_of tabOK mixed rfl hs Tryz.func21 g0 (by kernel_rfl) rfl (iStateRight.eq N) (fun _ => rfl)
def iDiskRight_1.tb (N : Nat) : Tabs := ⟨tt, fun a b c => look3 a b c [], fun a b => look2 a b []⟩
def iDiskRight_1.S (N : Nat) : Sig := ⟨iDiskRight_1.P, iDiskRight_1.R, false, false, [], false, iDiskRight_1.F N⟩
theorem iDiskRight_1.eq (N : Nat) (x : iDiskRight_1.P.D) : topV (iDiskRight_1.tb N) 0 Tryz.f50 [.d] iDiskRight_1.P iDiskRight_1.R false false [] x = iDiskRight_1.T N x := by kernel_rfl
theorem iDiskRight_1.ok (N : Nat) : Sound Tryz.prog 50 [.d] (iDiskRight_1.S N) := by
  have hs : SigsOK Tryz.prog (iDiskRight_1.tb N) := sigs_of _ rfl trivial
  have g0 : Goods Tryz.prog (iDiskRight_1.tb N) Tryz.f50 [] := goods_nil
  exact ok_of tabOK mixed rfl hs Tryz.func50 g0 (by kernel_rfl) rfl (iDiskRight_1.eq N) (fun _ => rfl)
def slIndexFunc_iDiskRight_1.i0_0 : Tmpl := ⟨0, 19, [0, 1, 7, 8], [.d (some 0) T59, .fn 50 [], .d (some 1) (.int .i64), .d none (.int .i64)], []⟩
def slIndexFunc_iDiskRight_1.o0_0 : Tmpl := ⟨0, 19, [], [], []⟩
def slIndexFunc_iDiskRight_1.r0_0 : Tmpl := ⟨0, 19, [4], [.d none (.int .i64)], []⟩
def slIndexFunc_iDiskRight_1.G0_0 (N : Nat) : Frag := ⟨slIndexFunc_iDiskRight_1.i0_0, slIndexFunc_iDiskRight_1.o0_0, slIndexFunc_iDiskRight_1.r0_0, slIndexFunc_iDiskRight_1.C0_0, slIndexFunc_iDiskRight_1.M0_0, slIndexFunc_iDiskRight_1.O0_0, slIndexFunc_iDiskRight_1.Q0_0, slIndexFunc_iDiskRight_1.L0_0 N⟩
def slIndexFunc_iDiskRight_1.tb (N : Nat) : Tabs := ⟨tt, fun a b c => look3 a b c [(0, 4, 5, CE.sig 50 [.d] (iDiskRight_1.S N))], fun a b => look2 a b [(0, 0, slIndexFunc_iDiskRight_1.G0_0 N)]⟩
theorem slIndexFunc_iDiskRight_1.eq0_0 (N : Nat) (c : slIndexFunc_iDiskRight_1.C0_0.D) (m : slIndexFunc_iDiskRight_1.M0_0.D) : roundV (slIndexFunc_iDiskRight_1.tb N) 0 Tryz.f103 0 slIndexFunc_iDiskRight_1.i0_0 slIndexFunc_iDiskRight_1.o0_0 slIndexFunc_iDiskRight_1.r0_0 slIndexFunc_iDiskRight_1.M0_0 slIndexFunc_iDiskRight_1.O0_0 slIndexFunc_iDiskRight_1.Q0_0 (unpack slIndexFunc_iDiskRight_1.C0_0 c) m = (slIndexFunc_iDiskRight_1.B0_0 N c m).map (withC (stays (unpack slIndexFunc_iDiskRight_1.C0_0 c) [0, 1]) (stays (unpack slIndexFunc_iDiskRight_1.C0_0 c) []) (stays (unpack slIndexFunc_iDiskRight_1.C0_0 c) [])) := by kernel_rfl
def slIndexFunc_iDiskRight_1.S (N : Nat) : Sig := ⟨slIndexFunc_iDiskRight_1.P, slIndexFunc_iDiskRight_1.R, false, false, [], false, slIndexFunc_iDiskRight_1.F N⟩
theorem slIndexFunc_iDiskRight_1.eq (N : Nat) (x : slIndexFunc_iDiskRight_1.P.D) : topV (slIndexFunc_iDiskRight_1.tb N) 0 Tryz.f103 [.d, .fn 50 0] slIndexFunc_iDiskRight_1.P slIndexFunc_iDiskRight_1.R false false [] x = slIndexFunc_iDiskRight_1.T N x := by kernel_rfl
theorem slIndexFunc_iDiskRight_1.ok (N : Nat) : Sound Tryz.prog 103 [.d, .fn 50 0] (slIndexFunc_iDiskRight_1.S N) := by
  have hs : SigsOK Tryz.prog (slIndexFunc_iDiskRight_1.tb N) := sigs_of _ rfl ⟨iDiskRight_1.ok N, trivial⟩
  have g0 : Goods Tryz.prog (slIndexFunc_iDiskRight_1.tb N) Tryz.f103 [] := goods_nil
  have g1 := goods_cons tabOK mixed rfl hs g0 0 (by kernel_rfl) (slIndexFunc_iDiskRight_1.B0_0 N) N rfl (slIndexFunc_iDiskRight_1.eq0_0 N)
  exact ok_of tabOK mixed rfl hs Tryz.func103 g1 (by kernel_rfl) rfl (slIndexFunc_iDiskRight_1.eq N) (fun _ => rfl)
def slContainsFunc_iDiskRight_1.tb (N : Nat) : Tabs := ⟨tt, fun a b c => look3 a b c [(0, 1, 2, CE.sig 103 [.d, .fn 50 0] (slIndexFunc_iDiskRight_1.S N))], fun a b => look2 a b []⟩
def slContainsFunc_iDiskRight_1.S (N : Nat) : Sig := ⟨slContainsFunc_iDiskRight_1.P, slContainsFunc_iDiskRight_1.R, false, false, [], false, slContainsFunc_iDiskRight_1.F N⟩
theorem slContainsFunc_iDiskRight_1.eq (N : Nat) (x : slContainsFunc_iDiskRight_1.P.D) : topV (slContainsFunc_iDiskRight_1.tb N) 0 Tryz.f49 [.d, .fn 50 0] slContainsFunc_iDiskRight_1.P slContainsFunc_iDiskRight_1.R false false [] x = slContainsFunc_iDiskRight_1.T N x := by kernel_rfl
theorem slContainsFunc_iDiskRight_1.ok (N : Nat) : Sound Tryz.prog 49 [.d, .fn 50 0] (slContainsFunc_iDiskRight_1.S N) := by
  have hs : SigsOK Tryz.prog (slContainsFunc_iDiskRight_1.tb N) := sigs_of _ rfl ⟨slIndexFunc_iDiskRight_1.ok N, trivial⟩
  have g0 : Goods Tryz.prog (slContainsFunc_iDiskRight_1.tb N) Tryz.f49 [] := goods_nil
  exact ok_of tabOK mixed rfl hs Tryz.func49 g0 (by kernel_rfl) rfl (slContainsFunc_iDiskRight_1.eq N) (fun _ => rfl)
def iDiskRight.tb (N : Nat) : Tabs := ⟨tt, fun a b c => look3 a b c [(0, 1, 3, CE.sig 34 [.d, .d, .d] (iwithin.S N)), (0, 1, 8, CE.sig 34 [.d, .d, .d] (iwithin.S N)), (0, 3, 2, CE.sig 49 [.d, .fn 50 0] (slContainsFunc_iDiskRight_1.S N))], fun a b => look2 a b []⟩
def iDiskRight.S (N : Nat) : Sig := ⟨iDiskRight.P, iDiskRight.R, false, false, [], false, iDiskRight.F N⟩
theorem iDiskRight.eq (N : Nat) (x : iDiskRight.P.D) : topV (iDiskRight.tb N) 0 Tryz.f22 [.d] iDiskRight.P iDiskRight.R false false [] x = iDiskRight.T N x := by kernel_rfl
theorem iDiskRight.ok (N : Nat) : Sound Tryz.prog 22 [.d] (iDiskRight.S N) := by
  have hs : SigsOK Tryz.prog (iDiskRight.tb N) := sigs_of _ rfl ⟨iwithin.ok N, iwithin.ok N, slContainsFunc_iDiskRight_1.ok N, trivial⟩
  have g0 : Goods Tryz.prog (iDiskRight.tb N) Tryz.f22 [] := goods_nil
  exact ok_of tabOK mixed rfl hs Tryz.func22 g0 (by kernel_rfl) rfl (iDiskRight.eq N) (fun _ => rfl)
def iregionsOf.tb (N : Nat) : Tabs := ⟨tt, fun a b c => look3 a b c [(0, 1, 1, CE.sig 51 [.d] (iConfig_labels.S N))], fun a b => look2 a b []⟩
def iregionsOf.S (N : Nat) : Sig := ⟨iregionsOf.P, iregionsOf.R, false, false, [], false, iregionsOf.F N⟩
theorem iregionsOf.eq (N : Nat) (x : iregionsOf.P.D) : topV (iregionsOf.tb N) 0 Tryz.f23 [.d] iregionsOf.P iregionsOf.R false false [] x = iregionsOf.T N x := by kernel_rfl
theorem iregionsOf.ok (N : Nat) : Sound Tryz.prog 23 [.d] (iregionsOf.S N) := by
  have hs : SigsOK Tryz.prog (iregionsOf.tb N) := sigs_of _ rfl ⟨iConfig_labels.ok N, trivial⟩
  have g0 : Goods Tryz.prog (iregionsOf.tb N) Tryz.f23 [] := goods_nil
  exact ok_of tabOK mixed rfl hs Tryz.func23 g0 (by kernel_rfl) rfl (iregionsOf.eq N) (fun _ => rfl)
def iHouseRight.tb (N : Nat) : Tabs := ⟨tt, fun a b c => look3 a b c [(0, 1, 2, CE.sig 21 [.d] (iStateRight.S N)), (0, 1, 6, CE.sig 22 [.d] (iDiskRight.S N)), (0, 1, 17, CE.sig 23 [.d] (iregionsOf.S N)), (0, 1, 29, CE.sig 24 [.d] (iisTime.S N))], fun a b => look2 a b []⟩
def iHouseRight.S (N : Nat) : Sig := ⟨iHouseRight.P, iHouseRight.R, false, false, [], false, iHouseRight.F N⟩
theorem iHouseRight.eq (N : Nat) (x : iHouseRight.P.D) : topV (iHouseRight.tb N) 0 Tryz.f8 [.d] iHouseRight.P iHouseRight.R false false [] x = iHouseRight.T N x := by kernel_rfl
theorem iHouseRight.ok (N : Nat) : Sound Tryz.prog 8 [.d] (iHouseRight.S N) := by
  have hs : SigsOK Tryz.prog (iHouseRight.tb N) := sigs_of _ rfl ⟨iStateRight.ok N, iDiskRight.ok N, iregionsOf.ok N, iisTime.ok N, trivial⟩
  have g0 : Goods Tryz.prog (iHouseRight.tb N) Tryz.f8 [] := goods_nil
  exact ok_of tabOK mixed rfl hs Tryz.func8 g0 (by kernel_rfl) rfl (iHouseRight.eq N) (fun _ => rfl)
def leqLabel.tb (N : Nat) : Tabs := ⟨tt, fun a b c => look3 a b c [], fun a b => look2 a b []⟩
def leqLabel.S (N : Nat) : Sig := ⟨leqLabel.P, leqLabel.R, false, false, [], false, leqLabel.F N⟩
theorem leqLabel.eq (N : Nat) (x : leqLabel.P.D) : topV (leqLabel.tb N) 0 Tryz.f194 [.d, .d] leqLabel.P leqLabel.R false false [] x = leqLabel.T N x := by kernel_rfl
theorem leqLabel.ok (N : Nat) : Sound Tryz.prog 194 [.d, .d] (leqLabel.S N) := by
  have hs : SigsOK Tryz.prog (leqLabel.tb N) := sigs_of _ rfl trivial
  have g0 : Goods Tryz.prog (leqLabel.tb N) Tryz.f194 [] := goods_nil
  exact ok_of tabOK mixed rfl hs Tryz.func194 g0 (by kernel_rfl) rfl (leqLabel.eq N) (fun _ => rfl)
def leqLabelS.i0_0 : Tmpl := ⟨0, 27, [0, 1, 5], [.d (some 0) T82, .d (some 1) T82, .d none (.int .i64)], []⟩
def leqLabelS.o0_0 : Tmpl := ⟨0, 27, [], [], []⟩
def leqLabelS.r0_0 : Tmpl := ⟨0, 27, [4], [.d none .bool], []⟩
def leqLabelS.G0_0 (N : Nat) : Frag := ⟨leqLabelS.i0_0, leqLabelS.o0_0, leqLabelS.r0_0, leqLabelS.C0_0, leqLabelS.M0_0, leqLabelS.O0_0, leqLabelS.Q0_0, leqLabelS.L0_0 N⟩
def leqLabelS.tb (N : Nat) : Tabs := ⟨tt, fun a b c => look3 a b c [(0, 6, 8, CE.sig 194 [.d, .d] (leqLabel.S N))], fun a b => look2 a b [(0, 0, leqLabelS.G0_0 N)]⟩
theorem leqLabelS.eq0_0 (N : Nat) (c : leqLabelS.C0_0.D) (m : leqLabelS.M0_0.D) : roundV (leqLabelS.tb N) 0 Tryz.f190 0 leqLabelS.i0_0 leqLabelS.o0_0 leqLabelS.r0_0 leqLabelS.M0_0 leqLabelS.O0_0 leqLabelS.Q0_0 (unpack leqLabelS.C0_0 c) m = (leqLabelS.B0_0 N c m).map (withC (stays (unpack leqLabelS.C0_0 c) [0, 1]) (stays (unpack leqLabelS.C0_0 c) []) (stays (unpack leqLabelS.C0_0 c) [])) := by kernel_rfl
def leqLabelS.S (N : Nat) : Sig := ⟨leqLabelS.P, leqLabelS.R, false, false, [], false, leqLabelS.F N⟩
theorem leqLabelS.eq (N : Nat) (x : leqLabelS.P.D) : topV (leqLabelS.tb N) 0 Tryz.f190 [.d, .d] leqLabelS.P leqLabelS.R false false [] x = leqLabelS.T N x := by kernel_rfl
theorem leqLabelS.ok (N : Nat) : Sound Tryz.prog 190 [.d, .d] (leqLabelS.S N) := by
  have hs : SigsOK Tryz.prog (leqLabelS.tb N) := sigs_of _ rfl ⟨leqLabel.ok N, trivial⟩
  have g0 : Goods Tryz.prog (leqLabelS.tb N) Tryz.f190 [] := goods_nil
  have g1 := goods_cons tabOK mixed rfl hs g0 0 (by kernel_rfl) (leqLabelS.B0_0 N) N rfl (leqLabelS.eq0_0 N)
  exact ok_of tabOK mixed rfl hs Tryz.func190 g1 (by kernel_rfl) rfl (leqLabelS.eq N) (fun _ => rfl)
def leqLabelSS.i0_0 : Tmpl := ⟨0, 27, [0, 1, 5], [.d (some 0) T44, .d (some 1) T44, .d none (.int .i64)], []⟩
def leqLabelSS.o0_0 : Tmpl := ⟨0, 27, [], [], []⟩
def leqLabelSS.r0_0 : Tmpl := ⟨0, 27, [4], [.d none .bool], []⟩
def leqLabelSS.G0_0 (N : Nat) : Frag := ⟨leqLabelSS.i0_0, leqLabelSS.o0_0, leqLabelSS.r0_0, leqLabelSS.C0_0, leqLabelSS.M0_0, leqLabelSS.O0_0, leqLabelSS.Q0_0, leqLabelSS.L0_0 N⟩
def leqLabelSS.tb (N : Nat) : Tabs := ⟨tt, fun a b c => look3 a b c [(0, 6, 8, CE.sig 190 [.d, .d] (leqLabelS.S N))], fun a b => look2 a b [(0, 0, leqLabelSS.G0_0 N)]⟩
theorem leqLabelSS.eq0_0 (N : Nat) (c : leqLabelSS.C0_0.D) (m : leqLabelSS.M0_0.D) : roundV (leqLabelSS.tb N) 0 Tryz.f127 0 leqLabelSS.i0_0 leqLabelSS.o0_0 leqLabelSS.r0_0 leqLabelSS.M0_0 leqLabelSS.O0_0 leqLabelSS.Q0_0 (unpack leqLabelSS.C0_0 c) m = (leqLabelSS.B0_0 N c m).map (withC (stays (unpack leqLabelSS.C0_0 c) [0, 1]) (stays (unpack leqLabelSS.C0_0 c) []) (stays (unpack leqLabelSS.C0_0 c) [])) := by kernel_rfl
def leqLabelSS.S (N : Nat) : Sig := ⟨leqLabelSS.P, leqLabelSS.R, false, false, [], false, leqLabelSS.F N⟩
theorem leqLabelSS.eq (N : Nat) (x : leqLabelSS.P.D) : topV (leqLabelSS.tb N) 0 Tryz.f127 [.d, .d] leqLabelSS.P leqLabelSS.R false false [] x = leqLabelSS.T N x := by kernel_rfl
theorem leqLabelSS.ok (N : Nat) : Sound Tryz.prog 127 [.d, .d] (leqLabelSS.S N) := by
  have hs : SigsOK Tryz.prog (leqLabelSS.tb N) := sigs_of _ rfl ⟨leqLabelS.ok N, trivial⟩
  have g0 : Goods Tryz.prog (leqLabelSS.tb N) Tryz.f127 [] := goods_nil
  have g1 := goods_cons tabOK mixed rfl hs g0 0 (by kernel_rfl) (leqLabelSS.B0_0 N) N rfl (leqLabelSS.eq0_0 N)
  exact ok_of tabOK mixed rfl hs Tryz.func127 g1 (by kernel_rfl) rfl (leqLabelSS.eq N) (fun _ => rfl)
def leqPair.tb (N : Nat) : Tabs := ⟨tt, fun a b c => look3 a b c [(0, 1, 4, CE.sig 194 [.d, .d] (leqLabel.S N)), (0, 3, 4, CE.sig 194 [.d, .d] (leqLabel.S N))], fun a b => look2 a b []⟩
def leqPair.S (N : Nat) : Sig := ⟨leqPair.P, leqPair.R, false, false, [], false, leqPair.F N⟩
theorem leqPair.eq (N : Nat) (x : leqPair.P.D) : topV (leqPair.tb N) 0 Tryz.f191 [.d, .d] leqPair.P leqPair.R false false [] x = leqPair.T N x := by kernel_rfl
theorem leqPair.ok (N : Nat) : Sound Tryz.prog 191 [.d, .d] (leqPair.S N) := by
  have hs : SigsOK Tryz.prog (leqPair.tb N) := sigs_of _ rfl ⟨leqLabel.ok N, leqLabel.ok N, trivial⟩
  have g0 : Goods Tryz.prog (leqPair.tb N) Tryz.f191 [] := goods_nil
  exact ok_of tabOK mixed rfl hs Tryz.func191 g0 (by kernel_rfl) rfl (leqPair.eq N) (fun _ => rfl)
def leqPairS.i0_0 : Tmpl := ⟨0, 27, [0, 1, 5], [.d (some 0) T45, .d (some 1) T45, .d none (.int .i64)], []⟩
def leqPairS.o0_0 : Tmpl := ⟨0, 27, [], [], []⟩
def leqPairS.r0_0 : Tmpl := ⟨0, 27, [4], [.d none .bool], []⟩
def leqPairS.G0_0 (N : Nat) : Frag := ⟨leqPairS.i0_0, leqPairS.o0_0, leqPairS.r0_0, leqPairS.C0_0, leqPairS.M0_0, leqPairS.O0_0, leqPairS.Q0_0, leqPairS.L0_0 N⟩
def leqPairS.tb (N : Nat) : Tabs := ⟨tt, fun a b c => look3 a b c [(0, 6, 8, CE.sig 191 [.d, .d] (leqPair.S N))], fun a b => look2 a b [(0, 0, leqPairS.G0_0 N)]⟩
theorem leqPairS.eq0_0 (N : Nat) (c : leqPairS.C0_0.D) (m : leqPairS.M0_0.D) : roundV (leqPairS.tb N) 0 Tryz.f128 0 leqPairS.i0_0 leqPairS.o0_0 leqPairS.r0_0 leqPairS.M0_0 leqPairS.O0_0 leqPairS.Q0_0 (unpack leqPairS.C0_0 c) m = (leqPairS.B0_0 N c m).map (withC (stays (unpack leqPairS.C0_0 c) [0, 1]) (stays (unpack leqPairS.C0_0 c) []) (stays (unpack leqPairS.C0_0 c) [])) := by kernel_rfl
def leqPairS.S (N : Nat) : Sig := ⟨leqPairS.P, leqPairS.R, false, false, [], false, leqPairS.F N⟩
theorem leqPairS.eq (N : Nat) (x : leqPairS.P.D) : topV (leqPairS.tb N) 0 Tryz.f128 [.d, .d] leqPairS.P leqPairS.R false false [] x = leqPairS.T N x := by kernel_rfl
theorem leqPairS.ok (N : Nat) : Sound Tryz.prog 128 [.d, .d] (leqPairS.S N) := by
  have hs : SigsOK Tryz.prog (leqPairS.tb N) := sigs_of _ rfl ⟨leqPair.ok N, trivial⟩
  have g0 : Goods Tryz.prog (leqPairS.tb N) Tryz.f128 [] := goods_nil
  have g1 := goods_cons tabOK mixed rfl hs g0 0 (by kernel_rfl) (leqPairS.B0_0 N) N rfl (leqPairS.eq0_0 N)
  exact ok_of tabOK mixed rfl hs Tryz.func128 g1 (by kernel_rfl) rfl (leqPairS.eq N) (fun _ => rfl)
def leqQuota.tb (N : Nat) : Tabs := ⟨tt, fun a b c => look3 a b c [(0, 1, 4, CE.sig 194 [.d, .d] (leqLabel.S N))], fun a b => look2 a b []⟩
def leqQuota.S (N : Nat) : Sig := ⟨leqQuota.P, leqQuota.R, false, false, [], false, leqQuota.F N⟩
theorem leqQuota.eq (N : Nat) (x : leqQuota.P.D) : topV (leqQuota.tb N) 0 Tryz.f192 [.d, .d] leqQuota.P leqQuota.R false false [] x = leqQuota.T N x := by kernel_rfl
theorem leqQuota.ok (N : Nat) : Sound Tryz.prog 192 [.d, .d] (leqQuota.S N) := by
  have hs : SigsOK Tryz.prog (leqQuota.tb N) := sigs_of _ rfl ⟨leqLabel.ok N, trivial⟩
  have g0 : Goods Tryz.prog (leqQuota.tb N) Tryz.f192 [] := goods_nil
  exact ok_of tabOK mixed rfl hs Tryz.func192 g0 (by kernel_rfl) rfl (leqQuota.eq N) (fun _ => rfl)
def leqQuotaS.i0_0 : Tmpl := ⟨0, 27, [0, 1, 5], [.d (some 0) T46, .d (some 1) T46, .d none (.int .i64)], []⟩
def leqQuotaS.o0_0 : Tmpl := ⟨0, 27, [], [], []⟩
def leqQuotaS.r0_0 : Tmpl := ⟨0, 27, [4], [.d none .bool], []⟩
def leqQuotaS.G0_0 (N : Nat) : Frag := ⟨leqQuotaS.i0_0, leqQuotaS.o0_0, leqQuotaS.r0_0, leqQuotaS.C0_0, leqQuotaS.M0_0, leqQuotaS.O0_0, leqQuotaS.Q0_0, leqQuotaS.L0_0 N⟩
def leqQuotaS.tb (N : Nat) : Tabs := ⟨tt, fun a b c => look3 a b c [(0, 6, 8, CE.sig 192 [.d, .d] (leqQuota.S N))], fun a b => look2 a b [(0, 0, leqQuotaS.G0_0 N)]⟩
theorem leqQuotaS.eq0_0 (N : Nat) (c : leqQuotaS.C0_0.D) (m : leqQuotaS.M0_0.D) : roundV (leqQuotaS.tb N) 0 Tryz.f129 0 leqQuotaS.i0_0 leqQuotaS.o0_0 leqQuotaS.r0_0 leqQuotaS.M0_0 leqQuotaS.O0_0 leqQuotaS.Q0_0 (unpack leqQuotaS.C0_0 c) m = (leqQuotaS.B0_0 N c m).map (withC (stays (unpack leqQuotaS.C0_0 c) [0, 1]) (stays (unpack leqQuotaS.C0_0 c) []) (stays (unpack leqQuotaS.C0_0 c) [])) := by kernel_rfl
def leqQuotaS.S (N : Nat) : Sig := ⟨leqQuotaS.P, leqQuotaS.R, false, false, [], false, leqQuotaS.F N⟩
theorem leqQuotaS.eq (N : Nat) (x : leqQuotaS.P.D) : topV (leqQuotaS.tb N) 0 Tryz.f129 [.d, .d] leqQuotaS.P leqQuotaS.R false false [] x = leqQuotaS.T N x := by kernel_rfl
theorem leqQuotaS.ok (N : Nat) : Sound Tryz.prog 129 [.d, .d] (leqQuotaS.S N) := by
  have hs : SigsOK Tryz.prog (leqQuotaS.tb N) := sigs_of _ rfl ⟨leqQuota.ok N, trivial⟩
  have g0 : Goods Tryz.prog (leqQuotaS.tb N) Tryz.f129 [] := goods_nil
  have g1 := goods_cons tabOK mixed rfl hs g0 0 (by kernel_rfl) (leqQuotaS.B0_0 N) N rfl (leqQuotaS.eq0_0 N)
  exact ok_of tabOK mixed rfl hs Tryz.func129 g1 (by kernel_rfl) rfl (leqQuotaS.eq N) (fun _ => rfl)
def leqConfig.tb (N : Nat) : Tabs := ⟨tt, fun a b c => look3 a b c [(0, 1, 4, CE.sig 127 [.d, .d] (leqLabelSS.S N)), (0, 3, 4, CE.sig 128 [.d, .d] (leqPairS.S N)), (0, 5, 4, CE.sig 129 [.d, .d] (leqQuotaS.S N))], fun a b => look2 a b []⟩
def leqConfig.S (N : Nat) : Sig := ⟨leqConfig.P, leqConfig.R, false, false, [], false, leqConfig.F N⟩
theorem leqConfig.eq (N : Nat) (x : leqConfig.P.D) : topV (leqConfig.tb N) 0 Tryz.f72 [.d, .d] leqConfig.P leqConfig.R false false [] x = leqConfig.T N x := by kernel_rfl
theorem leqConfig.ok (N : Nat) : Sound Tryz.prog 72 [.d, .d] (leqConfig.S N) := by
  have hs : SigsOK Tryz.prog (leqConfig.tb N) := sigs_of _ rfl ⟨leqLabelSS.ok N, leqPairS.ok N, leqQuotaS.ok N, trivial⟩
  have g0 : Goods Tryz.prog (leqConfig.tb N) Tryz.f72 [] := goods_nil
  exact ok_of tabOK mixed rfl hs Tryz.func72 g0 (by kernel_rfl) rfl (leqConfig.eq N) (fun _ => rfl)
def leqSpan.tb (N : Nat) : Tabs := ⟨tt, fun a b c => look3 a b c [], fun a b => look2 a b []⟩
def leqSpan.S (N : Nat) : Sig := ⟨leqSpan.P, leqSpan.R, false, false, [], false, leqSpan.F N⟩
theorem leqSpan.eq (N : Nat) (x : leqSpan.P.D) : topV (leqSpan.tb N) 0 Tryz.f229 [.d, .d] leqSpan.P leqSpan.R false false [] x = leqSpan.T N x := by kernel_rfl
theorem leqSpan.ok (N : Nat) : Sound Tryz.prog 229 [.d, .d] (leqSpan.S N) := by
  have hs : SigsOK Tryz.prog (leqSpan.tb N) := sigs_of _ rfl trivial
  have g0 : Goods Tryz.prog (leqSpan.tb N) Tryz.f229 [] := goods_nil
  exact ok_of tabOK mixed rfl hs Tryz.func229 g0 (by kernel_rfl) rfl (leqSpan.eq N) (fun _ => rfl)
def leqSpanS.i0_0 : Tmpl := ⟨0, 27, [0, 1, 5], [.d (some 0) T122, .d (some 1) T122, .d none (.int .i64)], []⟩
def leqSpanS.o0_0 : Tmpl := ⟨0, 27, [], [], []⟩
def leqSpanS.r0_0 : Tmpl := ⟨0, 27, [4], [.d none .bool], []⟩
def leqSpanS.G0_0 (N : Nat) : Frag := ⟨leqSpanS.i0_0, leqSpanS.o0_0, leqSpanS.r0_0, leqSpanS.C0_0, leqSpanS.M0_0, leqSpanS.O0_0, leqSpanS.Q0_0, leqSpanS.L0_0 N⟩
def leqSpanS.tb (N : Nat) : Tabs := ⟨tt, fun a b c => look3 a b c [(0, 6, 8, CE.sig 229 [.d, .d] (leqSpan.S N))], fun a b => look2 a b [(0, 0, leqSpanS.G0_0 N)]⟩
theorem leqSpanS.eq0_0 (N : Nat) (c : leqSpanS.C0_0.D) (m : leqSpanS.M0_0.D) : roundV (leqSpanS.tb N) 0 Tryz.f193 0 leqSpanS.i0_0 leqSpanS.o0_0 leqSpanS.r0_0 leqSpanS.M0_0 leqSpanS.O0_0 leqSpanS.Q0_0 (unpack leqSpanS.C0_0 c) m = (leqSpanS.B0_0 N c m).map (withC (stays (unpack leqSpanS.C0_0 c) [0, 1]) (stays (unpack leqSpanS.C0_0 c) []) (stays (unpack leqSpanS.C0_0 c) [])) := by kernel_rfl
def leqSpanS.S (N : Nat) : Sig := ⟨leqSpanS.P, leqSpanS.R, false, false, [], false, leqSpanS.F N⟩
theorem leqSpanS.eq (N : Nat) (x : leqSpanS.P.D) : topV (leqSpanS.tb N) 0 Tryz.f193 [.d, .d] leqSpanS.P leqSpanS.R false false [] x = leqSpanS.T N x := by kernel_rfl
theorem leqSpanS.ok (N : Nat) : Sound Tryz.prog 193 [.d, .d] (leqSpanS.S N) := by
  have hs : SigsOK Tryz.prog (leqSpanS.tb N) := sigs_of _ rfl ⟨leqSpan.ok N, trivial⟩
  have g0 : Goods Tryz.prog (leqSpanS.tb N) Tryz.f193 [] := goods_nil
  have g1 := goods_cons tabOK mixed rfl hs g0 0 (by kernel_rfl) (leqSpanS.B0_0 N) N rfl (leqSpanS.eq0_0 N)
  exact ok_of tabOK mixed rfl hs Tryz.func193 g1 (by kernel_rfl) rfl (leqSpanS.eq N) (fun _ => rfl)
def leqNode.tb (N : Nat) : Tabs := ⟨tt, fun a b c => look3 a b c [(0, 3, 4, CE.sig 193 [.d, .d] (leqSpanS.S N))], fun a b => look2 a b []⟩
def leqNode.S (N : Nat) : Sig := ⟨leqNode.P, leqNode.R, false, false, [], false, leqNode.F N⟩
theorem leqNode.eq (N : Nat) (x : leqNode.P.D) : topV (leqNode.tb N) 0 Tryz.f130 [.d, .d] leqNode.P leqNode.R false false [] x = leqNode.T N x := by kernel_rfl
theorem leqNode.ok (N : Nat) : Sound Tryz.prog 130 [.d, .d] (leqNode.S N) := by
  have hs : SigsOK Tryz.prog (leqNode.tb N) := sigs_of _ rfl ⟨leqSpanS.ok N, trivial⟩
  have g0 : Goods Tryz.prog (leqNode.tb N) Tryz.f130 [] := goods_nil
  exact ok_of tabOK mixed rfl hs Tryz.func130 g0 (by kernel_rfl) rfl (leqNode.eq N) (fun _ => rfl)
def leqNodeS.i0_0 : Tmpl := ⟨0, 27, [0, 1, 5], [.d (some 0) T49, .d (some 1) T49, .d none (.int .i64)], []⟩
def leqNodeS.o0_0 : Tmpl := ⟨0, 27, [], [], []⟩
def leqNodeS.r0_0 : Tmpl := ⟨0, 27, [4], [.d none .bool], []⟩
def leqNodeS.G0_0 (N : Nat) : Frag := ⟨leqNodeS.i0_0, leqNodeS.o0_0, leqNodeS.r0_0, leqNodeS.C0_0, leqNodeS.M0_0, leqNodeS.O0_0, leqNodeS.Q0_0, leqNodeS.L0_0 N⟩
def leqNodeS.tb (N : Nat) : Tabs := ⟨tt, fun a b c => look3 a b c [(0, 6, 8, CE.sig 130 [.d, .d] (leqNode.S N))], fun a b => look2 a b [(0, 0, leqNodeS.G0_0 N)]⟩
theorem leqNodeS.eq0_0 (N : Nat) (c : leqNodeS.C0_0.D) (m : leqNodeS.M0_0.D) : roundV (leqNodeS.tb N) 0 Tryz.f73 0 leqNodeS.i0_0 leqNodeS.o0_0 leqNodeS.r0_0 leqNodeS.M0_0 leqNodeS.O0_0 leqNodeS.Q0_0 (unpack leqNodeS.C0_0 c) m = (leqNodeS.B0_0 N c m).map (withC (stays (unpack leqNodeS.C0_0 c) [0, 1]) (stays (unpack leqNodeS.C0_0 c) []) (stays (unpack leqNodeS.C0_0 c) [])) := by kernel_rfl
def leqNodeS.S (N : Nat) : Sig := ⟨leqNodeS.P, leqNodeS.R, false, false, [], false, leqNodeS.F N⟩
theorem leqNodeS.eq (N : Nat) (x : leqNodeS.P.D) : topV (leqNodeS.tb N) 0 Tryz.f73 [.d, .d] leqNodeS.P leqNodeS.R false false [] x = leqNodeS.T N x := by kernel_rfl
theorem leqNodeS.ok (N : Nat) : Sound Tryz.prog 73 [.d, .d] (leqNodeS.S N) := by
  have hs : SigsOK Tryz.prog (leqNodeS.tb N) := sigs_of _ rfl ⟨leqNode.ok N, trivial⟩
  have g0 : Goods Tryz.prog (leqNodeS.tb N) Tryz.f73 [] := goods_nil
  have g1 := goods_cons tabOK mixed rfl hs g0 0 (by kernel_rfl) (leqNodeS.B0_0 N) N rfl (leqNodeS.eq0_0 N)
  exact ok_of tabOK mixed rfl hs Tryz.func73 g1 (by kernel_rfl) rfl (leqNodeS.eq N) (fun _ => rfl)
def leqInt64S.i0_0 : Tmpl := ⟨0, 26, [0, 1, 5], [.d (some 0) T89, .d (some 1) T89, .d none (.int .i64)], []⟩
def leqInt64S.o0_0 : Tmpl := ⟨0, 26, [], [], []⟩
def leqInt64S.r0_0 : Tmpl := ⟨0, 26, [4], [.d none .bool], []⟩
def leqInt64S.G0_0 (N : Nat) : Frag := ⟨leqInt64S.i0_0, leqInt64S.o0_0, leqInt64S.r0_0, leqInt64S.C0_0, leqInt64S.M0_0, leqInt64S.O0_0, leqInt64S.Q0_0, leqInt64S.L0_0 N⟩
def leqInt64S.tb (N : Nat) : Tabs := ⟨tt, fun a b c => look3 a b c [], fun a b => look2 a b [(0, 0, leqInt64S.G0_0 N)]⟩
theorem leqInt64S.eq0_0 (N : Nat) (c : leqInt64S.C0_0.D) (m : leqInt64S.M0_0.D) : roundV (leqInt64S.tb N) 0 Tryz.f195 0 leqInt64S.i0_0 leqInt64S.o0_0 leqInt64S.r0_0 leqInt64S.M0_0 leqInt64S.O0_0 leqInt64S.Q0_0 (unpack leqInt64S.C0_0 c) m = (leqInt64S.B0_0 N c m).map (withC (stays (unpack leqInt64S.C0_0 c) [0, 1]) (stays (unpack leqInt64S.C0_0 c) []) (stays (unpack leqInt64S.C0_0 c) [])) := by kernel_rfl
def leqInt64S.S (N : Nat) : Sig := ⟨leqInt64S.P, leqInt64S.R, false, false, [], false, leqInt64S.F N⟩
theorem leqInt64S.eq (N : Nat) (x : leqInt64S.P.D) : topV (leqInt64S.tb N) 0 Tryz.f195 [.d, .d] leqInt64S.P leqInt64S.R false false [] x = leqInt64S.T N x := by kernel_rfl
theorem leqInt64S.ok (N : Nat) : Sound Tryz.prog 195 [.d, .d] (leqInt64S.S N) := by
  have hs : SigsOK Tryz.prog (leqInt64S.tb N) := sigs_of _ rfl trivial
  have g0 : Goods Tryz.prog (leqInt64S.tb N) Tryz.f195 [] := goods_nil
  have g1 := goods_cons tabOK mixed rfl hs g0 0 (by kernel_rfl) (leqInt64S.B0_0 N) N rfl (leqInt64S.eq0_0 N)
  exact ok_of tabOK mixed rfl hs Tryz.func195 g1 (by kernel_rfl) rfl (leqInt64S.eq N) (fun _ => rfl)
def leqTask.tb (N : Nat) : Tabs := ⟨tt, fun a b c => look3 a b c [(0, 1, 4, CE.sig 194 [.d, .d] (leqLabel.S N)), (0, 13, 4, CE.sig 194 [.d, .d] (leqLabel.S N)), (0, 23, 4, CE.sig 195 [.d, .d] (leqInt64S.S N))], fun a b => look2 a b []⟩
def leqTask.S (N : Nat) : Sig := ⟨leqTask.P, leqTask.R, false, false, [], false, leqTask.F N⟩
theorem leqTask.eq (N : Nat) (x : leqTask.P.D) : topV (leqTask.tb N) 0 Tryz.f131 [.d, .d] leqTask.P leqTask.R false false [] x = leqTask.T N x := by kernel_rfl
theorem leqTask.ok (N : Nat) : Sound Tryz.prog 131 [.d, .d] (leqTask.S N) := by
  have hs : SigsOK Tryz.prog (leqTask.tb N) := sigs_of _ rfl ⟨leqLabel.ok N, leqLabel.ok N, leqInt64S.ok N, trivial⟩
  have g0 : Goods Tryz.prog (leqTask.tb N) Tryz.f131 [] := goods_nil
  exact ok_of tabOK mixed rfl hs Tryz.func131 g0 (by kernel_rfl) rfl (leqTask.eq N) (fun _ => rfl)
def leqTaskS.i0_0 : Tmpl := ⟨0, 27, [0, 1, 5], [.d (some 0) T50, .d (some 1) T50, .d none (.int .i64)], []⟩
def leqTaskS.o0_0 : Tmpl := ⟨0, 27, [], [], []⟩
def leqTaskS.r0_0 : Tmpl := ⟨0, 27, [4], [.d none .bool], []⟩
def leqTaskS.G0_0 (N : Nat) : Frag := ⟨leqTaskS.i0_0, leqTaskS.o0_0, leqTaskS.r0_0, leqTaskS.C0_0, leqTaskS.M0_0, leqTaskS.O0_0, leqTaskS.Q0_0, leqTaskS.L0_0 N⟩
def leqTaskS.tb (N : Nat) : Tabs := ⟨tt, fun a b c => look3 a b c [(0, 6, 8, CE.sig 131 [.d, .d] (leqTask.S N))], fun a b => look2 a b [(0, 0, leqTaskS.G0_0 N)]⟩
theorem leqTaskS.eq0_0 (N : Nat) (c : leqTaskS.C0_0.D) (m : leqTaskS.M0_0.D) : roundV (leqTaskS.tb N) 0 Tryz.f74 0 leqTaskS.i0_0 leqTaskS.o0_0 leqTaskS.r0_0 leqTaskS.M0_0 leqTaskS.O0_0 leqTaskS.Q0_0 (unpack leqTaskS.C0_0 c) m = (leqTaskS.B0_0 N c m).map (withC (stays (unpack leqTaskS.C0_0 c) [0, 1]) (stays (unpack leqTaskS.C0_0 c) []) (stays (unpack leqTaskS.C0_0 c) [])) := by kernel_rfl
def leqTaskS.S (N : Nat) : Sig := ⟨leqTaskS.P, leqTaskS.R, false, false, [], false, leqTaskS.F N⟩
theorem leqTaskS.eq (N : Nat) (x : leqTaskS.P.D) : topV (leqTaskS.tb N) 0 Tryz.f74 [.d, .d] leqTaskS.P leqTaskS.R false false [] x = leqTaskS.T N x := by kernel_rfl
theorem leqTaskS.ok (N : Nat) : Sound Tryz.prog 74 [.d, .d] (leqTaskS.S N) := by
  have hs : SigsOK Tryz.prog (leqTaskS.tb N) := sigs_of _ rfl ⟨leqTask.ok N, trivial⟩
  have g0 : Goods Tryz.prog (leqTaskS.tb N) Tryz.f74 [] := goods_nil
  have g1 := goods_cons tabOK mixed rfl hs g0 0 (by kernel_rfl) (leqTaskS.B0_0 N) N rfl (leqTaskS.eq0_0 N)
  exact ok_of tabOK mixed rfl hs Tryz.func74 g1 (by kernel_rfl) rfl (leqTaskS.eq N) (fun _ => rfl)
def leqUse.tb (N : Nat) : Tabs := ⟨tt, fun a b c => look3 a b c [(0, 1, 4, CE.sig 194 [.d, .d] (leqLabel.S N))], fun a b => look2 a b []⟩
def leqUse.S (N : Nat) : Sig := ⟨leqUse.P, leqUse.R, false, false, [], false, leqUse.F N⟩
theorem leqUse.eq (N : Nat) (x : leqUse.P.D) : topV (leqUse.tb N) 0 Tryz.f132 [.d, .d] leqUse.P leqUse.R false false [] x = leqUse.T N x := by kernel_rfl
theorem leqUse.ok (N : Nat) : Sound Tryz.prog 132 [.d, .d] (leqUse.S N) := by
  have hs : SigsOK Tryz.prog (leqUse.tb N) := sigs_of _ rfl ⟨leqLabel.ok N, trivial⟩
  have g0 : Goods Tryz.prog (leqUse.tb N) Tryz.f132 [] := goods_nil
  exact ok_of tabOK mixed rfl hs Tryz.func132 g0 (by kernel_rfl) rfl (leqUse.eq N) (fun _ => rfl)
def leqUseS.i0_0 : Tmpl := ⟨0, 27, [0, 1, 5], [.d (some 0) T51, .d (some 1) T51, .d none (.int .i64)], []⟩
def leqUseS.o0_0 : Tmpl := ⟨0, 27, [], [], []⟩
def leqUseS.r0_0 : Tmpl := ⟨0, 27, [4], [.d none .bool], []⟩
def leqUseS.G0_0 (N : Nat) : Frag := ⟨leqUseS.i0_0, leqUseS.o0_0, leqUseS.r0_0, leqUseS.C0_0, leqUseS.M0_0, leqUseS.O0_0, leqUseS.Q0_0, leqUseS.L0_0 N⟩
def leqUseS.tb (N : Nat) : Tabs := ⟨tt, fun a b c => look3 a b c [(0, 6, 8, CE.sig 132 [.d, .d] (leqUse.S N))], fun a b => look2 a b [(0, 0, leqUseS.G0_0 N)]⟩
theorem leqUseS.eq0_0 (N : Nat) (c : leqUseS.C0_0.D) (m : leqUseS.M0_0.D) : roundV (leqUseS.tb N) 0 Tryz.f75 0 leqUseS.i0_0 leqUseS.o0_0 leqUseS.r0_0 leqUseS.M0_0 leqUseS.O0_0 leqUseS.Q0_0 (unpack leqUseS.C0_0 c) m = (leqUseS.B0_0 N c m).map (withC (stays (unpack leqUseS.C0_0 c) [0, 1]) (stays (unpack leqUseS.C0_0 c) []) (stays (unpack leqUseS.C0_0 c) [])) := by kernel_rfl
def leqUseS.S (N : Nat) : Sig := ⟨leqUseS.P, leqUseS.R, false, false, [], false, leqUseS.F N⟩
theorem leqUseS.eq (N : Nat) (x : leqUseS.P.D) : topV (leqUseS.tb N) 0 Tryz.f75 [.d, .d] leqUseS.P leqUseS.R false false [] x = leqUseS.T N x := by kernel_rfl
theorem leqUseS.ok (N : Nat) : Sound Tryz.prog 75 [.d, .d] (leqUseS.S N) := by
  have hs : SigsOK Tryz.prog (leqUseS.tb N) := sigs_of _ rfl ⟨leqUse.ok N, trivial⟩
  have g0 : Goods Tryz.prog (leqUseS.tb N) Tryz.f75 [] := goods_nil
  have g1 := goods_cons tabOK mixed rfl hs g0 0 (by kernel_rfl) (leqUseS.B0_0 N) N rfl (leqUseS.eq0_0 N)
  exact ok_of tabOK mixed rfl hs Tryz.func75 g1 (by kernel_rfl) rfl (leqUseS.eq N) (fun _ => rfl)
def leqYard.tb (N : Nat) : Tabs := ⟨tt, fun a b c => look3 a b c [(0, 1, 4, CE.sig 72 [.d, .d] (leqConfig.S N)), (0, 3, 4, CE.sig 73 [.d, .d] (leqNodeS.S N)), (0, 5, 4, CE.sig 74 [.d, .d] (leqTaskS.S N)), (0, 7, 4, CE.sig 75 [.d, .d] (leqUseS.S N))], fun a b => look2 a b []⟩
def leqYard.S (N : Nat) : Sig := ⟨leqYard.P, leqYard.R, false, false, [], false, leqYard.F N⟩
theorem leqYard.eq (N : Nat) (x : leqYard.P.D) : topV (leqYard.tb N) 0 Tryz.f36 [.d, .d] leqYard.P leqYard.R false false [] x = leqYard.T N x := by kernel_rfl
theorem leqYard.ok (N : Nat) : Sound Tryz.prog 36 [.d, .d] (leqYard.S N) := by
  have hs : SigsOK Tryz.prog (leqYard.tb N) := sigs_of _ rfl ⟨leqConfig.ok N, leqNodeS.ok N, leqTaskS.ok N, leqUseS.ok N, trivial⟩
  have g0 : Goods Tryz.prog (leqYard.tb N) Tryz.f36 [] := goods_nil
  exact ok_of tabOK mixed rfl hs Tryz.func36 g0 (by kernel_rfl) rfl (leqYard.eq N) (fun _ => rfl)
def leqNote.tb (N : Nat) : Tabs := ⟨tt, fun a b c => look3 a b c [], fun a b => look2 a b []⟩
def leqNote.S (N : Nat) : Sig := ⟨leqNote.P, leqNote.R, false, false, [], false, leqNote.F N⟩
theorem leqNote.eq (N : Nat) (x : leqNote.P.D) : topV (leqNote.tb N) 0 Tryz.f230 [.d, .d] leqNote.P leqNote.R false false [] x = leqNote.T N x := by kernel_rfl
theorem leqNote.ok (N : Nat) : Sound Tryz.prog 230 [.d, .d] (leqNote.S N) := by
  have hs : SigsOK Tryz.prog (leqNote.tb N) := sigs_of _ rfl trivial
  have g0 : Goods Tryz.prog (leqNote.tb N) Tryz.f230 [] := goods_nil
  exact ok_of tabOK mixed rfl hs Tryz.func230 g0 (by kernel_rfl) rfl (leqNote.eq N) (fun _ => rfl)
def leqNoteS.i0_0 : Tmpl := ⟨0, 27, [0, 1, 5], [.d (some 0) T90, .d (some 1) T90, .d none (.int .i64)], []⟩
def leqNoteS.o0_0 : Tmpl := ⟨0, 27, [], [], []⟩
def leqNoteS.r0_0 : Tmpl := ⟨0, 27, [4], [.d none .bool], []⟩
def leqNoteS.G0_0 (N : Nat) : Frag := ⟨leqNoteS.i0_0, leqNoteS.o0_0, leqNoteS.r0_0, leqNoteS.C0_0, leqNoteS.M0_0, leqNoteS.O0_0, leqNoteS.Q0_0, leqNoteS.L0_0 N⟩
def leqNoteS.tb (N : Nat) : Tabs := ⟨tt, fun a b c => look3 a b c [(0, 6, 8, CE.sig 230 [.d, .d] (leqNote.S N))], fun a b => look2 a b [(0, 0, leqNoteS.G0_0 N)]⟩
theorem leqNoteS.eq0_0 (N : Nat) (c : leqNoteS.C0_0.D) (m : leqNoteS.M0_0.D) : roundV (leqNoteS.tb N) 0 Tryz.f196 0 leqNoteS.i0_0 leqNoteS.o0_0 leqNoteS.r0_0 leqNoteS.M0_0 leqNoteS.O0_0 leqNoteS.Q0_0 (unpack leqNoteS.C0_0 c) m = (leqNoteS.B0_0 N c m).map (withC (stays (unpack leqNoteS.C0_0 c) [0, 1]) (stays (unpack leqNoteS.C0_0 c) []) (stays (unpack leqNoteS.C0_0 c) [])) := by kernel_rfl
def leqNoteS.S (N : Nat) : Sig := ⟨leqNoteS.P, leqNoteS.R, false, false, [], false, leqNoteS.F N⟩
theorem leqNoteS.eq (N : Nat) (x : leqNoteS.P.D) : topV (leqNoteS.tb N) 0 Tryz.f196 [.d, .d] leqNoteS.P leqNoteS.R false false [] x = leqNoteS.T N x := by kernel_rfl
theorem leqNoteS.ok (N : Nat) : Sound Tryz.prog 196 [.d, .d] (leqNoteS.S N) := by
  have hs : SigsOK Tryz.prog (leqNoteS.tb N) := sigs_of _ rfl ⟨leqNote.ok N, trivial⟩
  have g0 : Goods Tryz.prog (leqNoteS.tb N) Tryz.f196 [] := goods_nil
  have g1 := goods_cons tabOK mixed rfl hs g0 0 (by kernel_rfl) (leqNoteS.B0_0 N) N rfl (leqNoteS.eq0_0 N)
  exact ok_of tabOK mixed rfl hs Tryz.func196 g1 (by kernel_rfl) rfl (leqNoteS.eq N) (fun _ => rfl)
def leqBox.tb (N : Nat) : Tabs := ⟨tt, fun a b c => look3 a b c [(0, 1, 4, CE.sig 195 [.d, .d] (leqInt64S.S N)), (0, 3, 4, CE.sig 195 [.d, .d] (leqInt64S.S N)), (0, 5, 4, CE.sig 196 [.d, .d] (leqNoteS.S N))], fun a b => look2 a b []⟩
def leqBox.S (N : Nat) : Sig := ⟨leqBox.P, leqBox.R, false, false, [], false, leqBox.F N⟩
theorem leqBox.eq (N : Nat) (x : leqBox.P.D) : topV (leqBox.tb N) 0 Tryz.f133 [.d, .d] leqBox.P leqBox.R false false [] x = leqBox.T N x := by kernel_rfl
theorem leqBox.ok (N : Nat) : Sound Tryz.prog 133 [.d, .d] (leqBox.S N) := by
  have hs : SigsOK Tryz.prog (leqBox.tb N) := sigs_of _ rfl ⟨leqInt64S.ok N, leqInt64S.ok N, leqNoteS.ok N, trivial⟩
  have g0 : Goods Tryz.prog (leqBox.tb N) Tryz.f133 [] := goods_nil
  exact ok_of tabOK mixed rfl hs Tryz.func133 g0 (by kernel_rfl) rfl (leqBox.eq N) (fun _ => rfl)
def leqBoxS.i0_0 : Tmpl := ⟨0, 27, [0, 1, 5], [.d (some 0) T54, .d (some 1) T54, .d none (.int .i64)], []⟩
def leqBoxS.o0_0 : Tmpl := ⟨0, 27, [], [], []⟩
def leqBoxS.r0_0 : Tmpl := ⟨0, 27, [4], [.d none .bool], []⟩
def leqBoxS.G0_0 (N : Nat) : Frag := ⟨leqBoxS.i0_0, leqBoxS.o0_0, leqBoxS.r0_0, leqBoxS.C0_0, leqBoxS.M0_0, leqBoxS.O0_0, leqBoxS.Q0_0, leqBoxS.L0_0 N⟩
def leqBoxS.tb (N : Nat) : Tabs := ⟨tt, fun a b c => look3 a b c [(0, 6, 8, CE.sig 133 [.d, .d] (leqBox.S N))], fun a b => look2 a b [(0, 0, leqBoxS.G0_0 N)]⟩
theorem leqBoxS.eq0_0 (N : Nat) (c : leqBoxS.C0_0.D) (m : leqBoxS.M0_0.D) : roundV (leqBoxS.tb N) 0 Tryz.f76 0 leqBoxS.i0_0 leqBoxS.o0_0 leqBoxS.r0_0 leqBoxS.M0_0 leqBoxS.O0_0 leqBoxS.Q0_0 (unpack leqBoxS.C0_0 c) m = (leqBoxS.B0_0 N c m).map (withC (stays (unpack leqBoxS.C0_0 c) [0, 1]) (stays (unpack leqBoxS.C0_0 c) []) (stays (unpack leqBoxS.C0_0 c) [])) := by kernel_rfl
def leqBoxS.S (N : Nat) : Sig := ⟨leqBoxS.P, leqBoxS.R, false, false, [], false, leqBoxS.F N⟩
theorem leqBoxS.eq (N : Nat) (x : leqBoxS.P.D) : topV (leqBoxS.tb N) 0 Tryz.f76 [.d, .d] leqBoxS.P leqBoxS.R false false [] x = leqBoxS.T N x := by kernel_rfl
theorem leqBoxS.ok (N : Nat) : Sound Tryz.prog 76 [.d, .d] (leqBoxS.S N) := by
  have hs : SigsOK Tryz.prog (leqBoxS.tb N) := sigs_of _ rfl ⟨leqBox.ok N, trivial⟩
  have g0 : Goods Tryz.prog (leqBoxS.tb N) Tryz.f76 [] := goods_nil
  have g1 := goods_cons tabOK mixed rfl hs g0 0 (by kernel_rfl) (leqBoxS.B0_0 N) N rfl (leqBoxS.eq0_0 N)
  exact ok_of tabOK mixed rfl hs Tryz.func76 g1 (by kernel_rfl) rfl (leqBoxS.eq N) (fun _ => rfl)
def leqMail.tb (N : Nat) : Tabs := ⟨tt, fun a b c => look3 a b c [(0, 1, 4, CE.sig 76 [.d, .d] (leqBoxS.S N))], fun a b => look2 a b []⟩
def leqMail.S (N : Nat) : Sig := ⟨leqMail.P, leqMail.R, false, false, [], false, leqMail.F N⟩
theorem leqMail.eq (N : Nat) (x : leqMail.P.D) : topV (leqMail.tb N) 0 Tryz.f37 [.d, .d] leqMail.P leqMail.R false false [] x = leqMail.T N x := by kernel_rfl
theorem leqMail.ok (N : Nat) : Sound Tryz.prog 37 [.d, .d] (leqMail.S N) := by
  have hs : SigsOK Tryz.prog (leqMail.tb N) := sigs_of _ rfl ⟨leqBoxS.ok N, trivial⟩
  have g0 : Goods Tryz.prog (leqMail.tb N) Tryz.f37 [] := goods_nil
  exact ok_of tabOK mixed rfl hs Tryz.func37 g0 (by kernel_rfl) rfl (leqMail.eq N) (fun _ => rfl)
def leqState.tb (N : Nat) : Tabs := ⟨tt, fun a b c => look3 a b c [(0, 1, 4, CE.sig 36 [.d, .d] (leqYard.S N)), (0, 3, 4, CE.sig 37 [.d, .d] (leqMail.S N))], fun a b => look2 a b []⟩
def leqState.S (N : Nat) : Sig := ⟨leqState.P, leqState.R, false, false, [], false, leqState.F N⟩
theorem leqState.eq (N : Nat) (x : leqState.P.D) : topV (leqState.tb N) 0 Tryz.f14 [.d, .d] leqState.P leqState.R false false [] x = leqState.T N x := by kernel_rfl
theorem leqState.ok (N : Nat) : Sound Tryz.prog 14 [.d, .d] (leqState.S N) := by
  have hs : SigsOK Tryz.prog (leqState.tb N) := sigs_of _ rfl ⟨leqYard.ok N, leqMail.ok N, trivial⟩
  have g0 : Goods Tryz.prog (leqState.tb N) Tryz.f14 [] := goods_nil
  exact ok_of tabOK mixed rfl hs Tryz.func14 g0 (by kernel_rfl) rfl (leqState.eq N) (fun _ => rfl)
def leqRegion.tb (N : Nat) : Tabs := ⟨tt, fun a b c => look3 a b c [], fun a b => look2 a b []⟩
def leqRegion.S (N : Nat) : Sig := ⟨leqRegion.P, leqRegion.R, false, false, [], false, leqRegion.F N⟩
theorem leqRegion.eq (N : Nat) (x : leqRegion.P.D) : topV (leqRegion.tb N) 0 Tryz.f108 [.d, .d] leqRegion.P leqRegion.R false false [] x = leqRegion.T N x := by kernel_rfl
theorem leqRegion.ok (N : Nat) : Sound Tryz.prog 108 [.d, .d] (leqRegion.S N) := by
  have hs : SigsOK Tryz.prog (leqRegion.tb N) := sigs_of _ rfl trivial
  have g0 : Goods Tryz.prog (leqRegion.tb N) Tryz.f108 [] := goods_nil
  exact ok_of tabOK mixed rfl hs Tryz.func108 g0 (by kernel_rfl) rfl (leqRegion.eq N) (fun _ => rfl)
def leqRegionS.i0_0 : Tmpl := ⟨0, 27, [0, 1, 5], [.d (some 0) T59, .d (some 1) T59, .d none (.int .i64)], []⟩
def leqRegionS.o0_0 : Tmpl := ⟨0, 27, [], [], []⟩
def leqRegionS.r0_0 : Tmpl := ⟨0, 27, [4], [.d none .bool], []⟩
def leqRegionS.G0_0 (N : Nat) : Frag := ⟨leqRegionS.i0_0, leqRegionS.o0_0, leqRegionS.r0_0, leqRegionS.C0_0, leqRegionS.M0_0, leqRegionS.O0_0, leqRegionS.Q0_0, leqRegionS.L0_0 N⟩
def leqRegionS.tb (N : Nat) : Tabs := ⟨tt, fun a b c => look3 a b c [(0, 6, 8, CE.sig 108 [.d, .d] (leqRegion.S N))], fun a b => look2 a b [(0, 0, leqRegionS.G0_0 N)]⟩
theorem leqRegionS.eq0_0 (N : Nat) (c : leqRegionS.C0_0.D) (m : leqRegionS.M0_0.D) : roundV (leqRegionS.tb N) 0 Tryz.f52 0 leqRegionS.i0_0 leqRegionS.o0_0 leqRegionS.r0_0 leqRegionS.M0_0 leqRegionS.O0_0 leqRegionS.Q0_0 (unpack leqRegionS.C0_0 c) m = (leqRegionS.B0_0 N c m).map (withC (stays (unpack leqRegionS.C0_0 c) [0, 1]) (stays (unpack leqRegionS.C0_0 c) []) (stays (unpack leqRegionS.C0_0 c) [])) := by kernel_rfl
def leqRegionS.S (N : Nat) : Sig := ⟨leqRegionS.P, leqRegionS.R, false, false, [], false, leqRegionS.F N⟩
theorem leqRegionS.eq (N : Nat) (x : leqRegionS.P.D) : topV (leqRegionS.tb N) 0 Tryz.f52 [.d, .d] leqRegionS.P leqRegionS.R false false [] x = leqRegionS.T N x := by kernel_rfl
theorem leqRegionS.ok (N : Nat) : Sound Tryz.prog 52 [.d, .d] (leqRegionS.S N) := by
  have hs : SigsOK Tryz.prog (leqRegionS.tb N) := sigs_of _ rfl ⟨leqRegion.ok N, trivial⟩
  have g0 : Goods Tryz.prog (leqRegionS.tb N) Tryz.f52 [] := goods_nil
  have g1 := goods_cons tabOK mixed rfl hs g0 0 (by kernel_rfl) (leqRegionS.B0_0 N) N rfl (leqRegionS.eq0_0 N)
  exact ok_of tabOK mixed rfl hs Tryz.func52 g1 (by kernel_rfl) rfl (leqRegionS.eq N) (fun _ => rfl)
def leqDisk.tb (N : Nat) : Tabs := ⟨tt, fun a b c => look3 a b c [(0, 1, 4, CE.sig 52 [.d, .d] (leqRegionS.S N))], fun a b => look2 a b []⟩
def leqDisk.S (N : Nat) : Sig := ⟨leqDisk.P, leqDisk.R, false, false, [], false, leqDisk.F N⟩
theorem leqDisk.eq (N : Nat) (x : leqDisk.P.D) : topV (leqDisk.tb N) 0 Tryz.f25 [.d, .d] leqDisk.P leqDisk.R false false [] x = leqDisk.T N x := by kernel_rfl
theorem leqDisk.ok (N : Nat) : Sound Tryz.prog 25 [.d, .d] (leqDisk.S N) := by
  have hs : SigsOK Tryz.prog (leqDisk.tb N) := sigs_of _ rfl ⟨leqRegionS.ok N, trivial⟩
  have g0 : Goods Tryz.prog (leqDisk.tb N) Tryz.f25 [] := goods_nil
  exact ok_of tabOK mixed rfl hs Tryz.func25 g0 (by kernel_rfl) rfl (leqDisk.eq N) (fun _ => rfl)
def leqHouse.tb (N : Nat) : Tabs := ⟨tt, fun a b c => look3 a b c [(0, 1, 4, CE.sig 14 [.d, .d] (leqState.S N)), (0, 3, 4, CE.sig 25 [.d, .d] (leqDisk.S N))], fun a b => look2 a b []⟩
def leqHouse.S (N : Nat) : Sig := ⟨leqHouse.P, leqHouse.R, false, false, [], false, leqHouse.F N⟩
theorem leqHouse.eq (N : Nat) (x : leqHouse.P.D) : topV (leqHouse.tb N) 0 Tryz.f9 [.d, .d] leqHouse.P leqHouse.R false false [] x = leqHouse.T N x := by kernel_rfl
theorem leqHouse.ok (N : Nat) : Sound Tryz.prog 9 [.d, .d] (leqHouse.S N) := by
  have hs : SigsOK Tryz.prog (leqHouse.tb N) := sigs_of _ rfl ⟨leqState.ok N, leqDisk.ok N, trivial⟩
  have g0 : Goods Tryz.prog (leqHouse.tb N) Tryz.f9 [] := goods_nil
  exact ok_of tabOK mixed rfl hs Tryz.func9 g0 (by kernel_rfl) rfl (leqHouse.eq N) (fun _ => rfl)
def lFnExactHouseRight.tb (N : Nat) : Tabs := ⟨tt, fun a b c => look3 a b c [(0, 2, 2, CE.sig 5 [.d, .d] (lszHouse.S N)), (0, 5, 1, CE.sig 7 [.d] (ltoHouse.S N)), (0, 5, 2, CE.sig 6 [.d] (sHouseRight.S N)), (0, 6, 1, CE.sig 7 [.d] (ltoHouse.S N)), (0, 7, 1, CE.sig 8 [.d] (iHouseRight.S N)), (0, 10, 2, CE.sig 7 [.d] (ltoHouse.S N)), (0, 10, 3, CE.sig 9 [.d, .d] (leqHouse.S N))], fun a b => look2 a b []⟩
def lFnExactHouseRight.S (N : Nat) : Sig := ⟨lFnExactHouseRight.P, lFnExactHouseRight.R, false, false, [], false, lFnExactHouseRight.F N⟩
theorem lFnExactHouseRight.eq (N : Nat) (x : lFnExactHouseRight.P.D) : topV (lFnExactHouseRight.tb N) 0 Tryz.f3 [.d] lFnExactHouseRight.P lFnExactHouseRight.R false false [] x = lFnExactHouseRight.T N x := by kernel_rfl
theorem lFnExactHouseRight.ok (N : Nat) : Sound Tryz.prog 3 [.d] (lFnExactHouseRight.S N) := by
  have hs : SigsOK Tryz.prog (lFnExactHouseRight.tb N) := sigs_of _ rfl ⟨lszHouse.ok N, ltoHouse.ok N, sHouseRight.ok N, ltoHouse.ok N, iHouseRight.ok N, ltoHouse.ok N, leqHouse.ok N, trivial⟩
  have g0 : Goods Tryz.prog (lFnExactHouseRight.tb N) Tryz.f3 [] := goods_nil
  exact ok_of tabOK mixed rfl hs Tryz.func3 g0 (by kernel_rfl) rfl (lFnExactHouseRight.eq N) (fun _ => rfl)
end Go.Proofs.YtjnfmjeiceiciaaGreat
