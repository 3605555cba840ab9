/-
What the functions are: checked by the kernel; printed by program.
-/
import Derived.Test.YthjhfnmbiacceaaGreatWalk0
namespace Go.Proofs.YthjhfnmbiacceaaGreat
open X
set_option linter.unusedVariables false
set_option linter.unusedSimpArgs false
set_option maxRecDepth 100000
open Go Go.RowKit Go.Shelf
def slIndexFunc_iYardRight_1.i0_0 : Tmpl := ⟨0, 19, [0, 1, 7, 8], [.d (some 0) T91, .fn 51 [.ip (some 1) T47], .d (some 2) (.int .i64), .d none (.int .i64)], []⟩
def slIndexFunc_iYardRight_1.o0_0 : Tmpl := ⟨0, 19, [], [], []⟩
def slIndexFunc_iYardRight_1.r0_0 : Tmpl := ⟨0, 19, [4], [.d none (.int .i64)], []⟩
def slIndexFunc_iYardRight_1.G0_0 (N : Nat) : Frag := ⟨slIndexFunc_iYardRight_1.i0_0, slIndexFunc_iYardRight_1.o0_0, slIndexFunc_iYardRight_1.r0_0, slIndexFunc_iYardRight_1.C0_0, slIndexFunc_iYardRight_1.M0_0, slIndexFunc_iYardRight_1.O0_0, slIndexFunc_iYardRight_1.Q0_0, slIndexFunc_iYardRight_1.L0_0 N⟩
def slIndexFunc_iYardRight_1.tb (N : Nat) : Tabs := ⟨tt, fun a b c => look3 a b c [(0, 4, 5, CE.sig 51 [.d, .ip] (iYardRight_1_p.S N))], fun a b => look2 a b [(0, 0, slIndexFunc_iYardRight_1.G0_0 N)]⟩
theorem slIndexFunc_iYardRight_1.eq0_0 (N : Nat) (c : slIndexFunc_iYardRight_1.C0_0.D) (m : slIndexFunc_iYardRight_1.M0_0.D) : roundV (slIndexFunc_iYardRight_1.tb N) 0 Tryz.f119 0 slIndexFunc_iYardRight_1.i0_0 slIndexFunc_iYardRight_1.o0_0 slIndexFunc_iYardRight_1.r0_0 slIndexFunc_iYardRight_1.M0_0 slIndexFunc_iYardRight_1.O0_0 slIndexFunc_iYardRight_1.Q0_0 (unpack slIndexFunc_iYardRight_1.C0_0 c) m = (slIndexFunc_iYardRight_1.B0_0 N c m).map (withC (stays (unpack slIndexFunc_iYardRight_1.C0_0 c) [0, 1, 2]) (stays (unpack slIndexFunc_iYardRight_1.C0_0 c) []) (stays (unpack slIndexFunc_iYardRight_1.C0_0 c) [])) := by kernel_rfl
def slIndexFunc_iYardRight_1.S (N : Nat) : Sig := ⟨slIndexFunc_iYardRight_1.P, slIndexFunc_iYardRight_1.R, false, false, [], false, slIndexFunc_iYardRight_1.F N⟩
theorem slIndexFunc_iYardRight_1.eq (N : Nat) (x : slIndexFunc_iYardRight_1.P.D) : topV (slIndexFunc_iYardRight_1.tb N) 0 Tryz.f119 [.d, .fn 51 1] slIndexFunc_iYardRight_1.P slIndexFunc_iYardRight_1.R false false [] x = slIndexFunc_iYardRight_1.T N x := by kernel_rfl
theorem slIndexFunc_iYardRight_1.ok (N : Nat) : Sound Tryz.prog 119 [.d, .fn 51 1] (slIndexFunc_iYardRight_1.S N) := by
  have hs : SigsOK Tryz.prog (slIndexFunc_iYardRight_1.tb N) := sigs_of _ rfl ⟨iYardRight_1_p.ok N, trivial⟩
  have g0 : Goods Tryz.prog (slIndexFunc_iYardRight_1.tb N) Tryz.f119 [] := goods_nil
  have g1 := goods_cons tabOK mixed rfl hs g0 0 (by kernel_rfl) (slIndexFunc_iYardRight_1.B0_0 N) N rfl (slIndexFunc_iYardRight_1.eq0_0 N)
  exact ok_of tabOK mixed rfl hs Tryz.func119 g1 (by kernel_rfl) rfl (slIndexFunc_iYardRight_1.eq N) (fun _ => rfl)
def slContainsFunc_iYardRight_1.tb (N : Nat) : Tabs := ⟨tt, fun a b c => look3 a b c [(0, 1, 2, CE.sig 119 [.d, .fn 51 1] (slIndexFunc_iYardRight_1.S N))], fun a b => look2 a b []⟩
def slContainsFunc_iYardRight_1.S (N : Nat) : Sig := ⟨slContainsFunc_iYardRight_1.P, slContainsFunc_iYardRight_1.R, false, false, [], false, slContainsFunc_iYardRight_1.F N⟩
theorem slContainsFunc_iYardRight_1.eq (N : Nat) (x : slContainsFunc_iYardRight_1.P.D) : topV (slContainsFunc_iYardRight_1.tb N) 0 Tryz.f50 [.d, .fn 51 1] slContainsFunc_iYardRight_1.P slContainsFunc_iYardRight_1.R false false [] x = slContainsFunc_iYardRight_1.T N x := by kernel_rfl
theorem slContainsFunc_iYardRight_1.ok (N : Nat) : Sound Tryz.prog 50 [.d, .fn 51 1] (slContainsFunc_iYardRight_1.S N) := by
  have hs : SigsOK Tryz.prog (slContainsFunc_iYardRight_1.tb N) := sigs_of _ rfl ⟨slIndexFunc_iYardRight_1.ok N, trivial⟩
  have g0 : Goods Tryz.prog (slContainsFunc_iYardRight_1.tb N) Tryz.f50 [] := goods_nil
  exact ok_of tabOK mixed rfl hs Tryz.func50 g0 (by kernel_rfl) rfl (slContainsFunc_iYardRight_1.eq N) (fun _ => rfl)
def iYardRight_2_p.tb (N : Nat) : Tabs := ⟨tt, fun a b c => look3 a b c [(0, 1, 3, CE.sig 56 [.d, .d] (slContains_SLabel.S N))], fun a b => look2 a b []⟩
def iYardRight_2_p.S (N : Nat) : Sig := ⟨iYardRight_2_p.P, iYardRight_2_p.R, false, false, [], false, iYardRight_2_p.F N⟩
theorem iYardRight_2_p.eq (N : Nat) (x : iYardRight_2_p.P.D) : topV (iYardRight_2_p.tb N) 0 Tryz.f55 [.d, .ip] iYardRight_2_p.P iYardRight_2_p.R false false [] x = iYardRight_2_p.T N x := by kernel_rfl
theorem iYardRight_2_p.ok (N : Nat) : Sound Tryz.prog 55 [.d, .ip] (iYardRight_2_p.S N) := by
  have hs : SigsOK Tryz.prog (iYardRight_2_p.tb N) := sigs_of _ rfl ⟨slContains_SLabel.ok N, trivial⟩
  have g0 : Goods Tryz.prog (iYardRight_2_p.tb N) Tryz.f55 [] := goods_nil
  exact ok_of tabOK mixed rfl hs Tryz.func55 g0 (by kernel_rfl) rfl (iYardRight_2_p.eq N) (fun _ => rfl)
def slIndexFunc_iYardRight_2.i0_0 : Tmpl := ⟨0, 19, [0, 1, 7, 8], [.d (some 0) T46, .fn 55 [.ip (some 1) T91], .d (some 2) (.int .i64), .d none (.int .i64)], []⟩
def slIndexFunc_iYardRight_2.o0_0 : Tmpl := ⟨0, 19, [], [], []⟩
def slIndexFunc_iYardRight_2.r0_0 : Tmpl := ⟨0, 19, [4], [.d none (.int .i64)], []⟩
def slIndexFunc_iYardRight_2.G0_0 (N : Nat) : Frag := ⟨slIndexFunc_iYardRight_2.i0_0, slIndexFunc_iYardRight_2.o0_0, slIndexFunc_iYardRight_2.r0_0, slIndexFunc_iYardRight_2.C0_0, slIndexFunc_iYardRight_2.M0_0, slIndexFunc_iYardRight_2.O0_0, slIndexFunc_iYardRight_2.Q0_0, slIndexFunc_iYardRight_2.L0_0 N⟩
def slIndexFunc_iYardRight_2.tb (N : Nat) : Tabs := ⟨tt, fun a b c => look3 a b c [(0, 4, 5, CE.sig 55 [.d, .ip] (iYardRight_2_p.S N))], fun a b => look2 a b [(0, 0, slIndexFunc_iYardRight_2.G0_0 N)]⟩
theorem slIndexFunc_iYardRight_2.eq0_0 (N : Nat) (c : slIndexFunc_iYardRight_2.C0_0.D) (m : slIndexFunc_iYardRight_2.M0_0.D) : roundV (slIndexFunc_iYardRight_2.tb N) 0 Tryz.f121 0 slIndexFunc_iYardRight_2.i0_0 slIndexFunc_iYardRight_2.o0_0 slIndexFunc_iYardRight_2.r0_0 slIndexFunc_iYardRight_2.M0_0 slIndexFunc_iYardRight_2.O0_0 slIndexFunc_iYardRight_2.Q0_0 (unpack slIndexFunc_iYardRight_2.C0_0 c) m = (slIndexFunc_iYardRight_2.B0_0 N c m).map (withC (stays (unpack slIndexFunc_iYardRight_2.C0_0 c) [0, 1, 2]) (stays (unpack slIndexFunc_iYardRight_2.C0_0 c) []) (stays (unpack slIndexFunc_iYardRight_2.C0_0 c) [])) := by kernel_rfl
def slIndexFunc_iYardRight_2.S (N : Nat) : Sig := ⟨slIndexFunc_iYardRight_2.P, slIndexFunc_iYardRight_2.R, false, false, [], false, slIndexFunc_iYardRight_2.F N⟩
theorem slIndexFunc_iYardRight_2.eq (N : Nat) (x : slIndexFunc_iYardRight_2.P.D) : topV (slIndexFunc_iYardRight_2.tb N) 0 Tryz.f121 [.d, .fn 55 1] slIndexFunc_iYardRight_2.P slIndexFunc_iYardRight_2.R false false [] x = slIndexFunc_iYardRight_2.T N x := by kernel_rfl
theorem slIndexFunc_iYardRight_2.ok (N : Nat) : Sound Tryz.prog 121 [.d, .fn 55 1] (slIndexFunc_iYardRight_2.S N) := by
  have hs : SigsOK Tryz.prog (slIndexFunc_iYardRight_2.tb N) := sigs_of _ rfl ⟨iYardRight_2_p.ok N, trivial⟩
  have g0 : Goods Tryz.prog (slIndexFunc_iYardRight_2.tb N) Tryz.f121 [] := goods_nil
  have g1 := goods_cons tabOK mixed rfl hs g0 0 (by kernel_rfl) (slIndexFunc_iYardRight_2.B0_0 N) N rfl (slIndexFunc_iYardRight_2.eq0_0 N)
  exact ok_of tabOK mixed rfl hs Tryz.func121 g1 (by kernel_rfl) rfl (slIndexFunc_iYardRight_2.eq N) (fun _ => rfl)
def slContainsFunc_iYardRight_2.tb (N : Nat) : Tabs := ⟨tt, fun a b c => look3 a b c [(0, 1, 2, CE.sig 121 [.d, .fn 55 1] (slIndexFunc_iYardRight_2.S N))], fun a b => look2 a b []⟩
def slContainsFunc_iYardRight_2.S (N : Nat) : Sig := ⟨slContainsFunc_iYardRight_2.P, slContainsFunc_iYardRight_2.R, false, false, [], false, slContainsFunc_iYardRight_2.F N⟩
theorem slContainsFunc_iYardRight_2.eq (N : Nat) (x : slContainsFunc_iYardRight_2.P.D) : topV (slContainsFunc_iYardRight_2.tb N) 0 Tryz.f54 [.d, .fn 55 1] slContainsFunc_iYardRight_2.P slContainsFunc_iYardRight_2.R false false [] x = slContainsFunc_iYardRight_2.T N x := by kernel_rfl
theorem slContainsFunc_iYardRight_2.ok (N : Nat) : Sound Tryz.prog 54 [.d, .fn 55 1] (slContainsFunc_iYardRight_2.S N) := by
  have hs : SigsOK Tryz.prog (slContainsFunc_iYardRight_2.tb N) := sigs_of _ rfl ⟨slIndexFunc_iYardRight_2.ok N, trivial⟩
  have g0 : Goods Tryz.prog (slContainsFunc_iYardRight_2.tb N) Tryz.f54 [] := goods_nil
  exact ok_of tabOK mixed rfl hs Tryz.func54 g0 (by kernel_rfl) rfl (slContainsFunc_iYardRight_2.eq N) (fun _ => rfl)
def iYardRight.i0_4 : Tmpl := ⟨3, 97, [1, 3, 5, 49, 50, 51, 60, 61, 62], [.cp 0 0, .ap 1, .cp 2 0, .d (some 0) T45, .d (some 1) (.int .i64), .d (some 2) (.int .i64), .d (some 3) T61, .d (some 4) (.int .i64), .d none (.int .i64)], [.cells [.d (some 5) T39, .d (some 6) T40, .d (some 7) T41, .d (some 8) (.int .i64), .d (some 9) T44, .d (some 10) T45, .d (some 11) T46, .d (some 12) (.int .i64)], .arr none .bool, .cells [.d (some 13) (.int .i64), .d (some 14) (.int .i64), .d (some 15) (.int .i64), .d (some 16) .str, .d (some 17) (.int .i64), .d (some 18) (.int .i64), .d (some 19) (.int .i64), .d (some 20) (.int .i64), .d (some 21) (.int .i64), .d (some 22) (.int .i64), .d (some 23) (.int .i64), .d (some 24) (.int .i64), .d (some 25) (.int .i64), .d (some 26) T61]]⟩
def iYardRight.o0_4 : Tmpl := ⟨3, 97, [1, 3, 49, 50, 51], [.cp 0 0, .ap 1, .d (some 0) T45, .d (some 1) (.int .i64), .d (some 2) (.int .i64)], [.cells [.d (some 5) T39, .d (some 6) T40, .d (some 7) T41, .d (some 8) (.int .i64), .d (some 9) T44, .d (some 10) T45, .d (some 11) T46, .d (some 12) (.int .i64)], .arr none .bool, .dead]⟩
def iYardRight.r0_4 : Tmpl := ⟨3, 97, [2], [.d none .bool], [.dead, .dead, .dead]⟩
def iYardRight.G0_4 (N : Nat) : Frag := ⟨iYardRight.i0_4, iYardRight.o0_4, iYardRight.r0_4, iYardRight.C0_4, iYardRight.M0_4, iYardRight.O0_4, iYardRight.Q0_4, iYardRight.L0_4 N⟩
def iYardRight.i0_0 : Tmpl := ⟨2, 97, [1, 3, 49, 50, 51], [.cp 0 0, .ap 1, .d (some 0) T45, .d (some 1) (.int .i64), .d none (.int .i64)], [.cells [.d (some 2) T39, .d (some 3) T40, .d (some 4) T41, .d (some 5) (.int .i64), .d (some 6) T44, .d (some 7) T45, .d (some 8) T46, .d (some 9) (.int .i64)], .arr none .bool]⟩
def iYardRight.o0_0 : Tmpl := ⟨2, 97, [1], [.cp 0 0], [.cells [.d (some 2) T39, .d (some 3) T40, .d (some 4) T41, .d (some 5) (.int .i64), .d (some 6) T44, .d (some 7) T45, .d (some 8) T46, .d (some 9) (.int .i64)], .dead]⟩
def iYardRight.r0_0 : Tmpl := ⟨2, 97, [2], [.d none .bool], [.dead, .dead]⟩
def iYardRight.G0_0 (N : Nat) : Frag := ⟨iYardRight.i0_0, iYardRight.o0_0, iYardRight.r0_0, iYardRight.C0_0, iYardRight.M0_0, iYardRight.O0_0, iYardRight.Q0_0, iYardRight.L0_0 N⟩
def iYardRight.tb (N : Nat) : Tabs := ⟨tt, fun a b c => look3 a b c [(0, 1, 2, CE.sig 43 [.d] (iConfigRight.S N)), (0, 1, 17, CE.sig 44 [.d] (iNodesRight.S N)), (0, 1, 23, CE.sig 45 [.d] (iTasksRight.S N)), (0, 1, 29, CE.sig 46 [.d] (iUsesRight.S N)), (0, 1, 35, CE.sig 47 [.d] (iisNow.S N)), (0, 7, 2, CE.sig 48 [.d, .d] (iYard_taskFits.S N)), (0, 17, 2, CE.sig 49 [.d] (iConfig_labels.S N)), (0, 18, 2, CE.sig 50 [.d, .fn 51 1] (slContainsFunc_iYardRight_1.S N)), (0, 20, 3, CE.sig 54 [.d, .fn 55 1] (slContainsFunc_iYardRight_2.S N))], fun a b => look2 a b [(0, 4, iYardRight.G0_4 N), (0, 0, iYardRight.G0_0 N)]⟩
theorem iYardRight.eq0_4 (N : Nat) (c : iYardRight.C0_4.D) (m : iYardRight.M0_4.D) : roundV (iYardRight.tb N) 0 Tryz.f15 2 iYardRight.i0_4 iYardRight.o0_4 iYardRight.r0_4 iYardRight.M0_4 iYardRight.O0_4 iYardRight.Q0_4 (unpack iYardRight.C0_4 c) m = (iYardRight.B0_4 N c m).map (withC (stays (unpack iYardRight.C0_4 c) [0, 1, 2, 3, 4, 5, 6, 7, 8, 9, 10, 11, 12, 13, 14, 15, 16, 17, 18, 19, 20, 21, 22, 23, 24, 25, 26]) (stays (unpack iYardRight.C0_4 c) [0, 1, 2, 5, 6, 7, 8, 9, 10, 11, 12]) (stays (unpack iYardRight.C0_4 c) [])) := by kernel_rfl
theorem iYardRight.eq0_0 (N : Nat) (c : iYardRight.C0_0.D) (m : iYardRight.M0_0.D) : roundV (iYardRight.tb N) 0 Tryz.f15 0 iYardRight.i0_0 iYardRight.o0_0 iYardRight.r0_0 iYardRight.M0_0 iYardRight.O0_0 iYardRight.Q0_0 (unpack iYardRight.C0_0 c) m = (iYardRight.B0_0 N c m).map (withC (stays (unpack iYardRight.C0_0 c) [0, 1, 2, 3, 4, 5, 6, 7, 8, 9]) (stays (unpack iYardRight.C0_0 c) [2, 3, 4, 5, 6, 7, 8, 9]) (stays (unpack iYardRight.C0_0 c) [])) := by kernel_rfl
def iYardRight.S (N : Nat) : Sig := ⟨iYardRight.P, iYardRight.R, false, false, [], false, iYardRight.F N⟩
theorem iYardRight.eq (N : Nat) (x : iYardRight.P.D) : topV (iYardRight.tb N) 0 Tryz.f15 [.d] iYardRight.P iYardRight.R false false [] x = iYardRight.T N x := by kernel_rfl
theorem iYardRight.ok (N : Nat) : Sound Tryz.prog 15 [.d] (iYardRight.S N) := by
  have hs : SigsOK Tryz.prog (iYardRight.tb N) := sigs_of _ rfl ⟨iConfigRight.ok N, iNodesRight.ok N, iTasksRight.ok N, iUsesRight.ok N, iisNow.ok N, iYard_taskFits.ok N, iConfig_labels.ok N, slContainsFunc_iYardRight_1.ok N, slContainsFunc_iYardRight_2.ok N, trivial⟩
  have g0 : Goods Tryz.prog (iYardRight.tb N) Tryz.f15 [] := goods_nil
  have g1 := goods_cons tabOK mixed rfl hs g0 2 (by kernel_rfl) (iYardRight.B0_4 N) N rfl (iYardRight.eq0_4 N)
  have g2 := goods_cons tabOK mixed rfl hs g1 0 (by kernel_rfl) (iYardRight.B0_0 N) N rfl (iYardRight.eq0_0 N)
  exact ok_of tabOK mixed rfl hs Tryz.func15 g2 (by kernel_rfl) rfl (iYardRight.eq N) (fun _ => rfl)
def inotesRight.i0_0 : Tmpl := ⟨0, 35, [0, 5, 6, 7], [.d (some 0) T62, .d (some 1) T62, .d (some 2) (.int .i64), .d none (.int .i64)], []⟩
def inotesRight.o0_0 : Tmpl := ⟨0, 35, [0], [.d (some 0) T62], []⟩
def inotesRight.r0_0 : Tmpl := ⟨0, 35, [2], [.d none .bool], []⟩
def inotesRight.G0_0 (N : Nat) : Frag := ⟨inotesRight.i0_0, inotesRight.o0_0, inotesRight.r0_0, inotesRight.C0_0, inotesRight.M0_0, inotesRight.O0_0, inotesRight.Q0_0, inotesRight.L0_0 N⟩
def inotesRight.tb (N : Nat) : Tabs := ⟨tt, fun a b c => look3 a b c [(0, 4, 2, CE.sig 47 [.d] (iisNow.S N))], fun a b => look2 a b [(0, 0, inotesRight.G0_0 N)]⟩
theorem inotesRight.eq0_0 (N : Nat) (c : inotesRight.C0_0.D) (m : inotesRight.M0_0.D) : roundV (inotesRight.tb N) 0 Tryz.f57 0 inotesRight.i0_0 inotesRight.o0_0 inotesRight.r0_0 inotesRight.M0_0 inotesRight.O0_0 inotesRight.Q0_0 (unpack inotesRight.C0_0 c) m = (inotesRight.B0_0 N c m).map (withC (stays (unpack inotesRight.C0_0 c) [0, 1, 2]) (stays (unpack inotesRight.C0_0 c) [0]) (stays (unpack inotesRight.C0_0 c) [])) := by kernel_rfl
def inotesRight.S (N : Nat) : Sig := ⟨inotesRight.P, inotesRight.R, false, false, [], false, inotesRight.F N⟩
theorem inotesRight.eq (N : Nat) (x : inotesRight.P.D) : topV (inotesRight.tb N) 0 Tryz.f57 [.d] inotesRight.P inotesRight.R false false [] x = inotesRight.T N x := by kernel_rfl
theorem inotesRight.ok (N : Nat) : Sound Tryz.prog 57 [.d] (inotesRight.S N) := by
  have hs : SigsOK Tryz.prog (inotesRight.tb N) := sigs_of _ rfl ⟨iisNow.ok N, trivial⟩
  have g0 : Goods Tryz.prog (inotesRight.tb N) Tryz.f57 [] := goods_nil
  have g1 := goods_cons tabOK mixed rfl hs g0 0 (by kernel_rfl) (inotesRight.B0_0 N) N rfl (inotesRight.eq0_0 N)
  exact ok_of tabOK mixed rfl hs Tryz.func57 g1 (by kernel_rfl) rfl (inotesRight.eq N) (fun _ => rfl)
def iMailRight.i0_0 : Tmpl := ⟨2, 53, [2, 21, 22, 23], [.cp 0 0, .d (some 0) T49, .d (some 1) (.int .i64), .d none (.int .i64)], [.cells [.d (some 2) T39, .d (some 3) T40, .d (some 4) T41, .d (some 5) (.int .i64)], .dead]⟩
def iMailRight.o0_0 : Tmpl := ⟨2, 53, [], [], [.dead, .dead]⟩
def iMailRight.r0_0 : Tmpl := ⟨2, 53, [4], [.d none .bool], [.dead, .dead]⟩
def iMailRight.G0_0 (N : Nat) : Frag := ⟨iMailRight.i0_0, iMailRight.o0_0, iMailRight.r0_0, iMailRight.C0_0, iMailRight.M0_0, iMailRight.O0_0, iMailRight.Q0_0, iMailRight.L0_0 N⟩
def iMailRight.tb (N : Nat) : Tabs := ⟨tt, fun a b c => look3 a b c [(0, 1, 1, CE.sig 43 [.d] (iConfigRight.S N)), (0, 7, 15, CE.sig 57 [.d] (inotesRight.S N))], fun a b => look2 a b [(0, 0, iMailRight.G0_0 N)]⟩
theorem iMailRight.eq0_0 (N : Nat) (c : iMailRight.C0_0.D) (m : iMailRight.M0_0.D) : roundV (iMailRight.tb N) 0 Tryz.f16 0 iMailRight.i0_0 iMailRight.o0_0 iMailRight.r0_0 iMailRight.M0_0 iMailRight.O0_0 iMailRight.Q0_0 (unpack iMailRight.C0_0 c) m = (iMailRight.B0_0 N c m).map (withC (stays (unpack iMailRight.C0_0 c) [0, 1, 2, 3, 4, 5]) (stays (unpack iMailRight.C0_0 c) []) (stays (unpack iMailRight.C0_0 c) [])) := by kernel_rfl
def iMailRight.S (N : Nat) : Sig := ⟨iMailRight.P, iMailRight.R, false, false, [], false, iMailRight.F N⟩
theorem iMailRight.eq (N : Nat) (x : iMailRight.P.D) : topV (iMailRight.tb N) 0 Tryz.f16 [.d, .d] iMailRight.P iMailRight.R false false [] x = iMailRight.T N x := by kernel_rfl
theorem iMailRight.ok (N : Nat) : Sound Tryz.prog 16 [.d, .d] (iMailRight.S N) := by
  have hs : SigsOK Tryz.prog (iMailRight.tb N) := sigs_of _ rfl ⟨iConfigRight.ok N, inotesRight.ok N, trivial⟩
  have g0 : Goods Tryz.prog (iMailRight.tb N) Tryz.f16 [] := goods_nil
  have g1 := goods_cons tabOK mixed rfl hs g0 0 (by kernel_rfl) (iMailRight.B0_0 N) N rfl (iMailRight.eq0_0 N)
  exact ok_of tabOK mixed rfl hs Tryz.func16 g1 (by kernel_rfl) rfl (iMailRight.eq N) (fun _ => rfl)
def iStateRight_1_1_p.tb (N : Nat) : Tabs := ⟨tt, fun a b c => look3 a b c [], fun a b => look2 a b []⟩
def iStateRight_1_1_p.S (N : Nat) : Sig := ⟨iStateRight_1_1_p.P, iStateRight_1_1_p.R, false, false, [], false, iStateRight_1_1_p.F N⟩
theorem iStateRight_1_1_p.eq (N : Nat) (x : iStateRight_1_1_p.P.D) : topV (iStateRight_1_1_p.tb N) 0 Tryz.f20 [.d, .ip] iStateRight_1_1_p.P iStateRight_1_1_p.R false false [] x = iStateRight_1_1_p.T N x := by kernel_rfl
theorem iStateRight_1_1_p.ok (N : Nat) : Sound Tryz.prog 20 [.d, .ip] (iStateRight_1_1_p.S N) := by
  have hs : SigsOK Tryz.prog (iStateRight_1_1_p.tb N) := sigs_of _ rfl trivial
  have g0 : Goods Tryz.prog (iStateRight_1_1_p.tb N) Tryz.f20 [] := goods_nil
  exact ok_of tabOK mixed rfl hs Tryz.func20 g0 (by kernel_rfl) rfl (iStateRight_1_1_p.eq N) (fun _ => rfl)
def slIndexFunc_iStateRight_1_1.i0_0 : Tmpl := ⟨0, 19, [0, 1, 7, 8], [.d (some 0) T62, .fn 20 [.ip (some 1) T52], .d (some 2) (.int .i64), .d none (.int .i64)], []⟩
def slIndexFunc_iStateRight_1_1.o0_0 : Tmpl := ⟨0, 19, [], [], []⟩
def slIndexFunc_iStateRight_1_1.r0_0 : Tmpl := ⟨0, 19, [4], [.d none (.int .i64)], []⟩
def slIndexFunc_iStateRight_1_1.G0_0 (N : Nat) : Frag := ⟨slIndexFunc_iStateRight_1_1.i0_0, slIndexFunc_iStateRight_1_1.o0_0, slIndexFunc_iStateRight_1_1.r0_0, slIndexFunc_iStateRight_1_1.C0_0, slIndexFunc_iStateRight_1_1.M0_0, slIndexFunc_iStateRight_1_1.O0_0, slIndexFunc_iStateRight_1_1.Q0_0, slIndexFunc_iStateRight_1_1.L0_0 N⟩
def slIndexFunc_iStateRight_1_1.tb (N : Nat) : Tabs := ⟨tt, fun a b c => look3 a b c [(0, 4, 5, CE.sig 20 [.d, .ip] (iStateRight_1_1_p.S N))], fun a b => look2 a b [(0, 0, slIndexFunc_iStateRight_1_1.G0_0 N)]⟩
theorem slIndexFunc_iStateRight_1_1.eq0_0 (N : Nat) (c : slIndexFunc_iStateRight_1_1.C0_0.D) (m : slIndexFunc_iStateRight_1_1.M0_0.D) : roundV (slIndexFunc_iStateRight_1_1.tb N) 0 Tryz.f59 0 slIndexFunc_iStateRight_1_1.i0_0 slIndexFunc_iStateRight_1_1.o0_0 slIndexFunc_iStateRight_1_1.r0_0 slIndexFunc_iStateRight_1_1.M0_0 slIndexFunc_iStateRight_1_1.O0_0 slIndexFunc_iStateRight_1_1.Q0_0 (unpack slIndexFunc_iStateRight_1_1.C0_0 c) m = (slIndexFunc_iStateRight_1_1.B0_0 N c m).map (withC (stays (unpack slIndexFunc_iStateRight_1_1.C0_0 c) [0, 1, 2]) (stays (unpack slIndexFunc_iStateRight_1_1.C0_0 c) []) (stays (unpack slIndexFunc_iStateRight_1_1.C0_0 c) [])) := by kernel_rfl
def slIndexFunc_iStateRight_1_1.S (N : Nat) : Sig := ⟨slIndexFunc_iStateRight_1_1.P, slIndexFunc_iStateRight_1_1.R, false, false, [], false, slIndexFunc_iStateRight_1_1.F N⟩
theorem slIndexFunc_iStateRight_1_1.eq (N : Nat) (x : slIndexFunc_iStateRight_1_1.P.D) : topV (slIndexFunc_iStateRight_1_1.tb N) 0 Tryz.f59 [.d, .fn 20 1] slIndexFunc_iStateRight_1_1.P slIndexFunc_iStateRight_1_1.R false false [] x = slIndexFunc_iStateRight_1_1.T N x := by kernel_rfl
theorem slIndexFunc_iStateRight_1_1.ok (N : Nat) : Sound Tryz.prog 59 [.d, .fn 20 1] (slIndexFunc_iStateRight_1_1.S N) := by
  have hs : SigsOK Tryz.prog (slIndexFunc_iStateRight_1_1.tb N) := sigs_of _ rfl ⟨iStateRight_1_1_p.ok N, trivial⟩
  have g0 : Goods Tryz.prog (slIndexFunc_iStateRight_1_1.tb N) Tryz.f59 [] := goods_nil
  have g1 := goods_cons tabOK mixed rfl hs g0 0 (by kernel_rfl) (slIndexFunc_iStateRight_1_1.B0_0 N) N rfl (slIndexFunc_iStateRight_1_1.eq0_0 N)
  exact ok_of tabOK mixed rfl hs Tryz.func59 g1 (by kernel_rfl) rfl (slIndexFunc_iStateRight_1_1.eq N) (fun _ => rfl)
def slContainsFunc_iStateRight_1_1.tb (N : Nat) : Tabs := ⟨tt, fun a b c => look3 a b c [(0, 1, 2, CE.sig 59 [.d, .fn 20 1] (slIndexFunc_iStateRight_1_1.S N))], fun a b => look2 a b []⟩
def slContainsFunc_iStateRight_1_1.S (N : Nat) : Sig := ⟨slContainsFunc_iStateRight_1_1.P, slContainsFunc_iStateRight_1_1.R, false, false, [], false, slContainsFunc_iStateRight_1_1.F N⟩
theorem slContainsFunc_iStateRight_1_1.eq (N : Nat) (x : slContainsFunc_iStateRight_1_1.P.D) : topV (slContainsFunc_iStateRight_1_1.tb N) 0 Tryz.f19 [.d, .fn 20 1] slContainsFunc_iStateRight_1_1.P slContainsFunc_iStateRight_1_1.R false false [] x = slContainsFunc_iStateRight_1_1.T N x := by kernel_rfl
theorem slContainsFunc_iStateRight_1_1.ok (N : Nat) : Sound Tryz.prog 19 [.d, .fn 20 1] (slContainsFunc_iStateRight_1_1.S N) := by
  have hs : SigsOK Tryz.prog (slContainsFunc_iStateRight_1_1.tb N) := sigs_of _ rfl ⟨slIndexFunc_iStateRight_1_1.ok N, trivial⟩
  have g0 : Goods Tryz.prog (slContainsFunc_iStateRight_1_1.tb N) Tryz.f19 [] := goods_nil
  exact ok_of tabOK mixed rfl hs Tryz.func19 g0 (by kernel_rfl) rfl (slContainsFunc_iStateRight_1_1.eq N) (fun _ => rfl)
def iStateRight_1_p.tb (N : Nat) : Tabs := ⟨tt, fun a b c => look3 a b c [(0, 1, 3, CE.sig 19 [.d, .fn 20 1] (slContainsFunc_iStateRight_1_1.S N))], fun a b => look2 a b []⟩
def iStateRight_1_p.S (N : Nat) : Sig := ⟨iStateRight_1_p.P, iStateRight_1_p.R, false, false, [], false, iStateRight_1_p.F N⟩
theorem iStateRight_1_p.eq (N : Nat) (x : iStateRight_1_p.P.D) : topV (iStateRight_1_p.tb N) 0 Tryz.f18 [.d, .ip] iStateRight_1_p.P iStateRight_1_p.R false false [] x = iStateRight_1_p.T N x := by kernel_rfl
theorem iStateRight_1_p.ok (N : Nat) : Sound Tryz.prog 18 [.d, .ip] (iStateRight_1_p.S N) := by
  have hs : SigsOK Tryz.prog (iStateRight_1_p.tb N) := sigs_of _ rfl ⟨slContainsFunc_iStateRight_1_1.ok N, trivial⟩
  have g0 : Goods Tryz.prog (iStateRight_1_p.tb N) Tryz.f18 [] := goods_nil
  exact ok_of tabOK mixed rfl hs Tryz.func18 g0 (by kernel_rfl) rfl (iStateRight_1_p.eq N) (fun _ => rfl)
def slIndexFunc_iStateRight_1.i0_0 : Tmpl := ⟨0, 19, [0, 1, 7, 8], [.d (some 0) T49, .fn 18 [.ip (some 1) T52], .d (some 2) (.int .i64), .d none (.int .i64)], []⟩
def slIndexFunc_iStateRight_1.o0_0 : Tmpl := ⟨0, 19, [], [], []⟩
def slIndexFunc_iStateRight_1.r0_0 : Tmpl := ⟨0, 19, [4], [.d none (.int .i64)], []⟩
def slIndexFunc_iStateRight_1.G0_0 (N : Nat) : Frag := ⟨slIndexFunc_iStateRight_1.i0_0, slIndexFunc_iStateRight_1.o0_0, slIndexFunc_iStateRight_1.r0_0, slIndexFunc_iStateRight_1.C0_0, slIndexFunc_iStateRight_1.M0_0, slIndexFunc_iStateRight_1.O0_0, slIndexFunc_iStateRight_1.Q0_0, slIndexFunc_iStateRight_1.L0_0 N⟩
def slIndexFunc_iStateRight_1.tb (N : Nat) : Tabs := ⟨tt, fun a b c => look3 a b c [(0, 4, 5, CE.sig 18 [.d, .ip] (iStateRight_1_p.S N))], fun a b => look2 a b [(0, 0, slIndexFunc_iStateRight_1.G0_0 N)]⟩
theorem slIndexFunc_iStateRight_1.eq0_0 (N : Nat) (c : slIndexFunc_iStateRight_1.C0_0.D) (m : slIndexFunc_iStateRight_1.M0_0.D) : roundV (slIndexFunc_iStateRight_1.tb N) 0 Tryz.f58 0 slIndexFunc_iStateRight_1.i0_0 slIndexFunc_iStateRight_1.o0_0 slIndexFunc_iStateRight_1.r0_0 slIndexFunc_iStateRight_1.M0_0 slIndexFunc_iStateRight_1.O0_0 slIndexFunc_iStateRight_1.Q0_0 (unpack slIndexFunc_iStateRight_1.C0_0 c) m = (slIndexFunc_iStateRight_1.B0_0 N c m).map (withC (stays (unpack slIndexFunc_iStateRight_1.C0_0 c) [0, 1, 2]) (stays (unpack slIndexFunc_iStateRight_1.C0_0 c) []) (stays (unpack slIndexFunc_iStateRight_1.C0_0 c) [])) := by kernel_rfl
def slIndexFunc_iStateRight_1.S (N : Nat) : Sig := ⟨slIndexFunc_iStateRight_1.P, slIndexFunc_iStateRight_1.R, false, false, [], false, slIndexFunc_iStateRight_1.F N⟩
theorem slIndexFunc_iStateRight_1.eq (N : Nat) (x : slIndexFunc_iStateRight_1.P.D) : topV (slIndexFunc_iStateRight_1.tb N) 0 Tryz.f58 [.d, .fn 18 1] slIndexFunc_iStateRight_1.P slIndexFunc_iStateRight_1.R false false [] x = slIndexFunc_iStateRight_1.T N x := by kernel_rfl
theorem slIndexFunc_iStateRight_1.ok (N : Nat) : Sound Tryz.prog 58 [.d, .fn 18 1] (slIndexFunc_iStateRight_1.S N) := by
  have hs : SigsOK Tryz.prog (slIndexFunc_iStateRight_1.tb N) := sigs_of _ rfl ⟨iStateRight_1_p.ok N, trivial⟩
  have g0 : Goods Tryz.prog (slIndexFunc_iStateRight_1.tb N) Tryz.f58 [] := goods_nil
  have g1 := goods_cons tabOK mixed rfl hs g0 0 (by kernel_rfl) (slIndexFunc_iStateRight_1.B0_0 N) N rfl (slIndexFunc_iStateRight_1.eq0_0 N)
  exact ok_of tabOK mixed rfl hs Tryz.func58 g1 (by kernel_rfl) rfl (slIndexFunc_iStateRight_1.eq N) (fun _ => rfl)
def slContainsFunc_iStateRight_1.tb (N : Nat) : Tabs := ⟨tt, fun a b c => look3 a b c [(0, 1, 2, CE.sig 58 [.d, .fn 18 1] (slIndexFunc_iStateRight_1.S N))], fun a b => look2 a b []⟩
def slContainsFunc_iStateRight_1.S (N : Nat) : Sig := ⟨slContainsFunc_iStateRight_1.P, slContainsFunc_iStateRight_1.R, false, false, [], false, slContainsFunc_iStateRight_1.F N⟩
theorem slContainsFunc_iStateRight_1.eq (N : Nat) (x : slContainsFunc_iStateRight_1.P.D) : topV (slContainsFunc_iStateRight_1.tb N) 0 Tryz.f17 [.d, .fn 18 1] slContainsFunc_iStateRight_1.P slContainsFunc_iStateRight_1.R false false [] x = slContainsFunc_iStateRight_1.T N x := by kernel_rfl
theorem slContainsFunc_iStateRight_1.ok (N : Nat) : Sound Tryz.prog 17 [.d, .fn 18 1] (slContainsFunc_iStateRight_1.S N) := by
  have hs : SigsOK Tryz.prog (slContainsFunc_iStateRight_1.tb N) := sigs_of _ rfl ⟨slIndexFunc_iStateRight_1.ok N, trivial⟩
  have g0 : Goods Tryz.prog (slContainsFunc_iStateRight_1.tb N) Tryz.f17 [] := goods_nil
  exact ok_of tabOK mixed rfl hs Tryz.func17 g0 (by kernel_rfl) rfl (slContainsFunc_iStateRight_1.eq N) (fun _ => rfl)
def iStateRight.tb (N : Nat) : Tabs := ⟨tt, fun a b c => look3 a b c [(0, 1, 2, CE.sig 15 [.d] (iYardRight.S N)), (0, 1, 10, CE.sig 16 [.d, .d] (iMailRight.S N)), (0, 3, 4, CE.sig 17 [.d, .fn 18 1] (slContainsFunc_iStateRight_1.S N))], fun a b => look2 a b []⟩
def iStateRight.S (N : Nat) : Sig := ⟨iStateRight.P, iStateRight.R, false, false, [], false, iStateRight.F N⟩
theorem iStateRight.eq (N : Nat) (x : iStateRight.P.D) : topV (iStateRight.tb N) 0 Tryz.f7 [.d] iStateRight.P iStateRight.R false false [] x = iStateRight.T N x := by kernel_rfl
theorem iStateRight.ok (N : Nat) : Sound Tryz.prog 7 [.d] (iStateRight.S N) := by
  have hs : SigsOK Tryz.prog (iStateRight.tb N) := sigs_of _ rfl ⟨iYardRight.ok N, iMailRight.ok N, slContainsFunc_iStateRight_1.ok N, trivial⟩
  have g0 : Goods Tryz.prog (iStateRight.tb N) Tryz.f7 [] := goods_nil
  exact ok_of tabOK mixed rfl hs Tryz.func7 g0 (by kernel_rfl) rfl (iStateRight.eq N) (fun _ => rfl)
def leqLabel.tb (N : Nat) : Tabs := ⟨tt, fun a b c => look3 a b c [], fun a b => look2 a b []⟩
def leqLabel.S (N : Nat) : Sig := ⟨leqLabel.P, leqLabel.R, false, false, [], false, leqLabel.F N⟩
theorem leqLabel.eq (N : Nat) (x : leqLabel.P.D) : topV (leqLabel.tb N) 0 Tryz.f173 [.d, .d] leqLabel.P leqLabel.R false false [] x = leqLabel.T N x := by kernel_rfl
theorem leqLabel.ok (N : Nat) : Sound Tryz.prog 173 [.d, .d] (leqLabel.S N) := by
  have hs : SigsOK Tryz.prog (leqLabel.tb N) := sigs_of _ rfl trivial
  have g0 : Goods Tryz.prog (leqLabel.tb N) Tryz.f173 [] := goods_nil
  exact ok_of tabOK mixed rfl hs Tryz.func173 g0 (by kernel_rfl) rfl (leqLabel.eq N) (fun _ => rfl)
def leqLabelS.i0_0 : Tmpl := ⟨0, 27, [0, 1, 5], [.d (some 0) T91, .d (some 1) T91, .d none (.int .i64)], []⟩
def leqLabelS.o0_0 : Tmpl := ⟨0, 27, [], [], []⟩
def leqLabelS.r0_0 : Tmpl := ⟨0, 27, [4], [.d none .bool], []⟩
def leqLabelS.G0_0 (N : Nat) : Frag := ⟨leqLabelS.i0_0, leqLabelS.o0_0, leqLabelS.r0_0, leqLabelS.C0_0, leqLabelS.M0_0, leqLabelS.O0_0, leqLabelS.Q0_0, leqLabelS.L0_0 N⟩
def leqLabelS.tb (N : Nat) : Tabs := ⟨tt, fun a b c => look3 a b c [(0, 6, 8, CE.sig 173 [.d, .d] (leqLabel.S N))], fun a b => look2 a b [(0, 0, leqLabelS.G0_0 N)]⟩
theorem leqLabelS.eq0_0 (N : Nat) (c : leqLabelS.C0_0.D) (m : leqLabelS.M0_0.D) : roundV (leqLabelS.tb N) 0 Tryz.f169 0 leqLabelS.i0_0 leqLabelS.o0_0 leqLabelS.r0_0 leqLabelS.M0_0 leqLabelS.O0_0 leqLabelS.Q0_0 (unpack leqLabelS.C0_0 c) m = (leqLabelS.B0_0 N c m).map (withC (stays (unpack leqLabelS.C0_0 c) [0, 1]) (stays (unpack leqLabelS.C0_0 c) []) (stays (unpack leqLabelS.C0_0 c) [])) := by kernel_rfl
def leqLabelS.S (N : Nat) : Sig := ⟨leqLabelS.P, leqLabelS.R, false, false, [], false, leqLabelS.F N⟩
theorem leqLabelS.eq (N : Nat) (x : leqLabelS.P.D) : topV (leqLabelS.tb N) 0 Tryz.f169 [.d, .d] leqLabelS.P leqLabelS.R false false [] x = leqLabelS.T N x := by kernel_rfl
theorem leqLabelS.ok (N : Nat) : Sound Tryz.prog 169 [.d, .d] (leqLabelS.S N) := by
  have hs : SigsOK Tryz.prog (leqLabelS.tb N) := sigs_of _ rfl ⟨leqLabel.ok N, trivial⟩
  have g0 : Goods Tryz.prog (leqLabelS.tb N) Tryz.f169 [] := goods_nil
  have g1 := goods_cons tabOK mixed rfl hs g0 0 (by kernel_rfl) (leqLabelS.B0_0 N) N rfl (leqLabelS.eq0_0 N)
  exact ok_of tabOK mixed rfl hs Tryz.func169 g1 (by kernel_rfl) rfl (leqLabelS.eq N) (fun _ => rfl)
def leqLabelSS.i0_0 : Tmpl := ⟨0, 27, [0, 1, 5], [.d (some 0) T39, .d (some 1) T39, .d none (.int .i64)], []⟩
def leqLabelSS.o0_0 : Tmpl := ⟨0, 27, [], [], []⟩
def leqLabelSS.r0_0 : Tmpl := ⟨0, 27, [4], [.d none .bool], []⟩
def leqLabelSS.G0_0 (N : Nat) : Frag := ⟨leqLabelSS.i0_0, leqLabelSS.o0_0, leqLabelSS.r0_0, leqLabelSS.C0_0, leqLabelSS.M0_0, leqLabelSS.O0_0, leqLabelSS.Q0_0, leqLabelSS.L0_0 N⟩
def leqLabelSS.tb (N : Nat) : Tabs := ⟨tt, fun a b c => look3 a b c [(0, 6, 8, CE.sig 169 [.d, .d] (leqLabelS.S N))], fun a b => look2 a b [(0, 0, leqLabelSS.G0_0 N)]⟩
theorem leqLabelSS.eq0_0 (N : Nat) (c : leqLabelSS.C0_0.D) (m : leqLabelSS.M0_0.D) : roundV (leqLabelSS.tb N) 0 Tryz.f123 0 leqLabelSS.i0_0 leqLabelSS.o0_0 leqLabelSS.r0_0 leqLabelSS.M0_0 leqLabelSS.O0_0 leqLabelSS.Q0_0 (unpack leqLabelSS.C0_0 c) m = (leqLabelSS.B0_0 N c m).map (withC (stays (unpack leqLabelSS.C0_0 c) [0, 1]) (stays (unpack leqLabelSS.C0_0 c) []) (stays (unpack leqLabelSS.C0_0 c) [])) := by kernel_rfl
def leqLabelSS.S (N : Nat) : Sig := ⟨leqLabelSS.P, leqLabelSS.R, false, false, [], false, leqLabelSS.F N⟩
theorem leqLabelSS.eq (N : Nat) (x : leqLabelSS.P.D) : topV (leqLabelSS.tb N) 0 Tryz.f123 [.d, .d] leqLabelSS.P leqLabelSS.R false false [] x = leqLabelSS.T N x := by kernel_rfl
theorem leqLabelSS.ok (N : Nat) : Sound Tryz.prog 123 [.d, .d] (leqLabelSS.S N) := by
  have hs : SigsOK Tryz.prog (leqLabelSS.tb N) := sigs_of _ rfl ⟨leqLabelS.ok N, trivial⟩
  have g0 : Goods Tryz.prog (leqLabelSS.tb N) Tryz.f123 [] := goods_nil
  have g1 := goods_cons tabOK mixed rfl hs g0 0 (by kernel_rfl) (leqLabelSS.B0_0 N) N rfl (leqLabelSS.eq0_0 N)
  exact ok_of tabOK mixed rfl hs Tryz.func123 g1 (by kernel_rfl) rfl (leqLabelSS.eq N) (fun _ => rfl)
def leqPair.tb (N : Nat) : Tabs := ⟨tt, fun a b c => look3 a b c [(0, 1, 4, CE.sig 173 [.d, .d] (leqLabel.S N)), (0, 3, 4, CE.sig 173 [.d, .d] (leqLabel.S N))], fun a b => look2 a b []⟩
def leqPair.S (N : Nat) : Sig := ⟨leqPair.P, leqPair.R, false, false, [], false, leqPair.F N⟩
theorem leqPair.eq (N : Nat) (x : leqPair.P.D) : topV (leqPair.tb N) 0 Tryz.f170 [.d, .d] leqPair.P leqPair.R false false [] x = leqPair.T N x := by kernel_rfl
theorem leqPair.ok (N : Nat) : Sound Tryz.prog 170 [.d, .d] (leqPair.S N) := by
  have hs : SigsOK Tryz.prog (leqPair.tb N) := sigs_of _ rfl ⟨leqLabel.ok N, leqLabel.ok N, trivial⟩
  have g0 : Goods Tryz.prog (leqPair.tb N) Tryz.f170 [] := goods_nil
  exact ok_of tabOK mixed rfl hs Tryz.func170 g0 (by kernel_rfl) rfl (leqPair.eq N) (fun _ => rfl)
def leqPairS.i0_0 : Tmpl := ⟨0, 27, [0, 1, 5], [.d (some 0) T40, .d (some 1) T40, .d none (.int .i64)], []⟩
def leqPairS.o0_0 : Tmpl := ⟨0, 27, [], [], []⟩
def leqPairS.r0_0 : Tmpl := ⟨0, 27, [4], [.d none .bool], []⟩
def leqPairS.G0_0 (N : Nat) : Frag := ⟨leqPairS.i0_0, leqPairS.o0_0, leqPairS.r0_0, leqPairS.C0_0, leqPairS.M0_0, leqPairS.O0_0, leqPairS.Q0_0, leqPairS.L0_0 N⟩
def leqPairS.tb (N : Nat) : Tabs := ⟨tt, fun a b c => look3 a b c [(0, 6, 8, CE.sig 170 [.d, .d] (leqPair.S N))], fun a b => look2 a b [(0, 0, leqPairS.G0_0 N)]⟩
theorem leqPairS.eq0_0 (N : Nat) (c : leqPairS.C0_0.D) (m : leqPairS.M0_0.D) : roundV (leqPairS.tb N) 0 Tryz.f124 0 leqPairS.i0_0 leqPairS.o0_0 leqPairS.r0_0 leqPairS.M0_0 leqPairS.O0_0 leqPairS.Q0_0 (unpack leqPairS.C0_0 c) m = (leqPairS.B0_0 N c m).map (withC (stays (unpack leqPairS.C0_0 c) [0, 1]) (stays (unpack leqPairS.C0_0 c) []) (stays (unpack leqPairS.C0_0 c) [])) := by kernel_rfl
def leqPairS.S (N : Nat) : Sig := ⟨leqPairS.P, leqPairS.R, false, false, [], false, leqPairS.F N⟩
theorem leqPairS.eq (N : Nat) (x : leqPairS.P.D) : topV (leqPairS.tb N) 0 Tryz.f124 [.d, .d] leqPairS.P leqPairS.R false false [] x = leqPairS.T N x := by kernel_rfl
theorem leqPairS.ok (N : Nat) : Sound Tryz.prog 124 [.d, .d] (leqPairS.S N) := by
  have hs : SigsOK Tryz.prog (leqPairS.tb N) := sigs_of _ rfl ⟨leqPair.ok N, trivial⟩
  have g0 : Goods Tryz.prog (leqPairS.tb N) Tryz.f124 [] := goods_nil
  have g1 := goods_cons tabOK mixed rfl hs g0 0 (by kernel_rfl) (leqPairS.B0_0 N) N rfl (leqPairS.eq0_0 N)
  exact ok_of tabOK mixed rfl hs Tryz.func124 g1 (by kernel_rfl) rfl (leqPairS.eq N) (fun _ => rfl)
def leqQuota.tb (N : Nat) : Tabs := ⟨tt, fun a b c => look3 a b c [(0, 1, 4, CE.sig 173 [.d, .d] (leqLabel.S N))], fun a b => look2 a b []⟩
def leqQuota.S (N : Nat) : Sig := ⟨leqQuota.P, leqQuota.R, false, false, [], false, leqQuota.F N⟩
theorem leqQuota.eq (N : Nat) (x : leqQuota.P.D) : topV (leqQuota.tb N) 0 Tryz.f171 [.d, .d] leqQuota.P leqQuota.R false false [] x = leqQuota.T N x := by kernel_rfl
theorem leqQuota.ok (N : Nat) : Sound Tryz.prog 171 [.d, .d] (leqQuota.S N) := by
  have hs : SigsOK Tryz.prog (leqQuota.tb N) := sigs_of _ rfl ⟨leqLabel.ok N, trivial⟩
  have g0 : Goods Tryz.prog (leqQuota.tb N) Tryz.f171 [] := goods_nil
  exact ok_of tabOK mixed rfl hs Tryz.func171 g0 (by kernel_rfl) rfl (leqQuota.eq N) (fun _ => rfl)
def leqQuotaS.i0_0 : Tmpl := ⟨0, 27, [0, 1, 5], [.d (some 0) T41, .d (some 1) T41, .d none (.int .i64)], []⟩
def leqQuotaS.o0_0 : Tmpl := ⟨0, 27, [], [], []⟩
def leqQuotaS.r0_0 : Tmpl := ⟨0, 27, [4], [.d none .bool], []⟩
def leqQuotaS.G0_0 (N : Nat) : Frag := ⟨leqQuotaS.i0_0, leqQuotaS.o0_0, leqQuotaS.r0_0, leqQuotaS.C0_0, leqQuotaS.M0_0, leqQuotaS.O0_0, leqQuotaS.Q0_0, leqQuotaS.L0_0 N⟩
def leqQuotaS.tb (N : Nat) : Tabs := ⟨tt, fun a b c => look3 a b c [(0, 6, 8, CE.sig 171 [.d, .d] (leqQuota.S N))], fun a b => look2 a b [(0, 0, leqQuotaS.G0_0 N)]⟩
theorem leqQuotaS.eq0_0 (N : Nat) (c : leqQuotaS.C0_0.D) (m : leqQuotaS.M0_0.D) : roundV (leqQuotaS.tb N) 0 Tryz.f125 0 leqQuotaS.i0_0 leqQuotaS.o0_0 leqQuotaS.r0_0 leqQuotaS.M0_0 leqQuotaS.O0_0 leqQuotaS.Q0_0 (unpack leqQuotaS.C0_0 c) m = (leqQuotaS.B0_0 N c m).map (withC (stays (unpack leqQuotaS.C0_0 c) [0, 1]) (stays (unpack leqQuotaS.C0_0 c) []) (stays (unpack leqQuotaS.C0_0 c) [])) := by kernel_rfl
def leqQuotaS.S (N : Nat) : Sig := ⟨leqQuotaS.P, leqQuotaS.R, false, false, [], false, leqQuotaS.F N⟩
theorem leqQuotaS.eq (N : Nat) (x : leqQuotaS.P.D) : topV (leqQuotaS.tb N) 0 Tryz.f125 [.d, .d] leqQuotaS.P leqQuotaS.R false false [] x = leqQuotaS.T N x := by kernel_rfl
theorem leqQuotaS.ok (N : Nat) : Sound Tryz.prog 125 [.d, .d] (leqQuotaS.S N) := by
  have hs : SigsOK Tryz.prog (leqQuotaS.tb N) := sigs_of _ rfl ⟨leqQuota.ok N, trivial⟩
  have g0 : Goods Tryz.prog (leqQuotaS.tb N) Tryz.f125 [] := goods_nil
  have g1 := goods_cons tabOK mixed rfl hs g0 0 (by kernel_rfl) (leqQuotaS.B0_0 N) N rfl (leqQuotaS.eq0_0 N)
  exact ok_of tabOK mixed rfl hs Tryz.func125 g1 (by kernel_rfl) rfl (leqQuotaS.eq N) (fun _ => rfl)
def leqConfig.tb (N : Nat) : Tabs := ⟨tt, fun a b c => look3 a b c [(0, 1, 4, CE.sig 123 [.d, .d] (leqLabelSS.S N)), (0, 3, 4, CE.sig 124 [.d, .d] (leqPairS.S N)), (0, 5, 4, CE.sig 125 [.d, .d] (leqQuotaS.S N))], fun a b => look2 a b []⟩
def leqConfig.S (N : Nat) : Sig := ⟨leqConfig.P, leqConfig.R, false, false, [], false, leqConfig.F N⟩
theorem leqConfig.eq (N : Nat) (x : leqConfig.P.D) : topV (leqConfig.tb N) 0 Tryz.f60 [.d, .d] leqConfig.P leqConfig.R false false [] x = leqConfig.T N x := by kernel_rfl
theorem leqConfig.ok (N : Nat) : Sound Tryz.prog 60 [.d, .d] (leqConfig.S N) := by
  have hs : SigsOK Tryz.prog (leqConfig.tb N) := sigs_of _ rfl ⟨leqLabelSS.ok N, leqPairS.ok N, leqQuotaS.ok N, trivial⟩
  have g0 : Goods Tryz.prog (leqConfig.tb N) Tryz.f60 [] := goods_nil
  exact ok_of tabOK mixed rfl hs Tryz.func60 g0 (by kernel_rfl) rfl (leqConfig.eq N) (fun _ => rfl)
def leqSpan.tb (N : Nat) : Tabs := ⟨tt, fun a b c => look3 a b c [], fun a b => look2 a b []⟩
def leqSpan.S (N : Nat) : Sig := ⟨leqSpan.P, leqSpan.R, false, false, [], false, leqSpan.F N⟩
theorem leqSpan.eq (N : Nat) (x : leqSpan.P.D) : topV (leqSpan.tb N) 0 Tryz.f193 [.d, .d] leqSpan.P leqSpan.R false false [] x = leqSpan.T N x := by kernel_rfl
theorem leqSpan.ok (N : Nat) : Sound Tryz.prog 193 [.d, .d] (leqSpan.S N) := by
  have hs : SigsOK Tryz.prog (leqSpan.tb N) := sigs_of _ rfl trivial
  have g0 : Goods Tryz.prog (leqSpan.tb N) Tryz.f193 [] := goods_nil
  exact ok_of tabOK mixed rfl hs Tryz.func193 g0 (by kernel_rfl) rfl (leqSpan.eq N) (fun _ => rfl)
def leqSpanS.i0_0 : Tmpl := ⟨0, 27, [0, 1, 5], [.d (some 0) T142, .d (some 1) T142, .d none (.int .i64)], []⟩
def leqSpanS.o0_0 : Tmpl := ⟨0, 27, [], [], []⟩
def leqSpanS.r0_0 : Tmpl := ⟨0, 27, [4], [.d none .bool], []⟩
def leqSpanS.G0_0 (N : Nat) : Frag := ⟨leqSpanS.i0_0, leqSpanS.o0_0, leqSpanS.r0_0, leqSpanS.C0_0, leqSpanS.M0_0, leqSpanS.O0_0, leqSpanS.Q0_0, leqSpanS.L0_0 N⟩
def leqSpanS.tb (N : Nat) : Tabs := ⟨tt, fun a b c => look3 a b c [(0, 6, 8, CE.sig 193 [.d, .d] (leqSpan.S N))], fun a b => look2 a b [(0, 0, leqSpanS.G0_0 N)]⟩
theorem leqSpanS.eq0_0 (N : Nat) (c : leqSpanS.C0_0.D) (m : leqSpanS.M0_0.D) : roundV (leqSpanS.tb N) 0 Tryz.f172 0 leqSpanS.i0_0 leqSpanS.o0_0 leqSpanS.r0_0 leqSpanS.M0_0 leqSpanS.O0_0 leqSpanS.Q0_0 (unpack leqSpanS.C0_0 c) m = (leqSpanS.B0_0 N c m).map (withC (stays (unpack leqSpanS.C0_0 c) [0, 1]) (stays (unpack leqSpanS.C0_0 c) []) (stays (unpack leqSpanS.C0_0 c) [])) := by kernel_rfl
def leqSpanS.S (N : Nat) : Sig := ⟨leqSpanS.P, leqSpanS.R, false, false, [], false, leqSpanS.F N⟩
theorem leqSpanS.eq (N : Nat) (x : leqSpanS.P.D) : topV (leqSpanS.tb N) 0 Tryz.f172 [.d, .d] leqSpanS.P leqSpanS.R false false [] x = leqSpanS.T N x := by kernel_rfl
theorem leqSpanS.ok (N : Nat) : Sound Tryz.prog 172 [.d, .d] (leqSpanS.S N) := by
  have hs : SigsOK Tryz.prog (leqSpanS.tb N) := sigs_of _ rfl ⟨leqSpan.ok N, trivial⟩
  have g0 : Goods Tryz.prog (leqSpanS.tb N) Tryz.f172 [] := goods_nil
  have g1 := goods_cons tabOK mixed rfl hs g0 0 (by kernel_rfl) (leqSpanS.B0_0 N) N rfl (leqSpanS.eq0_0 N)
  exact ok_of tabOK mixed rfl hs Tryz.func172 g1 (by kernel_rfl) rfl (leqSpanS.eq N) (fun _ => rfl)
def leqNode.tb (N : Nat) : Tabs := ⟨tt, fun a b c => look3 a b c [(0, 3, 4, CE.sig 172 [.d, .d] (leqSpanS.S N))], fun a b => look2 a b []⟩
def leqNode.S (N : Nat) : Sig := ⟨leqNode.P, leqNode.R, false, false, [], false, leqNode.F N⟩
theorem leqNode.eq (N : Nat) (x : leqNode.P.D) : topV (leqNode.tb N) 0 Tryz.f126 [.d, .d] leqNode.P leqNode.R false false [] x = leqNode.T N x := by kernel_rfl
theorem leqNode.ok (N : Nat) : Sound Tryz.prog 126 [.d, .d] (leqNode.S N) := by
  have hs : SigsOK Tryz.prog (leqNode.tb N) := sigs_of _ rfl ⟨leqSpanS.ok N, trivial⟩
  have g0 : Goods Tryz.prog (leqNode.tb N) Tryz.f126 [] := goods_nil
  exact ok_of tabOK mixed rfl hs Tryz.func126 g0 (by kernel_rfl) rfl (leqNode.eq N) (fun _ => rfl)
def leqNodeS.i0_0 : Tmpl := ⟨0, 27, [0, 1, 5], [.d (some 0) T44, .d (some 1) T44, .d none (.int .i64)], []⟩
def leqNodeS.o0_0 : Tmpl := ⟨0, 27, [], [], []⟩
def leqNodeS.r0_0 : Tmpl := ⟨0, 27, [4], [.d none .bool], []⟩
def leqNodeS.G0_0 (N : Nat) : Frag := ⟨leqNodeS.i0_0, leqNodeS.o0_0, leqNodeS.r0_0, leqNodeS.C0_0, leqNodeS.M0_0, leqNodeS.O0_0, leqNodeS.Q0_0, leqNodeS.L0_0 N⟩
def leqNodeS.tb (N : Nat) : Tabs := ⟨tt, fun a b c => look3 a b c [(0, 6, 8, CE.sig 126 [.d, .d] (leqNode.S N))], fun a b => look2 a b [(0, 0, leqNodeS.G0_0 N)]⟩
theorem leqNodeS.eq0_0 (N : Nat) (c : leqNodeS.C0_0.D) (m : leqNodeS.M0_0.D) : roundV (leqNodeS.tb N) 0 Tryz.f61 0 leqNodeS.i0_0 leqNodeS.o0_0 leqNodeS.r0_0 leqNodeS.M0_0 leqNodeS.O0_0 leqNodeS.Q0_0 (unpack leqNodeS.C0_0 c) m = (leqNodeS.B0_0 N c m).map (withC (stays (unpack leqNodeS.C0_0 c) [0, 1]) (stays (unpack leqNodeS.C0_0 c) []) (stays (unpack leqNodeS.C0_0 c) [])) := by kernel_rfl
def leqNodeS.S (N : Nat) : Sig := ⟨leqNodeS.P, leqNodeS.R, false, false, [], false, leqNodeS.F N⟩
theorem leqNodeS.eq (N : Nat) (x : leqNodeS.P.D) : topV (leqNodeS.tb N) 0 Tryz.f61 [.d, .d] leqNodeS.P leqNodeS.R false false [] x = leqNodeS.T N x := by kernel_rfl
theorem leqNodeS.ok (N : Nat) : Sound Tryz.prog 61 [.d, .d] (leqNodeS.S N) := by
  have hs : SigsOK Tryz.prog (leqNodeS.tb N) := sigs_of _ rfl ⟨leqNode.ok N, trivial⟩
  have g0 : Goods Tryz.prog (leqNodeS.tb N) Tryz.f61 [] := goods_nil
  have g1 := goods_cons tabOK mixed rfl hs g0 0 (by kernel_rfl) (leqNodeS.B0_0 N) N rfl (leqNodeS.eq0_0 N)
  exact ok_of tabOK mixed rfl hs Tryz.func61 g1 (by kernel_rfl) rfl (leqNodeS.eq N) (fun _ => rfl)
def leqInt64S.i0_0 : Tmpl := ⟨0, 26, [0, 1, 5], [.d (some 0) T61, .d (some 1) T61, .d none (.int .i64)], []⟩
def leqInt64S.o0_0 : Tmpl := ⟨0, 26, [], [], []⟩
def leqInt64S.r0_0 : Tmpl := ⟨0, 26, [4], [.d none .bool], []⟩
def leqInt64S.G0_0 (N : Nat) : Frag := ⟨leqInt64S.i0_0, leqInt64S.o0_0, leqInt64S.r0_0, leqInt64S.C0_0, leqInt64S.M0_0, leqInt64S.O0_0, leqInt64S.Q0_0, leqInt64S.L0_0 N⟩
def leqInt64S.tb (N : Nat) : Tabs := ⟨tt, fun a b c => look3 a b c [], fun a b => look2 a b [(0, 0, leqInt64S.G0_0 N)]⟩
theorem leqInt64S.eq0_0 (N : Nat) (c : leqInt64S.C0_0.D) (m : leqInt64S.M0_0.D) : roundV (leqInt64S.tb N) 0 Tryz.f174 0 leqInt64S.i0_0 leqInt64S.o0_0 leqInt64S.r0_0 leqInt64S.M0_0 leqInt64S.O0_0 leqInt64S.Q0_0 (unpack leqInt64S.C0_0 c) m = (leqInt64S.B0_0 N c m).map (withC (stays (unpack leqInt64S.C0_0 c) [0, 1]) (stays (unpack leqInt64S.C0_0 c) []) (stays (unpack leqInt64S.C0_0 c) [])) := by kernel_rfl
def leqInt64S.S (N : Nat) : Sig := ⟨leqInt64S.P, leqInt64S.R, false, false, [], false, leqInt64S.F N⟩
theorem leqInt64S.eq (N : Nat) (x : leqInt64S.P.D) : topV (leqInt64S.tb N) 0 Tryz.f174 [.d, .d] leqInt64S.P leqInt64S.R false false [] x = leqInt64S.T N x := by kernel_rfl
theorem leqInt64S.ok (N : Nat) : Sound Tryz.prog 174 [.d, .d] (leqInt64S.S N) := by
  have hs : SigsOK Tryz.prog (leqInt64S.tb N) := sigs_of _ rfl trivial
  have g0 : Goods Tryz.prog (leqInt64S.tb N) Tryz.f174 [] := goods_nil
  have g1 := goods_cons tabOK mixed rfl hs g0 0 (by kernel_rfl) (leqInt64S.B0_0 N) N rfl (leqInt64S.eq0_0 N)
  exact ok_of tabOK mixed rfl hs Tryz.func174 g1 (by kernel_rfl) rfl (leqInt64S.eq N) (fun _ => rfl)
def leqTask.tb (N : Nat) : Tabs := ⟨tt, fun a b c => look3 a b c [(0, 1, 4, CE.sig 173 [.d, .d] (leqLabel.S N)), (0, 13, 4, CE.sig 173 [.d, .d] (leqLabel.S N)), (0, 23, 4, CE.sig 174 [.d, .d] (leqInt64S.S N))], fun a b => look2 a b []⟩
def leqTask.S (N : Nat) : Sig := ⟨leqTask.P, leqTask.R, false, false, [], false, leqTask.F N⟩
theorem leqTask.eq (N : Nat) (x : leqTask.P.D) : topV (leqTask.tb N) 0 Tryz.f127 [.d, .d] leqTask.P leqTask.R false false [] x = leqTask.T N x := by kernel_rfl
theorem leqTask.ok (N : Nat) : Sound Tryz.prog 127 [.d, .d] (leqTask.S N) := by
  have hs : SigsOK Tryz.prog (leqTask.tb N) := sigs_of _ rfl ⟨leqLabel.ok N, leqLabel.ok N, leqInt64S.ok N, trivial⟩
  have g0 : Goods Tryz.prog (leqTask.tb N) Tryz.f127 [] := goods_nil
  exact ok_of tabOK mixed rfl hs Tryz.func127 g0 (by kernel_rfl) rfl (leqTask.eq N) (fun _ => rfl)
def leqTaskS.i0_0 : Tmpl := ⟨0, 27, [0, 1, 5], [.d (some 0) T45, .d (some 1) T45, .d none (.int .i64)], []⟩
def leqTaskS.o0_0 : Tmpl := ⟨0, 27, [], [], []⟩
def leqTaskS.r0_0 : Tmpl := ⟨0, 27, [4], [.d none .bool], []⟩
def leqTaskS.G0_0 (N : Nat) : Frag := ⟨leqTaskS.i0_0, leqTaskS.o0_0, leqTaskS.r0_0, leqTaskS.C0_0, leqTaskS.M0_0, leqTaskS.O0_0, leqTaskS.Q0_0, leqTaskS.L0_0 N⟩
def leqTaskS.tb (N : Nat) : Tabs := ⟨tt, fun a b c => look3 a b c [(0, 6, 8, CE.sig 127 [.d, .d] (leqTask.S N))], fun a b => look2 a b [(0, 0, leqTaskS.G0_0 N)]⟩
theorem leqTaskS.eq0_0 (N : Nat) (c : leqTaskS.C0_0.D) (m : leqTaskS.M0_0.D) : roundV (leqTaskS.tb N) 0 Tryz.f62 0 leqTaskS.i0_0 leqTaskS.o0_0 leqTaskS.r0_0 leqTaskS.M0_0 leqTaskS.O0_0 leqTaskS.Q0_0 (unpack leqTaskS.C0_0 c) m = (leqTaskS.B0_0 N c m).map (withC (stays (unpack leqTaskS.C0_0 c) [0, 1]) (stays (unpack leqTaskS.C0_0 c) []) (stays (unpack leqTaskS.C0_0 c) [])) := by kernel_rfl
def leqTaskS.S (N : Nat) : Sig := ⟨leqTaskS.P, leqTaskS.R, false, false, [], false, leqTaskS.F N⟩
theorem leqTaskS.eq (N : Nat) (x : leqTaskS.P.D) : topV (leqTaskS.tb N) 0 Tryz.f62 [.d, .d] leqTaskS.P leqTaskS.R false false [] x = leqTaskS.T N x := by kernel_rfl
theorem leqTaskS.ok (N : Nat) : Sound Tryz.prog 62 [.d, .d] (leqTaskS.S N) := by
  have hs : SigsOK Tryz.prog (leqTaskS.tb N) := sigs_of _ rfl ⟨leqTask.ok N, trivial⟩
  have g0 : Goods Tryz.prog (leqTaskS.tb N) Tryz.f62 [] := goods_nil
  have g1 := goods_cons tabOK mixed rfl hs g0 0 (by kernel_rfl) (leqTaskS.B0_0 N) N rfl (leqTaskS.eq0_0 N)
  exact ok_of tabOK mixed rfl hs Tryz.func62 g1 (by kernel_rfl) rfl (leqTaskS.eq N) (fun _ => rfl)
def leqUse.tb (N : Nat) : Tabs := ⟨tt, fun a b c => look3 a b c [(0, 1, 4, CE.sig 173 [.d, .d] (leqLabel.S N))], fun a b => look2 a b []⟩
def leqUse.S (N : Nat) : Sig := ⟨leqUse.P, leqUse.R, false, false, [], false, leqUse.F N⟩
theorem leqUse.eq (N : Nat) (x : leqUse.P.D) : topV (leqUse.tb N) 0 Tryz.f128 [.d, .d] leqUse.P leqUse.R false false [] x = leqUse.T N x := by kernel_rfl
theorem leqUse.ok (N : Nat) : Sound Tryz.prog 128 [.d, .d] (leqUse.S N) := by
  have hs : SigsOK Tryz.prog (leqUse.tb N) := sigs_of _ rfl ⟨leqLabel.ok N, trivial⟩
  have g0 : Goods Tryz.prog (leqUse.tb N) Tryz.f128 [] := goods_nil
  exact ok_of tabOK mixed rfl hs Tryz.func128 g0 (by kernel_rfl) rfl (leqUse.eq N) (fun _ => rfl)
def leqUseS.i0_0 : Tmpl := ⟨0, 27, [0, 1, 5], [.d (some 0) T46, .d (some 1) T46, .d none (.int .i64)], []⟩
def leqUseS.o0_0 : Tmpl := ⟨0, 27, [], [], []⟩
def leqUseS.r0_0 : Tmpl := ⟨0, 27, [4], [.d none .bool], []⟩
def leqUseS.G0_0 (N : Nat) : Frag := ⟨leqUseS.i0_0, leqUseS.o0_0, leqUseS.r0_0, leqUseS.C0_0, leqUseS.M0_0, leqUseS.O0_0, leqUseS.Q0_0, leqUseS.L0_0 N⟩
def leqUseS.tb (N : Nat) : Tabs := ⟨tt, fun a b c => look3 a b c [(0, 6, 8, CE.sig 128 [.d, .d] (leqUse.S N))], fun a b => look2 a b [(0, 0, leqUseS.G0_0 N)]⟩
theorem leqUseS.eq0_0 (N : Nat) (c : leqUseS.C0_0.D) (m : leqUseS.M0_0.D) : roundV (leqUseS.tb N) 0 Tryz.f63 0 leqUseS.i0_0 leqUseS.o0_0 leqUseS.r0_0 leqUseS.M0_0 leqUseS.O0_0 leqUseS.Q0_0 (unpack leqUseS.C0_0 c) m = (leqUseS.B0_0 N c m).map (withC (stays (unpack leqUseS.C0_0 c) [0, 1]) (stays (unpack leqUseS.C0_0 c) []) (stays (unpack leqUseS.C0_0 c) [])) := by kernel_rfl
def leqUseS.S (N : Nat) : Sig := ⟨leqUseS.P, leqUseS.R, false, false, [], false, leqUseS.F N⟩
theorem leqUseS.eq (N : Nat) (x : leqUseS.P.D) : topV (leqUseS.tb N) 0 Tryz.f63 [.d, .d] leqUseS.P leqUseS.R false false [] x = leqUseS.T N x := by kernel_rfl
theorem leqUseS.ok (N : Nat) : Sound Tryz.prog 63 [.d, .d] (leqUseS.S N) := by
  have hs : SigsOK Tryz.prog (leqUseS.tb N) := sigs_of _ rfl ⟨leqUse.ok N, trivial⟩
  have g0 : Goods Tryz.prog (leqUseS.tb N) Tryz.f63 [] := goods_nil
  have g1 := goods_cons tabOK mixed rfl hs g0 0 (by kernel_rfl) (leqUseS.B0_0 N) N rfl (leqUseS.eq0_0 N)
  exact ok_of tabOK mixed rfl hs Tryz.func63 g1 (by kernel_rfl) rfl (leqUseS.eq N) (fun _ => rfl)
def leqYard.tb (N : Nat) : Tabs := ⟨tt, fun a b c => look3 a b c [(0, 1, 4, CE.sig 60 [.d, .d] (leqConfig.S N)), (0, 3, 4, CE.sig 61 [.d, .d] (leqNodeS.S N)), (0, 5, 4, CE.sig 62 [.d, .d] (leqTaskS.S N)), (0, 7, 4, CE.sig 63 [.d, .d] (leqUseS.S N))], fun a b => look2 a b []⟩
def leqYard.S (N : Nat) : Sig := ⟨leqYard.P, leqYard.R, false, false, [], false, leqYard.F N⟩
theorem leqYard.eq (N : Nat) (x : leqYard.P.D) : topV (leqYard.tb N) 0 Tryz.f21 [.d, .d] leqYard.P leqYard.R false false [] x = leqYard.T N x := by kernel_rfl
theorem leqYard.ok (N : Nat) : Sound Tryz.prog 21 [.d, .d] (leqYard.S N) := by
  have hs : SigsOK Tryz.prog (leqYard.tb N) := sigs_of _ rfl ⟨leqConfig.ok N, leqNodeS.ok N, leqTaskS.ok N, leqUseS.ok N, trivial⟩
  have g0 : Goods Tryz.prog (leqYard.tb N) Tryz.f21 [] := goods_nil
  exact ok_of tabOK mixed rfl hs Tryz.func21 g0 (by kernel_rfl) rfl (leqYard.eq N) (fun _ => rfl)
def leqNote.tb (N : Nat) : Tabs := ⟨tt, fun a b c => look3 a b c [], fun a b => look2 a b []⟩
def leqNote.S (N : Nat) : Sig := ⟨leqNote.P, leqNote.R, false, false, [], false, leqNote.F N⟩
theorem leqNote.eq (N : Nat) (x : leqNote.P.D) : topV (leqNote.tb N) 0 Tryz.f194 [.d, .d] leqNote.P leqNote.R false false [] x = leqNote.T N x := by kernel_rfl
theorem leqNote.ok (N : Nat) : Sound Tryz.prog 194 [.d, .d] (leqNote.S N) := by
  have hs : SigsOK Tryz.prog (leqNote.tb N) := sigs_of _ rfl trivial
  have g0 : Goods Tryz.prog (leqNote.tb N) Tryz.f194 [] := goods_nil
  exact ok_of tabOK mixed rfl hs Tryz.func194 g0 (by kernel_rfl) rfl (leqNote.eq N) (fun _ => rfl)
def leqNoteS.i0_0 : Tmpl := ⟨0, 27, [0, 1, 5], [.d (some 0) T62, .d (some 1) T62, .d none (.int .i64)], []⟩
def leqNoteS.o0_0 : Tmpl := ⟨0, 27, [], [], []⟩
def leqNoteS.r0_0 : Tmpl := ⟨0, 27, [4], [.d none .bool], []⟩
def leqNoteS.G0_0 (N : Nat) : Frag := ⟨leqNoteS.i0_0, leqNoteS.o0_0, leqNoteS.r0_0, leqNoteS.C0_0, leqNoteS.M0_0, leqNoteS.O0_0, leqNoteS.Q0_0, leqNoteS.L0_0 N⟩
def leqNoteS.tb (N : Nat) : Tabs := ⟨tt, fun a b c => look3 a b c [(0, 6, 8, CE.sig 194 [.d, .d] (leqNote.S N))], fun a b => look2 a b [(0, 0, leqNoteS.G0_0 N)]⟩
theorem leqNoteS.eq0_0 (N : Nat) (c : leqNoteS.C0_0.D) (m : leqNoteS.M0_0.D) : roundV (leqNoteS.tb N) 0 Tryz.f175 0 leqNoteS.i0_0 leqNoteS.o0_0 leqNoteS.r0_0 leqNoteS.M0_0 leqNoteS.O0_0 leqNoteS.Q0_0 (unpack leqNoteS.C0_0 c) m = (leqNoteS.B0_0 N c m).map (withC (stays (unpack leqNoteS.C0_0 c) [0, 1]) (stays (unpack leqNoteS.C0_0 c) []) (stays (unpack leqNoteS.C0_0 c) [])) := by kernel_rfl
def leqNoteS.S (N : Nat) : Sig := ⟨leqNoteS.P, leqNoteS.R, false, false, [], false, leqNoteS.F N⟩
theorem leqNoteS.eq (N : Nat) (x : leqNoteS.P.D) : topV (leqNoteS.tb N) 0 Tryz.f175 [.d, .d] leqNoteS.P leqNoteS.R false false [] x = leqNoteS.T N x := by kernel_rfl
theorem leqNoteS.ok (N : Nat) : Sound Tryz.prog 175 [.d, .d] (leqNoteS.S N) := by
  have hs : SigsOK Tryz.prog (leqNoteS.tb N) := sigs_of _ rfl ⟨leqNote.ok N, trivial⟩
  have g0 : Goods Tryz.prog (leqNoteS.tb N) Tryz.f175 [] := goods_nil
  have g1 := goods_cons tabOK mixed rfl hs g0 0 (by kernel_rfl) (leqNoteS.B0_0 N) N rfl (leqNoteS.eq0_0 N)
  exact ok_of tabOK mixed rfl hs Tryz.func175 g1 (by kernel_rfl) rfl (leqNoteS.eq N) (fun _ => rfl)
def leqBox.tb (N : Nat) : Tabs := ⟨tt, fun a b c => look3 a b c [(0, 1, 4, CE.sig 174 [.d, .d] (leqInt64S.S N)), (0, 3, 4, CE.sig 174 [.d, .d] (leqInt64S.S N)), (0, 5, 4, CE.sig 175 [.d, .d] (leqNoteS.S N))], fun a b => look2 a b []⟩
def leqBox.S (N : Nat) : Sig := ⟨leqBox.P, leqBox.R, false, false, [], false, leqBox.F N⟩
theorem leqBox.eq (N : Nat) (x : leqBox.P.D) : topV (leqBox.tb N) 0 Tryz.f129 [.d, .d] leqBox.P leqBox.R false false [] x = leqBox.T N x := by kernel_rfl
theorem leqBox.ok (N : Nat) : Sound Tryz.prog 129 [.d, .d] (leqBox.S N) := by
  have hs : SigsOK Tryz.prog (leqBox.tb N) := sigs_of _ rfl ⟨leqInt64S.ok N, leqInt64S.ok N, leqNoteS.ok N, trivial⟩
  have g0 : Goods Tryz.prog (leqBox.tb N) Tryz.f129 [] := goods_nil
  exact ok_of tabOK mixed rfl hs Tryz.func129 g0 (by kernel_rfl) rfl (leqBox.eq N) (fun _ => rfl)
def leqBoxS.i0_0 : Tmpl := ⟨0, 27, [0, 1, 5], [.d (some 0) T49, .d (some 1) T49, .d none (.int .i64)], []⟩
def leqBoxS.o0_0 : Tmpl := ⟨0, 27, [], [], []⟩
def leqBoxS.r0_0 : Tmpl := ⟨0, 27, [4], [.d none .bool], []⟩
def leqBoxS.G0_0 (N : Nat) : Frag := ⟨leqBoxS.i0_0, leqBoxS.o0_0, leqBoxS.r0_0, leqBoxS.C0_0, leqBoxS.M0_0, leqBoxS.O0_0, leqBoxS.Q0_0, leqBoxS.L0_0 N⟩
def leqBoxS.tb (N : Nat) : Tabs := ⟨tt, fun a b c => look3 a b c [(0, 6, 8, CE.sig 129 [.d, .d] (leqBox.S N))], fun a b => look2 a b [(0, 0, leqBoxS.G0_0 N)]⟩
theorem leqBoxS.eq0_0 (N : Nat) (c : leqBoxS.C0_0.D) (m : leqBoxS.M0_0.D) : roundV (leqBoxS.tb N) 0 Tryz.f64 0 leqBoxS.i0_0 leqBoxS.o0_0 leqBoxS.r0_0 leqBoxS.M0_0 leqBoxS.O0_0 leqBoxS.Q0_0 (unpack leqBoxS.C0_0 c) m = (leqBoxS.B0_0 N c m).map (withC (stays (unpack leqBoxS.C0_0 c) [0, 1]) (stays (unpack leqBoxS.C0_0 c) []) (stays (unpack leqBoxS.C0_0 c) [])) := by kernel_rfl
def leqBoxS.S (N : Nat) : Sig := ⟨leqBoxS.P, leqBoxS.R, false, false, [], false, leqBoxS.F N⟩
theorem leqBoxS.eq (N : Nat) (x : leqBoxS.P.D) : topV (leqBoxS.tb N) 0 Tryz.f64 [.d, .d] leqBoxS.P leqBoxS.R false false [] x = leqBoxS.T N x := by kernel_rfl
theorem leqBoxS.ok (N : Nat) : Sound Tryz.prog 64 [.d, .d] (leqBoxS.S N) := by
  have hs : SigsOK Tryz.prog (leqBoxS.tb N) := sigs_of _ rfl ⟨leqBox.ok N, trivial⟩
  have g0 : Goods Tryz.prog (leqBoxS.tb N) Tryz.f64 [] := goods_nil
  have g1 := goods_cons tabOK mixed rfl hs g0 0 (by kernel_rfl) (leqBoxS.B0_0 N) N rfl (leqBoxS.eq0_0 N)
  exact ok_of tabOK mixed rfl hs Tryz.func64 g1 (by kernel_rfl) rfl (leqBoxS.eq N) (fun _ => rfl)
def leqMail.tb (N : Nat) : Tabs := ⟨tt, fun a b c => look3 a b c [(0, 1, 4, CE.sig 64 [.d, .d] (leqBoxS.S N))], fun a b => look2 a b []⟩
def leqMail.S (N : Nat) : Sig := ⟨leqMail.P, leqMail.R, false, false, [], false, leqMail.F N⟩
theorem leqMail.eq (N : Nat) (x : leqMail.P.D) : topV (leqMail.tb N) 0 Tryz.f22 [.d, .d] leqMail.P leqMail.R false false [] x = leqMail.T N x := by kernel_rfl
theorem leqMail.ok (N : Nat) : Sound Tryz.prog 22 [.d, .d] (leqMail.S N) := by
  have hs : SigsOK Tryz.prog (leqMail.tb N) := sigs_of _ rfl ⟨leqBoxS.ok N, trivial⟩
  have g0 : Goods Tryz.prog (leqMail.tb N) Tryz.f22 [] := goods_nil
  exact ok_of tabOK mixed rfl hs Tryz.func22 g0 (by kernel_rfl) rfl (leqMail.eq N) (fun _ => rfl)
def leqState.tb (N : Nat) : Tabs := ⟨tt, fun a b c => look3 a b c [(0, 1, 4, CE.sig 21 [.d, .d] (leqYard.S N)), (0, 3, 4, CE.sig 22 [.d, .d] (leqMail.S N))], fun a b => look2 a b []⟩
def leqState.S (N : Nat) : Sig := ⟨leqState.P, leqState.R, false, false, [], false, leqState.F N⟩
theorem leqState.eq (N : Nat) (x : leqState.P.D) : topV (leqState.tb N) 0 Tryz.f8 [.d, .d] leqState.P leqState.R false false [] x = leqState.T N x := by kernel_rfl
theorem leqState.ok (N : Nat) : Sound Tryz.prog 8 [.d, .d] (leqState.S N) := by
  have hs : SigsOK Tryz.prog (leqState.tb N) := sigs_of _ rfl ⟨leqYard.ok N, leqMail.ok N, trivial⟩
  have g0 : Goods Tryz.prog (leqState.tb N) Tryz.f8 [] := goods_nil
  exact ok_of tabOK mixed rfl hs Tryz.func8 g0 (by kernel_rfl) rfl (leqState.eq N) (fun _ => rfl)
def lFnExactStateRight.tb (N : Nat) : Tabs := ⟨tt, fun a b c => look3 a b c [(0, 2, 2, CE.sig 4 [.d, .d] (lszState.S N)), (0, 5, 1, CE.sig 6 [.d] (ltoState.S N)), (0, 5, 2, CE.sig 5 [.d] (sStateRight.S N)), (0, 6, 1, CE.sig 6 [.d] (ltoState.S N)), (0, 7, 1, CE.sig 7 [.d] (iStateRight.S N)), (0, 10, 2, CE.sig 6 [.d] (ltoState.S N)), (0, 10, 3, CE.sig 8 [.d, .d] (leqState.S N))], fun a b => look2 a b []⟩
def lFnExactStateRight.S (N : Nat) : Sig := ⟨lFnExactStateRight.P, lFnExactStateRight.R, false, false, [], false, lFnExactStateRight.F N⟩
theorem lFnExactStateRight.eq (N : Nat) (x : lFnExactStateRight.P.D) : topV (lFnExactStateRight.tb N) 0 Tryz.f3 [.d] lFnExactStateRight.P lFnExactStateRight.R false false [] x = lFnExactStateRight.T N x := by kernel_rfl
theorem lFnExactStateRight.ok (N : Nat) : Sound Tryz.prog 3 [.d] (lFnExactStateRight.S N) := by
  have hs : SigsOK Tryz.prog (lFnExactStateRight.tb N) := sigs_of _ rfl ⟨lszState.ok N, ltoState.ok N, sStateRight.ok N, ltoState.ok N, iStateRight.ok N, ltoState.ok N, leqState.ok N, trivial⟩
  have g0 : Goods Tryz.prog (lFnExactStateRight.tb N) Tryz.f3 [] := goods_nil
  exact ok_of tabOK mixed rfl hs Tryz.func3 g0 (by kernel_rfl) rfl (lFnExactStateRight.eq N) (fun _ => rfl)
end Go.Proofs.YthjhfnmbiacceaaGreat
